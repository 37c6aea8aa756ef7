import Derived.Test.YtkfhbnfoiicioaaGreatDoorX06
import Derived.Deep.Cut
import Derived.Deep.DeepCutAuto
set_option linter.unusedSimpArgs false
set_option linter.unusedVariables false
/- signs of what is written (plain) -/
namespace Go.Proofs.YtkfhbnfoiicioaaGreatDoor
open Ieee

theorem word_sign (neg : Bool) {g : Nat} (h : g ≤ 9218868437227405312) : fnan (Ieee.double.word neg g) = false ∧ (g = 0 → fk (Ieee.double.word neg g) = 0) ∧ (0 < g → (neg = false → 0 < fk (Ieee.double.word neg g)) ∧ (neg = true → fk (Ieee.double.word neg g) < 0)) := by
  have e1 : Ieee.double.signWeight = 9223372036854775808 := by decide
  have e2 : Ieee.double.binade = 4503599627370496 := by decide
  have e3 : Ieee.double.infRung = 9218868437227405312 := by decide
  have e4 : Ieee.double.leastPlace = -1074 := by decide
  have hN := bigN_pos
  have hw : Ieee.double.word neg g / 9223372036854775808 % 2 = (if neg then 1 else 0) ∧ Ieee.double.word neg g % 9223372036854775808 = g := by
    unfold Ieee.Format.word
    rw [e1]
    cases neg
    · simp only [Bool.false_eq_true, if_false]; omega
    · simp only [if_true]; omega
  have hs : (Ieee.double.word neg g / 9223372036854775808 % 2 == 1) = neg := by rw [hw.1]; cases neg <;> rfl
  have hr : Ieee.double.read (Ieee.double.word neg g) = (if g < 4503599627370496 then .number neg g (-1074) else if g < 9218868437227405312 then .number neg (4503599627370496 + g % 4503599627370496) (-1074 + ((g / 4503599627370496 - 1 : Nat) : Int)) else .infinity neg) := by
    unfold Ieee.Format.read
    simp only [e1, e2, e3, e4, hs, hw.2]
    by_cases h1 : g < 4503599627370496
    · rw [if_pos h1, if_pos h1]
    · rw [if_neg h1, if_neg h1]
      by_cases h2 : g < 9218868437227405312
      · rw [if_pos h2, if_pos h2]
      · rw [if_neg h2, if_neg h2, if_pos (by omega)]
  have hpos : ∀ (m : Nat) (e : Int), 0 < m → (neg = false → 0 < dkey (.number neg m e)) ∧ (neg = true → dkey (.number neg m e) < 0) := by
    intro m e hm
    have hk : 0 < m * 2 ^ (e + 1074).toNat := Nat.mul_pos hm (Nat.two_pow_pos _)
    have e5 : dkey (.number neg m e) = if neg then -((m * 2 ^ (e + 1074).toNat : Nat) : Int) else ((m * 2 ^ (e + 1074).toNat : Nat) : Int) := by
      show signed neg m _ = _
      unfold signed
      rw [Nat.shiftLeft_eq]
    rw [e5]
    generalize m * 2 ^ (e + 1074).toNat = k at hk ⊢
    constructor
    · rintro rfl; simp; omega
    · rintro rfl; simp; omega
  unfold fnan fk
  rw [hr]
  by_cases h1 : g < 4503599627370496
  · rw [if_pos h1]
    refine ⟨rfl, ?_, fun h0 => hpos g _ h0⟩
    rintro rfl
    show signed neg 0 _ = 0
    unfold signed
    cases neg <;> simp
  · rw [if_neg h1]
    by_cases h2 : g < 9218868437227405312
    · rw [if_pos h2]
      exact ⟨rfl, fun h0 => by omega, fun h0 => hpos _ _ (by omega)⟩
    · rw [if_neg h2]
      refine ⟨rfl, fun h0 => by omega, fun h0 => ?_⟩
      show (neg = false → 0 < (if neg then -(bigN : Int) else (bigN : Int))) ∧ (neg = true → (if neg then -(bigN : Int) else (bigN : Int)) < 0)
      generalize (bigN : Int) = N at hN ⊢
      constructor
      · rintro rfl; simpa using hN
      · rintro rfl; simp; omega
/-- what is written of a number is no NaN -/
theorem nearest_word (neg : Bool) (m : Nat) (p : Int) : ∃ g, Ieee.double.nearest neg m p = Ieee.double.word neg g ∧ g ≤ 9218868437227405312 ∧ (m = 0 → g = 0) ∧ (m ≠ 0 → -1074 ≤ p → 0 < g) := by
  have e3 : Ieee.double.infRung = 9218868437227405312 := by decide
  have e4 : Ieee.double.leastPlace = -1074 := by decide
  have e5 : Ieee.double.fractionBits = 52 := by decide
  have e2 : Ieee.double.binade = 4503599627370496 := by decide
  unfold Ieee.Format.nearest
  by_cases h0 : m = 0
  · rw [if_pos h0]
    exact ⟨0, rfl, by omega, fun _ => rfl, fun h => absurd h0 h⟩
  · rw [if_neg h0]
    simp only [e2, e3, e4, e5]
    refine ⟨_, rfl, Nat.min_le_right _ _, fun h => absurd h h0, fun _ hp => ?_⟩
    rw [Nat.lt_min]
    refine ⟨?_, by decide⟩
    obtain ⟨last, hl⟩ : ∃ last, last = max (p + (m.log2 : Int) - ((52 : Nat) : Int)) (-1074) := ⟨_, rfl⟩
    rw [← hl]
    have hcut : 0 < Toward.even.cut neg (m <<< (p - last).toNat) (last - p).toNat := by
      unfold Toward.cut
      simp only
      refine Nat.lt_of_lt_of_le ?_ (Nat.le_add_right _ _)
      by_cases hle : last ≤ p
      · rw [show (last - p).toNat = 0 by omega, Nat.zero_min, Nat.shiftLeft_eq, Nat.shiftLeft_eq, Nat.pow_zero, Nat.mul_one, Nat.div_one]
        exact Nat.mul_pos (by omega) (Nat.two_pow_pos _)
      · rw [show (p - last).toNat = 0 by omega, Nat.shiftLeft_eq, Nat.pow_zero, Nat.mul_one, Nat.shiftLeft_eq, Nat.one_mul]
        have h1 : 2 ^ m.log2 ≤ m := Nat.log2_self_le h0
        refine Nat.div_pos (Nat.le_trans (Nat.pow_le_pow_right (by decide) ?_) h1) (Nat.two_pow_pos _)
        omega
    omega
/-- a sign -/
def sgF (u : Nat) : Int := if fgt u 0 = true then 1 else if flt u 0 = true then -1 else 0
theorem sgF_of {u : Nat} (h : fnan u = false) : sgF u = if 0 < fk u then 1 else if fk u < 0 then -1 else 0 := by
  have p3 := fk_zero
  unfold sgF
  have i5 := flt_iff u 0
  have i6 := fgt_iff u 0
  rw [p3.1, p3.2] at i5 i6
  by_cases h1 : 0 < fk u
  · rw [if_pos (i6.2 ⟨h, rfl, h1⟩), if_pos h1]
  · rw [if_neg (fun h2 => h1 (i6.1 h2).2.2), if_neg h1]
    by_cases h2 : fk u < 0
    · rw [if_pos (i5.2 ⟨h, rfl, h2⟩), if_pos h2]
    · rw [if_neg (fun h3 => h2 (i5.1 h3).2.2), if_neg h2]
theorem sgF_write (neg : Bool) (m : Nat) (p : Int) (hp : -1074 ≤ p) : fnan (Ieee.double.nearest neg m p) = false ∧ sgF (Ieee.double.nearest neg m p) = if m = 0 then 0 else if neg then -1 else 1 := by
  obtain ⟨g, hg, hle, h0, h1⟩ := nearest_word neg m p
  rw [hg]
  have h := word_sign neg hle
  refine ⟨h.1, ?_⟩
  rw [sgF_of h.1]
  by_cases hm : m = 0
  · rw [if_pos hm, h.2.1 (h0 hm)]; rfl
  · rw [if_neg hm]
    have h2 := h.2.2 (h1 hm hp)
    generalize fk (Ieee.double.word neg g) = x at h2 ⊢
    cases neg
    · have := h2.1 rfl
      rw [if_pos this]; rfl
    · have := h2.2 rfl
      rw [if_neg (by omega), if_pos this]; rfl

end Go.Proofs.YtkfhbnfoiicioaaGreatDoor

/- sums, quotients, fused products of floats: what they are (plain) -/
namespace Go.Proofs.YtkfhbnfoiicioaaGreatDoor
open Ieee

theorem nearest_num (neg : Bool) (m : Nat) (p : Int) : fnan (Ieee.double.nearest neg m p) = false := by
  obtain ⟨g, hg, hle, _⟩ := nearest_word neg m p
  rw [hg]
  exact (word_sign neg hle).1
/-- the place of a number's last digit -/
def plc (u : Nat) : Int := max ((u / 4503599627370496 % 2048 : Nat) : Int) 1 - 1075
theorem fin_parts {u : Nat} (h : finB u = true) : ∃ s m, Ieee.double.read u = .number s m (plc u) ∧ -1074 ≤ plc u := by
  have e1 : Ieee.double.signWeight = 9223372036854775808 := by decide
  have e2 : Ieee.double.binade = 4503599627370496 := by decide
  have e3 : Ieee.double.infRung = 9218868437227405312 := by decide
  have e4 : Ieee.double.leastPlace = -1074 := by decide
  have h : u % 9223372036854775808 < 9218868437227405312 := of_decide_eq_true h
  unfold Ieee.Format.read plc
  simp only [e1, e2, e3, e4]
  by_cases h1 : u % 9223372036854775808 < 4503599627370496
  · rw [if_pos h1]
    have h2 : (u / 4503599627370496 % 2048 : Nat) = 0 := by omega
    rw [h2]
    exact ⟨u / 9223372036854775808 % 2 == 1, u % 9223372036854775808, rfl, by decide⟩
  · rw [if_neg h1, if_pos h]
    have h2 : (-1074 : Int) + ((u % 9223372036854775808 / 4503599627370496 - 1 : Nat) : Int) = max ((u / 4503599627370496 % 2048 : Nat) : Int) 1 - 1075 := by omega
    rw [h2]
    exact ⟨u / 9223372036854775808 % 2 == 1, _, rfl, by omega⟩
theorem fk_parts {u : Nat} {s : Bool} {m : Nat} {e : Int} (h : Ieee.double.read u = .number s m e) : fk u = signed s m (e + 1074).toNat := by unfold fk; rw [h]; rfl
theorem sub_fin {a b : Nat} (ha : finB a = true) (hb : finB b = true) : ∃ s, floatBits .sub .f64 a b = some s ∧ fnan s = false := by
  obtain ⟨s, m, h1, _⟩ := fin_parts ha
  obtain ⟨t, n, h2, _⟩ := fin_parts hb
  show ∃ r, ((Ieee.double.read a).sum (Ieee.double.read b).opposite).map Ieee.double.write = some r ∧ _
  rw [h1, h2]
  exact ⟨_, rfl, nearest_num _ _ _⟩
theorem sgn_scale (x : Int) (k : Nat) : (0 < x * (2 ^ k : Nat) ↔ 0 < x) ∧ (x * (2 ^ k : Nat) < 0 ↔ x < 0) := by
  have hp : (0 : Int) < (2 ^ k : Nat) := by exact_mod_cast Nat.two_pow_pos k
  generalize ((2 ^ k : Nat) : Int) = P at hp ⊢
  constructor
  · constructor
    · intro h
      exact Int.pos_of_mul_pos_left h hp
    · intro h; exact Int.mul_pos h hp
  · constructor
    · intro h
      have h2 : 0 < (-x) * P := by rw [Int.neg_mul]; omega
      have := Int.pos_of_mul_pos_left h2 hp
      omega
    · intro h
      have := Int.mul_pos (show 0 < -x by omega) hp
      rw [Int.neg_mul] at this
      omega

/-- the sign of what a fused product tells -/
theorem fma_sign {x y z : Nat} (hx : finB x = true) (hy : finB y = true) (hz : finB z = true) (hp : -1074 ≤ plc x + plc y) : ∃ r, FloatKind.f64.format.fma x y z = some r ∧ fnan r = false ∧ sgF r = (if 0 < fk x * fk y + fk z * (2 ^ 1074 : Nat) then 1 else if fk x * fk y + fk z * (2 ^ 1074 : Nat) < 0 then -1 else 0) := by
  obtain ⟨s, m, h1, p1⟩ := fin_parts hx
  obtain ⟨t, n, h2, p2⟩ := fin_parts hy
  obtain ⟨v, l, h3, p3⟩ := fin_parts hz
  obtain ⟨i, hi⟩ : ∃ i, i = plc x := ⟨_, rfl⟩
  obtain ⟨j, hj⟩ : ∃ j, j = plc y := ⟨_, rfl⟩
  obtain ⟨k, hk⟩ : ∃ k, k = plc z := ⟨_, rfl⟩
  rw [← hi] at h1 p1 hp
  rw [← hj] at h2 p2 hp
  rw [← hk] at h3 p3
  obtain ⟨K, hK⟩ : ∃ K : Nat, K = 1074 := ⟨_, rfl⟩
  have hfma : FloatKind.f64.format.fma x y z = (((Ieee.double.read x).product (Ieee.double.read y)).bind (·.sum (Ieee.double.read z))).map Ieee.double.write := rfl
  rw [hfma, fk_parts h1, fk_parts h2, fk_parts h3, h1, h2, h3, ← hK]
  obtain ⟨base, hb⟩ : ∃ base, base = min (i + j) k := ⟨_, rfl⟩
  have hbase : -1074 ≤ base := by omega
  obtain ⟨T, hT⟩ : ∃ T, T = signed (s ^^ t) (m * n) (i + j - base).toNat + signed v l (k - base).toNat := ⟨_, rfl⟩
  refine ⟨Ieee.double.nearest (if T = 0 then (s ^^ t) && v else T < 0) T.natAbs base, by rw [hT, hb]; rfl, nearest_num _ _ _, ?_⟩
  rw [(sgF_write _ _ _ hbase).2]
  -- the total, in units of both
  have hS : signed s m (i + 1074).toNat * signed t n (j + 1074).toNat + signed v l (k + 1074).toNat * (2 ^ K : Nat) = T * (2 ^ (base + 2148).toNat : Nat) := by
    have a1 : signed s m (i + 1074).toNat * signed t n (j + 1074).toNat = signed (s ^^ t) (m * n) (i + j - base).toNat * (2 ^ (base + 2148).toNat : Nat) := by
      rw [← signed_add, signed_mul, signed_mul, signed_mul]
      have e : (i + j - base).toNat + (base + 2148).toNat = (i + 1074).toNat + (j + 1074).toNat := by omega
      rw [e, Nat.pow_add, Int.natCast_mul, Int.natCast_mul]
      generalize ((2 ^ (i + 1074).toNat : Nat) : Int) = A
      generalize ((2 ^ (j + 1074).toNat : Nat) : Int) = B
      have hc : (if (s ^^ t) = true then (-1 : Int) else 1) = (if s = true then -1 else 1) * (if t = true then -1 else 1) := by cases s <;> cases t <;> rfl
      rw [hc]
      generalize (if s = true then (-1 : Int) else 1) = c1
      generalize (if t = true then (-1 : Int) else 1) = c2
      ac_rfl
    have a2 : signed v l (k + 1074).toNat * (2 ^ K : Nat) = signed v l (k - base).toNat * (2 ^ (base + 2148).toNat : Nat) := by
      rw [← signed_add, ← signed_add]
      congr 1
      omega
    rw [a1, a2, hT, Int.add_mul]
  rw [hS]
  have hs := sgn_scale T (base + 2148).toNat
  generalize T * ((2 ^ (base + 2148).toNat : Nat) : Int) = X at hs ⊢
  by_cases h0 : T = 0
  · subst h0
    have : ¬ 0 < X ∧ ¬ X < 0 := by omega
    rw [if_neg this.1, if_neg this.2]
    rfl
  · rw [if_neg (by omega : ¬ T.natAbs = 0), if_neg h0]
    by_cases h1 : 0 < T
    · rw [if_pos (hs.1.2 h1), if_neg (by simp; omega)]
    · have : T < 0 := by omega
      rw [if_neg (fun h => h1 (hs.1.1 h)), if_pos (hs.2.2 this), if_pos (by simpa using this)]

end Go.Proofs.YtkfhbnfoiicioaaGreatDoor

/- the order of floats (plain) -/
namespace Go.Proofs.YtkfhbnfoiicioaaGreatDoor
open Ieee

/-- where a float stands: NaN behind all -/
def keyO (u : Nat) : Int := if fnan u = true then 36893488147419103232 else if 9223372036854775808 ≤ u then -(2 * (u - 9223372036854775808 : Nat) : Int) else 2 * (u : Int) + 1
def ordI (a b : Nat) : Int := if keyO a < keyO b then -1 else if keyO b < keyO a then 1 else 0
def lesF (a b : Nat) : Nat := if ordI b a < 0 then b else a
def greF (a b : Nat) : Nat := if 0 < ordI b a then b else a
theorem lesF_or (a b : Nat) : lesF a b = a ∨ lesF a b = b := by unfold lesF; split <;> simp
theorem greF_or (a b : Nat) : greF a b = a ∨ greF a b = b := by unfold greF; split <;> simp
theorem lesF_key (a b : Nat) : lesF a b = if keyO b < keyO a then b else a := by
  unfold lesF ordI
  by_cases h : keyO b < keyO a
  · rw [if_pos h, if_pos (by decide), if_pos h]
  · rw [if_neg h, if_neg h]
    by_cases h2 : keyO a < keyO b
    · rw [if_pos h2, if_neg (by decide)]
    · rw [if_neg h2, if_neg (by decide)]
theorem greF_key (a b : Nat) : greF a b = if keyO a < keyO b then b else a := by
  unfold greF ordI
  by_cases h1 : keyO b < keyO a
  · rw [if_pos h1, if_neg (by decide), if_neg (by omega)]
  · rw [if_neg h1]
    by_cases h2 : keyO a < keyO b
    · rw [if_pos h2, if_pos (by decide), if_pos h2]
    · rw [if_neg h2, if_neg (by decide), if_neg h2]
/-- four in a row, or two and two -/
theorem lesF_four (a b c d : Nat) : lesF (lesF (lesF a b) c) d = lesF (lesF a b) (lesF c d) := by
  obtain ⟨m, hm⟩ : ∃ m, m = lesF a b := ⟨_, rfl⟩
  rw [← hm]
  rw [lesF_key m c, lesF_key c d]
  split
  · rename_i h
    rw [lesF_key c d]
    split
    · rename_i h2
      rw [lesF_key, if_pos (by omega)]
    · rw [lesF_key, if_pos h]
  · rename_i h
    rw [lesF_key m d]
    split
    · rename_i h2
      rw [if_pos (by omega), lesF_key, if_pos h2]
    · rename_i h2
      split
      · rw [lesF_key, if_neg h2]
      · rw [lesF_key, if_neg h]
theorem greF_four (a b c d : Nat) : greF (greF (greF a b) c) d = greF (greF a b) (greF c d) := by
  obtain ⟨m, hm⟩ : ∃ m, m = greF a b := ⟨_, rfl⟩
  rw [← hm]
  rw [greF_key m c, greF_key c d]
  split
  · rename_i h
    rw [greF_key c d]
    split
    · rename_i h2
      rw [greF_key, if_pos (by omega)]
    · rw [greF_key, if_pos h]
  · rename_i h
    rw [greF_key m d]
    split
    · rename_i h2
      rw [if_pos (by omega), greF_key, if_pos h2]
    · rename_i h2
      split
      · rw [greF_key, if_neg h2]
      · rw [greF_key, if_neg h]

end Go.Proofs.YtkfhbnfoiicioaaGreatDoor

/- sums rounded to either side (plain) -/
namespace Go.Proofs.YtkfhbnfoiicioaaGreatDoor
open Ieee

def negF (u : Nat) : Nat := if u < 9223372036854775808 then u + 9223372036854775808 else u - 9223372036854775808
def infB (u : Nat) : Bool := decide (u % 9223372036854775808 = 9218868437227405312)
def sgbB (u : Nat) : Bool := decide (9223372036854775808 ≤ u)
def absF (u : Nat) : Nat := u % 9223372036854775808
def maxF (u : Nat) : Nat := if sgbB u = true then 18442240474082181119 else 9218868437227405311
/-- the float next to x -/
def stepF (u : Nat) (up : Bool) : Nat := if feq u 0 = true then (if up = true then 1 else 9223372036854775809) else if up = fgt u 0 then u + 1 else u - 1
/-- the answer, down (1) or up (2) -/
def setF (near : Nat) (off m : Int) : Nat :=
  if infB near = true then (if (fgt near 0 = true ∧ m = 1) ∨ (flt near 0 = true ∧ m = 2) then maxF near else near)
  else if (off < 0 ∧ m = 1) ∨ (0 < off ∧ m = 2) then stepF near (decide (0 < off)) else near
def noneF (m : Int) : Nat := if m = 1 then 9223372036854775808 else 0
def subF (a b : Nat) : Nat := (floatBits .sub .f64 a b).getD 0
/-- what is lost of a sum -/
def lostF (a b s : Nat) : Nat := if flt (absF a) (absF b) = true then subF a (subF s b) else subF b (subF s a)
def addF (a b : Nat) (m : Int) (s : Nat) : Nat :=
  if (finB a && finB b) = false then s
  else if feq s 0 = true then (if feq a 0 = false ∨ sgbB a ≠ sgbB b then noneF m else s)
  else setF s (if infB s = true then 0 else sgF (lostF a b s)) m
theorem zero_word {u : Nat} (hu : u < 18446744073709551616) (h : feq u 0 = true) : u = 0 ∨ u = 9223372036854775808 := by
  have h2 := (feq_iff u 0).1 h
  rw [fk_zero.2] at h2
  by_cases hf : finB u = true
  · obtain ⟨s, m, hr, hp⟩ := fin_parts hf
    have h3 := fk_parts hr
    rw [h2.2.2] at h3
    have hm : m = 0 := by
      rcases Nat.eq_zero_or_pos m with h0 | h0
      · exact h0
      · exfalso
        have hk : 0 < m * 2 ^ (plc u + 1074).toNat := Nat.mul_pos h0 (Nat.two_pow_pos _)
        unfold signed at h3
        rw [Nat.shiftLeft_eq] at h3
        generalize m * 2 ^ (plc u + 1074).toNat = k at hk h3
        cases s <;> simp at h3 <;> omega
    subst hm
    have e1 : Ieee.double.signWeight = 9223372036854775808 := by decide
    have e2 : Ieee.double.binade = 4503599627370496 := by decide
    have e3 : Ieee.double.infRung = 9218868437227405312 := by decide
    unfold Ieee.Format.read at hr
    simp only [e1, e2, e3] at hr
    by_cases h4 : u % 9223372036854775808 < 4503599627370496
    · rw [if_pos h4] at hr
      injection hr with _ h5 _
      omega
    · rw [if_neg h4] at hr
      by_cases h6 : u % 9223372036854775808 < 9218868437227405312
      · rw [if_pos h6] at hr
        injection hr with _ h5 _
        omega
      · rw [if_neg h6] at hr
        split at hr <;> cases hr
  · have hf2 : finB u = false := by simpa using hf
    have hN := bigN_pos
    rcases fk_inf hf2 with h3 | h3
    · rw [h2.1] at h3; cases h3
    · rw [h2.2.2] at h3
      generalize (bigN : Int) = N at hN h3
      omega
theorem feq_zero {u : Nat} (hu : u < 18446744073709551616) : feq u 0 = decide (u = 0 ∨ u = 9223372036854775808) := by
  by_cases h : feq u 0 = true
  · rw [h, decide_eq_true (zero_word hu h)]
  · have h2 : feq u 0 = false := by simpa using h
    rw [h2, decide_eq_false]
    rintro (rfl | rfl)
    · exact h (by decide +kernel)
    · exact h (by decide +kernel)
theorem num_le {u : Nat} (hn : fnan u = false) : u % 9223372036854775808 ≤ 9218868437227405312 := by
  have e1 : Ieee.double.signWeight = 9223372036854775808 := by decide
  by_cases hle : u % 9223372036854775808 ≤ 9218868437227405312
  · exact hle
  · exfalso
    have e2 : Ieee.double.binade = 4503599627370496 := by decide
    have e3 : Ieee.double.infRung = 9218868437227405312 := by decide
    have hr : ∃ s m, Ieee.double.read u = .nan s m := by
      unfold Ieee.Format.read
      simp only [e1, e2, e3]
      rw [if_neg (by omega), if_neg (by omega), if_neg (by omega)]
      exact ⟨_, _, rfl⟩
    obtain ⟨s, m, hr⟩ := hr
    unfold fnan at hn
    rw [hr] at hn
    cases hn
/-- which sign a number has -/
theorem sgn_word {u : Nat} (hu : u < 18446744073709551616) (hn : fnan u = false) : (fgt u 0 = true ↔ (u < 9223372036854775808 ∧ u ≠ 0)) ∧ (flt u 0 = true ↔ 9223372036854775808 < u) := by
  have e1 : Ieee.double.signWeight = 9223372036854775808 := by decide
  have h1 : Ieee.double.word (decide (9223372036854775808 ≤ u)) (u % 9223372036854775808) = u := by
    unfold Ieee.Format.word
    rw [e1]
    by_cases h : 9223372036854775808 ≤ u
    · simp [h]; omega
    · simp [h]; omega
  have hle := num_le hn
  have h2 := word_sign (decide (9223372036854775808 ≤ u)) hle
  rw [h1] at h2
  have i5 := flt_iff u 0
  have i6 := fgt_iff u 0
  rw [fk_zero.1, fk_zero.2] at i5 i6
  rw [i5, i6]
  obtain ⟨_, h3, h4⟩ := h2
  generalize fk u = x at *
  by_cases h0 : u % 9223372036854775808 = 0
  · have := h3 h0
    subst this
    simp
    omega
  · have h5 := h4 (by omega)
    by_cases hs : 9223372036854775808 ≤ u
    · have := h5.2 (decide_eq_true hs)
      simp [hn]
      omega
    · have := h5.1 (decide_eq_false hs)
      simp [hn]
      omega

def upF (x : Nat) : Nat := if feq x 0 = true then 1 else if fgt x 0 = true then x + 1 else x - 1
def downF (x : Nat) : Nat := negF (upF (negF x))
def sideF (s : Nat) (e m : Int) : Nat := if e < 0 ∧ m = 1 then downF s else if 0 < e ∧ m = 2 then upF s else s
def greatF (s : Nat) (m : Int) : Nat := if (fgt s 0 = true ∧ m = 1) ∨ (flt s 0 = true ∧ m = 2) then maxF s else s
theorem step_up {u : Nat} : stepF u true = upF u := by
  unfold stepF upF
  cases feq u 0 <;> cases fgt u 0 <;> rfl
theorem negF_num {u : Nat} (hu : u < 18446744073709551616) (hn : fnan u = false) : fnan (negF u) = false ∧ negF u < 18446744073709551616 := by
  have e1 : Ieee.double.signWeight = 9223372036854775808 := by decide
  have e2 : Ieee.double.binade = 4503599627370496 := by decide
  have e3 : Ieee.double.infRung = 9218868437227405312 := by decide
  have hl : negF u < 18446744073709551616 := by unfold negF; split <;> omega
  have hm : negF u % 9223372036854775808 = u % 9223372036854775808 := by unfold negF; split <;> omega
  refine ⟨?_, hl⟩
  unfold fnan at hn ⊢
  unfold Ieee.Format.read at hn ⊢
  simp only [e1, e2, e3, hm] at hn ⊢
  split
  · rfl
  · rename_i h1
    rw [if_neg h1] at hn
    split
    · rfl
    · rename_i h2
      rw [if_neg h2] at hn
      split
      · rfl
      · rename_i h3
        rw [if_neg h3] at hn
        cases hn
theorem step_down {u : Nat} (hu : u < 18446744073709551616) (hn : fnan u = false) : stepF u false = downF u := by
  have h1 := negF_num hu hn
  have s1 := sgn_word hu hn
  have s2 := sgn_word h1.2 h1.1
  unfold downF upF stepF
  rw [feq_zero hu, feq_zero h1.2]
  by_cases h0 : u = 0 ∨ u = 9223372036854775808
  · have h2 : negF u = 0 ∨ negF u = 9223372036854775808 := by unfold negF; split <;> omega
    rw [decide_eq_true h0, decide_eq_true h2]
    simp only [if_true, Bool.false_eq_true, if_false]
    unfold negF
    rw [if_pos (by decide)]
  · have h2 : ¬ (negF u = 0 ∨ negF u = 9223372036854775808) := by unfold negF; split <;> omega
    rw [decide_eq_false h0, decide_eq_false h2]
    simp only [Bool.false_eq_true, if_false]
    by_cases hs : u < 9223372036854775808
    · have a1 : fgt u 0 = true := s1.1.2 ⟨hs, by omega⟩
      have a2 : ¬ fgt (negF u) 0 = true := fun h => by have := s2.1.1 h; unfold negF at this; rw [if_pos hs] at this; omega
      rw [a1, if_neg a2, if_neg (by decide)]
      unfold negF
      rw [if_pos hs, if_neg (by omega)]
      omega
    · have a1 : fgt u 0 = false := by
        cases h : fgt u 0
        · rfl
        · have := s1.1.1 h; omega
      have a2 : fgt (negF u) 0 = true := s2.1.2 (by unfold negF; rw [if_neg hs]; omega)
      rw [a1, if_pos a2, if_pos rfl]
      have hle : u - 9223372036854775808 + 1 < 9223372036854775808 := by
        have := num_le hn
        omega
      unfold negF
      rw [if_neg hs, if_pos hle]
      omega
/-- both sides' last step -/
theorem set_side {s : Nat} {e m : Int} (hs : s < 18446744073709551616) (hn : fnan s = false) (hi : infB s = false) : setF s e m = sideF s e m := by
  unfold setF sideF
  rw [hi]
  simp only [Bool.false_eq_true, if_false]
  by_cases h1 : e < 0 ∧ m = 1
  · rw [if_pos (.inl h1), if_pos h1, decide_eq_false (by omega), step_down hs hn]
  · rw [if_neg h1]
    by_cases h2 : 0 < e ∧ m = 2
    · rw [if_pos (.inr h2), if_pos h2, decide_eq_true h2.1, step_up]
    · rw [if_neg h2, if_neg (by omega)]
theorem set_great {s : Nat} {e m : Int} (hi : infB s = true) : setF s e m = greatF s m := by
  unfold setF greatF
  rw [hi, if_pos rfl]

theorem add_sign {a b : Nat} (ha : finB a = true) (hb : finB b = true) : ∃ s, floatBits .add .f64 a b = some s ∧ fnan s = false ∧ sgF s = (if 0 < fk a + fk b then 1 else if fk a + fk b < 0 then -1 else 0) := by
  obtain ⟨s, m, h1, p1⟩ := fin_parts ha
  obtain ⟨t, n, h2, p2⟩ := fin_parts hb
  obtain ⟨i, hi⟩ : ∃ i, i = plc a := ⟨_, rfl⟩
  obtain ⟨j, hj⟩ : ∃ j, j = plc b := ⟨_, rfl⟩
  rw [← hi] at h1 p1
  rw [← hj] at h2 p2
  have hadd : floatBits .add .f64 a b = ((Ieee.double.read a).sum (Ieee.double.read b)).map Ieee.double.write := rfl
  rw [hadd, fk_parts h1, fk_parts h2, h1, h2]
  obtain ⟨base, hbs⟩ : ∃ base, base = min i j := ⟨_, rfl⟩
  have hbase : -1074 ≤ base := by omega
  obtain ⟨T, hT⟩ : ∃ T, T = signed s m (i - base).toNat + signed t n (j - base).toNat := ⟨_, rfl⟩
  refine ⟨Ieee.double.nearest (if T = 0 then s && t else T < 0) T.natAbs base, by rw [hT, hbs]; rfl, nearest_num _ _ _, ?_⟩
  rw [(sgF_write _ _ _ hbase).2]
  have hS : signed s m (i + 1074).toNat + signed t n (j + 1074).toNat = T * (2 ^ (base + 1074).toNat : Nat) := by
    have a1 : signed s m (i + 1074).toNat = signed s m (i - base).toNat * (2 ^ (base + 1074).toNat : Nat) := by
      rw [← signed_add]; congr 1; omega
    have a2 : signed t n (j + 1074).toNat = signed t n (j - base).toNat * (2 ^ (base + 1074).toNat : Nat) := by
      rw [← signed_add]; congr 1; omega
    rw [a1, a2, hT, Int.add_mul]
  rw [hS]
  have hs := sgn_scale T (base + 1074).toNat
  generalize T * ((2 ^ (base + 1074).toNat : Nat) : Int) = X at hs ⊢
  by_cases h0 : T = 0
  · subst h0
    have : ¬ 0 < X ∧ ¬ X < 0 := by omega
    rw [if_neg this.1, if_neg this.2]
    rfl
  · rw [if_neg (by omega : ¬ T.natAbs = 0), if_neg h0]
    by_cases h1 : 0 < T
    · rw [if_pos (hs.1.2 h1), if_neg (by simp; omega)]
    · have : T < 0 := by omega
      rw [if_neg (fun h => h1 (hs.1.1 h)), if_pos (hs.2.2 this), if_pos (by simpa using this)]
/-- the document's sum -/
def noughtF (zero : Bool) (neg : Bool) (b : Nat) (m : Int) : Nat := if zero = true ∧ feq b 0 = true ∧ neg = sgbB b then b else noneF m
def raddF (a b : Nat) (m : Int) (s : Nat) : Nat :=
  if (finB a && finB b) = false then s
  else if finB s = false then greatF s m
  else if feq s 0 = true then noughtF (feq a 0) (sgbB a) b m
  else sideF s (sgF (lostF a b s)) m
theorem fin_inf {s : Nat} (hn : fnan s = false) : infB s = !finB s := by
  have := num_le hn
  unfold infB finB
  by_cases h : s % 9223372036854775808 = 9218868437227405312
  · rw [decide_eq_true h, decide_eq_false (by omega)]; rfl
  · rw [decide_eq_false h, decide_eq_true (by omega)]; rfl
theorem zero_fin {s : Nat} (h : feq s 0 = true) : finB s = true := by
  have h2 := (feq_iff s 0).1 h
  rw [fk_zero.2] at h2
  cases hf : finB s
  · have hN := bigN_pos
    rcases fk_inf hf with h3 | h3
    · rw [h2.1] at h3; cases h3
    · rw [h2.2.2] at h3
      generalize (bigN : Int) = N at hN h3
      omega
  · rfl
theorem add_eq {a b s : Nat} {m : Int} (ha : a < 18446744073709551616) (hb : b < 18446744073709551616) (hs : s < 18446744073709551616) (hr : floatBits .add .f64 a b = some s) (hn : fnan s = false) : addF a b m s = raddF a b m s := by
  unfold addF raddF
  by_cases hf : (finB a && finB b) = false
  · rw [if_pos hf, if_pos hf]
  · rw [if_neg hf, if_neg hf]
    have hf2 : finB a = true ∧ finB b = true := by
      cases h1 : finB a <;> cases h2 : finB b <;> simp [h1, h2] at hf <;> exact ⟨rfl, rfl⟩
    obtain ⟨s', hr', _, hsg⟩ := add_sign hf2.1 hf2.2
    obtain rfl : s = s' := by rw [hr] at hr'; injection hr'
    have hfi := fin_inf hn
    by_cases h0 : feq s 0 = true
    · have hfs := zero_fin h0
      rw [if_pos h0, if_neg (show ¬ finB s = false by rw [hfs]; decide), if_pos h0]
      unfold noughtF
      by_cases ha0 : feq a 0 = true
      · -- then b is a nought, too
        have z1 := (feq_iff a 0).1 ha0
        have z2 := (feq_iff s 0).1 h0
        rw [fk_zero.2] at z1 z2
        have hsg0 : sgF s = 0 := by
          rw [sgF_of hn, z2.2.2]; rfl
        rw [hsg0, z1.2.2, Int.zero_add] at hsg
        have hfb : fk b = 0 := by
          generalize fk b = y at hsg
          by_cases h1 : 0 < y
          · rw [if_pos h1] at hsg; cases hsg
          · by_cases h2 : y < 0
            · rw [if_neg h1, if_pos h2] at hsg; cases hsg
            · omega
        have hb0 : feq b 0 = true := (feq_iff b 0).2 ⟨(fk_fin hf2.2).1, fk_zero.1, by rw [hfb, fk_zero.2]⟩
        rw [ha0, hb0]
        by_cases hsn : sgbB a = sgbB b
        · rw [if_neg (by simp [hsn]), if_pos ⟨rfl, rfl, hsn⟩]
          have w1 := zero_word ha ha0
          have w2 := zero_word hb hb0
          have r0 : floatBits .add .f64 0 0 = some 0 := by decide +kernel
          have r1 : floatBits .add .f64 9223372036854775808 9223372036854775808 = some 9223372036854775808 := by decide +kernel
          rcases w1 with rfl | rfl <;> rcases w2 with rfl | rfl
          · rw [r0] at hr; injection hr with hr; exact hr.symm
          · exact absurd hsn (by decide)
          · exact absurd hsn (by decide)
          · rw [r1] at hr; injection hr with hr; exact hr.symm
        · rw [if_pos (.inr hsn), if_neg (fun h => hsn h.2.2)]
      · have ha1 : feq a 0 = false := by simpa using ha0
        rw [if_pos (.inl ha1), if_neg (fun h => ha0 h.1)]
    · rw [if_neg h0]
      cases hfs : finB s
      · rw [hfs] at hfi
        rw [if_pos (show infB s = true from hfi), if_pos (rfl : false = false), set_great hfi]
      · rw [hfs] at hfi
        have hfi2 : infB s = false := hfi
        rw [if_neg (show ¬ (true = false) by decide), if_neg h0, if_neg (show ¬ infB s = true by rw [hfi2]; decide), set_side hs hn hfi2]

end Go.Proofs.YtkfhbnfoiicioaaGreatDoor

/- span.Right, SameSpan, check.Under and the document's: the walks -/
namespace Go.Proofs.YtkfhbnfoiicioaaGreatDoor
open Go.RowKit Go.Sort

@[go_sem] theorem frombits_run (n : Int) (w : World) : (callFunc 48 #[.int .u64 n]).run Tryz.prog w = .ok (.value (.float .f64 n.toNat)) w :=
  (run_callFunc_extern (P := Tryz.prog) (e := Extern.MathFloatBits.float64frombits) Tryz.func48 (by kernel_rfl) (by kernel_rfl) (by kernel_rfl) (by kernel_rfl) _ w).trans rfl
@[go_sem] theorem floatbits_run (n : Nat) (w : World) : (callFunc 46 #[.float .f64 n]).run Tryz.prog w = .ok (.value (.int .u64 n)) w :=
  (run_callFunc_extern (P := Tryz.prog) (e := Extern.MathFloatBits.float64bits) Tryz.func46 (by kernel_rfl) (by kernel_rfl) (by kernel_rfl) (by kernel_rfl) _ w).trans rfl
@[go_sem] theorem store_float_run (P : Program) (w : World) (a : Addr) (m : Mode) (k : FloatKind) (b : Nat) : (store a (.float k b) m).run P w = stored P w a (.float k b) m := run_store P w a _ m rfl

theorem inf_pos (w : World) :
    Calls Tryz.prog 29 #[.int .i64 1] w fun e w' => e = .returned (.float .f64 9218868437227405312) ∧ w = w' := by
  go_enter Tryz.func29, Tryz.ntmps29
  go_wp2
  all_goals (go_ret; exact ⟨rfl, rfl⟩)
theorem inf_neg (w : World) :
    Calls Tryz.prog 29 #[.int .i64 (-1)] w fun e w' => e = .returned (.float .f64 18442240474082181120) ∧ w = w' := by
  go_enter Tryz.func29, Tryz.ntmps29
  go_wp2
  all_goals (go_ret; exact ⟨rfl, rfl⟩)

structure Spn where
  lo : Nat
  hi : Nat
abbrev Spn.val (x : Spn) : Value := .agg #[.float .f64 x.lo, .float .f64 x.hi]
set_option maxHeartbeats 1000000 in
theorem right_any (x : Spn) (w : World) :
    Calls Tryz.prog 14 #[x.val] w fun e w' => e = .returned (.bool (spB x.lo x.hi)) ∧ Below w.heap.size w w' := by
  obtain ⟨a, b⟩ := x
  have i1 := inf_pos
  have i2 := inf_neg
  have I1 := Lib.hid i1
  have I2 := Lib.hid i2
  clear i1 i2
  have hv : spB a b = (fle a b && (flt a 9218868437227405312 && fgt b 18442240474082181120)) := rfl
  rw [hv]
  clear hv
  cases h1 : fle a b <;> cases h2 : flt a 9218868437227405312
  all_goals
    have h1' := h1
    unfold fle at h1
    unfold flt at h2
    go_enter Tryz.func14, Tryz.ntmps14
    go_wp2_with fail
    go_quiet (first
      | (go_at_call_of 29 (Value.int IntKind.i64 1); exact Calls.quiet_of_same ((I1.out _).mono fun _ _ ⟨h, h'⟩ => ⟨h, h'.symm⟩))
      | (go_at_call 29; exact Calls.quiet_of_same ((I2.out _).mono fun _ _ ⟨h, h'⟩ => ⟨h, h'.symm⟩)))
    go_wp2
    go_ret
    refine ⟨?_, below_drewN (below1 ..) _⟩
    simp [h1', h2, flt, fgt]

/-- what Under tells -/
def underI (lo hi most : Nat) : Int := if (!spB lo hi || !feq most most) = true then 0 else if fle hi most = true then 1 else if fgt lo most = true then 2 else 0

end Go.Proofs.YtkfhbnfoiicioaaGreatDoor

/- bits.Order and what it calls: the walks -/
namespace Go.Proofs.YtkfhbnfoiicioaaGreatDoor
open Go.RowKit Go.Sort

def sgn3 (x y : Int) : Int := if x < y then -1 else if y < x then 1 else 0
theorem isNaN64 (x : Int) (w : World) : Calls Tryz.prog 77 #[.int .i64 x] w fun e w' => e = .returned (.bool false) ∧ w = w' := by
  have e1 : (x != x) = false := by simp
  go_enter Tryz.func77, Tryz.ntmps77
  go_wp2_with fail
  go_ret
  exact ⟨rfl, rfl⟩
theorem isNaNint (x : Int) (w : World) : Calls Tryz.prog 78 #[.int .i64 x] w fun e w' => e = .returned (.bool false) ∧ w = w' := by
  have e1 : (x != x) = false := by simp
  go_enter Tryz.func78, Tryz.ntmps78
  go_wp2_with fail
  go_ret
  exact ⟨rfl, rfl⟩
theorem cmp64 (x y : Int) (w : World) : Calls Tryz.prog 51 #[.int .i64 x, .int .i64 y] w fun e w' => e = .returned (.int .i64 (sgn3 x y)) ∧ w = w' := by
  have I1 := Lib.hid isNaN64
  unfold sgn3
  by_cases h1 : x < y
  · rw [if_pos h1]
    have d1 := decide_eq_true h1
    clear h1
    go_enter Tryz.func51, Tryz.ntmps51
    go_wp2_with (go_at_call 77; refine (I1.out _ _).mono ?_; rintro e w' ⟨rfl, rfl⟩)
    go_ret
    exact ⟨rfl, rfl⟩
  · rw [if_neg h1]
    have d1 := decide_eq_false h1
    by_cases h2 : y < x
    · rw [if_pos h2]
      have d2 := decide_eq_true h2
      clear h1 h2
      go_enter Tryz.func51, Tryz.ntmps51
      go_wp2_with (go_at_call 77; refine (I1.out _ _).mono ?_; rintro e w' ⟨rfl, rfl⟩)
      go_ret
      exact ⟨rfl, rfl⟩
    · rw [if_neg h2]
      have d2 := decide_eq_false h2
      clear h1 h2
      go_enter Tryz.func51, Tryz.ntmps51
      go_wp2_with (go_at_call 77; refine (I1.out _ _).mono ?_; rintro e w' ⟨rfl, rfl⟩)
      go_ret
      exact ⟨rfl, rfl⟩
theorem cmpint (x y : Int) (w : World) : Calls Tryz.prog 52 #[.int .i64 x, .int .i64 y] w fun e w' => e = .returned (.int .i64 (sgn3 x y)) ∧ w = w' := by
  have I1 := Lib.hid isNaNint
  unfold sgn3
  by_cases h1 : x < y
  · rw [if_pos h1]
    have d1 := decide_eq_true h1
    clear h1
    go_enter Tryz.func52, Tryz.ntmps52
    go_wp2_with (go_at_call 78; refine (I1.out _ _).mono ?_; rintro e w' ⟨rfl, rfl⟩)
    go_ret
    exact ⟨rfl, rfl⟩
  · rw [if_neg h1]
    have d1 := decide_eq_false h1
    by_cases h2 : y < x
    · rw [if_pos h2]
      have d2 := decide_eq_true h2
      clear h1 h2
      go_enter Tryz.func52, Tryz.ntmps52
      go_wp2_with (go_at_call 78; refine (I1.out _ _).mono ?_; rintro e w' ⟨rfl, rfl⟩)
      go_ret
      exact ⟨rfl, rfl⟩
    · rw [if_neg h2]
      have d2 := decide_eq_false h2
      clear h1 h2
      go_enter Tryz.func52, Tryz.ntmps52
      go_wp2_with (go_at_call 78; refine (I1.out _ _).mono ?_; rintro e w' ⟨rfl, rfl⟩)
      go_ret
      exact ⟨rfl, rfl⟩
set_option maxRecDepth 100000 in
set_option maxHeartbeats 1000000 in
theorem or2 (b o c : Nat) (x y : Int) (w : World) (h0 : w.cell? ⟨b, o, none⟩ = some (.int .i64 x)) (h1 : w.cell? ⟨b, o + 1, none⟩ = some (.int .i64 y)) :
    Calls Tryz.prog 50 #[.slice (some ⟨b, o, none⟩) 2 c] w fun e w' => e = .returned (.int .i64 (if x = 0 then y else x)) ∧ w = w' := by
  obtain ⟨r, hr⟩ : ∃ r, r = if x = 0 then y else x := ⟨_, rfl⟩
  rw [← hr]
  have HR := Lib.hid hr
  clear hr
  go_enter Tryz.func50, Tryz.ntmps50
  go_wp2_with fail
  go_loop [8] (fun iv => ∃ k : Nat, k ≤ 2 ∧ iv = .int .i64 k ∧ (0 < k → x = 0) ∧ (1 < k → y = 0)) (fun iv => 2 - (intOf iv).toNat)
  case atStart => exact ⟨0, by omega, rfl, fun h => by omega, fun h => by omega⟩
  case round =>
    obtain ⟨k, hk, rfl, hx, hy⟩ := hrel
    have HX := Lib.hid hx
    have HY := Lib.hid hy
    clear hx hy
    obtain rfl | rfl | rfl : k = 0 ∨ k = 1 ∨ k = 2 := by omega
    · by_cases hz : x = 0
      · have d0 : (x != 0) = false := by simp [hz]
        have HZ := Lib.hid hz
        clear hz
        go_wp2_with fail
        go_round
        case rel => exact ⟨1, by omega, by go_num, fun _ => HZ.out, fun h => by omega⟩
        case measure => simp [intOf]
      · have d0 : (x != 0) = true := by simp [hz]
        have HZ := Lib.hid hz
        clear hz
        go_wp2_with fail
        go_ret
        exact ⟨by rw [HR.out, if_neg HZ.out]; rfl, rfl⟩
    · by_cases hz : y = 0
      · have d0 : (y != 0) = false := by simp [hz]
        have HZ := Lib.hid hz
        clear hz
        go_wp2_with fail
        go_round
        case rel => exact ⟨2, by omega, by go_num, fun _ => HX.out (by omega), fun _ => HZ.out⟩
        case measure => simp [intOf]
      · have d0 : (y != 0) = true := by simp [hz]
        clear hz
        go_wp2_with fail
        go_ret
        exact ⟨by rw [HR.out, if_pos (HX.out (by omega))]; rfl, rfl⟩
    · go_wp2_with fail
      go_ret
      exact ⟨by rw [HR.out, if_pos (HX.out (by omega)), HY.out (by omega)]; rfl, rfl⟩
theorem clr_sign {b : Nat} (hb : b < 18446744073709551616) : bits BinOp.andNot IntKind.u64 (b : Int) 9223372036854775808 = ((absF b : Nat) : Int) := by
  have h := u64_andNot_nat b 9223372036854775808 hb (by decide)
  rw [show (18446744073709551615 - 9223372036854775808 : Nat) = 2 ^ 63 - 1 by decide, Nat.and_two_pow_sub_one_eq_mod] at h
  exact h
set_option maxRecDepth 100000 in
set_option maxHeartbeats 1000000 in
theorem abs_any (b : Nat) (w : World) (hb : b < 18446744073709551616) : Calls Tryz.prog 31 #[.float .f64 b] w fun e w' => e = .returned (.float .f64 (absF b)) ∧ w = w' := by
  have hc := clr_sign hb
  go_enter Tryz.func31, Tryz.ntmps31
  go_wp2_with fail
  go_ret
  exact ⟨rfl, rfl⟩
theorem signbit_any (b : Nat) (w : World) (hb : b < 18446744073709551616) : Calls Tryz.prog 65 #[.float .f64 b] w fun e w' => e = .returned (.bool (sgbB b)) ∧ w = w' := by
  have hc : decide (wrap64 (b : Int) < 0) = sgbB b := by
    unfold sgbB wrap64
    by_cases h : 9223372036854775808 ≤ b
    · rw [decide_eq_true h, decide_eq_true (by omega)]
    · rw [decide_eq_false h, decide_eq_false (by omega)]
  generalize sgbB b = s at hc ⊢
  go_enter Tryz.func65, Tryz.ntmps65
  go_wp2_with fail
  go_ret
  exact ⟨rfl, rfl⟩
def placeI (u : Nat) : Int := if flt u 0 = true then -((absF u : Nat) : Int) else ((absF u : Nat) : Int)
set_option maxRecDepth 100000 in
set_option maxHeartbeats 1000000 in
theorem place_any (u : Nat) (w : World) (hu : u < 18446744073709551616) : Calls Tryz.prog 76 #[.float .f64 u] w fun e w' => e = .returned (.tuple #[.int .i64 (if fnan u = true then 0 else placeI u), .bool (!fnan u)]) ∧ w = w' := by
  have hself := feq_self u
  have I1 := Lib.hid abs_any
  have hg : absF u < 9223372036854775808 := by unfold absF; omega
  cases hn : fnan u
  · rw [if_neg (by decide)]
    have o1 : (FloatKind.f64.format.order u u != some .eq) = false := by rw [hn] at hself; unfold feq at hself; simp [bne, hself]
    have ew : wrap64 ((absF u : Nat) : Int) = ((absF u : Nat) : Int) := by unfold wrap64; omega
    have ew2 : wrap64 (-((absF u : Nat) : Int)) = -((absF u : Nat) : Int) := by unfold wrap64; omega
    unfold placeI
    cases hl : flt u 0
    · unfold flt at hl
      rw [if_neg (by decide)]
      clear hself hn
      go_enter Tryz.func76, Tryz.ntmps76
      go_wp2_with (go_at_call 31; refine (I1.out u _ hu).mono ?_; rintro e w' ⟨rfl, rfl⟩)
      go_ret2
      exact ⟨rfl, rfl⟩
    · unfold flt at hl
      rw [if_pos rfl]
      clear hself hn
      go_enter Tryz.func76, Tryz.ntmps76
      go_wp2_with (go_at_call 31; refine (I1.out u _ hu).mono ?_; rintro e w' ⟨rfl, rfl⟩)
      go_ret2
      exact ⟨rfl, rfl⟩
  · rw [if_pos rfl]
    have o1 : (FloatKind.f64.format.order u u != some .eq) = true := by rw [hn] at hself; unfold feq at hself; simp [bne, hself]
    clear hself hn
    go_enter Tryz.func76, Tryz.ntmps76
    go_wp2_with fail
    go_ret2
    exact ⟨rfl, rfl⟩

end Go.Proofs.YtkfhbnfoiicioaaGreatDoor

/- bits.Order, the greater and lesser of two: the walks -/
namespace Go.Proofs.YtkfhbnfoiicioaaGreatDoor
open Go.RowKit Go.Sort

def rkN (u : Nat) : Int := if fnan u = true then 9223372036854775807 else placeI u
def rkI (u : Nat) : Int := if fnan u = true then 0 else if placeI u = 0 ∧ sgbB u = false then 1 else 0
set_option maxRecDepth 100000 in
set_option maxHeartbeats 1000000 in
theorem rank_any (u : Nat) (w : World) (hu : u < 18446744073709551616) : Calls Tryz.prog 49 #[.float .f64 u] w fun e w' => e = .returned (.tuple #[.int .i64 (rkN u), .int .i64 (rkI u)]) ∧ w = w' := by
  have I1 := Lib.hid (fun w => place_any u w hu)
  have I2 := Lib.hid (fun w => signbit_any u w hu)
  unfold rkN rkI
  cases hn : fnan u
  · rw [hn, if_neg (by decide)] at I1
    rw [if_neg (by decide), if_neg (by decide)]
    obtain ⟨p, hp⟩ : ∃ p, p = placeI u := ⟨_, rfl⟩
    rw [← hp] at I1 ⊢
    clear hp hn
    by_cases h0 : p = 0
    · subst h0
      cases hs : sgbB u
      · rw [hs] at I2
        rw [if_pos ⟨rfl, rfl⟩]
        clear hs
        go_enter Tryz.func49, Tryz.ntmps49
        go_wp2_with (first | (go_at_call 76; refine (I1.out _).mono ?_; rintro e w' ⟨rfl, rfl⟩) | (go_at_call 65; refine (I2.out _).mono ?_; rintro e w' ⟨rfl, rfl⟩))
        go_ret2
        exact ⟨rfl, rfl⟩
      · rw [hs] at I2
        rw [if_neg (by decide)]
        clear hs
        go_enter Tryz.func49, Tryz.ntmps49
        go_wp2_with (first | (go_at_call 76; refine (I1.out _).mono ?_; rintro e w' ⟨rfl, rfl⟩) | (go_at_call 65; refine (I2.out _).mono ?_; rintro e w' ⟨rfl, rfl⟩))
        go_ret2
        exact ⟨rfl, rfl⟩
    · have d0 : (p == 0) = false := by simp [h0]
      rw [if_neg (fun h => h0 h.1)]
      clear h0
      go_enter Tryz.func49, Tryz.ntmps49
      go_wp2_with (go_at_call 76; refine (I1.out _).mono ?_; rintro e w' ⟨rfl, rfl⟩)
      go_ret2
      exact ⟨rfl, rfl⟩
  · rw [hn, if_pos rfl] at I1
    rw [if_pos rfl, if_pos rfl]
    clear hn
    go_enter Tryz.func49, Tryz.ntmps49
    go_wp2_with (go_at_call 76; refine (I1.out _).mono ?_; rintro e w' ⟨rfl, rfl⟩)
    go_ret2
    exact ⟨rfl, rfl⟩
def ordW (a b : Nat) : Int := if sgn3 (rkN a) (rkN b) = 0 then sgn3 (rkI a) (rkI b) else sgn3 (rkN a) (rkN b)
theorem ordW_eq {a b : Nat} (ha : a < 18446744073709551616) (hb : b < 18446744073709551616) : ordW a b = ordI a b := by
  have key : ∀ u : Nat, u < 18446744073709551616 → (fnan u = true ∧ rkN u = 9223372036854775807 ∧ rkI u = 0 ∧ keyO u = 36893488147419103232) ∨ (fnan u = false ∧ -9218868437227405312 ≤ rkN u ∧ rkN u ≤ 9218868437227405312 ∧ ((u < 9223372036854775808 ∧ rkN u = u ∧ rkI u = (if u = 0 then 1 else 0) ∧ keyO u = 2 * (u : Int) + 1) ∨ (9223372036854775808 ≤ u ∧ rkN u = -((u : Int) - 9223372036854775808) ∧ rkI u = 0 ∧ keyO u = -(2 * ((u : Int) - 9223372036854775808))))) := by
    intro u hu
    cases hn : fnan u
    · right
      have h1 := num_le hn
      have h2 := (sgn_word hu hn).2
      have hN : rkN u = placeI u := by unfold rkN; rw [hn]; rfl
      have hI : rkI u = if placeI u = 0 ∧ sgbB u = false then 1 else 0 := by unfold rkI; rw [hn]; rfl
      have hK : keyO u = if 9223372036854775808 ≤ u then -(2 * (u - 9223372036854775808 : Nat) : Int) else 2 * (u : Int) + 1 := by unfold keyO; rw [hn]; rfl
      by_cases hs : 9223372036854775808 ≤ u
      · have hp : placeI u = -((u : Int) - 9223372036854775808) := by
          unfold placeI absF
          by_cases hz : 9223372036854775808 < u
          · rw [if_pos (h2.2 hz)]; omega
          · rw [if_neg (fun h => hz (h2.1 h))]; omega
        have hq : sgbB u = true := decide_eq_true hs
        rw [if_neg (by rw [hq]; simp)] at hI
        rw [if_pos hs] at hK
        exact ⟨rfl, by omega, by omega, .inr ⟨hs, by omega, hI, by omega⟩⟩
      · have hp : placeI u = (u : Int) := by
          unfold placeI absF
          rw [if_neg (fun h => by have := h2.1 h; omega)]; omega
        have hq : sgbB u = false := decide_eq_false hs
        rw [if_neg hs] at hK
        refine ⟨rfl, by omega, by omega, .inl ⟨by omega, by omega, ?_, by omega⟩⟩
        rw [hI, hp, hq]
        by_cases h0 : u = 0
        · subst h0; rfl
        · rw [if_neg h0, if_neg (fun h => h0 (by omega))]
    · left
      exact ⟨rfl, by unfold rkN; rw [hn]; rfl, by unfold rkI; rw [hn]; rfl, by unfold keyO; rw [hn]; rfl⟩
  unfold ordW ordI sgn3
  have ka := key a ha
  have kb := key b hb
  generalize rkN a = na at *
  generalize rkN b = nb at *
  generalize rkI a = ia at *
  generalize rkI b = ib at *
  generalize keyO a = xa at *
  generalize keyO b = xb at *
  rcases ka with ⟨_, rfl, rfl, rfl⟩ | ⟨_, la, la2, ⟨_, rfl, rfl, rfl⟩ | ⟨_, rfl, rfl, rfl⟩⟩ <;> rcases kb with ⟨_, rfl, rfl, rfl⟩ | ⟨_, lb, lb2, ⟨_, rfl, rfl, rfl⟩ | ⟨_, rfl, rfl, rfl⟩⟩ <;> (repeat' split) <;> omega

set_option maxRecDepth 100000 in
set_option maxHeartbeats 2000000 in
theorem order_any (a b : Nat) (w : World) (ha : a < 18446744073709551616) (hb : b < 18446744073709551616) : Calls Tryz.prog 32 #[.float .f64 a, .float .f64 b] w fun e w' => e = .returned (.int .i64 (ordI a b)) ∧ Below w.heap.size w w' := by
  rw [← ordW_eq ha hb]
  have I1 := Lib.hid (fun w => rank_any a w ha)
  have I2 := Lib.hid (fun w => rank_any b w hb)
  have I3 := Lib.hid cmp64
  have I4 := Lib.hid cmpint
  unfold ordW
  generalize rkN a = na at *
  generalize rkN b = nb at *
  generalize rkI a = ia at *
  generalize rkI b = ib at *
  obtain ⟨x, hx⟩ : ∃ x, x = sgn3 na nb := ⟨_, rfl⟩
  obtain ⟨y, hy⟩ : ∃ y, y = sgn3 ia ib := ⟨_, rfl⟩
  rw [← hx, ← hy]
  have I3' := Lib.hid (fun w => I3.out na nb w)
  have I4' := Lib.hid (fun w => I4.out ia ib w)
  rw [← hx] at I3'
  rw [← hy] at I4'
  obtain ⟨w1, hw1⟩ : ∃ w1, w1 = w.alloc (.cells #[.int .i64 x, .int .i64 y] 3) := ⟨_, rfl⟩
  have k0 : w1.cell? ⟨w.heap.size, 0, none⟩ = some (.int .i64 x) := by rw [hw1]; exact new_cell w _ _ 0 _ rfl
  have k1 : w1.cell? ⟨w.heap.size, 0 + 1, none⟩ = some (.int .i64 y) := by rw [hw1]; exact new_cell w _ _ 1 _ rfl
  have I5 := Lib.hid (or2 w.heap.size 0 2 x y w1 k0 k1)
  have hb1 : Below w.heap.size w w1 := by rw [hw1]; exact below1 ..
  have HB := Lib.hid hb1
  have HW := Lib.hid hw1
  obtain ⟨r, hr⟩ : ∃ r, r = if x = 0 then y else x := ⟨_, rfl⟩
  rw [← hr] at I5 ⊢
  clear hx hy k0 k1 hb1 I3 I4 hw1 hr
  go_enter Tryz.func32, Tryz.ntmps32
  go_wp2_with fail
  refine (I1.out _).mono ?_
  rintro e w' ⟨rfl, rfl⟩
  go_wp2_with fail
  refine (I2.out _).mono ?_
  rintro e w' ⟨rfl, rfl⟩
  go_wp2_with fail
  refine (I3'.out _).mono ?_
  rintro e w' ⟨rfl, rfl⟩
  go_wp2_with fail
  refine (I4'.out _).mono ?_
  rintro e w' ⟨rfl, rfl⟩
  go_wp2_with fail
  rw [← HW.out]
  refine I5.out.mono ?_
  rintro e w' ⟨rfl, rfl⟩
  go_wp2_with fail
  go_ret
  exact ⟨rfl, HB.out⟩

set_option maxRecDepth 100000 in
set_option maxHeartbeats 1000000 in
theorem greater_chk (a b : Nat) (w : World) (ha : a < 18446744073709551616) (hb : b < 18446744073709551616) : Calls Tryz.prog 17 #[.float .f64 a, .float .f64 b] w fun e w' => e = .returned (.float .f64 (greF a b)) ∧ Below w.heap.size w w' := by
  have I1 := Lib.hid (fun w => order_any b a w hb ha)
  unfold greF
  generalize ordI b a = x at *
  by_cases h : 0 < x
  · rw [if_pos h]
    have d0 := decide_eq_true h
    clear h
    go_enter Tryz.func17, Tryz.ntmps17
    go_wp2_with fail
    refine (I1.out _).mono ?_
    rintro e w1 ⟨rfl, hb1⟩
    have HB := Lib.hid hb1
    clear hb1
    go_wp2_with fail
    go_ret
    exact ⟨rfl, HB.out⟩
  · rw [if_neg h]
    have d0 := decide_eq_false h
    clear h
    go_enter Tryz.func17, Tryz.ntmps17
    go_wp2_with fail
    refine (I1.out _).mono ?_
    rintro e w1 ⟨rfl, hb1⟩
    have HB := Lib.hid hb1
    clear hb1
    go_wp2_with fail
    go_ret
    exact ⟨rfl, HB.out⟩
set_option maxRecDepth 100000 in
set_option maxHeartbeats 1000000 in
theorem greater_span (a b : Nat) (w : World) (ha : a < 18446744073709551616) (hb : b < 18446744073709551616) : Calls Tryz.prog 54 #[.float .f64 a, .float .f64 b] w fun e w' => e = .returned (.float .f64 (greF a b)) ∧ Below w.heap.size w w' := by
  have I1 := Lib.hid (fun w => order_any b a w hb ha)
  unfold greF
  generalize ordI b a = x at *
  by_cases h : 0 < x
  · rw [if_pos h]
    have d0 := decide_eq_true h
    clear h
    go_enter Tryz.func54, Tryz.ntmps54
    go_wp2_with fail
    refine (I1.out _).mono ?_
    rintro e w1 ⟨rfl, hb1⟩
    have HB := Lib.hid hb1
    clear hb1
    go_wp2_with fail
    go_ret
    exact ⟨rfl, HB.out⟩
  · rw [if_neg h]
    have d0 := decide_eq_false h
    clear h
    go_enter Tryz.func54, Tryz.ntmps54
    go_wp2_with fail
    refine (I1.out _).mono ?_
    rintro e w1 ⟨rfl, hb1⟩
    have HB := Lib.hid hb1
    clear hb1
    go_wp2_with fail
    go_ret
    exact ⟨rfl, HB.out⟩
set_option maxRecDepth 100000 in
set_option maxHeartbeats 1000000 in
theorem lesser_span (a b : Nat) (w : World) (ha : a < 18446744073709551616) (hb : b < 18446744073709551616) : Calls Tryz.prog 53 #[.float .f64 a, .float .f64 b] w fun e w' => e = .returned (.float .f64 (lesF a b)) ∧ Below w.heap.size w w' := by
  have I1 := Lib.hid (fun w => order_any b a w hb ha)
  unfold lesF
  generalize ordI b a = x at *
  by_cases h : x < 0
  · rw [if_pos h]
    have d0 := decide_eq_true h
    clear h
    go_enter Tryz.func53, Tryz.ntmps53
    go_wp2_with fail
    refine (I1.out _).mono ?_
    rintro e w1 ⟨rfl, hb1⟩
    have HB := Lib.hid hb1
    clear hb1
    go_wp2_with fail
    go_ret
    exact ⟨rfl, HB.out⟩
  · rw [if_neg h]
    have d0 := decide_eq_false h
    clear h
    go_enter Tryz.func53, Tryz.ntmps53
    go_wp2_with fail
    refine (I1.out _).mono ?_
    rintro e w1 ⟨rfl, hb1⟩
    have HB := Lib.hid hb1
    clear hb1
    go_wp2_with fail
    go_ret
    exact ⟨rfl, HB.out⟩

end Go.Proofs.YtkfhbnfoiicioaaGreatDoor

/- rungs and their values (plain) -/
namespace Go.Proofs.YtkfhbnfoiicioaaGreatDoor

/-- the value of a rung of the floats above 0 (in units of the least one); rungs go on behind the greatest number -/
def Vr (g : Nat) : Nat := if g < 2 ^ 52 then g else (2 ^ 52 + g % 2 ^ 52) * 2 ^ (g / 2 ^ 52 - 1)
theorem Vr_parts {s j : Nat} (hs : s ≤ 2 ^ 53) (hn : j = 0 ∨ 2 ^ 52 ≤ s) : Vr (j * 2 ^ 52 + s) = s * 2 ^ j := by
  unfold Vr
  by_cases h : j * 2 ^ 52 + s < 2 ^ 52
  · rw [if_pos h]
    have : j = 0 := by omega
    subst this
    omega
  · rw [if_neg h]
    have h1 : 2 ^ 52 ≤ s := by omega
    by_cases h2 : s = 2 ^ 53
    · have e1 : (j * 2 ^ 52 + s) % 2 ^ 52 = 0 := by omega
      have e2 : (j * 2 ^ 52 + s) / 2 ^ 52 - 1 = j + 1 := by omega
      rw [e1, e2, h2, Nat.pow_succ]
      omega
    · have e1 : (j * 2 ^ 52 + s) % 2 ^ 52 = s - 2 ^ 52 := by omega
      have e2 : (j * 2 ^ 52 + s) / 2 ^ 52 - 1 = j := by omega
      rw [e1, e2, show 2 ^ 52 + (s - 2 ^ 52) = s by omega]
/-- each rung has its parts -/
theorem rung_has (g : Nat) : ∃ j s, g = j * 2 ^ 52 + s ∧ s < 2 ^ 53 ∧ (j = 0 ∨ 2 ^ 52 ≤ s) := by
  by_cases h : g < 2 ^ 52
  · exact ⟨0, g, by omega, by omega, .inl rfl⟩
  · exact ⟨g / 2 ^ 52 - 1, 2 ^ 52 + g % 2 ^ 52, by omega, by omega, .inr (by omega)⟩
theorem Vr_succ (g : Nat) : Vr g < Vr (g + 1) := by
  obtain ⟨j, s, rfl, h1, h2⟩ := rung_has g
  rw [Vr_parts (by omega) h2, Nat.add_assoc, Vr_parts (by omega) (by omega)]
  exact Nat.mul_lt_mul_of_pos_right (by omega) (Nat.pow_pos (by decide))
theorem Vr_lt {a b : Nat} (h : a < b) : Vr a < Vr b := by
  induction b with
  | zero => omega
  | succ b ih =>
    rcases Nat.lt_or_eq_of_le (Nat.le_of_lt_succ h) with h1 | h1
    · exact Nat.lt_trans (ih h1) (Vr_succ b)
    · rw [h1]; exact Vr_succ b
theorem Vr_le {a b : Nat} (h : a ≤ b) : Vr a ≤ Vr b := by
  rcases Nat.lt_or_eq_of_le h with h1 | h1
  · exact Nat.le_of_lt (Vr_lt h1)
  · rw [h1]; exact Nat.le_refl _
theorem Vr_zero : Vr 0 = 0 := rfl


end Go.Proofs.YtkfhbnfoiicioaaGreatDoor

/- what round's functions ask of a float: the walks -/
namespace Go.Proofs.YtkfhbnfoiicioaaGreatDoor
open Go.RowKit Go.Sort

theorem fk_vr {g : Nat} (h : g < 9218868437227405312) : fk g = (Vr g : Int) := by
  have e1 : Ieee.double.signWeight = 9223372036854775808 := by decide
  have e2 : Ieee.double.binade = 4503599627370496 := by decide
  have e3 : Ieee.double.infRung = 9218868437227405312 := by decide
  have e4 : Ieee.double.leastPlace = -1074 := by decide
  have e5 : (2 : Nat) ^ 52 = 4503599627370496 := by decide
  have hs : (g / 9223372036854775808 % 2 == 1) = false := by
    have : g / 9223372036854775808 = 0 := by omega
    rw [this]; rfl
  have hm : g % 9223372036854775808 = g := by omega
  have hr : Ieee.double.read g = (if g < 4503599627370496 then .number false g (-1074) else .number false (4503599627370496 + g % 4503599627370496) (-1074 + ((g / 4503599627370496 - 1 : Nat) : Int))) := by
    unfold Ieee.Format.read
    simp only [e1, e2, e3, e4, hs, hm]
    by_cases h1 : g < 4503599627370496
    · rw [if_pos h1, if_pos h1]
    · rw [if_neg h1, if_neg h1, if_pos h]
  unfold Vr
  rw [e5]
  by_cases h1 : g < 4503599627370496
  · rw [if_pos h1] at hr ⊢
    rw [fk_parts hr]
    unfold Ieee.signed
    simp
  · rw [if_neg h1] at hr ⊢
    rw [fk_parts hr]
    unfold Ieee.signed
    rw [Nat.shiftLeft_eq, show (-1074 + ((g / 4503599627370496 - 1 : Nat) : Int) + 1074).toNat = g / 4503599627370496 - 1 by omega]
    rfl
theorem isinf_key {u : Nat} : fgt (absF u) 9218868437227405311 = infB u := by
  have hmax : fk 9218868437227405311 = (Vr 9218868437227405311 : Int) := fk_vr (by decide)
  have nmax : fnan 9218868437227405311 = false := by decide
  have ha : absF u % 9223372036854775808 = absF u := by unfold absF; omega
  have hi : infB u = decide (absF u = 9218868437227405312) := rfl
  rw [hi]
  have i6 := fgt_iff (absF u) 9218868437227405311
  rw [nmax, hmax] at i6
  by_cases h1 : absF u < 9218868437227405312
  · rw [decide_eq_false (by omega)]
    cases h : fgt (absF u) 9218868437227405311
    · rfl
    · have h2 := (i6.1 h).2.2
      rw [fk_vr h1] at h2
      have := Vr_le (show absF u ≤ 9218868437227405311 by omega)
      omega
  · by_cases h2 : absF u = 9218868437227405312
    · rw [decide_eq_true h2, h2]
      decide +kernel
    · rw [decide_eq_false h2]
      cases h : fgt (absF u) 9218868437227405311
      · rfl
      · have h3 := num_le (i6.1 h).1
        omega
theorem isnan_any (u : Nat) (w : World) : Calls Tryz.prog 79 #[.float .f64 u] w fun e w' => e = .returned (.bool (fnan u)) ∧ w = w' := by
  have hself := feq_self u
  have o1 : (FloatKind.f64.format.order u u != some .eq) = fnan u := by
    unfold feq at hself
    rw [bne, hself, Bool.not_not]
  generalize fnan u = n at *
  clear hself
  go_enter Tryz.func79, Tryz.ntmps79
  go_wp2_with fail
  go_ret
  exact ⟨rfl, rfl⟩
theorem isinf_any (u : Nat) (w : World) (hu : u < 18446744073709551616) : Calls Tryz.prog 61 #[.float .f64 u, .int .i64 0] w fun e w' => e = .returned (.bool (infB u)) ∧ w = w' := by
  have I1 := Lib.hid (fun w => abs_any u w hu)
  have hk := isinf_key (u := u)
  unfold fgt at hk
  generalize infB u = b at *
  generalize absF u = g at *
  go_enter Tryz.func61, Tryz.ntmps61
  go_wp2_with fail
  refine (I1.out _).mono ?_
  rintro e w1 ⟨rfl, rfl⟩
  go_wp2_with fail
  go_ret
  exact ⟨rfl, rfl⟩
theorem copysign_any (x s : Nat) (w : World) (hx : x < 18446744073709551616) (hs : s < 18446744073709551616) : Calls Tryz.prog 80 #[.float .f64 x, .float .f64 s] w fun e w' => e = .returned (.float .f64 (absF x + (if sgbB s = true then 9223372036854775808 else 0))) ∧ w = w' := by
  have b1 := clr_sign hx
  have hg : absF x < 9223372036854775808 := by unfold absF; omega
  have b2 : bits BinOp.and IntKind.u64 (s : Int) 9223372036854775808 = ((if sgbB s = true then 9223372036854775808 else 0 : Nat) : Int) := by
    have h := bits_and_u64_nat s 9223372036854775808 hs (by decide)
    rw [show bits BinOp.and IntKind.u64 (s : Int) 9223372036854775808 = ((s &&& 9223372036854775808 : Nat) : Int) from h]
    congr 1
    have e63 : (9223372036854775808 : Nat) = 2 ^ 63 := by decide
    have hbit : s.testBit 63 = sgbB s := by
      rw [Nat.testBit_eq_decide_div_mod_eq]
      unfold sgbB
      by_cases h9 : 9223372036854775808 ≤ s
      · rw [decide_eq_true h9, decide_eq_true (by omega)]
      · rw [decide_eq_false h9, decide_eq_false (by omega)]
    rw [e63]
    refine Nat.eq_of_testBit_eq fun i => ?_
    rw [Nat.testBit_and, Nat.testBit_two_pow]
    by_cases hi : 63 = i
    · subst hi
      rw [hbit]
      cases sgbB s
      · simp
      · simp; decide
    · rw [decide_eq_false hi, Bool.and_false]
      cases sgbB s
      · simp
      · simp only [if_true]
        rw [Nat.testBit_two_pow, decide_eq_false hi]
  have b3 : ∀ k : Nat, (k = 0 ∨ k = 9223372036854775808) → bits BinOp.or IntKind.u64 ((absF x : Nat) : Int) (k : Int) = ((absF x + k : Nat) : Int) := by
    intro k hk
    have h := bits_or_u64_nat (absF x) k (by omega) (by omega)
    rw [show bits BinOp.or IntKind.u64 ((absF x : Nat) : Int) (k : Int) = ((absF x ||| k : Nat) : Int) from h]
    congr 1
    rcases hk with rfl | rfl
    · simp
    · have e63 : (9223372036854775808 : Nat) = 2 ^ 63 := by decide
      rw [Nat.or_comm, e63, Nat.add_comm]
      have := Nat.two_pow_add_eq_or_of_lt (i := 63) (b := absF x) (by rw [← e63]; exact hg) 1
      simpa using this.symm
  obtain ⟨k, hk⟩ : ∃ k : Nat, k = if sgbB s = true then 9223372036854775808 else 0 := ⟨_, rfl⟩
  rw [← hk] at b2 ⊢
  have hk2 : k = 0 ∨ k = 9223372036854775808 := by rw [hk]; split <;> simp
  have b4 := b3 k hk2
  generalize absF x = g at *
  clear hk hk2 b3
  go_enter Tryz.func80, Tryz.ntmps80
  go_wp2_with fail
  go_ret
  exact ⟨rfl, rfl⟩
theorem sign_any (u : Nat) (w : World) : Calls Tryz.prog 59 #[.float .f64 u] w fun e w' => e = .returned (.int .i64 (sgF u)) ∧ w = w' := by
  unfold sgF
  cases h1 : fgt u 0
  · cases h2 : flt u 0
    · unfold fgt at h1
      unfold flt at h2
      rw [if_neg (by decide), if_neg (by decide)]
      go_enter Tryz.func59, Tryz.ntmps59
      go_wp2_with fail
      go_ret
      exact ⟨rfl, rfl⟩
    · unfold fgt at h1
      unfold flt at h2
      rw [if_neg (by decide), if_pos rfl]
      go_enter Tryz.func59, Tryz.ntmps59
      go_wp2_with fail
      go_ret
      exact ⟨rfl, rfl⟩
  · unfold fgt at h1
    rw [if_pos rfl]
    go_enter Tryz.func59, Tryz.ntmps59
    go_wp2_with fail
    go_ret
    exact ⟨rfl, rfl⟩
theorem way_any (m : Int) (w : World) (h1 : 0 ≤ m) (h2 : m ≤ 3) : Calls Tryz.prog 55 #[.int .i8 m] w fun e w' => e = .returned (.int .i8 m) ∧ w = w' := by
  have d1 : decide (m < 0) = false := decide_eq_false (by omega)
  have d2 : decide (3 < m) = false := decide_eq_false (by omega)
  go_enter Tryz.func55, Tryz.ntmps55
  go_wp2_with fail
  go_ret
  exact ⟨rfl, rfl⟩
theorem none_any (m : Int) (w : World) : Calls Tryz.prog 66 #[.int .i8 m] w fun e w' => e = .returned (.float .f64 (noneF m)) ∧ w = w' := by
  have I1 := Lib.hid (fun w => copysign_any 0 13830554455654793216 w (by decide) (by decide))
  have e0 : absF 0 + (if sgbB 13830554455654793216 = true then 9223372036854775808 else 0) = 9223372036854775808 := by decide +kernel
  rw [e0] at I1
  unfold noneF
  by_cases h : m = 1
  · subst h
    rw [if_pos rfl]
    go_enter Tryz.func66, Tryz.ntmps66
    go_wp2_with fail
    refine (I1.out _).mono ?_
    rintro e w1 ⟨rfl, rfl⟩
    go_wp2_with fail
    go_ret
    exact ⟨rfl, rfl⟩
  · rw [if_neg h]
    have d0 : (m == 1) = false := by simp [h]
    clear h
    go_enter Tryz.func66, Tryz.ntmps66
    go_wp2_with fail
    go_ret
    exact ⟨rfl, rfl⟩

end Go.Proofs.YtkfhbnfoiicioaaGreatDoor
