import Derived.Test.YtkfhbnfoiicioaaGreatDoorC3
/- sums, quotients, fused products of floats: what they are (plain) -/
set_option linter.unusedSimpArgs false
set_option linter.unusedVariables false
namespace Go.Proofs.YtkfhbnfoiicioaaGreatDoor
open Ieee

theorem nearest_num (neg : Bool) (m : Nat) (p : Int) : fnan (Ieee.double.nearest neg m p) = false := by
  obtain ⟨g, hg, hle, _⟩ := nearest_word neg m p
  rw [hg]
  exact (word_sign neg hle).1
theorem inf_num (neg : Bool) : fnan (Ieee.double.write (.infinity neg)) = false := (word_sign neg (g := 9218868437227405312) (Nat.le_refl _)).1
/-- the place of a number's last digit -/
def plc (u : Nat) : Int := max ((u / 4503599627370496 % 2048 : Nat) : Int) 1 - 1075
theorem fin_parts {u : Nat} (h : finB u = true) : ∃ s m, Ieee.double.read u = .number s m (plc u) ∧ -1074 ≤ plc u := by
  have e1 : Ieee.double.signWeight = 9223372036854775808 := by decide
  have e2 : Ieee.double.binade = 4503599627370496 := by decide
  have e3 : Ieee.double.infRung = 9218868437227405312 := by decide
  have e4 : Ieee.double.leastPlace = -1074 := by decide
  have h : u % 9223372036854775808 < 9218868437227405312 := of_decide_eq_true h
  unfold Ieee.Format.read plc
  simp only [e1, e2, e3, e4]
  by_cases h1 : u % 9223372036854775808 < 4503599627370496
  · rw [if_pos h1]
    have h2 : (u / 4503599627370496 % 2048 : Nat) = 0 := by omega
    rw [h2]
    exact ⟨u / 9223372036854775808 % 2 == 1, u % 9223372036854775808, rfl, by decide⟩
  · rw [if_neg h1, if_pos h]
    have h2 : (-1074 : Int) + ((u % 9223372036854775808 / 4503599627370496 - 1 : Nat) : Int) = max ((u / 4503599627370496 % 2048 : Nat) : Int) 1 - 1075 := by omega
    rw [h2]
    exact ⟨u / 9223372036854775808 % 2 == 1, _, rfl, by omega⟩
theorem fk_parts {u : Nat} {s : Bool} {m : Nat} {e : Int} (h : Ieee.double.read u = .number s m e) : fk u = signed s m (e + 1074).toNat := by unfold fk; rw [h]; rfl
theorem add_fin {a b : Nat} (ha : finB a = true) (hb : finB b = true) : ∃ s, floatBits .add .f64 a b = some s ∧ fnan s = false := by
  obtain ⟨s, m, h1, _⟩ := fin_parts ha
  obtain ⟨t, n, h2, _⟩ := fin_parts hb
  show ∃ r, ((Ieee.double.read a).sum (Ieee.double.read b)).map Ieee.double.write = some r ∧ _
  rw [h1, h2]
  exact ⟨_, rfl, nearest_num _ _ _⟩
theorem sub_fin {a b : Nat} (ha : finB a = true) (hb : finB b = true) : ∃ s, floatBits .sub .f64 a b = some s ∧ fnan s = false := by
  obtain ⟨s, m, h1, _⟩ := fin_parts ha
  obtain ⟨t, n, h2, _⟩ := fin_parts hb
  show ∃ r, ((Ieee.double.read a).sum (Ieee.double.read b).opposite).map Ieee.double.write = some r ∧ _
  rw [h1, h2]
  exact ⟨_, rfl, nearest_num _ _ _⟩
theorem sgn_scale (x : Int) (k : Nat) : (0 < x * (2 ^ k : Nat) ↔ 0 < x) ∧ (x * (2 ^ k : Nat) < 0 ↔ x < 0) := by
  have hp : (0 : Int) < (2 ^ k : Nat) := by exact_mod_cast Nat.two_pow_pos k
  generalize ((2 ^ k : Nat) : Int) = P at hp ⊢
  constructor
  · constructor
    · intro h
      exact Int.pos_of_mul_pos_left h hp
    · intro h; exact Int.mul_pos h hp
  · constructor
    · intro h
      have h2 : 0 < (-x) * P := by rw [Int.neg_mul]; omega
      have := Int.pos_of_mul_pos_left h2 hp
      omega
    · intro h
      have := Int.mul_pos (show 0 < -x by omega) hp
      rw [Int.neg_mul] at this
      omega

/-- the sign of what a fused product tells -/
theorem fma_sign {x y z : Nat} (hx : finB x = true) (hy : finB y = true) (hz : finB z = true) (hp : -1074 ≤ plc x + plc y) : ∃ r, FloatKind.f64.format.fma x y z = some r ∧ fnan r = false ∧ sgF r = (if 0 < fk x * fk y + fk z * (2 ^ 1074 : Nat) then 1 else if fk x * fk y + fk z * (2 ^ 1074 : Nat) < 0 then -1 else 0) := by
  obtain ⟨s, m, h1, p1⟩ := fin_parts hx
  obtain ⟨t, n, h2, p2⟩ := fin_parts hy
  obtain ⟨v, l, h3, p3⟩ := fin_parts hz
  obtain ⟨i, hi⟩ : ∃ i, i = plc x := ⟨_, rfl⟩
  obtain ⟨j, hj⟩ : ∃ j, j = plc y := ⟨_, rfl⟩
  obtain ⟨k, hk⟩ : ∃ k, k = plc z := ⟨_, rfl⟩
  rw [← hi] at h1 p1 hp
  rw [← hj] at h2 p2 hp
  rw [← hk] at h3 p3
  obtain ⟨K, hK⟩ : ∃ K : Nat, K = 1074 := ⟨_, rfl⟩
  have hfma : FloatKind.f64.format.fma x y z = (((Ieee.double.read x).product (Ieee.double.read y)).bind (·.sum (Ieee.double.read z))).map Ieee.double.write := rfl
  rw [hfma, fk_parts h1, fk_parts h2, fk_parts h3, h1, h2, h3, ← hK]
  obtain ⟨base, hb⟩ : ∃ base, base = min (i + j) k := ⟨_, rfl⟩
  have hbase : -1074 ≤ base := by omega
  obtain ⟨T, hT⟩ : ∃ T, T = signed (s ^^ t) (m * n) (i + j - base).toNat + signed v l (k - base).toNat := ⟨_, rfl⟩
  refine ⟨Ieee.double.nearest (if T = 0 then (s ^^ t) && v else T < 0) T.natAbs base, by rw [hT, hb]; rfl, nearest_num _ _ _, ?_⟩
  rw [(sgF_write _ _ _ hbase).2]
  -- the total, in units of both
  have hS : signed s m (i + 1074).toNat * signed t n (j + 1074).toNat + signed v l (k + 1074).toNat * (2 ^ K : Nat) = T * (2 ^ (base + 2148).toNat : Nat) := by
    have a1 : signed s m (i + 1074).toNat * signed t n (j + 1074).toNat = signed (s ^^ t) (m * n) (i + j - base).toNat * (2 ^ (base + 2148).toNat : Nat) := by
      rw [← signed_add, signed_mul, signed_mul, signed_mul]
      have e : (i + j - base).toNat + (base + 2148).toNat = (i + 1074).toNat + (j + 1074).toNat := by omega
      rw [e, Nat.pow_add, Int.natCast_mul, Int.natCast_mul]
      generalize ((2 ^ (i + 1074).toNat : Nat) : Int) = A
      generalize ((2 ^ (j + 1074).toNat : Nat) : Int) = B
      have hc : (if (s ^^ t) = true then (-1 : Int) else 1) = (if s = true then -1 else 1) * (if t = true then -1 else 1) := by cases s <;> cases t <;> rfl
      rw [hc]
      generalize (if s = true then (-1 : Int) else 1) = c1
      generalize (if t = true then (-1 : Int) else 1) = c2
      ac_rfl
    have a2 : signed v l (k + 1074).toNat * (2 ^ K : Nat) = signed v l (k - base).toNat * (2 ^ (base + 2148).toNat : Nat) := by
      rw [← signed_add, ← signed_add]
      congr 1
      omega
    rw [a1, a2, hT, Int.add_mul]
  rw [hS]
  have hs := sgn_scale T (base + 2148).toNat
  generalize T * ((2 ^ (base + 2148).toNat : Nat) : Int) = X at hs ⊢
  by_cases h0 : T = 0
  · subst h0
    have : ¬ 0 < X ∧ ¬ X < 0 := by omega
    rw [if_neg this.1, if_neg this.2]
    rfl
  · rw [if_neg (by omega : ¬ T.natAbs = 0), if_neg h0]
    by_cases h1 : 0 < T
    · rw [if_pos (hs.1.2 h1), if_neg (by simp; omega)]
    · have : T < 0 := by omega
      rw [if_neg (fun h => h1 (hs.1.1 h)), if_pos (hs.2.2 this), if_pos (by simpa using this)]

end Go.Proofs.YtkfhbnfoiicioaaGreatDoor
