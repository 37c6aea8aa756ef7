import Derived.Test.YtkfhbnfoiicioaaGreatDoorC5
/- sums rounded to either side (plain) -/
set_option linter.unusedSimpArgs false
set_option linter.unusedVariables false
namespace Go.Proofs.YtkfhbnfoiicioaaGreatDoor
open Ieee

def negF (u : Nat) : Nat := if u < 9223372036854775808 then u + 9223372036854775808 else u - 9223372036854775808
def infB (u : Nat) : Bool := decide (u % 9223372036854775808 = 9218868437227405312)
def sgbB (u : Nat) : Bool := decide (9223372036854775808 ≤ u)
def absF (u : Nat) : Nat := u % 9223372036854775808
def maxF (u : Nat) : Nat := if sgbB u = true then 18442240474082181119 else 9218868437227405311
/-- the float next to x -/
def stepF (u : Nat) (up : Bool) : Nat := if feq u 0 = true then (if up = true then 1 else 9223372036854775809) else if up = fgt u 0 then u + 1 else u - 1
/-- the answer, down (1) or up (2) -/
def setF (near : Nat) (off m : Int) : Nat :=
  if infB near = true then (if (fgt near 0 = true ∧ m = 1) ∨ (flt near 0 = true ∧ m = 2) then maxF near else near)
  else if (off < 0 ∧ m = 1) ∨ (0 < off ∧ m = 2) then stepF near (decide (0 < off)) else near
def noneF (m : Int) : Nat := if m = 1 then 9223372036854775808 else 0
def subF (a b : Nat) : Nat := (floatBits .sub .f64 a b).getD 0
/-- what is lost of a sum -/
def lostF (a b s : Nat) : Nat := if flt (absF a) (absF b) = true then subF a (subF s b) else subF b (subF s a)
def addF (a b : Nat) (m : Int) (s : Nat) : Nat :=
  if (finB a && finB b) = false then s
  else if feq s 0 = true then (if feq a 0 = false ∨ sgbB a ≠ sgbB b then noneF m else s)
  else setF s (if infB s = true then 0 else sgF (lostF a b s)) m
theorem zero_word {u : Nat} (hu : u < 18446744073709551616) (h : feq u 0 = true) : u = 0 ∨ u = 9223372036854775808 := by
  have h2 := (feq_iff u 0).1 h
  rw [fk_zero.2] at h2
  by_cases hf : finB u = true
  · obtain ⟨s, m, hr, hp⟩ := fin_parts hf
    have h3 := fk_parts hr
    rw [h2.2.2] at h3
    have hm : m = 0 := by
      rcases Nat.eq_zero_or_pos m with h0 | h0
      · exact h0
      · exfalso
        have hk : 0 < m * 2 ^ (plc u + 1074).toNat := Nat.mul_pos h0 (Nat.two_pow_pos _)
        unfold signed at h3
        rw [Nat.shiftLeft_eq] at h3
        generalize m * 2 ^ (plc u + 1074).toNat = k at hk h3
        cases s <;> simp at h3 <;> omega
    subst hm
    have e1 : Ieee.double.signWeight = 9223372036854775808 := by decide
    have e2 : Ieee.double.binade = 4503599627370496 := by decide
    have e3 : Ieee.double.infRung = 9218868437227405312 := by decide
    unfold Ieee.Format.read at hr
    simp only [e1, e2, e3] at hr
    by_cases h4 : u % 9223372036854775808 < 4503599627370496
    · rw [if_pos h4] at hr
      injection hr with _ h5 _
      omega
    · rw [if_neg h4] at hr
      by_cases h6 : u % 9223372036854775808 < 9218868437227405312
      · rw [if_pos h6] at hr
        injection hr with _ h5 _
        omega
      · rw [if_neg h6] at hr
        split at hr <;> cases hr
  · have hf2 : finB u = false := by simpa using hf
    have hN := bigN_pos
    rcases fk_inf hf2 with h3 | h3
    · rw [h2.1] at h3; cases h3
    · rw [h2.2.2] at h3
      generalize (bigN : Int) = N at hN h3
      omega
theorem feq_zero {u : Nat} (hu : u < 18446744073709551616) : feq u 0 = decide (u = 0 ∨ u = 9223372036854775808) := by
  by_cases h : feq u 0 = true
  · rw [h, decide_eq_true (zero_word hu h)]
  · have h2 : feq u 0 = false := by simpa using h
    rw [h2, decide_eq_false]
    rintro (rfl | rfl)
    · exact h (by decide +kernel)
    · exact h (by decide +kernel)
theorem num_le {u : Nat} (hn : fnan u = false) : u % 9223372036854775808 ≤ 9218868437227405312 := by
  have e1 : Ieee.double.signWeight = 9223372036854775808 := by decide
  by_cases hle : u % 9223372036854775808 ≤ 9218868437227405312
  · exact hle
  · exfalso
    have e2 : Ieee.double.binade = 4503599627370496 := by decide
    have e3 : Ieee.double.infRung = 9218868437227405312 := by decide
    have hr : ∃ s m, Ieee.double.read u = .nan s m := by
      unfold Ieee.Format.read
      simp only [e1, e2, e3]
      rw [if_neg (by omega), if_neg (by omega), if_neg (by omega)]
      exact ⟨_, _, rfl⟩
    obtain ⟨s, m, hr⟩ := hr
    unfold fnan at hn
    rw [hr] at hn
    cases hn
/-- which sign a number has -/
theorem sgn_word {u : Nat} (hu : u < 18446744073709551616) (hn : fnan u = false) : (fgt u 0 = true ↔ (u < 9223372036854775808 ∧ u ≠ 0)) ∧ (flt u 0 = true ↔ 9223372036854775808 < u) := by
  have e1 : Ieee.double.signWeight = 9223372036854775808 := by decide
  have h1 : Ieee.double.word (decide (9223372036854775808 ≤ u)) (u % 9223372036854775808) = u := by
    unfold Ieee.Format.word
    rw [e1]
    by_cases h : 9223372036854775808 ≤ u
    · simp [h]; omega
    · simp [h]; omega
  have hle := num_le hn
  have h2 := word_sign (decide (9223372036854775808 ≤ u)) hle
  rw [h1] at h2
  have i5 := flt_iff u 0
  have i6 := fgt_iff u 0
  rw [fk_zero.1, fk_zero.2] at i5 i6
  rw [i5, i6]
  obtain ⟨_, h3, h4⟩ := h2
  generalize fk u = x at *
  by_cases h0 : u % 9223372036854775808 = 0
  · have := h3 h0
    subst this
    simp
    omega
  · have h5 := h4 (by omega)
    by_cases hs : 9223372036854775808 ≤ u
    · have := h5.2 (decide_eq_true hs)
      simp [hn]
      omega
    · have := h5.1 (decide_eq_false hs)
      simp [hn]
      omega

def upF (x : Nat) : Nat := if feq x 0 = true then 1 else if fgt x 0 = true then x + 1 else x - 1
def downF (x : Nat) : Nat := negF (upF (negF x))
def sideF (s : Nat) (e m : Int) : Nat := if e < 0 ∧ m = 1 then downF s else if 0 < e ∧ m = 2 then upF s else s
def greatF (s : Nat) (m : Int) : Nat := if (fgt s 0 = true ∧ m = 1) ∨ (flt s 0 = true ∧ m = 2) then maxF s else s
theorem step_up {u : Nat} : stepF u true = upF u := by
  unfold stepF upF
  cases feq u 0 <;> cases fgt u 0 <;> rfl
theorem negF_num {u : Nat} (hu : u < 18446744073709551616) (hn : fnan u = false) : fnan (negF u) = false ∧ negF u < 18446744073709551616 := by
  have e1 : Ieee.double.signWeight = 9223372036854775808 := by decide
  have e2 : Ieee.double.binade = 4503599627370496 := by decide
  have e3 : Ieee.double.infRung = 9218868437227405312 := by decide
  have hl : negF u < 18446744073709551616 := by unfold negF; split <;> omega
  have hm : negF u % 9223372036854775808 = u % 9223372036854775808 := by unfold negF; split <;> omega
  refine ⟨?_, hl⟩
  unfold fnan at hn ⊢
  unfold Ieee.Format.read at hn ⊢
  simp only [e1, e2, e3, hm] at hn ⊢
  split
  · rfl
  · rename_i h1
    rw [if_neg h1] at hn
    split
    · rfl
    · rename_i h2
      rw [if_neg h2] at hn
      split
      · rfl
      · rename_i h3
        rw [if_neg h3] at hn
        cases hn
theorem step_down {u : Nat} (hu : u < 18446744073709551616) (hn : fnan u = false) : stepF u false = downF u := by
  have h1 := negF_num hu hn
  have s1 := sgn_word hu hn
  have s2 := sgn_word h1.2 h1.1
  unfold downF upF stepF
  rw [feq_zero hu, feq_zero h1.2]
  by_cases h0 : u = 0 ∨ u = 9223372036854775808
  · have h2 : negF u = 0 ∨ negF u = 9223372036854775808 := by unfold negF; split <;> omega
    rw [decide_eq_true h0, decide_eq_true h2]
    simp only [if_true, Bool.false_eq_true, if_false]
    unfold negF
    rw [if_pos (by decide)]
  · have h2 : ¬ (negF u = 0 ∨ negF u = 9223372036854775808) := by unfold negF; split <;> omega
    rw [decide_eq_false h0, decide_eq_false h2]
    simp only [Bool.false_eq_true, if_false]
    by_cases hs : u < 9223372036854775808
    · have a1 : fgt u 0 = true := s1.1.2 ⟨hs, by omega⟩
      have a2 : ¬ fgt (negF u) 0 = true := fun h => by have := s2.1.1 h; unfold negF at this; rw [if_pos hs] at this; omega
      rw [a1, if_neg a2, if_neg (by decide)]
      unfold negF
      rw [if_pos hs, if_neg (by omega)]
      omega
    · have a1 : fgt u 0 = false := by
        cases h : fgt u 0
        · rfl
        · have := s1.1.1 h; omega
      have a2 : fgt (negF u) 0 = true := s2.1.2 (by unfold negF; rw [if_neg hs]; omega)
      rw [a1, if_pos a2, if_pos rfl]
      have hle : u - 9223372036854775808 + 1 < 9223372036854775808 := by
        have := num_le hn
        omega
      unfold negF
      rw [if_neg hs, if_pos hle]
      omega
/-- both sides' last step -/
theorem set_side {s : Nat} {e m : Int} (hs : s < 18446744073709551616) (hn : fnan s = false) (hi : infB s = false) : setF s e m = sideF s e m := by
  unfold setF sideF
  rw [hi]
  simp only [Bool.false_eq_true, if_false]
  by_cases h1 : e < 0 ∧ m = 1
  · rw [if_pos (.inl h1), if_pos h1, decide_eq_false (by omega), step_down hs hn]
  · rw [if_neg h1]
    by_cases h2 : 0 < e ∧ m = 2
    · rw [if_pos (.inr h2), if_pos h2, decide_eq_true h2.1, step_up]
    · rw [if_neg h2, if_neg (by omega)]
theorem set_great {s : Nat} {e m : Int} (hi : infB s = true) : setF s e m = greatF s m := by
  unfold setF greatF
  rw [hi, if_pos rfl]

theorem add_sign {a b : Nat} (ha : finB a = true) (hb : finB b = true) : ∃ s, floatBits .add .f64 a b = some s ∧ fnan s = false ∧ sgF s = (if 0 < fk a + fk b then 1 else if fk a + fk b < 0 then -1 else 0) := by
  obtain ⟨s, m, h1, p1⟩ := fin_parts ha
  obtain ⟨t, n, h2, p2⟩ := fin_parts hb
  obtain ⟨i, hi⟩ : ∃ i, i = plc a := ⟨_, rfl⟩
  obtain ⟨j, hj⟩ : ∃ j, j = plc b := ⟨_, rfl⟩
  rw [← hi] at h1 p1
  rw [← hj] at h2 p2
  have hadd : floatBits .add .f64 a b = ((Ieee.double.read a).sum (Ieee.double.read b)).map Ieee.double.write := rfl
  rw [hadd, fk_parts h1, fk_parts h2, h1, h2]
  obtain ⟨base, hbs⟩ : ∃ base, base = min i j := ⟨_, rfl⟩
  have hbase : -1074 ≤ base := by omega
  obtain ⟨T, hT⟩ : ∃ T, T = signed s m (i - base).toNat + signed t n (j - base).toNat := ⟨_, rfl⟩
  refine ⟨Ieee.double.nearest (if T = 0 then s && t else T < 0) T.natAbs base, by rw [hT, hbs]; rfl, nearest_num _ _ _, ?_⟩
  rw [(sgF_write _ _ _ hbase).2]
  have hS : signed s m (i + 1074).toNat + signed t n (j + 1074).toNat = T * (2 ^ (base + 1074).toNat : Nat) := by
    have a1 : signed s m (i + 1074).toNat = signed s m (i - base).toNat * (2 ^ (base + 1074).toNat : Nat) := by
      rw [← signed_add]; congr 1; omega
    have a2 : signed t n (j + 1074).toNat = signed t n (j - base).toNat * (2 ^ (base + 1074).toNat : Nat) := by
      rw [← signed_add]; congr 1; omega
    rw [a1, a2, hT, Int.add_mul]
  rw [hS]
  have hs := sgn_scale T (base + 1074).toNat
  generalize T * ((2 ^ (base + 1074).toNat : Nat) : Int) = X at hs ⊢
  by_cases h0 : T = 0
  · subst h0
    have : ¬ 0 < X ∧ ¬ X < 0 := by omega
    rw [if_neg this.1, if_neg this.2]
    rfl
  · rw [if_neg (by omega : ¬ T.natAbs = 0), if_neg h0]
    by_cases h1 : 0 < T
    · rw [if_pos (hs.1.2 h1), if_neg (by simp; omega)]
    · have : T < 0 := by omega
      rw [if_neg (fun h => h1 (hs.1.1 h)), if_pos (hs.2.2 this), if_pos (by simpa using this)]
/-- the document's sum -/
def noughtF (zero : Bool) (neg : Bool) (b : Nat) (m : Int) : Nat := if zero = true ∧ feq b 0 = true ∧ neg = sgbB b then b else noneF m
def raddF (a b : Nat) (m : Int) (s : Nat) : Nat :=
  if (finB a && finB b) = false then s
  else if finB s = false then greatF s m
  else if feq s 0 = true then noughtF (feq a 0) (sgbB a) b m
  else sideF s (sgF (lostF a b s)) m
theorem fin_inf {s : Nat} (hn : fnan s = false) : infB s = !finB s := by
  have := num_le hn
  unfold infB finB
  by_cases h : s % 9223372036854775808 = 9218868437227405312
  · rw [decide_eq_true h, decide_eq_false (by omega)]; rfl
  · rw [decide_eq_false h, decide_eq_true (by omega)]; rfl
theorem zero_fin {s : Nat} (h : feq s 0 = true) : finB s = true := by
  have h2 := (feq_iff s 0).1 h
  rw [fk_zero.2] at h2
  cases hf : finB s
  · have hN := bigN_pos
    rcases fk_inf hf with h3 | h3
    · rw [h2.1] at h3; cases h3
    · rw [h2.2.2] at h3
      generalize (bigN : Int) = N at hN h3
      omega
  · rfl
theorem add_eq {a b s : Nat} {m : Int} (ha : a < 18446744073709551616) (hb : b < 18446744073709551616) (hs : s < 18446744073709551616) (hr : floatBits .add .f64 a b = some s) (hn : fnan s = false) : addF a b m s = raddF a b m s := by
  unfold addF raddF
  by_cases hf : (finB a && finB b) = false
  · rw [if_pos hf, if_pos hf]
  · rw [if_neg hf, if_neg hf]
    have hf2 : finB a = true ∧ finB b = true := by
      cases h1 : finB a <;> cases h2 : finB b <;> simp [h1, h2] at hf <;> exact ⟨rfl, rfl⟩
    obtain ⟨s', hr', _, hsg⟩ := add_sign hf2.1 hf2.2
    obtain rfl : s = s' := by rw [hr] at hr'; injection hr'
    have hfi := fin_inf hn
    by_cases h0 : feq s 0 = true
    · have hfs := zero_fin h0
      rw [if_pos h0, if_neg (show ¬ finB s = false by rw [hfs]; decide), if_pos h0]
      unfold noughtF
      by_cases ha0 : feq a 0 = true
      · -- then b is a nought, too
        have z1 := (feq_iff a 0).1 ha0
        have z2 := (feq_iff s 0).1 h0
        rw [fk_zero.2] at z1 z2
        have hsg0 : sgF s = 0 := by
          rw [sgF_of hn, z2.2.2]; rfl
        rw [hsg0, z1.2.2, Int.zero_add] at hsg
        have hfb : fk b = 0 := by
          generalize fk b = y at hsg
          by_cases h1 : 0 < y
          · rw [if_pos h1] at hsg; cases hsg
          · by_cases h2 : y < 0
            · rw [if_neg h1, if_pos h2] at hsg; cases hsg
            · omega
        have hb0 : feq b 0 = true := (feq_iff b 0).2 ⟨(fk_fin hf2.2).1, fk_zero.1, by rw [hfb, fk_zero.2]⟩
        rw [ha0, hb0]
        by_cases hsn : sgbB a = sgbB b
        · rw [if_neg (by simp [hsn]), if_pos ⟨rfl, rfl, hsn⟩]
          have w1 := zero_word ha ha0
          have w2 := zero_word hb hb0
          have r0 : floatBits .add .f64 0 0 = some 0 := by decide +kernel
          have r1 : floatBits .add .f64 9223372036854775808 9223372036854775808 = some 9223372036854775808 := by decide +kernel
          rcases w1 with rfl | rfl <;> rcases w2 with rfl | rfl
          · rw [r0] at hr; injection hr with hr; exact hr.symm
          · exact absurd hsn (by decide)
          · exact absurd hsn (by decide)
          · rw [r1] at hr; injection hr with hr; exact hr.symm
        · rw [if_pos (.inr hsn), if_neg (fun h => hsn h.2.2)]
      · have ha1 : feq a 0 = false := by simpa using ha0
        rw [if_pos (.inl ha1), if_neg (fun h => ha0 h.1)]
    · rw [if_neg h0]
      cases hfs : finB s
      · rw [hfs] at hfi
        rw [if_pos (show infB s = true from hfi), if_pos (rfl : false = false), set_great hfi]
      · rw [hfs] at hfi
        have hfi2 : infB s = false := hfi
        rw [if_neg (show ¬ (true = false) by decide), if_neg h0, if_neg (show ¬ infB s = true by rw [hfi2]; decide), set_side hs hn hfi2]

end Go.Proofs.YtkfhbnfoiicioaaGreatDoor
