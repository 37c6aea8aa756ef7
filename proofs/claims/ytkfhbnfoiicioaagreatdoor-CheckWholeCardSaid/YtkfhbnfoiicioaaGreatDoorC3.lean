import Derived.Test.YtkfhbnfoiicioaaGreatDoorC1
/- signs of what is written (plain) -/
set_option linter.unusedSimpArgs false
set_option linter.unusedVariables false
namespace Go.Proofs.YtkfhbnfoiicioaaGreatDoor
open Ieee

theorem word_sign (neg : Bool) {g : Nat} (h : g ≤ 9218868437227405312) : fnan (Ieee.double.word neg g) = false ∧ (g = 0 → fk (Ieee.double.word neg g) = 0) ∧ (0 < g → (neg = false → 0 < fk (Ieee.double.word neg g)) ∧ (neg = true → fk (Ieee.double.word neg g) < 0)) := by
  have e1 : Ieee.double.signWeight = 9223372036854775808 := by decide
  have e2 : Ieee.double.binade = 4503599627370496 := by decide
  have e3 : Ieee.double.infRung = 9218868437227405312 := by decide
  have e4 : Ieee.double.leastPlace = -1074 := by decide
  have hN := bigN_pos
  have hw : Ieee.double.word neg g / 9223372036854775808 % 2 = (if neg then 1 else 0) ∧ Ieee.double.word neg g % 9223372036854775808 = g := by
    unfold Ieee.Format.word
    rw [e1]
    cases neg
    · simp only [Bool.false_eq_true, if_false]; omega
    · simp only [if_true]; omega
  have hs : (Ieee.double.word neg g / 9223372036854775808 % 2 == 1) = neg := by rw [hw.1]; cases neg <;> rfl
  have hr : Ieee.double.read (Ieee.double.word neg g) = (if g < 4503599627370496 then .number neg g (-1074) else if g < 9218868437227405312 then .number neg (4503599627370496 + g % 4503599627370496) (-1074 + ((g / 4503599627370496 - 1 : Nat) : Int)) else .infinity neg) := by
    unfold Ieee.Format.read
    simp only [e1, e2, e3, e4, hs, hw.2]
    by_cases h1 : g < 4503599627370496
    · rw [if_pos h1, if_pos h1]
    · rw [if_neg h1, if_neg h1]
      by_cases h2 : g < 9218868437227405312
      · rw [if_pos h2, if_pos h2]
      · rw [if_neg h2, if_neg h2, if_pos (by omega)]
  have hpos : ∀ (m : Nat) (e : Int), 0 < m → (neg = false → 0 < dkey (.number neg m e)) ∧ (neg = true → dkey (.number neg m e) < 0) := by
    intro m e hm
    have hk : 0 < m * 2 ^ (e + 1074).toNat := Nat.mul_pos hm (Nat.two_pow_pos _)
    have e5 : dkey (.number neg m e) = if neg then -((m * 2 ^ (e + 1074).toNat : Nat) : Int) else ((m * 2 ^ (e + 1074).toNat : Nat) : Int) := by
      show signed neg m _ = _
      unfold signed
      rw [Nat.shiftLeft_eq]
    rw [e5]
    generalize m * 2 ^ (e + 1074).toNat = k at hk ⊢
    constructor
    · rintro rfl; simp; omega
    · rintro rfl; simp; omega
  unfold fnan fk
  rw [hr]
  by_cases h1 : g < 4503599627370496
  · rw [if_pos h1]
    refine ⟨rfl, ?_, fun h0 => hpos g _ h0⟩
    rintro rfl
    show signed neg 0 _ = 0
    unfold signed
    cases neg <;> simp
  · rw [if_neg h1]
    by_cases h2 : g < 9218868437227405312
    · rw [if_pos h2]
      exact ⟨rfl, fun h0 => by omega, fun h0 => hpos _ _ (by omega)⟩
    · rw [if_neg h2]
      refine ⟨rfl, fun h0 => by omega, fun h0 => ?_⟩
      show (neg = false → 0 < (if neg then -(bigN : Int) else (bigN : Int))) ∧ (neg = true → (if neg then -(bigN : Int) else (bigN : Int)) < 0)
      generalize (bigN : Int) = N at hN ⊢
      constructor
      · rintro rfl; simpa using hN
      · rintro rfl; simp; omega
/-- what is written of a number is no NaN -/
theorem nearest_word (neg : Bool) (m : Nat) (p : Int) : ∃ g, Ieee.double.nearest neg m p = Ieee.double.word neg g ∧ g ≤ 9218868437227405312 ∧ (m = 0 → g = 0) ∧ (m ≠ 0 → -1074 ≤ p → 0 < g) := by
  have e3 : Ieee.double.infRung = 9218868437227405312 := by decide
  have e4 : Ieee.double.leastPlace = -1074 := by decide
  have e5 : Ieee.double.fractionBits = 52 := by decide
  have e2 : Ieee.double.binade = 4503599627370496 := by decide
  unfold Ieee.Format.nearest
  by_cases h0 : m = 0
  · rw [if_pos h0]
    exact ⟨0, rfl, by omega, fun _ => rfl, fun h => absurd h0 h⟩
  · rw [if_neg h0]
    simp only [e2, e3, e4, e5]
    refine ⟨_, rfl, Nat.min_le_right _ _, fun h => absurd h h0, fun _ hp => ?_⟩
    rw [Nat.lt_min]
    refine ⟨?_, by decide⟩
    obtain ⟨last, hl⟩ : ∃ last, last = max (p + (m.log2 : Int) - ((52 : Nat) : Int)) (-1074) := ⟨_, rfl⟩
    rw [← hl]
    have hcut : 0 < Toward.even.cut neg (m <<< (p - last).toNat) (last - p).toNat := by
      unfold Toward.cut
      simp only
      refine Nat.lt_of_lt_of_le ?_ (Nat.le_add_right _ _)
      by_cases hle : last ≤ p
      · rw [show (last - p).toNat = 0 by omega, Nat.zero_min, Nat.shiftLeft_eq, Nat.shiftLeft_eq, Nat.pow_zero, Nat.mul_one, Nat.div_one]
        exact Nat.mul_pos (by omega) (Nat.two_pow_pos _)
      · rw [show (p - last).toNat = 0 by omega, Nat.shiftLeft_eq, Nat.pow_zero, Nat.mul_one, Nat.shiftLeft_eq, Nat.one_mul]
        have h1 : 2 ^ m.log2 ≤ m := Nat.log2_self_le h0
        refine Nat.div_pos (Nat.le_trans (Nat.pow_le_pow_right (by decide) ?_) h1) (Nat.two_pow_pos _)
        omega
    omega
/-- a sign -/
def sgF (u : Nat) : Int := if fgt u 0 = true then 1 else if flt u 0 = true then -1 else 0
theorem sgF_of {u : Nat} (h : fnan u = false) : sgF u = if 0 < fk u then 1 else if fk u < 0 then -1 else 0 := by
  have p3 := fk_zero
  unfold sgF
  have i5 := flt_iff u 0
  have i6 := fgt_iff u 0
  rw [p3.1, p3.2] at i5 i6
  by_cases h1 : 0 < fk u
  · rw [if_pos (i6.2 ⟨h, rfl, h1⟩), if_pos h1]
  · rw [if_neg (fun h2 => h1 (i6.1 h2).2.2), if_neg h1]
    by_cases h2 : fk u < 0
    · rw [if_pos (i5.2 ⟨h, rfl, h2⟩), if_pos h2]
    · rw [if_neg (fun h3 => h2 (i5.1 h3).2.2), if_neg h2]
theorem sgF_write (neg : Bool) (m : Nat) (p : Int) (hp : -1074 ≤ p) : fnan (Ieee.double.nearest neg m p) = false ∧ sgF (Ieee.double.nearest neg m p) = if m = 0 then 0 else if neg then -1 else 1 := by
  obtain ⟨g, hg, hle, h0, h1⟩ := nearest_word neg m p
  rw [hg]
  have h := word_sign neg hle
  refine ⟨h.1, ?_⟩
  rw [sgF_of h.1]
  by_cases hm : m = 0
  · rw [if_pos hm, h.2.1 (h0 hm)]; rfl
  · rw [if_neg hm]
    have h2 := h.2.2 (h1 hm hp)
    generalize fk (Ieee.double.word neg g) = x at h2 ⊢
    cases neg
    · have := h2.1 rfl
      rw [if_pos this]; rfl
    · have := h2.2 rfl
      rw [if_neg (by omega), if_pos this]; rfl

end Go.Proofs.YtkfhbnfoiicioaaGreatDoor
