import Derived.Test.YtkfhbnfoiicioaaGreatDoorFK
/- rungs and their values (plain) -/
set_option linter.unusedSimpArgs false
set_option linter.unusedVariables false
namespace Go.Proofs.YtkfhbnfoiicioaaGreatDoor

/-- the value of a rung of the floats above 0 (in units of the least one); rungs go on behind the greatest number -/
def Vr (g : Nat) : Nat := if g < 2 ^ 52 then g else (2 ^ 52 + g % 2 ^ 52) * 2 ^ (g / 2 ^ 52 - 1)
theorem Vr_parts {s j : Nat} (hs : s ≤ 2 ^ 53) (hn : j = 0 ∨ 2 ^ 52 ≤ s) : Vr (j * 2 ^ 52 + s) = s * 2 ^ j := by
  unfold Vr
  by_cases h : j * 2 ^ 52 + s < 2 ^ 52
  · rw [if_pos h]
    have : j = 0 := by omega
    subst this
    omega
  · rw [if_neg h]
    have h1 : 2 ^ 52 ≤ s := by omega
    by_cases h2 : s = 2 ^ 53
    · have e1 : (j * 2 ^ 52 + s) % 2 ^ 52 = 0 := by omega
      have e2 : (j * 2 ^ 52 + s) / 2 ^ 52 - 1 = j + 1 := by omega
      rw [e1, e2, h2, Nat.pow_succ]
      omega
    · have e1 : (j * 2 ^ 52 + s) % 2 ^ 52 = s - 2 ^ 52 := by omega
      have e2 : (j * 2 ^ 52 + s) / 2 ^ 52 - 1 = j := by omega
      rw [e1, e2, show 2 ^ 52 + (s - 2 ^ 52) = s by omega]
/-- each rung has its parts -/
theorem rung_has (g : Nat) : ∃ j s, g = j * 2 ^ 52 + s ∧ s < 2 ^ 53 ∧ (j = 0 ∨ 2 ^ 52 ≤ s) := by
  by_cases h : g < 2 ^ 52
  · exact ⟨0, g, by omega, by omega, .inl rfl⟩
  · exact ⟨g / 2 ^ 52 - 1, 2 ^ 52 + g % 2 ^ 52, by omega, by omega, .inr (by omega)⟩
theorem Vr_succ (g : Nat) : Vr g < Vr (g + 1) := by
  obtain ⟨j, s, rfl, h1, h2⟩ := rung_has g
  rw [Vr_parts (by omega) h2, Nat.add_assoc, Vr_parts (by omega) (by omega)]
  exact Nat.mul_lt_mul_of_pos_right (by omega) (Nat.pow_pos (by decide))
theorem Vr_lt {a b : Nat} (h : a < b) : Vr a < Vr b := by
  induction b with
  | zero => omega
  | succ b ih =>
    rcases Nat.lt_or_eq_of_le (Nat.le_of_lt_succ h) with h1 | h1
    · exact Nat.lt_trans (ih h1) (Vr_succ b)
    · rw [h1]; exact Vr_succ b
theorem Vr_le {a b : Nat} (h : a ≤ b) : Vr a ≤ Vr b := by
  rcases Nat.lt_or_eq_of_le h with h1 | h1
  · exact Nat.le_of_lt (Vr_lt h1)
  · rw [h1]; exact Nat.le_refl _
theorem Vr_zero : Vr 0 = 0 := rfl


end Go.Proofs.YtkfhbnfoiicioaaGreatDoor
