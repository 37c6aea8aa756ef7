import Derived.Test.YtkfhbnfoiicioaaGreatDoorC4
/- the order of floats (plain) -/
set_option linter.unusedSimpArgs false
set_option linter.unusedVariables false
namespace Go.Proofs.YtkfhbnfoiicioaaGreatDoor
open Ieee

/-- where a float stands: NaN behind all -/
def keyO (u : Nat) : Int := if fnan u = true then 36893488147419103232 else if 9223372036854775808 ≤ u then -(2 * (u - 9223372036854775808 : Nat) : Int) else 2 * (u : Int) + 1
def ordI (a b : Nat) : Int := if keyO a < keyO b then -1 else if keyO b < keyO a then 1 else 0
def lesF (a b : Nat) : Nat := if ordI b a < 0 then b else a
def greF (a b : Nat) : Nat := if 0 < ordI b a then b else a
theorem keyO_inj {a b : Nat} (ha : a < 18446744073709551616) (hb : b < 18446744073709551616) (na : fnan a = false) (nb : fnan b = false) (h : keyO a = keyO b) : a = b := by
  unfold keyO at h
  rw [na, nb] at h
  simp only [Bool.false_eq_true, if_false] at h
  split at h <;> split at h <;> omega
theorem lesF_or (a b : Nat) : lesF a b = a ∨ lesF a b = b := by unfold lesF; split <;> simp
theorem greF_or (a b : Nat) : greF a b = a ∨ greF a b = b := by unfold greF; split <;> simp
theorem lesF_key (a b : Nat) : lesF a b = if keyO b < keyO a then b else a := by
  unfold lesF ordI
  by_cases h : keyO b < keyO a
  · rw [if_pos h, if_pos (by decide), if_pos h]
  · rw [if_neg h, if_neg h]
    by_cases h2 : keyO a < keyO b
    · rw [if_pos h2, if_neg (by decide)]
    · rw [if_neg h2, if_neg (by decide)]
theorem greF_key (a b : Nat) : greF a b = if keyO a < keyO b then b else a := by
  unfold greF ordI
  by_cases h1 : keyO b < keyO a
  · rw [if_pos h1, if_neg (by decide), if_neg (by omega)]
  · rw [if_neg h1]
    by_cases h2 : keyO a < keyO b
    · rw [if_pos h2, if_pos (by decide), if_pos h2]
    · rw [if_neg h2, if_neg (by decide), if_neg h2]
/-- four in a row, or two and two -/
theorem lesF_four (a b c d : Nat) : lesF (lesF (lesF a b) c) d = lesF (lesF a b) (lesF c d) := by
  obtain ⟨m, hm⟩ : ∃ m, m = lesF a b := ⟨_, rfl⟩
  rw [← hm]
  rw [lesF_key m c, lesF_key c d]
  split
  · rename_i h
    rw [lesF_key c d]
    split
    · rename_i h2
      rw [lesF_key, if_pos (by omega)]
    · rw [lesF_key, if_pos h]
  · rename_i h
    rw [lesF_key m d]
    split
    · rename_i h2
      rw [if_pos (by omega), lesF_key, if_pos h2]
    · rename_i h2
      split
      · rw [lesF_key, if_neg h2]
      · rw [lesF_key, if_neg h]
theorem greF_four (a b c d : Nat) : greF (greF (greF a b) c) d = greF (greF a b) (greF c d) := by
  obtain ⟨m, hm⟩ : ∃ m, m = greF a b := ⟨_, rfl⟩
  rw [← hm]
  rw [greF_key m c, greF_key c d]
  split
  · rename_i h
    rw [greF_key c d]
    split
    · rename_i h2
      rw [greF_key, if_pos (by omega)]
    · rw [greF_key, if_pos h]
  · rename_i h
    rw [greF_key m d]
    split
    · rename_i h2
      rw [if_pos (by omega), greF_key, if_pos h2]
    · rename_i h2
      split
      · rw [greF_key, if_neg h2]
      · rw [greF_key, if_neg h]

end Go.Proofs.YtkfhbnfoiicioaaGreatDoor
