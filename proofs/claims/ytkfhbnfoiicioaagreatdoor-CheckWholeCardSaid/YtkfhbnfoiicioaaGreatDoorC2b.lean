import Derived.Test.YtkfhbnfoiicioaaGreatDoorC2
/- SameFloat, SameSpan: the walks -/
set_option linter.unusedSimpArgs false
set_option linter.unusedVariables false
namespace Go.Proofs.YtkfhbnfoiicioaaGreatDoor
open Go.RowKit Go.Sort

def sameF (a b : Nat) : Bool := decide ((a : Int) = b) || (!feq a a && !feq b b)
theorem sameF_any (a b : Nat) (w : World) :
    Calls Tryz.prog 26 #[.float .f64 a, .float .f64 b] w fun e w' => e = .returned (.bool (sameF a b)) ∧ w = w' := by
  unfold sameF
  cases h1 : ((a : Int) == b) <;> cases h2 : feq a a
  all_goals
    have h2' := h2
    unfold feq at h2'
    have h3 : (FloatKind.f64.format.order a a != some .eq) = !(FloatKind.f64.format.order a a == some .eq) := rfl
    rw [h2'] at h3
    simp only [Bool.not_false, Bool.not_true] at h3
    have H2 := Lib.hid h2
    clear h2 h2'
    go_enter Tryz.func26, Tryz.ntmps26
    go_wp2
    go_ret
    refine ⟨?_, rfl⟩
    simp_all [feq, H2.out]
    try rfl

theorem sameSpan_any (x y : Spn) (w : World) :
    Calls Tryz.prog 8 #[x.val, y.val] w fun e w' => e = .returned (.bool (sameF x.lo y.lo && sameF x.hi y.hi)) ∧ Below w.heap.size w w' := by
  obtain ⟨a, b⟩ := x
  obtain ⟨c, d⟩ := y
  have i1 := sameF_any
  have I1 := Lib.hid i1
  clear i1
  cases h1 : sameF a c <;> cases h2 : sameF b d
  all_goals
    have H1 := Lib.hid h1
    have H2 := Lib.hid h2
    clear h1 h2
    go_enter Tryz.func8, Tryz.ntmps8
    go_wp2_with (go_at_call 26; refine (I1.out _ _ _).mono ?_; rintro e w' ⟨rfl, rfl⟩; first | rw [H1.out] | rw [H2.out])
    go_ret
    exact ⟨by simp [H1.out, H2.out], below2 ..⟩



end Go.Proofs.YtkfhbnfoiicioaaGreatDoor
