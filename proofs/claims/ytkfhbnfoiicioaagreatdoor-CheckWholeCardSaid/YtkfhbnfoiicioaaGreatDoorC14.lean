import Derived.Test.YtkfhbnfoiicioaaGreatDoorC13
/- round.step, settle, FMA, negation: the walks -/
set_option linter.unusedSimpArgs false
set_option linter.unusedVariables false
namespace Go.Proofs.YtkfhbnfoiicioaaGreatDoor
open Go.RowKit Go.Sort

theorem run_fma {x y z r : Nat} (h : FloatKind.f64.format.fma x y z = some r) (w : World) : (callFunc 60 #[.float .f64 x, .float .f64 y, .float .f64 z]).run Tryz.prog w = .ok (.value (.float .f64 r)) w := by
  have hrun : Extern.MathFMA.fma #[.float .f64 x, .float .f64 y, .float .f64 z] = pure (.float .f64 r) := by
    show (match FloatKind.f64.format.fma x y z with
      | some r => (pure (.float .f64 r) : Sem Value)
      | none => _) = _
    rw [h]
  rw [run_callFunc_extern (e := Extern.MathFMA.fma) Tryz.func60 (by kernel_rfl) (by kernel_rfl) (by kernel_rfl) (by kernel_rfl), hrun]
  rfl
set_option maxRecDepth 100000 in
set_option maxHeartbeats 2000000 in
theorem step_any (u : Nat) (up : Bool) (w : World) (hu : u < 18446744073709551616) (hn : fnan u = false) : Calls Tryz.prog 81 #[.float .f64 u, .bool up] w fun e w' => e = .returned (.float .f64 (stepF u up)) ∧ w = w' := by
  have hl := num_le hn
  unfold stepF
  cases h0 : feq u 0
  · have hz := feq_zero hu
    rw [h0] at hz
    have hz2 := of_decide_eq_false hz.symm
    have e1 : IntKind.u64.wrap ((u : Int) + 1) = ((u + 1 : Nat) : Int) := by rw [IntKind.wrap_u64]; omega
    have e2 : IntKind.u64.wrap ((u : Int) - 1) = ((u - 1 : Nat) : Int) := by rw [IntKind.wrap_u64]; omega
    unfold feq at h0
    rw [if_neg (by decide)]
    obtain ⟨g, hg⟩ : ∃ g, fgt u 0 = g := ⟨_, rfl⟩
    rw [hg]
    unfold fgt at hg
    clear hz hz2 hl hn
    cases up <;> cases g
    · rw [if_pos rfl]
      go_enter Tryz.func81, Tryz.ntmps81
      go_wp2_with fail
      go_ret
      exact ⟨by first | rfl | (congr 2; omega), rfl⟩
    · rw [if_neg (by decide)]
      go_enter Tryz.func81, Tryz.ntmps81
      go_wp2_with fail
      go_ret
      exact ⟨by first | rfl | (congr 2; omega), rfl⟩
    · rw [if_neg (by decide)]
      go_enter Tryz.func81, Tryz.ntmps81
      go_wp2_with fail
      go_ret
      exact ⟨by first | rfl | (congr 2; omega), rfl⟩
    · rw [if_pos rfl]
      go_enter Tryz.func81, Tryz.ntmps81
      go_wp2_with fail
      go_ret
      exact ⟨by first | rfl | (congr 2; omega), rfl⟩
  · rw [if_pos rfl]
    unfold feq at h0
    have b1 : bits BinOp.or IntKind.u64 1 9223372036854775808 = 9223372036854775809 := by decide +kernel
    clear hl hn
    cases up
    · rw [if_neg (by decide)]
      go_enter Tryz.func81, Tryz.ntmps81
      go_wp2_with fail
      go_ret
      exact ⟨rfl, rfl⟩
    · rw [if_pos rfl]
      go_enter Tryz.func81, Tryz.ntmps81
      go_wp2_with fail
      go_ret
      exact ⟨rfl, rfl⟩

end Go.Proofs.YtkfhbnfoiicioaaGreatDoor
