import Derived.Test.YtkfhbnfoiicioaaGreatDoorC6
/- span.Right, SameSpan, check.Under and the document's: the walks -/
set_option linter.unusedSimpArgs false
set_option linter.unusedVariables false
namespace Go.Proofs.YtkfhbnfoiicioaaGreatDoor
open Go.RowKit Go.Sort

@[go_sem] theorem frombits_run (n : Int) (w : World) : (callFunc 48 #[.int .u64 n]).run Tryz.prog w = .ok (.value (.float .f64 n.toNat)) w :=
  (run_callFunc_extern (P := Tryz.prog) (e := Extern.MathFloatBits.float64frombits) Tryz.func48 (by kernel_rfl) (by kernel_rfl) (by kernel_rfl) (by kernel_rfl) _ w).trans rfl
@[go_sem] theorem floatbits_run (n : Nat) (w : World) : (callFunc 46 #[.float .f64 n]).run Tryz.prog w = .ok (.value (.int .u64 n)) w :=
  (run_callFunc_extern (P := Tryz.prog) (e := Extern.MathFloatBits.float64bits) Tryz.func46 (by kernel_rfl) (by kernel_rfl) (by kernel_rfl) (by kernel_rfl) _ w).trans rfl
@[go_sem] theorem store_float_run (P : Program) (w : World) (a : Addr) (m : Mode) (k : FloatKind) (b : Nat) : (store a (.float k b) m).run P w = stored P w a (.float k b) m := run_store P w a _ m rfl

theorem inf_pos (w : World) :
    Calls Tryz.prog 29 #[.int .i64 1] w fun e w' => e = .returned (.float .f64 9218868437227405312) ∧ w = w' := by
  go_enter Tryz.func29, Tryz.ntmps29
  go_wp2
  all_goals (go_ret; exact ⟨rfl, rfl⟩)
theorem inf_neg (w : World) :
    Calls Tryz.prog 29 #[.int .i64 (-1)] w fun e w' => e = .returned (.float .f64 18442240474082181120) ∧ w = w' := by
  go_enter Tryz.func29, Tryz.ntmps29
  go_wp2
  all_goals (go_ret; exact ⟨rfl, rfl⟩)

structure Spn where
  lo : Nat
  hi : Nat
abbrev Spn.val (x : Spn) : Value := .agg #[.float .f64 x.lo, .float .f64 x.hi]
set_option maxHeartbeats 1000000 in
theorem right_any (x : Spn) (w : World) :
    Calls Tryz.prog 14 #[x.val] w fun e w' => e = .returned (.bool (spB x.lo x.hi)) ∧ Below w.heap.size w w' := by
  obtain ⟨a, b⟩ := x
  have i1 := inf_pos
  have i2 := inf_neg
  have I1 := Lib.hid i1
  have I2 := Lib.hid i2
  clear i1 i2
  have hv : spB a b = (fle a b && (flt a 9218868437227405312 && fgt b 18442240474082181120)) := rfl
  rw [hv]
  clear hv
  cases h1 : fle a b <;> cases h2 : flt a 9218868437227405312
  all_goals
    have h1' := h1
    unfold fle at h1
    unfold flt at h2
    go_enter Tryz.func14, Tryz.ntmps14
    go_wp2_with fail
    go_quiet (first
      | (go_at_call_of 29 (Value.int IntKind.i64 1); exact Calls.quiet_of_same ((I1.out _).mono fun _ _ ⟨h, h'⟩ => ⟨h, h'.symm⟩))
      | (go_at_call 29; exact Calls.quiet_of_same ((I2.out _).mono fun _ _ ⟨h, h'⟩ => ⟨h, h'.symm⟩)))
    go_wp2
    go_ret
    refine ⟨?_, below_drewN (below1 ..) _⟩
    simp [h1', h2, flt, fgt]

/-- what Under tells -/
def underI (lo hi most : Nat) : Int := if (!spB lo hi || !feq most most) = true then 0 else if fle hi most = true then 1 else if fgt lo most = true then 2 else 0

end Go.Proofs.YtkfhbnfoiicioaaGreatDoor
