import Derived.Test.YtkfhbnfoiicioaaGreatDoorC41
import Derived.Test.YtkfhbnfoiicioaaGreatDoorOP
import Derived.Test.YtkfhbnfoiicioaaGreatDoorCards
import Derived.Test.YtkfhbnfoiicioaaGreatDoorTie
import Derived.SevenTiedAt
import Derived.LaidMore
import Derived.Stop.Joined
import Derived.Lib.LaidTab
import Derived.DataShut
/- what a verdict reads as, opened -/
set_option linter.unusedSimpArgs false
set_option linter.unusedVariables false
namespace Go.Proofs.YtkfhbnfoiicioaaGreatDoor
open Go.RowKit Go.Sort

theorem own : ownKnob Tryz.prog.godebug = none := by kernel_rfl
theorem laidOut : laidOutB Tryz.prog = true := by kernel_rfl
theorem opens_spn : Opens Tryz.prog 24 Spn.cells (fun _ x => x.lo < 18446744073709551616 ∧ x.hi < 18446744073709551616) :=
  (opens_struct Tryz.underlying24 (by kernel_rfl) (opensF_cons (opens_float Tryz.underlying22) rfl (opensF_cons (opens_float Tryz.underlying22) (by kernel_rfl) opensF_nil))).map (fun x => ⟨x.1, x.2.1⟩) (fun _ => rfl) (fun _ _ h => ⟨h.1, h.2.1⟩)
theorem opens_vd : Opens Tryz.prog 42 Vd.cells (fun _ _ => True) :=
  (opens_struct Tryz.underlying42 (by kernel_rfl) (opensF_cons (opens_bool Tryz.underlying4) rfl (opensF_cons (opens_int Tryz.underlying3) (by kernel_rfl) (opensF_cons (opens_int Tryz.underlying36) (by kernel_rfl) (opensF_cons opens_spn (by kernel_rfl) (opensF_cons (opens_int Tryz.underlying3) (by kernel_rfl) opensF_nil)))))).map (fun x => ⟨x.1, x.2.1, x.2.2.1, x.2.2.2.1.lo, x.2.2.2.1.hi, x.2.2.2.2.1⟩) (fun _ => rfl) (fun _ _ _ => trivial)
theorem opens_vds : Opens Tryz.prog 33 (fun x : SlV Vd => [Value.slice x.A x.xs.length x.c]) (OkSl Tryz.prog 42 Vd.cells 6 fun _ _ => True) :=
  opens_slice Tryz.underlying33 (by kernel_rfl) (by omega) Vd.clen opens_vd
theorem bytes_vd : Tryz.prog.bytesOf 42 = 48 := by kernel_rfl

end Go.Proofs.YtkfhbnfoiicioaaGreatDoor
