import Derived.Test.YtkfhbnfoiicioaaDoorC26
import Derived.Test.YtkfhbnfoiicioaaDoorOP
import Derived.Test.YtkfhbnfoiicioaaDoorCards
import Derived.Test.YtkfhbnfoiicioaaDoorTie
import Derived.SevenTiedAt
import Derived.LaidMore
import Derived.Stop.Joined
import Derived.Lib.LaidTab
import Derived.DataShut
/- what a span reads as, opened -/
set_option linter.unusedSimpArgs false
set_option linter.unusedVariables false
namespace Go.Proofs.YtkfhbnfoiicioaaDoor
open Go.RowKit Go.Sort

theorem own : ownKnob Tryd.prog.godebug = none := by kernel_rfl
theorem laidOut : laidOutB Tryd.prog = true := by kernel_rfl
theorem opens_spn : Opens Tryd.prog 24 Spn.cells (fun _ x => x.lo < 18446744073709551616 ∧ x.hi < 18446744073709551616) :=
  (opens_struct Tryd.underlying24 (by kernel_rfl) (opensF_cons (opens_float Tryd.underlying22) rfl (opensF_cons (opens_float Tryd.underlying22) (by kernel_rfl) opensF_nil))).map (fun x => ⟨x.1, x.2.1⟩) (fun _ => rfl) (fun _ _ h => ⟨h.1, h.2.1⟩)

end Go.Proofs.YtkfhbnfoiicioaaDoor
