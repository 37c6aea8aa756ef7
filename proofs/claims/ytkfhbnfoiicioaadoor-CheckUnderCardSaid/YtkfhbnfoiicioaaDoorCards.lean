/-
  DERIVED. GIVEN WITH THE SEED: THE CARDS: each row of YtkfhbnfoiicioaaDoorRows.lean that lists a variable, with what it lists TIED to the program's text (the seventh form; the later family's looks); each row that meets fmt, with fmt's text TOLD by the authors' own Lean function (tested against real Go, not proved from fmt's source: count such statements apart). THE CARD IS WHAT COUNTS. Prove the row's statement (the work); the ties are given (YtkfhbnfoiicioaaDoorTie.lean); close each card by the builder's one call (the guide's Derived/Test/ToyasCard.lean, 'card_holds'). Laid BY PROGRAM, IN A SANDBOX (cutbox-door.mjs). By AI agents, Wed Nov 11 2026. No macro, syntax, notation, axiom, sorry.
-/
import Derived.Test.YtkfhbnfoiicioaaDoorRows
import GoSem.ClaimSeven
namespace Go.Proofs.YtkfhbnfoiicioaaDoor
namespace Rows

/-- THE TIED CARD OF 'girderlaw29.CheckUnder'. -/
def checkUnderCard : Claim7 := { stood := { row := checkUnderRow, standIns := [], harness := (true, "86d6c6bf9911bc3fec70e0cf44ee3d2cf0337faf9c813c61be3386650d55c345"), looks := false }, kinds := [], alts := [], laidByText := true, laidKinds := [.data], laidTests := true, laidLooks := .later }
def CheckUnderCardSaid : Prop := Claim7.holds Tryd.pinned (.plain (OpenSpec.ofChange checkUnderSpec)) checkUnderCard

/-- THE SECOND FORM's CARD OF 'girderlaw29.CheckUnder'. -/
def checkUnderUptoCard : Claim7 := { stood := { row := checkUnderUptoRow, standIns := [], harness := (true, "86d6c6bf9911bc3fec70e0cf44ee3d2cf0337faf9c813c61be3386650d55c345"), looks := false }, kinds := [], alts := [], laidByText := true, laidKinds := [.data], laidTests := true, laidLooks := .later }
def CheckUnderUptoCardSaid : Prop := Claim7.holds Tryd.pinned (.plain (OpenSpec.upto checkUnderSpec)) checkUnderUptoCard
end Rows
end Go.Proofs.YtkfhbnfoiicioaaDoor
