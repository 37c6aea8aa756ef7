/-
  DERIVED. GIVEN WITH THE SEED: THE CARDS: each row of YtkfhbnfoiicioaaGreatDoorRows.lean that lists a variable, with what it lists TIED to the program's text (the seventh form; the later family's looks); each row that meets fmt, with fmt's text TOLD by the authors' own Lean function (tested against real Go, not proved from fmt's source: count such statements apart). THE CARD IS WHAT COUNTS. Prove the row's statement (the work); the ties are given (YtkfhbnfoiicioaaGreatDoorTie.lean); close each card by the builder's one call (the guide's Derived/Test/ToyasCard.lean, 'card_holds'). Laid BY PROGRAM, IN A SANDBOX (cutbox-door.mjs). By AI agents, Wed Nov 11 2026. No macro, syntax, notation, axiom, sorry.
-/
import Derived.Test.YtkfhbnfoiicioaaGreatDoorRows
import GoSem.ClaimSeven
namespace Go.Proofs.YtkfhbnfoiicioaaGreatDoor
namespace Rows

/-- THE TIED CARD OF 'girderlaw29.CheckStress'. -/
def checkStressCard : Claim7 := { stood := { row := checkStressRow, standIns := [], harness := (true, "e773089d4d758003ffb8a155ac5e65c8147c80a92fe409798327879a865adc7b"), looks := false }, kinds := [], alts := [], laidByText := true, laidKinds := [.data], laidTests := true, laidLooks := .later }
def CheckStressCardSaid : Prop := Claim7.holds Tryz.pinned (.plain (OpenSpec.ofChange checkStressSpec)) checkStressCard

/-- THE TIED CARD OF 'girderlaw29.CheckWhole'. -/
def checkWholeCard : Claim7 := { stood := { row := checkWholeRow, standIns := [], harness := (true, "e773089d4d758003ffb8a155ac5e65c8147c80a92fe409798327879a865adc7b"), looks := false }, kinds := [], alts := [], laidByText := true, laidKinds := [.data], laidTests := true, laidLooks := .later }
def CheckWholeCardSaid : Prop := Claim7.holds Tryz.pinned (.plain (OpenSpec.ofChange checkWholeSpec)) checkWholeCard

/-- THE SECOND FORM's CARD OF 'girderlaw29.CheckStress'. -/
def checkStressUptoCard : Claim7 := { stood := { row := checkStressUptoRow, standIns := [], harness := (true, "e773089d4d758003ffb8a155ac5e65c8147c80a92fe409798327879a865adc7b"), looks := false }, kinds := [], alts := [], laidByText := true, laidKinds := [.data], laidTests := true, laidLooks := .later }
def CheckStressUptoCardSaid : Prop := Claim7.holds Tryz.pinned (.plain (OpenSpec.upto checkStressSpec)) checkStressUptoCard

/-- THE SECOND FORM's CARD OF 'girderlaw29.CheckWhole'. -/
def checkWholeUptoCard : Claim7 := { stood := { row := checkWholeUptoRow, standIns := [], harness := (true, "e773089d4d758003ffb8a155ac5e65c8147c80a92fe409798327879a865adc7b"), looks := false }, kinds := [], alts := [], laidByText := true, laidKinds := [.data], laidTests := true, laidLooks := .later }
def CheckWholeUptoCardSaid : Prop := Claim7.holds Tryz.pinned (.plain (OpenSpec.upto checkWholeSpec)) checkWholeUptoCard
end Rows
end Go.Proofs.YtkfhbnfoiicioaaGreatDoor
