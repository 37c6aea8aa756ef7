/-
  DERIVED. GIVEN WITH THE SEED: THE CARDS: each row of YtjokpfgncmdomaaGreatDoorRows.lean that lists a variable, with what it lists TIED to the program's text (the seventh form; the later family's looks); each row that meets fmt, with fmt's text TOLD by the authors' own Lean function (tested against real Go, not proved from fmt's source: count such statements apart). THE CARD IS WHAT COUNTS. Prove the row's statement (the work); the ties are given (YtjokpfgncmdomaaGreatDoorTie.lean); close each card by the builder's one call (the guide's Derived/Test/ToyasCard.lean, 'card_holds'). Laid BY PROGRAM, IN A SANDBOX (cutbox-door.mjs). By AI agents, Wed Nov 11 2026. No macro, syntax, notation, axiom, sorry.
-/
import Derived.Test.YtjokpfgncmdomaaGreatDoorRows
import GoSem.ClaimSeven
namespace Go.Proofs.YtjokpfgncmdomaaGreatDoor
namespace Rows

/-- THE TIED CARD OF 'girderlaw07.RatioRounds'. -/
def ratioRoundsCard : Claim7 := { stood := { row := ratioRoundsRow, standIns := [], harness := (true, "7567d55c41302e0e584973fbe62296a0c60aa3dd951f64f2d47ec17fcc7c0185"), looks := false }, kinds := [], alts := [], laidByText := true, laidKinds := [.data], laidTests := true, laidLooks := .later }
def RatioRoundsCardSaid : Prop := Claim7.holds Tryz.pinned (.plain (OpenSpec.ofChange ratioRoundsSpec)) ratioRoundsCard

/-- THE TIED CARD OF 'girderlaw07.RatioOrder'. -/
def ratioOrderCard : Claim7 := { stood := { row := ratioOrderRow, standIns := [], harness := (true, "7567d55c41302e0e584973fbe62296a0c60aa3dd951f64f2d47ec17fcc7c0185"), looks := false }, kinds := [], alts := [], laidByText := true, laidKinds := [.data], laidTests := true, laidLooks := .later }
def RatioOrderCardSaid : Prop := Claim7.holds Tryz.pinned (.plain (OpenSpec.ofChange ratioOrderSpec)) ratioOrderCard

/-- THE TIED CARD OF 'girderlaw07.RatioField'. -/
def ratioFieldCard : Claim7 := { stood := { row := ratioFieldRow, standIns := [], harness := (true, "7567d55c41302e0e584973fbe62296a0c60aa3dd951f64f2d47ec17fcc7c0185"), looks := false }, kinds := [], alts := [], laidByText := true, laidKinds := [.data], laidTests := true, laidLooks := .later }
def RatioFieldCardSaid : Prop := Claim7.holds Tryz.pinned (.plain (OpenSpec.ofChange ratioFieldSpec)) ratioFieldCard

/-- THE TIED CARD OF 'girderlaw07.RatioMakes'. -/
def ratioMakesCard : Claim7 := { stood := { row := ratioMakesRow, standIns := [], harness := (true, "7567d55c41302e0e584973fbe62296a0c60aa3dd951f64f2d47ec17fcc7c0185"), looks := false }, kinds := [], alts := [], laidByText := true, laidKinds := [.data], laidTests := true, laidLooks := .later }
def RatioMakesCardSaid : Prop := Claim7.holds Tryz.pinned (.plain (OpenSpec.ofChange ratioMakesSpec)) ratioMakesCard

/-- THE TIED CARD OF 'girderlaw07.RatioSides'. -/
def ratioSidesCard : Claim7 := { stood := { row := ratioSidesRow, standIns := [], harness := (true, "7567d55c41302e0e584973fbe62296a0c60aa3dd951f64f2d47ec17fcc7c0185"), looks := false }, kinds := [], alts := [], laidByText := true, laidKinds := [.data], laidTests := true, laidLooks := .later }
def RatioSidesCardSaid : Prop := Claim7.holds Tryz.pinned (.plain (OpenSpec.ofChange ratioSidesSpec)) ratioSidesCard

/-- THE TIED CARD OF 'girderlaw07.RatioNumbers'. -/
def ratioNumbersCard : Claim7 := { stood := { row := ratioNumbersRow, standIns := [], harness := (true, "7567d55c41302e0e584973fbe62296a0c60aa3dd951f64f2d47ec17fcc7c0185"), looks := false }, kinds := [], alts := [], laidByText := true, laidKinds := [.data], laidTests := true, laidLooks := .later }
def RatioNumbersCardSaid : Prop := Claim7.holds Tryz.pinned (.plain (OpenSpec.ofChange ratioNumbersSpec)) ratioNumbersCard

/-- THE SECOND FORM's CARD OF 'girderlaw07.RatioRounds'. -/
def ratioRoundsUptoCard : Claim7 := { stood := { row := ratioRoundsUptoRow, standIns := [], harness := (true, "7567d55c41302e0e584973fbe62296a0c60aa3dd951f64f2d47ec17fcc7c0185"), looks := false }, kinds := [], alts := [], laidByText := true, laidKinds := [.data], laidTests := true, laidLooks := .later }
def RatioRoundsUptoCardSaid : Prop := Claim7.holds Tryz.pinned (.plain (OpenSpec.upto ratioRoundsSpec)) ratioRoundsUptoCard

/-- THE SECOND FORM's CARD OF 'girderlaw07.RatioOrder'. -/
def ratioOrderUptoCard : Claim7 := { stood := { row := ratioOrderUptoRow, standIns := [], harness := (true, "7567d55c41302e0e584973fbe62296a0c60aa3dd951f64f2d47ec17fcc7c0185"), looks := false }, kinds := [], alts := [], laidByText := true, laidKinds := [.data], laidTests := true, laidLooks := .later }
def RatioOrderUptoCardSaid : Prop := Claim7.holds Tryz.pinned (.plain (OpenSpec.upto ratioOrderSpec)) ratioOrderUptoCard

/-- THE SECOND FORM's CARD OF 'girderlaw07.RatioField'. -/
def ratioFieldUptoCard : Claim7 := { stood := { row := ratioFieldUptoRow, standIns := [], harness := (true, "7567d55c41302e0e584973fbe62296a0c60aa3dd951f64f2d47ec17fcc7c0185"), looks := false }, kinds := [], alts := [], laidByText := true, laidKinds := [.data], laidTests := true, laidLooks := .later }
def RatioFieldUptoCardSaid : Prop := Claim7.holds Tryz.pinned (.plain (OpenSpec.upto ratioFieldSpec)) ratioFieldUptoCard

/-- THE SECOND FORM's CARD OF 'girderlaw07.RatioMakes'. -/
def ratioMakesUptoCard : Claim7 := { stood := { row := ratioMakesUptoRow, standIns := [], harness := (true, "7567d55c41302e0e584973fbe62296a0c60aa3dd951f64f2d47ec17fcc7c0185"), looks := false }, kinds := [], alts := [], laidByText := true, laidKinds := [.data], laidTests := true, laidLooks := .later }
def RatioMakesUptoCardSaid : Prop := Claim7.holds Tryz.pinned (.plain (OpenSpec.upto ratioMakesSpec)) ratioMakesUptoCard

/-- THE SECOND FORM's CARD OF 'girderlaw07.RatioSides'. -/
def ratioSidesUptoCard : Claim7 := { stood := { row := ratioSidesUptoRow, standIns := [], harness := (true, "7567d55c41302e0e584973fbe62296a0c60aa3dd951f64f2d47ec17fcc7c0185"), looks := false }, kinds := [], alts := [], laidByText := true, laidKinds := [.data], laidTests := true, laidLooks := .later }
def RatioSidesUptoCardSaid : Prop := Claim7.holds Tryz.pinned (.plain (OpenSpec.upto ratioSidesSpec)) ratioSidesUptoCard

/-- THE SECOND FORM's CARD OF 'girderlaw07.RatioNumbers'. -/
def ratioNumbersUptoCard : Claim7 := { stood := { row := ratioNumbersUptoRow, standIns := [], harness := (true, "7567d55c41302e0e584973fbe62296a0c60aa3dd951f64f2d47ec17fcc7c0185"), looks := false }, kinds := [], alts := [], laidByText := true, laidKinds := [.data], laidTests := true, laidLooks := .later }
def RatioNumbersUptoCardSaid : Prop := Claim7.holds Tryz.pinned (.plain (OpenSpec.upto ratioNumbersSpec)) ratioNumbersUptoCard
end Rows
end Go.Proofs.YtjokpfgncmdomaaGreatDoor
