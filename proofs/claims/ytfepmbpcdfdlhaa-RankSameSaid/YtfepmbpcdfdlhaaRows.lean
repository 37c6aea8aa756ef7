/-
  No cell of these rows narrows 'for every input' (looked for: loops, veiled, ifaces, maps, wideKeys, modest, calm, conditions, laid).
  DERIVED. THE GIVEN ROWS OF THIS SEAT. 4 by the template 'for every input the law returns true; each argument reads behind the call as it read before'; 0 by the template 'total and deterministic' (their statements: YtfepmbpcdfdlhaaTotals.lean).
  GIVEN WITH THE SEED: the statements are not yours to turn. If you find one false, say at which input.
  Laid BY PROGRAM, IN A SANDBOX (cutbox-rows.mjs): the forced cells as the released guide's own fill.sh prints them over the translation f8696eee1628ceb2… (all of the seat's roots in one cut). By AI agents, Wed Nov 11 2026. No macro, syntax, notation, axiom, sorry.
-/
import Derived.Test.YtfepmbpcdfdlhaaChecked
import GoSem.Claim
import GoSem.ClaimJoined
import GoSem.ClaimMapViews
import Derived.JoinedTies
import Derived.KernelRfl
namespace Go.Proofs.Ytfepmbpcdfdlhaa
/- THE CELL 'sum', in the pinned program and in every row, IS THE sha256 OF THE DUMP (.gsa) THAT YtfepmbpcdfdlhaaProg.lean LOADS. Nothing in Lean hashes anything: it is a label: what it is worth is what the hold of that sum in a sandbox is worth. -/
noncomputable def Try.pinned : Pinned := { name := "ytfepmbpcdfdlhaa", sum := "f8696eee1628ceb2ef5ac8b643cc95286d05e41a13f1c0423ad7c5f86dbd8993", checked := Try.checked }
namespace Rows
def none {H : Type} : Left H := { results := [], args := [] }

/-- 'girderlaw11.RankSame': WHATEVER THE INPUT: true; the input reads as it did. -/
def rankSameSpec : ChangeSpec := { name := "rankSame", fn := fun _ => fun
  | [d1, d2, d3] => { results := [.lit (.bool true)], args := [d1, d2, d3] }
  | _ => none }
def rankSameRow : OpenClaim := { program := "ytfepmbpcdfdlhaa", sum := "f8696eee1628ceb2ef5ac8b643cc95286d05e41a13f1c0423ad7c5f86dbd8993", func := "girder/girderlaw11.RankSame", spec := "rankSame", unfollowed := true, recurses := true, apart := false }
def RankSameSaid : Prop := rankSameRow.holds Try.pinned (OpenSpec.ofChange rankSameSpec)

/-- ITS FALSE NEIGHBOUR: 'it returns false'. Refute it at one input. -/
def rankSameWrong : ChangeSpec := { name := "rankSame", fn := fun _ => fun
  | [d1, d2, d3] => { results := [.lit (.bool false)], args := [d1, d2, d3] }
  | _ => none }
def RankSameWrongFalsely : Prop := rankSameRow.holds Try.pinned (OpenSpec.ofChange rankSameWrong)

/-- 'girderlaw11.RankKernel': WHATEVER THE INPUT: true; the input reads as it did. -/
def rankKernelSpec : ChangeSpec := { name := "rankKernel", fn := fun _ => fun
  | [d] => { results := [.lit (.bool true)], args := [d] }
  | _ => none }
def rankKernelRow : OpenClaim := { program := "ytfepmbpcdfdlhaa", sum := "f8696eee1628ceb2ef5ac8b643cc95286d05e41a13f1c0423ad7c5f86dbd8993", func := "girder/girderlaw11.RankKernel", spec := "rankKernel", unfollowed := true, recurses := true, apart := false }
def RankKernelSaid : Prop := rankKernelRow.holds Try.pinned (OpenSpec.ofChange rankKernelSpec)

/-- ITS FALSE NEIGHBOUR: 'it returns false'. Refute it at one input. -/
def rankKernelWrong : ChangeSpec := { name := "rankKernel", fn := fun _ => fun
  | [d] => { results := [.lit (.bool false)], args := [d] }
  | _ => none }
def RankKernelWrongFalsely : Prop := rankKernelRow.holds Try.pinned (OpenSpec.ofChange rankKernelWrong)

/-- 'girderlaw11.RankSent': WHATEVER THE INPUT: true; the input reads as it did. -/
def rankSentSpec : ChangeSpec := { name := "rankSent", fn := fun _ => fun
  | [d1, d2] => { results := [.lit (.bool true)], args := [d1, d2] }
  | _ => none }
def rankSentRow : OpenClaim := { program := "ytfepmbpcdfdlhaa", sum := "f8696eee1628ceb2ef5ac8b643cc95286d05e41a13f1c0423ad7c5f86dbd8993", func := "girder/girderlaw11.RankSent", spec := "rankSent", unfollowed := true, recurses := true, apart := false }
def RankSentSaid : Prop := rankSentRow.holds Try.pinned (OpenSpec.ofChange rankSentSpec)

/-- ITS FALSE NEIGHBOUR: 'it returns false'. Refute it at one input. -/
def rankSentWrong : ChangeSpec := { name := "rankSent", fn := fun _ => fun
  | [d1, d2] => { results := [.lit (.bool false)], args := [d1, d2] }
  | _ => none }
def RankSentWrongFalsely : Prop := rankSentRow.holds Try.pinned (OpenSpec.ofChange rankSentWrong)

/-- 'girderlaw11.RankAbove': WHATEVER THE INPUT: true; the input reads as it did. -/
def rankAboveSpec : ChangeSpec := { name := "rankAbove", fn := fun _ => fun
  | [d1, d2] => { results := [.lit (.bool true)], args := [d1, d2] }
  | _ => none }
def rankAboveRow : OpenClaim := { program := "ytfepmbpcdfdlhaa", sum := "f8696eee1628ceb2ef5ac8b643cc95286d05e41a13f1c0423ad7c5f86dbd8993", func := "girder/girderlaw11.RankAbove", spec := "rankAbove", unfollowed := true, recurses := true, apart := false }
def RankAboveSaid : Prop := rankAboveRow.holds Try.pinned (OpenSpec.ofChange rankAboveSpec)

/-- ITS FALSE NEIGHBOUR: 'it returns false'. Refute it at one input. -/
def rankAboveWrong : ChangeSpec := { name := "rankAbove", fn := fun _ => fun
  | [d1, d2] => { results := [.lit (.bool false)], args := [d1, d2] }
  | _ => none }
def RankAboveWrongFalsely : Prop := rankAboveRow.holds Try.pinned (OpenSpec.ofChange rankAboveWrong)

/- THE SECOND FORM. 'bulk': how many values and letters a reading holds, each counted each time it is reached (what is shared counts as often as it is met; a slice's spare places count too). A statement '..UptoSaid' is the law's where the arguments, and the package variables that the reading takes, are together of bulk at most 1048576: NARROWER than '..Said'. Prove '..Said' where nothing that the law and all that it calls make is longer than what came in: it says more and counts as full. Else prove '..UptoSaid'. A law counts once. -/
mutual
def uptoBulk {H : Type} : DataW H → Nat
  | .lit (.string bytes) => bytes.length + 1
  | .lit _ => 1
  | .nil => 1
  | .ptr d => uptoBulk d + 1
  | .slice elems spare => uptoBulkAll elems + uptoBulkAll spare + 1
  | .agg parts => uptoBulkAll parts + 1
  | .iface _ d => uptoBulk d + 1
  | .map entries => uptoBulkEntries entries + 1
  | .held _ => 1
def uptoBulkAll {H : Type} : List (DataW H) → Nat
  | [] => 0
  | d :: r => uptoBulk d + uptoBulkAll r
def uptoBulkEntries {H : Type} : List (Lit × DataW H) → Nat
  | [] => 0
  | x :: r => uptoBulkEntry x + uptoBulkEntries r
def uptoBulkEntry {H : Type} : Lit × DataW H → Nat
  | (.string bytes, d) => bytes.length + uptoBulk d + 1
  | (_, d) => uptoBulk d + 1
 end
def uptoSmall : (H : Type) → List (DataW H) → Bool := fun _ ds => decide (uptoBulkAll ds ≤ 1048576)
def OpenSpec.upto (s : _root_.Go.ChangeSpec) : _root_.Go.OpenSpec := { _root_.Go.OpenSpec.ofChange s with cond := some uptoSmall }

/-- 'girderlaw11.RankSame', WHERE WHAT IT READS IS OF BULK AT MOST 1048576: true; the input reads as it did. -/
def rankSameUptoRow : OpenClaim := { program := "ytfepmbpcdfdlhaa", sum := "f8696eee1628ceb2ef5ac8b643cc95286d05e41a13f1c0423ad7c5f86dbd8993", func := "girder/girderlaw11.RankSame", spec := "rankSame", unfollowed := true, recurses := true, apart := false, narrowed := true }
def RankSameUptoSaid : Prop := rankSameUptoRow.holds Try.pinned (OpenSpec.upto rankSameSpec)

/-- 'girderlaw11.RankKernel', WHERE WHAT IT READS IS OF BULK AT MOST 1048576: true; the input reads as it did. -/
def rankKernelUptoRow : OpenClaim := { program := "ytfepmbpcdfdlhaa", sum := "f8696eee1628ceb2ef5ac8b643cc95286d05e41a13f1c0423ad7c5f86dbd8993", func := "girder/girderlaw11.RankKernel", spec := "rankKernel", unfollowed := true, recurses := true, apart := false, narrowed := true }
def RankKernelUptoSaid : Prop := rankKernelUptoRow.holds Try.pinned (OpenSpec.upto rankKernelSpec)

/-- 'girderlaw11.RankSent', WHERE WHAT IT READS IS OF BULK AT MOST 1048576: true; the input reads as it did. -/
def rankSentUptoRow : OpenClaim := { program := "ytfepmbpcdfdlhaa", sum := "f8696eee1628ceb2ef5ac8b643cc95286d05e41a13f1c0423ad7c5f86dbd8993", func := "girder/girderlaw11.RankSent", spec := "rankSent", unfollowed := true, recurses := true, apart := false, narrowed := true }
def RankSentUptoSaid : Prop := rankSentUptoRow.holds Try.pinned (OpenSpec.upto rankSentSpec)

/-- 'girderlaw11.RankAbove', WHERE WHAT IT READS IS OF BULK AT MOST 1048576: true; the input reads as it did. -/
def rankAboveUptoRow : OpenClaim := { program := "ytfepmbpcdfdlhaa", sum := "f8696eee1628ceb2ef5ac8b643cc95286d05e41a13f1c0423ad7c5f86dbd8993", func := "girder/girderlaw11.RankAbove", spec := "rankAbove", unfollowed := true, recurses := true, apart := false, narrowed := true }
def RankAboveUptoSaid : Prop := rankAboveUptoRow.holds Try.pinned (OpenSpec.upto rankAboveSpec)

end Rows
end Go.Proofs.Ytfepmbpcdfdlhaa
