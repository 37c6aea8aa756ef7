/-
  No cell of these rows narrows 'for every input' (looked for: loops, veiled, ifaces, maps, wideKeys, modest, calm, conditions, laid).
  DERIVED. THE GIVEN ROWS OF THIS SEAT. 4 by the template 'for every input the law returns true; each argument reads behind the call as it read before'; 0 by the template 'total and deterministic' (their statements: YtmeljjijofkllaaTotals.lean).
  GIVEN WITH THE SEED: the statements are not yours to turn. If you find one false, say at which input.
  Laid BY PROGRAM, IN A SANDBOX (cutbox-rows.mjs): the forced cells as the released guide's own fill.sh prints them over the translation 9617d7d58044ec64… (all of the seat's roots in one cut). By AI agents, Wed Nov 11 2026. No macro, syntax, notation, axiom, sorry.
-/
import Derived.Test.YtmeljjijofkllaaChecked
import GoSem.Claim
import GoSem.ClaimJoined
import GoSem.ClaimMapViews
import Derived.JoinedTies
import Derived.KernelRfl
namespace Go.Proofs.Ytmeljjijofkllaa
/- THE CELL 'sum', in the pinned program and in every row, IS THE sha256 OF THE DUMP (.gsa) THAT YtmeljjijofkllaaProg.lean LOADS. Nothing in Lean hashes anything: it is a label: what it is worth is what the hold of that sum in a sandbox is worth. -/
noncomputable def Try.pinned : Pinned := { name := "ytmeljjijofkllaa", sum := "9617d7d58044ec6465b3e528f02b1df6b894b20bd48c1f8bd927bc26eca3fa23", checked := Try.checked }
namespace Rows
def none {H : Type} : Left H := { results := [], args := [] }

/-- 'girderlaw26.EnvelopeBounds': WHATEVER THE INPUT: true; the input reads as it did. -/
def envelopeBoundsSpec : ChangeSpec := { name := "envelopeBounds", fn := fun _ => fun
  | [d] => { results := [.lit (.bool true)], args := [d] }
  | _ => none }
def envelopeBoundsRow : OpenClaim := { program := "ytmeljjijofkllaa", sum := "9617d7d58044ec6465b3e528f02b1df6b894b20bd48c1f8bd927bc26eca3fa23", func := "girder/girderlaw26.EnvelopeBounds", spec := "envelopeBounds", inPlace := ["math.Float64frombits"], apart := false }
def EnvelopeBoundsSaid : Prop := envelopeBoundsRow.holds Try.pinned (OpenSpec.ofChange envelopeBoundsSpec)

/-- ITS FALSE NEIGHBOUR: 'it returns false'. Refute it at one input. -/
def envelopeBoundsWrong : ChangeSpec := { name := "envelopeBounds", fn := fun _ => fun
  | [d] => { results := [.lit (.bool false)], args := [d] }
  | _ => none }
def EnvelopeBoundsWrongFalsely : Prop := envelopeBoundsRow.holds Try.pinned (OpenSpec.ofChange envelopeBoundsWrong)

/-- 'girderlaw26.EnvelopeOf': WHATEVER THE INPUT: true; the input reads as it did. -/
def envelopeOfSpec : ChangeSpec := { name := "envelopeOf", fn := fun _ => fun
  | [d] => { results := [.lit (.bool true)], args := [d] }
  | _ => none }
def envelopeOfRow : OpenClaim := { program := "ytmeljjijofkllaa", sum := "9617d7d58044ec6465b3e528f02b1df6b894b20bd48c1f8bd927bc26eca3fa23", func := "girder/girderlaw26.EnvelopeOf", spec := "envelopeOf", inPlace := ["math.Float64frombits", "math.Float64bits"], apart := false }
def EnvelopeOfSaid : Prop := envelopeOfRow.holds Try.pinned (OpenSpec.ofChange envelopeOfSpec)

/-- ITS FALSE NEIGHBOUR: 'it returns false'. Refute it at one input. -/
def envelopeOfWrong : ChangeSpec := { name := "envelopeOf", fn := fun _ => fun
  | [d] => { results := [.lit (.bool false)], args := [d] }
  | _ => none }
def EnvelopeOfWrongFalsely : Prop := envelopeOfRow.holds Try.pinned (OpenSpec.ofChange envelopeOfWrong)

/-- 'girderlaw26.EnvelopeJoins': WHATEVER THE INPUT: true; the input reads as it did. -/
def envelopeJoinsSpec : ChangeSpec := { name := "envelopeJoins", fn := fun _ => fun
  | [d1, d2, d3] => { results := [.lit (.bool true)], args := [d1, d2, d3] }
  | _ => none }
def envelopeJoinsRow : OpenClaim := { program := "ytmeljjijofkllaa", sum := "9617d7d58044ec6465b3e528f02b1df6b894b20bd48c1f8bd927bc26eca3fa23", func := "girder/girderlaw26.EnvelopeJoins", spec := "envelopeJoins", inPlace := ["math.Float64frombits", "math.Float64bits"], apart := false }
def EnvelopeJoinsSaid : Prop := envelopeJoinsRow.holds Try.pinned (OpenSpec.ofChange envelopeJoinsSpec)

/-- ITS FALSE NEIGHBOUR: 'it returns false'. Refute it at one input. -/
def envelopeJoinsWrong : ChangeSpec := { name := "envelopeJoins", fn := fun _ => fun
  | [d1, d2, d3] => { results := [.lit (.bool false)], args := [d1, d2, d3] }
  | _ => none }
def EnvelopeJoinsWrongFalsely : Prop := envelopeJoinsRow.holds Try.pinned (OpenSpec.ofChange envelopeJoinsWrong)

/-- 'girderlaw26.EnvelopeLaid': WHATEVER THE INPUT: true; the input reads as it did. -/
def envelopeLaidSpec : ChangeSpec := { name := "envelopeLaid", fn := fun _ => fun
  | [d1, d2] => { results := [.lit (.bool true)], args := [d1, d2] }
  | _ => none }
def envelopeLaidRow : OpenClaim := { program := "ytmeljjijofkllaa", sum := "9617d7d58044ec6465b3e528f02b1df6b894b20bd48c1f8bd927bc26eca3fa23", func := "girder/girderlaw26.EnvelopeLaid", spec := "envelopeLaid", inPlace := ["math.Float64frombits", "math.Float64bits"], apart := false }
def EnvelopeLaidSaid : Prop := envelopeLaidRow.holds Try.pinned (OpenSpec.ofChange envelopeLaidSpec)

/-- ITS FALSE NEIGHBOUR: 'it returns false'. Refute it at one input. -/
def envelopeLaidWrong : ChangeSpec := { name := "envelopeLaid", fn := fun _ => fun
  | [d1, d2] => { results := [.lit (.bool false)], args := [d1, d2] }
  | _ => none }
def EnvelopeLaidWrongFalsely : Prop := envelopeLaidRow.holds Try.pinned (OpenSpec.ofChange envelopeLaidWrong)

/- THE SECOND FORM. 'bulk': how many values and letters a reading holds, each counted each time it is reached (what is shared counts as often as it is met; a slice's spare places count too). A statement '..UptoSaid' is the law's where the arguments, and the package variables that the reading takes, are together of bulk at most 1048576: NARROWER than '..Said'. Prove '..Said' where nothing that the law and all that it calls make is longer than what came in: it says more and counts as full. Else prove '..UptoSaid'. A law counts once. -/
mutual
def uptoBulk {H : Type} : DataW H → Nat
  | .lit (.string bytes) => bytes.length + 1
  | .lit _ => 1
  | .nil => 1
  | .ptr d => uptoBulk d + 1
  | .slice elems spare => uptoBulkAll elems + uptoBulkAll spare + 1
  | .agg parts => uptoBulkAll parts + 1
  | .iface _ d => uptoBulk d + 1
  | .map entries => uptoBulkEntries entries + 1
  | .held _ => 1
def uptoBulkAll {H : Type} : List (DataW H) → Nat
  | [] => 0
  | d :: r => uptoBulk d + uptoBulkAll r
def uptoBulkEntries {H : Type} : List (Lit × DataW H) → Nat
  | [] => 0
  | x :: r => uptoBulkEntry x + uptoBulkEntries r
def uptoBulkEntry {H : Type} : Lit × DataW H → Nat
  | (.string bytes, d) => bytes.length + uptoBulk d + 1
  | (_, d) => uptoBulk d + 1
 end
def uptoSmall : (H : Type) → List (DataW H) → Bool := fun _ ds => decide (uptoBulkAll ds ≤ 1048576)
def OpenSpec.upto (s : _root_.Go.ChangeSpec) : _root_.Go.OpenSpec := { _root_.Go.OpenSpec.ofChange s with cond := some uptoSmall }

/-- 'girderlaw26.EnvelopeBounds', WHERE WHAT IT READS IS OF BULK AT MOST 1048576: true; the input reads as it did. -/
def envelopeBoundsUptoRow : OpenClaim := { program := "ytmeljjijofkllaa", sum := "9617d7d58044ec6465b3e528f02b1df6b894b20bd48c1f8bd927bc26eca3fa23", func := "girder/girderlaw26.EnvelopeBounds", spec := "envelopeBounds", inPlace := ["math.Float64frombits"], apart := false, narrowed := true }
def EnvelopeBoundsUptoSaid : Prop := envelopeBoundsUptoRow.holds Try.pinned (OpenSpec.upto envelopeBoundsSpec)

/-- 'girderlaw26.EnvelopeOf', WHERE WHAT IT READS IS OF BULK AT MOST 1048576: true; the input reads as it did. -/
def envelopeOfUptoRow : OpenClaim := { program := "ytmeljjijofkllaa", sum := "9617d7d58044ec6465b3e528f02b1df6b894b20bd48c1f8bd927bc26eca3fa23", func := "girder/girderlaw26.EnvelopeOf", spec := "envelopeOf", inPlace := ["math.Float64frombits", "math.Float64bits"], apart := false, narrowed := true }
def EnvelopeOfUptoSaid : Prop := envelopeOfUptoRow.holds Try.pinned (OpenSpec.upto envelopeOfSpec)

/-- 'girderlaw26.EnvelopeJoins', WHERE WHAT IT READS IS OF BULK AT MOST 1048576: true; the input reads as it did. -/
def envelopeJoinsUptoRow : OpenClaim := { program := "ytmeljjijofkllaa", sum := "9617d7d58044ec6465b3e528f02b1df6b894b20bd48c1f8bd927bc26eca3fa23", func := "girder/girderlaw26.EnvelopeJoins", spec := "envelopeJoins", inPlace := ["math.Float64frombits", "math.Float64bits"], apart := false, narrowed := true }
def EnvelopeJoinsUptoSaid : Prop := envelopeJoinsUptoRow.holds Try.pinned (OpenSpec.upto envelopeJoinsSpec)

/-- 'girderlaw26.EnvelopeLaid', WHERE WHAT IT READS IS OF BULK AT MOST 1048576: true; the input reads as it did. -/
def envelopeLaidUptoRow : OpenClaim := { program := "ytmeljjijofkllaa", sum := "9617d7d58044ec6465b3e528f02b1df6b894b20bd48c1f8bd927bc26eca3fa23", func := "girder/girderlaw26.EnvelopeLaid", spec := "envelopeLaid", inPlace := ["math.Float64frombits", "math.Float64bits"], apart := false, narrowed := true }
def EnvelopeLaidUptoSaid : Prop := envelopeLaidUptoRow.holds Try.pinned (OpenSpec.upto envelopeLaidSpec)

end Rows
end Go.Proofs.Ytmeljjijofkllaa
