import Derived.Test.YtkfhbnfoiicioaaGreatDoorX21
import Derived.SizedLaws
import Derived.ProofKit
import Derived.OpenShut
import Derived.Deep.Slices
import Derived.ChangeOld
import Derived.Carry
import Derived.Test.YtkfhbnfoiicioaaGreatDoorCards
import Derived.Test.YtkfhbnfoiicioaaGreatDoorTie
import Derived.SevenTiedAt
import Derived.LaidMore
import Derived.Stop.Joined
import Derived.Lib.LaidTab
import Derived.DataShut
set_option linter.unusedSimpArgs false
set_option linter.unusedVariables false
/-
  What an argument reads as, opened down to its cells: by its type, part by part.
-/
namespace Go.Proofs.YtkfhbnfoiicioaaGreatDoor
open Go.RowKit Go.Sort

/-- Whatever reads as data of type t is the cells of some x, which is in order in its world. The readings' own bound on sizes is at hand. -/
def Opens (P : Program) (t : TypeId) {α : Type} (f : α → List Value) (Ok : World → α → Prop) : Prop :=
  ∀ (H : Type) (enc : TypeId × Value → H) (W : World) (base : Nat) (spare : Nat → Bool) (held : Bool) (n : Nat) (cs : List Value) (y : DataW H × List MemPlace),
    DataW.trod enc P W base spare held n t cs = some y → (∀ k ∈ y.1.weights P t, k ≤ reachBytes) → ∃ x, cs = f x ∧ Ok W x

def OpensF (P : Program) (l : List Field) (off : Nat) {α : Type} (f : α → List Value) (Ok : World → α → Prop) : Prop :=
  ∀ (H : Type) (enc : TypeId × Value → H) (W : World) (base : Nat) (spare : Nat → Bool) (held : Bool) (n : Nat) (cs : List Value) (ys : List (DataW H × List MemPlace)),
    cs.length = off + (l.map fun fl => P.cellsOf fl.type).sum → ys.length = l.length →
    (∀ (i : Nat) (fl : Field), l[i]? = some fl → DataW.trod enc P W base spare held n fl.type ((cs.drop fl.offset).take (P.cellsOf fl.type)) = ys[i]?) →
    (∀ k ∈ DataW.weightsEach P (l.map (·.type)) (ys.map (·.1)), k ≤ reachBytes) → ∃ x, cs.drop off = f x ∧ Ok W x

section
variable {P : Program} {α β : Type} {f : α → List Value} {f' : β → List Value} {Ok : World → α → Prop} {Ok' : World → β → Prop} {t e : TypeId}

theorem Opens.map (h : Opens P t f Ok) (g : α → β) (hf : ∀ a, f a = f' (g a)) (hok : ∀ W a, Ok W a → Ok' W (g a)) : Opens P t f' Ok' := by
  intro H enc W base spare held n cs y hy hw
  obtain ⟨x, hx, ho⟩ := h H enc W base spare held n cs y hy hw
  exact ⟨g x, by rw [hx, hf], hok W x ho⟩

theorem opens_float (ht : P.underlying t = some (.float .f64)) : Opens P t (fun n : Nat => [Value.float .f64 n]) (fun _ n => n < 18446744073709551616) := by
  intro H enc W base spare held n cs y hy _
  cases n with
  | zero => simp [DataW.trod] at hy
  | succ n =>
    unfold DataW.trod at hy
    rw [ht] at hy
    split at hy <;> simp_all
    rename_i hk
    obtain ⟨⟨hk', h2⟩, _⟩ := hy
    rw [← hk] at h2
    simpa [Lit.wf] using h2
theorem opensF_nil {off : Nat} : OpensF P [] off (fun _ : Unit => []) (fun _ _ => True) := by
  intro H enc W base spare held n cs ys hl _ _ _
  exact ⟨(), List.drop_of_length_le (by simp at hl; omega), trivial⟩
theorem opensF_cons {fl : Field} {l : List Field} {off : Nat} {f2 : β → List Value} {Ok2 : World → β → Prop} (h1 : Opens P fl.type f Ok) (ho : fl.offset = off) (h2 : OpensF P l (off + P.cellsOf fl.type) f2 Ok2) :
    OpensF P (fl :: l) off (fun x : α × β => f x.1 ++ f2 x.2) (fun W x => Ok W x.1 ∧ Ok2 W x.2) := by
  intro H enc W base spare held n cs ys hl hn hg hw
  match ys, hn with
  | y :: ys, hn =>
    have hy := hg 0 fl rfl
    rw [ho] at hy
    have hwe : DataW.weightsEach P ((fl :: l).map (·.type)) ((y :: ys).map (·.1)) = y.1.weights P fl.type ++ DataW.weightsEach P (l.map (·.type)) (ys.map (·.1)) := by
      simp [DataW.weightsEach]
    rw [hwe] at hw
    obtain ⟨x, hx, hox⟩ := h1 H enc W base spare held n _ y hy fun k hk => hw k (List.mem_append_left _ hk)
    obtain ⟨z, hz, hoz⟩ := h2 H enc W base spare held n cs ys (by rw [hl]; simp; omega) (by simpa using hn) (fun i g hi => by simpa using hg (i + 1) g (by simpa using hi)) fun k hk => hw k (List.mem_append_right _ hk)
    refine ⟨(x, z), ?_, hox, hoz⟩
    show cs.drop off = f x ++ f2 z
    rw [← hx, ← hz, ← List.drop_drop, List.take_append_drop]

theorem opens_struct {fs : Array Field} (ht : P.underlying t = some (.struct fs)) (hc : P.cellsOf t = (fs.toList.map fun fl => P.cellsOf fl.type).sum) (h : OpensF P fs.toList 0 f Ok) : Opens P t f Ok := by
  intro H enc W base spare held n cs y hy hw
  obtain ⟨xs, m, rfl, rfl, hl, hn, hg⟩ := DataW.trod_struct ht hy
  have hwe : (DataW.agg (xs.map (·.1)) : DataW H).weights P t = DataW.weightsEach P (fs.toList.map (·.type)) (xs.map (·.1)) := by
    simp [DataW.weights, ht]
  rw [hwe] at hw
  obtain ⟨x, hx, ho⟩ := h H enc W base spare held m cs xs (by rw [hl, hc]; omega) (by simpa using hn) (fun i fl hi => hg i fl (by simpa using hi)) hw
  exact ⟨x, by simpa using hx, ho⟩

/-- a slice, by its address, capacity and elements -/
structure SlV (α : Type) where
  A : Option Addr
  c : Nat
  xs : List α

end

end Go.Proofs.YtkfhbnfoiicioaaGreatDoor

/- what a member bears, opened; the table of math/bits as the card lays it -/
namespace Go.Proofs.YtkfhbnfoiicioaaGreatDoor
open Go.RowKit Go.Sort

theorem own : ownKnob Tryz.prog.godebug = none := by kernel_rfl
theorem laidOut : laidOutB Tryz.prog = true := by kernel_rfl
theorem opens_spn : Opens Tryz.prog 24 Spn.cells (fun _ x => x.lo < 18446744073709551616 ∧ x.hi < 18446744073709551616) :=
  (opens_struct Tryz.underlying24 (by kernel_rfl) (opensF_cons (opens_float Tryz.underlying22) rfl (opensF_cons (opens_float Tryz.underlying22) (by kernel_rfl) opensF_nil))).map (fun x => ⟨x.1, x.2.1⟩) (fun _ => rfl) (fun _ _ h => ⟨h.1, h.2.1⟩)
/-- what a member bears at its ends -/
structure EnB where
  n : Spn
  ma : Spn
  mb : Spn
def EnB.cells (x : EnB) : List Value := [.float .f64 x.n.lo, .float .f64 x.n.hi, .float .f64 x.ma.lo, .float .f64 x.ma.hi, .float .f64 x.mb.lo, .float .f64 x.mb.hi]
def EnB.Ok (x : EnB) : Prop := (x.n.lo < 18446744073709551616 ∧ x.n.hi < 18446744073709551616) ∧ (x.ma.lo < 18446744073709551616 ∧ x.ma.hi < 18446744073709551616) ∧ (x.mb.lo < 18446744073709551616 ∧ x.mb.hi < 18446744073709551616)
theorem opens_ends : Opens Tryz.prog 26 EnB.cells (fun _ x => x.Ok) :=
  (opens_struct Tryz.underlying26 (by kernel_rfl) (opensF_cons opens_spn rfl (opensF_cons opens_spn (by kernel_rfl) (opensF_cons opens_spn (by kernel_rfl) opensF_nil)))).map (fun x => ⟨x.1, x.2.1, x.2.2.1⟩) (fun _ => rfl) (fun _ _ h => ⟨h.1, h.2.1, h.2.2.1⟩)
theorem gTab : Tryz.prog.globalNamed "math/bits.deBruijn64tab" = some 1 := by kernel_rfl
theorem tTab : (Tryz.prog.globals[(1 : Nat)]?).map (·.type) = some 143 := by kernel_rfl
theorem laid_of {W : World} (h : laidMet Tryz.prog [("math/bits.deBruijn64tab", Rows.laid_math_bits_deBruijn64tab)] W) : Laid W := by
  have h2 := Lib.tabIs_of_head (k := .u8) (zs := List.map (fun n : Nat => (n : Int)) Lib.deBruijn64tab) (rest := []) gTab tTab Tryz.underlying143 Tryz.underlying5 (by kernel_rfl) (by kernel_rfl) h
  intro j hj
  have h3 := h2.cell gTab j (by simpa using hj)
  rw [h3]
  have e : (List.map (fun n : Nat => (n : Int)) Lib.deBruijn64tab).getD j 0 = ((Lib.deBruijn64tab.getD j 0 : Nat) : Int) := by
    simp [List.getD, List.getElem?_map, hj]
  rw [e]

end Go.Proofs.YtkfhbnfoiicioaaGreatDoor
