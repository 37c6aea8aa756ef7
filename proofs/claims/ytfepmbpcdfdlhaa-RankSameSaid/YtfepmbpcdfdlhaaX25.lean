import Derived.Test.YtfepmbpcdfdlhaaX24
import Derived.SizedLaws
import Derived.ProofKit
import Derived.OpenShut
import Derived.Deep.Slices
import Derived.ChangeOld
import Derived.Carry
import Derived.Test.YtfepmbpcdfdlhaaRows
import Derived.DataShut
set_option linter.unusedSimpArgs false
set_option linter.unusedVariables false
/-
  What an argument reads as, opened down to its cells: by its type, part by part.
-/
namespace Go.Proofs.Ytfepmbpcdfdlhaa
open Go.RowKit Go.Sort

/-- Whatever reads as data of type t is the cells of some x, which is in order in its world. The readings' own bound on sizes is at hand. -/
def Opens (P : Program) (t : TypeId) {α : Type} (f : α → List Value) (Ok : World → α → Prop) : Prop :=
  ∀ (H : Type) (enc : TypeId × Value → H) (W : World) (base : Nat) (spare : Nat → Bool) (held : Bool) (n : Nat) (cs : List Value) (y : DataW H × List MemPlace),
    DataW.trod enc P W base spare held n t cs = some y → (∀ k ∈ y.1.weights P t, k ≤ reachBytes) → ∃ x, cs = f x ∧ Ok W x

def OpensF (P : Program) (l : List Field) (off : Nat) {α : Type} (f : α → List Value) (Ok : World → α → Prop) : Prop :=
  ∀ (H : Type) (enc : TypeId × Value → H) (W : World) (base : Nat) (spare : Nat → Bool) (held : Bool) (n : Nat) (cs : List Value) (ys : List (DataW H × List MemPlace)),
    cs.length = off + (l.map fun fl => P.cellsOf fl.type).sum → ys.length = l.length →
    (∀ (i : Nat) (fl : Field), l[i]? = some fl → DataW.trod enc P W base spare held n fl.type ((cs.drop fl.offset).take (P.cellsOf fl.type)) = ys[i]?) →
    (∀ k ∈ DataW.weightsEach P (l.map (·.type)) (ys.map (·.1)), k ≤ reachBytes) → ∃ x, cs.drop off = f x ∧ Ok W x

section
variable {P : Program} {α β : Type} {f : α → List Value} {f' : β → List Value} {Ok : World → α → Prop} {Ok' : World → β → Prop} {t e : TypeId}

theorem Opens.map (h : Opens P t f Ok) (g : α → β) (hf : ∀ a, f a = f' (g a)) (hok : ∀ W a, Ok W a → Ok' W (g a)) : Opens P t f' Ok' := by
  intro H enc W base spare held n cs y hy hw
  obtain ⟨x, hx, ho⟩ := h H enc W base spare held n cs y hy hw
  exact ⟨g x, by rw [hx, hf], hok W x ho⟩

theorem opens_int {k : IntKind} (ht : P.underlying t = some (.int k)) : Opens P t (fun n : Int => [Value.int k n]) (fun _ n => (Lit.int k n).wf = true) := by
  intro H enc W base spare held n cs y hy _
  obtain ⟨m, rfl, _, hm⟩ := DataW.trod_int ht hy
  exact ⟨m, rfl, hm⟩
theorem opensF_nil {off : Nat} : OpensF P [] off (fun _ : Unit => []) (fun _ _ => True) := by
  intro H enc W base spare held n cs ys hl _ _ _
  exact ⟨(), List.drop_of_length_le (by simp at hl; omega), trivial⟩
theorem opensF_cons {fl : Field} {l : List Field} {off : Nat} {f2 : β → List Value} {Ok2 : World → β → Prop} (h1 : Opens P fl.type f Ok) (ho : fl.offset = off) (h2 : OpensF P l (off + P.cellsOf fl.type) f2 Ok2) :
    OpensF P (fl :: l) off (fun x : α × β => f x.1 ++ f2 x.2) (fun W x => Ok W x.1 ∧ Ok2 W x.2) := by
  intro H enc W base spare held n cs ys hl hn hg hw
  match ys, hn with
  | y :: ys, hn =>
    have hy := hg 0 fl rfl
    rw [ho] at hy
    have hwe : DataW.weightsEach P ((fl :: l).map (·.type)) ((y :: ys).map (·.1)) = y.1.weights P fl.type ++ DataW.weightsEach P (l.map (·.type)) (ys.map (·.1)) := by
      simp [DataW.weightsEach]
    rw [hwe] at hw
    obtain ⟨x, hx, hox⟩ := h1 H enc W base spare held n _ y hy fun k hk => hw k (List.mem_append_left _ hk)
    obtain ⟨z, hz, hoz⟩ := h2 H enc W base spare held n cs ys (by rw [hl]; simp; omega) (by simpa using hn) (fun i g hi => by simpa using hg (i + 1) g (by simpa using hi)) fun k hk => hw k (List.mem_append_right _ hk)
    refine ⟨(x, z), ?_, hox, hoz⟩
    show cs.drop off = f x ++ f2 z
    rw [← hx, ← hz, ← List.drop_drop, List.take_append_drop]

theorem opens_struct {fs : Array Field} (ht : P.underlying t = some (.struct fs)) (hc : P.cellsOf t = (fs.toList.map fun fl => P.cellsOf fl.type).sum) (h : OpensF P fs.toList 0 f Ok) : Opens P t f Ok := by
  intro H enc W base spare held n cs y hy hw
  obtain ⟨xs, m, rfl, rfl, hl, hn, hg⟩ := DataW.trod_struct ht hy
  have hwe : (DataW.agg (xs.map (·.1)) : DataW H).weights P t = DataW.weightsEach P (fs.toList.map (·.type)) (xs.map (·.1)) := by
    simp [DataW.weights, ht]
  rw [hwe] at hw
  obtain ⟨x, hx, ho⟩ := h H enc W base spare held m cs xs (by rw [hl, hc]; omega) (by simpa using hn) (fun i fl hi => hg i fl (by simpa using hi)) hw
  exact ⟨x, by simpa using hx, ho⟩

/-- a slice, by its address, capacity and elements -/
structure SlV (α : Type) where
  A : Option Addr
  c : Nat
  xs : List α

theorem weights_all {H : Type} {P : Program} {e : TypeId} : ∀ {l : List (DataW H)} {d : DataW H}, d ∈ l → ∀ k ∈ d.weights P e, k ∈ DataW.weightsAll P e l
  | x :: r, d, h, k, hk => by
    simp only [DataW.weightsAll, List.mem_append]
    rcases List.mem_cons.1 h with rfl | h
    · exact .inl hk
    · exact .inr (weights_all h k hk)

def OkSl (P : Program) (e : TypeId) (f : α → List Value) (size : Nat) (Ok : World → α → Prop) (W : World) (x : SlV α) : Prop :=
  RdE f size W (fun b => b < W.heap.size) x.A x.xs.length x.xs ∧ (∀ a ∈ x.xs, Ok W a) ∧ x.xs.length ≤ x.c ∧ x.c ≤ maxLen ∧ x.xs.length * P.bytesOf e ≤ reachBytes ∧ (x.A = none → x.c = 0)

theorem list_of_fun {α : Type} {p : Nat → α → Prop} : ∀ (n : Nat), (∀ i, i < n → ∃ x, p i x) → ∃ l : List α, l.length = n ∧ ∀ i x, l[i]? = some x → p i x
  | 0, _ => ⟨[], rfl, fun i x h => by simp at h⟩
  | n + 1, h => by
    obtain ⟨l, hl, hp⟩ := list_of_fun n fun i hi => h i (by omega)
    obtain ⟨x, hx⟩ := h n (by omega)
    refine ⟨l ++ [x], by simp [hl], fun i y hy => ?_⟩
    by_cases hi : i < n
    · rw [List.getElem?_append_left (by omega)] at hy
      exact hp i y hy
    · have hin : i < (l ++ [x]).length := (List.getElem?_eq_some_iff.1 hy).1
      have e : i = n := by simp at hin; omega
      subst e
      rw [List.getElem?_append_right (by omega), hl, Nat.sub_self] at hy
      simp at hy
      subst hy
      exact hx

theorem opens_slice {size : Nat} (ht : P.underlying t = some (.slice e)) (hc : P.cellsOf e = size) (hs : 0 < size) (hf : ∀ x, (f x).length = size) (h : Opens P e f Ok) :
    Opens P t (fun x : SlV α => [Value.slice x.A x.xs.length x.c]) (OkSl P e f size Ok) := by
  intro H enc W base spare held n cs y hy hw
  rcases Go.Deep.open_slice ht hy with ⟨rfl, rfl⟩ | ⟨a, len, cap, m, k, D, Pl, rfl, hb, hl, hm, hmm, rfl, hi⟩
  · exact ⟨⟨none, 0, []⟩, rfl, RdE.nil .., fun a ha => by simp at ha, Nat.le_refl _, Nat.zero_le _, by simp, fun _ => rfl⟩
  · have hlm : len ≤ m := by rw [hmm]; split <;> omega
    have hw' : ∀ k ∈ DataW.weightsAll P e ((List.range len).map D), k ≤ reachBytes := fun k hk => hw k (by simp [DataW.weights, ht, hk])
    have hw0 : len * P.bytesOf e ≤ reachBytes := by
      have h0 := hw ((((List.range len).map D).length + ((List.range (m - len)).map fun j => D (len + j)).length) * P.bytesOf e) (by simp [DataW.weights, ht])
      refine Nat.le_trans (Nat.mul_le_mul_right _ ?_) h0
      simp
    obtain ⟨xs, hxl, hxs⟩ := list_of_fun (p := fun i x => W.cells? base (a.add (i * size)) size = some (f x) ∧ Ok W x) len fun i hi' => by
      obtain ⟨cs', hcs, htr⟩ := hi i (by omega)
      obtain ⟨x, rfl, ho⟩ := h H enc W base spare held k cs' _ htr fun q hq => hw' q (weights_all (List.mem_map.2 ⟨i, List.mem_range.2 hi', rfl⟩) q hq)
      rw [hc] at hcs
      exact ⟨x, hcs, ho⟩
    refine ⟨⟨some a, cap, xs⟩, by simp [hxl], ⟨⟨flat_len f size hf xs, fun j v hv => ?_⟩, rfl⟩, fun x hx => ?_, by simpa [hxl] using hl, hm, by simpa [hxl] using hw0, fun h => by cases h⟩
    · have hjl := (List.getElem?_eq_some_iff.1 hv).1
      rw [flat_len f size hf] at hjl
      have hq : j / size < xs.length := Nat.div_lt_of_lt_mul (by rw [Nat.mul_comm]; exact hjl)
      obtain ⟨x, hx⟩ := get_some (xs := xs) rfl hq
      have hr : j % size < size := Nat.mod_lt _ hs
      have hfv : (f x)[j % size]? = some v := by
        have h1 : (f x)[j % size]? = some ((f x)[j % size]'(by rw [hf]; exact hr)) := List.getElem?_eq_getElem _
        have h2 := flat_get f size hf xs (j / size) (j % size) x _ hx h1
        rw [Nat.div_add_mod'] at h2
        rw [h1, ← h2, hv]
      have hcell := (World.cells?_some (hxs _ x hx).1).2.2 (j % size) hr
      rw [hfv] at hcell
      have hsp : a.spot = none := by
        obtain ⟨x0, hx0⟩ := get_some (xs := xs) rfl (show 0 < xs.length from Nat.lt_of_le_of_lt (Nat.zero_le _) hq)
        have h0 := (World.cells?_some (hxs 0 x0 hx0).1).2.2 0 hs
        rw [List.getElem?_eq_getElem (by rw [hf]; exact hs)] at h0
        simpa [Addr.add] using World.cell?_spot h0
      obtain ⟨b, o, s⟩ := a
      simp only at hsp
      subst hsp
      rw [add_off, add_off] at hcell
      refine ⟨b, o, rfl, World.block_lt_of_cell? _ _ hcell, ?_⟩
      rw [← hcell, Nat.add_assoc, Nat.div_add_mod']
    · obtain ⟨i, hi'⟩ := List.getElem?_of_mem hx
      exact (hxs i x hi').2
end

end Go.Proofs.Ytfepmbpcdfdlhaa

/- what a grid reads as, opened -/
namespace Go.Proofs.Ytfepmbpcdfdlhaa
open Go.RowKit Go.Sort

theorem own : ownKnob Try.prog.godebug = none := by kernel_rfl
theorem laidOut : laidOutB Try.prog = true := by kernel_rfl
theorem opens_i64 : Opens Try.prog 2 Zc (fun _ x => (Lit.int .i64 x).wf = true) := opens_int Try.underlying2
theorem opens_longs : Opens Try.prog 22 (fun x : SlV Int => [Value.slice x.A x.xs.length x.c]) (OkSl Try.prog 2 Zc 1 fun _ x => (Lit.int .i64 x).wf = true) :=
  opens_slice Try.underlying22 (by kernel_rfl) (by omega) (fun _ => rfl) opens_i64
/-- a grid's three cells -/
structure GrA where
  r : Int
  c : Int
  d : SlV Int
def GrA.cells (x : GrA) : List Value := [.int .i64 x.r, .int .i64 x.c, .slice x.d.A x.d.xs.length x.d.c]
def GrA.Ok (W : World) (x : GrA) : Prop := (Lit.int .i64 x.r).wf = true ∧ (Lit.int .i64 x.c).wf = true ∧ OkSl Try.prog 2 Zc 1 (fun _ x => (Lit.int .i64 x).wf = true) W x.d
theorem opens_grid : Opens Try.prog 24 GrA.cells GrA.Ok :=
  (opens_struct Try.underlying24 (by kernel_rfl) (opensF_cons (opens_int Try.underlying3) rfl (opensF_cons (opens_int Try.underlying3) (by kernel_rfl) (opensF_cons opens_longs (by kernel_rfl) opensF_nil)))).map (fun x => ⟨x.1, x.2.1, x.2.2.1⟩) (fun _ => rfl) (fun _ _ h => ⟨h.1, h.2.1, h.2.2.1⟩)
theorem bytes_i64 : Try.prog.bytesOf 2 = 8 := by kernel_rfl
theorem wf63 {x : Int} (h : (Lit.int .i64 x).wf = true) : Z63 x := by
  have h1 := (Lit.wf_int_iff .i64 x).1 h
  unfold Z63
  exact h1
theorem GrA.at {W : World} {x : GrA} (h : GrA.Ok W x) : GridAt W (.agg #[.int .i64 x.r, .int .i64 x.c, .slice x.d.A x.d.xs.length x.d.c]) x.r x.c x.d.xs.length x.d.xs := by
  obtain ⟨h1, h2, h3, h4, _, _, h5, _⟩ := h
  rw [bytes_i64] at h5
  have hr : reachBytes = 140737488351232 := rfl
  exact ⟨⟨_, _, rfl, h3⟩, fun y hy => wf63 (h4 y hy), wf63 h1, wf63 h2, by omega⟩

end Go.Proofs.Ytfepmbpcdfdlhaa
