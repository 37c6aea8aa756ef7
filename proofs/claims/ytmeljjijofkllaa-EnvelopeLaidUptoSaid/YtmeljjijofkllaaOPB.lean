import Derived.Test.YtmeljjijofkllaaOP
import Derived.Test.YtmeljjijofkllaaRows
import Derived.Deep.CondSized
/-
  The same with the reading's bulk: what is opened is no greater than what was read ('upto').
-/
namespace Go.Proofs.Ytmeljjijofkllaa
open Go.RowKit Go.Sort

/-- Whatever reads as data of type t is the cells of some x, in order in its world, and its measure is at most the reading's bulk. -/
def OpensB (P : Program) (t : TypeId) {α : Type} (f : α → List Value) (Ok : World → α → Prop) (sz : α → Nat) : Prop :=
  ∀ (H : Type) (enc : TypeId × Value → H) (W : World) (base : Nat) (spare : Nat → Bool) (held : Bool) (n : Nat) (cs : List Value) (y : DataW H × List MemPlace),
    DataW.trod enc P W base spare held n t cs = some y → (∀ k ∈ y.1.weights P t, k ≤ reachBytes) → ∃ x, cs = f x ∧ Ok W x ∧ sz x ≤ Rows.uptoBulk y.1
def OpensFB (P : Program) (l : List Field) (off : Nat) {α : Type} (f : α → List Value) (Ok : World → α → Prop) (sz : α → Nat) : Prop :=
  ∀ (H : Type) (enc : TypeId × Value → H) (W : World) (base : Nat) (spare : Nat → Bool) (held : Bool) (n : Nat) (cs : List Value) (ys : List (DataW H × List MemPlace)),
    cs.length = off + (l.map fun fl => P.cellsOf fl.type).sum → ys.length = l.length →
    (∀ (i : Nat) (fl : Field), l[i]? = some fl → DataW.trod enc P W base spare held n fl.type ((cs.drop fl.offset).take (P.cellsOf fl.type)) = ys[i]?) →
    (∀ k ∈ DataW.weightsEach P (l.map (·.type)) (ys.map (·.1)), k ≤ reachBytes) → ∃ x, cs.drop off = f x ∧ Ok W x ∧ sz x ≤ Rows.uptoBulkAll (ys.map (·.1))

section
variable {P : Program} {α β : Type} {f : α → List Value} {f' : β → List Value} {Ok : World → α → Prop} {Ok' : World → β → Prop} {t e : TypeId} {sz : α → Nat} {sz' : β → Nat}

theorem OpensB.map (h : OpensB P t f Ok sz) (g : α → β) (hf : ∀ a, f a = f' (g a)) (hok : ∀ W a, Ok W a → Ok' W (g a)) (hs : ∀ a, sz' (g a) ≤ sz a) : OpensB P t f' Ok' sz' := by
  intro H enc W base spare held n cs y hy hw
  obtain ⟨x, hx, ho, hz⟩ := h H enc W base spare held n cs y hy hw
  exact ⟨g x, by rw [hx, hf], hok W x ho, Nat.le_trans (hs x) hz⟩
theorem bulk_one {H : Type} (d : DataW H) : 1 ≤ Rows.uptoBulk d := by
  unfold Rows.uptoBulk
  split <;> omega
theorem Opens.bulk (h : Opens P t f Ok) : OpensB P t f Ok (fun _ => 1) := by
  intro H enc W base spare held n cs y hy hw
  obtain ⟨x, hx, ho⟩ := h H enc W base spare held n cs y hy hw
  exact ⟨x, hx, ho, bulk_one _⟩

theorem opensFB_nil {off : Nat} : OpensFB P [] off (fun _ : Unit => []) (fun _ _ => True) (fun _ => 0) := by
  intro H enc W base spare held n cs ys hl _ _ _
  exact ⟨(), List.drop_of_length_le (by simp at hl; omega), trivial, Nat.zero_le _⟩
theorem opensFB_cons {fl : Field} {l : List Field} {off : Nat} {f2 : β → List Value} {Ok2 : World → β → Prop} {sz2 : β → Nat} (h1 : OpensB P fl.type f Ok sz) (ho : fl.offset = off) (h2 : OpensFB P l (off + P.cellsOf fl.type) f2 Ok2 sz2) :
    OpensFB P (fl :: l) off (fun x : α × β => f x.1 ++ f2 x.2) (fun W x => Ok W x.1 ∧ Ok2 W x.2) (fun x => sz x.1 + sz2 x.2) := by
  intro H enc W base spare held n cs ys hl hn hg hw
  match ys, hn with
  | y :: ys, hn =>
    have hy := hg 0 fl rfl
    rw [ho] at hy
    have hwe : DataW.weightsEach P ((fl :: l).map (·.type)) ((y :: ys).map (·.1)) = y.1.weights P fl.type ++ DataW.weightsEach P (l.map (·.type)) (ys.map (·.1)) := by
      simp [DataW.weightsEach]
    rw [hwe] at hw
    obtain ⟨x, hx, hox, hzx⟩ := h1 H enc W base spare held n _ y hy fun k hk => hw k (List.mem_append_left _ hk)
    obtain ⟨z, hz, hoz, hzz⟩ := h2 H enc W base spare held n cs ys (by rw [hl]; simp; omega) (by simpa using hn) (fun i g hi => by simpa using hg (i + 1) g (by simpa using hi)) fun k hk => hw k (List.mem_append_right _ hk)
    refine ⟨(x, z), ?_, ⟨hox, hoz⟩, by simp only [List.map_cons, Rows.uptoBulkAll]; omega⟩
    show cs.drop off = f x ++ f2 z
    rw [← hx, ← hz, ← List.drop_drop, List.take_append_drop]

theorem opensB_struct {fs : Array Field} (ht : P.underlying t = some (.struct fs)) (hc : P.cellsOf t = (fs.toList.map fun fl => P.cellsOf fl.type).sum) (h : OpensFB P fs.toList 0 f Ok sz) : OpensB P t f Ok sz := by
  intro H enc W base spare held n cs y hy hw
  obtain ⟨xs, m, rfl, rfl, hl, hn, hg⟩ := DataW.trod_struct ht hy
  have hwe : (DataW.agg (xs.map (·.1)) : DataW H).weights P t = DataW.weightsEach P (fs.toList.map (·.type)) (xs.map (·.1)) := by
    simp [DataW.weights, ht]
  rw [hwe] at hw
  obtain ⟨x, hx, ho, hz⟩ := h H enc W base spare held m cs xs (by rw [hl, hc]; omega) (by simpa using hn) (fun i fl hi => hg i fl (by simpa using hi)) hw
  exact ⟨x, by simpa using hx, ho, by simp only [Rows.uptoBulk]; omega⟩

theorem bulk_all {H : Type} : ∀ (xs : List α) (l : List (DataW H)), xs.length = l.length → (∀ (i : Nat) (x : α) (d : DataW H), xs[i]? = some x → l[i]? = some d → sz x ≤ Rows.uptoBulk d) → (xs.map sz).sum ≤ Rows.uptoBulkAll l
  | [], [], _, _ => Nat.zero_le _
  | x :: xs, d :: l, hl, h => by
    have h1 := h 0 x d rfl rfl
    have h2 := bulk_all xs l (by simpa using hl) fun i x d hx hd => h (i + 1) x d (by simpa using hx) (by simpa using hd)
    simp only [List.map_cons, List.sum_cons, Rows.uptoBulkAll]
    omega
theorem opensB_slice {size : Nat} (ht : P.underlying t = some (.slice e)) (hc : P.cellsOf e = size) (hs : 0 < size) (hf : ∀ x, (f x).length = size) (h : OpensB P e f Ok sz) :
    OpensB P t (fun x : SlV α => [Value.slice x.A x.xs.length x.c]) (OkSl P e f size Ok) (fun x => (x.xs.map sz).sum + 1) := by
  intro H enc W base spare held n cs y hy hw
  rcases Go.Deep.open_slice ht hy with ⟨rfl, rfl⟩ | ⟨a, len, cap, m, k, D, Pl, rfl, hb, hl, hm, hmm, rfl, hi⟩
  · exact ⟨⟨none, 0, []⟩, rfl, ⟨RdE.nil .., fun a ha => by simp at ha, Nat.le_refl _, Nat.zero_le _, by simp, fun _ => rfl⟩, by simp [Rows.uptoBulk]⟩
  · have hlm : len ≤ m := by rw [hmm]; split <;> omega
    have hw' : ∀ k ∈ DataW.weightsAll P e ((List.range len).map D), k ≤ reachBytes := fun k hk => hw k (by simp [DataW.weights, ht, hk])
    have hw0 : len * P.bytesOf e ≤ reachBytes := by
      have h0 := hw ((((List.range len).map D).length + ((List.range (m - len)).map fun j => D (len + j)).length) * P.bytesOf e) (by simp [DataW.weights, ht])
      refine Nat.le_trans (Nat.mul_le_mul_right _ ?_) h0
      simp
    obtain ⟨xs, hxl, hxs⟩ := list_of_fun (p := fun i x => W.cells? base (a.add (i * size)) size = some (f x) ∧ Ok W x ∧ sz x ≤ Rows.uptoBulk (D i)) len fun i hi' => by
      obtain ⟨cs', hcs, htr⟩ := hi i (by omega)
      obtain ⟨x, rfl, ho, hz⟩ := h H enc W base spare held k cs' _ htr fun q hq => hw' q (weights_all (List.mem_map.2 ⟨i, List.mem_range.2 hi', rfl⟩) q hq)
      rw [hc] at hcs
      exact ⟨x, hcs, ho, hz⟩
    refine ⟨⟨some a, cap, xs⟩, by simp [hxl], ⟨⟨⟨flat_len f size hf xs, fun j v hv => ?_⟩, rfl⟩, fun x hx => ?_, by simpa [hxl] using hl, hm, by simpa [hxl] using hw0, fun h => by cases h⟩, ?_⟩
    · have hjl := (List.getElem?_eq_some_iff.1 hv).1
      rw [flat_len f size hf] at hjl
      have hq : j / size < xs.length := Nat.div_lt_of_lt_mul (by rw [Nat.mul_comm]; exact hjl)
      obtain ⟨x, hx⟩ := get_some (xs := xs) rfl hq
      have hr : j % size < size := Nat.mod_lt _ hs
      have hfv : (f x)[j % size]? = some v := by
        have h1 : (f x)[j % size]? = some ((f x)[j % size]'(by rw [hf]; exact hr)) := List.getElem?_eq_getElem _
        have h2 := flat_get f size hf xs (j / size) (j % size) x _ hx h1
        rw [Nat.div_add_mod'] at h2
        rw [h1, ← h2, hv]
      have hcell := (World.cells?_some (hxs _ x hx).1).2.2 (j % size) hr
      rw [hfv] at hcell
      have hsp : a.spot = none := by
        obtain ⟨x0, hx0⟩ := get_some (xs := xs) rfl (show 0 < xs.length from Nat.lt_of_le_of_lt (Nat.zero_le _) hq)
        have h0 := (World.cells?_some (hxs 0 x0 hx0).1).2.2 0 hs
        rw [List.getElem?_eq_getElem (by rw [hf]; exact hs)] at h0
        simpa [Addr.add] using World.cell?_spot h0
      obtain ⟨b, o, s⟩ := a
      simp only at hsp
      subst hsp
      rw [add_off, add_off] at hcell
      refine ⟨b, o, rfl, World.block_lt_of_cell? _ _ hcell, ?_⟩
      rw [← hcell, Nat.add_assoc, Nat.div_add_mod']
    · obtain ⟨i, hi'⟩ := List.getElem?_of_mem hx
      exact (hxs i x hi').2.1
    · have hb := bulk_all (sz := sz) xs ((List.range len).map D) (by simp [hxl]) fun i x d hx hd => by
        rw [List.getElem?_map, Option.map_eq_some_iff] at hd
        obtain ⟨i', hi', rfl⟩ := hd
        obtain ⟨_, e⟩ := List.getElem?_eq_some_iff.1 hi'
        rw [List.getElem_range] at e
        subst e
        exact (hxs i x hx).2.2
      simp only [Rows.uptoBulk]
      omega
end

end Go.Proofs.Ytmeljjijofkllaa
