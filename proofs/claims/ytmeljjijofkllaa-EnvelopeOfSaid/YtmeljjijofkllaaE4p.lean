import Derived.Test.YtmeljjijofkllaaE3
namespace Go.Proofs.Ytmeljjijofkllaa
open Go.RowKit Go.Sort

def oneR (i : Nat) (s : Spn) : Rng := ⟨⟨s.lo, i⟩, ⟨s.hi, i⟩⟩
def zeroR : Rng := ⟨⟨0, 0⟩, ⟨0, 0⟩⟩
def stepR (i : Nat) (r : Rng) (s : Spn) : Rng := if i = 0 then oneR 0 s else bothR r (oneR i s)
def upTo (L : List (List Spn)) (m : Nat) : Nat → List Rng
  | 0 => List.replicate m zeroR
  | i + 1 => List.zipWith (stepR i) (upTo L m i) (L.getD i [])
def mid (L : List (List Spn)) (m i k : Nat) : List Rng := (upTo L m (i + 1)).take k ++ (upTo L m i).drop k
def evenB (L : List (List Spn)) : Bool := L.all fun l => l.length == (L.getD 0 []).length
def rightsB (L : List (List Spn)) : Bool := L.all fun l => l.all rightB
def ofErr (L : List (List Spn)) : Int := if L = [] then 0 else if evenB L = false then 4 else if rightsB L = false then 2 else 0
def ofRes (L : List (List Spn)) : List Rng := if L = [] then [] else if evenB L = false then [] else if rightsB L = false then [] else upTo L (L.getD 0 []).length L.length
def OfPost (L : List (List Spn)) (w : World) (e : Ending) (w' : World) : Prop :=
  ∃ A n c, e = .returned (.tuple #[.slice A n c, .int .i64 (ofErr L)]) ∧ n ≤ c ∧ RdE Rng.cells 4 w' (fun b => w.heap.size ≤ b ∧ b < w'.heap.size) A n (ofRes L) ∧ Below w.heap.size w w'

def EvenTo (L : List (List Spn)) (k : Nat) : Prop := ∀ (i : Nat) (l : List Spn), i < k → L[i]? = some l → l.length = (L.getD 0 []).length
structure OutInv (w wr : World) (L : List (List Spn)) (m i k : Nat) : Prop where
  below : Below w.heap.size w wr
  own : wr.ownsRow w.heap.size 47 4 (.slice (some ⟨w.heap.size, 0, none⟩) m m) m ((mid L m i k).flatMap Rng.cells)

def RightCol (l : List Spn) (k : Nat) : Prop := ∀ (i : Nat) (x : Spn), i < k → l[i]? = some x → rightB x = true
theorem getD_some {α : Type} {L : List (List α)} {l : List α} {i : Nat} (h : L[i]? = some l) : L.getD i [] = l := by simp [List.getD, h]
def RightTo (L : List (List Spn)) (k : Nat) : Prop := ∀ (i : Nat) (l : List Spn), i < k → L[i]? = some l → l.all rightB = true
theorem made_get (z : List Value) (n : Nat) (j : Nat) (h : j < n) : (madeCells z.toArray n).toList[j]? = some (z.toArray[j % z.length]!) := by
  simp [madeCells, h]
theorem rep_get {α : Type} (f : α → List Value) (size : Nat) (hf : ∀ x, (f x).length = size) (x : α) : ∀ (n j : Nat), j < n * size → 0 < size → ((List.replicate n x).flatMap f)[j]? = (f x)[j % size]?
  | 0, j, h, _ => by omega
  | n + 1, j, h, hs => by
    rw [List.replicate_succ, List.flatMap_cons]
    by_cases h1 : j < size
    · rw [List.getElem?_append_left (by rw [hf]; exact h1), Nat.mod_eq_of_lt h1]
    · rw [List.getElem?_append_right (by rw [hf]; omega), hf, rep_get f size hf x n (j - size) (by rw [Nat.add_mul] at h; omega) hs]
      rw [← Nat.mod_eq_sub_mod (show size ≤ j by omega)]
theorem made_flat {α : Type} (f : α → List Value) (size : Nat) (hf : ∀ x, (f x).length = size) (hs : 0 < size) (x : α) (n : Nat) : (madeCells (f x).toArray (n * size)).toList = (List.replicate n x).flatMap f := by
  apply List.ext_getElem?
  intro j
  by_cases h : j < n * size
  · rw [made_get _ _ _ h, rep_get f size hf x n j h hs, hf]
    have h2 : j % size < (f x).length := by rw [hf]; exact Nat.mod_lt _ hs
    rw [List.getElem?_eq_getElem h2]
    simp [h2]
  · rw [List.getElem?_eq_none (by simp [madeCells]; omega), List.getElem?_eq_none (by rw [flat_len f size hf]; simp; omega)]
theorem made_rng (n : Nat) : (madeCells (Value.agg #[.float .f64 0, .int .i64 0, .float .f64 0, .int .i64 0]).cells (n * 4)).toList = (List.replicate n zeroR).flatMap Rng.cells :=
  made_flat Rng.cells 4 Rng.clen (by omega) zeroR n
theorem out_start {w w1 : World} {L : List (List Spn)} {m : Nat} (hown : w1.ownsRow w.heap.size 47 4 (.slice (some ⟨w.heap.size, 0, none⟩) m m) m (madeCells (Value.agg #[.float .f64 0, .int .i64 0, .float .f64 0, .int .i64 0]).cells (m * 4)).toList) (hg : w.grownBy w1 none) : OutInv w w1 L m 0 0 := by
  refine ⟨below_of_grown hg (by simp), ?_⟩
  rw [made_rng] at hown
  simpa [mid, upTo] using hown

theorem upTo_len (L : List (List Spn)) (m : Nat) : ∀ i, (∀ (k : Nat) (l : List Spn), k < i → L[k]? = some l → l.length = m) → i ≤ L.length → (upTo L m i).length = m
  | 0, _, _ => by simp [upTo]
  | i + 1, h, hi => by
    obtain ⟨l, hl⟩ := get_some (xs := L) rfl (show i < L.length by omega)
    rw [upTo, getD_some hl, List.length_zipWith, upTo_len L m i (fun k l hk => h k l (by omega)) (by omega), h i l (by omega) hl, Nat.min_self]
theorem mid_zero (L : List (List Spn)) (m i : Nat) : mid L m i 0 = upTo L m i := by simp [mid]
theorem mid_full {L : List (List Spn)} {m i : Nat} (h1 : (upTo L m (i + 1)).length = m) (h0 : (upTo L m i).length = m) : mid L m i m = upTo L m (i + 1) := by
  unfold mid
  rw [List.take_of_length_le (by omega), List.drop_of_length_le (by omega), List.append_nil]
theorem mid_succ {L : List (List Spn)} {m i j : Nat} {l : List Spn} {x : Spn} {r : Rng} (h1 : (upTo L m (i + 1)).length = m) (h0 : (upTo L m i).length = m) (hl : L[i]? = some l) (hx : l[j]? = some x) (hj : j < m)
    (hr : (mid L m i j)[j]? = some r) : mid L m i (j + 1) = (mid L m i j).set j (stepR i r x) := by
  have hr0 : (upTo L m i)[j]? = some r := by
    unfold mid at hr
    rw [List.getElem?_append_right (by simp; omega), List.length_take, h1, Nat.min_eq_left (by omega), Nat.sub_self, List.getElem?_drop, Nat.add_zero] at hr
    exact hr
  have hr1 : (upTo L m (i + 1))[j]? = some (stepR i r x) := by
    rw [upTo, getD_some hl, List.getElem?_zipWith, hr0, hx]
  apply List.ext_getElem?
  intro t
  unfold mid
  by_cases ht : t = j
  · subst ht
    rw [List.getElem?_append_left (by simp; omega), List.getElem?_take, if_pos (by omega), hr1, List.getElem?_set_self (by simp; omega)]
  · rw [List.getElem?_set_ne (by omega)]
    by_cases hlt : t < j
    · rw [List.getElem?_append_left (by simp; omega), List.getElem?_append_left (by simp; omega), List.getElem?_take, List.getElem?_take, if_pos (by omega), if_pos hlt]
    · rw [List.getElem?_append_right (by simp; omega), List.getElem?_append_right (by simp; omega), List.getElem?_drop, List.getElem?_drop, List.length_take, List.length_take, h1]
      congr 1
      omega

theorem out_step2 {w wr w2 : World} {L : List (List Spn)} {m i j : Nat} {l : List Spn} {x : Spn} {r r' : Rng} (h : OutInv w wr L m i j) (hb : Below wr.heap.size wr w2)
    (hr : (mid L m i j)[j]? = some r) (hl : L[i]? = some l) (hx : l[j]? = some x) (he : ∀ (k : Nat) (l : List Spn), L[k]? = some l → l.length = m) (hj : j < m) (hr' : r' = stepR i r x) :
    OutInv w (setAll w2 w.heap.size (j * 4) (Rng.cells r')) L m i (j + 1) := by
  have hil := (List.getElem?_eq_some_iff.1 hl).1
  have ho := own_below h.own hb
  obtain ⟨h3, h4⟩ := own_setAll (Rng.cells r') (j * 4) _ _ ho
  have hn := own_num Rng.clen (by omega) h.own
  rw [putAll_flat Rng.clen r' _ _ (by omega), hr', ← mid_succ (upTo_len L m (i + 1) (fun k l _ => he k l) (by omega)) (upTo_len L m i (fun k l _ => he k l) (by omega)) hl hx hj hr] at h3
  have hb2 : Below w.heap.size w w2 := h.below.trans (hb.mono h.below.size)
  have hlt := (h.own.lt w.heap.size rfl).2
  have hz := hb.size
  subst hr'
  exact ⟨hb2.grown h4 (by omega) (fun g hg => by injection hg with hg; omega), h3⟩
theorem out_step {w wr w2 : World} {L : List (List Spn)} {m i j : Nat} {l : List Spn} {x : Spn} {r r' : Rng} {o o' : Obj} (h : OutInv w wr L m i j) (hb : Below (wr.alloc o).heap.size (wr.alloc o) w2)
    (hr : (mid L m i j)[j]? = some r) (hl : L[i]? = some l) (hx : l[j]? = some x) (he : ∀ (k : Nat) (l : List Spn), L[k]? = some l → l.length = m) (hj : j < m) (hr' : r' = stepR i r x) :
    OutInv w ((setAll w2 w.heap.size (j * 4) (Rng.cells r')).alloc o') L m i (j + 1) := by
  have h2 := out_step2 h (below_then (below1 wr o) hb) hr hl hx he hj hr'
  exact ⟨h2.below.alloc h2.below.size _, h2.own.alloc _⟩
theorem step_zero {i : Nat} {r : Rng} {x : Spn} (h : ((i : Int) == 0) = true) : (⟨⟨x.lo, i⟩, ⟨x.hi, i⟩⟩ : Rng) = stepR i r x := by
  have : i = 0 := by simpa using h
  subst this
  rfl
theorem step_more {i : Nat} {r : Rng} {x : Spn} (h : ((i : Int) == 0) = false) : bothR r ⟨⟨x.lo, i⟩, ⟨x.hi, i⟩⟩ = stepR i r x := by
  have : ¬ i = 0 := by simpa using h
  simp [stepR, this, oneR]
theorem even_all {L : List (List Spn)} {n : Nat} {l0 : List Spn} (h : EvenTo L n) (hn : L.length = n) (h0 : L[0]? = some l0) : ∀ (k : Nat) (l : List Spn), L[k]? = some l → l.length = l0.length := by
  intro k l hl
  have := h k l (by have := (List.getElem?_eq_some_iff.1 hl).1; omega) hl
  rw [getD_some h0] at this
  exact this
theorem right_succ {l : List Spn} {j : Nat} {x : Spn} (h : RightCol l j) (hx : l[j]? = some x) (hr : rightB x = true) : RightCol l (j + 1) := by
  intro i y hi hy
  by_cases e : i = j
  · subst e
    rw [hx] at hy
    injection hy with hy
    subst hy
    exact hr
  · exact h i y (by omega) hy
theorem right_row {L : List (List Spn)} {i : Nat} {l : List Spn} (h : RightTo L i) (hl : L[i]? = some l) (hr : RightCol l l.length) : RightTo L (i + 1) := by
  intro k m hk hm
  by_cases e : k = i
  · subst e
    rw [hl] at hm
    injection hm with hm
    subst hm
    rw [List.all_eq_true]
    intro y hy
    obtain ⟨t, ht⟩ := List.getElem?_of_mem hy
    exact hr t y (List.getElem?_eq_some_iff.1 ht).1 ht
  · exact h k m (by omega) hm

theorem even_succ {L : List (List Spn)} {k : Nat} {l l0 : List Spn} (h : EvenTo L k) (hl : L[k]? = some l) (h0 : L[0]? = some l0) (e : l.length = l0.length) : EvenTo L (k + 1) := by
  intro i m hi hm
  by_cases hik : i = k
  · subst hik
    rw [hl] at hm
    injection hm with hm
    subst hm
    rw [getD_some h0, e]
  · exact h i m (by omega) hm
theorem ne_nil_of {L : List (List Spn)} {k : Nat} {l : List Spn} (hl : L[k]? = some l) : L ≠ [] := by rintro rfl; simp at hl
theorem of_uneven {L : List (List Spn)} {n k : Nat} {l l0 : List Spn} {w : World} (_ : L.length = n) (hl : L[k]? = some l) (h0 : L[0]? = some l0) (e : ¬ l.length = l0.length) : OfPost L w (.returned (.tuple #[.slice none 0 0, .int .i64 4])) w := by
  have hev : evenB L = false := by
    unfold evenB
    rw [List.all_eq_false]
    exact ⟨l, List.mem_of_getElem? hl, by rw [getD_some h0]; simpa using e⟩
  refine ⟨none, 0, 0, by simp [ofErr, hev, ne_nil_of hl], Nat.le_refl _, ?_, Below.refl _ _⟩
  have : ofRes L = [] := by simp [ofRes, hev]
  rw [this]
  exact RdE.nil ..
theorem even_true {L : List (List Spn)} {n : Nat} (h : EvenTo L n) (hn : L.length = n) : evenB L = true := by
  unfold evenB
  rw [List.all_eq_true]
  intro l hl
  obtain ⟨t, ht⟩ := List.getElem?_of_mem hl
  simpa using h t l (by have := (List.getElem?_eq_some_iff.1 ht).1; omega) ht
theorem of_wrong {L : List (List Spn)} {n i j : Nat} {l : List Spn} {x : Spn} {w w' : World} (hn : L.length = n) (he : EvenTo L n) (hl : L[i]? = some l) (hx : l[j]? = some x) (hr : rightB x = false) (hb : Below w.heap.size w w') :
    OfPost L w (.returned (.tuple #[.slice none 0 0, .int .i64 2])) w' := by
  have hrt : rightsB L = false := by
    unfold rightsB
    rw [List.all_eq_false]
    refine ⟨l, List.mem_of_getElem? hl, ?_⟩
    rw [Bool.not_eq_true, List.all_eq_false]
    exact ⟨x, List.mem_of_getElem? hx, by simp [hr]⟩
  refine ⟨none, 0, 0, by simp [ofErr, hrt, even_true he hn, ne_nil_of hl], Nat.le_refl _, ?_, hb⟩
  have : ofRes L = [] := by simp [ofRes, hrt]
  rw [this]
  exact RdE.nil ..
theorem out_next {w wr : World} {L : List (List Spn)} {m i : Nat} {l : List Spn} (h : OutInv w wr L m i l.length) (he : ∀ (k : Nat) (l : List Spn), L[k]? = some l → l.length = m) (hl : L[i]? = some l) : OutInv w wr L m (i + 1) 0 := by
  have hil := (List.getElem?_eq_some_iff.1 hl).1
  have hlm := he i l hl
  refine ⟨h.below, ?_⟩
  have h2 := h.own
  rw [hlm, mid_full (upTo_len L m (i + 1) (fun k l _ => he k l) (by omega)) (upTo_len L m i (fun k l _ => he k l) (by omega))] at h2
  rw [mid_zero]
  exact h2
theorem of_done {L : List (List Spn)} {n : Nat} {l0 : List Spn} {w wr : World} (hn : L.length = n) (he : EvenTo L n) (h0 : L[0]? = some l0) (hr : RightTo L n) (h : OutInv w wr L l0.length n 0) :
    OfPost L w (.returned (.tuple #[.slice (some ⟨w.heap.size, 0, none⟩) l0.length l0.length, .int .i64 0])) wr := by
  have hrt : rightsB L = true := by
    unfold rightsB
    rw [List.all_eq_true]
    intro l hl
    obtain ⟨t, ht⟩ := List.getElem?_of_mem hl
    exact hr t l (by have := (List.getElem?_eq_some_iff.1 ht).1; omega) ht
  have hev := even_true he hn
  have hne := ne_nil_of h0
  refine ⟨some ⟨w.heap.size, 0, none⟩, l0.length, l0.length, by simp [ofErr, hrt, hev], Nat.le_refl _, ?_, h.below⟩
  have e : ofRes L = upTo L l0.length n := by simp only [ofRes, hrt, hev, hne, getD_some h0, hn, if_false, Bool.true_eq_false]
  have h2 := h.own
  rw [mid_zero] at h2
  rw [e]
  exact (RdE.of_own Rng.clen (by omega) h2).imp fun b hb => ⟨hb.1, hb.2.1⟩

end Go.Proofs.Ytmeljjijofkllaa
