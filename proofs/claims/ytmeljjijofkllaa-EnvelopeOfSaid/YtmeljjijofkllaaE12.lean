import Derived.Test.YtmeljjijofkllaaE7
import Derived.Test.YtmeljjijofkllaaE11
/- EnvelopeLaid's plain law: the ranges of two parts, laid together, are the ranges of all -/
namespace Go.Proofs.Ytmeljjijofkllaa
open Go.RowKit Go.Sort

theorem best_congr {a a' : Nat → Nat} {key : Nat → Int} {i : Nat} {x : Ext} (h : Best a key i x) (e : ∀ t, t < i → a t = a' t) : Best a' key i x := by
  obtain ⟨i1, h1, h2, h3, h4, h5⟩ := h
  exact ⟨i1, h1, h2, by rw [h3, e i1 h1], fun t ht => by rw [← e t ht]; exact h4 t ht, fun t ht => by rw [← e t (by omega)]; exact h5 t ht⟩
theorem best_unique {a : Nat → Nat} {key : Nat → Int} {i : Nat} {x y : Ext} (h : Best a key i x) (k : Best a key i y) : x = y := by
  obtain ⟨i1, h1, h2, h3, h4, h5⟩ := h
  obtain ⟨i2, k1, k2, k3, k4, k5⟩ := k
  have e : i1 = i2 := by
    have q1 := h4 i2 k1
    have q2 := k4 i1 h1
    rw [k3] at q2
    rw [h3] at q1
    rcases Nat.lt_trichotomy i1 i2 with q | q | q
    · exact absurd (by rw [k3]; omega) (k5 i1 q)
    · exact q
    · exact absurd (by rw [h3]; omega) (h5 i2 q)
  subst e
  cases x; cases y
  simp_all
theorem best_join {a : Nat → Nat} {key : Nat → Int} {n m : Nat} {x y : Ext} (h : Best a key n x) (k : Best (fun t => a (n + t)) key m y) :
    Best a key (n + m) (if key y.at_ < key x.at_ then ⟨y.at_, y.of_ + n⟩ else x) := by
  obtain ⟨i1, h1, h2, h3, h4, h5⟩ := h
  obtain ⟨i2, k1, k2, k3, k4, k5⟩ := k
  simp only at k3 k4 k5
  have sp : ∀ t, n ≤ t → ∃ s, t = n + s := fun t ht => ⟨t - n, by omega⟩
  split
  · rename_i hlt
    refine ⟨n + i2, by omega, ?_, k3, fun t ht => ?_, fun t ht => ?_⟩
    · show y.of_ + n = _; rw [k2]; omega
    · by_cases e : t < n
      · have := h4 t e; show key y.at_ ≤ _; omega
      · obtain ⟨s, rfl⟩ := sp t (by omega)
        exact k4 s (by omega)
    · by_cases e : t < n
      · have := h4 t e; show _ ≠ key y.at_; omega
      · obtain ⟨s, rfl⟩ := sp t (by omega)
        exact k5 s (by omega)
  · rename_i hge
    refine ⟨i1, by omega, h2, h3, fun t ht => ?_, h5⟩
    by_cases e : t < n
    · exact h4 t e
    · obtain ⟨s, rfl⟩ := sp t (by omega)
      have := k4 s (by omega); omega

theorem best_num {L : List (List Spn)} {a : Nat → Nat} {key : Nat → Int} {i : Nat} {x : Ext} (h : Best a key i x) (hr : ∀ t, t < i → fnan (a t) = false) : fnan x.at_ = false := by
  obtain ⟨i1, h1, _, h3, _⟩ := h
  rw [h3]; exact hr i1 h1

/-- rows all of one length, all right -/
structure Rows' (L : List (List Spn)) (m : Nat) : Prop where
  even : ∀ (i : Nat) (l : List Spn), L[i]? = some l → l.length = m
  right : ∀ (i : Nat) (l : List Spn), L[i]? = some l → l.all rightB = true
theorem Rows'.nums {L : List (List Spn)} {m : Nat} (h : Rows' L m) {k : Nat} (hk : k < m) (t : Nat) (ht : t < L.length) : fnan (colLo L k t) = false ∧ fnan (colHi L k t) = false := by
  obtain ⟨l', hl'⟩ := get_some (xs := L) rfl ht
  obtain ⟨s', hs'⟩ := get_some (h.even t l' hl') hk
  obtain ⟨e1, e2⟩ := col_of hl' hs'
  rw [e1, e2]
  exact right_nums (List.all_eq_true.1 (h.right t l' hl') s' (List.mem_of_getElem? hs'))
theorem Rows'.take {L : List (List Spn)} {m : Nat} (h : Rows' L m) (n : Nat) : Rows' (L.take n) m := by
  refine ⟨fun i l hl => ?_, fun i l hl => ?_⟩ <;> rw [List.getElem?_take] at hl <;> split at hl
  · exact h.even i l hl
  · cases hl
  · exact h.right i l hl
  · cases hl
theorem Rows'.drop {L : List (List Spn)} {m : Nat} (h : Rows' L m) (n : Nat) : Rows' (L.drop n) m := by
  refine ⟨fun i l hl => ?_, fun i l hl => ?_⟩ <;> rw [List.getElem?_drop] at hl
  · exact h.even _ l hl
  · exact h.right _ l hl
theorem Rows'.ok {L : List (List Spn)} {m : Nat} (h : Rows' L m) (hn : 0 < L.length) : ofErr L = 0 ∧ ofRes L = upTo L m L.length := by
  obtain ⟨l0, h0⟩ := get_some (xs := L) rfl hn
  have hg : (L.getD 0 []).length = m := by rw [getD_some h0]; exact h.even 0 l0 h0
  have h1 : evenB L = true := by
    unfold evenB
    rw [List.all_eq_true]
    intro l hl
    obtain ⟨i, hi⟩ := List.mem_iff_getElem?.1 hl
    rw [hg, h.even i l hi]
    simp
  have h2 : rightsB L = true := by
    unfold rightsB
    rw [List.all_eq_true]
    intro l hl
    obtain ⟨i, hi⟩ := List.mem_iff_getElem?.1 hl
    exact h.right i l hi
  have h3 : L ≠ [] := by rintro rfl; simp at hn
  exact ⟨by simp [ofErr, h1, h2], by unfold ofRes; rw [if_neg h3, if_neg (by simp [h1]), if_neg (by simp [h2]), hg]⟩

theorem laid_get {L : List (List Spn)} {m n : Nat} (h : Rows' L m) (h0 : 0 < n) (hn : n < L.length) {k : Nat} (hk : k < m) :
    ∃ x y : Rng, (upTo (L.take n) m n)[k]? = some x ∧ (upTo (L.drop n) m (L.length - n))[k]? = some y ∧ (upTo L m L.length)[k]? = some (bothR x (shiftR n y)) ∧ numB x = true ∧ numB y = true ∧
      (0 ≤ x.least.of_ ∧ x.least.of_ < n ∧ 0 ≤ x.most.of_ ∧ x.most.of_ < n) ∧ (0 ≤ y.least.of_ ∧ y.least.of_ < L.length ∧ 0 ≤ y.most.of_ ∧ y.most.of_ < L.length) := by
  have lt : (L.take n).length = n := by rw [List.length_take]; omega
  have ld : (L.drop n).length = L.length - n := List.length_drop
  obtain ⟨x, hx, x1, x2⟩ := upTo_best (h.take n).even (h.take n).right hk n h0 (by omega)
  obtain ⟨y, hy, y1, y2⟩ := upTo_best (h.drop n).even (h.drop n).right hk (L.length - n) (by omega) (by omega)
  obtain ⟨z, hz, z1, z2⟩ := upTo_best h.even h.right hk L.length (by omega) (by omega)
  have ex : ∀ t, t < n → colLo (L.take n) k t = colLo L k t ∧ colHi (L.take n) k t = colHi L k t := by
    intro t ht
    simp [colLo, colHi, List.getD, ht]
  have ey : ∀ t, colLo (L.drop n) k t = colLo L k (n + t) ∧ colHi (L.drop n) k t = colHi L k (n + t) := by
    intro t
    simp [colLo, colHi, List.getD]
  have x1 := best_congr x1 (fun t ht => (ex t ht).1)
  have x2 := best_congr x2 (fun t ht => (ex t ht).2)
  have y1 := best_congr (a' := fun t => colLo L k (n + t)) y1 (fun t _ => (ey t).1)
  have y2 := best_congr (a' := fun t => colHi L k (n + t)) y2 (fun t _ => (ey t).2)
  have nx1 : fnan x.least.at_ = false := best_num (L := L) x1 (fun t ht => (h.nums hk t (by omega)).1)
  have nx2 : fnan x.most.at_ = false := best_num (L := L) x2 (fun t ht => (h.nums hk t (by omega)).2)
  have ny1 : fnan y.least.at_ = false := best_num (L := L) y1 (fun t ht => (h.nums hk (n + t) (by omega)).1)
  have ny2 : fnan y.most.at_ = false := best_num (L := L) y2 (fun t ht => (h.nums hk (n + t) (by omega)).2)
  have j1 := best_join x1 y1
  have j2 := best_join x2 y2
  rw [show n + (L.length - n) = L.length by omega] at j1 j2
  have e1 := best_unique z1 j1
  have e2 := best_unique z2 j2
  have f1 : flt y.least.at_ x.least.at_ = true ↔ fk y.least.at_ < fk x.least.at_ := by rw [flt_iff]; exact ⟨fun h => h.2.2, fun h => ⟨ny1, nx1, h⟩⟩
  have f2 : fgt y.most.at_ x.most.at_ = true ↔ - fk y.most.at_ < - fk x.most.at_ := by rw [fgt_iff]; exact ⟨fun h => by have := h.2.2; omega, fun h => ⟨ny2, nx2, by omega⟩⟩
  refine ⟨x, y, hx, hy, ?_, by simp [numB, feq_self, nx1, nx2], by simp [numB, feq_self, ny1, ny2], ?_, ?_⟩
  · rw [hz]
    congr 1
    have ez : z = ⟨z.least, z.most⟩ := rfl
    rw [ez, e1, e2]
    simp only [bothR, shiftR]
    congr 1
    · by_cases q : fk y.least.at_ < fk x.least.at_
      · simp only [q, f1.2 q, if_true]
      · simp only [q, Bool.eq_false_iff.2 (fun h => q (f1.1 h)), Bool.false_eq_true, if_false]
    · by_cases q : - fk y.most.at_ < - fk x.most.at_
      · simp only [q, f2.2 q, if_true]
      · simp only [q, Bool.eq_false_iff.2 (fun h => q (f2.1 h)), Bool.false_eq_true, if_false]
  · obtain ⟨i1, p1, p2, _⟩ := x1
    obtain ⟨i2, q1, q2, _⟩ := x2
    rw [p2, q2]
    omega
  · obtain ⟨i1, p1, p2, _⟩ := y1
    obtain ⟨i2, q1, q2, _⟩ := y2
    rw [p2, q2]
    omega

theorem laid {L : List (List Spn)} {m n : Nat} (h : Rows' L m) (h0 : 0 < n) (hn : n < L.length) (h60 : L.length ≤ 60) :
    joinErr (ofRes (L.take n)) (ofRes (L.drop n)) n = 0 ∧ joinRes (ofRes (L.take n)) (ofRes (L.drop n)) n = ofRes L := by
  have lt : (L.take n).length = n := by rw [List.length_take]; omega
  have ld : (L.drop n).length = L.length - n := List.length_drop
  rw [((h.take n).ok (by omega)).2, ((h.drop n).ok (by omega)).2, (h.ok (by omega)).2, lt, ld]
  have la := upTo_len (L.take n) m n (fun k l _ => (h.take n).even k l) (by omega)
  have lb := upTo_len (L.drop n) m (L.length - n) (fun k l _ => (h.drop n).even k l) (by omega)
  have lc := upTo_len L m L.length (fun k l _ => h.even k l) (by omega)
  have hall : ∀ r ∈ upTo (L.take n) m n ++ upTo (L.drop n) m (L.length - n), numB r = true ∧ goodB r = true := by
    intro r hr
    rcases List.mem_append.1 hr with hr | hr
    · obtain ⟨k, hk⟩ := List.mem_iff_getElem?.1 hr
      have hkm : k < m := by have := (List.getElem?_eq_some_iff.1 hk).1; omega
      obtain ⟨x, y, hx, hy, _, nx, ny, bx, by'⟩ := laid_get h h0 hn hkm
      rw [hk] at hx
      injection hx with hx
      subst hx
      refine ⟨nx, ?_⟩
      simp only [goodB, placeB, Bool.and_eq_true, decide_eq_true_eq]
      omega
    · obtain ⟨k, hk⟩ := List.mem_iff_getElem?.1 hr
      have hkm : k < m := by have := (List.getElem?_eq_some_iff.1 hk).1; omega
      obtain ⟨x, y, hx, hy, _, nx, ny, bx, by'⟩ := laid_get h h0 hn hkm
      rw [hk] at hy
      injection hy with hy
      subst hy
      refine ⟨ny, ?_⟩
      simp only [goodB, placeB, Bool.and_eq_true, decide_eq_true_eq]
      omega
  have e0 : joinErr (upTo (L.take n) m n) (upTo (L.drop n) m (L.length - n)) n = 0 := by
    unfold joinErr
    rw [if_neg (by rw [la, lb]; simp)]
    have a1 : (upTo (L.take n) m n ++ upTo (L.drop n) m (L.length - n)).all numB = true := List.all_eq_true.2 fun r hr => (hall r hr).1
    have a2 : (upTo (L.take n) m n ++ upTo (L.drop n) m (L.length - n)).all goodB = true := List.all_eq_true.2 fun r hr => (hall r hr).2
    have a3 : placeB n = true := by simp only [placeB, Bool.and_eq_true, decide_eq_true_eq]; omega
    rw [a1, a2, a3]
    simp
  refine ⟨e0, ?_⟩
  unfold joinRes
  rw [if_pos e0]
  apply List.ext_getElem?
  intro k
  by_cases hk : k < m
  · obtain ⟨x, y, hx, hy, hz, _⟩ := laid_get h h0 hn hk
    rw [hz, List.getElem?_zipWith, hx, hy]
  · rw [List.getElem?_eq_none (by rw [List.length_zipWith, la, lb]; omega), List.getElem?_eq_none (by omega)]

theorem sameF_self (x : Nat) : sameF x x = true := by simp [sameF]
theorem sameRs_self (xs : List Rng) : sameRs xs xs = true := by
  unfold sameRs
  rw [decide_eq_true rfl, Bool.true_and, List.all_eq_true]
  intro p hp
  obtain ⟨i, hi⟩ := List.mem_iff_getElem?.1 hp
  rw [List.getElem?_zip_eq_some] at hi
  obtain ⟨h1, h2⟩ := hi
  have e : p.1 = p.2 := by rw [h1] at h2; injection h2
  simp [sameR, e, sameF_self]

end Go.Proofs.Ytmeljjijofkllaa
