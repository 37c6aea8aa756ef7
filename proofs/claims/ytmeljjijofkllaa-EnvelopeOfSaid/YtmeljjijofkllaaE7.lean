import Derived.Test.YtmeljjijofkllaaE5g
namespace Go.Proofs.Ytmeljjijofkllaa
open Go.RowKit Go.Sort

/-- the least so far, by a key; where it came first -/
def Best (a : Nat → Nat) (key : Nat → Int) (i : Nat) (x : Ext) : Prop :=
  ∃ i1 : Nat, i1 < i ∧ x.of_ = i1 ∧ x.at_ = a i1 ∧ (∀ t, t < i → key x.at_ ≤ key (a t)) ∧ (∀ t, t < i1 → key (a t) ≠ key x.at_)
theorem best_start (a : Nat → Nat) (key : Nat → Int) : Best a key 1 ⟨a 0, 0⟩ := by
  refine ⟨0, by omega, rfl, rfl, fun t ht => ?_, fun t ht => absurd ht (Nat.not_lt_zero _)⟩
  have e : t = 0 := by omega
  rw [e]
  exact Int.le_refl _
theorem best_step {a : Nat → Nat} {key : Nat → Int} {i : Nat} {x : Ext} (h : Best a key i x) : Best a key (i + 1) (if key (a i) < key x.at_ then ⟨a i, i⟩ else x) := by
  obtain ⟨i1, h1, h2, h3, h4, h5⟩ := h
  split
  · rename_i hlt
    refine ⟨i, by omega, rfl, rfl, fun t ht => ?_, fun t ht => ?_⟩
    · by_cases e : t = i
      · subst e; exact Int.le_refl _
      · have := h4 t (by omega); show key (a i) ≤ _; omega
    · have := h4 t ht; show key (a t) ≠ key (a i); omega
  · rename_i hge
    refine ⟨i1, by omega, h2, h3, fun t ht => ?_, h5⟩
    by_cases e : t = i
    · subst e; omega
    · exact h4 t (by omega)

theorem right_nums {s : Spn} (h : rightB s = true) : fnan s.lo = false ∧ fnan s.hi = false := by
  unfold rightB at h
  rw [Bool.and_eq_true, fle_iff] at h
  exact ⟨h.1.1, h.1.2.1⟩

/-- column k's numbers -/
def colLo (L : List (List Spn)) (k t : Nat) : Nat := ((L.getD t []).getD k ⟨0, 0⟩).lo
def colHi (L : List (List Spn)) (k t : Nat) : Nat := ((L.getD t []).getD k ⟨0, 0⟩).hi
theorem col_of {L : List (List Spn)} {k t : Nat} {l : List Spn} {s : Spn} (hl : L[t]? = some l) (hs : l[k]? = some s) : colLo L k t = s.lo ∧ colHi L k t = s.hi := by
  simp [colLo, colHi, List.getD, hl, hs]

theorem upTo_best {L : List (List Spn)} {m : Nat} (he : ∀ (i : Nat) (l : List Spn), L[i]? = some l → l.length = m) (hr : ∀ (i : Nat) (l : List Spn), L[i]? = some l → l.all rightB = true) {k : Nat} (hk : k < m) :
    ∀ i, 0 < i → i ≤ L.length → ∃ r, (upTo L m i)[k]? = some r ∧ Best (colLo L k) fk i r.least ∧ Best (colHi L k) (fun x => - fk x) i r.most
  | 0, h, _ => absurd h (Nat.lt_irrefl 0)
  | i + 1, _, hi => by
    obtain ⟨l, hl⟩ := get_some (xs := L) rfl (show i < L.length by omega)
    obtain ⟨s, hs⟩ := get_some (he i l hl) hk
    obtain ⟨c1, c2⟩ := col_of hl hs
    have hlen := upTo_len L m i (fun k l _ => he k l) (by omega)
    obtain ⟨r0, hr0⟩ := get_some hlen hk
    have e : (upTo L m (i + 1))[k]? = some (stepR i r0 s) := by rw [upTo, getD_some hl, List.getElem?_zipWith, hr0, hs]
    refine ⟨_, e, ?_⟩
    by_cases hi0 : i = 0
    · subst hi0
      simp only [stepR, if_true, oneR]
      have b1 := best_start (colLo L k) fk
      have b2 := best_start (colHi L k) (fun x => - fk x)
      rw [c1] at b1
      rw [c2] at b2
      exact ⟨b1, b2⟩
    · obtain ⟨r, h1, b1, b2⟩ := upTo_best he hr hk i (by omega) (by omega)
      rw [hr0] at h1
      injection h1 with h1
      subst h1
      have hright : ∀ t, t < L.length → fnan (colLo L k t) = false ∧ fnan (colHi L k t) = false := by
        intro t ht
        obtain ⟨l', hl'⟩ := get_some (xs := L) rfl ht
        obtain ⟨s', hs'⟩ := get_some (he t l' hl') hk
        obtain ⟨e1, e2⟩ := col_of hl' hs'
        rw [e1, e2]
        exact right_nums (List.all_eq_true.1 (hr t l' hl') s' (List.mem_of_getElem? hs'))
      have n1 : fnan r0.least.at_ = false := by
        obtain ⟨i1, g1, _, g3, _⟩ := b1
        rw [g3]; exact (hright i1 (by omega)).1
      have n2 : fnan r0.most.at_ = false := by
        obtain ⟨i1, g1, _, g3, _⟩ := b2
        rw [g3]; exact (hright i1 (by omega)).2
      have m1 := (hright i (by omega)).1
      have m2 := (hright i (by omega)).2
      have s1 := best_step b1
      have s2 := best_step b2
      rw [c1] at s1 m1
      rw [c2] at s2 m2
      simp only [stepR, if_neg hi0, oneR, bothR]
      have f1 : flt s.lo r0.least.at_ = true ↔ fk s.lo < fk r0.least.at_ := by rw [flt_iff]; exact ⟨fun h => h.2.2, fun h => ⟨m1, n1, h⟩⟩
      have f2 : fgt s.hi r0.most.at_ = true ↔ - fk s.hi < - fk r0.most.at_ := by rw [fgt_iff]; exact ⟨fun h => by have := h.2.2; omega, fun h => ⟨m2, n2, by omega⟩⟩
      refine ⟨?_, ?_⟩
      · by_cases q : fk s.lo < fk r0.least.at_
        · rw [if_pos q] at s1; simp only [f1.2 q, if_true]; exact s1
        · rw [if_neg q] at s1; simp only [Bool.eq_false_iff.2 (fun h => q (f1.1 h)), Bool.false_eq_true, if_false]; exact s1
      · by_cases q : - fk s.hi < - fk r0.most.at_
        · rw [if_pos q] at s2; simp only [f2.2 q, if_true]; exact s2
        · rw [if_neg q] at s2; simp only [Bool.eq_false_iff.2 (fun h => q (f2.1 h)), Bool.false_eq_true, if_false]; exact s2

theorem upTo_good {L : List (List Spn)} {m : Nat} (he : ∀ (i : Nat) (l : List Spn), L[i]? = some l → l.length = m) (hr : ∀ (i : Nat) (l : List Spn), L[i]? = some l → l.all rightB = true) (hn : 0 < L.length) (k : Nat) (r : Rng) (h : (upTo L m L.length)[k]? = some r) : GoodR L k r := by
  have hlen := upTo_len L m L.length (fun k l _ => he k l) (Nat.le_refl _)
  have hk : k < m := by have := (List.getElem?_eq_some_iff.1 h).1; omega
  obtain ⟨r', h', ⟨i1, a1, a2, a3, a4, a5⟩, ⟨i2, b1, b2, b3, b4, b5⟩⟩ := upTo_best he hr hk L.length hn (Nat.le_refl _)
  rw [h] at h'
  injection h' with h'
  subst h'
  obtain ⟨l1, hl1⟩ := get_some (xs := L) rfl a1
  obtain ⟨l2, hl2⟩ := get_some (xs := L) rfl b1
  obtain ⟨s1, hs1⟩ := get_some (he i1 l1 hl1) hk
  obtain ⟨s2, hs2⟩ := get_some (he i2 l2 hl2) hk
  have hright : ∀ (t : Nat) (l : List Spn) (s : Spn), L[t]? = some l → l[k]? = some s → fnan s.lo = false ∧ fnan s.hi = false := fun t l s hl hs =>
    right_nums (List.all_eq_true.1 (hr t l hl) s (List.mem_of_getElem? hs))
  rw [(col_of hl1 hs1).1] at a3
  rw [(col_of hl2 hs2).2] at b3
  have n1 := (hright i1 l1 s1 hl1 hs1).1
  have n2 := (hright i2 l2 s2 hl2 hs2).2
  refine ⟨i1, i2, l1, l2, s1, s2, a2, b2, hl1, hl2, hs1, hs2, by rw [a3]; exact (feq_iff _ _).2 ⟨n1, n1, rfl⟩, by rw [b3]; exact (feq_iff _ _).2 ⟨n2, n2, rfl⟩, fun t l s hl hs => ?_⟩
  have ht : t < L.length := (List.getElem?_eq_some_iff.1 hl).1
  obtain ⟨e1, e2⟩ := col_of hl hs
  have q1 := a4 t ht
  have q2 := b4 t ht
  rw [e1] at q1
  rw [e2] at q2
  simp only at q2
  refine ⟨?_, ?_, fun hlt => ?_, fun hlt => ?_⟩
  · rw [← Bool.not_eq_true, flt_iff]; rintro ⟨_, _, h⟩; omega
  · rw [← Bool.not_eq_true, fgt_iff]; rintro ⟨_, _, h⟩; omega
  · have q3 := a5 t hlt
    rw [e1] at q3
    rw [← Bool.not_eq_true, feq_iff]; rintro ⟨_, _, h⟩; exact q3 h
  · have q3 := b5 t hlt
    rw [e2] at q3
    simp only at q3
    rw [← Bool.not_eq_true, feq_iff]; rintro ⟨_, _, h⟩; exact q3 (by omega)

end Go.Proofs.Ytmeljjijofkllaa
