import Derived.Test.YtfepmbpcdfdlhaaX16
set_option linter.unusedSimpArgs false
set_option linter.unusedVariables false
/- lists of right ratios in memory (plain) -/
namespace Go.Proofs.Ytfepmbpcdfdlhaa
open Go.RowKit Go.Sort

/-- all numbers in memory are kept -/
structure Nm (w w' : World) : Prop where
  size : w.heap.size ≤ w'.heap.size
  num : ∀ (b o : Nat) (k : IntKind) (x : Int), w.cell? ⟨b, o, none⟩ = some (.int k x) → w'.cell? ⟨b, o, none⟩ = some (.int k x)
theorem UpS.nm {w w' : World} {S : Nat → Prop} (h : UpS w w' S) : Nm w w' := ⟨h.size, h.num⟩
theorem nm_below {w w' : World} (h : Below w.heap.size w w') : Nm w w' := ⟨h.size, fun _ _ _ _ hv => bat h hv⟩
theorem GrowK.nm {w w' : World} {row : Option Nat} {K : Value → Prop} (h : GrowK w w' row K) (hK : ∀ k x, ¬ K (.int k x)) : Nm w w' := ⟨h.g.size, fun b o k x hv => (h.cellOf hv (hK k x)).1⟩
theorem sk_int (k : IntKind) (x : Int) : ¬ Sk (.int k x) := fun ⟨_, _, _, h⟩ => by cases h
theorem rdl_nm {w w' : World} {A : Option Addr} {n : Nat} {xs : List Nat} (h : RdE Lc 1 w (fun b => b < w.heap.size) A n xs) (hn : Nm w w') : RdE Lc 1 w' (fun b => b < w'.heap.size) A n xs := by
  have h4 : RdE Lc 1 w' (fun d => d < w.heap.size) A n xs := ⟨rd_keep_cells h.rd fun b o v hv hc => by
    obtain ⟨x, _, hx⟩ := List.mem_flatMap.1 hv
    simp [Lc] at hx
    subst hx
    exact hn.num _ _ _ _ hc, h.num⟩
  exact h4.imp fun d hd => Nat.lt_of_lt_of_le hd hn.size
theorem RAt.nm {w w' : World} {v : Value} {r : RV} (h : RAt w v r) (hn : Nm w w') : RAt w' v r := by
  obtain ⟨A, n, c, A', n', c', e, h1, h2, h3, h4⟩ := h
  exact ⟨A, n, c, A', n', c', e, rdl_nm h1 hn, rdl_nm h2 hn, h3, h4⟩
theorem At.nm {w w' : World} {v : Value} {q : Rat} (h : At w v q) (hn : Nm w w') : At w' v q := ⟨h.1.nm hn, h.2⟩

/-- a ratio's three cells -/
structure T3 where
  s : Bool
  a : Option Addr
  n : Nat
  c : Nat
  a' : Option Addr
  n' : Nat
  c' : Nat
abbrev T3.val (t : T3) : Value := .agg #[.bool t.s, .slice t.a t.n t.c, .slice t.a' t.n' t.c']
def Tc (t : T3) : List Value := [.bool t.s, .slice t.a t.n t.c, .slice t.a' t.n' t.c']
theorem Tc.clen (t : T3) : (Tc t).length = 3 := rfl
theorem At.t3 {w : World} {v : Value} {q : Rat} (h : At w v q) : ∃ t : T3, v = t.val := by
  obtain ⟨A, n, c, A', n', c', e, _⟩ := h.1
  exact ⟨⟨_, A, n, c, A', n', c'⟩, e⟩
def zT : T3 := ⟨false, none, 0, 0, none, 0, 0⟩

/-- a list of right ratios -/
structure RatsAt (w : World) (V : Value) (qs : List Rat) : Prop where
  at_ : ∃ A c ts, V = .slice A qs.length c ∧ RdE Tc 3 w (fun b => b < w.heap.size) A qs.length ts ∧ ∀ (k : Nat) (t : T3) (q : Rat), ts[k]? = some t → qs[k]? = some q → At w t.val q
/-- a list of right ratios, not empty, at a block's head -/
structure RatRow (w : World) (V : Value) (qs : List Rat) : Prop where
  at_ : ∃ g c ts, V = .slice (some ⟨g, 0, none⟩) qs.length c ∧ g < w.heap.size ∧ RdE Tc 3 w (fun b => b = g) (some ⟨g, 0, none⟩) qs.length ts ∧ ∀ (k : Nat) (t : T3) (q : Rat), ts[k]? = some t → qs[k]? = some q → At w t.val q
  pos : 0 < qs.length
theorem RatRow.rats {w : World} {V : Value} {qs : List Rat} (h : RatRow w V qs) : RatsAt w V qs := by
  obtain ⟨g, c, ts, e, hl, hr, ha⟩ := h.at_
  exact ⟨_, c, ts, e, hr.imp fun b hb => by rw [hb]; exact hl, ha⟩
theorem RatRow.keep {w w' : World} {V : Value} {qs : List Rat} (h : RatRow w V qs) (hn : Nm w w') (hk : ∀ (g : Nat) (b : Bool), w.cell? ⟨g, 0, none⟩ = some (.bool b) → ∀ j, w'.cell? ⟨g, j, none⟩ = w.cell? ⟨g, j, none⟩) : RatRow w' V qs := by
  obtain ⟨g, c, ts, e, hl, hr, ha⟩ := h.at_
  obtain ⟨t, ht⟩ := get_some hr.num h.pos
  obtain ⟨b1, o1, e1, hS, hc⟩ := hr.elem Tc.clen ht (by decide)
  injection e1 with e1
  injection e1 with e1 e2
  have hc0 := hc 0 _ rfl
  rw [← e2, hS] at hc0
  have hk' := hk g t.s (by simpa using hc0)
  refine ⟨⟨g, c, ts, e, Nat.lt_of_lt_of_le hl hn.size, ⟨⟨hr.rd.len, fun j v hv => ?_⟩, hr.num⟩, fun k t q h1 h2 => (ha k t q h1 h2).nm hn⟩, h.pos⟩
  obtain ⟨b, o, h1, h2, h3⟩ := hr.rd.at_ j v hv
  refine ⟨b, o, h1, h2, ?_⟩
  rw [h2, hk', ← h2]
  exact h3
theorem RatRow.below {w w' : World} {V : Value} {qs : List Rat} (h : RatRow w V qs) (hb : Below w.heap.size w w') : RatRow w' V qs :=
  h.keep (nm_below hb) fun g b hg j => World.cell?_of_block (a := ⟨g, j, none⟩) (hb.block g (World.block_lt_of_cell? w ⟨g, 0, none⟩ hg))
theorem RatRow.grow {w w' : World} {V : Value} {qs : List Rat} {row : Option Nat} {K : Value → Prop} (h : RatRow w V qs) (hg : GrowK w w' row K) (k1 : ∀ s, ¬ K (.bool s)) (k2 : ∀ k x, ¬ K (.int k x)) : RatRow w' V qs :=
  h.keep (hg.nm k2) fun g b hc j => (hg.cellOf hc (k1 b)).2 j

/-- a list of ratios in the making: what is known of its places -/
structure VRow (w : World) (base g C : Nat) (F : Nat → Option Rat) : Prop where
  at_ : ∃ ts : List T3, w.ownsRow base 43 3 (.slice (some ⟨g, 0, none⟩) C C) C (ts.flatMap Tc) ∧ ∀ (k : Nat) (t : T3) (q : Rat), ts[k]? = some t → F k = some q → At w t.val q
section
variable {w w' : World} {base g C : Nat} {F : Nat → Option Rat}
theorem VRow.made (h : w.ownsRow base 43 3 (.slice (some ⟨g, 0, none⟩) C C) C ((List.replicate C zT).flatMap Tc)) : VRow w base g C (fun _ => none) := ⟨_, h, fun _ _ _ _ h => by cases h⟩
theorem VRow.lt (h : VRow w base g C F) : base ≤ g ∧ g < w.heap.size := by
  obtain ⟨ts, h1, _⟩ := h.at_
  exact h1.lt g rfl
theorem VRow.below (h : VRow w base g C F) (hb : Below w.heap.size w w') : VRow w' base g C F := by
  obtain ⟨ts, h1, h2⟩ := h.at_
  refine ⟨ts, ?_, fun k t q a b => (h2 k t q a b).below hb⟩
  rcases h1 with ⟨hl, hn | ⟨g', cap, cur, e, hbg, hgg, rest⟩⟩
  · exact ⟨hl, .inl hn⟩
  · exact ⟨hl, .inr ⟨g', cap, cur, e, hbg, (hb.block g' (Array.getElem?_eq_some_iff.1 hgg).1).trans hgg, rest⟩⟩
theorem VRow.imp {G : Nat → Option Rat} (h : VRow w base g C F) (hF : ∀ k q, k < C → G k = some q → F k = some q) : VRow w base g C G := by
  obtain ⟨ts, h1, h2⟩ := h.at_
  have hl := own_num Tc.clen (by decide) h1
  exact ⟨ts, h1, fun k t q a b => h2 k t q a (hF k q (by rw [← hl]; exact (List.getElem?_eq_some_iff.1 a).1) b)⟩
/-- a place's three cells -/
theorem VRow.cells (h : VRow w base g C F) {k : Nat} (hk : k < C) : ∃ t : T3, w.cell? ⟨g, k * 3, none⟩ = some (.bool t.s) ∧ w.cell? ⟨g, k * 3 + 1, none⟩ = some (.slice t.a t.n t.c) ∧ w.cell? ⟨g, k * 3 + 2, none⟩ = some (.slice t.a' t.n' t.c') ∧
    ∀ j, w.frozen? ⟨g, j, none⟩ = false := by
  obtain ⟨ts, h1, h2⟩ := h.at_
  obtain ⟨t, ht⟩ := get_some (own_num Tc.clen (by decide) h1) hk
  have e := own_elem Tc.clen h1 ht
  exact ⟨t, e 0 _ rfl, e 1 _ rfl, e 2 _ rfl, fun j => h1.frozenAt j⟩
theorem VRow.store (h : VRow w base g C F) {k : Nat} (hk : k < C) {t : T3} {q : Rat} (ht : At w t.val q)
    (hw : w' = ((w.setCell ⟨g, k * 3, none⟩ (.bool t.s)).setCell ⟨g, k * 3 + 1, none⟩ (.slice t.a t.n t.c)).setCell ⟨g, k * 3 + 2, none⟩ (.slice t.a' t.n' t.c')) :
    VRow w' base g C (fun j => if j = k then some q else F j) ∧ UpS w w' (fun b => b = g) := by
  obtain ⟨ts, h1, h2⟩ := h.at_
  have hl := own_num Tc.clen (by decide) h1
  obtain ⟨u, e0, e1, e2, _⟩ := h.cells hk
  have hw' : w' = setAll w g (k * 3) (Tc t) := hw
  have hset := own_setAll (Tc t) (k * 3) w _ h1
  rw [putAll_flat Tc.clen t ts k (by rw [hl]; exact hk), ← hw'] at hset
  have hu : UpS w w' (fun b => b = g) := by
    obtain ⟨x1, hx1⟩ : ∃ x1, x1 = w.setCell ⟨g, k * 3, none⟩ (.bool t.s) := ⟨_, rfl⟩
    obtain ⟨x2, hx2⟩ : ∃ x2, x2 = x1.setCell ⟨g, k * 3 + 1, none⟩ (.slice t.a t.n t.c) := ⟨_, rfl⟩
    rw [← hx1, ← hx2] at hw
    have a1 : UpS w x1 (fun b => b = g) := by rw [hx1]; exact upS_set e0 (fun kd x e => by cases e)
    have b1 : x1.cell? ⟨g, k * 3 + 1, none⟩ = some (.slice u.a u.n u.c) := by rw [hx1, set_other g (fun _ => by omega)]; exact e1
    have a2 : UpS x1 x2 (fun b => b = g) := by rw [hx2]; exact upS_set b1 (fun kd x e => by cases e)
    have b2 : x2.cell? ⟨g, k * 3 + 2, none⟩ = some (.slice u.a' u.n' u.c') := by
      rw [hx2, set_other g (fun _ => by omega), hx1, set_other g (fun _ => by omega)]; exact e2
    have a3 : UpS x2 w' (fun b => b = g) := by rw [hw]; exact upS_set b2 (fun kd x e => by cases e)
    exact (a1.trans a2 (fun b _ h => h)).trans a3 (fun b _ h => h)
  refine ⟨⟨ts.set k t, hset.1, fun j t' q' a b => ?_⟩, hu⟩
  rw [List.getElem?_set] at a
  by_cases e : k = j
  · subst e
    rw [if_pos rfl, if_pos (by rw [hl]; exact hk)] at a
    rw [if_pos rfl] at b
    injection a with a
    injection b with b
    subst a b
    exact ht.nm hu.nm
  · rw [if_neg e] at a
    rw [if_neg (fun e' => e e'.symm)] at b
    exact (h2 j t' q' a b).nm hu.nm
theorem VRow.done (h : VRow w base g C F) (hC : 0 < C) {qs : List Rat} (hq : qs.length = C) (hF : ∀ k q, qs[k]? = some q → F k = some q) : RatRow w (.slice (some ⟨g, 0, none⟩) C C) qs := by
  obtain ⟨ts, h1, h2⟩ := h.at_
  have hr := RdE.of_own Tc.clen (by decide) h1
  refine ⟨⟨g, C, ts, by rw [hq], h.lt.2, ?_, fun k t q a b => h2 k t q a (hF k q b)⟩, by omega⟩
  rw [hq]
  exact hr.imp fun b hb => by have := hb.2.2; simp [Value.ownBlock] at this; exact this.symm
end

/-- rows of right ratios -/
structure RatRows (w : World) (V : Value) (rows : List (List Rat)) : Prop where
  at_ : ∃ A c vs, V = .slice A rows.length c ∧ RdE (fun v : Value => [v]) 1 w (fun b => b < w.heap.size) A rows.length vs ∧ ∀ (k : Nat) (v : Value) (qs : List Rat), vs[k]? = some v → rows[k]? = some qs → RatRow w v qs
/-- rows of right ratios in the making -/
structure BRows (w : World) (base : Nat) (V : Value) (vs : List Value) (rows : List (List Rat)) : Prop where
  own : OwnR w base 39 1 Sk V rows.length vs
  row : ∀ (k : Nat) (v : Value) (qs : List Rat), vs[k]? = some v → rows[k]? = some qs → RatRow w v qs
theorem BRows.nil (w : World) (base : Nat) : BRows w base (.slice none 0 0) [] [] := ⟨OwnR.nil .., fun _ _ _ h => by simp at h⟩
theorem BRows.below {w w' : World} {base : Nat} {V : Value} {vs : List Value} {rows : List (List Rat)} (h : BRows w base V vs rows) (hb : Below w.heap.size w w') : BRows w' base V vs rows :=
  ⟨h.own.below hb, fun k v qs a b => (h.row k v qs a b).below hb⟩
theorem BRows.app {w w' : World} {base : Nat} {V V' v : Value} {vs : List Value} {rows : List (List Rat)} {qs : List Rat} (h : BRows w base V vs rows) (hr : RatRow w v qs) (hg : GrowK w w' V.ownBlock Sk)
    (ho : OwnR w' base 39 1 Sk V' (rows.length + 1) (vs ++ [v])) : BRows w' base V' (vs ++ [v]) (rows ++ [qs]) := by
  have hl : vs.length = rows.length := by have := h.own.own.1; omega
  refine ⟨by simpa using ho, fun k u ps a b => ?_⟩
  rw [List.getElem?_append] at a b
  rw [hl] at a
  by_cases hk : k < rows.length
  · rw [if_pos hk] at a b
    exact (h.row k u ps a b).grow hg sk_bool sk_int
  · rw [if_neg hk] at a b
    cases e : k - rows.length with
    | zero =>
      rw [e] at a b
      obtain rfl : v = u := by simpa using a
      obtain rfl : qs = ps := by simpa using b
      exact hr.grow hg sk_bool sk_int
    | succ j => rw [e] at a; simp at a
theorem BRows.done {w : World} {base : Nat} {V : Value} {vs : List Value} {rows : List (List Rat)} (h : BRows w base V vs rows) : RatRows w V rows := by
  obtain ⟨A, c, rfl, hc, hA⟩ := own_slice h.own.own
  have hl : vs.length = rows.length := by have := h.own.own.1; omega
  have e : vs = vs.flatMap (fun v : Value => [v]) := by simp
  have ho := h.own.own
  rw [e] at ho
  exact ⟨A, c, vs, rfl, (RdE.of_own (f := fun v : Value => [v]) (fun _ => rfl) (by decide) ho).imp fun b hb => hb.2.1, h.row⟩

end Go.Proofs.Ytfepmbpcdfdlhaa

/- tables of one row space reduce alike; a grid on its side has the same rank -/
namespace Go.Proofs.Ytfepmbpcdfdlhaa

/-- the identity that says: x lies in the row space, up to a factor -/
def Lies (s : BSt) (x : Row) : Prop := ∀ k, s.last * x k = (s.piv.map fun c => x c * tf s.rows (s.piv.idxOf c) k).sum
theorem sum_add (L : List Nat) (f g : Nat → Int) : (L.map fun c => f c + g c).sum = (L.map f).sum + (L.map g).sum := by
  induction L with
  | nil => rfl
  | cons a L ih => simp only [List.map_cons, List.sum_cons, ih]; omega
theorem sum_smul (L : List Nat) (a : Int) (f : Nat → Int) : (L.map fun c => a * f c).sum = a * (L.map f).sum := by
  induction L with
  | nil => simp
  | cons b L ih => simp only [List.map_cons, List.sum_cons, ih, Int.mul_add]
theorem sum_zero (L : List Nat) (f : Nat → Int) (h : ∀ c ∈ L, f c = 0) : (L.map f).sum = 0 := by
  induction L with
  | nil => rfl
  | cons a L ih => simp only [List.map_cons, List.sum_cons, h a List.mem_cons_self, ih (fun c hc => h c (List.mem_cons_of_mem _ hc))]; rfl
theorem Lies.zero (s : BSt) : Lies s (fun _ => 0) := fun k => by
  rw [sum_zero _ _ (fun c _ => by simp)]; simp
theorem Lies.add {s : BSt} {x y : Row} (hx : Lies s x) (hy : Lies s y) : Lies s (fun k => x k + y k) := fun k => by
  have e : (s.piv.map fun c => (x c + y c) * tf s.rows (s.piv.idxOf c) k) = s.piv.map fun c => x c * tf s.rows (s.piv.idxOf c) k + y c * tf s.rows (s.piv.idxOf c) k := List.map_congr_left fun c _ => by rw [Int.add_mul]
  rw [e, sum_add, ← hx k, ← hy k, Int.mul_add]
theorem Lies.smul {s : BSt} {x : Row} (a : Int) (hx : Lies s x) : Lies s (fun k => a * x k) := fun k => by
  have e : (s.piv.map fun c => (a * x c) * tf s.rows (s.piv.idxOf c) k) = s.piv.map fun c => a * (x c * tf s.rows (s.piv.idxOf c) k) := List.map_congr_left fun c _ => by rw [Int.mul_assoc]
  rw [e, sum_smul, ← hx k]
  grind
theorem Lies.span {s : BSt} {P : List Row} (hP : ∀ x ∈ P, Lies s x) {x : Row} (h : Span P x) : Lies s x := by
  induction h with
  | zero => exact Lies.zero s
  | mem h => exact hP _ h
  | add _ _ h1 h2 => exact h1.add h2
  | smul a _ h => exact h.smul a
theorem Lies.row {A : List (List Int)} {R C : Nat} {s : BSt} (h : BE A R C C s) {i : Nat} (hi : i < R) : Lies s (tf A i) := fun k => h.back hi k
/-- the pivots' rows lie in the row space of what the table was made from -/
structure BS (A : List (List Int)) (R : Nat) (s : BSt) : Prop where
  rows : ∃ B P, Bar (tf s.rows) B P s.piv.reverse s.last ∧ (∀ x ∈ P, ∃ i, i < R ∧ x = tf A i) ∧ (∀ i, i < R → ∃ j, j < R ∧ B i = tf A j) ∧ P.length = s.piv.length
theorem brun_bs {A : List (List Int)} {R C : Nat} (h : rect A R C) : ∀ n, BS A R (brun A n)
  | 0 => ⟨_, _, Bar.start _, fun x hx => by simp at hx, fun i hi => ⟨i, hi, rfl⟩, rfl⟩
  | n + 1 => by
    rw [brun_succ]
    have hinv := brun_inv h n
    obtain ⟨B, P, hb, k1, k2, k3⟩ := (brun_bs h n).rows
    generalize brun A n = s at *
    unfold bstep
    split
    · exact ⟨B, P, hb, k1, k2, k3⟩
    · rename_i hp
      obtain ⟨hr, hrect, hne, _⟩ := hinv.swapped hp
      obtain ⟨h1, h2, h3⟩ := pivAt_some (by rw [hinv.rct.1]; exact hinv.le) hp
      have ha : pivAt s.rows s.piv.length n < R := by have := hinv.rct.1; omega
      have hs := hb.swap (fun i => if i = s.piv.length then pivAt s.rows s.piv.length n else if i = pivAt s.rows s.piv.length n then s.piv.length else i)
        (fun i hi => by simp only [List.length_reverse] at hi ⊢; split; omega; split <;> omega) (fun i hi => by simp only [List.length_reverse] at hi; rw [if_neg (by omega), if_neg (by omega)])
      have e : tf (swapAt s.rows s.piv.length (pivAt s.rows s.piv.length n)) = fun i => tf s.rows (if i = s.piv.length then pivAt s.rows s.piv.length n else if i = pivAt s.rows s.piv.length n then s.piv.length else i) := by
        funext i k; exact tf_swap hinv.rct hr ha i k
      rw [← e] at hs
      have ht := hs.step (c := n) (T' := tf (elim (swapAt s.rows s.piv.length (pivAt s.rows s.piv.length n)) s.piv.length n s.last)) (fun hm => by have := hinv.lt n (by simpa using hm); omega) hinv.last
        (fun k => by rw [List.length_reverse, tf_elim hrect hr, if_pos rfl]) (fun i hi k => by rw [List.length_reverse] at hi ⊢; rw [tf_elim hrect hr, if_neg hi])
      simp only [List.length_reverse] at ht
      have kb : ∀ i, i < R → ∃ j, j < R ∧ (fun i => B (if i = s.piv.length then pivAt s.rows s.piv.length n else if i = pivAt s.rows s.piv.length n then s.piv.length else i)) i = tf A j := fun i hi => by
        refine k2 _ ?_
        split
        · exact ha
        · split <;> omega
      refine ⟨_, _, by simp only [List.reverse_append, List.reverse_cons, List.reverse_nil, List.nil_append, List.singleton_append]; exact ht.1, fun x hx => ?_, kb, by simp [k3]⟩
      rcases List.mem_cons.1 hx with rfl | hx
      · have h5 := kb s.piv.length hr
        simpa using h5
      · exact k1 x hx
theorem BS.span {A : List (List Int)} {R : Nat} {s : BSt} (h : BS A R s) {r j : Nat} (hj : s.piv[r]? = some j) : Span ((List.range R).map (tf A)) (tf s.rows r) := by
  obtain ⟨B, P, hb, k1, k2, k3⟩ := h.rows
  have hsub : ∀ x, Span P x → Span ((List.range R).map (tf A)) x := fun x hx => by
    induction hx with
    | zero => exact .zero
    | mem h =>
      obtain ⟨i, hi, rfl⟩ := k1 _ h
      exact .mem (List.mem_map.2 ⟨i, List.mem_range.2 hi, rfl⟩)
    | add _ _ h1 h2 => exact h1.add h2
    | smul a _ h => exact h.smul a
  refine hsub _ ?_
  have h1 := dl_span (P := P) (unitRow j) s.piv.reverse (fun k l => mnr P (k :: l)) (fun l => mnr_front P l)
  have e : (fun k => dl (unitRow j) (fun l => mnr P (k :: l)) s.piv.reverse) = tf s.rows r := by
    funext k
    rw [hb.top r j (by rw [List.reverse_reverse]; exact hj) k]
    show _ = s.last * unitRow j k - (unitRow j k * mnr P s.piv.reverse - dl (unitRow j) (fun l => mnr P (k :: l)) s.piv.reverse)
    rw [← hb.det, Int.mul_comm s.last]
    omega
  rwa [e] at h1
/-- a pivot of a table whose rows lie in another one's row space is a pivot of that one -/
theorem piv_sub {A A' : List (List Int)} {R R' C : Nat} {s s' : BSt} (h : BE A R C C s) (h' : BE A' R' C C s') (hl : ∀ r j, s'.piv[r]? = some j → Lies s (tf s'.rows r)) {r j : Nat} (hj : s'.piv[r]? = some j) : j ∈ s.piv := by
  have hd : tf s'.rows r j = s'.last := by rw [h'.diag hj (List.mem_of_getElem? hj), if_pos rfl]
  have h0 := h'.top r j hj
  apply Classical.byContradiction
  intro hn
  have hz : (s.piv.map fun c => tf s'.rows r c * tf s.rows (s.piv.idxOf c) j).sum = 0 := sum_zero _ _ fun c hc => by
    have hcj : c ≠ j := fun e => hn (e ▸ hc)
    by_cases hlt : c < j
    · rw [h0 c hlt]; simp
    · have hidx : s.piv[s.piv.idxOf c]? = some c := by
        rw [List.getElem?_eq_getElem (List.idxOf_lt_length_of_mem hc)]
        simp
      rw [h.top _ c hidx j (by omega)]; simp
  have h1 := hl r j hj j
  rw [hz, hd] at h1
  rcases Int.mul_eq_zero.1 h1 with h2 | h2
  · exact h.last h2
  · exact h'.last h2
theorem inc_ext : ∀ (a b : List Nat), a.Pairwise (· < ·) → b.Pairwise (· < ·) → (∀ x, x ∈ a ↔ x ∈ b) → a = b
  | [], [], _, _, _ => rfl
  | [], y :: b, _, _, h => absurd ((h y).2 List.mem_cons_self) (by simp)
  | x :: a, [], _, _, h => absurd ((h x).1 List.mem_cons_self) (by simp)
  | x :: a, y :: b, ha, hb, h => by
    rw [List.pairwise_cons] at ha hb
    have hxy : x = y := by
      have h1 := (h x).1 List.mem_cons_self
      have h2 := (h y).2 List.mem_cons_self
      rcases List.mem_cons.1 h1 with h1 | h1
      · exact h1
      · rcases List.mem_cons.1 h2 with h2 | h2
        · exact h2.symm
        · have := hb.1 x h1
          have := ha.1 y h2
          omega
    subst hxy
    rw [inc_ext a b ha.2 hb.2 fun z => ?_]
    constructor
    · intro hz
      rcases List.mem_cons.1 ((h z).1 (List.mem_cons_of_mem _ hz)) with h1 | h1
      · have := ha.1 z hz; omega
      · exact h1
    · intro hz
      rcases List.mem_cons.1 ((h z).2 (List.mem_cons_of_mem _ hz)) with h1 | h1
      · have := hb.1 z hz; omega
      · exact h1
/-- tables of one row space: the same pivots, the same rows up to the last numbers -/
theorem same_space {A A' : List (List Int)} {R R' C : Nat} (hA : rect A R C) (hA' : rect A' R' C)
    (h1 : ∀ i, i < R' → Lies (brun A C) (tf A' i)) (h2 : ∀ i, i < R → Lies (brun A' C) (tf A i)) :
    (brun A C).piv = (brun A' C).piv ∧ ∀ r, r < (brun A C).piv.length → ∀ k, (brun A C).last * tf (brun A' C).rows r k = (brun A' C).last * tf (brun A C).rows r k := by
  have e := brun_be hA C
  have e' := brun_be hA' C
  have b := brun_bs hA C
  have b' := brun_bs hA' C
  have l1 : ∀ r j, (brun A' C).piv[r]? = some j → Lies (brun A C) (tf (brun A' C).rows r) := fun r j hj =>
    Lies.span (P := (List.range R').map (tf A')) (fun x hx => by
      obtain ⟨i, hi, rfl⟩ := List.mem_map.1 hx
      exact h1 i (List.mem_range.1 hi)) (b'.span hj)
  have l2 : ∀ r j, (brun A C).piv[r]? = some j → Lies (brun A' C) (tf (brun A C).rows r) := fun r j hj =>
    Lies.span (P := (List.range R).map (tf A)) (fun x hx => by
      obtain ⟨i, hi, rfl⟩ := List.mem_map.1 hx
      exact h2 i (List.mem_range.1 hi)) (b.span hj)
  have hp : (brun A C).piv = (brun A' C).piv := inc_ext _ _ e.inc e'.inc fun x => ⟨fun hx => by
    obtain ⟨r, hr⟩ := List.getElem?_of_mem hx
    exact piv_sub e' e l2 hr, fun hx => by
    obtain ⟨r, hr⟩ := List.getElem?_of_mem hx
    exact piv_sub e e' l1 hr⟩
  refine ⟨hp, fun r hr k => ?_⟩
  obtain ⟨j, hj⟩ : ∃ j, (brun A C).piv[r]? = some j := ⟨_, List.getElem?_eq_getElem hr⟩
  have hj' : (brun A' C).piv[r]? = some j := by rw [← hp]; exact hj
  have hnd : (brun A C).piv.Nodup := e.inc.imp fun h => Nat.ne_of_lt h
  have hidx : (brun A C).piv.idxOf j = r := by
    have e1 : (brun A C).piv[r] = j := by
      rw [List.getElem?_eq_getElem hr] at hj; injection hj
    rw [← e1]
    exact hnd.idxOf_getElem r hr
  rw [l1 r j hj' k]
  have e2 : ((brun A C).piv.map fun c => tf (brun A' C).rows r c * tf (brun A C).rows ((brun A C).piv.idxOf c) k) = (brun A C).piv.map fun c => if c = j then (brun A' C).last * tf (brun A C).rows r k else 0 :=
    List.map_congr_left fun c hc => by
      rw [e'.diag hj' (hp ▸ hc)]
      by_cases h : c = j
      · rw [if_pos h, if_pos h, h, hidx]
      · rw [if_neg h, if_neg h]; simp
  rw [e2]
  have e3 : ∀ (L : List Nat), L.Nodup → j ∈ L → ∀ X : Int, (L.map fun c => if c = j then X else 0).sum = X := fun L => by
    induction L with
    | nil => intro _ hm; simp at hm
    | cons a L ih =>
      intro hnd2 hm X
      rw [List.nodup_cons] at hnd2
      simp only [List.map_cons, List.sum_cons]
      by_cases h : a = j
      · rw [if_pos h, sum_zero L _ (fun c hc => if_neg (fun e => hnd2.1 (by rw [h, ← e]; exact hc)))]; omega
      · rw [if_neg h, ih hnd2.2 (by rcases List.mem_cons.1 hm with h2 | h2; exact absurd h2.symm h; exact h2) X]; omega
  exact e3 _ hnd (List.mem_of_getElem? hj) _

end Go.Proofs.Ytfepmbpcdfdlhaa

/- many rows out of few have no minor; a grid on its side has the same rank -/
namespace Go.Proofs.Ytfepmbpcdfdlhaa

/-- in the span of some rows, up to a factor -/
def QSpan (Q : List Row) (x : Row) : Prop := ∃ a : Int, a ≠ 0 ∧ Span Q (fun k => a * x k)
theorem span_nil {x : Row} (h : Span [] x) : ∀ k, x k = 0 := by
  induction h with
  | zero => exact fun _ => rfl
  | mem h => simp at h
  | add _ _ h1 h2 => exact fun k => by dsimp only; rw [h1 k, h2 k]; rfl
  | smul a _ h => exact fun k => by dsimp only; rw [h k]; simp
theorem span_cons {q : Row} {Q : List Row} {x : Row} (h : Span (q :: Q) x) : ∃ (a : Int) (y : Row), Span Q y ∧ ∀ k, x k = a * q k + y k := by
  induction h with
  | zero => exact ⟨0, _, .zero, fun k => by simp⟩
  | mem h =>
    rcases List.mem_cons.1 h with rfl | h
    · exact ⟨1, _, .zero, fun k => by simp⟩
    · exact ⟨0, _, .mem h, fun k => by simp⟩
  | add _ _ h1 h2 =>
    obtain ⟨a, y, hy, e1⟩ := h1
    obtain ⟨b, z, hz, e2⟩ := h2
    exact ⟨a + b, _, hy.add hz, fun k => by dsimp only; rw [e1 k, e2 k, Int.add_mul]; omega⟩
  | smul c _ h =>
    obtain ⟨a, y, hy, e1⟩ := h
    exact ⟨c * a, _, hy.smul c, fun k => by dsimp only; rw [e1 k, Int.mul_add, Int.mul_assoc]⟩
theorem span_eq {Q : List Row} {x y : Row} (h : Span Q x) (e : ∀ k, x k = y k) : Span Q y := by
  have : x = y := funext e
  rwa [← this]
/-- a row brought to the front of a list changes the sign of its minors at most -/
theorem mnr_front_zero (x : Row) : ∀ (P1 P2 : List Row), (∀ cs, mnr (x :: (P1 ++ P2)) cs = 0) → ∀ cs, mnr (P1 ++ x :: P2) cs = 0
  | [], _, h, cs => h cs
  | y :: P1, P2, h, cs => by
    have h1 : ∀ cs, mnr (x :: (P1 ++ P2)) cs = mnr (x :: (P1 ++ P2)) cs := fun _ => rfl
    -- the sign that bringing x to the front of P1 ++ P2 costs
    have key : ∀ (P1 P2 : List Row), ∃ e : Int, (e = 1 ∨ e = -1) ∧ ∀ cs, mnr (P1 ++ x :: P2) cs = e * mnr (x :: (P1 ++ P2)) cs := by
      intro P1
      induction P1 with
      | nil => exact fun P2 => ⟨1, .inl rfl, fun cs => by simp⟩
      | cons z P1 ih =>
        intro P2
        obtain ⟨e, he, hh⟩ := ih P2
        refine ⟨-e, by omega, fun cs => ?_⟩
        have e1 : mnr (P1 ++ x :: P2) = fun cs => e * mnr (x :: (P1 ++ P2)) cs := funext hh
        show dl z (mnr (P1 ++ x :: P2)) cs = _
        rw [e1, dl_smul]
        have e2 : dl z (mnr (x :: (P1 ++ P2))) cs = mnr (z :: x :: (P1 ++ P2)) cs := rfl
        rw [e2, mnr_swap]
        show e * -mnr (x :: z :: (P1 ++ P2)) cs = _
        rw [Int.mul_neg, Int.neg_mul]
        rfl
    obtain ⟨e, _, hh⟩ := key (y :: P1) P2
    rw [hh cs, h cs, Int.mul_zero]
/-- rows scaled, and so many times another one taken off -/
theorem mnr_off (x0 : Row) (a0 : Int) (h0 : a0 ≠ 0) : ∀ (P : List Row) (f : Row → Int) (S : List Row), x0 ∈ S → (∀ cs, mnr ((P.map fun x => fun k => a0 * x k - f x * x0 k) ++ S) cs = 0) → ∀ cs, mnr (P ++ S) cs = 0
  | [], _, _, _, h, cs => h cs
  | x :: P, f, S, hS, h, cs => by
    -- first all but x
    have hm : x0 ∈ (P.map fun x => fun k => a0 * x k - f x * x0 k) ++ S := List.mem_append_right _ hS
    have e1 : ∀ cs, mnr (x :: ((P.map fun x => fun k => a0 * x k - f x * x0 k) ++ S)) cs = 0 := fun cs => by
      have h2 := h cs
      have h3 : mnr (((x :: P).map fun x => fun k => a0 * x k - f x * x0 k) ++ S) cs = a0 * mnr (x :: ((P.map fun x => fun k => a0 * x k - f x * x0 k) ++ S)) cs - f x * mnr (x0 :: ((P.map fun x => fun k => a0 * x k - f x * x0 k) ++ S)) cs := by
        show dl (fun k => a0 * x k - f x * x0 k) (mnr ((P.map fun x => fun k => a0 * x k - f x * x0 k) ++ S)) cs = _
        have h4 := dl_radd (fun k => a0 * x k) (fun k => (-f x) * x0 k) cs (mnr ((P.map fun x => fun k => a0 * x k - f x * x0 k) ++ S))
        rw [dl_rsmul, dl_rsmul] at h4
        have h5 : (fun k => a0 * x k + (-f x) * x0 k) = fun k => a0 * x k - f x * x0 k := by funext k; rw [Int.neg_mul]; omega
        rw [h5] at h4
        rw [h4, Int.neg_mul]
        show _ = a0 * dl x _ cs - f x * dl x0 _ cs
        omega
      rw [h3, mnr_mem _ _ hm, Int.mul_zero, Int.sub_zero] at h2
      rcases Int.mul_eq_zero.1 h2 with h6 | h6
      · exact absurd h6 h0
      · exact h6
    have e2 : ∀ cs, mnr ((P.map fun x => fun k => a0 * x k - f x * x0 k) ++ x :: S) cs = 0 := mnr_front_zero x _ _ e1
    have e3 := mnr_off x0 a0 h0 P f (x :: S) (List.mem_cons_of_mem _ hS) e2
    -- x from behind P to its front
    have key : ∀ (P1 S : List Row), ∃ e : Int, (e = 1 ∨ e = -1) ∧ ∀ cs, mnr (P1 ++ x :: S) cs = e * mnr (x :: (P1 ++ S)) cs := by
      intro P1
      induction P1 with
      | nil => exact fun P2 => ⟨1, .inl rfl, fun cs => by simp⟩
      | cons z P1 ih =>
        intro P2
        obtain ⟨e, he, hh⟩ := ih P2
        refine ⟨-e, by omega, fun cs => ?_⟩
        have e1 : mnr (P1 ++ x :: P2) = fun cs => e * mnr (x :: (P1 ++ P2)) cs := funext hh
        show dl z (mnr (P1 ++ x :: P2)) cs = _
        rw [e1, dl_smul]
        have e2 : dl z (mnr (x :: (P1 ++ P2))) cs = mnr (z :: x :: (P1 ++ P2)) cs := rfl
        rw [e2, mnr_swap]
        show e * -mnr (x :: z :: (P1 ++ P2)) cs = _
        rw [Int.mul_neg, Int.neg_mul]
        rfl
    obtain ⟨e, he, hh⟩ := key P S
    have h7 := hh cs
    rw [e3 cs] at h7
    rcases Int.mul_eq_zero.1 h7.symm with h8 | h8
    · rcases he with h9 | h9 <;> omega
    · exact h8
/-- more rows than they are made from: no minor -/
theorem mnr_many : ∀ (Q P : List Row), Q.length < P.length → (∀ x ∈ P, QSpan Q x) → ∀ cs, mnr P cs = 0
  | [], [], h, _, _ => by simp at h
  | [], x :: P, _, h, cs => by
    obtain ⟨a, ha, hs⟩ := h x List.mem_cons_self
    have hz := span_nil hs
    exact dl_zero x cs _ (fun k _ => by
      rcases Int.mul_eq_zero.1 (hz k) with h | h
      · exact absurd h ha
      · exact h)
  | q :: Q, P, hl, h, cs => by
    by_cases hall : ∀ x ∈ P, QSpan Q x
    · exact mnr_many Q P (by simp at hl; omega) hall cs
    · obtain ⟨x0, hx0, hn⟩ : ∃ x0, x0 ∈ P ∧ ¬ QSpan Q x0 := by
        apply Classical.byContradiction
        intro hh
        exact hall fun x hx => Classical.byContradiction fun hq => hh ⟨x, hx, hq⟩
      obtain ⟨P1, P2, rfl⟩ := List.append_of_mem hx0
      obtain ⟨a, ha, hs⟩ := h x0 hx0
      obtain ⟨b, y, hy, e0⟩ := span_cons hs
      have hb : b ≠ 0 := fun hb => hn ⟨a, ha, span_eq hy fun k => by rw [e0 k, hb]; simp⟩
      -- each other row: b a' x - b' a x0 lies in the span of Q
      have hrep : ∀ x ∈ P1 ++ P2, ∃ c d : Int, c ≠ 0 ∧ Span Q (fun k => c * (b * x k) - d * x0 k) := fun x hx => by
        obtain ⟨a', ha', hs'⟩ := h x (by
          rcases List.mem_append.1 hx with h1 | h1
          · exact List.mem_append_left _ h1
          · exact List.mem_append_right _ (List.mem_cons_of_mem _ h1))
        obtain ⟨b', y', hy', e1⟩ := span_cons hs'
        refine ⟨a', b' * a, ha', span_eq ((hy'.smul b).sub (hy.smul b')) fun k => ?_⟩
        have e2 := e0 k
        have e3 := e1 k
        have e4 : b * (a' * x k) - b' * (a * x0 k) = b * y' k - b' * y k := by rw [e2, e3]; grind
        show b * y' k - b' * y k = _
        rw [← e4]
        grind
      -- a common factor
      have hf : ∀ L : List Row, (∀ x ∈ L, ∃ c d : Int, c ≠ 0 ∧ Span Q (fun k => c * (b * x k) - d * x0 k)) → ∃ c : Int, c ≠ 0 ∧ ∀ x ∈ L, ∃ d : Int, Span Q (fun k => c * x k - d * x0 k) := fun L => by
        induction L with
        | nil => exact fun _ => ⟨1, by decide, fun x hx => by simp at hx⟩
        | cons z L ih =>
          intro hh
          obtain ⟨c, hc, h1⟩ := ih fun x hx => hh x (List.mem_cons_of_mem _ hx)
          obtain ⟨c2, d2, hc2, h2⟩ := hh z List.mem_cons_self
          refine ⟨c * (c2 * b), Int.mul_ne_zero hc (Int.mul_ne_zero hc2 hb), fun x hx => ?_⟩
          rcases List.mem_cons.1 hx with rfl | hx
          · exact ⟨c * d2, span_eq (h2.smul c) fun k => by grind⟩
          · obtain ⟨d, h3⟩ := h1 x hx
            exact ⟨c2 * b * d, span_eq (h3.smul (c2 * b)) fun k => by grind⟩
      obtain ⟨c, hc, h1⟩ := hf (P1 ++ P2) hrep
      have hch : ∃ f : Row → Int, ∀ x ∈ P1 ++ P2, Span Q (fun k => c * x k - f x * x0 k) := by
        refine ⟨fun x => @dite _ (x ∈ P1 ++ P2) (Classical.propDecidable _) (fun hx => Classical.choose (h1 x hx)) (fun _ => 0), fun x hx => ?_⟩
        have := Classical.choose_spec (h1 x hx)
        simp only [dif_pos hx]
        exact this
      obtain ⟨f, hf2⟩ := hch
      have hz : ∀ cs, mnr ((P1 ++ P2).map fun x => fun k => c * x k - f x * x0 k) cs = 0 := mnr_many Q _ (by simp at hl ⊢; omega) fun z hz => by
        obtain ⟨x, hx, rfl⟩ := List.mem_map.1 hz
        exact ⟨1, by decide, span_eq (hf2 x hx) fun k => by simp⟩
      refine mnr_front_zero x0 P1 P2 (fun cs => ?_) cs
      have h5 : ∀ cs, mnr (((P1 ++ P2).map fun x => fun k => c * x k - f x * x0 k) ++ [x0]) cs = 0 := by
        refine mnr_front_zero x0 _ [] fun cs => ?_
        rw [List.append_nil]
        show dl x0 (mnr _) cs = 0
        rw [show mnr ((P1 ++ P2).map fun x => fun k => c * x k - f x * x0 k) = fun _ => 0 from funext hz, dl_F0]
      have h6 := mnr_off x0 c hc (P1 ++ P2) f [x0] List.mem_cons_self h5
      have key : ∀ (P1 S : List Row), ∃ e : Int, (e = 1 ∨ e = -1) ∧ ∀ cs, mnr (P1 ++ x0 :: S) cs = e * mnr (x0 :: (P1 ++ S)) cs := by
        intro P1
        induction P1 with
        | nil => exact fun P2 => ⟨1, .inl rfl, fun cs => by simp⟩
        | cons z P1 ih =>
          intro P2
          obtain ⟨e, he, hh⟩ := ih P2
          refine ⟨-e, by omega, fun cs => ?_⟩
          have e1 : mnr (P1 ++ x0 :: P2) = fun cs => e * mnr (x0 :: (P1 ++ P2)) cs := funext hh
          show dl z (mnr (P1 ++ x0 :: P2)) cs = _
          rw [e1, dl_smul]
          have e2 : dl z (mnr (x0 :: (P1 ++ P2))) cs = mnr (z :: x0 :: (P1 ++ P2)) cs := rfl
          rw [e2, mnr_swap]
          show e * -mnr (x0 :: z :: (P1 ++ P2)) cs = _
          rw [Int.mul_neg, Int.neg_mul]
          rfl
      obtain ⟨e, he, hh⟩ := key (P1 ++ P2) []
      have h7 := hh cs
      rw [h6 cs, List.append_nil] at h7
      rcases Int.mul_eq_zero.1 h7.symm with h8 | h8
      · rcases he with h9 | h9 <;> omega
      · exact h8
/-- a table whose rows lie, up to factors, in the span of Q has at most so many pivots -/
theorem rank_le {A : List (List Int)} {R C : Nat} (hA : rect A R C) (Q : List Row) (hQ : ∀ i, i < R → QSpan Q (tf A i)) (n : Nat) : (brun A n).piv.length ≤ Q.length := by
  obtain ⟨B, P, hb, k1, k2, k3⟩ := (brun_bs hA n).rows
  have hd := (brun_inv hA n).last
  apply Classical.byContradiction
  intro hlt
  refine hd ?_
  rw [hb.det]
  refine mnr_many Q P (by omega) (fun x hx => ?_) _
  obtain ⟨i, hi, rfl⟩ := k1 x hx
  exact hQ i hi

end Go.Proofs.Ytfepmbpcdfdlhaa

/- a grid on its side; what is sent to nothing -/
namespace Go.Proofs.Ytfepmbpcdfdlhaa

theorem span_sum {Q : List Row} (g : Nat → Int) (F : Nat → Row) : ∀ (L : List Nat), (∀ c ∈ L, F c ∈ Q) → Span Q (fun k => (L.map fun c => g c * F c k).sum)
  | [], _ => .zero
  | c :: L, h => ((Span.mem (h c List.mem_cons_self)).smul (g c)).add (span_sum g F L fun d hd => h d (List.mem_cons_of_mem _ hd))
theorem side_le {A A' : List (List Int)} {R C : Nat} (hA : rect A R C) (hA' : rect A' C R) (ht : ∀ i j, tf A' j i = tf A i j) : (brun A' R).piv.length ≤ (brun A C).piv.length := by
  have e := brun_be hA C
  have h := rank_le hA' ((brun A C).piv.map (tf A')) (fun j _ => ?_) R
  · simpa using h
  · refine ⟨(brun A C).last, e.last, span_eq (span_sum (fun c => tf (brun A C).rows ((brun A C).piv.idxOf c) j) (tf A') (brun A C).piv fun c hc => List.mem_map.2 ⟨c, hc, rfl⟩) fun i => ?_⟩
    rw [ht i j]
    by_cases hi : i < R
    · rw [e.back hi j]
      congr 1
      refine List.map_congr_left fun c _ => ?_
      rw [ht i c, Int.mul_comm]
    · have h0 : ∀ k, tf A i k = 0 := fun k => tf_out (List.getElem?_eq_none (by rw [hA.1]; omega)) k
      rw [h0 j, sum_zero _ _ fun c _ => by rw [ht i c, h0 c]; simp]
      simp
/-- the rank of a grid and of the same one on its side -/
theorem rank_side {A A' : List (List Int)} {R C : Nat} (hA : rect A R C) (hA' : rect A' C R) (ht : ∀ i j, tf A' j i = tf A i j) : (brun A' R).piv.length = (brun A C).piv.length :=
  Nat.le_antisymm (side_le hA hA' ht) (side_le hA' hA fun i j => (ht j i).symm)

/-- what is sent to nothing: the numbers of a free column's list, times the last number -/
def kerI (s : BSt) (f k : Nat) : Int := if k = f then s.last else if k ∈ s.piv then -tf s.rows (s.piv.idxOf k) f else 0
end Go.Proofs.Ytfepmbpcdfdlhaa

/- the kernel's lists, as ratios (plain) -/
namespace Go.Proofs.Ytfepmbpcdfdlhaa
open Go.RowKit Go.Sort

/-- the kernel's number at column k, of the free column f -/
def kerQ (s : BSt) (f k : Nat) : Rat := Rat.divInt (kerI s f k) s.last
def kerVec (s : BSt) (C f : Nat) : List Rat := (List.range C).map (kerQ s f)
def kerRows (s : BSt) (C m : Nat) : List (List Rat) := ((List.range m).filter fun f => !decide (f ∈ s.piv)).map (kerVec s C)
theorem kerVec_len (s : BSt) (C f : Nat) : (kerVec s C f).length = C := by simp [kerVec]
theorem kerVec_get {s : BSt} {C f k : Nat} {q : Rat} (h : (kerVec s C f)[k]? = some q) : q = kerQ s f k ∧ k < C := by
  unfold kerVec at h
  rw [List.getElem?_map] at h
  cases hk : (List.range C)[k]? with
  | none => rw [hk] at h; cases h
  | some x =>
    obtain ⟨h1, h2⟩ := List.getElem?_eq_some_iff.1 hk
    rw [List.getElem_range] at h2
    rw [hk] at h
    simp at h h1
    subst h2
    exact ⟨h.symm, h1⟩
theorem kerRows_in {s : BSt} {C m : Nat} (h : m ∈ s.piv) : kerRows s C (m + 1) = kerRows s C m := by
  unfold kerRows
  rw [List.range_succ, List.filter_append]
  simp [h]
theorem kerRows_out {s : BSt} {C m : Nat} (h : m ∉ s.piv) : kerRows s C (m + 1) = kerRows s C m ++ [kerVec s C m] := by
  unfold kerRows
  rw [List.range_succ, List.filter_append]
  simp [h]
theorem kerRows_len (s : BSt) (C m : Nat) : (kerRows s C m).length ≤ m := by
  unfold kerRows
  rw [List.length_map]
  exact Nat.le_trans (List.length_filter_le _ _) (by simp)
/-- what the places hold after r pivots -/
def kerF (s : BSt) (f r k : Nat) : Option Rat := if k = f then some 1 else if k ∈ s.piv.take r then some (kerQ s f k) else some 0
theorem kerF_zero {s : BSt} {f : Nat} (k : Nat) : kerF s f 0 k = if k = f then some 1 else some 0 := by simp [kerF]
theorem kerF_step {s : BSt} {f r c : Nat} (hc : s.piv[r]? = some c) (hf : f ∉ s.piv) (k : Nat) : (if k = c then some (kerQ s f c) else kerF s f r k) = kerF s f (r + 1) k := by
  have hcm : c ∈ s.piv := List.mem_of_getElem? hc
  have hcf : c ≠ f := fun e => hf (e ▸ hcm)
  unfold kerF
  have ht : s.piv.take (r + 1) = s.piv.take r ++ [c] := by rw [List.take_add_one, hc]; rfl
  rw [ht]
  by_cases h1 : k = c
  · subst h1
    rw [if_pos rfl, if_neg hcf, if_pos (by simp)]
  · rw [if_neg h1]
    by_cases h2 : k = f
    · rw [if_pos h2, if_pos h2]
    · rw [if_neg h2, if_neg h2]
      simp [h1]
theorem kerF_all {s : BSt} {f : Nat} (hl : s.last ≠ 0) (hf : f ∉ s.piv) (k : Nat) : kerF s f s.piv.length k = some (kerQ s f k) := by
  unfold kerF kerQ kerI
  rw [List.take_length]
  by_cases h1 : k = f
  · rw [if_pos h1, if_pos h1, Rat.divInt_self' hl]
  · rw [if_neg h1, if_neg h1]
    by_cases h2 : k ∈ s.piv
    · rw [if_pos h2]
    · rw [if_neg h2, if_neg h2, Rat.zero_divInt]
theorem idxOf_at : ∀ {L : List Nat} {r c : Nat}, L.Nodup → L[r]? = some c → L.idxOf c = r
  | [], r, c, _, h => by simp at h
  | x :: L, 0, c, _, h => by simp at h; subst h; simp
  | x :: L, r + 1, c, hn, h => by
    rw [List.nodup_cons] at hn
    rw [List.getElem?_cons_succ] at h
    have hne : x ≠ c := fun e => hn.1 (e ▸ List.mem_of_getElem? h)
    rw [List.idxOf_cons, beq_eq_false_iff_ne.2 hne]
    simp [idxOf_at hn.2 h]
theorem kerI_piv {s : BSt} {f r c : Nat} (hc : s.piv[r]? = some c) (hn : s.piv.Nodup) (hf : f ∉ s.piv) : kerI s f c = -tf s.rows r f := by
  have hcm : c ∈ s.piv := List.mem_of_getElem? hc
  unfold kerI
  rw [if_neg (fun e : c = f => hf (e ▸ hcm)), if_pos hcm]
  rw [idxOf_at hn hc]
theorem lim_len_pow {N k E : Nat} (h : N < 2 ^ E) (hE : E ≤ 64 * k) : (lim N).length ≤ k := lim_len_le (by
  rw [W64, show (18446744073709551616 : Nat) = 2 ^ 64 by decide, ← Nat.pow_mul]
  exact Nat.lt_of_lt_of_le h (Nat.pow_le_pow_right (by decide) hE))
theorem fits_div {x y : Int} {E : Nat} (hE : E ≤ 16384) (hy : y ≠ 0) (h1 : x.natAbs < 2 ^ E) (h2 : y.natAbs < 2 ^ E) : fits (Rat.divInt x y) := by
  have h := dsz (N := x) hy
  exact ⟨lim_len_pow (Nat.lt_of_le_of_lt h.1 h1) hE, lim_len_pow (Nat.lt_of_le_of_lt h.2 h2) hE⟩
/-- the flags of the pivots' columns -/
structure Flg (w : World) (gp : Nat) (P : List Nat) : Prop where
  cell : ∀ c, c < 48 → w.cell? ⟨gp, c, none⟩ = some (.bool (decide (c ∈ P)))
  fz : ∀ j, w.frozen? ⟨gp, j, none⟩ = false
theorem Flg.lt {w : World} {gp : Nat} {P : List Nat} (h : Flg w gp P) : gp < w.heap.size := World.block_lt_of_cell? w ⟨gp, 0, none⟩ (h.cell 0 (by decide))
theorem Flg.below {w w' : World} {gp : Nat} {P : List Nat} (h : Flg w gp P) (hb : Below w.heap.size w w') : Flg w' gp P := ⟨fun c hc => bat hb (h.cell c hc), fun j => bfz hb h.lt (h.fz j)⟩
theorem Flg.grow {w w' : World} {gp : Nat} {P : List Nat} {row : Option Nat} (h : Flg w gp P) (hg : GrowK w w' row Sk) : Flg w' gp P :=
  ⟨fun c hc => (hg.cellOf (h.cell c hc) (sk_bool _)).1, fun j => by rw [hg.frozenOf (h.cell 0 (by decide)) (sk_bool _)]; exact h.fz j⟩
theorem Flg.set {w w' : World} {gp c : Nat} {P : List Nat} (h : Flg w gp P) (hc : c < 48) (hw : w' = w.setCell ⟨gp, c, none⟩ (.bool true)) : Flg w' gp (P ++ [c]) ∧ UpS w w' (fun b => b = gp) := by
  refine ⟨⟨fun d hd => ?_, fun j => by rw [hw, set_frozen]; exact h.fz j⟩, by rw [hw]; exact upS_set (h.cell c hc) (fun kd x e => by cases e)⟩
  by_cases e : d = c
  · subst e
    rw [hw, set_self (h.cell d hd)]
    simp
  · rw [hw, set_other gp (fun _ => e), h.cell d hd]
    simp [e]

end Go.Proofs.Ytfepmbpcdfdlhaa
