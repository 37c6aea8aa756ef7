import Derived.Test.YtfepmbpcdfdlhaaX22
set_option linter.unusedSimpArgs false
set_option linter.unusedVariables false
/- RankSame: the plain law -/
namespace Go.Proofs.Ytfepmbpcdfdlhaa
open Go.RowKit Go.Sort

theorem tf_far {A : List (List Int)} {R C i k : Nat} (h : rect A R C) (hk : C ≤ k) : tf A i k = 0 := by
  cases hi : A[i]? with
  | none => exact tf_out hi k
  | some row =>
    rw [tf_get hi, List.getD_eq_getElem?_getD, List.getElem?_eq_none (by rw [h.2 row (List.mem_of_getElem? hi)]; exact hk)]
    rfl
theorem grid_tf {ys : List Int} {R C i c : Nat} (hi : i < R) (hc : c < C) : tf (gridT ys R C) i c = ys.getD (i * C + c) 0 := by
  have h : (gridT ys R C)[i]? = some ((ys.drop (i * C)).take C) := by
    unfold gridT
    rw [List.getElem?_map, List.getElem?_range hi]; rfl
  rw [tf_get h, List.getD_eq_getElem?_getD, List.getD_eq_getElem?_getD, List.getElem?_take_of_lt hc, List.getElem?_drop]
theorem idx_inj {C i j c d : Nat} (hc : c < C) (hd : d < C) (h : i * C + c = j * C + d) : i = j ∧ c = d := by
  have hC : 0 < C := by omega
  have h1 := congrArg (· % C) h
  simp only [Nat.mul_add_mod_self_right, Nat.mod_eq_of_lt hc, Nat.mod_eq_of_lt hd] at h1
  have h2 : i * C = j * C := by omega
  exact ⟨Nat.eq_of_mul_eq_mul_right hC h2, h1⟩
theorem getD_set {ys : List Int} {i j : Nat} {v : Int} (hi : i < ys.length) : (ys.set i v).getD j 0 = if j = i then v else ys.getD j 0 := by
  rw [List.getD_eq_getElem?_getD, List.getD_eq_getElem?_getD, List.getElem?_set]
  by_cases h : i = j
  · subst h; rw [if_pos rfl, if_pos hi, if_pos rfl]; rfl
  · rw [if_neg h, if_neg (fun e => h e.symm)]
theorem idx_lt {R C i c : Nat} (hi : i < R) (hc : c < C) : i * C + c < R * C := by
  have h1 : (i + 1) * C ≤ R * C := Nat.mul_le_mul_right C hi
  rw [Nat.add_mul, Nat.one_mul] at h1
  omega
/-- two rows change places, k columns done -/
def swk (xs : List Int) (a b C : Nat) : Nat → List Int
  | 0 => xs
  | k + 1 => ((swk xs a b C k).set (a * C + k) (xs.getD (b * C + k) 0)).set (b * C + k) (xs.getD (a * C + k) 0)
theorem swk_len (xs : List Int) (a b C : Nat) : ∀ k, (swk xs a b C k).length = xs.length
  | 0 => rfl
  | k + 1 => by simp [swk, swk_len xs a b C k]
theorem swk_get {xs : List Int} {a b R C : Nat} (hl : xs.length = R * C) (ha : a < R) (hb : b < R) : ∀ k, k ≤ C → ∀ i c, i < R → c < C →
    (swk xs a b C k).getD (i * C + c) 0 = if c < k then (if i = b then xs.getD (a * C + c) 0 else if i = a then xs.getD (b * C + c) 0 else xs.getD (i * C + c) 0) else xs.getD (i * C + c) 0
  | 0, _, i, c, _, _ => by simp [swk]
  | k + 1, hk, i, c, hi, hc => by
    have hl1 := swk_len xs a b C k
    have h1 := idx_lt ha (show k < C by omega)
    have h2 := idx_lt hb (show k < C by omega)
    have ih := swk_get hl ha hb k (by omega) i c hi hc
    rw [swk, getD_set (by rw [List.length_set, hl1, hl]; exact h2), getD_set (by rw [hl1, hl]; exact h1), ih]
    by_cases e1 : i * C + c = b * C + k
    · obtain ⟨rfl, rfl⟩ := idx_inj hc (by omega) e1
      rw [if_pos rfl, if_pos (show c < c + 1 by omega), if_pos rfl]
    · rw [if_neg e1]
      by_cases e2 : i * C + c = a * C + k
      · obtain ⟨rfl, rfl⟩ := idx_inj hc (by omega) e2
        have hib : i ≠ b := fun e => e1 (by rw [e])
        rw [if_pos rfl, if_pos (show c < c + 1 by omega), if_neg hib, if_pos rfl]
      · rw [if_neg e2]
        by_cases hck : c = k
        · subst hck
          have hib : i ≠ b := fun e => e1 (by rw [e])
          have hia : i ≠ a := fun e => e2 (by rw [e])
          simp only [Nat.lt_irrefl, if_false, hib, hia, show c < c + 1 by omega, if_true]
        · by_cases hlt : c < k
          · rw [if_pos hlt, if_pos (show c < k + 1 by omega)]
          · rw [if_neg hlt, if_neg (show ¬ c < k + 1 by omega)]
/-- a row is added to another one, k columns done -/
def adk (ys : List Int) (a b C : Nat) : Nat → List Int
  | 0 => ys
  | k + 1 => (adk ys a b C k).set (a * C + k) ((adk ys a b C k).getD (a * C + k) 0 + (adk ys a b C k).getD (b * C + k) 0)
theorem adk_len (ys : List Int) (a b C : Nat) : ∀ k, (adk ys a b C k).length = ys.length
  | 0 => rfl
  | k + 1 => by simp [adk, adk_len ys a b C k]
theorem adk_get {ys : List Int} {a b R C : Nat} (hl : ys.length = R * C) (ha : a < R) (hb : b < R) (hab : a ≠ b) : ∀ k, k ≤ C → ∀ i c, i < R → c < C →
    (adk ys a b C k).getD (i * C + c) 0 = if i = a ∧ c < k then ys.getD (a * C + c) 0 + ys.getD (b * C + c) 0 else ys.getD (i * C + c) 0
  | 0, _, i, c, _, _ => by simp [adk]
  | k + 1, hk, i, c, hi, hc => by
    have hl1 := adk_len ys a b C k
    have h1 := idx_lt ha (show k < C by omega)
    have ih := adk_get hl ha hb hab k (by omega)
    have ia := ih a k ha (by omega)
    have ib := ih b k hb (by omega)
    rw [if_neg (fun h : a = a ∧ k < k => Nat.lt_irrefl _ h.2)] at ia
    rw [if_neg (fun h : b = a ∧ k < k => hab h.1.symm)] at ib
    rw [adk, getD_set (by rw [hl1, hl]; exact h1), ih i c hi hc, ia, ib]
    by_cases e2 : i * C + c = a * C + k
    · obtain ⟨rfl, rfl⟩ := idx_inj hc (by omega) e2
      rw [if_pos rfl, if_pos (show i = i ∧ c < c + 1 from ⟨rfl, by omega⟩)]
    · rw [if_neg e2]
      by_cases hia : i = a
      · subst hia
        have hck : c ≠ k := fun e => e2 (by rw [e])
        by_cases hlt : c < k
        · rw [if_pos (show i = i ∧ c < k from ⟨rfl, hlt⟩), if_pos (show i = i ∧ c < k + 1 from ⟨rfl, by omega⟩)]
        · rw [if_neg (fun h : i = i ∧ c < k => hlt h.2), if_neg (fun h : i = i ∧ c < k + 1 => by have := h.2; omega)]
      · rw [if_neg (fun h : i = a ∧ c < k => hia h.1), if_neg (fun h : i = a ∧ c < k + 1 => hia h.1)]
/-- the grid that RankSame makes: rows a and b changed about, row a once more, row b added to row a if f -/
def sameG (xs : List Int) (a b R C : Nat) (f : Bool) : List Int :=
  if f then adk (swk xs a b C C ++ (xs.drop (a * C)).take C) a b C C else swk xs a b C C ++ (xs.drop (a * C)).take C
theorem row_len {xs : List Int} {a R C : Nat} (hl : xs.length = R * C) (ha : a < R) : ((xs.drop (a * C)).take C).length = C := by
  have h1 : (a + 1) * C ≤ R * C := Nat.mul_le_mul_right C ha
  rw [Nat.add_mul, Nat.one_mul] at h1
  rw [List.length_take, List.length_drop, hl]; omega
theorem app_len {xs : List Int} {a b R C : Nat} (hl : xs.length = R * C) (ha : a < R) : (swk xs a b C C ++ (xs.drop (a * C)).take C).length = (R + 1) * C := by
  rw [List.length_append, swk_len, hl, row_len hl ha, Nat.add_mul, Nat.one_mul]
theorem sameG_len {xs : List Int} {a b R C : Nat} {f : Bool} (hl : xs.length = R * C) (ha : a < R) : (sameG xs a b R C f).length = (R + 1) * C := by
  unfold sameG
  split
  · rw [adk_len]; exact app_len hl ha
  · exact app_len hl ha
theorem app_get {xs : List Int} {a b R C : Nat} (hl : xs.length = R * C) (ha : a < R) (hb : b < R) {i c : Nat} (hi : i < R + 1) (hc : c < C) :
    (swk xs a b C C ++ (xs.drop (a * C)).take C).getD (i * C + c) 0 = if i = R then xs.getD (a * C + c) 0 else if i = b then xs.getD (a * C + c) 0 else if i = a then xs.getD (b * C + c) 0 else xs.getD (i * C + c) 0 := by
  by_cases hiR : i = R
  · subst hiR
    rw [if_pos rfl, List.getD_eq_getElem?_getD, List.getElem?_append_right (by rw [swk_len, hl]; omega), swk_len, hl, show i * C + c - i * C = c by omega, List.getElem?_take_of_lt hc, List.getElem?_drop, List.getD_eq_getElem?_getD]
  · have hi2 : i < R := by omega
    have h1 := idx_lt hi2 hc
    rw [if_neg hiR, List.getD_eq_getElem?_getD, List.getElem?_append_left (by rw [swk_len, hl]; exact h1), ← List.getD_eq_getElem?_getD, swk_get hl ha hb C (Nat.le_refl _) i c hi2 hc, if_pos hc]
theorem sameG_get {xs : List Int} {a b R C : Nat} {f : Bool} (hl : xs.length = R * C) (ha : a < R) (hb : b < R) (hf : f = true → a ≠ b) {i c : Nat} (hi : i < R + 1) (hc : c < C) :
    (sameG xs a b R C f).getD (i * C + c) 0 = if i = R then xs.getD (a * C + c) 0 else if i = b then xs.getD (a * C + c) 0 else if i = a then (if f then xs.getD (b * C + c) 0 + xs.getD (a * C + c) 0 else xs.getD (b * C + c) 0) else xs.getD (i * C + c) 0 := by
  unfold sameG
  cases f with
  | false => simp only [Bool.false_eq_true, if_false]; exact app_get hl ha hb hi hc
  | true =>
    have hab := hf rfl
    simp only [if_true]
    rw [adk_get (app_len hl ha) (by omega) (by omega) hab C (Nat.le_refl _) i c hi hc, app_get hl ha hb hi hc, app_get hl ha hb (i := a) (by omega) hc, app_get hl ha hb (i := b) (by omega) hc]
    rw [if_neg (show a ≠ R by omega), if_neg hab, if_pos rfl, if_neg (show b ≠ R by omega), if_pos rfl]
    by_cases hia : i = a
    · subst hia
      rw [if_pos ⟨rfl, hc⟩, if_neg (show i ≠ R by omega), if_neg hab, if_pos rfl]
    · rw [if_neg (fun h => hia h.1)]
      simp only [hia, if_false]

theorem same_all {xs : List Int} {a b R C : Nat} {f : Bool} (hl : xs.length = R * C) (ha : a < R) (hb : b < R) (hf : f = true → a ≠ b) :
    (brun (gridT xs R C) C).piv = (brun (gridT (sameG xs a b R C f) (R + 1) C) C).piv ∧ kerRows (brun (gridT xs R C) C) C C = kerRows (brun (gridT (sameG xs a b R C f) (R + 1) C) C) C C := by
  have hA := gridT_rect hl
  have hA' : rect (gridT (sameG xs a b R C f) (R + 1) C) (R + 1) C := gridT_rect (sameG_len hl ha)
  have hrow : ∀ i, i < R + 1 → ∀ c, tf (gridT (sameG xs a b R C f) (R + 1) C) i c = if i = R then tf (gridT xs R C) a c else if i = b then tf (gridT xs R C) a c else if i = a then (if f then tf (gridT xs R C) b c + tf (gridT xs R C) a c else tf (gridT xs R C) b c) else tf (gridT xs R C) i c := fun i hi c => by
    by_cases hc : c < C
    · rw [grid_tf hi hc, sameG_get hl ha hb hf hi hc, grid_tf ha hc, grid_tf hb hc]
      by_cases h1 : i = R
      · rw [if_pos h1, if_pos h1]
      · rw [if_neg h1, if_neg h1, grid_tf (show i < R by omega) hc]
    · have hc' : C ≤ c := by omega
      rw [tf_far hA' hc', tf_far hA hc', tf_far hA hc', tf_far hA hc']
      split <;> (try split) <;> (try split) <;> (try split) <;> rfl
  have e := brun_be hA C
  have e' := brun_be hA' C
  have h := same_space hA hA' (fun i hi => by
    have hfn : tf (gridT (sameG xs a b R C f) (R + 1) C) i = fun c => if i = R then tf (gridT xs R C) a c else if i = b then tf (gridT xs R C) a c else if i = a then (if f then tf (gridT xs R C) b c + tf (gridT xs R C) a c else tf (gridT xs R C) b c) else tf (gridT xs R C) i c := funext (hrow i hi)
    rw [hfn]
    by_cases h1 : i = R
    · simp only [h1, if_true]; exact Lies.row e ha
    · simp only [h1, if_false]
      by_cases h2 : i = b
      · simp only [h2, if_true]; exact Lies.row e ha
      · simp only [h2, if_false]
        by_cases h3 : i = a
        · simp only [h3, if_true]
          cases f with
          | false => simp only [Bool.false_eq_true, if_false]; exact Lies.row e hb
          | true => simp only [if_true]; exact (Lies.row e hb).add (Lies.row e ha)
        · simp only [h3, if_false]; exact Lies.row e (by omega)) (fun i hi => by
    have hR : Lies (brun (gridT (sameG xs a b R C f) (R + 1) C) C) (tf (gridT xs R C) a) := by
      have hfn : tf (gridT xs R C) a = tf (gridT (sameG xs a b R C f) (R + 1) C) R := funext fun c => by rw [hrow R (by omega) c, if_pos rfl]
      rw [hfn]
      exact Lies.row e' (by omega)
    by_cases h2 : i = a
    · rw [h2]; exact hR
    · by_cases h3 : i = b
      · rw [h3]
        have hab : a ≠ b := fun e => h2 (by rw [h3, e])
        cases f with
        | false =>
          have hfn : tf (gridT xs R C) b = tf (gridT (sameG xs a b R C false) (R + 1) C) a := funext fun c => by
            rw [hrow a (by omega) c, if_neg (by omega), if_neg hab, if_pos rfl]; rfl
          rw [hfn]
          exact Lies.row e' (by omega)
        | true =>
          have hfn : tf (gridT xs R C) b = fun c => tf (gridT (sameG xs a b R C true) (R + 1) C) a c + (-1) * tf (gridT xs R C) a c := funext fun c => by
            rw [hrow a (by omega) c, if_neg (by omega), if_neg hab, if_pos rfl]
            simp only [if_true]
            omega
          rw [hfn]
          exact (Lies.row e' (by omega)).add (Lies.smul (-1) hR)
      · have hfn : tf (gridT xs R C) i = tf (gridT (sameG xs a b R C f) (R + 1) C) i := funext fun c => by
          rw [hrow i (by omega) c, if_neg (by omega), if_neg h3, if_neg h2]
        rw [hfn]
        exact Lies.row e' (by omega))
  refine ⟨h.1, ?_⟩
  unfold kerRows
  rw [← h.1]
  refine List.map_congr_left fun f hf => ?_
  unfold kerVec
  refine List.map_congr_left fun k _ => ?_
  unfold kerQ
  rw [Rat.divInt_eq_divInt_iff e.last e'.last]
  unfold kerI
  rw [← h.1]
  by_cases h1 : k = f
  · rw [if_pos h1, if_pos h1, Int.mul_comm]
  · rw [if_neg h1, if_neg h1]
    by_cases h2 : k ∈ (brun (gridT xs R C) C).piv
    · rw [if_pos h2, if_pos h2]
      have hlt := List.idxOf_lt_length_iff.2 h2
      have := h.2 _ hlt f
      rw [Int.neg_mul, Int.neg_mul, Int.mul_comm, ← this, Int.mul_comm]
    · rw [if_neg h2, if_neg h2]; simp

end Go.Proofs.Ytfepmbpcdfdlhaa

/- a grid of one's own that is being changed (memory) -/
namespace Go.Proofs.Ytfepmbpcdfdlhaa
open Go.RowKit Go.Sort

section
variable {P : Program} {ops : Array Oper} {md : Region.Mode} {Q : Exit → Act → World → Prop} {S : World → Prop} {c : Nat}
theorem wpAnyG_oneW {i : Nat} {o : Oper} {fuel : Nat} {listed : Array Bool} {a : Act} {w : World} (hr : Region.ready md ops listed = [i]) (ho : ops[i]? = some o) (hg : o.guard = none)
    (h : ∀ K' : Act → World → Prop, Shut (∀ a w, (S w ∨ (listed.setIfInBounds i true).getD c false = true) → ((S w ∨ (listed.setIfInBounds i true).getD c false = true) → wpAnyG P md ops Q S c fuel (listed.setIfInBounds i true) a w) → K' a w) → Oper.wp P o a w K' Q) :
    wpAnyG P md ops Q S c (fuel + 1) listed a w :=
  wpAnyG_one hr ho fun K hK => by
    rw [if_pos (by simp [Region.wanted, hg])]
    exact h K hK
theorem wp_append_K {w : World} {o : Oper} {a : Act} {K' : Act → World → Prop} (s x : Operand) (t : TypeId)
    (ho : o.op = .call { callee := .builtin .append, args := #[s, x], argTypes := #[t, t] })
    (base : Nat) (e : TypeId) (i : TypeInfo) (z : Value) (size bytes : Nat) (ht : P.underlying t = some (.slice e)) (hi : P.info? e = some i) (hz : i.zero = some z)
    (hsize : i.size = size) (hby : i.bytes = bytes) (hzs : z.cells.size = size) (hsz : 0 < size) (K : Value → Prop) (hKz : ∀ u ∈ z.cells.toList, K u)
    (v : Value) (n : Nat) (xs : List Value) (hs : a.eval s = v) (hown : OwnR w base e size K v n xs)
    (S : Nat → Prop) (A : Option Addr) (m c : Nat) (news : List Value) (hx : a.eval x = .slice A m c) (hr : Rd w S size A m news) (h1 : ∀ u ∈ news, u.oneCell' = true) (hKn : ∀ u ∈ news, K u)
    (h63 : n + m ≤ maxLen) (hbytes : (n + m) * bytes ≤ 140737488355328) (hbase : base ≤ w.heap.size)
    (h : ∀ v' w', OwnR w' base e size K v' (n + m) (xs ++ news) → GrowK w w' v.ownBlock K → K' (a.put o.dst v') w') : o.wp P a w K' Q := by
  obtain ⟨v', w', hrun, h2, h3, h5⟩ := run_append_rd (P := P) w base t o.type e i z size bytes ht hi hz hsize hby hzs hsz v n xs hown.own S A m c news hr h1 h63 hbytes hbase (opt_cases A)
  have h6 := run_append_K (P := P) w base t o.type e i z size bytes ht hi hz hsize hby hzs hsz K hKz v n xs hown.own hown.k S A m c news hr h1 hKn h63 hbytes v' w' hrun
  unfold Oper.wp execOp
  simp only [ho, resolve, invoke, builtin, Sem.run_bind, Sem.run_pure, Result.andThen_ok, List.map_toArray, List.map_cons, List.map_nil, hs, hx, hrun]
  exact h v' w' ⟨h2, h6.1⟩ ⟨h3, fun b o u hb hc => hown.k b o u hb hc⟩
end
theorem OwnR.stored {w : World} {base e g n cap : Nat} {xs : List Int} (h : OwnR w base e 1 Ik (.slice (some ⟨g, 0, none⟩) n cap) n (xs.flatMap Zc)) {j : Nat} (hj : j < n) (z : Int) :
    OwnR (w.setCell ⟨g, j, none⟩ (.int .i64 z)) base e 1 Ik (.slice (some ⟨g, 0, none⟩) n cap) n ((xs.set j z).flatMap Zc) := by
  have hl := own_num Zc.clen (by decide) h.own
  have h1 := h.own.stored j (.int .i64 z)
  have h2 := putAll_flat (f := Zc) (size := 1) Zc.clen z xs j (by rw [hl]; exact hj)
  rw [Nat.mul_one] at h2
  refine ⟨?_, fun g' o u hg hu => ?_⟩
  · rw [← h2]; exact h1.1
  · have hg' : g = g' := by simpa [Value.ownBlock] using hg
    subst hg'
    by_cases e : o = j
    · subst e
      obtain ⟨x, hx⟩ : ∃ x, w.cell? ⟨g, o, none⟩ = some (.int .i64 x) := by
        obtain ⟨x, hx⟩ : ∃ x, xs[o]? = some x := ⟨_, List.getElem?_eq_getElem (by rw [hl]; exact hj)⟩
        have h3 := own_elem Zc.clen h.own hx 0 _ rfl
        rw [Nat.mul_one, Nat.add_zero] at h3
        exact ⟨x, h3⟩
      rw [set_self hx] at hu
      injection hu with hu
      exact ⟨z, hu.symm⟩
    · rw [set_other g (fun _ => e)] at hu
      exact h.k g o u hg hu
/-- a grid's number in memory -/
theorem OwnR.elemZ {w : World} {base e g n cap : Nat} {xs : List Int} (h : OwnR w base e 1 Ik (.slice (some ⟨g, 0, none⟩) n cap) n (xs.flatMap Zc)) {j : Nat} (hj : j < n) :
    w.cell? ⟨g, j, none⟩ = some (.int .i64 (xs.getD j 0)) ∧ w.frozen? ⟨g, j, none⟩ = false := by
  have hl := own_num Zc.clen (by decide) h.own
  obtain ⟨x, hx⟩ : ∃ x, xs[j]? = some x := ⟨_, List.getElem?_eq_getElem (by rw [hl]; exact hj)⟩
  have h3 := own_elem Zc.clen h.own hx 0 _ rfl
  rw [Nat.mul_one, Nat.add_zero] at h3
  rw [getD_some hx]
  exact ⟨h3, h.own.frozenAt j⟩

theorem RdE.elemZ {w : World} {S : Nat → Prop} {A : Option Addr} {n : Nat} {xs : List Int} (h : RdE Zc 1 w S A n xs) {j : Nat} (hj : j < n) : ∃ b o, A = some ⟨b, o, none⟩ ∧ w.cell? ⟨b, o + j, none⟩ = some (.int .i64 (xs.getD j 0)) := by
  obtain ⟨x, hx⟩ := get_some h.num hj
  obtain ⟨b, o, e, _, hc⟩ := h.elem Zc.clen hx (by decide)
  have h3 := hc 0 _ rfl
  rw [Nat.mul_one, Nat.add_zero] at h3
  rw [getD_some hx]
  exact ⟨b, o, e, h3⟩
theorem OwnR.some {w : World} {base e n : Nat} {V : Value} {vs : List Value} {K : Value → Prop} (h : OwnR w base e 1 K V n vs) (hn : 0 < n) : ∃ g cap, V = .slice (some ⟨g, 0, none⟩) n cap := by
  rcases h.own.2 with ⟨_, e⟩ | ⟨g, cap, _, e, _⟩
  · omega
  · exact ⟨g, cap, e⟩
theorem z63_getD {xs : List Int} (h : ∀ x ∈ xs, Z63 x) (j : Nat) : Z63 (xs.getD j 0) := by
  rw [List.getD_eq_getElem?_getD]
  cases hj : xs[j]? with
  | none => show Z63 0; unfold Z63; decide
  | some x => exact h x (List.mem_of_getElem? hj)
theorem adk_small {xs : List Int} {a b R C k : Nat} {L U : Int} (hl : xs.length = R * C) (ha : a < R) (hb : b < R) (hab : a ≠ b) (hk : k < C) (hs : ∀ j, j < xs.length → L < xs.getD j 0 ∧ xs.getD j 0 < U) :
    (L < (adk (swk xs a b C C ++ (xs.drop (a * C)).take C) a b C k).getD (a * C + k) 0 ∧ (adk (swk xs a b C C ++ (xs.drop (a * C)).take C) a b C k).getD (a * C + k) 0 < U) ∧
    (L < (adk (swk xs a b C C ++ (xs.drop (a * C)).take C) a b C k).getD (b * C + k) 0 ∧ (adk (swk xs a b C C ++ (xs.drop (a * C)).take C) a b C k).getD (b * C + k) 0 < U) := by
  have h1 := adk_get (app_len (b := b) hl ha) (show a < R + 1 by omega) (show b < R + 1 by omega) hab k (by omega) a k (by omega) hk
  have h2 := adk_get (app_len (b := b) hl ha) (show a < R + 1 by omega) (show b < R + 1 by omega) hab k (by omega) b k (by omega) hk
  rw [if_neg (fun h => Nat.lt_irrefl _ h.2)] at h1 h2
  have g1 := app_get hl ha hb (i := a) (c := k) (by omega) hk
  have g2 := app_get hl ha hb (i := b) (c := k) (by omega) hk
  rw [if_neg (show a ≠ R by omega), if_neg hab, if_pos rfl] at g1
  rw [if_neg (show b ≠ R by omega), if_pos rfl] at g2
  rw [h1, h2, g1, g2]
  exact ⟨hs _ (by rw [hl]; exact idx_lt hb hk), hs _ (by rw [hl]; exact idx_lt ha hk)⟩
/-- the grid at gg (lent), the grid at gh (one's own) -/
structure HI (wH wx : World) (gg gh r2 c2 n : Nat) (R C : Nat) (A : Option Addr) (cD : Nat) (V : Value) (ys : List Int) : Prop where
  b : Below wH.heap.size wH wx
  g1 : wH.cell? ⟨gg, 1, none⟩ = some (.int .i64 (C : Int))
  g0 : wH.cell? ⟨gg, 0, none⟩ = some (.int .i64 (R : Int))
  g2 : wH.cell? ⟨gg, 2, none⟩ = some (.slice A n cD)
  h0 : wx.cell? ⟨gh, 0, none⟩ = some (.int .i64 (r2 : Int))
  h1 : wx.cell? ⟨gh, 1, none⟩ = some (.int .i64 (c2 : Int))
  h2 : wx.cell? ⟨gh, 2, none⟩ = some V
  fz : ∀ j, wx.frozen? ⟨gh, j, none⟩ = false
  own : OwnR wx wH.heap.size 2 1 Ik V ys.length (ys.flatMap Zc)
  ge : wH.heap.size ≤ gh
  ne : V.ownBlock ≠ some gh
  z : ∀ y ∈ ys, Z63 y
section
variable {wH wx wy : World} {gg gh r2 c2 n R C : Nat} {A : Option Addr} {cD : Nat} {V : Value} {ys : List Int}
theorem HI.below (h : HI wH wx gg gh r2 c2 n R C A cD V ys) (hb : Below wx.heap.size wx wy) : HI wH wy gg gh r2 c2 n R C A cD V ys :=
  ⟨h.b.trans (hb.mono h.b.size), h.g1, h.g0, h.g2, bat hb h.h0, bat hb h.h1, bat hb h.h2, fun j => bfz hb (World.block_lt_of_cell? wx ⟨gh, 0, none⟩ h.h0) (h.fz j), h.own.below hb, h.ge, h.ne, h.z⟩
/-- a number is set -/
theorem HI.set {g m cap : Nat} (h : HI wH wx gg gh r2 c2 n R C A cD (.slice (some ⟨g, 0, none⟩) m cap) ys) {j : Nat} (hj : j < ys.length) {z : Int} (hz : Z63 z) :
    HI wH (wx.setCell ⟨g, j, none⟩ (.int .i64 z)) gg gh r2 c2 n R C A cD (.slice (some ⟨g, 0, none⟩) m cap) (ys.set j z) := by
  have hm : m = ys.length := by
    rcases h.own.own.2 with ⟨e, _⟩ | ⟨g', cap', cur, e, _⟩
    · simp at e
    · injection e with _ e2 _
  subst hm
  have hne : gh ≠ g := fun e => h.ne (by rw [e]; rfl)
  have hg := (h.own.own.lt g rfl).1
  have hk : ∀ o v, wx.cell? ⟨gh, o, none⟩ = some v → (wx.setCell ⟨g, j, none⟩ (.int .i64 z)).cell? ⟨gh, o, none⟩ = some v := fun o v hv => by
    rw [set_other gh (fun e => absurd e hne)]; exact hv
  refine ⟨below_set h.b hg, h.g1, h.g0, h.g2, hk _ _ h.h0, hk _ _ h.h1, hk _ _ h.h2, fun o => by rw [set_frozen]; exact h.fz o, ?_, h.ge, h.ne, fun y hy => ?_⟩
  · rw [List.length_set]; exact h.own.stored hj z
  · rcases List.mem_or_eq_of_mem_set hy with h1 | rfl
    · exact h.z y h1
    · exact hz
/-- the box after the data grew -/
theorem HI.grow (h : HI wH wx gg gh r2 c2 n R C A cD V ys) (hg : GrowK wx wy V.ownBlock Ik) : wy.heap[gh]? = wx.heap[gh]? :=
  hg.g.block gh (World.block_lt_of_cell? wx ⟨gh, 0, none⟩ h.h0) (fun e => h.ne e.symm)
theorem HI.app {wz : World} {V' : Value} {x : Int} (h : HI wH wx gg gh r2 c2 n R C A cD V ys) (hg : GrowK wx wy V.ownBlock Ik) (ho : OwnR wy wH.heap.size 2 1 Ik V' (ys.length + 1) (ys.flatMap Zc ++ [.int .i64 x]))
    (hx : Z63 x) (hw : wz = wy.setCell ⟨gh, 2, none⟩ V') : HI wH wz gg gh r2 c2 n R C A cD V' (ys ++ [x]) := by
  have hb := h.grow hg
  have c : ∀ o v, wx.cell? ⟨gh, o, none⟩ = some v → wy.cell? ⟨gh, o, none⟩ = some v := fun o v hv => (World.cell?_of_block (a := ⟨gh, o, none⟩) hb).trans hv
  obtain ⟨A0, c0, hV, _, _⟩ := own_slice h.own.own
  obtain ⟨A', c', hV', _, _⟩ := own_slice ho.own
  have e2 := c 2 _ h.h2
  have hne : V'.ownBlock ≠ some gh := fun e => by
    have h1 := ho.k gh 2 V e e2
    rw [hV] at h1
    exact ik_slice _ _ _ h1
  have hbw : Below wH.heap.size wH wy := h.b.grown hg.g h.b.size fun b e => (h.own.own.lt b e).1
  have hkeep : ∀ k, k ≠ gh → wz.heap[k]? = wy.heap[k]? := fun k hk => by rw [hw]; exact Below.heap_setCell _ _ _ _ hk
  have hs : wz.heap.size = wy.heap.size := by rw [hw]; simp [go_sem]
  refine ⟨by rw [hw]; exact below_set hbw h.ge, h.g1, h.g0, h.g2, by rw [hw, set_other gh (fun _ => by omega)]; exact c 0 _ h.h0, by rw [hw, set_other gh (fun _ => by omega)]; exact c 1 _ h.h1, by rw [hw]; exact set_self e2, fun j => by
    rw [hw, set_frozen, World.frozen?_of_block (a := ⟨gh, j, none⟩) hb]; exact h.fz j, ?_, h.ge, hne, fun y hy => ?_⟩
  · have e : (ys ++ [x]).flatMap Zc = ys.flatMap Zc ++ [.int .i64 x] := by rw [List.flatMap_append]; rfl
    rw [e, List.length_append]
    refine ⟨⟨ho.own.1, ?_⟩, fun g o u hg hu => ?_⟩
    · rcases ho.own.2 with hn | ⟨g, cap, cur, e, hbg, hgg, rest⟩
      · exact .inl hn
      · refine .inr ⟨g, cap, cur, e, hbg, ?_, rest⟩
        rw [hkeep g (fun eg => hne (by rw [e, ← eg]; rfl))]
        exact hgg
    · have hgn : g ≠ gh := fun eg => hne (by rw [hg, eg])
      rw [hw, World.cell?_of_block (a := ⟨g, o, none⟩) (Below.heap_setCell _ _ _ _ hgn)] at hu
      exact ho.k g o u hg hu
  · rcases List.mem_append.1 hy with h1 | h1
    · exact h.z y h1
    · simp at h1; rw [h1]; exact hx
/-- the number of rows is set -/
theorem HI.rows (h : HI wH wx gg gh r2 c2 n R C A cD V ys) (r3 : Nat) (hw : wy = wx.setCell ⟨gh, 0, none⟩ (.int .i64 (r3 : Int))) : HI wH wy gg gh r3 c2 n R C A cD V ys := by
  obtain ⟨A0, c0, hV, _, _⟩ := own_slice h.own.own
  refine ⟨by rw [hw]; exact below_set h.b h.ge, h.g1, h.g0, h.g2, by rw [hw]; exact set_self h.h0, by rw [hw, set_other gh (fun _ => by omega)]; exact h.h1, by rw [hw, set_other gh (fun _ => by omega)]; exact h.h2, fun j => by rw [hw, set_frozen]; exact h.fz j, ?_, h.ge, h.ne, h.z⟩
  have hkeep : ∀ k, k ≠ gh → wy.heap[k]? = wx.heap[k]? := fun k hk => by rw [hw]; exact Below.heap_setCell _ _ _ _ hk
  refine ⟨⟨h.own.own.1, ?_⟩, fun g o u hg hu => ?_⟩
  · rcases h.own.own.2 with hn | ⟨g, cap, cur, e, hbg, hgg, rest⟩
    · exact .inl hn
    · refine .inr ⟨g, cap, cur, e, hbg, ?_, rest⟩
      rw [hkeep g (fun eg => h.ne (by rw [e, ← eg]; rfl))]
      exact hgg
  · have hgn : g ≠ gh := fun eg => h.ne (by rw [hg, eg])
    rw [hw, World.cell?_of_block (a := ⟨g, o, none⟩) (Below.heap_setCell _ _ _ _ hgn)] at hu
    exact h.own.k g o u hg hu
end

/-- the grid on its side -/
def sideR (xs : List Int) (R C c : Nat) : List Int := (List.range R).map fun i => xs.getD (i * C + c) 0
def sideG (xs : List Int) (R C m : Nat) : List Int := (List.range m).flatMap (sideR xs R C)
theorem sideR_len (xs : List Int) (R C c : Nat) : (sideR xs R C c).length = R := by simp [sideR]
theorem sideG_succ (xs : List Int) (R C m : Nat) : sideG xs R C (m + 1) = sideG xs R C m ++ sideR xs R C m := by simp [sideG, List.range_succ, List.flatMap_append]
theorem sideG_len (xs : List Int) (R C : Nat) : ∀ m, (sideG xs R C m).length = m * R
  | 0 => by simp [sideG]
  | m + 1 => by rw [sideG_succ, List.length_append, sideG_len xs R C m, sideR_len, Nat.add_mul, Nat.one_mul]
theorem sideR_take {xs : List Int} {R C c k : Nat} (hk : k < R) : (sideR xs R C c).take (k + 1) = (sideR xs R C c).take k ++ [xs.getD (k * C + c) 0] := by
  rw [List.take_add_one]
  congr 1
  unfold sideR
  rw [List.getElem?_map, List.getElem?_range hk]
  rfl
theorem sideG_get {xs : List Int} {R C : Nat} : ∀ (m : Nat) {j i : Nat}, j < m → i < R → (sideG xs R C m).getD (j * R + i) 0 = xs.getD (i * C + j) 0
  | 0, j, i, h, _ => absurd h (Nat.not_lt_zero j)
  | m + 1, j, i, hj, hi => by
    rw [sideG_succ, List.getD_eq_getElem?_getD]
    by_cases h : j < m
    · have h1 : j * R + i < m * R := idx_lt h hi
      rw [List.getElem?_append_left (by rw [sideG_len]; exact h1), ← List.getD_eq_getElem?_getD]
      exact sideG_get m h hi
    · obtain rfl : j = m := by omega
      rw [List.getElem?_append_right (by rw [sideG_len]; omega), sideG_len, show j * R + i - j * R = i by omega]
      unfold sideR
      rw [List.getElem?_map, List.getElem?_range hi]
      rfl
theorem side_rank {xs : List Int} {R C : Nat} (hl : xs.length = R * C) : (brun (gridT (sideG xs R C C) C R) R).piv.length = (brun (gridT xs R C) C).piv.length := by
  have hA := gridT_rect hl
  have hA' : rect (gridT (sideG xs R C C) C R) C R := gridT_rect (sideG_len xs R C C)
  refine rank_side hA hA' fun i j => ?_
  by_cases hi : i < R
  · by_cases hj : j < C
    · rw [grid_tf hj hi, grid_tf hi hj, sideG_get C hj hi]
    · rw [tf_far hA (by omega), tf_out (by rw [List.getElem?_eq_none (by rw [gridT_len]; omega)])]
  · rw [tf_far hA' (by omega), tf_out (by rw [List.getElem?_eq_none (by rw [gridT_len]; omega)])]

end Go.Proofs.Ytfepmbpcdfdlhaa
