import Derived.Test.YtfepmbpcdfdlhaaX13
set_option linter.unusedSimpArgs false
set_option linter.unusedVariables false
/- append onto a row of the call's own whose cells are all of one kind -/
namespace Go.Proofs.Ytfepmbpcdfdlhaa
open Go.RowKit Go.Sort

/-- all cells of the slice's block are of the kind K -/
def OwnK (w : World) (v : Value) (K : Value → Prop) : Prop := ∀ (g o : Nat) (u : Value), v.ownBlock = some g → w.cell? ⟨g, o, none⟩ = some u → K u
theorem OwnK.nil (w : World) (K : Value → Prop) : OwnK w (.slice none 0 0) K := fun g o u h => by simp [Value.ownBlock] at h
theorem OwnK.keep {w w' : World} {v : Value} {K : Value → Prop} (h : OwnK w v K) (hb : ∀ g, v.ownBlock = some g → w'.heap[g]? = w.heap[g]?) : OwnK w' v K := fun g o u hg hc =>
  h g o u hg ((World.cell?_of_block (w := w) (w' := w') (a := ⟨g, o, none⟩) (hb g hg)).symm.trans hc)
/-- one block was changed whose cells were of the kind K -/
structure GrowK (w w' : World) (row : Option Nat) (K : Value → Prop) : Prop where
  g : w.grownBy w' row
  k : ∀ (b o : Nat) (u : Value), row = some b → w.cell? ⟨b, o, none⟩ = some u → K u
theorem GrowK.cellOf {w w' : World} {row : Option Nat} {K : Value → Prop} (h : GrowK w w' row K) {b o : Nat} {v : Value} (hv : w.cell? ⟨b, o, none⟩ = some v) (hK : ¬ K v) : w'.cell? ⟨b, o, none⟩ = some v ∧ ∀ j, w'.cell? ⟨b, j, none⟩ = w.cell? ⟨b, j, none⟩ := by
  have hne : some b ≠ row := fun e => hK (h.k b o v e.symm hv)
  have hlt := World.block_lt_of_cell? w ⟨b, o, none⟩ hv
  exact ⟨(World.cell?_of_block (a := ⟨b, o, none⟩) (h.g.block b hlt hne)).trans hv, fun j => World.cell?_of_block (a := ⟨b, j, none⟩) (h.g.block b hlt hne)⟩
theorem GrowK.frozenOf {w w' : World} {row : Option Nat} {K : Value → Prop} (h : GrowK w w' row K) {b o : Nat} {v : Value} (hv : w.cell? ⟨b, o, none⟩ = some v) (hK : ¬ K v) (j : Nat) : w'.frozen? ⟨b, j, none⟩ = w.frozen? ⟨b, j, none⟩ := by
  have hne : some b ≠ row := fun e => hK (h.k b o v e.symm hv)
  exact World.frozen?_of_block (a := ⟨b, j, none⟩) (h.g.block b (World.block_lt_of_cell? w ⟨b, o, none⟩ hv) hne)
theorem IntAt.growK {w w' : World} {row : Option Nat} {K : Value → Prop} {b o : Nat} {z : Int} (h : IntAt w b o z) (hg : GrowK w w' row K) (k1 : ∀ s, ¬ K (.bool s)) (k2 : ∀ x, ¬ K (.int .u32 x)) : IntAt w' b o z := by
  obtain ⟨A, c, h1, h2, h3⟩ := h.abs
  refine ⟨(hg.cellOf h.neg (k1 _)).1, ⟨A, c, ?_, h2, ?_⟩, by rw [hg.frozenOf h.neg (k1 _)]; exact h.fz, by rw [hg.frozenOf h.neg (k1 _)]; exact h.fz1⟩
  · rw [(hg.cellOf h.neg (k1 _)).2]; exact h1
  · have h4 : RdE Wc 1 w' (fun d => d < w.heap.size) A (dig z.natAbs).length (dig z.natAbs) := ⟨rd_keep_cells h3.rd fun b o v hv hc => by
      obtain ⟨x, _, hx⟩ := List.mem_flatMap.1 hv
      simp [Wc] at hx
      subst hx
      exact (hg.cellOf hc (k2 _)).1, h3.num⟩
    exact h4.imp fun d hd => Nat.lt_of_lt_of_le hd hg.g.size
theorem PRow.growK {w w' : World} {row : Option Nat} {K : Value → Prop} {g : Nat} {ps : List Nat} {zs : List Int} (h : PRow w g ps zs) (h0 : 0 < ps.length) (hg : GrowK w w' row K) (k1 : ∀ s, ¬ K (.bool s)) (k2 : ∀ x, ¬ K (.int .u32 x)) (k3 : ∀ p, ¬ K (PtrV p)) : PRow w' g ps zs := by
  obtain ⟨p0, hp0⟩ : ∃ p, ps[0]? = some p := ⟨_, List.getElem?_eq_getElem h0⟩
  have h1 := h.ptr 0 p0 hp0
  exact ⟨h.len, Nat.lt_of_lt_of_le h.lt hg.g.size, fun k p hk => (hg.cellOf (h.ptr k p hk) (k3 _)).1, fun k => by rw [hg.frozenOf h1 (k3 _)]; exact h.fz k, fun k p z hk hz => (h.int k p z hk hz).growK hg k1 k2, h.ne⟩
theorem TRows.growK {w w' : World} {row : Option Nat} {K : Value → Prop} {G R C : Nat} {gs : List Nat} {T : List (List Int)} (h : TRows w G R C gs T) (hR : 0 < R) (hC : 0 < C) (hg : GrowK w w' row K) (k1 : ∀ s, ¬ K (.bool s)) (k2 : ∀ x, ¬ K (.int .u32 x)) (k3 : ∀ p, ¬ K (PtrV p)) (k4 : ∀ A n c, ¬ K (.slice A n c)) : TRows w' G R C gs T := by
  obtain ⟨g0, _, _, c0, _, _, _, _, hc0⟩ := h.get hR
  refine ⟨h.lg, h.rct, Nat.lt_of_lt_of_le h.ltG hg.g.size, fun i g hi => ?_, fun i => by rw [hg.frozenOf hc0 (k4 _ _ _)]; exact h.fz i, fun i g zs hi hz => ?_, h.nd⟩
  · obtain ⟨c, hc⟩ := h.cell i g hi
    exact ⟨c, (hg.cellOf hc (k4 _ _ _)).1⟩
  · obtain ⟨ps, hp⟩ := h.row i g zs hi hz
    refine ⟨ps, hp.growK ?_ hg k1 k2 k3⟩
    rw [hp.len, h.rct.2 zs (List.mem_of_getElem? hz)]
    exact hC

section
variable {P : Program}
theorem cells_K {w : World} {K : Value → Prop} {g : Nat} {cur : Array Value} {e : TypeId} {n c : Nat} (hg : w.heap[g]? = some (.cells cur e (0, 0))) (h : OwnK w (.slice (some ⟨g, 0, none⟩) n c) K) : ∀ u ∈ cur.toList, K u := by
  intro u hu
  obtain ⟨j, hj⟩ := List.getElem?_of_mem hu
  refine h g j u rfl ?_
  rw [cell_of_row w g j cur e (0, 0) hg]
  simpa using hj
theorem K_of_cells {w : World} {K : Value → Prop} {g : Nat} {cur : Array Value} {e : TypeId} {n c : Nat} (hg : w.heap[g]? = some (.cells cur e (0, 0))) (h : ∀ u ∈ cur.toList, K u) : OwnK w (.slice (some ⟨g, 0, none⟩) n c) K := by
  intro g' o u hg' hc
  simp [Value.ownBlock] at hg'
  subst hg'
  rw [cell_of_row w g o cur e (0, 0) hg] at hc
  exact h u (List.mem_of_getElem? (i := o) (by simpa using hc))
theorem zero_K {K : Value → Prop} {z : Value} (hz : ∀ u ∈ z.cells.toList, K u) (n : Nat) : ∀ u ∈ (Builtin.zeroCells z.cells n).toList, K u := by
  intro u hu
  simp [Builtin.zeroCells] at hu
  obtain ⟨i, hi, rfl⟩ := hu
  have h0 : 0 < z.cells.size := by
    rcases Nat.eq_zero_or_pos z.cells.size with h | h
    · rw [h] at hi; simp at hi
    · exact h
  have h1 : i % z.cells.size < z.cells.size := Nat.mod_lt _ h0
  rw [getElem!_pos z.cells _ h1]
  exact hz _ (by simp)
theorem run_append_K (w : World) (base : Nat) (t ty e : TypeId) (i : TypeInfo) (z : Value) (size bytes : Nat) (ht : P.underlying t = some (.slice e)) (hi : P.info? e = some i) (hz : i.zero = some z)
    (hsize : i.size = size) (hby : i.bytes = bytes) (hzs : z.cells.size = size) (hsz : 0 < size) (K : Value → Prop) (hKz : ∀ u ∈ z.cells.toList, K u)
    (v : Value) (n : Nat) (xs : List Value) (hown : w.ownsRow base e size v n xs) (hK : OwnK w v K)
    (S : Nat → Prop) (A : Option Addr) (m c : Nat) (news : List Value) (hrd : Rd w S size A m news) (h1 : ∀ u ∈ news, u.oneCell' = true) (hKn : ∀ u ∈ news, K u)
    (h63 : n + m ≤ maxLen) (hbytes : (n + m) * bytes ≤ 140737488355328) (v' : Value) (w' : World) (hrun : (Builtin.append_ #[t, t] ty #[v, .slice A m c]).run P w = .ok v' w') : OwnK w' v' K ∧ (v'.ownBlock = v.ownBlock ∨ v'.ownBlock = some w.heap.size) := by
  subst hsize
  subst hby
  have hl := hrd.len
  rcases opt_cases A with rfl | ⟨a, rfl⟩
  · have hm : m = 0 := by
      rcases Nat.eq_zero_or_pos m with h | h
      · exact h
      · obtain ⟨b, o, h2, _⟩ := hrd.addr h hsz
        cases h2
    subst hm
    have hn : news = [] := List.eq_nil_of_length_eq_zero (by simpa using hl)
    subst hn
    have hr : (Builtin.append_ #[t, t] ty #[v, .slice none 0 c]).run P w = .ok v w := by
      rcases hown.2 with ⟨rfl, rfl⟩ | ⟨g, cap, cur, rfl, _, _, hnc, _⟩
      · simp [Builtin.append_, run_underlying ht, sizeOf, typeInfo, hi, Builtin.lenOf, Builtin.firstCells]
      · simp [Builtin.append_, run_underlying ht, sizeOf, typeInfo, hi, Builtin.lenOf, Builtin.firstCells, hnc, storeCells]
    rw [hrun] at hr
    injection hr with e1 e2
    subst e1 e2
    exact ⟨hK, .inl rfl⟩
  · have hnews : ∀ j u, news[j]? = some u → w.cell? (a.add j) = some u := fun j u hu => by
      obtain ⟨b, o, e1, _, hc⟩ := hrd.at_ j u hu
      injection e1 with e1
      subst e1
      rw [add_off]
      exact hc
    have hsmall : n + m ≤ 9223372036854775807 := by simp only [maxLen] at h63; omega
    rcases hown.2 with ⟨rfl, rfl⟩ | ⟨g, cap, cur, rfl, hbg, hg, hnc, hcm, hcs, htake⟩
    · have hx : xs = [] := List.eq_nil_of_length_eq_zero (by simpa using hown.1)
      subst hx
      by_cases hm : m = 0
      · subst hm
        have hn : news = [] := List.eq_nil_of_length_eq_zero (by simpa using hl)
        subst hn
        have hr : (Builtin.append_ #[t, t] ty #[.slice none 0 0, .slice (some a) 0 c]).run P w = .ok (.slice none 0 0) w := by
          simp [Builtin.append_, run_underlying ht, sizeOf, typeInfo, hi, Builtin.lenOf, Builtin.firstCells, loadCells, loadCellsFrom]
        rw [hrun] at hr
        injection hr with e1 e2
        subst e1 e2
        exact ⟨OwnK.nil _ _, .inl rfl⟩
      · have hr := run_append_nil (P := P) w t ty e i z ht hi hz a m c news hl hnews (by omega) (by omega) (by have hb := hbytes; simp only [Nat.zero_add] at hb; omega)
        rw [hrun] at hr
        injection hr with e1 e2
        subst e1 e2
        refine ⟨K_of_cells (heap_alloc_new w.drew _) fun u hu => ?_, .inr rfl⟩
        simp only [Array.toList_append, List.mem_append] at hu
        rcases hu with hu | hu
        · exact hKn u (by simpa using hu)
        · exact zero_K hKz _ u hu
    · by_cases hroom : n + m ≤ cap
      · have hfit : n * i.size + news.length ≤ cur.size := by rw [hl, hcs, ← Nat.add_mul]; exact Nat.mul_le_mul_right _ hroom
        have hr := run_append_room (P := P) w t ty e i ht hi g n cap cur hg a m c news hl hnews h1 hroom hfit
        rw [hrun] at hr
        injection hr with e1 e2
        subst e1 e2
        have hc := cells_K hg hK
        refine ⟨K_of_cells (setRow_heap w g cur _ e _ hg) fun u hu => ?_, .inl rfl⟩
        simp only [List.toList_toArray, List.mem_append] at hu
        rcases hu with (hu | hu) | hu
        · exact hc u (List.mem_of_mem_take hu)
        · exact hKn u hu
        · exact hc u (List.mem_of_mem_drop hu)
      · have holds : ∀ j u, xs[j]? = some u → w.cell? ((⟨g, 0, none⟩ : Addr).add j) = some u := hown.cells (g := g) rfl
        have hr := run_append_grow (P := P) w t ty e i z ht hi hz ⟨g, 0, none⟩ n cap xs hown.1 holds a m c news hl hnews (by omega) (by omega) (growslice_fits (by omega) hbytes)
        rw [hrun] at hr
        injection hr with e1 e2
        subst e1 e2
        have hc := cells_K hg hK
        refine ⟨K_of_cells (heap_alloc_new w.drew _) fun u hu => ?_, .inr rfl⟩
        simp only [Array.toList_append, List.mem_append] at hu
        rcases hu with (hu | hu) | hu
        · rw [← htake] at hu
          exact hc u (List.mem_of_mem_take (by simpa using hu))
        · exact hKn u (by simpa using hu)
        · exact zero_K hKz _ u hu

/-- a row of the call's own, all of one kind -/
structure OwnR (w : World) (base : Nat) (e : TypeId) (size : Nat) (K : Value → Prop) (v : Value) (n : Nat) (xs : List Value) : Prop where
  own : w.ownsRow base e size v n xs
  k : OwnK w v K
theorem OwnR.nil (w : World) (base : Nat) (e : TypeId) (size : Nat) (K : Value → Prop) : OwnR w base e size K (.slice none 0 0) 0 [] := ⟨World.ownsRow_nil _ _ _ _, OwnK.nil w K⟩
theorem OwnR.keep {w w' : World} {base : Nat} {e : TypeId} {size n : Nat} {K : Value → Prop} {v : Value} {xs : List Value} (h : OwnR w base e size K v n xs) (hs : w.heap.size ≤ w'.heap.size) (hb : ∀ k, base ≤ k → k < w.heap.size → w'.heap[k]? = w.heap[k]?) : OwnR w' base e size K v n xs := by
  refine ⟨⟨h.own.1, ?_⟩, h.k.keep fun g hg => hb g (h.own.lt g hg).1 (h.own.lt g hg).2⟩
  rcases h.own.2 with hn | ⟨g, cap, cur, rfl, hbg, hgg, rest⟩
  · exact .inl hn
  · exact .inr ⟨g, cap, cur, rfl, hbg, (hb g hbg (Array.getElem?_eq_some_iff.1 hgg).1).trans hgg, rest⟩
theorem OwnR.below {w w' : World} {base : Nat} {e : TypeId} {size n : Nat} {K : Value → Prop} {v : Value} {xs : List Value} (h : OwnR w base e size K v n xs) (hb : Below w.heap.size w w') : OwnR w' base e size K v n xs :=
  h.keep hb.size fun k _ hk => hb.block k hk
theorem OwnR.ups {w w' : World} {S : Nat → Prop} {base : Nat} {e : TypeId} {size n : Nat} {K : Value → Prop} {v : Value} {xs : List Value} (h : OwnR w base e size K v n xs) (hu : UpS w w' S) (hS : ∀ k, S k → k < base) : OwnR w' base e size K v n xs :=
  h.keep hu.size fun k h1 hk => hu.blk k hk (fun hs => by have := hS k hs; omega)

theorem wpList_append_K {w : World} {ops : Array Oper} {rest : List Oper} {o : Oper} {a : Act} {Q : Exit → Act → World → Prop} (hgd : o.guard = none) (s x : Operand) (t : TypeId)
    (ho : o.op = .call { callee := .builtin .append, args := #[s, x], argTypes := #[t, t] })
    (base : Nat) (e : TypeId) (i : TypeInfo) (z : Value) (size bytes : Nat) (ht : P.underlying t = some (.slice e)) (hi : P.info? e = some i) (hz : i.zero = some z)
    (hsize : i.size = size) (hby : i.bytes = bytes) (hzs : z.cells.size = size) (hsz : 0 < size) (K : Value → Prop) (hKz : ∀ u ∈ z.cells.toList, K u)
    (v : Value) (n : Nat) (xs : List Value) (hs : a.eval s = v) (hown : OwnR w base e size K v n xs)
    (S : Nat → Prop) (A : Option Addr) (m c : Nat) (news : List Value) (hx : a.eval x = .slice A m c) (hr : Rd w S size A m news) (h1 : ∀ u ∈ news, u.oneCell' = true) (hKn : ∀ u ∈ news, K u)
    (h63 : n + m ≤ maxLen) (hbytes : (n + m) * bytes ≤ 140737488355328) (hbase : base ≤ w.heap.size)
    (h : ∀ v' w', OwnR w' base e size K v' (n + m) (xs ++ news) → GrowK w w' v.ownBlock K → wpList P ops Q rest (a.put o.dst v') w') : wpList P ops Q (o :: rest) a w := by
  refine wpList_plain hgd fun K' hK' => ?_
  obtain ⟨v', w', hrun, h2, h3, h5⟩ := run_append_rd (P := P) w base t o.type e i z size bytes ht hi hz hsize hby hzs hsz v n xs hown.own S A m c news hr h1 h63 hbytes hbase (opt_cases A)
  have h6 := run_append_K (P := P) w base t o.type e i z size bytes ht hi hz hsize hby hzs hsz K hKz v n xs hown.own hown.k S A m c news hr h1 hKn h63 hbytes v' w' hrun
  unfold Oper.wp execOp
  simp only [ho, resolve, invoke, builtin, Sem.run_bind, Sem.run_pure, Result.andThen_ok, List.map_toArray, List.map_cons, List.map_nil, hs, hx, hrun]
  exact hK' _ _ (h v' w' ⟨h2, h6.1⟩ ⟨h3, fun b o u hb hc => hown.k b o u hb hc⟩)
end

theorem UpS.thenB {w a b : World} {S : Nat → Prop} (h : UpS w a S) (k : Below w.heap.size a b) : UpS w b S :=
  ⟨k.os.trans h.os, k.tape.trans h.tape, k.output.trans h.output, Nat.le_trans h.size k.size, fun i hi hn => (k.block i hi).trans (h.blk i hi hn), fun b' o kd x hv =>
    (World.cell?_of_block (a := ⟨b', o, none⟩) (k.block b' (World.block_lt_of_cell? w ⟨b', o, none⟩ hv))).trans (h.num b' o kd x hv)⟩

end Go.Proofs.Ytfepmbpcdfdlhaa

/- a table in memory, while it is reduced (plain) -/
namespace Go.Proofs.Ytfepmbpcdfdlhaa
open Go.RowKit Go.Sort

def Ik (v : Value) : Prop := ∃ x, v = .int .i64 x
theorem ik_bool (s : Bool) : ¬ Ik (.bool s) := fun ⟨x, h⟩ => by cases h
theorem ik_u32 (x : Int) : ¬ Ik (.int .u32 x) := fun ⟨y, h⟩ => by cases h
theorem ik_ptr (p : Nat) : ¬ Ik (PtrV p) := fun ⟨y, h⟩ => by cases h
theorem ik_slice (A : Option Addr) (n c : Nat) : ¬ Ik (.slice A n c) := fun ⟨y, h⟩ => by cases h
def Ic (x : Nat) : List Value := [.int .i64 x]

theorem upS_set {w : World} {g k : Nat} {u v : Value} (h : w.cell? ⟨g, k, none⟩ = some u) (hu : ∀ kd x, u ≠ .int kd x) : UpS w (w.setCell ⟨g, k, none⟩ v) (fun b => b = g) := by
  refine ⟨rfl, rfl, rfl, by simp, fun j _ hn => Below.heap_setCell _ _ _ _ hn, fun b o kd x hv => ?_⟩
  by_cases e : b = g
  · subst e
    by_cases e2 : o = k
    · subst e2
      rw [h] at hv
      injection hv with hv
      exact absurd hv (hu kd x)
    · have e3 : k ≠ o := fun e => e2 e.symm
      simp [go_sem, e2, e3, hv]
  · exact (World.cell?_of_block (a := ⟨b, o, none⟩) (Below.heap_setCell _ _ _ _ e)).trans hv
theorem set_other {w : World} {g k o : Nat} {v : Value} (b : Nat) (h : b = g → o ≠ k) : (w.setCell ⟨g, k, none⟩ v).cell? ⟨b, o, none⟩ = w.cell? ⟨b, o, none⟩ := by
  by_cases e : b = g
  · subst e
    have e2 := h rfl
    simp [go_sem, e2]
  · exact World.cell?_of_block (a := ⟨b, o, none⟩) (Below.heap_setCell _ _ _ _ e)
theorem set_self {w : World} {g k : Nat} {u v : Value} (h : w.cell? ⟨g, k, none⟩ = some u) : (w.setCell ⟨g, k, none⟩ v).cell? ⟨g, k, none⟩ = some v := by simp [go_sem, h]
theorem set_frozen {w : World} {g k : Nat} {v : Value} (b o : Nat) : (w.setCell ⟨g, k, none⟩ v).frozen? ⟨b, o, none⟩ = w.frozen? ⟨b, o, none⟩ := by simp [go_sem]

/-- the table at block gt: its rows, the pivots found, the last number -/
structure RSt (w : World) (gt G R C cR base : Nat) (gs : List Nat) (V : Value) (gl : Nat) (T : List (List Int)) (piv : List Nat) (d : Int) : Prop where
  rows : TRows w G R C gs T
  c0 : w.cell? ⟨gt, 0, none⟩ = some (.slice (some ⟨G, 0, none⟩) R cR)
  c1 : w.cell? ⟨gt, 1, none⟩ = some V
  c2 : w.cell? ⟨gt, 2, none⟩ = some (PtrV gl)
  fz : ∀ j, w.frozen? ⟨gt, j, none⟩ = false
  last : IntAt w gl 0 d
  piv : OwnR w base 3 1 Ik V piv.length (piv.flatMap Ic)
  ne : gt ≠ G
  nm : gt ∉ gs
  lt : gt < base
  ltG : G < base
  ltg : ∀ g ∈ gs, g < base
  hR : 0 < R
  hC : 0 < C
  sz : base ≤ w.heap.size
section
variable {w w' : World} {gt G R C cR base : Nat} {gs : List Nat} {V : Value} {gl : Nat} {T : List (List Int)} {piv : List Nat} {d : Int}
theorem RSt.noInt (h : RSt w gt G R C cR base gs V gl T piv d) {b : Nat} {z : Int} (hb : IntAt w b 0 z) : b ≠ gt ∧ b ≠ G ∧ b ∉ gs :=
  ⟨fun e => (by
    subst e
    have := hb.neg
    rw [h.c0] at this
    cases this), (h.rows.noInt h.hC h.hR hb).1, (h.rows.noInt h.hC h.hR hb).2⟩
theorem RSt.below (h : RSt w gt G R C cR base gs V gl T piv d) (hb : Below w.heap.size w w') : RSt w' gt G R C cR base gs V gl T piv d := by
  have hl := World.block_lt_of_cell? w ⟨gt, 0, none⟩ h.c0
  exact ⟨h.rows.below hb, bat hb h.c0, bat hb h.c1, bat hb h.c2, fun j => bfz hb hl (h.fz j), h.last.below hb, h.piv.below hb, h.ne, h.nm, h.lt, h.ltG, h.ltg, h.hR, h.hC, Nat.le_trans h.sz hb.size⟩
/-- one row made anew -/
theorem RSt.setRow (h : RSt w gt G R C cR base gs V gl T piv d) {i g : Nat} {ns : List Int} {qs : List Nat} (hi : gs[i]? = some g) (hu : UpS w w' (fun b => b = g)) (hr : PRow w' g qs ns) (hl : ns.length = C) : RSt w' gt G R C cR base gs V gl (T.set i ns) piv d := by
  have hgm := List.mem_of_getElem? hi
  have hl2 := World.block_lt_of_cell? w ⟨gt, 0, none⟩ h.c0
  have hne : gt ≠ g := fun e => h.nm (e ▸ hgm)
  have hgb := h.ltg g hgm
  exact ⟨h.rows.set h.hC hi hu hr hl, hu.cellOf h.c0 hne, hu.cellOf h.c1 hne, hu.cellOf h.c2 hne, fun j => by rw [hu.frozenOf hl2 hne]; exact h.fz j,
    h.last.ups hu (fun e => (h.noInt h.last).2.2 (e ▸ hgm)), h.piv.ups hu (fun k hk => by omega), h.ne, h.nm, h.lt, h.ltG, h.ltg, h.hR, h.hC, Nat.le_trans h.sz hu.size⟩
/-- two rows change places -/
theorem RSt.swap (h : RSt w gt G R C cR base gs V gl T piv d) {a b ga gb ca cb : Nat} (ha : gs[a]? = some ga) (hb : gs[b]? = some gb)
    (hca : w.cell? ⟨G, a, none⟩ = some (.slice (some ⟨ga, 0, none⟩) C ca)) (hcb : w.cell? ⟨G, b, none⟩ = some (.slice (some ⟨gb, 0, none⟩) C cb))
    (hw : w' = (w.setCell ⟨G, a, none⟩ (.slice (some ⟨gb, 0, none⟩) C cb)).setCell ⟨G, b, none⟩ (.slice (some ⟨ga, 0, none⟩) C ca)) :
    RSt w' gt G R C cR base (swapAt gs a b) V gl (swapAt T a b) piv d ∧ UpS w w' (fun k => k = G) ∧ ∀ g, g ∈ swapAt gs a b ↔ g ∈ gs := by
  obtain ⟨h1, hu, h3⟩ := h.rows.swap h.hC ha hb hca hcb hw
  have hl2 := World.block_lt_of_cell? w ⟨gt, 0, none⟩ h.c0
  have hG := h.ltG
  exact ⟨⟨h1, hu.cellOf h.c0 h.ne, hu.cellOf h.c1 h.ne, hu.cellOf h.c2 h.ne, fun j => by rw [hu.frozenOf hl2 h.ne]; exact h.fz j,
    h.last.ups hu (fun e => (h.noInt h.last).2.1 e), h.piv.ups hu (fun k hk => by omega), h.ne, fun hm => h.nm ((h3 _).1 hm), h.lt, h.ltG, fun g hg => h.ltg g ((h3 g).1 hg), h.hR, h.hC, Nat.le_trans h.sz hu.size⟩, hu, h3⟩
/-- the last number is set -/
theorem RSt.setLast (h : RSt w gt G R C cR base gs V gl T piv d) {gp : Nat} {p : Int} (hp : IntAt w gp 0 p) (hw : w' = w.setCell ⟨gt, 2, none⟩ (PtrV gp)) :
    RSt w' gt G R C cR base gs V gp T piv p ∧ UpS w w' (fun k => k = gt) := by
  have hu : UpS w w' (fun k => k = gt) := by rw [hw]; exact upS_set h.c2 (fun kd x e => by cases e)
  have hn := h.lt
  refine ⟨⟨h.rows.ups hu (fun e => h.ne e.symm) (fun g hg e => h.nm (e ▸ hg)) (fun b z hb => (h.noInt hb).1), ?_, ?_, ?_, fun j => ?_, hp.ups hu (h.noInt hp).1, h.piv.ups hu (fun k hk => by omega), h.ne, h.nm, h.lt, h.ltG, h.ltg, h.hR, h.hC, Nat.le_trans h.sz hu.size⟩, hu⟩
  · rw [hw, set_other gt (by omega)]; exact h.c0
  · rw [hw, set_other gt (by omega)]; exact h.c1
  · rw [hw]; exact set_self h.c2
  · rw [hw, set_frozen]; exact h.fz j
/-- one pivot more -/
theorem RSt.addPiv {w1 : World} (h : RSt w gt G R C cR base gs V gl T piv d) {c : Nat} {V' : Value} (ho : OwnR w1 base 3 1 Ik V' (piv.length + 1) (piv.flatMap Ic ++ [.int .i64 (c : Int)])) (hg : GrowK w w1 V.ownBlock Ik) (hw : w' = w1.setCell ⟨gt, 1, none⟩ V') :
    RSt w' gt G R C cR base gs V' gl T (piv ++ [c]) d ∧ Below base w w1 ∧ UpS w1 w' (fun k => k = gt) := by
  have e0 : w1.cell? ⟨gt, 0, none⟩ = some (.slice (some ⟨G, 0, none⟩) R cR) := (hg.cellOf h.c0 (ik_slice _ _ _)).1
  have e1 : w1.cell? ⟨gt, 1, none⟩ = some V := by rw [(hg.cellOf h.c0 (ik_slice _ _ _)).2]; exact h.c1
  have e2 : w1.cell? ⟨gt, 2, none⟩ = some (PtrV gl) := by rw [(hg.cellOf h.c0 (ik_slice _ _ _)).2]; exact h.c2
  have ef : ∀ j, w1.frozen? ⟨gt, j, none⟩ = false := fun j => by rw [hg.frozenOf h.c0 (ik_slice _ _ _)]; exact h.fz j
  have hr := h.rows.growK h.hR h.hC hg ik_bool ik_u32 ik_ptr ik_slice
  have hl := h.last.growK hg ik_bool ik_u32
  obtain ⟨A, c', hV, _, _⟩ := own_slice h.piv.own
  have hu : UpS w1 w' (fun k => k = gt) := by rw [hw]; exact upS_set e1 (fun kd x e => by rw [hV] at e; cases e)
  have nI : ∀ (b : Nat) (z : Int), IntAt w1 b 0 z → b ≠ gt := fun b z hb e => by
    subst e
    have := hb.neg
    rw [e0] at this
    cases this
  have hn := h.lt
  have hs := hg.g.size
  have hsz := h.sz
  have hbb : Below base w w1 := ⟨hg.g.os, hg.g.tape, hg.g.output, hs, fun k hk => hg.g.block k (by omega) (fun e => by
    have := (h.piv.own.lt k e.symm).1
    omega)⟩
  refine ⟨⟨hr.ups hu (fun e => h.ne e.symm) (fun g hg' e => h.nm (e ▸ hg')) nI, ?_, ?_, ?_, fun j => ?_, hl.ups hu (nI _ _ hl), ?_, h.ne, h.nm, h.lt, h.ltG, h.ltg, h.hR, h.hC, by rw [hw]; simp; omega⟩, hbb, hu⟩
  · rw [hw, set_other gt (by omega)]; exact e0
  · rw [hw]; exact set_self e1
  · rw [hw, set_other gt (by omega)]; exact e2
  · rw [hw, set_frozen]; exact ef j
  · have h4 := ho.ups hu (fun k hk => by omega)
    rw [List.length_append, List.flatMap_append]
    exact h4
end

/-- all numbers of a table are small -/
def SmT (T : List (List Int)) : Prop := ∀ zs ∈ T, ∀ z ∈ zs, Sm z
theorem smT_of {T : List (List Int)} {N E : Nat} (h : ∀ i k, (tf T i k).natAbs ≤ N) (hN : N < 2 ^ E) (hE : E ≤ 3000000) : SmT T := by
  intro zs hz z hm
  obtain ⟨i, hi⟩ := List.getElem?_of_mem hz
  obtain ⟨k, hk⟩ := List.getElem?_of_mem hm
  have h1 := h i k
  rw [tf_get hi, List.getD_eq_getElem?_getD, hk] at h1
  exact sm_of (Nat.lt_of_le_of_lt h1 hN) hE
theorem smT_way {T E : List (List Int)} (h1 : SmT T) (h2 : SmT E) (k : Nat) : SmT (wayT T E k) := by
  intro zs hz
  unfold wayT at hz
  rcases List.mem_append.1 hz with h | h
  · exact h2 zs (List.mem_of_mem_take h)
  · exact h1 zs (List.mem_of_mem_drop h)
theorem smT_swap {T : List (List Int)} {a b : Nat} (ha : a < T.length) (hb : b < T.length) (h : SmT T) : SmT (swapAt T a b) := by
  intro zs hz
  obtain ⟨i, hi⟩ := List.getElem?_of_mem hz
  rw [swapAt_get T ha hb] at hi
  exact h zs (List.mem_of_getElem? hi)
theorem elim_get {T : List (List Int)} {r c i : Nat} {d : Int} {zs rr : List Int} {p f : Int} (hr : T[r]? = some rr) (hi : T[i]? = some zs) (hne : i ≠ r) (hp : rr[c]? = some p) (hf : zs[c]? = some f) : (elim T r c d)[i]? = some (offRow zs rr p f d) := by
  have e : T.getD r [] = rr := by rw [List.getD_eq_getElem?_getD, hr]; rfl
  unfold elim
  rw [List.getElem?_mapIdx, hi, Option.map_some, e, if_neg hne, List.getD_eq_getElem?_getD, List.getD_eq_getElem?_getD, hp, hf]
  rfl
theorem elim_same {T : List (List Int)} {r c : Nat} {d : Int} {rr : List Int} (hr : T[r]? = some rr) : (elim T r c d)[r]? = some rr := by
  unfold elim
  rw [List.getElem?_mapIdx, hr, Option.map_some, if_pos rfl]
theorem elim_len (T : List (List Int)) (r c : Nat) (d : Int) : (elim T r c d).length = T.length := by unfold elim; simp

end Go.Proofs.Ytfepmbpcdfdlhaa
