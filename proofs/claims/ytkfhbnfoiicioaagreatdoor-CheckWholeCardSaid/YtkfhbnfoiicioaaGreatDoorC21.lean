import Derived.Test.YtkfhbnfoiicioaaGreatDoorC20
/- span.Div, span.Add: the walks -/
set_option linter.unusedSimpArgs false
set_option linter.unusedVariables false
namespace Go.Proofs.YtkfhbnfoiicioaaGreatDoor
open Go.RowKit Go.Sort

theorem div1_any (x y r : Nat) (m : Int) (hC : ∀ w, Calls Tryz.prog 36 #[.float .f64 x, .float .f64 y, .int .i8 m] w fun e w' => e = .returned (.float .f64 r) ∧ Below w.heap.size w w') (hn : fnan r = false) (w : World) :
    Calls Tryz.prog 35 #[.float .f64 x, .float .f64 y, .int .i8 m] w fun e w' => e = .returned (.float .f64 r) ∧ Below w.heap.size w w' := by
  have HC := Lib.hid hC
  have hself := feq_self r
  rw [hn] at hself
  unfold feq at hself
  simp only [Bool.not_false] at hself
  clear hC hn
  go_enter Tryz.func35, Tryz.ntmps35
  go_wp2_with fail
  refine (HC.out w).mono ?_
  rintro e w1 ⟨rfl, hb1⟩
  have HB := Lib.hid hb1
  clear hb1
  go_wp2_with fail
  go_ret
  exact ⟨rfl, HB.out⟩
theorem rd_spans (w : World) (a b : Spn) (t : TypeId) : RdE Spn.cells 2 (w.alloc (.cells #[.float .f64 a.lo, .float .f64 a.hi, .float .f64 b.lo, .float .f64 b.hi] t)) (fun x => x < (w.alloc (.cells #[.float .f64 a.lo, .float .f64 a.hi, .float .f64 b.lo, .float .f64 b.hi] t)).heap.size) (some ⟨w.heap.size, 0, none⟩) 2 [a, b] := rde_blk (blk_new ..) rfl (by simp) rfl rfl
set_option maxRecDepth 100000 in
set_option maxHeartbeats 4000000 in
theorem div_span (a b : Spn) (D : Nat → Nat → Int → Nat) (w : World) (h00 : DivC a.lo b.lo D) (h01 : DivC a.lo b.hi D) (h10 : DivC a.hi b.lo D) (h11 : DivC a.hi b.hi D) (ha : a.ok = true) (hb : b.ok = true) (hz : fle b.lo 0 = false) :
    Calls Tryz.prog 18 #[a.val, b.val] w fun e w' => e = .returned (.tuple #[.agg #[.float .f64 (corL a b D 3), .float .f64 (corH a b D 3)], .int .i64 0]) ∧ Below w.heap.size w w' := by
  have IC := Lib.hid (fun w => corners_any a b D w h00 h01 h10 h11)
  obtain ⟨rl, hrl⟩ : ∃ rl, rl = corL a b D 3 := ⟨_, rfl⟩
  obtain ⟨ru, hru⟩ : ∃ ru, ru = corH a b D 3 := ⟨_, rfl⟩
  rw [← hrl, ← hru] at IC ⊢
  have hall : [a, b].all Spn.ok = true := by simp [ha, hb]
  have IR := Lib.hid (fun A n c w hx hn => rights_any A n c [a, b] w hx hn)
  rw [hall] at IR
  obtain ⟨c, d⟩ := a
  obtain ⟨p, q⟩ := b
  obtain ⟨w0, hw0⟩ : ∃ w0, w0 = ((w.alloc (.cells #[.float .f64 c, .float .f64 d] 24)).alloc (.cells #[.float .f64 p, .float .f64 q] 24)).alloc (.cells #[.float .f64 0, .float .f64 0] 24) := ⟨_, rfl⟩
  have hb0 : Below w.heap.size w w0 := by rw [hw0]; exact below3 ..
  have z0 : w0.heap.size = w.heap.size + 3 := by rw [hw0]; simp
  have g1 : w0.heap[w.heap.size]? = some (.cells #[.float .f64 c, .float .f64 d] 24 (0, 0)) := by
    rw [hw0]; exact ((below2 (w.alloc _) _ _).block w.heap.size (by simp)).trans (blk_new w _ _)
  have g2 : w0.heap[w.heap.size + 1]? = some (.cells #[.float .f64 p, .float .f64 q] 24 (0, 0)) := by
    rw [hw0]
    have h := blk_new (w.alloc (.cells #[.float .f64 c, .float .f64 d] 24)) #[.float .f64 p, .float .f64 q] 24
    rw [World.size_alloc] at h
    exact ((below1 _ _).block (w.heap.size + 1) (by simp)).trans h
  have g3 : w0.heap[w.heap.size + 2]? = some (.cells #[.float .f64 0, .float .f64 0] 24 (0, 0)) := by
    rw [hw0]
    have h := blk_new ((w.alloc (.cells #[.float .f64 c, .float .f64 d] 24)).alloc (.cells #[.float .f64 p, .float .f64 q] 24)) #[.float .f64 0, .float .f64 0] 24
    rwa [World.size_alloc, World.size_alloc] at h
  obtain ⟨w1, hw1⟩ : ∃ w1, w1 = w0.alloc (.cells #[.float .f64 c, .float .f64 d, .float .f64 p, .float .f64 q] 24) := ⟨_, rfl⟩
  have hb1 : Below w0.heap.size w0 w1 := by rw [hw1]; exact below1 ..
  have hx1 := rd_spans w0 ⟨c, d⟩ ⟨p, q⟩ 24
  simp only at hx1
  rw [← hw1, show w0.heap.size = w.heap.size + 1 + 1 + 1 by omega] at hx1
  have HX := Lib.hid hx1
  have K1 := Lib.hid (BxS.of_blk (s := ⟨c, d⟩) g1)
  have K2 := Lib.hid (BxS.of_blk (s := ⟨p, q⟩) g2)
  have G3 := Lib.hid g3
  have HB0 := Lib.hid hb0
  have HB1 := Lib.hid hb1
  have HW0 := Lib.hid hw0
  have HW1 := Lib.hid hw1
  simp only at hz
  unfold fle at hz
  clear h00 h01 h10 h11 hrl hru hall ha hb hw0 hb0 g1 g2 g3 hw1 hb1 hx1
  go_enter Tryz.func18, Tryz.ntmps18
  go_wp2_with fail
  rw [← HW0.out, ← HW1.out]
  refine (IR.out _ 2 2 w1 HX.out (by omega)).mono ?_
  rintro e w2 ⟨rfl, hb2⟩
  have HB2 := Lib.hid (HB1.out.trans (hb2.mono HB1.out.size))
  clear hb2
  have zz2 := HB2.out.size
  obtain ⟨k10, k11⟩ := (K1.out.below HB2.out)
  obtain ⟨k20, k21⟩ := (K2.out.below HB2.out)
  simp only at k10 k11 k20 k21
  go_wp2_with fail
  refine (IC.out w2).mono ?_
  rintro e w3 ⟨rfl, hb3⟩
  have HB3 := Lib.hid (HB2.out.trans (hb3.mono HB2.out.size))
  clear hb3 k10 k11 k20 k21
  have zz3 := HB3.out.size
  obtain ⟨hk3, hf3⟩ := blk_cs ((HB3.out.block (w.heap.size + 2) (by omega)).trans G3.out)
  have k30 := hk3 0
  have k31 := hk3 1
  have f30 := hf3 0
  have f31 := hf3 1
  simp only [List.getElem?_toArray, List.getElem?_cons_zero, List.getElem?_cons_succ] at k30 k31
  obtain ⟨w8, hw8⟩ : ∃ w8, w8 = (w3.setCell ⟨w.heap.size + 2, 0, none⟩ (.float .f64 rl)).setCell ⟨w.heap.size + 2, 1, none⟩ (.float .f64 ru) := ⟨_, rfl⟩
  obtain ⟨hu8, hq⟩ := spn_set k30 k31 _ _ _ hw8
  have HQ := Lib.hid hq
  have HW8 := Lib.hid hw8
  have HB8 := Lib.hid (HB0.out.trans ((HB3.out.mono HB0.out.size).trans (hu8.below (by omega) (by omega))))
  clear hk3 hf3 hw8 hu8 hq
  go_wp2_with fail
  rw [← HW8.out]
  obtain ⟨q0, q1⟩ := HQ.out
  (try simp only [Exit.inBlock, Exit.then])
  refine bodyPost_ret (v := .tuple #[.agg #[.float .f64 rl, .float .f64 ru], .int .i64 0]) (by simp [results, Tryz.results18, go_sem, q0, q1]; done) rfl ?_
  exact ⟨rfl, HB8.out⟩
set_option maxRecDepth 100000 in
set_option maxHeartbeats 4000000 in
theorem add_span (a b : Spn) (rl ru : Nat) (w : World) (ha : a.ok = true) (hb : b.ok = true)
    (h1 : ∀ w, Calls Tryz.prog 37 #[.float .f64 a.lo, .float .f64 b.lo, .int .i8 1] w fun e w' => e = .returned (.float .f64 rl) ∧ Below w.heap.size w w')
    (h2 : ∀ w, Calls Tryz.prog 37 #[.float .f64 a.hi, .float .f64 b.hi, .int .i8 2] w fun e w' => e = .returned (.float .f64 ru) ∧ Below w.heap.size w w') :
    Calls Tryz.prog 19 #[a.val, b.val] w fun e w' => e = .returned (.tuple #[.agg #[.float .f64 rl, .float .f64 ru], .int .i64 0]) ∧ Below w.heap.size w w' := by
  have I1 := Lib.hid h1
  have I2 := Lib.hid h2
  have hall : [a, b].all Spn.ok = true := by simp [ha, hb]
  have IR := Lib.hid (fun A n c w hx hn => rights_any A n c [a, b] w hx hn)
  rw [hall] at IR
  obtain ⟨c, d⟩ := a
  obtain ⟨p, q⟩ := b
  simp only at I1 I2
  obtain ⟨w0, hw0⟩ : ∃ w0, w0 = ((w.alloc (.cells #[.float .f64 c, .float .f64 d] 24)).alloc (.cells #[.float .f64 p, .float .f64 q] 24)).alloc (.cells #[.float .f64 0, .float .f64 0] 24) := ⟨_, rfl⟩
  have hb0 : Below w.heap.size w w0 := by rw [hw0]; exact below3 ..
  have z0 : w0.heap.size = w.heap.size + 3 := by rw [hw0]; simp
  have g1 : w0.heap[w.heap.size]? = some (.cells #[.float .f64 c, .float .f64 d] 24 (0, 0)) := by
    rw [hw0]; exact ((below2 (w.alloc _) _ _).block w.heap.size (by simp)).trans (blk_new w _ _)
  have g2 : w0.heap[w.heap.size + 1]? = some (.cells #[.float .f64 p, .float .f64 q] 24 (0, 0)) := by
    rw [hw0]
    have h := blk_new (w.alloc (.cells #[.float .f64 c, .float .f64 d] 24)) #[.float .f64 p, .float .f64 q] 24
    rw [World.size_alloc] at h
    exact ((below1 _ _).block (w.heap.size + 1) (by simp)).trans h
  have g3 : w0.heap[w.heap.size + 2]? = some (.cells #[.float .f64 0, .float .f64 0] 24 (0, 0)) := by
    rw [hw0]
    have h := blk_new ((w.alloc (.cells #[.float .f64 c, .float .f64 d] 24)).alloc (.cells #[.float .f64 p, .float .f64 q] 24)) #[.float .f64 0, .float .f64 0] 24
    rwa [World.size_alloc, World.size_alloc] at h
  obtain ⟨w1, hw1⟩ : ∃ w1, w1 = w0.alloc (.cells #[.float .f64 c, .float .f64 d, .float .f64 p, .float .f64 q] 24) := ⟨_, rfl⟩
  have hb1 : Below w0.heap.size w0 w1 := by rw [hw1]; exact below1 ..
  have hx1 := rd_spans w0 ⟨c, d⟩ ⟨p, q⟩ 24
  simp only at hx1
  rw [← hw1, show w0.heap.size = w.heap.size + 1 + 1 + 1 by omega] at hx1
  have HX := Lib.hid hx1
  have K1 := Lib.hid (BxS.of_blk (s := ⟨c, d⟩) g1)
  have K2 := Lib.hid (BxS.of_blk (s := ⟨p, q⟩) g2)
  have G3 := Lib.hid g3
  have HB0 := Lib.hid hb0
  have HB1 := Lib.hid hb1
  have HW0 := Lib.hid hw0
  have HW1 := Lib.hid hw1
  clear h1 h2 hall ha hb hw0 hb0 g1 g2 g3 hw1 hb1 hx1
  go_enter Tryz.func19, Tryz.ntmps19
  go_wp2_with fail
  rw [← HW0.out, ← HW1.out]
  refine (IR.out _ 2 2 w1 HX.out (by omega)).mono ?_
  rintro e w2 ⟨rfl, hb2⟩
  have HB2 := Lib.hid (HB1.out.trans (hb2.mono HB1.out.size))
  clear hb2
  have zz2 := HB2.out.size
  obtain ⟨k10, k11⟩ := (K1.out.below HB2.out)
  obtain ⟨k20, k21⟩ := (K2.out.below HB2.out)
  simp only at k10 k11 k20 k21
  go_wp2_with fail
  refine wp_region_G (S := (fun w' => w'.cell? ⟨w.heap.size, 0, none⟩ = some (.float .f64 c) ∧ w'.cell? ⟨w.heap.size, 1, none⟩ = some (.float .f64 d) ∧ w'.cell? ⟨w.heap.size + 1, 0, none⟩ = some (.float .f64 p) ∧ w'.cell? ⟨w.heap.size + 1, 1, none⟩ = some (.float .f64 q))) 11 (by kernel_rfl) ?_ (fun hHeld => ?_)
  · first | exact True.intro | ((try dsimp only); go_keep)
  refine wpAnyG_take (i := 0) (v := ?_) rfl (by kernel_rfl) (by kernel_rfl) (by kernel_rfl) (by kernel_rfl) 8 (by kernel_rfl) (fun _ _ _ h => h) (Or.inl ⟨by kernel_rfl, ?_⟩) (by assumption) ?_
  rotate_left 1
  · (intro w hSw; (try dsimp only at hSw); go_simp; try with_reducible rfl)
  try simp only [List.getElem_toArray, List.getElem_cons_succ, List.getElem_cons_zero, Act.put, List.setIfInBounds_toArray, List.set_cons_zero, List.set_cons_succ]
  refine wpAnyG_take (i := 1) (v := ?_) rfl (by kernel_rfl) (by kernel_rfl) (by kernel_rfl) (by kernel_rfl) 8 (by kernel_rfl) (fun _ _ _ h => h) (Or.inl ⟨by kernel_rfl, ?_⟩) (by assumption) ?_
  rotate_left 1
  · (intro w hSw; (try dsimp only at hSw); go_simp; try with_reducible rfl)
  try simp only [List.getElem_toArray, List.getElem_cons_succ, List.getElem_cons_zero, Act.put, List.setIfInBounds_toArray, List.set_cons_zero, List.set_cons_succ]
  refine wpAnyG_take (i := 2) (v := ?_) rfl (by kernel_rfl) (by kernel_rfl) (by kernel_rfl) (by kernel_rfl) 8 (by kernel_rfl) (fun _ _ _ h => h) (Or.inl ⟨by kernel_rfl, ?_⟩) (by assumption) ?_
  rotate_left 1
  · (intro w hSw; (try dsimp only at hSw); go_simp; try with_reducible rfl)
  try simp only [List.getElem_toArray, List.getElem_cons_succ, List.getElem_cons_zero, Act.put, List.setIfInBounds_toArray, List.set_cons_zero, List.set_cons_succ]
  refine wpAnyG_take (i := 3) (v := ?_) rfl (by kernel_rfl) (by kernel_rfl) (by kernel_rfl) (by kernel_rfl) 8 (by kernel_rfl) (fun _ _ _ h => h) (Or.inl ⟨by kernel_rfl, ?_⟩) (by assumption) ?_
  rotate_left 1
  · (intro w hSw; (try dsimp only at hSw); go_simp; try with_reducible rfl)
  try simp only [List.getElem_toArray, List.getElem_cons_succ, List.getElem_cons_zero, Act.put, List.setIfInBounds_toArray, List.set_cons_zero, List.set_cons_succ]
  refine wpAnyG_take (i := 5) (v := ?_) rfl (by kernel_rfl) (by kernel_rfl) (by kernel_rfl) (by kernel_rfl) 8 (by kernel_rfl) (fun _ _ _ h => h) (Or.inl ⟨by kernel_rfl, ?_⟩) (by assumption) ?_
  rotate_left 1
  · (intro w hSw; (try dsimp only at hSw); go_simp; try with_reducible rfl)
  try simp only [List.getElem_toArray, List.getElem_cons_succ, List.getElem_cons_zero, Act.put, List.setIfInBounds_toArray, List.set_cons_zero, List.set_cons_succ]
  refine wpAnyG_take (i := 6) (v := ?_) rfl (by kernel_rfl) (by kernel_rfl) (by kernel_rfl) (by kernel_rfl) 8 (by kernel_rfl) (fun _ _ _ h => h) (Or.inl ⟨by kernel_rfl, ?_⟩) (by assumption) ?_
  rotate_left 1
  · (intro w hSw; (try dsimp only at hSw); go_simp; try with_reducible rfl)
  try simp only [List.getElem_toArray, List.getElem_cons_succ, List.getElem_cons_zero, Act.put, List.setIfInBounds_toArray, List.set_cons_zero, List.set_cons_succ]
  refine wpAnyG_take (i := 7) (v := ?_) rfl (by kernel_rfl) (by kernel_rfl) (by kernel_rfl) (by kernel_rfl) 8 (by kernel_rfl) (fun _ _ _ h => h) (Or.inl ⟨by kernel_rfl, ?_⟩) (by assumption) ?_
  rotate_left 1
  · (intro w hSw; (try dsimp only at hSw); go_simp; try with_reducible rfl)
  try simp only [List.getElem_toArray, List.getElem_cons_succ, List.getElem_cons_zero, Act.put, List.setIfInBounds_toArray, List.set_cons_zero, List.set_cons_succ]
  refine wpAnyG_take (i := 8) (v := ?_) rfl (by kernel_rfl) (by kernel_rfl) (by kernel_rfl) (by kernel_rfl) 8 (by kernel_rfl) (fun _ _ _ h => h) (Or.inl ⟨by kernel_rfl, ?_⟩) (by assumption) ?_
  rotate_left 1
  · (intro w hSw; (try dsimp only at hSw); go_simp; try with_reducible rfl)
  try simp only [List.getElem_toArray, List.getElem_cons_succ, List.getElem_cons_zero, Act.put, List.setIfInBounds_toArray, List.set_cons_zero, List.set_cons_succ]
  obtain ⟨u, hu⟩ : ∃ ux : World, ux = w2.drew := ⟨_, rfl⟩
  have HBU : Hid (Below w0.heap.size w0 u) := Lib.hid (by rw [hu]; exact HB2.out.drew)
  rw [← hu] at hHeld ⊢
  clear hu k10 k11 k20 k21
  refine wpAnyG_one (i := 4) (by kernel_rfl) rfl (fun K hK => ?_)
  go_simp
  (refine (I1.out u).mono ?_; rintro e w3 ⟨rfl, hb3⟩; obtain ⟨s0, s1, s2, s3⟩ := hHeld; have t0 := bat hb3 s0; have t1 := bat hb3 s1; have t2 := bat hb3 s2; have t3 := bat hb3 s3; have HB3 := Lib.hid (HBU.out.trans (hb3.mono HBU.out.size)); clear hb3 s0 s1 s2 s3)
  try go_wp2_with fail
  refine (fun hHeld => hK.out _ _ (.inl hHeld) (fun _ => ?_)) ?_
  rotate_left 1
  · first | exact True.intro | ((try dsimp only); go_keep)
  clear hK K
  try simp only [List.getElem_toArray, List.getElem_cons_succ, List.getElem_cons_zero, Act.put, List.setIfInBounds_toArray, List.set_cons_zero, List.set_cons_succ]
  refine wpAnyG_one (i := 9) (by kernel_rfl) rfl (fun K hK => ?_)
  go_simp
  (refine (I2.out w3).mono ?_; rintro e w4 ⟨rfl, hb4⟩; have p0 := bat hb4 t0; have p1 := bat hb4 t1; have p2 := bat hb4 t2; have p3 := bat hb4 t3; have HB4 := Lib.hid (HB3.out.trans (hb4.mono HB3.out.size)); clear hb4 t0 t1 t2 t3)
  try go_wp2_with fail
  refine (fun hHeld => hK.out _ _ (.inl hHeld) (fun _ => ?_)) ?_
  rotate_left 1
  · first | exact True.intro | ((try dsimp only); go_keep)
  clear hK K
  try simp only [List.getElem_toArray, List.getElem_cons_succ, List.getElem_cons_zero, Act.put, List.setIfInBounds_toArray, List.set_cons_zero, List.set_cons_succ]
  refine wpAnyG_one (i := 10) (by kernel_rfl) rfl (fun K hK => ?_)
  go_simp
  refine (fun hHeld => hK.out _ _ (.inl hHeld) (fun _ => ?_)) ?_
  rotate_left 1
  · first | exact True.intro | ((try dsimp only); go_keep)
  clear hK K
  try simp only [List.getElem_toArray, List.getElem_cons_succ, List.getElem_cons_zero, Act.put, List.setIfInBounds_toArray, List.set_cons_zero, List.set_cons_succ]
  have zz3 := HB4.out.size
  obtain ⟨hk3, hf3⟩ := blk_cs ((HB4.out.block (w.heap.size + 2) (by omega)).trans G3.out)
  have k30 := hk3 0
  have k31 := hk3 1
  have f30 := hf3 0
  have f31 := hf3 1
  simp only [List.getElem?_toArray, List.getElem?_cons_zero, List.getElem?_cons_succ] at k30 k31
  obtain ⟨w8, hw8⟩ : ∃ w8, w8 = (w4.setCell ⟨w.heap.size + 2, 0, none⟩ (.float .f64 rl)).setCell ⟨w.heap.size + 2, 1, none⟩ (.float .f64 ru) := ⟨_, rfl⟩
  obtain ⟨hu8, hq⟩ := spn_set k30 k31 _ _ _ hw8
  have HQ := Lib.hid hq
  have HW8 := Lib.hid hw8
  have HB8 := Lib.hid (HB0.out.trans ((HB4.out.mono HB0.out.size).trans (hu8.below (by omega) (by omega))))
  clear hk3 hf3 hw8 hu8 hq
  refine wpAnyG_one (i := 11) (by kernel_rfl) rfl (fun K hK => ?_)
  go_simp
  refine hK.out _ _ ?_ (fun hHeld => ?_)
  · exact .inr (by kernel_rfl)
  clear hK K
  try simp only [List.getElem_toArray, List.getElem_cons_succ, List.getElem_cons_zero, Act.put, List.setIfInBounds_toArray, List.set_cons_zero, List.set_cons_succ]
  refine wpAnyG_one (i := 12) (by kernel_rfl) rfl (fun K hK => ?_)
  go_simp
  refine hK.out _ _ ?_ (fun hHeld => ?_)
  · exact .inr (by kernel_rfl)
  clear hK K
  try simp only [List.getElem_toArray, List.getElem_cons_succ, List.getElem_cons_zero, Act.put, List.setIfInBounds_toArray, List.set_cons_zero, List.set_cons_succ]
  refine wpAnyG_done (by kernel_rfl) ?_ _
  rw [← HW8.out]
  go_wp2_with fail
  obtain ⟨q0, q1⟩ := HQ.out
  (try simp only [Exit.inBlock, Exit.then])
  refine bodyPost_ret (v := .tuple #[.agg #[.float .f64 rl, .float .f64 ru], .int .i64 0]) (by simp [results, Tryz.results19, go_sem, q0, q1]; done) rfl ?_
  exact ⟨rfl, HB8.out⟩

end Go.Proofs.YtkfhbnfoiicioaaGreatDoor
