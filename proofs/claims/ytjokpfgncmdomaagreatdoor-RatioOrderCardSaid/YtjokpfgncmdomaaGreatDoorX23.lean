import Derived.Test.YtjokpfgncmdomaaGreatDoorX22
set_option linter.unusedSimpArgs false
set_option linter.unusedVariables false
/- girderlaw07.RatioField: the walk (printed by gen_law.py) -/
namespace Go.Proofs.YtjokpfgncmdomaaGreatDoor
open Go.RowKit Go.Sort

set_option maxRecDepth 100000 in
set_option maxHeartbeats 16000000 in
theorem field_law (va vb vc : Value) (a b c : RV) (w : World) (ha : RAt w va a) (hb : RAt w vb b) (hc : RAt w vc c) (l1 : a.num.length ≤ 100000000000000) (l2 : a.den.length ≤ 100000000000000) (l3 : b.num.length ≤ 100000000000000) (l4 : b.den.length ≤ 100000000000000) (l5 : c.num.length ≤ 100000000000000) (l6 : c.den.length ≤ 100000000000000) (hw : Laid w) :
    Calls Tryz.prog 5 #[va, vb, vc] w fun e w' => e = .returned (.bool true) ∧ Below w.heap.size w w' := by
  have HA := Lib.hid ha
  have HB := Lib.hid hb
  have HC := Lib.hid hc
  have HW := Lib.hid hw
  have ea : ∃ s A n d A' n' d', va = .agg #[.bool s, .slice A n d, .slice A' n' d'] ∧ n = a.num.length ∧ n' = a.den.length := by obtain ⟨A, n, c, A', n', c', h, h1, h2, _⟩ := ha; exact ⟨_, _, _, _, _, _, _, h, h1.num.symm, h2.num.symm⟩
  have eb : ∃ s A n d A' n' d', vb = .agg #[.bool s, .slice A n d, .slice A' n' d'] ∧ n = b.num.length ∧ n' = b.den.length := by obtain ⟨A, n, c, A', n', c', h, h1, h2, _⟩ := hb; exact ⟨_, _, _, _, _, _, _, h, h1.num.symm, h2.num.symm⟩
  have ec : ∃ s A n d A' n' d', vc = .agg #[.bool s, .slice A n d, .slice A' n' d'] ∧ n = c.num.length ∧ n' = c.den.length := by obtain ⟨A, n, c, A', n', c', h, h1, h2, _⟩ := hc; exact ⟨_, _, _, _, _, _, _, h, h1.num.symm, h2.num.symm⟩
  obtain ⟨s1, A1, n1, d1, A1', n1', d1', rfl, x1, x2⟩ := ea
  obtain ⟨s2, A2, n2, d2, A2', n2', d2', rfl, x3, x4⟩ := eb
  obtain ⟨s3, A3, n3, d3, A3', n3', d3', rfl, x5, x6⟩ := ec
  rw [← x1] at l1
  rw [← x2] at l2
  rw [← x3] at l3
  rw [← x4] at l4
  rw [← x5] at l5
  rw [← x6] at l6
  have X1 := Lib.hid x1
  have X2 := Lib.hid x2
  have X3 := Lib.hid x3
  have X4 := Lib.hid x4
  have X5 := Lib.hid x5
  have X6 := Lib.hid x6
  clear ha hb hc hw x1 x2 x3 x4 x5 x6
  obtain ⟨w0, hw0⟩ : ∃ w0, w0 = ((w.alloc (.cells #[.bool s1, .slice A1 n1 d1, .slice A1' n1' d1'] 24)).alloc (.cells #[.bool s2, .slice A2 n2 d2, .slice A2' n2' d2'] 24)).alloc (.cells #[.bool s3, .slice A3 n3 d3, .slice A3' n3' d3'] 24) := ⟨_, rfl⟩
  have HW0 := Lib.hid hw0
  have hb0 : Below w.heap.size w w0 := by rw [hw0]; exact below3 ..
  have HB0 := Lib.hid hb0
  have zs0 : w0.heap.size = w.heap.size + 3 := by rw [hw0]; simp
  have g1 : w0.heap[w.heap.size]? = some (.cells #[.bool s1, .slice A1 n1 d1, .slice A1' n1' d1'] 24 (0, 0)) := by
    rw [hw0]
    exact ((below2 (w.alloc _) _ _).block w.heap.size (by simp)).trans (blk_new w _ _)
  have g2 : w0.heap[w.heap.size + 1]? = some (.cells #[.bool s2, .slice A2 n2 d2, .slice A2' n2' d2'] 24 (0, 0)) := by
    rw [hw0]
    exact ((below1 ((w.alloc _).alloc _) _).block (w.heap.size + 1) (by simp)).trans (blk2 w _ _ _)
  have g3 : w0.heap[w.heap.size + 2]? = some (.cells #[.bool s3, .slice A3 n3 d3, .slice A3' n3' d3'] 24 (0, 0)) := by
    rw [hw0]
    exact blk3 w _ _ _ _
  have G := Lib.hid (And.intro g1 (And.intro g2 g3))
  clear hw0 hb0 g1 g2 g3
  by_cases hs : 240 < n1 + n1' + n2 + n2' + n3 + n3'
  · have e0 : decide ((240 : Int) < (n1 : Int) + n1' + n2 + n2' + n3 + n3') = true := by simp; omega
    clear hs
    go_enter Tryz.func5, Tryz.ntmps5
    go_wp2_with fail
    rw [← HW0.out]
    refine (awake_law w0 (HW.out.below HB0.out)).mono ?_
    rintro e w1 ⟨rfl, hb1⟩
    have HB1 := Lib.hid (HB0.out.trans (hb1.mono HB0.out.size))
    clear hb1
    go_wp2_with fail
    go_ret
    exact ⟨rfl, HB1.out⟩
  · have e0 : decide ((240 : Int) < (n1 : Int) + n1' + n2 + n2' + n3 + n3') = false := by simp; omega
    go_enter Tryz.func5, Tryz.ntmps5
    go_wp2_with fail
    rw [← HW0.out]
    obtain ⟨g1, g2, g3⟩ := G.out
    have k1 := (blk_cells g1).1
    have k2 := (blk_cells g2).1
    have k3 := (blk_cells g3).1
    have k10 := k1 0
    have k11 := k1 1
    have k12 := k1 2
    have k20 := k2 0
    have k21 := k2 1
    have k22 := k2 2
    have k30 := k3 0
    have k31 := k3 1
    have k32 := k3 2
    simp only [List.getElem?_toArray, List.getElem?_cons_zero, List.getElem?_cons_succ] at k10 k11 k12 k20 k21 k22 k30 k31 k32
    clear k1 k2 k3 g1 g2 g3 e0
    refine wp_region_G (S := (fun w' => w'.cell? ⟨w.heap.size, 0, none⟩ = some (.bool s1) ∧ w'.cell? ⟨w.heap.size, 1, none⟩ = some (.slice A1 n1 d1) ∧ w'.cell? ⟨w.heap.size, 2, none⟩ = some (.slice A1' n1' d1') ∧ w'.cell? ⟨w.heap.size + 1, 0, none⟩ = some (.bool s2) ∧ w'.cell? ⟨w.heap.size + 1, 1, none⟩ = some (.slice A2 n2 d2) ∧ w'.cell? ⟨w.heap.size + 1, 2, none⟩ = some (.slice A2' n2' d2') ∧ w'.cell? ⟨w.heap.size + 2, 0, none⟩ = some (.bool s3) ∧ w'.cell? ⟨w.heap.size + 2, 1, none⟩ = some (.slice A3 n3 d3) ∧ w'.cell? ⟨w.heap.size + 2, 2, none⟩ = some (.slice A3' n3' d3'))) 6 (by kernel_rfl) ?_ (fun hHeld => ?_)
    · first | exact True.intro | ((try dsimp only); go_keep)
    refine wpAnyG_take (i := 0) (v := ?_) rfl (by kernel_rfl) (by kernel_rfl) (by kernel_rfl) (by kernel_rfl) 8 (by kernel_rfl) (fun _ _ _ h => h) (Or.inl ⟨by kernel_rfl, ?_⟩) (by assumption) ?_
    rotate_left 1
    · (intro w hSw; (try dsimp only at hSw); go_simp; try with_reducible rfl)
    try simp only [List.getElem_toArray, List.getElem_cons_succ, List.getElem_cons_zero, Act.put, List.setIfInBounds_toArray, List.set_cons_zero, List.set_cons_succ]
    refine wpAnyG_take (i := 2) (v := ?_) rfl (by kernel_rfl) (by kernel_rfl) (by kernel_rfl) (by kernel_rfl) 8 (by kernel_rfl) (fun _ _ _ h => h) (Or.inl ⟨by kernel_rfl, ?_⟩) (by assumption) ?_
    rotate_left 1
    · (intro w hSw; (try dsimp only at hSw); go_simp; try with_reducible rfl)
    try simp only [List.getElem_toArray, List.getElem_cons_succ, List.getElem_cons_zero, Act.put, List.setIfInBounds_toArray, List.set_cons_zero, List.set_cons_succ]
    refine wpAnyG_take (i := 4) (v := ?_) rfl (by kernel_rfl) (by kernel_rfl) (by kernel_rfl) (by kernel_rfl) 8 (by kernel_rfl) (fun _ _ _ h => h) (Or.inl ⟨by kernel_rfl, ?_⟩) (by assumption) ?_
    rotate_left 1
    · (intro w hSw; (try dsimp only at hSw); go_simp; try with_reducible rfl)
    try simp only [List.getElem_toArray, List.getElem_cons_succ, List.getElem_cons_zero, Act.put, List.setIfInBounds_toArray, List.set_cons_zero, List.set_cons_succ]
    refine wpAnyG_one (i := 1) (by kernel_rfl) rfl (fun K hK => ?_)
    go_simp
    (refine (known_law _ a w0.drew (HA.out.below HB0.out.drew) (by have := X1.out; omega) (by have := X2.out; omega)).mono ?_; rintro e wa ⟨v1, q1, rfl, hv1, hb1⟩; obtain ⟨x0, x1, x2, x3, x4, x5, x6, x7, x8⟩ := hHeld; have y0 := bat hb1 x0; have y1 := bat hb1 x1; have y2 := bat hb1 x2; have y3 := bat hb1 x3; have y4 := bat hb1 x4; have y5 := bat hb1 x5; have y6 := bat hb1 x6; have y7 := bat hb1 x7; have y8 := bat hb1 x8; have HV1 := Lib.hid hv1; have HBa : Hid (Below w0.heap.size w0 wa) := Lib.hid ((Below.refl w0.heap.size w0).drew.trans hb1); clear hv1 hb1 x0 x1 x2 x3 x4 x5 x6 x7 x8)
    try go_wp2_with fail
    refine (fun hHeld => hK.out _ _ (.inl hHeld) (fun _ => ?_)) ?_
    rotate_left 1
    · first | exact True.intro | ((try dsimp only); go_keep)
    clear hK K
    try simp only [List.getElem_toArray, List.getElem_cons_succ, List.getElem_cons_zero, Act.put, List.setIfInBounds_toArray, List.set_cons_zero, List.set_cons_succ]
    refine wpAnyG_one (i := 3) (by kernel_rfl) rfl (fun K hK => ?_)
    go_simp
    (refine (known_law _ b wa (HB.out.below (HB0.out.trans (HBa.out.mono HB0.out.size))) (by have := X3.out; omega) (by have := X4.out; omega)).mono ?_; rintro e wb ⟨v2, q2, rfl, hv2, hb2⟩; obtain ⟨x0, x1, x2, x3, x4, x5, x6, x7, x8⟩ := hHeld; have t0 := bat hb2 x0; have t1 := bat hb2 x1; have t2 := bat hb2 x2; have t3 := bat hb2 x3; have t4 := bat hb2 x4; have t5 := bat hb2 x5; have t6 := bat hb2 x6; have t7 := bat hb2 x7; have t8 := bat hb2 x8; have HV2 := Lib.hid hv2; have HV1b := Lib.hid (HV1.out.below hb2); have HBb : Hid (Below w0.heap.size w0 wb) := Lib.hid (HBa.out.trans (hb2.mono HBa.out.size)); clear hv2 hb2 x0 x1 x2 x3 x4 x5 x6 x7 x8 y0 y1 y2 y3 y4 y5 y6 y7 y8)
    try go_wp2_with fail
    refine (fun hHeld => hK.out _ _ (.inl hHeld) (fun _ => ?_)) ?_
    rotate_left 1
    · first | exact True.intro | ((try dsimp only); go_keep)
    clear hK K
    try simp only [List.getElem_toArray, List.getElem_cons_succ, List.getElem_cons_zero, Act.put, List.setIfInBounds_toArray, List.set_cons_zero, List.set_cons_succ]
    refine wpAnyG_one (i := 5) (by kernel_rfl) rfl (fun K hK => ?_)
    go_simp
    (refine (known_law _ c wb (HC.out.below (HB0.out.trans (HBb.out.mono HB0.out.size))) (by have := X5.out; omega) (by have := X6.out; omega)).mono ?_; rintro e wc ⟨v3, q3, rfl, hv3, hb3⟩; obtain ⟨x0, x1, x2, x3, x4, x5, x6, x7, x8⟩ := hHeld; have y0 := bat hb3 x0; have y1 := bat hb3 x1; have y2 := bat hb3 x2; have y3 := bat hb3 x3; have y4 := bat hb3 x4; have y5 := bat hb3 x5; have y6 := bat hb3 x6; have y7 := bat hb3 x7; have y8 := bat hb3 x8; have HV3 := Lib.hid hv3; have HV1c := Lib.hid (HV1b.out.below hb3); have HV2c := Lib.hid (HV2.out.below hb3); have HBc : Hid (Below w0.heap.size w0 wc) := Lib.hid (HBb.out.trans (hb3.mono HBb.out.size)); clear hv3 hb3 x0 x1 x2 x3 x4 x5 x6 x7 x8 t0 t1 t2 t3 t4 t5 t6 t7 t8; have f1 := (blk_cells ((HBc.out.block (w.heap.size) (by omega)).trans G.out.1)).2; have f2 := (blk_cells ((HBc.out.block (w.heap.size + 1) (by omega)).trans G.out.2.1)).2; have f3 := (blk_cells ((HBc.out.block (w.heap.size + 2) (by omega)).trans G.out.2.2)).2; have f10 := f1 0; have f11 := f1 1; have f12 := f1 2; have f20 := f2 0; have f21 := f2 1; have f22 := f2 2; have f30 := f3 0; have f31 := f3 1; have f32 := f3 2; clear f1 f2 f3; obtain ⟨r1, B1, m1, e1, B1', m1', e1', rfl⟩ := HV1c.out.1.shape; obtain ⟨r2, B2, m2, e2, B2', m2', e2', rfl⟩ := HV2c.out.1.shape; obtain ⟨r3, B3, m3, e3, B3', m3', e3', rfl⟩ := HV3.out.1.shape)
    try go_wp2_with fail
    refine (fun hHeld => hK.out _ _ (.inl hHeld) (fun _ => ?_)) ?_
    rotate_left 1
    · first | exact True.intro | ((try dsimp only); go_keep)
    clear hK K
    try simp only [List.getElem_toArray, List.getElem_cons_succ, List.getElem_cons_zero, Act.put, List.setIfInBounds_toArray, List.set_cons_zero, List.set_cons_succ]
    refine wpAnyG_one (i := 6) (by kernel_rfl) rfl (fun K hK => ?_)
    go_simp
    refine hK.out _ _ ?_ (fun hHeld => ?_)
    · exact .inr (by kernel_rfl)
    clear hK K
    try simp only [List.getElem_toArray, List.getElem_cons_succ, List.getElem_cons_zero, Act.put, List.setIfInBounds_toArray, List.set_cons_zero, List.set_cons_succ]
    refine wpAnyG_one (i := 7) (by kernel_rfl) rfl (fun K hK => ?_)
    go_simp
    refine hK.out _ _ ?_ (fun hHeld => ?_)
    · exact .inr (by kernel_rfl)
    clear hK K
    try simp only [List.getElem_toArray, List.getElem_cons_succ, List.getElem_cons_zero, Act.put, List.setIfInBounds_toArray, List.set_cons_zero, List.set_cons_succ]
    refine wpAnyG_one (i := 8) (by kernel_rfl) rfl (fun K hK => ?_)
    go_simp
    refine hK.out _ _ ?_ (fun hHeld => ?_)
    · exact .inr (by kernel_rfl)
    clear hK K
    try simp only [List.getElem_toArray, List.getElem_cons_succ, List.getElem_cons_zero, Act.put, List.setIfInBounds_toArray, List.set_cons_zero, List.set_cons_succ]
    refine wpAnyG_done (by kernel_rfl) ?_ _
    obtain ⟨w9, hw9⟩ : ∃ w9, w9 = (((((((((wc.setCell ⟨w.heap.size, 0, none⟩ (.bool r1)).setCell ⟨w.heap.size, 1, none⟩ (.slice B1 m1 e1)).setCell ⟨w.heap.size, 2, none⟩ (.slice B1' m1' e1')).setCell ⟨w.heap.size + 1, 0, none⟩ (.bool r2)).setCell ⟨w.heap.size + 1, 1, none⟩ (.slice B2 m2 e2)).setCell ⟨w.heap.size + 1, 2, none⟩ (.slice B2' m2' e2')).setCell ⟨w.heap.size + 1 + 1, 0, none⟩ (.bool r3)).setCell ⟨w.heap.size + 1 + 1, 1, none⟩ (.slice B3 m3 e3)).setCell ⟨w.heap.size + 1 + 1, 2, none⟩ (.slice B3' m3' e3')) := ⟨_, rfl⟩
    obtain ⟨t1, t2, t3, t4⟩ := three_set ((HBc.out.block (w.heap.size) (by omega)).trans G.out.1) ((HBc.out.block (w.heap.size + 1) (by omega)).trans G.out.2.1) ((HBc.out.block (w.heap.size + 2) (by omega)).trans G.out.2.2) ⟨_, _, _, _, _, _, _, rfl, rfl, rfl⟩ ⟨_, _, _, _, _, _, _, rfl, rfl, rfl⟩ ⟨_, _, _, _, _, _, _, rfl, rfl, rfl⟩ HV1c.out.1 HV2c.out.1 HV3.out.1 w9 hw9
    rw [← hw9]
    have BA : Hid (BoxAt w9 w.heap.size r1 B1 m1 e1 B1' m1' e1' (rv q1)) := Lib.hid t1
    have BB : Hid (BoxAt w9 (w.heap.size + 1) r2 B2 m2 e2 B2' m2' e2' (rv q2)) := Lib.hid t2
    have BC : Hid (BoxAt w9 (w.heap.size + 1 + 1) r3 B3 m3 e3 B3' m3' e3' (rv q3)) := Lib.hid t3
    have FA := Lib.hid HV1c.out.2
    have FB := Lib.hid HV2c.out.2
    have FC := Lib.hid HV3.out.2
    have HB9 := Lib.hid ((HB0.out.trans (HBc.out.mono HB0.out.size)).trans (t4 w.heap.size (Nat.le_refl _) (by have := HBc.out.size; omega)))
    clear t1 t2 t3 t4 hw9 f10 f11 f12 f20 f21 f22 f30 f31 f32 y0 y1 y2 y3 y4 y5 y6 y7 y8 k10 k11 k12 k20 k21 k22 k30 k31 k32 hs
    obtain ⟨x1, x2, x3⟩ := BA.out.1
    obtain ⟨x4, x5, x6⟩ := BB.out.1
    go_wp2_with fail
    clear x1 x2 x3 x4 x5 x6
    refine (addQ _ _ _ _ w9 ⟨BA.out.2, FA.out⟩ ⟨BB.out.2, FB.out⟩).mono ?_
    rintro e w7 ⟨v8, rfl, hv9, hb10⟩
    have HV11 := Lib.hid hv9
    have BX14 := Lib.hid (BA.out.below hb10)
    clear BA
    have BX15 := Lib.hid (BB.out.below hb10)
    clear BB
    have BX16 := Lib.hid (BC.out.below hb10)
    clear BC
    have HB17 := Lib.hid (HB9.out.trans (hb10.mono HB9.out.size))
    obtain ⟨s18, A19, n20, d21, C22, m23, f24, rfl⟩ := hv9.shape
    obtain ⟨er12, her12⟩ : ∃ e, e = toldE (q1 + q2) := ⟨_, rfl⟩
    rw [← her12]
    have E13 := Lib.hid her12
    clear her12
    obtain ⟨w25, hw25⟩ : ∃ wm, wm = w7.alloc (.cells #[.bool s18, .slice A19 n20 d21, .slice C22 m23 f24] 24) := ⟨_, rfl⟩
    have HW26 := Lib.hid hw25
    have hb27 : Below w7.heap.size w7 w25 := by rw [hw25]; exact below1 ..
    have BX28 := Lib.hid (BX14.out.below hb27)
    clear BX14
    have BX29 := Lib.hid (BX15.out.below hb27)
    clear BX15
    have BX30 := Lib.hid (BX16.out.below hb27)
    clear BX16
    have HB31 := Lib.hid (HB17.out.trans (hb27.mono HB17.out.size))
    have BX32 : Hid (BoxAt w25 w7.heap.size s18 A19 n20 d21 C22 m23 f24 (toldR (q1 + q2))) := Lib.hid (by rw [hw25]; exact BoxAt.new HV11.out _)
    clear hv9 hb10 hw25 hb27
    obtain ⟨x33, x34, x35⟩ := BX29.out.1
    obtain ⟨x36, x37, x38⟩ := BX28.out.1
    rw [HW26.out] at x33 x34 x35 x36 x37 x38
    go_wp2_with fail
    rw [← HW26.out]
    clear x33 x34 x35 x36 x37 x38
    refine (addQ _ _ _ _ w25 ⟨BX29.out.2, FB.out⟩ ⟨BX28.out.2, FA.out⟩).mono ?_
    rintro e w39 ⟨v40, rfl, hv41, hb42⟩
    have HV43 := Lib.hid hv41
    have BX46 := Lib.hid (BX28.out.below hb42)
    clear BX28
    have BX47 := Lib.hid (BX29.out.below hb42)
    clear BX29
    have BX48 := Lib.hid (BX30.out.below hb42)
    clear BX30
    have BX49 := Lib.hid (BX32.out.below hb42)
    clear BX32
    have HB50 := Lib.hid (HB31.out.trans (hb42.mono HB31.out.size))
    obtain ⟨s51, A52, n53, d54, C55, m56, f57, rfl⟩ := hv41.shape
    obtain ⟨er44, her44⟩ : ∃ e, e = toldE (q2 + q1) := ⟨_, rfl⟩
    rw [← her44]
    have E45 := Lib.hid her44
    clear her44
    obtain ⟨w58, hw58⟩ : ∃ wm, wm = w39.alloc (.cells #[.bool s51, .slice A52 n53 d54, .slice C55 m56 f57] 24) := ⟨_, rfl⟩
    have HW59 := Lib.hid hw58
    have hb60 : Below w39.heap.size w39 w58 := by rw [hw58]; exact below1 ..
    have BX61 := Lib.hid (BX46.out.below hb60)
    clear BX46
    have BX62 := Lib.hid (BX47.out.below hb60)
    clear BX47
    have BX63 := Lib.hid (BX48.out.below hb60)
    clear BX48
    have BX64 := Lib.hid (BX49.out.below hb60)
    clear BX49
    have HB65 := Lib.hid (HB50.out.trans (hb60.mono HB50.out.size))
    have BX66 : Hid (BoxAt w58 w39.heap.size s51 A52 n53 d54 C55 m56 f57 (toldR (q2 + q1))) := Lib.hid (by rw [hw58]; exact BoxAt.new HV43.out _)
    clear hv41 hb42 hw58 hb60
    obtain ⟨x67, x68, x69⟩ := BX61.out.1
    obtain ⟨x70, x71, x72⟩ := BX62.out.1
    rw [HW59.out] at x67 x68 x69 x70 x71 x72
    go_wp2_with fail
    rw [← HW59.out]
    clear x67 x68 x69 x70 x71 x72
    refine (mulQ _ _ _ _ w58 ⟨BX61.out.2, FA.out⟩ ⟨BX62.out.2, FB.out⟩).mono ?_
    rintro e w73 ⟨v74, rfl, hv75, hb76⟩
    have HV77 := Lib.hid hv75
    have BX80 := Lib.hid (BX61.out.below hb76)
    clear BX61
    have BX81 := Lib.hid (BX62.out.below hb76)
    clear BX62
    have BX82 := Lib.hid (BX63.out.below hb76)
    clear BX63
    have BX83 := Lib.hid (BX64.out.below hb76)
    clear BX64
    have BX84 := Lib.hid (BX66.out.below hb76)
    clear BX66
    have HB85 := Lib.hid (HB65.out.trans (hb76.mono HB65.out.size))
    obtain ⟨s86, A87, n88, d89, C90, m91, f92, rfl⟩ := hv75.shape
    obtain ⟨er78, her78⟩ : ∃ e, e = toldE (q1 * q2) := ⟨_, rfl⟩
    rw [← her78]
    have E79 := Lib.hid her78
    clear her78
    obtain ⟨w93, hw93⟩ : ∃ wm, wm = w73.alloc (.cells #[.bool s86, .slice A87 n88 d89, .slice C90 m91 f92] 24) := ⟨_, rfl⟩
    have HW94 := Lib.hid hw93
    have hb95 : Below w73.heap.size w73 w93 := by rw [hw93]; exact below1 ..
    have BX96 := Lib.hid (BX80.out.below hb95)
    clear BX80
    have BX97 := Lib.hid (BX81.out.below hb95)
    clear BX81
    have BX98 := Lib.hid (BX82.out.below hb95)
    clear BX82
    have BX99 := Lib.hid (BX83.out.below hb95)
    clear BX83
    have BX100 := Lib.hid (BX84.out.below hb95)
    clear BX84
    have HB101 := Lib.hid (HB85.out.trans (hb95.mono HB85.out.size))
    have BX102 : Hid (BoxAt w93 w73.heap.size s86 A87 n88 d89 C90 m91 f92 (toldR (q1 * q2))) := Lib.hid (by rw [hw93]; exact BoxAt.new HV77.out _)
    clear hv75 hb76 hw93 hb95
    obtain ⟨x103, x104, x105⟩ := BX97.out.1
    obtain ⟨x106, x107, x108⟩ := BX96.out.1
    rw [HW94.out] at x103 x104 x105 x106 x107 x108
    go_wp2_with fail
    rw [← HW94.out]
    clear x103 x104 x105 x106 x107 x108
    refine (mulQ _ _ _ _ w93 ⟨BX97.out.2, FB.out⟩ ⟨BX96.out.2, FA.out⟩).mono ?_
    rintro e w109 ⟨v110, rfl, hv111, hb112⟩
    have HV113 := Lib.hid hv111
    have BX116 := Lib.hid (BX96.out.below hb112)
    clear BX96
    have BX117 := Lib.hid (BX97.out.below hb112)
    clear BX97
    have BX118 := Lib.hid (BX98.out.below hb112)
    clear BX98
    have BX119 := Lib.hid (BX99.out.below hb112)
    clear BX99
    have BX120 := Lib.hid (BX100.out.below hb112)
    clear BX100
    have BX121 := Lib.hid (BX102.out.below hb112)
    clear BX102
    have HB122 := Lib.hid (HB101.out.trans (hb112.mono HB101.out.size))
    obtain ⟨s123, A124, n125, d126, C127, m128, f129, rfl⟩ := hv111.shape
    obtain ⟨er114, her114⟩ : ∃ e, e = toldE (q2 * q1) := ⟨_, rfl⟩
    rw [← her114]
    have E115 := Lib.hid her114
    clear her114
    obtain ⟨w130, hw130⟩ : ∃ wm, wm = w109.alloc (.cells #[.bool s123, .slice A124 n125 d126, .slice C127 m128 f129] 24) := ⟨_, rfl⟩
    have HW131 := Lib.hid hw130
    have hb132 : Below w109.heap.size w109 w130 := by rw [hw130]; exact below1 ..
    have BX133 := Lib.hid (BX116.out.below hb132)
    clear BX116
    have BX134 := Lib.hid (BX117.out.below hb132)
    clear BX117
    have BX135 := Lib.hid (BX118.out.below hb132)
    clear BX118
    have BX136 := Lib.hid (BX119.out.below hb132)
    clear BX119
    have BX137 := Lib.hid (BX120.out.below hb132)
    clear BX120
    have BX138 := Lib.hid (BX121.out.below hb132)
    clear BX121
    have HB139 := Lib.hid (HB122.out.trans (hb132.mono HB122.out.size))
    have BX140 : Hid (BoxAt w130 w109.heap.size s123 A124 n125 d126 C127 m128 f129 (toldR (q2 * q1))) := Lib.hid (by rw [hw130]; exact BoxAt.new HV113.out _)
    clear hv111 hb112 hw130 hb132
    obtain ⟨x141, x142, x143⟩ := BX136.out.1
    obtain ⟨x144, x145, x146⟩ := BX137.out.1
    rw [HW131.out] at x141 x142 x143 x144 x145 x146
    go_wp2_with fail
    rw [← HW131.out]
    clear x141 x142 x143 x144 x145 x146
    refine (likeV _ _ _ _ _ _ w130 E13.out E45.out (q_a1 q1 q2) BX136.out.2 BX137.out.2).mono ?_
    rintro e w147 ⟨rfl, hb148⟩
    have BX149 := Lib.hid (BX133.out.below hb148)
    clear BX133
    have BX150 := Lib.hid (BX134.out.below hb148)
    clear BX134
    have BX151 := Lib.hid (BX135.out.below hb148)
    clear BX135
    have BX152 := Lib.hid (BX136.out.below hb148)
    clear BX136
    have BX153 := Lib.hid (BX137.out.below hb148)
    clear BX137
    have BX154 := Lib.hid (BX138.out.below hb148)
    clear BX138
    have BX155 := Lib.hid (BX140.out.below hb148)
    clear BX140
    have HB156 := Lib.hid (HB139.out.trans (hb148.mono HB139.out.size))
    clear hb148
    obtain ⟨x157, x158, x159⟩ := BX154.out.1
    obtain ⟨x160, x161, x162⟩ := BX155.out.1
    go_wp2_with fail
    clear x157 x158 x159 x160 x161 x162
    refine (likeV _ _ _ _ _ _ w147 E79.out E115.out (q_m1 q1 q2) BX154.out.2 BX155.out.2).mono ?_
    rintro e w163 ⟨rfl, hb164⟩
    have BX165 := Lib.hid (BX149.out.below hb164)
    clear BX149
    have BX166 := Lib.hid (BX150.out.below hb164)
    clear BX150
    have BX167 := Lib.hid (BX151.out.below hb164)
    clear BX151
    have BX168 := Lib.hid (BX152.out.below hb164)
    clear BX152
    have BX169 := Lib.hid (BX153.out.below hb164)
    clear BX153
    have BX170 := Lib.hid (BX154.out.below hb164)
    clear BX154
    have BX171 := Lib.hid (BX155.out.below hb164)
    clear BX155
    have HB172 := Lib.hid (HB156.out.trans (hb164.mono HB156.out.size))
    clear hb164
    obtain ⟨x173, x174, x175⟩ := BX166.out.1
    obtain ⟨x176, x177, x178⟩ := BX167.out.1
    go_wp2_with fail
    clear x173 x174 x175 x176 x177 x178
    refine (addQ _ _ _ _ w163 ⟨BX166.out.2, FB.out⟩ ⟨BX167.out.2, FC.out⟩).mono ?_
    rintro e w179 ⟨v180, rfl, hv181, hb182⟩
    have HV183 := Lib.hid hv181
    have BX186 := Lib.hid (BX165.out.below hb182)
    clear BX165
    have BX187 := Lib.hid (BX166.out.below hb182)
    clear BX166
    have BX188 := Lib.hid (BX167.out.below hb182)
    clear BX167
    have BX189 := Lib.hid (BX168.out.below hb182)
    clear BX168
    have BX190 := Lib.hid (BX169.out.below hb182)
    clear BX169
    have BX191 := Lib.hid (BX170.out.below hb182)
    clear BX170
    have BX192 := Lib.hid (BX171.out.below hb182)
    clear BX171
    have HB193 := Lib.hid (HB172.out.trans (hb182.mono HB172.out.size))
    obtain ⟨s194, A195, n196, d197, C198, m199, f200, rfl⟩ := hv181.shape
    obtain ⟨er184, her184⟩ : ∃ e, e = toldE (q2 + q3) := ⟨_, rfl⟩
    rw [← her184]
    have E185 := Lib.hid her184
    clear her184
    obtain ⟨w201, hw201⟩ : ∃ wm, wm = w179.alloc (.cells #[.bool s194, .slice A195 n196 d197, .slice C198 m199 f200] 24) := ⟨_, rfl⟩
    have HW202 := Lib.hid hw201
    have hb203 : Below w179.heap.size w179 w201 := by rw [hw201]; exact below1 ..
    have BX204 := Lib.hid (BX186.out.below hb203)
    clear BX186
    have BX205 := Lib.hid (BX187.out.below hb203)
    clear BX187
    have BX206 := Lib.hid (BX188.out.below hb203)
    clear BX188
    have BX207 := Lib.hid (BX189.out.below hb203)
    clear BX189
    have BX208 := Lib.hid (BX190.out.below hb203)
    clear BX190
    have BX209 := Lib.hid (BX191.out.below hb203)
    clear BX191
    have BX210 := Lib.hid (BX192.out.below hb203)
    clear BX192
    have HB211 := Lib.hid (HB193.out.trans (hb203.mono HB193.out.size))
    have BX212 : Hid (BoxAt w201 w179.heap.size s194 A195 n196 d197 C198 m199 f200 (toldR (q2 + q3))) := Lib.hid (by rw [hw201]; exact BoxAt.new HV183.out _)
    clear hv181 hb182 hw201 hb203
    by_cases hf213 : fits (q1 + q2)
    · have F214 := Lib.hid hf213
      have z215 := (e_fits E13.out hf213).1
      have y216 := (e_fits E13.out hf213).2
      clear hf213
      by_cases hf217 : fits (q2 + q3)
      · have F218 := Lib.hid hf217
        have z219 := (e_fits E185.out hf217).1
        have y220 := (e_fits E185.out hf217).2
        clear hf217
        obtain ⟨x221, x222, x223⟩ := BX207.out.1
        obtain ⟨x224, x225, x226⟩ := BX206.out.1
        rw [HW202.out] at x221 x222 x223 x224 x225 x226
        go_wp2_with fail
        rw [← HW202.out]
        clear x221 x222 x223 x224 x225 x226
        refine (addQ _ _ _ _ w201 (atT BX207.out.2 F214.out) ⟨BX206.out.2, FC.out⟩).mono ?_
        rintro e w227 ⟨v228, rfl, hv229, hb230⟩
        have HV231 := Lib.hid hv229
        have BX234 := Lib.hid (BX204.out.below hb230)
        clear BX204
        have BX235 := Lib.hid (BX205.out.below hb230)
        clear BX205
        have BX236 := Lib.hid (BX206.out.below hb230)
        clear BX206
        have BX237 := Lib.hid (BX207.out.below hb230)
        clear BX207
        have BX238 := Lib.hid (BX208.out.below hb230)
        clear BX208
        have BX239 := Lib.hid (BX209.out.below hb230)
        clear BX209
        have BX240 := Lib.hid (BX210.out.below hb230)
        clear BX210
        have BX241 := Lib.hid (BX212.out.below hb230)
        clear BX212
        have HB242 := Lib.hid (HB211.out.trans (hb230.mono HB211.out.size))
        obtain ⟨s243, A244, n245, d246, C247, m248, f249, rfl⟩ := hv229.shape
        obtain ⟨er232, her232⟩ : ∃ e, e = toldE ((q1 + q2) + q3) := ⟨_, rfl⟩
        rw [← her232]
        have E233 := Lib.hid her232
        clear her232
        obtain ⟨w250, hw250⟩ : ∃ wm, wm = w227.alloc (.cells #[.bool s243, .slice A244 n245 d246, .slice C247 m248 f249] 24) := ⟨_, rfl⟩
        have HW251 := Lib.hid hw250
        have hb252 : Below w227.heap.size w227 w250 := by rw [hw250]; exact below1 ..
        have BX253 := Lib.hid (BX234.out.below hb252)
        clear BX234
        have BX254 := Lib.hid (BX235.out.below hb252)
        clear BX235
        have BX255 := Lib.hid (BX236.out.below hb252)
        clear BX236
        have BX256 := Lib.hid (BX237.out.below hb252)
        clear BX237
        have BX257 := Lib.hid (BX238.out.below hb252)
        clear BX238
        have BX258 := Lib.hid (BX239.out.below hb252)
        clear BX239
        have BX259 := Lib.hid (BX240.out.below hb252)
        clear BX240
        have BX260 := Lib.hid (BX241.out.below hb252)
        clear BX241
        have HB261 := Lib.hid (HB242.out.trans (hb252.mono HB242.out.size))
        have BX262 : Hid (BoxAt w250 w227.heap.size s243 A244 n245 d246 C247 m248 f249 (toldR ((q1 + q2) + q3))) := Lib.hid (by rw [hw250]; exact BoxAt.new HV231.out _)
        clear hv229 hb230 hw250 hb252
        obtain ⟨x263, x264, x265⟩ := BX253.out.1
        obtain ⟨x266, x267, x268⟩ := BX260.out.1
        rw [HW251.out] at x263 x264 x265 x266 x267 x268
        go_wp2_with fail
        rw [← HW251.out]
        clear x263 x264 x265 x266 x267 x268
        refine (addQ _ _ _ _ w250 ⟨BX253.out.2, FA.out⟩ (atT BX260.out.2 F218.out)).mono ?_
        rintro e w269 ⟨v270, rfl, hv271, hb272⟩
        have HV273 := Lib.hid hv271
        have BX276 := Lib.hid (BX253.out.below hb272)
        clear BX253
        have BX277 := Lib.hid (BX254.out.below hb272)
        clear BX254
        have BX278 := Lib.hid (BX255.out.below hb272)
        clear BX255
        have BX279 := Lib.hid (BX256.out.below hb272)
        clear BX256
        have BX280 := Lib.hid (BX257.out.below hb272)
        clear BX257
        have BX281 := Lib.hid (BX258.out.below hb272)
        clear BX258
        have BX282 := Lib.hid (BX259.out.below hb272)
        clear BX259
        have BX283 := Lib.hid (BX260.out.below hb272)
        clear BX260
        have BX284 := Lib.hid (BX262.out.below hb272)
        clear BX262
        have HB285 := Lib.hid (HB261.out.trans (hb272.mono HB261.out.size))
        obtain ⟨s286, A287, n288, d289, C290, m291, f292, rfl⟩ := hv271.shape
        obtain ⟨er274, her274⟩ : ∃ e, e = toldE (q1 + (q2 + q3)) := ⟨_, rfl⟩
        rw [← her274]
        have E275 := Lib.hid her274
        clear her274
        obtain ⟨w293, hw293⟩ : ∃ wm, wm = w269.alloc (.cells #[.bool s286, .slice A287 n288 d289, .slice C290 m291 f292] 24) := ⟨_, rfl⟩
        have HW294 := Lib.hid hw293
        have hb295 : Below w269.heap.size w269 w293 := by rw [hw293]; exact below1 ..
        have BX296 := Lib.hid (BX276.out.below hb295)
        clear BX276
        have BX297 := Lib.hid (BX277.out.below hb295)
        clear BX277
        have BX298 := Lib.hid (BX278.out.below hb295)
        clear BX278
        have BX299 := Lib.hid (BX279.out.below hb295)
        clear BX279
        have BX300 := Lib.hid (BX280.out.below hb295)
        clear BX280
        have BX301 := Lib.hid (BX281.out.below hb295)
        clear BX281
        have BX302 := Lib.hid (BX282.out.below hb295)
        clear BX282
        have BX303 := Lib.hid (BX283.out.below hb295)
        clear BX283
        have BX304 := Lib.hid (BX284.out.below hb295)
        clear BX284
        have HB305 := Lib.hid (HB285.out.trans (hb295.mono HB285.out.size))
        have BX306 : Hid (BoxAt w293 w269.heap.size s286 A287 n288 d289 C290 m291 f292 (toldR (q1 + (q2 + q3)))) := Lib.hid (by rw [hw293]; exact BoxAt.new HV273.out _)
        clear hv271 hb272 hw293 hb295
        obtain ⟨x307, x308, x309⟩ := BX299.out.1
        obtain ⟨x310, x311, x312⟩ := BX297.out.1
        rw [HW294.out] at x307 x308 x309 x310 x311 x312
        go_wp2_with fail
        rw [← HW294.out]
        clear x307 x308 x309 x310 x311 x312
        refine (subQ _ _ _ _ w293 (atT BX299.out.2 F214.out) ⟨BX297.out.2, FB.out⟩).mono ?_
        rintro e w313 ⟨v314, rfl, hv315, hb316⟩
        have HV317 := Lib.hid hv315
        have BX320 := Lib.hid (BX296.out.below hb316)
        clear BX296
        have BX321 := Lib.hid (BX297.out.below hb316)
        clear BX297
        have BX322 := Lib.hid (BX298.out.below hb316)
        clear BX298
        have BX323 := Lib.hid (BX299.out.below hb316)
        clear BX299
        have BX324 := Lib.hid (BX300.out.below hb316)
        clear BX300
        have BX325 := Lib.hid (BX301.out.below hb316)
        clear BX301
        have BX326 := Lib.hid (BX302.out.below hb316)
        clear BX302
        have BX327 := Lib.hid (BX303.out.below hb316)
        clear BX303
        have BX328 := Lib.hid (BX304.out.below hb316)
        clear BX304
        have BX329 := Lib.hid (BX306.out.below hb316)
        clear BX306
        have HB330 := Lib.hid (HB305.out.trans (hb316.mono HB305.out.size))
        obtain ⟨s331, A332, n333, d334, C335, m336, f337, rfl⟩ := hv315.shape
        obtain ⟨er318, her318⟩ : ∃ e, e = toldE ((q1 + q2) - q2) := ⟨_, rfl⟩
        rw [← her318]
        have E319 := Lib.hid her318
        clear her318
        obtain ⟨w338, hw338⟩ : ∃ wm, wm = w313.alloc (.cells #[.bool s331, .slice A332 n333 d334, .slice C335 m336 f337] 24) := ⟨_, rfl⟩
        have HW339 := Lib.hid hw338
        have hb340 : Below w313.heap.size w313 w338 := by rw [hw338]; exact below1 ..
        have BX341 := Lib.hid (BX320.out.below hb340)
        clear BX320
        have BX342 := Lib.hid (BX321.out.below hb340)
        clear BX321
        have BX343 := Lib.hid (BX322.out.below hb340)
        clear BX322
        have BX344 := Lib.hid (BX323.out.below hb340)
        clear BX323
        have BX345 := Lib.hid (BX324.out.below hb340)
        clear BX324
        have BX346 := Lib.hid (BX325.out.below hb340)
        clear BX325
        have BX347 := Lib.hid (BX326.out.below hb340)
        clear BX326
        have BX348 := Lib.hid (BX327.out.below hb340)
        clear BX327
        have BX349 := Lib.hid (BX328.out.below hb340)
        clear BX328
        have BX350 := Lib.hid (BX329.out.below hb340)
        clear BX329
        have HB351 := Lib.hid (HB330.out.trans (hb340.mono HB330.out.size))
        have BX352 : Hid (BoxAt w338 w313.heap.size s331 A332 n333 d334 C335 m336 f337 (toldR ((q1 + q2) - q2))) := Lib.hid (by rw [hw338]; exact BoxAt.new HV317.out _)
        clear hv315 hb316 hw338 hb340
        obtain ⟨x353, x354, x355⟩ := BX349.out.1
        obtain ⟨x356, x357, x358⟩ := BX350.out.1
        rw [HW339.out] at x353 x354 x355 x356 x357 x358
        go_wp2_with fail
        rw [← HW339.out]
        clear x353 x354 x355 x356 x357 x358
        refine (likeV _ _ _ _ _ _ w338 E233.out E275.out (q_a2 q1 q2 q3) BX349.out.2 BX350.out.2).mono ?_
        rintro e w359 ⟨rfl, hb360⟩
        have BX361 := Lib.hid (BX341.out.below hb360)
        clear BX341
        have BX362 := Lib.hid (BX342.out.below hb360)
        clear BX342
        have BX363 := Lib.hid (BX343.out.below hb360)
        clear BX343
        have BX364 := Lib.hid (BX344.out.below hb360)
        clear BX344
        have BX365 := Lib.hid (BX345.out.below hb360)
        clear BX345
        have BX366 := Lib.hid (BX346.out.below hb360)
        clear BX346
        have BX367 := Lib.hid (BX347.out.below hb360)
        clear BX347
        have BX368 := Lib.hid (BX348.out.below hb360)
        clear BX348
        have BX369 := Lib.hid (BX349.out.below hb360)
        clear BX349
        have BX370 := Lib.hid (BX350.out.below hb360)
        clear BX350
        have BX371 := Lib.hid (BX352.out.below hb360)
        clear BX352
        have HB372 := Lib.hid (HB351.out.trans (hb360.mono HB351.out.size))
        clear hb360
        obtain ⟨x373, x374, x375⟩ := BX371.out.1
        obtain ⟨x376, x377, x378⟩ := BX361.out.1
        go_wp2_with fail
        clear x373 x374 x375 x376 x377 x378
        refine (likeV0 _ _ _ _ _ w359 E319.out (q_s1 q1 q2) FA.out BX371.out.2 BX361.out.2).mono ?_
        rintro e w379 ⟨rfl, hb380⟩
        have BX381 := Lib.hid (BX361.out.below hb380)
        clear BX361
        have BX382 := Lib.hid (BX362.out.below hb380)
        clear BX362
        have BX383 := Lib.hid (BX363.out.below hb380)
        clear BX363
        have BX384 := Lib.hid (BX364.out.below hb380)
        clear BX364
        have BX385 := Lib.hid (BX365.out.below hb380)
        clear BX365
        have BX386 := Lib.hid (BX366.out.below hb380)
        clear BX366
        have BX387 := Lib.hid (BX367.out.below hb380)
        clear BX367
        have BX388 := Lib.hid (BX368.out.below hb380)
        clear BX368
        have BX389 := Lib.hid (BX369.out.below hb380)
        clear BX369
        have BX390 := Lib.hid (BX370.out.below hb380)
        clear BX370
        have BX391 := Lib.hid (BX371.out.below hb380)
        clear BX371
        have HB392 := Lib.hid (HB372.out.trans (hb380.mono HB372.out.size))
        clear hb380
        obtain ⟨x393, x394, x395⟩ := BX381.out.1
        obtain ⟨x396, x397, x398⟩ := BX388.out.1
        go_wp2_with fail
        clear x393 x394 x395 x396 x397 x398
        refine (mulQ _ _ _ _ w379 ⟨BX381.out.2, FA.out⟩ (atT BX388.out.2 F218.out)).mono ?_
        rintro e w399 ⟨v400, rfl, hv401, hb402⟩
        have HV403 := Lib.hid hv401
        have BX406 := Lib.hid (BX381.out.below hb402)
        clear BX381
        have BX407 := Lib.hid (BX382.out.below hb402)
        clear BX382
        have BX408 := Lib.hid (BX383.out.below hb402)
        clear BX383
        have BX409 := Lib.hid (BX384.out.below hb402)
        clear BX384
        have BX410 := Lib.hid (BX385.out.below hb402)
        clear BX385
        have BX411 := Lib.hid (BX386.out.below hb402)
        clear BX386
        have BX412 := Lib.hid (BX387.out.below hb402)
        clear BX387
        have BX413 := Lib.hid (BX388.out.below hb402)
        clear BX388
        have BX414 := Lib.hid (BX389.out.below hb402)
        clear BX389
        have BX415 := Lib.hid (BX390.out.below hb402)
        clear BX390
        have BX416 := Lib.hid (BX391.out.below hb402)
        clear BX391
        have HB417 := Lib.hid (HB392.out.trans (hb402.mono HB392.out.size))
        obtain ⟨s418, A419, n420, d421, C422, m423, f424, rfl⟩ := hv401.shape
        obtain ⟨er404, her404⟩ : ∃ e, e = toldE (q1 * (q2 + q3)) := ⟨_, rfl⟩
        rw [← her404]
        have E405 := Lib.hid her404
        clear her404
        obtain ⟨w425, hw425⟩ : ∃ wm, wm = w399.alloc (.cells #[.bool s418, .slice A419 n420 d421, .slice C422 m423 f424] 24) := ⟨_, rfl⟩
        have HW426 := Lib.hid hw425
        have hb427 : Below w399.heap.size w399 w425 := by rw [hw425]; exact below1 ..
        have BX428 := Lib.hid (BX406.out.below hb427)
        clear BX406
        have BX429 := Lib.hid (BX407.out.below hb427)
        clear BX407
        have BX430 := Lib.hid (BX408.out.below hb427)
        clear BX408
        have BX431 := Lib.hid (BX409.out.below hb427)
        clear BX409
        have BX432 := Lib.hid (BX410.out.below hb427)
        clear BX410
        have BX433 := Lib.hid (BX411.out.below hb427)
        clear BX411
        have BX434 := Lib.hid (BX412.out.below hb427)
        clear BX412
        have BX435 := Lib.hid (BX413.out.below hb427)
        clear BX413
        have BX436 := Lib.hid (BX414.out.below hb427)
        clear BX414
        have BX437 := Lib.hid (BX415.out.below hb427)
        clear BX415
        have BX438 := Lib.hid (BX416.out.below hb427)
        clear BX416
        have HB439 := Lib.hid (HB417.out.trans (hb427.mono HB417.out.size))
        have BX440 : Hid (BoxAt w425 w399.heap.size s418 A419 n420 d421 C422 m423 f424 (toldR (q1 * (q2 + q3)))) := Lib.hid (by rw [hw425]; exact BoxAt.new HV403.out _)
        clear hv401 hb402 hw425 hb427
        obtain ⟨x441, x442, x443⟩ := BX428.out.1
        obtain ⟨x444, x445, x446⟩ := BX430.out.1
        rw [HW426.out] at x441 x442 x443 x444 x445 x446
        go_wp2_with fail
        rw [← HW426.out]
        clear x441 x442 x443 x444 x445 x446
        refine (mulQ _ _ _ _ w425 ⟨BX428.out.2, FA.out⟩ ⟨BX430.out.2, FC.out⟩).mono ?_
        rintro e w447 ⟨v448, rfl, hv449, hb450⟩
        have HV451 := Lib.hid hv449
        have BX454 := Lib.hid (BX428.out.below hb450)
        clear BX428
        have BX455 := Lib.hid (BX429.out.below hb450)
        clear BX429
        have BX456 := Lib.hid (BX430.out.below hb450)
        clear BX430
        have BX457 := Lib.hid (BX431.out.below hb450)
        clear BX431
        have BX458 := Lib.hid (BX432.out.below hb450)
        clear BX432
        have BX459 := Lib.hid (BX433.out.below hb450)
        clear BX433
        have BX460 := Lib.hid (BX434.out.below hb450)
        clear BX434
        have BX461 := Lib.hid (BX435.out.below hb450)
        clear BX435
        have BX462 := Lib.hid (BX436.out.below hb450)
        clear BX436
        have BX463 := Lib.hid (BX437.out.below hb450)
        clear BX437
        have BX464 := Lib.hid (BX438.out.below hb450)
        clear BX438
        have BX465 := Lib.hid (BX440.out.below hb450)
        clear BX440
        have HB466 := Lib.hid (HB439.out.trans (hb450.mono HB439.out.size))
        obtain ⟨s467, A468, n469, d470, C471, m472, f473, rfl⟩ := hv449.shape
        obtain ⟨er452, her452⟩ : ∃ e, e = toldE (q1 * q3) := ⟨_, rfl⟩
        rw [← her452]
        have E453 := Lib.hid her452
        clear her452
        obtain ⟨w474, hw474⟩ : ∃ wm, wm = w447.alloc (.cells #[.bool s467, .slice A468 n469 d470, .slice C471 m472 f473] 24) := ⟨_, rfl⟩
        have HW475 := Lib.hid hw474
        have hb476 : Below w447.heap.size w447 w474 := by rw [hw474]; exact below1 ..
        have BX477 := Lib.hid (BX454.out.below hb476)
        clear BX454
        have BX478 := Lib.hid (BX455.out.below hb476)
        clear BX455
        have BX479 := Lib.hid (BX456.out.below hb476)
        clear BX456
        have BX480 := Lib.hid (BX457.out.below hb476)
        clear BX457
        have BX481 := Lib.hid (BX458.out.below hb476)
        clear BX458
        have BX482 := Lib.hid (BX459.out.below hb476)
        clear BX459
        have BX483 := Lib.hid (BX460.out.below hb476)
        clear BX460
        have BX484 := Lib.hid (BX461.out.below hb476)
        clear BX461
        have BX485 := Lib.hid (BX462.out.below hb476)
        clear BX462
        have BX486 := Lib.hid (BX463.out.below hb476)
        clear BX463
        have BX487 := Lib.hid (BX464.out.below hb476)
        clear BX464
        have BX488 := Lib.hid (BX465.out.below hb476)
        clear BX465
        have HB489 := Lib.hid (HB466.out.trans (hb476.mono HB466.out.size))
        have BX490 : Hid (BoxAt w474 w447.heap.size s467 A468 n469 d470 C471 m472 f473 (toldR (q1 * q3))) := Lib.hid (by rw [hw474]; exact BoxAt.new HV451.out _)
        clear hv449 hb450 hw474 hb476
        by_cases hf491 : fits (q1 * q2)
        · have F492 := Lib.hid hf491
          have z493 := (e_fits E79.out hf491).1
          have y494 := (e_fits E79.out hf491).2
          clear hf491
          by_cases hf495 : fits (q1 * q3)
          · have F496 := Lib.hid hf495
            have z497 := (e_fits E453.out hf495).1
            have y498 := (e_fits E453.out hf495).2
            clear hf495
            obtain ⟨x499, x500, x501⟩ := BX482.out.1
            obtain ⟨x502, x503, x504⟩ := BX490.out.1
            rw [HW475.out] at x499 x500 x501 x502 x503 x504
            go_wp2_with fail
            rw [← HW475.out]
            clear x499 x500 x501 x502 x503 x504
            refine (addQ _ _ _ _ w474 (atT BX482.out.2 F492.out) (atT BX490.out.2 F496.out)).mono ?_
            rintro e w505 ⟨v506, rfl, hv507, hb508⟩
            have HV509 := Lib.hid hv507
            have BX512 := Lib.hid (BX477.out.below hb508)
            clear BX477
            have BX513 := Lib.hid (BX478.out.below hb508)
            clear BX478
            have BX514 := Lib.hid (BX479.out.below hb508)
            clear BX479
            have BX515 := Lib.hid (BX480.out.below hb508)
            clear BX480
            have BX516 := Lib.hid (BX481.out.below hb508)
            clear BX481
            have BX517 := Lib.hid (BX482.out.below hb508)
            clear BX482
            have BX518 := Lib.hid (BX483.out.below hb508)
            clear BX483
            have BX519 := Lib.hid (BX484.out.below hb508)
            clear BX484
            have BX520 := Lib.hid (BX485.out.below hb508)
            clear BX485
            have BX521 := Lib.hid (BX486.out.below hb508)
            clear BX486
            have BX522 := Lib.hid (BX487.out.below hb508)
            clear BX487
            have BX523 := Lib.hid (BX488.out.below hb508)
            clear BX488
            have BX524 := Lib.hid (BX490.out.below hb508)
            clear BX490
            have HB525 := Lib.hid (HB489.out.trans (hb508.mono HB489.out.size))
            obtain ⟨s526, A527, n528, d529, C530, m531, f532, rfl⟩ := hv507.shape
            obtain ⟨er510, her510⟩ : ∃ e, e = toldE ((q1 * q2) + (q1 * q3)) := ⟨_, rfl⟩
            rw [← her510]
            have E511 := Lib.hid her510
            clear her510
            obtain ⟨w533, hw533⟩ : ∃ wm, wm = w505.alloc (.cells #[.bool s526, .slice A527 n528 d529, .slice C530 m531 f532] 24) := ⟨_, rfl⟩
            have HW534 := Lib.hid hw533
            have hb535 : Below w505.heap.size w505 w533 := by rw [hw533]; exact below1 ..
            have BX536 := Lib.hid (BX512.out.below hb535)
            clear BX512
            have BX537 := Lib.hid (BX513.out.below hb535)
            clear BX513
            have BX538 := Lib.hid (BX514.out.below hb535)
            clear BX514
            have BX539 := Lib.hid (BX515.out.below hb535)
            clear BX515
            have BX540 := Lib.hid (BX516.out.below hb535)
            clear BX516
            have BX541 := Lib.hid (BX517.out.below hb535)
            clear BX517
            have BX542 := Lib.hid (BX518.out.below hb535)
            clear BX518
            have BX543 := Lib.hid (BX519.out.below hb535)
            clear BX519
            have BX544 := Lib.hid (BX520.out.below hb535)
            clear BX520
            have BX545 := Lib.hid (BX521.out.below hb535)
            clear BX521
            have BX546 := Lib.hid (BX522.out.below hb535)
            clear BX522
            have BX547 := Lib.hid (BX523.out.below hb535)
            clear BX523
            have BX548 := Lib.hid (BX524.out.below hb535)
            clear BX524
            have HB549 := Lib.hid (HB525.out.trans (hb535.mono HB525.out.size))
            have BX550 : Hid (BoxAt w533 w505.heap.size s526 A527 n528 d529 C530 m531 f532 (toldR ((q1 * q2) + (q1 * q3)))) := Lib.hid (by rw [hw533]; exact BoxAt.new HV509.out _)
            clear hv507 hb508 hw533 hb535
            obtain ⟨x551, x552, x553⟩ := BX547.out.1
            obtain ⟨x554, x555, x556⟩ := BX550.out.1
            rw [HW534.out] at x551 x552 x553 x554 x555 x556
            go_wp2_with fail
            rw [← HW534.out]
            clear x551 x552 x553 x554 x555 x556
            refine (likeV _ _ _ _ _ _ w533 E405.out E511.out (q_d1 q1 q2 q3) BX547.out.2 BX550.out.2).mono ?_
            rintro e w557 ⟨rfl, hb558⟩
            have BX559 := Lib.hid (BX536.out.below hb558)
            clear BX536
            have BX560 := Lib.hid (BX537.out.below hb558)
            clear BX537
            have BX561 := Lib.hid (BX538.out.below hb558)
            clear BX538
            have BX562 := Lib.hid (BX539.out.below hb558)
            clear BX539
            have BX563 := Lib.hid (BX540.out.below hb558)
            clear BX540
            have BX564 := Lib.hid (BX541.out.below hb558)
            clear BX541
            have BX565 := Lib.hid (BX542.out.below hb558)
            clear BX542
            have BX566 := Lib.hid (BX543.out.below hb558)
            clear BX543
            have BX567 := Lib.hid (BX544.out.below hb558)
            clear BX544
            have BX568 := Lib.hid (BX545.out.below hb558)
            clear BX545
            have BX569 := Lib.hid (BX546.out.below hb558)
            clear BX546
            have BX570 := Lib.hid (BX547.out.below hb558)
            clear BX547
            have BX571 := Lib.hid (BX548.out.below hb558)
            clear BX548
            have BX572 := Lib.hid (BX550.out.below hb558)
            clear BX550
            have HB573 := Lib.hid (HB549.out.trans (hb558.mono HB549.out.size))
            clear hb558
            by_cases hz : q2 = 0
            · have HZ := Lib.hid hz
              clear hz
              obtain ⟨x574, x575, x576⟩ := BX564.out.1
              obtain ⟨x577, x578, x579⟩ := BX560.out.1
              go_wp2_with fail
              clear x574 x575 x576 x577 x578 x579
              refine (divQ _ _ _ _ w557 (atT BX564.out.2 F492.out) ⟨BX560.out.2, FB.out⟩).mono ?_
              intro e w580 hp
              rw [if_pos HZ.out] at hp
              obtain ⟨vd, rfl, hvd, hbd⟩ := hp
              have HV581 := Lib.hid hvd
              have BX584 := Lib.hid (BX559.out.below hbd)
              clear BX559
              have BX585 := Lib.hid (BX560.out.below hbd)
              clear BX560
              have BX586 := Lib.hid (BX561.out.below hbd)
              clear BX561
              have BX587 := Lib.hid (BX562.out.below hbd)
              clear BX562
              have BX588 := Lib.hid (BX563.out.below hbd)
              clear BX563
              have BX589 := Lib.hid (BX564.out.below hbd)
              clear BX564
              have BX590 := Lib.hid (BX565.out.below hbd)
              clear BX565
              have BX591 := Lib.hid (BX566.out.below hbd)
              clear BX566
              have BX592 := Lib.hid (BX567.out.below hbd)
              clear BX567
              have BX593 := Lib.hid (BX568.out.below hbd)
              clear BX568
              have BX594 := Lib.hid (BX569.out.below hbd)
              clear BX569
              have BX595 := Lib.hid (BX570.out.below hbd)
              clear BX570
              have BX596 := Lib.hid (BX571.out.below hbd)
              clear BX571
              have BX597 := Lib.hid (BX572.out.below hbd)
              clear BX572
              have HB598 := Lib.hid (HB573.out.trans (hbd.mono HB573.out.size))
              obtain ⟨s599, A600, n601, d602, C603, m604, f605, rfl⟩ := hvd.shape
              obtain ⟨w606, hw606⟩ : ∃ wm, wm = w580.alloc (.cells #[.bool s599, .slice A600 n601 d602, .slice C603 m604 f605] 24) := ⟨_, rfl⟩
              have HW607 := Lib.hid hw606
              have hb608 : Below w580.heap.size w580 w606 := by rw [hw606]; exact below1 ..
              have BX609 := Lib.hid (BX584.out.below hb608)
              clear BX584
              have BX610 := Lib.hid (BX585.out.below hb608)
              clear BX585
              have BX611 := Lib.hid (BX586.out.below hb608)
              clear BX586
              have BX612 := Lib.hid (BX587.out.below hb608)
              clear BX587
              have BX613 := Lib.hid (BX588.out.below hb608)
              clear BX588
              have BX614 := Lib.hid (BX589.out.below hb608)
              clear BX589
              have BX615 := Lib.hid (BX590.out.below hb608)
              clear BX590
              have BX616 := Lib.hid (BX591.out.below hb608)
              clear BX591
              have BX617 := Lib.hid (BX592.out.below hb608)
              clear BX592
              have BX618 := Lib.hid (BX593.out.below hb608)
              clear BX593
              have BX619 := Lib.hid (BX594.out.below hb608)
              clear BX594
              have BX620 := Lib.hid (BX595.out.below hb608)
              clear BX595
              have BX621 := Lib.hid (BX596.out.below hb608)
              clear BX596
              have BX622 := Lib.hid (BX597.out.below hb608)
              clear BX597
              have HB623 := Lib.hid (HB598.out.trans (hb608.mono HB598.out.size))
              have BX624 : Hid (BoxAt w606 w580.heap.size s599 A600 n601 d602 C603 m604 f605 (noR)) := Lib.hid (by rw [hw606]; exact BoxAt.new HV581.out _)
              clear hvd hbd hw606 hb608
              obtain ⟨x625, x626, x627⟩ := BX610.out.1
              rw [HW607.out] at x625 x626 x627
              go_wp2_with fail
              rw [← HW607.out]
              clear x625 x626 x627
              refine (signQ _ _ w606 ⟨BX610.out.2, FB.out⟩).mono ?_
              rintro e w628 ⟨rfl, hb629⟩
              have BX630 := Lib.hid (BX609.out.below hb629)
              clear BX609
              have BX631 := Lib.hid (BX610.out.below hb629)
              clear BX610
              have BX632 := Lib.hid (BX611.out.below hb629)
              clear BX611
              have BX633 := Lib.hid (BX612.out.below hb629)
              clear BX612
              have BX634 := Lib.hid (BX613.out.below hb629)
              clear BX613
              have BX635 := Lib.hid (BX614.out.below hb629)
              clear BX614
              have BX636 := Lib.hid (BX615.out.below hb629)
              clear BX615
              have BX637 := Lib.hid (BX616.out.below hb629)
              clear BX616
              have BX638 := Lib.hid (BX617.out.below hb629)
              clear BX617
              have BX639 := Lib.hid (BX618.out.below hb629)
              clear BX618
              have BX640 := Lib.hid (BX619.out.below hb629)
              clear BX619
              have BX641 := Lib.hid (BX620.out.below hb629)
              clear BX620
              have BX642 := Lib.hid (BX621.out.below hb629)
              clear BX621
              have BX643 := Lib.hid (BX622.out.below hb629)
              clear BX622
              have BX644 := Lib.hid (BX624.out.below hb629)
              clear BX624
              have HB645 := Lib.hid (HB623.out.trans (hb629.mono HB623.out.size))
              clear hb629
              rw [show sgnI q2.num = 0 by rw [HZ.out]; rfl]
              obtain rfl : m604 = 0 := noR_den HV581.out
              obtain ⟨x646, x647, x648⟩ := BX644.out.1
              go_wp2_with fail
              clear x646 x647 x648
              refine (awake_law w628 (HW.out.below HB645.out)).mono ?_
              rintro e w649 ⟨rfl, hb650⟩
              have HB651 := Lib.hid (HB645.out.trans (hb650.mono HB645.out.size))
              clear hb650
              go_wp2_with fail
              go_ret
              exact ⟨rfl, HB651.out⟩
            · have HZ := Lib.hid hz
              have hsg : (sgnI q2.num == 0) = false := by rw [sgnI_zero]; simp [num_zero, hz]
              clear hz
              obtain ⟨x652, x653, x654⟩ := BX564.out.1
              obtain ⟨x655, x656, x657⟩ := BX560.out.1
              go_wp2_with fail
              clear x652 x653 x654 x655 x656 x657
              refine (divQ _ _ _ _ w557 (atT BX564.out.2 F492.out) ⟨BX560.out.2, FB.out⟩).mono ?_
              intro e w658 hp
              rw [if_neg HZ.out] at hp
              obtain ⟨vd, rfl, hvd, hbd⟩ := hp
              have HV659 := Lib.hid hvd
              have BX662 := Lib.hid (BX559.out.below hbd)
              clear BX559
              have BX663 := Lib.hid (BX560.out.below hbd)
              clear BX560
              have BX664 := Lib.hid (BX561.out.below hbd)
              clear BX561
              have BX665 := Lib.hid (BX562.out.below hbd)
              clear BX562
              have BX666 := Lib.hid (BX563.out.below hbd)
              clear BX563
              have BX667 := Lib.hid (BX564.out.below hbd)
              clear BX564
              have BX668 := Lib.hid (BX565.out.below hbd)
              clear BX565
              have BX669 := Lib.hid (BX566.out.below hbd)
              clear BX566
              have BX670 := Lib.hid (BX567.out.below hbd)
              clear BX567
              have BX671 := Lib.hid (BX568.out.below hbd)
              clear BX568
              have BX672 := Lib.hid (BX569.out.below hbd)
              clear BX569
              have BX673 := Lib.hid (BX570.out.below hbd)
              clear BX570
              have BX674 := Lib.hid (BX571.out.below hbd)
              clear BX571
              have BX675 := Lib.hid (BX572.out.below hbd)
              clear BX572
              have HB676 := Lib.hid (HB573.out.trans (hbd.mono HB573.out.size))
              obtain ⟨s677, A678, n679, d680, C681, m682, f683, rfl⟩ := hvd.shape
              obtain ⟨er660, her660⟩ : ∃ e, e = toldE (q1 * q2 / q2) := ⟨_, rfl⟩
              rw [← her660]
              have E661 := Lib.hid her660
              clear her660
              obtain ⟨w684, hw684⟩ : ∃ wm, wm = w658.alloc (.cells #[.bool s677, .slice A678 n679 d680, .slice C681 m682 f683] 24) := ⟨_, rfl⟩
              have HW685 := Lib.hid hw684
              have hb686 : Below w658.heap.size w658 w684 := by rw [hw684]; exact below1 ..
              have BX687 := Lib.hid (BX662.out.below hb686)
              clear BX662
              have BX688 := Lib.hid (BX663.out.below hb686)
              clear BX663
              have BX689 := Lib.hid (BX664.out.below hb686)
              clear BX664
              have BX690 := Lib.hid (BX665.out.below hb686)
              clear BX665
              have BX691 := Lib.hid (BX666.out.below hb686)
              clear BX666
              have BX692 := Lib.hid (BX667.out.below hb686)
              clear BX667
              have BX693 := Lib.hid (BX668.out.below hb686)
              clear BX668
              have BX694 := Lib.hid (BX669.out.below hb686)
              clear BX669
              have BX695 := Lib.hid (BX670.out.below hb686)
              clear BX670
              have BX696 := Lib.hid (BX671.out.below hb686)
              clear BX671
              have BX697 := Lib.hid (BX672.out.below hb686)
              clear BX672
              have BX698 := Lib.hid (BX673.out.below hb686)
              clear BX673
              have BX699 := Lib.hid (BX674.out.below hb686)
              clear BX674
              have BX700 := Lib.hid (BX675.out.below hb686)
              clear BX675
              have HB701 := Lib.hid (HB676.out.trans (hb686.mono HB676.out.size))
              have BX702 : Hid (BoxAt w684 w658.heap.size s677 A678 n679 d680 C681 m682 f683 (toldR (q1 * q2 / q2))) := Lib.hid (by rw [hw684]; exact BoxAt.new HV659.out _)
              clear hvd hbd hw684 hb686
              obtain ⟨x703, x704, x705⟩ := BX688.out.1
              rw [HW685.out] at x703 x704 x705
              go_wp2_with fail
              rw [← HW685.out]
              clear x703 x704 x705
              refine (signQ _ _ w684 ⟨BX688.out.2, FB.out⟩).mono ?_
              rintro e w706 ⟨rfl, hb707⟩
              have BX708 := Lib.hid (BX687.out.below hb707)
              clear BX687
              have BX709 := Lib.hid (BX688.out.below hb707)
              clear BX688
              have BX710 := Lib.hid (BX689.out.below hb707)
              clear BX689
              have BX711 := Lib.hid (BX690.out.below hb707)
              clear BX690
              have BX712 := Lib.hid (BX691.out.below hb707)
              clear BX691
              have BX713 := Lib.hid (BX692.out.below hb707)
              clear BX692
              have BX714 := Lib.hid (BX693.out.below hb707)
              clear BX693
              have BX715 := Lib.hid (BX694.out.below hb707)
              clear BX694
              have BX716 := Lib.hid (BX695.out.below hb707)
              clear BX695
              have BX717 := Lib.hid (BX696.out.below hb707)
              clear BX696
              have BX718 := Lib.hid (BX697.out.below hb707)
              clear BX697
              have BX719 := Lib.hid (BX698.out.below hb707)
              clear BX698
              have BX720 := Lib.hid (BX699.out.below hb707)
              clear BX699
              have BX721 := Lib.hid (BX700.out.below hb707)
              clear BX700
              have BX722 := Lib.hid (BX702.out.below hb707)
              clear BX702
              have HB723 := Lib.hid (HB701.out.trans (hb707.mono HB701.out.size))
              clear hb707
              obtain ⟨x724, x725, x726⟩ := BX722.out.1
              obtain ⟨x727, x728, x729⟩ := BX708.out.1
              go_wp2_with fail
              clear x724 x725 x726 x727 x728 x729
              refine (likeV0 _ _ _ _ _ w706 E661.out (q_v1 q1 q2 HZ.out) FA.out BX722.out.2 BX708.out.2).mono ?_
              rintro e w730 ⟨rfl, hb731⟩
              have BX732 := Lib.hid (BX708.out.below hb731)
              clear BX708
              have BX733 := Lib.hid (BX709.out.below hb731)
              clear BX709
              have BX734 := Lib.hid (BX710.out.below hb731)
              clear BX710
              have BX735 := Lib.hid (BX711.out.below hb731)
              clear BX711
              have BX736 := Lib.hid (BX712.out.below hb731)
              clear BX712
              have BX737 := Lib.hid (BX713.out.below hb731)
              clear BX713
              have BX738 := Lib.hid (BX714.out.below hb731)
              clear BX714
              have BX739 := Lib.hid (BX715.out.below hb731)
              clear BX715
              have BX740 := Lib.hid (BX716.out.below hb731)
              clear BX716
              have BX741 := Lib.hid (BX717.out.below hb731)
              clear BX717
              have BX742 := Lib.hid (BX718.out.below hb731)
              clear BX718
              have BX743 := Lib.hid (BX719.out.below hb731)
              clear BX719
              have BX744 := Lib.hid (BX720.out.below hb731)
              clear BX720
              have BX745 := Lib.hid (BX721.out.below hb731)
              clear BX721
              have BX746 := Lib.hid (BX722.out.below hb731)
              clear BX722
              have HB747 := Lib.hid (HB723.out.trans (hb731.mono HB723.out.size))
              clear hb731
              go_wp2_with fail
              refine (awake_law w730 (HW.out.below HB747.out)).mono ?_
              rintro e w748 ⟨rfl, hb749⟩
              have HB750 := Lib.hid (HB747.out.trans (hb749.mono HB747.out.size))
              clear hb749
              go_wp2_with fail
              go_ret
              exact ⟨rfl, HB750.out⟩
          · have F751 := Lib.hid hf495
            have z752 := (e_long E453.out hf495).1
            have y753 := (e_long E453.out hf495).2.1
            clear hf495
            by_cases hz : q2 = 0
            · have HZ := Lib.hid hz
              clear hz
              obtain ⟨x754, x755, x756⟩ := BX482.out.1
              obtain ⟨x757, x758, x759⟩ := BX478.out.1
              rw [HW475.out] at x754 x755 x756 x757 x758 x759
              go_wp2_with fail
              rw [← HW475.out]
              clear x754 x755 x756 x757 x758 x759
              refine (divQ _ _ _ _ w474 (atT BX482.out.2 F492.out) ⟨BX478.out.2, FB.out⟩).mono ?_
              intro e w760 hp
              rw [if_pos HZ.out] at hp
              obtain ⟨vd, rfl, hvd, hbd⟩ := hp
              have HV761 := Lib.hid hvd
              have BX764 := Lib.hid (BX477.out.below hbd)
              clear BX477
              have BX765 := Lib.hid (BX478.out.below hbd)
              clear BX478
              have BX766 := Lib.hid (BX479.out.below hbd)
              clear BX479
              have BX767 := Lib.hid (BX480.out.below hbd)
              clear BX480
              have BX768 := Lib.hid (BX481.out.below hbd)
              clear BX481
              have BX769 := Lib.hid (BX482.out.below hbd)
              clear BX482
              have BX770 := Lib.hid (BX483.out.below hbd)
              clear BX483
              have BX771 := Lib.hid (BX484.out.below hbd)
              clear BX484
              have BX772 := Lib.hid (BX485.out.below hbd)
              clear BX485
              have BX773 := Lib.hid (BX486.out.below hbd)
              clear BX486
              have BX774 := Lib.hid (BX487.out.below hbd)
              clear BX487
              have BX775 := Lib.hid (BX488.out.below hbd)
              clear BX488
              have BX776 := Lib.hid (BX490.out.below hbd)
              clear BX490
              have HB777 := Lib.hid (HB489.out.trans (hbd.mono HB489.out.size))
              obtain ⟨s778, A779, n780, d781, C782, m783, f784, rfl⟩ := hvd.shape
              obtain ⟨w785, hw785⟩ : ∃ wm, wm = w760.alloc (.cells #[.bool s778, .slice A779 n780 d781, .slice C782 m783 f784] 24) := ⟨_, rfl⟩
              have HW786 := Lib.hid hw785
              have hb787 : Below w760.heap.size w760 w785 := by rw [hw785]; exact below1 ..
              have BX788 := Lib.hid (BX764.out.below hb787)
              clear BX764
              have BX789 := Lib.hid (BX765.out.below hb787)
              clear BX765
              have BX790 := Lib.hid (BX766.out.below hb787)
              clear BX766
              have BX791 := Lib.hid (BX767.out.below hb787)
              clear BX767
              have BX792 := Lib.hid (BX768.out.below hb787)
              clear BX768
              have BX793 := Lib.hid (BX769.out.below hb787)
              clear BX769
              have BX794 := Lib.hid (BX770.out.below hb787)
              clear BX770
              have BX795 := Lib.hid (BX771.out.below hb787)
              clear BX771
              have BX796 := Lib.hid (BX772.out.below hb787)
              clear BX772
              have BX797 := Lib.hid (BX773.out.below hb787)
              clear BX773
              have BX798 := Lib.hid (BX774.out.below hb787)
              clear BX774
              have BX799 := Lib.hid (BX775.out.below hb787)
              clear BX775
              have BX800 := Lib.hid (BX776.out.below hb787)
              clear BX776
              have HB801 := Lib.hid (HB777.out.trans (hb787.mono HB777.out.size))
              have BX802 : Hid (BoxAt w785 w760.heap.size s778 A779 n780 d781 C782 m783 f784 (noR)) := Lib.hid (by rw [hw785]; exact BoxAt.new HV761.out _)
              clear hvd hbd hw785 hb787
              obtain ⟨x803, x804, x805⟩ := BX789.out.1
              rw [HW786.out] at x803 x804 x805
              go_wp2_with fail
              rw [← HW786.out]
              clear x803 x804 x805
              refine (signQ _ _ w785 ⟨BX789.out.2, FB.out⟩).mono ?_
              rintro e w806 ⟨rfl, hb807⟩
              have BX808 := Lib.hid (BX788.out.below hb807)
              clear BX788
              have BX809 := Lib.hid (BX789.out.below hb807)
              clear BX789
              have BX810 := Lib.hid (BX790.out.below hb807)
              clear BX790
              have BX811 := Lib.hid (BX791.out.below hb807)
              clear BX791
              have BX812 := Lib.hid (BX792.out.below hb807)
              clear BX792
              have BX813 := Lib.hid (BX793.out.below hb807)
              clear BX793
              have BX814 := Lib.hid (BX794.out.below hb807)
              clear BX794
              have BX815 := Lib.hid (BX795.out.below hb807)
              clear BX795
              have BX816 := Lib.hid (BX796.out.below hb807)
              clear BX796
              have BX817 := Lib.hid (BX797.out.below hb807)
              clear BX797
              have BX818 := Lib.hid (BX798.out.below hb807)
              clear BX798
              have BX819 := Lib.hid (BX799.out.below hb807)
              clear BX799
              have BX820 := Lib.hid (BX800.out.below hb807)
              clear BX800
              have BX821 := Lib.hid (BX802.out.below hb807)
              clear BX802
              have HB822 := Lib.hid (HB801.out.trans (hb807.mono HB801.out.size))
              clear hb807
              rw [show sgnI q2.num = 0 by rw [HZ.out]; rfl]
              obtain rfl : m783 = 0 := noR_den HV761.out
              obtain ⟨x823, x824, x825⟩ := BX821.out.1
              go_wp2_with fail
              clear x823 x824 x825
              refine (awake_law w806 (HW.out.below HB822.out)).mono ?_
              rintro e w826 ⟨rfl, hb827⟩
              have HB828 := Lib.hid (HB822.out.trans (hb827.mono HB822.out.size))
              clear hb827
              go_wp2_with fail
              go_ret
              exact ⟨rfl, HB828.out⟩
            · have HZ := Lib.hid hz
              have hsg : (sgnI q2.num == 0) = false := by rw [sgnI_zero]; simp [num_zero, hz]
              clear hz
              obtain ⟨x829, x830, x831⟩ := BX482.out.1
              obtain ⟨x832, x833, x834⟩ := BX478.out.1
              rw [HW475.out] at x829 x830 x831 x832 x833 x834
              go_wp2_with fail
              rw [← HW475.out]
              clear x829 x830 x831 x832 x833 x834
              refine (divQ _ _ _ _ w474 (atT BX482.out.2 F492.out) ⟨BX478.out.2, FB.out⟩).mono ?_
              intro e w835 hp
              rw [if_neg HZ.out] at hp
              obtain ⟨vd, rfl, hvd, hbd⟩ := hp
              have HV836 := Lib.hid hvd
              have BX839 := Lib.hid (BX477.out.below hbd)
              clear BX477
              have BX840 := Lib.hid (BX478.out.below hbd)
              clear BX478
              have BX841 := Lib.hid (BX479.out.below hbd)
              clear BX479
              have BX842 := Lib.hid (BX480.out.below hbd)
              clear BX480
              have BX843 := Lib.hid (BX481.out.below hbd)
              clear BX481
              have BX844 := Lib.hid (BX482.out.below hbd)
              clear BX482
              have BX845 := Lib.hid (BX483.out.below hbd)
              clear BX483
              have BX846 := Lib.hid (BX484.out.below hbd)
              clear BX484
              have BX847 := Lib.hid (BX485.out.below hbd)
              clear BX485
              have BX848 := Lib.hid (BX486.out.below hbd)
              clear BX486
              have BX849 := Lib.hid (BX487.out.below hbd)
              clear BX487
              have BX850 := Lib.hid (BX488.out.below hbd)
              clear BX488
              have BX851 := Lib.hid (BX490.out.below hbd)
              clear BX490
              have HB852 := Lib.hid (HB489.out.trans (hbd.mono HB489.out.size))
              obtain ⟨s853, A854, n855, d856, C857, m858, f859, rfl⟩ := hvd.shape
              obtain ⟨er837, her837⟩ : ∃ e, e = toldE (q1 * q2 / q2) := ⟨_, rfl⟩
              rw [← her837]
              have E838 := Lib.hid her837
              clear her837
              obtain ⟨w860, hw860⟩ : ∃ wm, wm = w835.alloc (.cells #[.bool s853, .slice A854 n855 d856, .slice C857 m858 f859] 24) := ⟨_, rfl⟩
              have HW861 := Lib.hid hw860
              have hb862 : Below w835.heap.size w835 w860 := by rw [hw860]; exact below1 ..
              have BX863 := Lib.hid (BX839.out.below hb862)
              clear BX839
              have BX864 := Lib.hid (BX840.out.below hb862)
              clear BX840
              have BX865 := Lib.hid (BX841.out.below hb862)
              clear BX841
              have BX866 := Lib.hid (BX842.out.below hb862)
              clear BX842
              have BX867 := Lib.hid (BX843.out.below hb862)
              clear BX843
              have BX868 := Lib.hid (BX844.out.below hb862)
              clear BX844
              have BX869 := Lib.hid (BX845.out.below hb862)
              clear BX845
              have BX870 := Lib.hid (BX846.out.below hb862)
              clear BX846
              have BX871 := Lib.hid (BX847.out.below hb862)
              clear BX847
              have BX872 := Lib.hid (BX848.out.below hb862)
              clear BX848
              have BX873 := Lib.hid (BX849.out.below hb862)
              clear BX849
              have BX874 := Lib.hid (BX850.out.below hb862)
              clear BX850
              have BX875 := Lib.hid (BX851.out.below hb862)
              clear BX851
              have HB876 := Lib.hid (HB852.out.trans (hb862.mono HB852.out.size))
              have BX877 : Hid (BoxAt w860 w835.heap.size s853 A854 n855 d856 C857 m858 f859 (toldR (q1 * q2 / q2))) := Lib.hid (by rw [hw860]; exact BoxAt.new HV836.out _)
              clear hvd hbd hw860 hb862
              obtain ⟨x878, x879, x880⟩ := BX864.out.1
              rw [HW861.out] at x878 x879 x880
              go_wp2_with fail
              rw [← HW861.out]
              clear x878 x879 x880
              refine (signQ _ _ w860 ⟨BX864.out.2, FB.out⟩).mono ?_
              rintro e w881 ⟨rfl, hb882⟩
              have BX883 := Lib.hid (BX863.out.below hb882)
              clear BX863
              have BX884 := Lib.hid (BX864.out.below hb882)
              clear BX864
              have BX885 := Lib.hid (BX865.out.below hb882)
              clear BX865
              have BX886 := Lib.hid (BX866.out.below hb882)
              clear BX866
              have BX887 := Lib.hid (BX867.out.below hb882)
              clear BX867
              have BX888 := Lib.hid (BX868.out.below hb882)
              clear BX868
              have BX889 := Lib.hid (BX869.out.below hb882)
              clear BX869
              have BX890 := Lib.hid (BX870.out.below hb882)
              clear BX870
              have BX891 := Lib.hid (BX871.out.below hb882)
              clear BX871
              have BX892 := Lib.hid (BX872.out.below hb882)
              clear BX872
              have BX893 := Lib.hid (BX873.out.below hb882)
              clear BX873
              have BX894 := Lib.hid (BX874.out.below hb882)
              clear BX874
              have BX895 := Lib.hid (BX875.out.below hb882)
              clear BX875
              have BX896 := Lib.hid (BX877.out.below hb882)
              clear BX877
              have HB897 := Lib.hid (HB876.out.trans (hb882.mono HB876.out.size))
              clear hb882
              obtain ⟨x898, x899, x900⟩ := BX896.out.1
              obtain ⟨x901, x902, x903⟩ := BX883.out.1
              go_wp2_with fail
              clear x898 x899 x900 x901 x902 x903
              refine (likeV0 _ _ _ _ _ w881 E838.out (q_v1 q1 q2 HZ.out) FA.out BX896.out.2 BX883.out.2).mono ?_
              rintro e w904 ⟨rfl, hb905⟩
              have BX906 := Lib.hid (BX883.out.below hb905)
              clear BX883
              have BX907 := Lib.hid (BX884.out.below hb905)
              clear BX884
              have BX908 := Lib.hid (BX885.out.below hb905)
              clear BX885
              have BX909 := Lib.hid (BX886.out.below hb905)
              clear BX886
              have BX910 := Lib.hid (BX887.out.below hb905)
              clear BX887
              have BX911 := Lib.hid (BX888.out.below hb905)
              clear BX888
              have BX912 := Lib.hid (BX889.out.below hb905)
              clear BX889
              have BX913 := Lib.hid (BX890.out.below hb905)
              clear BX890
              have BX914 := Lib.hid (BX891.out.below hb905)
              clear BX891
              have BX915 := Lib.hid (BX892.out.below hb905)
              clear BX892
              have BX916 := Lib.hid (BX893.out.below hb905)
              clear BX893
              have BX917 := Lib.hid (BX894.out.below hb905)
              clear BX894
              have BX918 := Lib.hid (BX895.out.below hb905)
              clear BX895
              have BX919 := Lib.hid (BX896.out.below hb905)
              clear BX896
              have HB920 := Lib.hid (HB897.out.trans (hb905.mono HB897.out.size))
              clear hb905
              go_wp2_with fail
              refine (awake_law w904 (HW.out.below HB920.out)).mono ?_
              rintro e w921 ⟨rfl, hb922⟩
              have HB923 := Lib.hid (HB920.out.trans (hb922.mono HB920.out.size))
              clear hb922
              go_wp2_with fail
              go_ret
              exact ⟨rfl, HB923.out⟩
        · have F924 := Lib.hid hf491
          have z925 := (e_long E79.out hf491).1
          have y926 := (e_long E79.out hf491).2.1
          clear hf491
          go_wp2_with fail
          rw [← HW475.out]
          refine (awake_law w474 (HW.out.below HB489.out)).mono ?_
          rintro e w927 ⟨rfl, hb928⟩
          have HB929 := Lib.hid (HB489.out.trans (hb928.mono HB489.out.size))
          clear hb928
          go_wp2_with fail
          go_ret
          exact ⟨rfl, HB929.out⟩
      · have F930 := Lib.hid hf217
        have z931 := (e_long E185.out hf217).1
        have y932 := (e_long E185.out hf217).2.1
        clear hf217
        by_cases hf933 : fits (q1 * q2)
        · have F934 := Lib.hid hf933
          have z935 := (e_fits E79.out hf933).1
          have y936 := (e_fits E79.out hf933).2
          clear hf933
          by_cases hz : q2 = 0
          · have HZ := Lib.hid hz
            clear hz
            obtain ⟨x937, x938, x939⟩ := BX209.out.1
            obtain ⟨x940, x941, x942⟩ := BX205.out.1
            rw [HW202.out] at x937 x938 x939 x940 x941 x942
            go_wp2_with fail
            rw [← HW202.out]
            clear x937 x938 x939 x940 x941 x942
            refine (divQ _ _ _ _ w201 (atT BX209.out.2 F934.out) ⟨BX205.out.2, FB.out⟩).mono ?_
            intro e w943 hp
            rw [if_pos HZ.out] at hp
            obtain ⟨vd, rfl, hvd, hbd⟩ := hp
            have HV944 := Lib.hid hvd
            have BX947 := Lib.hid (BX204.out.below hbd)
            clear BX204
            have BX948 := Lib.hid (BX205.out.below hbd)
            clear BX205
            have BX949 := Lib.hid (BX206.out.below hbd)
            clear BX206
            have BX950 := Lib.hid (BX207.out.below hbd)
            clear BX207
            have BX951 := Lib.hid (BX208.out.below hbd)
            clear BX208
            have BX952 := Lib.hid (BX209.out.below hbd)
            clear BX209
            have BX953 := Lib.hid (BX210.out.below hbd)
            clear BX210
            have BX954 := Lib.hid (BX212.out.below hbd)
            clear BX212
            have HB955 := Lib.hid (HB211.out.trans (hbd.mono HB211.out.size))
            obtain ⟨s956, A957, n958, d959, C960, m961, f962, rfl⟩ := hvd.shape
            obtain ⟨w963, hw963⟩ : ∃ wm, wm = w943.alloc (.cells #[.bool s956, .slice A957 n958 d959, .slice C960 m961 f962] 24) := ⟨_, rfl⟩
            have HW964 := Lib.hid hw963
            have hb965 : Below w943.heap.size w943 w963 := by rw [hw963]; exact below1 ..
            have BX966 := Lib.hid (BX947.out.below hb965)
            clear BX947
            have BX967 := Lib.hid (BX948.out.below hb965)
            clear BX948
            have BX968 := Lib.hid (BX949.out.below hb965)
            clear BX949
            have BX969 := Lib.hid (BX950.out.below hb965)
            clear BX950
            have BX970 := Lib.hid (BX951.out.below hb965)
            clear BX951
            have BX971 := Lib.hid (BX952.out.below hb965)
            clear BX952
            have BX972 := Lib.hid (BX953.out.below hb965)
            clear BX953
            have BX973 := Lib.hid (BX954.out.below hb965)
            clear BX954
            have HB974 := Lib.hid (HB955.out.trans (hb965.mono HB955.out.size))
            have BX975 : Hid (BoxAt w963 w943.heap.size s956 A957 n958 d959 C960 m961 f962 (noR)) := Lib.hid (by rw [hw963]; exact BoxAt.new HV944.out _)
            clear hvd hbd hw963 hb965
            obtain ⟨x976, x977, x978⟩ := BX967.out.1
            rw [HW964.out] at x976 x977 x978
            go_wp2_with fail
            rw [← HW964.out]
            clear x976 x977 x978
            refine (signQ _ _ w963 ⟨BX967.out.2, FB.out⟩).mono ?_
            rintro e w979 ⟨rfl, hb980⟩
            have BX981 := Lib.hid (BX966.out.below hb980)
            clear BX966
            have BX982 := Lib.hid (BX967.out.below hb980)
            clear BX967
            have BX983 := Lib.hid (BX968.out.below hb980)
            clear BX968
            have BX984 := Lib.hid (BX969.out.below hb980)
            clear BX969
            have BX985 := Lib.hid (BX970.out.below hb980)
            clear BX970
            have BX986 := Lib.hid (BX971.out.below hb980)
            clear BX971
            have BX987 := Lib.hid (BX972.out.below hb980)
            clear BX972
            have BX988 := Lib.hid (BX973.out.below hb980)
            clear BX973
            have BX989 := Lib.hid (BX975.out.below hb980)
            clear BX975
            have HB990 := Lib.hid (HB974.out.trans (hb980.mono HB974.out.size))
            clear hb980
            rw [show sgnI q2.num = 0 by rw [HZ.out]; rfl]
            obtain rfl : m961 = 0 := noR_den HV944.out
            obtain ⟨x991, x992, x993⟩ := BX989.out.1
            go_wp2_with fail
            clear x991 x992 x993
            refine (awake_law w979 (HW.out.below HB990.out)).mono ?_
            rintro e w994 ⟨rfl, hb995⟩
            have HB996 := Lib.hid (HB990.out.trans (hb995.mono HB990.out.size))
            clear hb995
            go_wp2_with fail
            go_ret
            exact ⟨rfl, HB996.out⟩
          · have HZ := Lib.hid hz
            have hsg : (sgnI q2.num == 0) = false := by rw [sgnI_zero]; simp [num_zero, hz]
            clear hz
            obtain ⟨x997, x998, x999⟩ := BX209.out.1
            obtain ⟨x1000, x1001, x1002⟩ := BX205.out.1
            rw [HW202.out] at x997 x998 x999 x1000 x1001 x1002
            go_wp2_with fail
            rw [← HW202.out]
            clear x997 x998 x999 x1000 x1001 x1002
            refine (divQ _ _ _ _ w201 (atT BX209.out.2 F934.out) ⟨BX205.out.2, FB.out⟩).mono ?_
            intro e w1003 hp
            rw [if_neg HZ.out] at hp
            obtain ⟨vd, rfl, hvd, hbd⟩ := hp
            have HV1004 := Lib.hid hvd
            have BX1007 := Lib.hid (BX204.out.below hbd)
            clear BX204
            have BX1008 := Lib.hid (BX205.out.below hbd)
            clear BX205
            have BX1009 := Lib.hid (BX206.out.below hbd)
            clear BX206
            have BX1010 := Lib.hid (BX207.out.below hbd)
            clear BX207
            have BX1011 := Lib.hid (BX208.out.below hbd)
            clear BX208
            have BX1012 := Lib.hid (BX209.out.below hbd)
            clear BX209
            have BX1013 := Lib.hid (BX210.out.below hbd)
            clear BX210
            have BX1014 := Lib.hid (BX212.out.below hbd)
            clear BX212
            have HB1015 := Lib.hid (HB211.out.trans (hbd.mono HB211.out.size))
            obtain ⟨s1016, A1017, n1018, d1019, C1020, m1021, f1022, rfl⟩ := hvd.shape
            obtain ⟨er1005, her1005⟩ : ∃ e, e = toldE (q1 * q2 / q2) := ⟨_, rfl⟩
            rw [← her1005]
            have E1006 := Lib.hid her1005
            clear her1005
            obtain ⟨w1023, hw1023⟩ : ∃ wm, wm = w1003.alloc (.cells #[.bool s1016, .slice A1017 n1018 d1019, .slice C1020 m1021 f1022] 24) := ⟨_, rfl⟩
            have HW1024 := Lib.hid hw1023
            have hb1025 : Below w1003.heap.size w1003 w1023 := by rw [hw1023]; exact below1 ..
            have BX1026 := Lib.hid (BX1007.out.below hb1025)
            clear BX1007
            have BX1027 := Lib.hid (BX1008.out.below hb1025)
            clear BX1008
            have BX1028 := Lib.hid (BX1009.out.below hb1025)
            clear BX1009
            have BX1029 := Lib.hid (BX1010.out.below hb1025)
            clear BX1010
            have BX1030 := Lib.hid (BX1011.out.below hb1025)
            clear BX1011
            have BX1031 := Lib.hid (BX1012.out.below hb1025)
            clear BX1012
            have BX1032 := Lib.hid (BX1013.out.below hb1025)
            clear BX1013
            have BX1033 := Lib.hid (BX1014.out.below hb1025)
            clear BX1014
            have HB1034 := Lib.hid (HB1015.out.trans (hb1025.mono HB1015.out.size))
            have BX1035 : Hid (BoxAt w1023 w1003.heap.size s1016 A1017 n1018 d1019 C1020 m1021 f1022 (toldR (q1 * q2 / q2))) := Lib.hid (by rw [hw1023]; exact BoxAt.new HV1004.out _)
            clear hvd hbd hw1023 hb1025
            obtain ⟨x1036, x1037, x1038⟩ := BX1027.out.1
            rw [HW1024.out] at x1036 x1037 x1038
            go_wp2_with fail
            rw [← HW1024.out]
            clear x1036 x1037 x1038
            refine (signQ _ _ w1023 ⟨BX1027.out.2, FB.out⟩).mono ?_
            rintro e w1039 ⟨rfl, hb1040⟩
            have BX1041 := Lib.hid (BX1026.out.below hb1040)
            clear BX1026
            have BX1042 := Lib.hid (BX1027.out.below hb1040)
            clear BX1027
            have BX1043 := Lib.hid (BX1028.out.below hb1040)
            clear BX1028
            have BX1044 := Lib.hid (BX1029.out.below hb1040)
            clear BX1029
            have BX1045 := Lib.hid (BX1030.out.below hb1040)
            clear BX1030
            have BX1046 := Lib.hid (BX1031.out.below hb1040)
            clear BX1031
            have BX1047 := Lib.hid (BX1032.out.below hb1040)
            clear BX1032
            have BX1048 := Lib.hid (BX1033.out.below hb1040)
            clear BX1033
            have BX1049 := Lib.hid (BX1035.out.below hb1040)
            clear BX1035
            have HB1050 := Lib.hid (HB1034.out.trans (hb1040.mono HB1034.out.size))
            clear hb1040
            obtain ⟨x1051, x1052, x1053⟩ := BX1049.out.1
            obtain ⟨x1054, x1055, x1056⟩ := BX1041.out.1
            go_wp2_with fail
            clear x1051 x1052 x1053 x1054 x1055 x1056
            refine (likeV0 _ _ _ _ _ w1039 E1006.out (q_v1 q1 q2 HZ.out) FA.out BX1049.out.2 BX1041.out.2).mono ?_
            rintro e w1057 ⟨rfl, hb1058⟩
            have BX1059 := Lib.hid (BX1041.out.below hb1058)
            clear BX1041
            have BX1060 := Lib.hid (BX1042.out.below hb1058)
            clear BX1042
            have BX1061 := Lib.hid (BX1043.out.below hb1058)
            clear BX1043
            have BX1062 := Lib.hid (BX1044.out.below hb1058)
            clear BX1044
            have BX1063 := Lib.hid (BX1045.out.below hb1058)
            clear BX1045
            have BX1064 := Lib.hid (BX1046.out.below hb1058)
            clear BX1046
            have BX1065 := Lib.hid (BX1047.out.below hb1058)
            clear BX1047
            have BX1066 := Lib.hid (BX1048.out.below hb1058)
            clear BX1048
            have BX1067 := Lib.hid (BX1049.out.below hb1058)
            clear BX1049
            have HB1068 := Lib.hid (HB1050.out.trans (hb1058.mono HB1050.out.size))
            clear hb1058
            go_wp2_with fail
            refine (awake_law w1057 (HW.out.below HB1068.out)).mono ?_
            rintro e w1069 ⟨rfl, hb1070⟩
            have HB1071 := Lib.hid (HB1068.out.trans (hb1070.mono HB1068.out.size))
            clear hb1070
            go_wp2_with fail
            go_ret
            exact ⟨rfl, HB1071.out⟩
        · have F1072 := Lib.hid hf933
          have z1073 := (e_long E79.out hf933).1
          have y1074 := (e_long E79.out hf933).2.1
          clear hf933
          go_wp2_with fail
          rw [← HW202.out]
          refine (awake_law w201 (HW.out.below HB211.out)).mono ?_
          rintro e w1075 ⟨rfl, hb1076⟩
          have HB1077 := Lib.hid (HB211.out.trans (hb1076.mono HB211.out.size))
          clear hb1076
          go_wp2_with fail
          go_ret
          exact ⟨rfl, HB1077.out⟩
    · have F1078 := Lib.hid hf213
      have z1079 := (e_long E13.out hf213).1
      have y1080 := (e_long E13.out hf213).2.1
      clear hf213
      by_cases hf1081 : fits (q1 * q2)
      · have F1082 := Lib.hid hf1081
        have z1083 := (e_fits E79.out hf1081).1
        have y1084 := (e_fits E79.out hf1081).2
        clear hf1081
        by_cases hz : q2 = 0
        · have HZ := Lib.hid hz
          clear hz
          obtain ⟨x1085, x1086, x1087⟩ := BX209.out.1
          obtain ⟨x1088, x1089, x1090⟩ := BX205.out.1
          rw [HW202.out] at x1085 x1086 x1087 x1088 x1089 x1090
          go_wp2_with fail
          rw [← HW202.out]
          clear x1085 x1086 x1087 x1088 x1089 x1090
          refine (divQ _ _ _ _ w201 (atT BX209.out.2 F1082.out) ⟨BX205.out.2, FB.out⟩).mono ?_
          intro e w1091 hp
          rw [if_pos HZ.out] at hp
          obtain ⟨vd, rfl, hvd, hbd⟩ := hp
          have HV1092 := Lib.hid hvd
          have BX1095 := Lib.hid (BX204.out.below hbd)
          clear BX204
          have BX1096 := Lib.hid (BX205.out.below hbd)
          clear BX205
          have BX1097 := Lib.hid (BX206.out.below hbd)
          clear BX206
          have BX1098 := Lib.hid (BX207.out.below hbd)
          clear BX207
          have BX1099 := Lib.hid (BX208.out.below hbd)
          clear BX208
          have BX1100 := Lib.hid (BX209.out.below hbd)
          clear BX209
          have BX1101 := Lib.hid (BX210.out.below hbd)
          clear BX210
          have BX1102 := Lib.hid (BX212.out.below hbd)
          clear BX212
          have HB1103 := Lib.hid (HB211.out.trans (hbd.mono HB211.out.size))
          obtain ⟨s1104, A1105, n1106, d1107, C1108, m1109, f1110, rfl⟩ := hvd.shape
          obtain ⟨w1111, hw1111⟩ : ∃ wm, wm = w1091.alloc (.cells #[.bool s1104, .slice A1105 n1106 d1107, .slice C1108 m1109 f1110] 24) := ⟨_, rfl⟩
          have HW1112 := Lib.hid hw1111
          have hb1113 : Below w1091.heap.size w1091 w1111 := by rw [hw1111]; exact below1 ..
          have BX1114 := Lib.hid (BX1095.out.below hb1113)
          clear BX1095
          have BX1115 := Lib.hid (BX1096.out.below hb1113)
          clear BX1096
          have BX1116 := Lib.hid (BX1097.out.below hb1113)
          clear BX1097
          have BX1117 := Lib.hid (BX1098.out.below hb1113)
          clear BX1098
          have BX1118 := Lib.hid (BX1099.out.below hb1113)
          clear BX1099
          have BX1119 := Lib.hid (BX1100.out.below hb1113)
          clear BX1100
          have BX1120 := Lib.hid (BX1101.out.below hb1113)
          clear BX1101
          have BX1121 := Lib.hid (BX1102.out.below hb1113)
          clear BX1102
          have HB1122 := Lib.hid (HB1103.out.trans (hb1113.mono HB1103.out.size))
          have BX1123 : Hid (BoxAt w1111 w1091.heap.size s1104 A1105 n1106 d1107 C1108 m1109 f1110 (noR)) := Lib.hid (by rw [hw1111]; exact BoxAt.new HV1092.out _)
          clear hvd hbd hw1111 hb1113
          obtain ⟨x1124, x1125, x1126⟩ := BX1115.out.1
          rw [HW1112.out] at x1124 x1125 x1126
          go_wp2_with fail
          rw [← HW1112.out]
          clear x1124 x1125 x1126
          refine (signQ _ _ w1111 ⟨BX1115.out.2, FB.out⟩).mono ?_
          rintro e w1127 ⟨rfl, hb1128⟩
          have BX1129 := Lib.hid (BX1114.out.below hb1128)
          clear BX1114
          have BX1130 := Lib.hid (BX1115.out.below hb1128)
          clear BX1115
          have BX1131 := Lib.hid (BX1116.out.below hb1128)
          clear BX1116
          have BX1132 := Lib.hid (BX1117.out.below hb1128)
          clear BX1117
          have BX1133 := Lib.hid (BX1118.out.below hb1128)
          clear BX1118
          have BX1134 := Lib.hid (BX1119.out.below hb1128)
          clear BX1119
          have BX1135 := Lib.hid (BX1120.out.below hb1128)
          clear BX1120
          have BX1136 := Lib.hid (BX1121.out.below hb1128)
          clear BX1121
          have BX1137 := Lib.hid (BX1123.out.below hb1128)
          clear BX1123
          have HB1138 := Lib.hid (HB1122.out.trans (hb1128.mono HB1122.out.size))
          clear hb1128
          rw [show sgnI q2.num = 0 by rw [HZ.out]; rfl]
          obtain rfl : m1109 = 0 := noR_den HV1092.out
          obtain ⟨x1139, x1140, x1141⟩ := BX1137.out.1
          go_wp2_with fail
          clear x1139 x1140 x1141
          refine (awake_law w1127 (HW.out.below HB1138.out)).mono ?_
          rintro e w1142 ⟨rfl, hb1143⟩
          have HB1144 := Lib.hid (HB1138.out.trans (hb1143.mono HB1138.out.size))
          clear hb1143
          go_wp2_with fail
          go_ret
          exact ⟨rfl, HB1144.out⟩
        · have HZ := Lib.hid hz
          have hsg : (sgnI q2.num == 0) = false := by rw [sgnI_zero]; simp [num_zero, hz]
          clear hz
          obtain ⟨x1145, x1146, x1147⟩ := BX209.out.1
          obtain ⟨x1148, x1149, x1150⟩ := BX205.out.1
          rw [HW202.out] at x1145 x1146 x1147 x1148 x1149 x1150
          go_wp2_with fail
          rw [← HW202.out]
          clear x1145 x1146 x1147 x1148 x1149 x1150
          refine (divQ _ _ _ _ w201 (atT BX209.out.2 F1082.out) ⟨BX205.out.2, FB.out⟩).mono ?_
          intro e w1151 hp
          rw [if_neg HZ.out] at hp
          obtain ⟨vd, rfl, hvd, hbd⟩ := hp
          have HV1152 := Lib.hid hvd
          have BX1155 := Lib.hid (BX204.out.below hbd)
          clear BX204
          have BX1156 := Lib.hid (BX205.out.below hbd)
          clear BX205
          have BX1157 := Lib.hid (BX206.out.below hbd)
          clear BX206
          have BX1158 := Lib.hid (BX207.out.below hbd)
          clear BX207
          have BX1159 := Lib.hid (BX208.out.below hbd)
          clear BX208
          have BX1160 := Lib.hid (BX209.out.below hbd)
          clear BX209
          have BX1161 := Lib.hid (BX210.out.below hbd)
          clear BX210
          have BX1162 := Lib.hid (BX212.out.below hbd)
          clear BX212
          have HB1163 := Lib.hid (HB211.out.trans (hbd.mono HB211.out.size))
          obtain ⟨s1164, A1165, n1166, d1167, C1168, m1169, f1170, rfl⟩ := hvd.shape
          obtain ⟨er1153, her1153⟩ : ∃ e, e = toldE (q1 * q2 / q2) := ⟨_, rfl⟩
          rw [← her1153]
          have E1154 := Lib.hid her1153
          clear her1153
          obtain ⟨w1171, hw1171⟩ : ∃ wm, wm = w1151.alloc (.cells #[.bool s1164, .slice A1165 n1166 d1167, .slice C1168 m1169 f1170] 24) := ⟨_, rfl⟩
          have HW1172 := Lib.hid hw1171
          have hb1173 : Below w1151.heap.size w1151 w1171 := by rw [hw1171]; exact below1 ..
          have BX1174 := Lib.hid (BX1155.out.below hb1173)
          clear BX1155
          have BX1175 := Lib.hid (BX1156.out.below hb1173)
          clear BX1156
          have BX1176 := Lib.hid (BX1157.out.below hb1173)
          clear BX1157
          have BX1177 := Lib.hid (BX1158.out.below hb1173)
          clear BX1158
          have BX1178 := Lib.hid (BX1159.out.below hb1173)
          clear BX1159
          have BX1179 := Lib.hid (BX1160.out.below hb1173)
          clear BX1160
          have BX1180 := Lib.hid (BX1161.out.below hb1173)
          clear BX1161
          have BX1181 := Lib.hid (BX1162.out.below hb1173)
          clear BX1162
          have HB1182 := Lib.hid (HB1163.out.trans (hb1173.mono HB1163.out.size))
          have BX1183 : Hid (BoxAt w1171 w1151.heap.size s1164 A1165 n1166 d1167 C1168 m1169 f1170 (toldR (q1 * q2 / q2))) := Lib.hid (by rw [hw1171]; exact BoxAt.new HV1152.out _)
          clear hvd hbd hw1171 hb1173
          obtain ⟨x1184, x1185, x1186⟩ := BX1175.out.1
          rw [HW1172.out] at x1184 x1185 x1186
          go_wp2_with fail
          rw [← HW1172.out]
          clear x1184 x1185 x1186
          refine (signQ _ _ w1171 ⟨BX1175.out.2, FB.out⟩).mono ?_
          rintro e w1187 ⟨rfl, hb1188⟩
          have BX1189 := Lib.hid (BX1174.out.below hb1188)
          clear BX1174
          have BX1190 := Lib.hid (BX1175.out.below hb1188)
          clear BX1175
          have BX1191 := Lib.hid (BX1176.out.below hb1188)
          clear BX1176
          have BX1192 := Lib.hid (BX1177.out.below hb1188)
          clear BX1177
          have BX1193 := Lib.hid (BX1178.out.below hb1188)
          clear BX1178
          have BX1194 := Lib.hid (BX1179.out.below hb1188)
          clear BX1179
          have BX1195 := Lib.hid (BX1180.out.below hb1188)
          clear BX1180
          have BX1196 := Lib.hid (BX1181.out.below hb1188)
          clear BX1181
          have BX1197 := Lib.hid (BX1183.out.below hb1188)
          clear BX1183
          have HB1198 := Lib.hid (HB1182.out.trans (hb1188.mono HB1182.out.size))
          clear hb1188
          obtain ⟨x1199, x1200, x1201⟩ := BX1197.out.1
          obtain ⟨x1202, x1203, x1204⟩ := BX1189.out.1
          go_wp2_with fail
          clear x1199 x1200 x1201 x1202 x1203 x1204
          refine (likeV0 _ _ _ _ _ w1187 E1154.out (q_v1 q1 q2 HZ.out) FA.out BX1197.out.2 BX1189.out.2).mono ?_
          rintro e w1205 ⟨rfl, hb1206⟩
          have BX1207 := Lib.hid (BX1189.out.below hb1206)
          clear BX1189
          have BX1208 := Lib.hid (BX1190.out.below hb1206)
          clear BX1190
          have BX1209 := Lib.hid (BX1191.out.below hb1206)
          clear BX1191
          have BX1210 := Lib.hid (BX1192.out.below hb1206)
          clear BX1192
          have BX1211 := Lib.hid (BX1193.out.below hb1206)
          clear BX1193
          have BX1212 := Lib.hid (BX1194.out.below hb1206)
          clear BX1194
          have BX1213 := Lib.hid (BX1195.out.below hb1206)
          clear BX1195
          have BX1214 := Lib.hid (BX1196.out.below hb1206)
          clear BX1196
          have BX1215 := Lib.hid (BX1197.out.below hb1206)
          clear BX1197
          have HB1216 := Lib.hid (HB1198.out.trans (hb1206.mono HB1198.out.size))
          clear hb1206
          go_wp2_with fail
          refine (awake_law w1205 (HW.out.below HB1216.out)).mono ?_
          rintro e w1217 ⟨rfl, hb1218⟩
          have HB1219 := Lib.hid (HB1216.out.trans (hb1218.mono HB1216.out.size))
          clear hb1218
          go_wp2_with fail
          go_ret
          exact ⟨rfl, HB1219.out⟩
      · have F1220 := Lib.hid hf1081
        have z1221 := (e_long E79.out hf1081).1
        have y1222 := (e_long E79.out hf1081).2.1
        clear hf1081
        go_wp2_with fail
        rw [← HW202.out]
        refine (awake_law w201 (HW.out.below HB211.out)).mono ?_
        rintro e w1223 ⟨rfl, hb1224⟩
        have HB1225 := Lib.hid (HB211.out.trans (hb1224.mono HB211.out.size))
        clear hb1224
        go_wp2_with fail
        go_ret
        exact ⟨rfl, HB1225.out⟩

end Go.Proofs.YtjokpfgncmdomaaGreatDoor
