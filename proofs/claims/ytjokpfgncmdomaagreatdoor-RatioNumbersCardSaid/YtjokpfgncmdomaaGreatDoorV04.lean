import Derived.Test.YtjokpfgncmdomaaGreatDoorV03
import Derived.Deep.Cut
import Derived.Deep.DeepCutAuto
set_option linter.unusedSimpArgs false
set_option linter.unusedVariables false
/- girderlaw07.RatioNumbers: the walk (printed by gen_w4.py) -/
namespace Go.Proofs.YtjokpfgncmdomaaGreatDoor
open Go.RowKit Go.Sort

theorem rat_one1 (w : World) (s : Bool) (d : Nat) (hd : d < W64) : RAt (w.alloc (.cells #[.int .u64 (d : Int)] 58)) (.agg #[.bool s, .slice none 0 0, .slice (some ⟨w.heap.size, 0, none⟩) 1 1]) ⟨s, [], [d]⟩ :=
  ⟨_, _, _, _, _, _, rfl, RdE.nil .., rde_blk (blk_new ..) rfl (by simp) rfl rfl, fun _ h => absurd h (by simp), by intro x hx; simp at hx; subst hx; exact hd⟩
theorem dat_one (w : World) (e : Int) : DAt (w.alloc (.cells #[.int .u64 1] 58)) (.agg #[.bool false, .slice (some ⟨w.heap.size, 0, none⟩) 1 1, .int .i64 e]) ⟨false, [1], e⟩ :=
  ⟨_, _, _, rfl, rde_blk (blk_new ..) rfl (by simp) rfl rfl, by intro x hx; simp at hx; subst hx; decide⟩
theorem rightD_one (e : Int) (h1 : -65536 ≤ e) (h2 : e ≤ 65536) : RightD ⟨false, [1], e⟩ :=
  ⟨(show 0 < 1 ∧ 1 ≤ 256 by decide), by intro x hx; simp at hx; omega, by intro x hx; simp at hx; omega, h1, h2⟩

theorem rat_two (w : World) (s : Bool) (a b c : Nat) (ha : a < W64) (hb : b < W64) (hc : c < W64) : RAt ((w.alloc (.cells #[.int .u64 (a : Int)] 58)).alloc (.cells #[.int .u64 (b : Int), .int .u64 (c : Int)] 58)) (.agg #[.bool s, .slice (some ⟨w.heap.size, 0, none⟩) 1 1, .slice (some ⟨w.heap.size + 1, 0, none⟩) 2 2]) ⟨s, [a], [b, c]⟩ :=
  ⟨_, _, _, _, _, _, rfl, (rde_blk (blk_new ..) rfl (by simp) rfl rfl : RdE Lc 1 (w.alloc (.cells #[.int .u64 (a : Int)] 58)) (fun z => z < (w.alloc (.cells #[.int .u64 (a : Int)] 58)).heap.size) (some ⟨w.heap.size, 0, none⟩) 1 [a]).belowL (below1 ..), rde_blk (blk2 w _ _ _) rfl (by simp) rfl rfl, by intro x hx; simp at hx; subst hx; exact ha, by intro x hx; simp at hx; rcases hx with rfl | rfl <;> assumption⟩
theorem rat_two' (w : World) (s : Bool) (a b c : Nat) (ha : a < W64) (hb : b < W64) (hc : c < W64) : RAt ((w.alloc (.cells #[.int .u64 (b : Int), .int .u64 (c : Int)] 58)).alloc (.cells #[.int .u64 (a : Int)] 58)) (.agg #[.bool s, .slice (some ⟨w.heap.size, 0, none⟩) 2 2, .slice (some ⟨w.heap.size + 1, 0, none⟩) 1 1]) ⟨s, [b, c], [a]⟩ :=
  ⟨_, _, _, _, _, _, rfl, (rde_blk (blk_new ..) rfl (by simp) rfl rfl : RdE Lc 1 (w.alloc (.cells #[.int .u64 (b : Int), .int .u64 (c : Int)] 58)) (fun z => z < (w.alloc (.cells #[.int .u64 (b : Int), .int .u64 (c : Int)] 58)).heap.size) (some ⟨w.heap.size, 0, none⟩) 2 [b, c]).belowL (below1 ..), rde_blk (blk2 w _ _ _) rfl (by simp) rfl rfl, by intro x hx; simp at hx; rcases hx with rfl | rfl <;> assumption, by intro x hx; simp at hx; subst hx; exact ha⟩
theorem cell_lt {w : World} {b i : Nat} {v : Value} (h : w.cell? ⟨b, i, none⟩ = some v) : b < w.heap.size := by
  by_cases hb : b < w.heap.size
  · exact hb
  · simp [World.cell?, Array.getElem?_eq_none (Nat.le_of_not_lt hb)] at h
theorem thin_cells : (List.replicate 16 0).flatMap Lc ++ [.int .u64 2251799813685248] = thinRV.den.flatMap Lc := rfl
theorem thin_ldsN : Lds thinRV.num := show ∀ x ∈ thinRV.num, x < W64 by decide +kernel
theorem thin_ldsD : Lds thinRV.den := show ∀ x ∈ thinRV.den, x < W64 by decide +kernel
theorem rde_one (w : World) : RdE Lc 1 (w.alloc (.cells #[.int .u64 1] 58)) (fun z => z < (w.alloc (.cells #[.int .u64 1] 58)).heap.size) (some ⟨w.heap.size, 0, none⟩) 1 [1] := rde_blk (blk_new ..) rfl (by simp) rfl rfl
theorem less_cell {w : World} {s : Bool} {A D : Option Addr} {n c m e : Nat} (h : RAt w (.agg #[.bool s, .slice A n c, .slice D m e]) lessRV) : n = 256 ∧ ∃ b o, A = some ⟨b, o, none⟩ ∧ w.cell? ⟨b, o + 255, none⟩ = some (.int .u64 9223372036854775808) := by
  obtain ⟨A', n', c', D', m', e', hav, hx, -, -, -⟩ := h
  injection hav with hav
  have h1 := congrArg (fun x : Array Value => x[1]?) hav
  simp at h1
  obtain ⟨rfl, rfl, rfl⟩ := h1
  have hn : n = 256 := by rw [← hx.num]; exact less_len.1
  obtain ⟨b, o, rfl, -, hc⟩ := hx.elem Lc.clen less_len.2 (by omega)
  refine ⟨hn, b, o, rfl, ?_⟩
  have h := hc 0 _ rfl
  rw [Nat.mul_one, Nat.add_zero] at h
  exact h

theorem ra1 (w : World) : RAt ((w.alloc (.cells #[.int .u64 1] 58)).alloc (.cells #[.int .u64 0, .int .u64 0] 58)) (.agg #[.bool false, .slice (some ⟨w.heap.size, 0, none⟩) 1 1, .slice (some ⟨w.heap.size + 1, 0, none⟩) 2 2]) ⟨false, [1], [0, 0]⟩ := rat_two w false 1 0 0 (by decide) (by decide) (by decide)
theorem ra2 (w : World) : RAt ((w.alloc (.cells #[.int .u64 6, .int .u64 0] 58)).alloc (.cells #[.int .u64 4] 58)) (.agg #[.bool true, .slice (some ⟨w.heap.size, 0, none⟩) 2 2, .slice (some ⟨w.heap.size + 1, 0, none⟩) 1 1]) ⟨true, [6, 0], [4]⟩ := rat_two' w true 4 6 0 (by decide) (by decide) (by decide)

set_option maxRecDepth 100000 in
set_option maxHeartbeats 32000000 in
theorem numbers_law (w : World) (hw : Laid w) : Calls Tryz.prog 8 #[] w fun e w' => e = .returned (.bool true) ∧ Below w.heap.size w w' := by
  obtain ⟨i0, hi0, hz0, hz1, hz2⟩ := info_parts' info_u64
  have HI0 := Lib.hid (And.intro hi0 (And.intro hz0 (And.intro hz1 hz2)))
  have HW := Lib.hid hw
  clear hw hi0 hz0 hz1 hz2
  go_enter Tryz.func8, Tryz.ntmps8
  go_upto_region 2 with fail
  obtain ⟨w1, hw1⟩ : ∃ w1, w1 = (w.alloc (.cells #[.int .u64 1] 58)).alloc (.cells #[.bool false, .slice none 0 0, .slice (some ⟨w.heap.size, 0, none⟩) 1 1] 24) := ⟨_, rfl⟩
  have HB : Hid (Below w.heap.size w w1) := Lib.hid (by rw [hw1]; exact below2 ..)
  have BXZ : Hid (BoxAt w1 (w.heap.size + 1) false none 0 0 (some ⟨w.heap.size, 0, none⟩) 1 1 zeroRV) := Lib.hid (by
    rw [hw1]
    have h := BoxAt.new (rat_one1 w false 1 (by decide)) 24
    rwa [World.size_alloc] at h)
  rw [← hw1]
  clear hw1
  go_wp2_with fail
  refine (nan_call w1).mono ?_
  rintro e wx ⟨rfl, rfl⟩
  go_wp2_with fail
  refine (of_inf 9221120237041090561 w1 (by decide) (by decide +kernel)).mono ?_
  rintro e w2 ⟨vN, rfl, hN, hb⟩
  obtain ⟨sN, AN, nN, cN, DN, mN, eN, rfl⟩ := hN.shape
  replace BXZ := Lib.hid (BXZ.out.below hb)
  replace HB := Lib.hid (HB.out.trans (hb.mono HB.out.size))
  clear hb
  go_upto_region 3 with fail
  obtain ⟨w3, hbx⟩ : ∃ w3, w3 = w2.alloc (.cells #[.bool sN, .slice AN nN cN, .slice DN mN eN] 24) := ⟨_, rfl⟩
  have hbb : Below w2.heap.size w2 w3 := by rw [hbx]; exact below1 ..
  have BXN : Hid (BoxAt w3 w2.heap.size sN AN nN cN DN mN eN _) := Lib.hid (by rw [hbx]; exact BoxAt.new hN _)
  replace BXZ := Lib.hid (BXZ.out.below hbb)
  replace HB := Lib.hid (HB.out.trans (hbb.mono HB.out.size))
  rw [← hbx]
  clear hbx hbb
  clear hN
  go_wp2_with fail
  refine (copysign_w 0 w3 (by decide)).mono ?_
  rintro e wx ⟨rfl, rfl⟩
  go_wp2_with fail
  refine (of_flt (sw true 0) w3 (by decide +kernel) (by decide +kernel)).mono ?_
  rintro e w4 ⟨vO, rfl, hO, hb⟩
  have hO := hO.1
  rw [show rv (fltQ (decide (9223372036854775808 ≤ sw true 0)) (sw true 0 % 9223372036854775808)) = zeroRV from neg_zero] at hO
  obtain ⟨sO, AO, nO, cO, DO, mO, eO, rfl⟩ := hO.shape
  replace BXZ := Lib.hid (BXZ.out.below hb)
  replace BXN := Lib.hid (BXN.out.below hb)
  replace HB := Lib.hid (HB.out.trans (hb.mono HB.out.size))
  clear hb
  go_upto_region 4 with fail
  obtain ⟨w5, hbx⟩ : ∃ w5, w5 = w4.alloc (.cells #[.bool sO, .slice AO nO cO, .slice DO mO eO] 24) := ⟨_, rfl⟩
  have hbb : Below w4.heap.size w4 w5 := by rw [hbx]; exact below1 ..
  have BXO : Hid (BoxAt w5 w4.heap.size sO AO nO cO DO mO eO _) := Lib.hid (by rw [hbx]; exact BoxAt.new hO _)
  replace BXZ := Lib.hid (BXZ.out.below hbb)
  replace BXN := Lib.hid (BXN.out.below hbb)
  replace HB := Lib.hid (HB.out.trans (hbb.mono HB.out.size))
  rw [← hbx]
  clear hbx hbb
  clear hO
  go_wp2_with fail
  obtain ⟨w6, hbx⟩ : ∃ w6, w6 = w5.alloc (.cells #[.int .u64 1] 58) := ⟨_, rfl⟩
  have hbb : Below w5.heap.size w5 w6 := by rw [hbx]; exact below1 ..
  have hda : DAt w6 (.agg #[.bool false, .slice (some ⟨w5.heap.size, 0, none⟩) 1 1, .int .i64 (16384)]) ⟨false, [1], 16384⟩ := by rw [hbx]; exact dat_one ..
  replace BXZ := Lib.hid (BXZ.out.below hbb)
  replace BXN := Lib.hid (BXN.out.below hbb)
  replace BXO := Lib.hid (BXO.out.below hbb)
  replace HB := Lib.hid (HB.out.trans (hbb.mono HB.out.size))
  rw [← hbx]
  clear hbx hbb
  refine (ofDyad_told _ ⟨false, [1], 16384⟩ w6 hda (by decide) (by decide) (by decide) (fun w h => right_dyad _ _ w h (rightD_one 16384 (by decide) (by decide)))).mono ?_
  rintro e w7 ⟨vB, rfl, hB, hb⟩
  rw [more_q, more_told.1]
  rw [more_q, more_told.2] at hB
  clear hda
  obtain ⟨sB, AB, nB, cB, DB, mB, eB, rfl⟩ := hB.shape
  replace BXZ := Lib.hid (BXZ.out.below hb)
  replace BXN := Lib.hid (BXN.out.below hb)
  replace BXO := Lib.hid (BXO.out.below hb)
  replace HB := Lib.hid (HB.out.trans (hb.mono HB.out.size))
  clear hb
  go_upto_region 5 with fail
  obtain ⟨w8, hbx⟩ : ∃ w8, w8 = w7.alloc (.cells #[.bool sB, .slice AB nB cB, .slice DB mB eB] 24) := ⟨_, rfl⟩
  have hbb : Below w7.heap.size w7 w8 := by rw [hbx]; exact below1 ..
  have BXB : Hid (BoxAt w8 w7.heap.size sB AB nB cB DB mB eB _) := Lib.hid (by rw [hbx]; exact BoxAt.new hB _)
  replace BXZ := Lib.hid (BXZ.out.below hbb)
  replace BXN := Lib.hid (BXN.out.below hbb)
  replace BXO := Lib.hid (BXO.out.below hbb)
  replace HB := Lib.hid (HB.out.trans (hbb.mono HB.out.size))
  rw [← hbx]
  clear hbx hbb
  clear hB
  go_wp2_with fail
  obtain ⟨w9, hbx⟩ : ∃ w9, w9 = w8.alloc (.cells #[.int .u64 1] 58) := ⟨_, rfl⟩
  have hbb : Below w8.heap.size w8 w9 := by rw [hbx]; exact below1 ..
  have hda : DAt w9 (.agg #[.bool false, .slice (some ⟨w8.heap.size, 0, none⟩) 1 1, .int .i64 (16383)]) ⟨false, [1], 16383⟩ := by rw [hbx]; exact dat_one ..
  replace BXZ := Lib.hid (BXZ.out.below hbb)
  replace BXN := Lib.hid (BXN.out.below hbb)
  replace BXO := Lib.hid (BXO.out.below hbb)
  replace BXB := Lib.hid (BXB.out.below hbb)
  replace HB := Lib.hid (HB.out.trans (hbb.mono HB.out.size))
  rw [← hbx]
  clear hbx hbb
  refine (ofDyad_told _ ⟨false, [1], 16383⟩ w9 hda (by decide) (by decide) (by decide) (fun w h => right_dyad _ _ w h (rightD_one 16383 (by decide) (by decide)))).mono ?_
  rintro e w10 ⟨vS, rfl, hS, hb⟩
  rw [less_q, less_told.1]
  rw [less_q, less_told.2] at hS
  clear hda
  obtain ⟨sS, AS, nS, cS, DS, mS, eS, rfl⟩ := hS.shape
  replace BXZ := Lib.hid (BXZ.out.below hb)
  replace BXN := Lib.hid (BXN.out.below hb)
  replace BXO := Lib.hid (BXO.out.below hb)
  replace BXB := Lib.hid (BXB.out.below hb)
  replace HB := Lib.hid (HB.out.trans (hb.mono HB.out.size))
  clear hb
  go_upto_region 6 with fail
  obtain ⟨w11, hbx⟩ : ∃ w11, w11 = w10.alloc (.cells #[.bool sS, .slice AS nS cS, .slice DS mS eS] 24) := ⟨_, rfl⟩
  have hbb : Below w10.heap.size w10 w11 := by rw [hbx]; exact below1 ..
  have BXS : Hid (BoxAt w11 w10.heap.size sS AS nS cS DS mS eS _) := Lib.hid (by rw [hbx]; exact BoxAt.new hS _)
  replace BXZ := Lib.hid (BXZ.out.below hbb)
  replace BXN := Lib.hid (BXN.out.below hbb)
  replace BXO := Lib.hid (BXO.out.below hbb)
  replace BXB := Lib.hid (BXB.out.below hbb)
  replace HB := Lib.hid (HB.out.trans (hbb.mono HB.out.size))
  rw [← hbx]
  clear hbx hbb
  clear hS
  go_wp2_with fail
  obtain ⟨w12, hbx⟩ : ∃ w12, w12 = w11.alloc (.cells #[.int .u64 1] 58) := ⟨_, rfl⟩
  have hbb : Below w11.heap.size w11 w12 := by rw [hbx]; exact below1 ..
  have hda : DAt w12 (.agg #[.bool false, .slice (some ⟨w11.heap.size, 0, none⟩) 1 1, .int .i64 (-65536)]) ⟨false, [1], -65536⟩ := by rw [hbx]; exact dat_one ..
  replace BXZ := Lib.hid (BXZ.out.below hbb)
  replace BXN := Lib.hid (BXN.out.below hbb)
  replace BXO := Lib.hid (BXO.out.below hbb)
  replace BXB := Lib.hid (BXB.out.below hbb)
  replace BXS := Lib.hid (BXS.out.below hbb)
  replace HB := Lib.hid (HB.out.trans (hbb.mono HB.out.size))
  rw [← hbx]
  clear hbx hbb
  refine (ofDyad_far _ ⟨false, [1], -65536⟩ w12 hda (by decide) (by decide) (rightD_one (-65536) (by decide) (by decide))).mono ?_
  rintro e w13 ⟨vF, rfl, hF, hb⟩
  clear hda
  obtain ⟨sF, AF, nF, cF, DF, mF, eF, rfl⟩ := hF.shape
  replace BXZ := Lib.hid (BXZ.out.below hb)
  replace BXN := Lib.hid (BXN.out.below hb)
  replace BXO := Lib.hid (BXO.out.below hb)
  replace BXB := Lib.hid (BXB.out.below hb)
  replace BXS := Lib.hid (BXS.out.below hb)
  replace HB := Lib.hid (HB.out.trans (hb.mono HB.out.size))
  clear hb
  go_upto_region 7 with fail
  obtain ⟨w14, hbx⟩ : ∃ w14, w14 = w13.alloc (.cells #[.bool sF, .slice AF nF cF, .slice DF mF eF] 24) := ⟨_, rfl⟩
  have hbb : Below w13.heap.size w13 w14 := by rw [hbx]; exact below1 ..
  have BXF : Hid (BoxAt w14 w13.heap.size sF AF nF cF DF mF eF _) := Lib.hid (by rw [hbx]; exact BoxAt.new hF _)
  replace BXZ := Lib.hid (BXZ.out.below hbb)
  replace BXN := Lib.hid (BXN.out.below hbb)
  replace BXO := Lib.hid (BXO.out.below hbb)
  replace BXB := Lib.hid (BXB.out.below hbb)
  replace BXS := Lib.hid (BXS.out.below hbb)
  replace HB := Lib.hid (HB.out.trans (hbb.mono HB.out.size))
  rw [← hbx]
  clear hbx hbb
  clear hF
  obtain ⟨⟨qN0, qN1, qN2⟩, -⟩ := BXN.out
  go_wp2_with fail
  clear qN0 qN1 qN2
  refine (is_law _ _ 5 5 noR noR w14 BXN.out.2 (noR_at _ _ _) (by decide) (by decide) (by decide) (by decide)).mono ?_
  rintro e w15 ⟨rfl, hb⟩
  rw [show (decide ((5 : Int) = 5) && decide ((noR : RV) = noR)) = true by simp]
  replace BXZ := Lib.hid (BXZ.out.below hb)
  replace BXN := Lib.hid (BXN.out.below hb)
  replace BXO := Lib.hid (BXO.out.below hb)
  replace BXB := Lib.hid (BXB.out.below hb)
  replace BXS := Lib.hid (BXS.out.below hb)
  replace BXF := Lib.hid (BXF.out.below hb)
  replace HB := Lib.hid (HB.out.trans (hb.mono HB.out.size))
  clear hb
  obtain ⟨⟨qO0, qO1, qO2⟩, -⟩ := BXO.out
  obtain ⟨⟨qZ0, qZ1, qZ2⟩, -⟩ := BXZ.out
  go_wp2_with fail
  clear qO0 qO1 qO2
  clear qZ0 qZ1 qZ2
  refine (is_law _ _ 0 0 zeroRV zeroRV w15 BXO.out.2 BXZ.out.2 (by decide) (by decide) (by decide) (by decide)).mono ?_
  rintro e w16 ⟨rfl, hb⟩
  rw [show (decide ((0 : Int) = 0) && decide ((zeroRV : RV) = zeroRV)) = true by simp]
  replace BXZ := Lib.hid (BXZ.out.below hb)
  replace BXN := Lib.hid (BXN.out.below hb)
  replace BXO := Lib.hid (BXO.out.below hb)
  replace BXB := Lib.hid (BXB.out.below hb)
  replace BXS := Lib.hid (BXS.out.below hb)
  replace BXF := Lib.hid (BXF.out.below hb)
  replace HB := Lib.hid (HB.out.trans (hb.mono HB.out.size))
  clear hb
  obtain ⟨⟨qB0, qB1, qB2⟩, -⟩ := BXB.out
  go_wp2_with fail
  clear qB0 qB1 qB2
  refine (is_law _ _ 3 3 noR noR w16 BXB.out.2 (noR_at _ _ _) (by decide) (by decide) (by decide) (by decide)).mono ?_
  rintro e w17 ⟨rfl, hb⟩
  rw [show (decide ((3 : Int) = 3) && decide ((noR : RV) = noR)) = true by simp]
  replace BXZ := Lib.hid (BXZ.out.below hb)
  replace BXN := Lib.hid (BXN.out.below hb)
  replace BXO := Lib.hid (BXO.out.below hb)
  replace BXB := Lib.hid (BXB.out.below hb)
  replace BXS := Lib.hid (BXS.out.below hb)
  replace BXF := Lib.hid (BXF.out.below hb)
  replace HB := Lib.hid (HB.out.trans (hb.mono HB.out.size))
  clear hb
  obtain ⟨hn, bS, oS, hA, hcl⟩ := less_cell BXS.out.2
  subst hn hA
  obtain ⟨⟨qS0, qS1, qS2⟩, -⟩ := BXS.out
  obtain ⟨⟨qF0, qF1, qF2⟩, -⟩ := BXF.out
  go_wp2_with fail
  clear qS0 qS1 qS2
  clear qF0 qF1 qF2
  clear hcl
  refine (is_law _ _ 3 3 noR noR w17 BXF.out.2 (noR_at _ _ _) (by decide) (by decide) (by decide) (by decide)).mono ?_
  rintro e w18 ⟨rfl, hb⟩
  rw [show (decide ((3 : Int) = 3) && decide ((noR : RV) = noR)) = true by simp]
  replace BXZ := Lib.hid (BXZ.out.below hb)
  replace BXN := Lib.hid (BXN.out.below hb)
  replace BXO := Lib.hid (BXO.out.below hb)
  replace BXB := Lib.hid (BXB.out.below hb)
  replace BXS := Lib.hid (BXS.out.below hb)
  replace BXF := Lib.hid (BXF.out.below hb)
  replace HB := Lib.hid (HB.out.trans (hb.mono HB.out.size))
  clear hb
  go_upto_region 9 with fail
  obtain ⟨⟨qS0, qS1, qS2⟩, -⟩ := BXS.out
  go_wp2_with fail
  clear qS0 qS1 qS2
  refine (add_ratio _ _ lessRV lessRV w18 BXS.out.2 BXS.out.2 (by decide +kernel) (by decide +kernel) (by decide +kernel) (by decide +kernel)).mono ?_
  rintro e w19 hp
  unfold BinPost at hp
  rw [if_pos ⟨less_right, less_right⟩] at hp
  obtain ⟨vT, rfl, hT, hb⟩ := hp
  rw [less_sum.1]
  rw [less_sum.2] at hT
  obtain ⟨sT, AT, nT, cT, DT, mT, eT, rfl⟩ := hT.shape
  replace BXZ := Lib.hid (BXZ.out.below hb)
  replace BXN := Lib.hid (BXN.out.below hb)
  replace BXO := Lib.hid (BXO.out.below hb)
  replace BXB := Lib.hid (BXB.out.below hb)
  replace BXS := Lib.hid (BXS.out.below hb)
  replace BXF := Lib.hid (BXF.out.below hb)
  replace HB := Lib.hid (HB.out.trans (hb.mono HB.out.size))
  clear hb
  go_upto_region 10 with fail
  obtain ⟨w20, hbx⟩ : ∃ w20, w20 = w19.alloc (.cells #[.bool sT, .slice AT nT cT, .slice DT mT eT] 24) := ⟨_, rfl⟩
  have hbb : Below w19.heap.size w19 w20 := by rw [hbx]; exact below1 ..
  have BXT : Hid (BoxAt w20 w19.heap.size sT AT nT cT DT mT eT _) := Lib.hid (by rw [hbx]; exact BoxAt.new hT _)
  replace BXZ := Lib.hid (BXZ.out.below hbb)
  replace BXN := Lib.hid (BXN.out.below hbb)
  replace BXO := Lib.hid (BXO.out.below hbb)
  replace BXB := Lib.hid (BXB.out.below hbb)
  replace BXS := Lib.hid (BXS.out.below hbb)
  replace BXF := Lib.hid (BXF.out.below hbb)
  replace HB := Lib.hid (HB.out.trans (hbb.mono HB.out.size))
  rw [← hbx]
  clear hbx hbb
  clear hT
  clear BXB
  clear BXF
  clear BXN
  clear BXO
  go_cut [14, 15] (fun pv ev wx => ∃ (g : Nat) (sV : Bool) (AV : Option Addr) (nV cV : Nat) (DV_ : Option Addr) (mV eV : Nat), pv = .pointer (some ⟨g, 0, none⟩) ∧ ev = .int .i64 7 ∧ BoxAt wx g sV AV nV cV DV_ mV eV noR ∧ Below w20.heap.size w20 wx)
  case first =>
    obtain ⟨⟨qZ0, qZ1, qZ2⟩, -⟩ := BXZ.out
    refine wp_region_held_drew (S := (fun w' => w'.cell? ⟨w.heap.size + 1, 0, none⟩ = some (.bool false) ∧ w'.cell? ⟨w.heap.size + 1, 1, none⟩ = some (.slice none 0 0) ∧ w'.cell? ⟨w.heap.size + 1, 2, none⟩ = some (.slice (some ⟨w.heap.size, 0, none⟩) 1 1))) (by kernel_rfl) ?_ (fun hHeld => ?_)
    · first | exact True.intro | ((try dsimp only); go_keep)
    clear qZ0 qZ1 qZ2
    refine tkH (i := 1) (v := ?_) rfl (by kernel_rfl) (Or.inl ⟨by kernel_rfl, ?_⟩) (by assumption) ?_
    rotate_left 1
    · (intro w hSw; (try dsimp only at hSw); go_simp; try with_reducible rfl)
    try simp only [lyA, lyB, lyC, Act.put, lyD, lyE, lyF]
    have hz20 : w.heap.size + 1 < w20.heap.size := cell_lt BXZ.out.1.1
    obtain ⟨u, hu⟩ : ∃ ux : World, ux = w20.drew := ⟨_, rfl⟩
    have HBu : Hid (Below w20.heap.size w20 u) := Lib.hid (by rw [hu]; exact (Below.refl _ _).drew)
    have ZRu := Lib.hid (BXZ.out.2.below HBu.out)
    rw [← hu] at hHeld ⊢
    clear hu
    refine wpAnyH_ready (rs := [0, 6]) (by kernel_rfl) (by simp) ?_
    refine AllReadyH.cons rfl (fun K hK => ?_) (AllReadyH.cons rfl (fun K hK => ?_) AllReadyH.nil)
    · go_simp
      refine (small_law false 1 1 u (by decide) (by decide)).mono ?_
      rintro e u0 ⟨vs, rfl, hs, hba⟩
      have HSu0 := Lib.hid hs
      clear hs
      have HBu0 := Lib.hid (HBu.out.trans (hba.mono HBu.out.size))
      have ZRu0 := Lib.hid (ZRu.out.below hba)
      try go_wp2_with fail
      refine hK.out _ _ ?_ (fun hHeld => ?_)
      · exact ⟨bat hba hHeld.1, bat hba hHeld.2.1, bat hba hHeld.2.2⟩
      clear hK K hba
      try simp only [lyA, lyB, lyC, Act.put, lyD, lyE, lyF]
      refine wpAnyH_ready (rs := [2, 6]) (by kernel_rfl) (by simp) ?_
      refine AllReadyH.cons rfl (fun K hK => ?_) (AllReadyH.cons rfl (fun K hK => ?_) AllReadyH.nil)
      · go_simp
        refine (div_ratio vs _ ⟨false, [1], [1]⟩ zeroRV u0 HSu0.out ZRu0.out (by decide) (by decide) (by decide) (by decide)).mono ?_
        rintro e u02 hp
        unfold QuoPost at hp
        rw [if_pos ⟨one_right, zero_right⟩, if_pos zero_q] at hp
        obtain ⟨vVV, rfl, hVV, hba⟩ := hp
        obtain ⟨sVV, AVV, nVV, cVV, DVV, mVV, eVV, rfl⟩ := hVV.shape
        have HVu02 := Lib.hid hVV
        clear hVV
        have HBu02 := Lib.hid (HBu0.out.trans (hba.mono HBu0.out.size))
        have ZRu02 := Lib.hid (ZRu0.out.below hba)
        have HSu02 := Lib.hid (HSu0.out.below hba)
        try go_wp2_with fail
        refine hK.out _ _ ?_ (fun hHeld => ?_)
        · exact ⟨bat hba hHeld.1, bat hba hHeld.2.1, bat hba hHeld.2.2⟩
        clear hK K hba
        try simp only [lyA, lyB, lyC, Act.put, lyD, lyE, lyF]
        refine tkH (i := 3) (v := ?_) rfl (by kernel_rfl) (Or.inl ⟨by kernel_rfl, ?_⟩) (by assumption) ?_
        rotate_left 1
        · (intro w hSw; (try dsimp only at hSw); go_simp; try with_reducible rfl)
        try simp only [lyA, lyB, lyC, Act.put, lyD, lyE, lyF]
        refine tkH (i := 4) (v := ?_) rfl (by kernel_rfl) (Or.inl ⟨by kernel_rfl, ?_⟩) (by assumption) ?_
        rotate_left 1
        · (intro w hSw; (try dsimp only at hSw); go_simp; try with_reducible rfl)
        try simp only [lyA, lyB, lyC, Act.put, lyD, lyE, lyF]
        refine tkH (i := 5) (v := ?_) rfl (by kernel_rfl) (Or.inl ⟨by kernel_rfl, ?_⟩) (by assumption) ?_
        rotate_left 1
        · (intro w hSw; (try dsimp only at hSw); go_simp; try with_reducible rfl)
        try simp only [lyA, lyB, lyC, Act.put, lyD, lyE, lyF]
        refine wpAnyH_ready (rs := [6]) (by kernel_rfl) (by simp) ?_
        refine AllReadyH.cons rfl (fun K hK => ?_) AllReadyH.nil
        · obtain ⟨u026, hU⟩ : ∃ ux : World, ux = u02.alloc (.cells #[.bool false, .slice none 0 0, .slice none 0 0] 24) := ⟨_, rfl⟩
          have hba : Below u02.heap.size u02 u026 := by rw [hU]; exact below1 ..
          have HGu026 : Hid (u026.heap[u02.heap.size]? = some (.cells #[.bool false, .slice none 0 0, .slice none 0 0] 24 (0, 0))) := Lib.hid (by rw [hU]; exact blk_new ..)
          have HLu026 : Hid (w20.heap.size ≤ u02.heap.size ∧ u02.heap.size < u026.heap.size) := Lib.hid ⟨HBu02.out.size, by rw [hU]; simp⟩
          go_simp
          rw [← hU]
          have HBu026 := Lib.hid (HBu02.out.trans (hba.mono HBu02.out.size))
          have ZRu026 := Lib.hid (ZRu02.out.below hba)
          have HSu026 := Lib.hid (HSu02.out.below hba)
          have HVu026 := Lib.hid (HVu02.out.below hba)
          refine hK.out _ _ ?_ (fun hHeld => ?_)
          · exact ⟨bat hba hHeld.1, bat hba hHeld.2.1, bat hba hHeld.2.2⟩
          clear hK K hba hU
          try simp only [lyA, lyB, lyC, Act.put, lyD, lyE, lyF]
          refine wpAnyH_ready (rs := [7]) (by kernel_rfl) (by simp) ?_
          refine AllReadyH.cons rfl (fun K hK => ?_) AllReadyH.nil
          obtain ⟨kc, kf⟩ := blk_cells HGu026.out
          have kc0 := kc 0
          have kf0 := kf 0
          have kc1 := kc 1
          have kf1 := kf 1
          have kc2 := kc 2
          have kf2 := kf 2
          simp only [List.getElem?_toArray, List.getElem?_cons_zero, List.getElem?_cons_succ] at kc0 kc1 kc2
          clear kc kf
          obtain ⟨w8, hw8⟩ : ∃ w8, w8 = ((u026.setCell ⟨u02.heap.size, 0, none⟩ (.bool sVV)).setCell ⟨u02.heap.size, 1, none⟩ (.slice AVV nVV cVV)).setCell ⟨u02.heap.size, 2, none⟩ (.slice DVV mVV eVV) := ⟨_, rfl⟩
          obtain ⟨hu8, q0, q1, q2⟩ := rat_set kc0 kc1 kc2 _ _ _ _ _ _ _ _ hw8
          go_simp
          rw [← hw8]
          have zg := HLu026.out
          refine hK.out _ _ ?_ (fun hHeld => ?_)
          · exact ⟨hu8.cellOf hHeld.1 (by omega), hu8.cellOf hHeld.2.1 (by omega), hu8.cellOf hHeld.2.2 (by omega)⟩
          have HQ8 := Lib.hid (And.intro q0 (And.intro q1 q2))
          have HU8 := Lib.hid hu8
          clear hK K hw8 hu8 q0 q1 q2 kc0 kc1 kc2 kf0 kf1 kf2
          try simp only [lyA, lyB, lyC, Act.put, lyD, lyE, lyF]
          refine wpAnyH_ready (rs := [8]) (by kernel_rfl) (by simp) ?_
          refine AllReadyH.cons rfl (fun K hK => ?_) AllReadyH.nil
          go_simp
          refine hK.out _ _ ?_ (fun hHeld => ?_)
          · first | exact True.intro | ((try dsimp only); go_keep)
          clear hK K
          try simp only [lyA, lyB, lyC, Act.put, lyD, lyE, lyF]
          refine wpAnyH_done (by kernel_rfl) ?_ _
          clear hHeld
          go_wp2_with fail
          go_meet
          exact ⟨_, _, _, _, _, _, _, _, rfl, rfl, ⟨HQ8.out, HVu026.out.upb HU8.out⟩, HBu026.out.trans (HU8.out.below (by omega) HBu026.out.size)⟩
      · obtain ⟨u06, hU⟩ : ∃ ux : World, ux = u0.alloc (.cells #[.bool false, .slice none 0 0, .slice none 0 0] 24) := ⟨_, rfl⟩
        have hba : Below u0.heap.size u0 u06 := by rw [hU]; exact below1 ..
        have HGu06 : Hid (u06.heap[u0.heap.size]? = some (.cells #[.bool false, .slice none 0 0, .slice none 0 0] 24 (0, 0))) := Lib.hid (by rw [hU]; exact blk_new ..)
        have HLu06 : Hid (w20.heap.size ≤ u0.heap.size ∧ u0.heap.size < u06.heap.size) := Lib.hid ⟨HBu0.out.size, by rw [hU]; simp⟩
        go_simp
        rw [← hU]
        have HBu06 := Lib.hid (HBu0.out.trans (hba.mono HBu0.out.size))
        have ZRu06 := Lib.hid (ZRu0.out.below hba)
        have HSu06 := Lib.hid (HSu0.out.below hba)
        refine hK.out _ _ ?_ (fun hHeld => ?_)
        · exact ⟨bat hba hHeld.1, bat hba hHeld.2.1, bat hba hHeld.2.2⟩
        clear hK K hba hU
        try simp only [lyA, lyB, lyC, Act.put, lyD, lyE, lyF]
        refine wpAnyH_ready (rs := [2]) (by kernel_rfl) (by simp) ?_
        refine AllReadyH.cons rfl (fun K hK => ?_) AllReadyH.nil
        · go_simp
          refine (div_ratio vs _ ⟨false, [1], [1]⟩ zeroRV u06 HSu06.out ZRu06.out (by decide) (by decide) (by decide) (by decide)).mono ?_
          rintro e u062 hp
          unfold QuoPost at hp
          rw [if_pos ⟨one_right, zero_right⟩, if_pos zero_q] at hp
          obtain ⟨vVV, rfl, hVV, hba⟩ := hp
          obtain ⟨sVV, AVV, nVV, cVV, DVV, mVV, eVV, rfl⟩ := hVV.shape
          have HVu062 := Lib.hid hVV
          clear hVV
          have HBu062 := Lib.hid (HBu06.out.trans (hba.mono HBu06.out.size))
          have ZRu062 := Lib.hid (ZRu06.out.below hba)
          have HSu062 := Lib.hid (HSu06.out.below hba)
          have HGu062 := Lib.hid ((hba.block _ HLu06.out.2).trans HGu06.out)
          have HLu062 : Hid (w20.heap.size ≤ u0.heap.size ∧ u0.heap.size < u062.heap.size) := Lib.hid ⟨HLu06.out.1, Nat.lt_of_lt_of_le HLu06.out.2 hba.size⟩
          try go_wp2_with fail
          refine hK.out _ _ ?_ (fun hHeld => ?_)
          · exact ⟨bat hba hHeld.1, bat hba hHeld.2.1, bat hba hHeld.2.2⟩
          clear hK K hba
          try simp only [lyA, lyB, lyC, Act.put, lyD, lyE, lyF]
          refine tkH (i := 3) (v := ?_) rfl (by kernel_rfl) (Or.inl ⟨by kernel_rfl, ?_⟩) (by assumption) ?_
          rotate_left 1
          · (intro w hSw; (try dsimp only at hSw); go_simp; try with_reducible rfl)
          try simp only [lyA, lyB, lyC, Act.put, lyD, lyE, lyF]
          refine tkH (i := 4) (v := ?_) rfl (by kernel_rfl) (Or.inl ⟨by kernel_rfl, ?_⟩) (by assumption) ?_
          rotate_left 1
          · (intro w hSw; (try dsimp only at hSw); go_simp; try with_reducible rfl)
          try simp only [lyA, lyB, lyC, Act.put, lyD, lyE, lyF]
          refine tkH (i := 5) (v := ?_) rfl (by kernel_rfl) (Or.inl ⟨by kernel_rfl, ?_⟩) (by assumption) ?_
          rotate_left 1
          · (intro w hSw; (try dsimp only at hSw); go_simp; try with_reducible rfl)
          try simp only [lyA, lyB, lyC, Act.put, lyD, lyE, lyF]
          refine wpAnyH_ready (rs := [7]) (by kernel_rfl) (by simp) ?_
          refine AllReadyH.cons rfl (fun K hK => ?_) AllReadyH.nil
          obtain ⟨kc, kf⟩ := blk_cells HGu062.out
          have kc0 := kc 0
          have kf0 := kf 0
          have kc1 := kc 1
          have kf1 := kf 1
          have kc2 := kc 2
          have kf2 := kf 2
          simp only [List.getElem?_toArray, List.getElem?_cons_zero, List.getElem?_cons_succ] at kc0 kc1 kc2
          clear kc kf
          obtain ⟨w8, hw8⟩ : ∃ w8, w8 = ((u062.setCell ⟨u0.heap.size, 0, none⟩ (.bool sVV)).setCell ⟨u0.heap.size, 1, none⟩ (.slice AVV nVV cVV)).setCell ⟨u0.heap.size, 2, none⟩ (.slice DVV mVV eVV) := ⟨_, rfl⟩
          obtain ⟨hu8, q0, q1, q2⟩ := rat_set kc0 kc1 kc2 _ _ _ _ _ _ _ _ hw8
          go_simp
          rw [← hw8]
          have zg := HLu062.out
          refine hK.out _ _ ?_ (fun hHeld => ?_)
          · exact ⟨hu8.cellOf hHeld.1 (by omega), hu8.cellOf hHeld.2.1 (by omega), hu8.cellOf hHeld.2.2 (by omega)⟩
          have HQ8 := Lib.hid (And.intro q0 (And.intro q1 q2))
          have HU8 := Lib.hid hu8
          clear hK K hw8 hu8 q0 q1 q2 kc0 kc1 kc2 kf0 kf1 kf2
          try simp only [lyA, lyB, lyC, Act.put, lyD, lyE, lyF]
          refine wpAnyH_ready (rs := [8]) (by kernel_rfl) (by simp) ?_
          refine AllReadyH.cons rfl (fun K hK => ?_) AllReadyH.nil
          go_simp
          refine hK.out _ _ ?_ (fun hHeld => ?_)
          · first | exact True.intro | ((try dsimp only); go_keep)
          clear hK K
          try simp only [lyA, lyB, lyC, Act.put, lyD, lyE, lyF]
          refine wpAnyH_done (by kernel_rfl) ?_ _
          clear hHeld
          go_wp2_with fail
          go_meet
          exact ⟨_, _, _, _, _, _, _, _, rfl, rfl, ⟨HQ8.out, HVu062.out.upb HU8.out⟩, HBu062.out.trans (HU8.out.below (by omega) HBu062.out.size)⟩
    · obtain ⟨u6, hU⟩ : ∃ ux : World, ux = u.alloc (.cells #[.bool false, .slice none 0 0, .slice none 0 0] 24) := ⟨_, rfl⟩
      have hba : Below u.heap.size u u6 := by rw [hU]; exact below1 ..
      have HGu6 : Hid (u6.heap[u.heap.size]? = some (.cells #[.bool false, .slice none 0 0, .slice none 0 0] 24 (0, 0))) := Lib.hid (by rw [hU]; exact blk_new ..)
      have HLu6 : Hid (w20.heap.size ≤ u.heap.size ∧ u.heap.size < u6.heap.size) := Lib.hid ⟨HBu.out.size, by rw [hU]; simp⟩
      go_simp
      rw [← hU]
      have HBu6 := Lib.hid (HBu.out.trans (hba.mono HBu.out.size))
      have ZRu6 := Lib.hid (ZRu.out.below hba)
      refine hK.out _ _ ?_ (fun hHeld => ?_)
      · exact ⟨bat hba hHeld.1, bat hba hHeld.2.1, bat hba hHeld.2.2⟩
      clear hK K hba hU
      try simp only [lyA, lyB, lyC, Act.put, lyD, lyE, lyF]
      refine wpAnyH_ready (rs := [0]) (by kernel_rfl) (by simp) ?_
      refine AllReadyH.cons rfl (fun K hK => ?_) AllReadyH.nil
      · go_simp
        refine (small_law false 1 1 u6 (by decide) (by decide)).mono ?_
        rintro e u60 ⟨vs, rfl, hs, hba⟩
        have HSu60 := Lib.hid hs
        clear hs
        have HBu60 := Lib.hid (HBu6.out.trans (hba.mono HBu6.out.size))
        have ZRu60 := Lib.hid (ZRu6.out.below hba)
        have HGu60 := Lib.hid ((hba.block _ HLu6.out.2).trans HGu6.out)
        have HLu60 : Hid (w20.heap.size ≤ u.heap.size ∧ u.heap.size < u60.heap.size) := Lib.hid ⟨HLu6.out.1, Nat.lt_of_lt_of_le HLu6.out.2 hba.size⟩
        try go_wp2_with fail
        refine hK.out _ _ ?_ (fun hHeld => ?_)
        · exact ⟨bat hba hHeld.1, bat hba hHeld.2.1, bat hba hHeld.2.2⟩
        clear hK K hba
        try simp only [lyA, lyB, lyC, Act.put, lyD, lyE, lyF]
        refine wpAnyH_ready (rs := [2]) (by kernel_rfl) (by simp) ?_
        refine AllReadyH.cons rfl (fun K hK => ?_) AllReadyH.nil
        · go_simp
          refine (div_ratio vs _ ⟨false, [1], [1]⟩ zeroRV u60 HSu60.out ZRu60.out (by decide) (by decide) (by decide) (by decide)).mono ?_
          rintro e u602 hp
          unfold QuoPost at hp
          rw [if_pos ⟨one_right, zero_right⟩, if_pos zero_q] at hp
          obtain ⟨vVV, rfl, hVV, hba⟩ := hp
          obtain ⟨sVV, AVV, nVV, cVV, DVV, mVV, eVV, rfl⟩ := hVV.shape
          have HVu602 := Lib.hid hVV
          clear hVV
          have HBu602 := Lib.hid (HBu60.out.trans (hba.mono HBu60.out.size))
          have ZRu602 := Lib.hid (ZRu60.out.below hba)
          have HSu602 := Lib.hid (HSu60.out.below hba)
          have HGu602 := Lib.hid ((hba.block _ HLu60.out.2).trans HGu60.out)
          have HLu602 : Hid (w20.heap.size ≤ u.heap.size ∧ u.heap.size < u602.heap.size) := Lib.hid ⟨HLu60.out.1, Nat.lt_of_lt_of_le HLu60.out.2 hba.size⟩
          try go_wp2_with fail
          refine hK.out _ _ ?_ (fun hHeld => ?_)
          · exact ⟨bat hba hHeld.1, bat hba hHeld.2.1, bat hba hHeld.2.2⟩
          clear hK K hba
          try simp only [lyA, lyB, lyC, Act.put, lyD, lyE, lyF]
          refine tkH (i := 3) (v := ?_) rfl (by kernel_rfl) (Or.inl ⟨by kernel_rfl, ?_⟩) (by assumption) ?_
          rotate_left 1
          · (intro w hSw; (try dsimp only at hSw); go_simp; try with_reducible rfl)
          try simp only [lyA, lyB, lyC, Act.put, lyD, lyE, lyF]
          refine tkH (i := 4) (v := ?_) rfl (by kernel_rfl) (Or.inl ⟨by kernel_rfl, ?_⟩) (by assumption) ?_
          rotate_left 1
          · (intro w hSw; (try dsimp only at hSw); go_simp; try with_reducible rfl)
          try simp only [lyA, lyB, lyC, Act.put, lyD, lyE, lyF]
          refine tkH (i := 5) (v := ?_) rfl (by kernel_rfl) (Or.inl ⟨by kernel_rfl, ?_⟩) (by assumption) ?_
          rotate_left 1
          · (intro w hSw; (try dsimp only at hSw); go_simp; try with_reducible rfl)
          try simp only [lyA, lyB, lyC, Act.put, lyD, lyE, lyF]
          refine wpAnyH_ready (rs := [7]) (by kernel_rfl) (by simp) ?_
          refine AllReadyH.cons rfl (fun K hK => ?_) AllReadyH.nil
          obtain ⟨kc, kf⟩ := blk_cells HGu602.out
          have kc0 := kc 0
          have kf0 := kf 0
          have kc1 := kc 1
          have kf1 := kf 1
          have kc2 := kc 2
          have kf2 := kf 2
          simp only [List.getElem?_toArray, List.getElem?_cons_zero, List.getElem?_cons_succ] at kc0 kc1 kc2
          clear kc kf
          obtain ⟨w8, hw8⟩ : ∃ w8, w8 = ((u602.setCell ⟨u.heap.size, 0, none⟩ (.bool sVV)).setCell ⟨u.heap.size, 1, none⟩ (.slice AVV nVV cVV)).setCell ⟨u.heap.size, 2, none⟩ (.slice DVV mVV eVV) := ⟨_, rfl⟩
          obtain ⟨hu8, q0, q1, q2⟩ := rat_set kc0 kc1 kc2 _ _ _ _ _ _ _ _ hw8
          go_simp
          rw [← hw8]
          have zg := HLu602.out
          refine hK.out _ _ ?_ (fun hHeld => ?_)
          · exact ⟨hu8.cellOf hHeld.1 (by omega), hu8.cellOf hHeld.2.1 (by omega), hu8.cellOf hHeld.2.2 (by omega)⟩
          have HQ8 := Lib.hid (And.intro q0 (And.intro q1 q2))
          have HU8 := Lib.hid hu8
          clear hK K hw8 hu8 q0 q1 q2 kc0 kc1 kc2 kf0 kf1 kf2
          try simp only [lyA, lyB, lyC, Act.put, lyD, lyE, lyF]
          refine wpAnyH_ready (rs := [8]) (by kernel_rfl) (by simp) ?_
          refine AllReadyH.cons rfl (fun K hK => ?_) AllReadyH.nil
          go_simp
          refine hK.out _ _ ?_ (fun hHeld => ?_)
          · first | exact True.intro | ((try dsimp only); go_keep)
          clear hK K
          try simp only [lyA, lyB, lyC, Act.put, lyD, lyE, lyF]
          refine wpAnyH_done (by kernel_rfl) ?_ _
          clear hHeld
          go_wp2_with fail
          go_meet
          exact ⟨_, _, _, _, _, _, _, _, rfl, rfl, ⟨HQ8.out, HVu602.out.upb HU8.out⟩, HBu602.out.trans (HU8.out.below (by omega) HBu602.out.size)⟩
  case rest =>
    obtain ⟨gV, sV, AV, nV, cV, DV_, mV, eV, rfl, rfl, hbv, hb⟩ := hcut
    have BXV := Lib.hid hbv
    replace BXZ := Lib.hid (BXZ.out.below hb)
    replace BXS := Lib.hid (BXS.out.below hb)
    replace BXT := Lib.hid (BXT.out.below hb)
    replace HB := Lib.hid (HB.out.trans (hb.mono HB.out.size))
    clear hb hbv
    go_upto_region 12 with fail
    obtain ⟨w22, hbx⟩ : ∃ w22, w22 = (wc.alloc (.cells #[.int .u64 1] 58)).alloc (.cells #[.bool true, .slice none 0 0, .slice (some ⟨wc.heap.size, 0, none⟩) 1 1] 24) := ⟨_, rfl⟩
    have hbb : Below wc.heap.size wc w22 := by rw [hbx]; exact below2 ..
    have BXM : Hid (BoxAt w22 (wc.heap.size + 1) true none 0 0 (some ⟨wc.heap.size, 0, none⟩) 1 1 badRV) := Lib.hid (by
      rw [hbx]
      have h := BoxAt.new (rat_one1 wc true 1 (by decide)) 24
      rwa [World.size_alloc] at h)
    replace BXZ := Lib.hid (BXZ.out.below hbb)
    replace BXS := Lib.hid (BXS.out.below hbb)
    replace BXT := Lib.hid (BXT.out.below hbb)
    replace BXV := Lib.hid (BXV.out.below hbb)
    replace HB := Lib.hid (HB.out.trans (hbb.mono HB.out.size))
    rw [← hbx]
    clear hbx hbb
    obtain ⟨⟨qM0, qM1, qM2⟩, -⟩ := BXM.out
    obtain ⟨⟨qZ0, qZ1, qZ2⟩, -⟩ := BXZ.out
    go_wp2_with fail
    clear qM0 qM1 qM2
    clear qZ0 qZ1 qZ2
    refine (div_ratio _ _ badRV zeroRV w22 BXM.out.2 BXZ.out.2 (by decide) (by decide) (by decide) (by decide)).mono ?_
    rintro e w23 hp
    unfold QuoPost at hp
    rw [if_neg (by rw [bad_right]; simp)] at hp
    obtain ⟨vD, rfl, hD, hb⟩ := hp
    obtain ⟨sD, AD, nD, cD, DD, mD, eD, rfl⟩ := hD.shape
    replace BXZ := Lib.hid (BXZ.out.below hb)
    replace BXS := Lib.hid (BXS.out.below hb)
    replace BXT := Lib.hid (BXT.out.below hb)
    replace BXV := Lib.hid (BXV.out.below hb)
    replace BXM := Lib.hid (BXM.out.below hb)
    replace HB := Lib.hid (HB.out.trans (hb.mono HB.out.size))
    clear hb
    go_upto_region 13 with fail
    obtain ⟨w24, hbx⟩ : ∃ w24, w24 = w23.alloc (.cells #[.bool sD, .slice AD nD cD, .slice DD mD eD] 24) := ⟨_, rfl⟩
    have hbb : Below w23.heap.size w23 w24 := by rw [hbx]; exact below1 ..
    have BXD : Hid (BoxAt w24 w23.heap.size sD AD nD cD DD mD eD _) := Lib.hid (by rw [hbx]; exact BoxAt.new hD _)
    replace BXZ := Lib.hid (BXZ.out.below hbb)
    replace BXS := Lib.hid (BXS.out.below hbb)
    replace BXT := Lib.hid (BXT.out.below hbb)
    replace BXV := Lib.hid (BXV.out.below hbb)
    replace BXM := Lib.hid (BXM.out.below hbb)
    replace HB := Lib.hid (HB.out.trans (hbb.mono HB.out.size))
    rw [← hbx]
    clear hbx hbb
    clear hD
    go_wp2_with fail
    obtain ⟨w25, hbx⟩ : ∃ w25, w25 = (w24.alloc (.cells #[.int .u64 1] 58)).alloc (.cells #[.int .u64 0, .int .u64 0] 58) := ⟨_, rfl⟩
    have hbb : Below w24.heap.size w24 w25 := by rw [hbx]; exact below2 ..
    have hra := ra1 w24
    rw [← hbx]
    rw [← hbx] at hra
    replace BXZ := Lib.hid (BXZ.out.below hbb)
    replace BXS := Lib.hid (BXS.out.below hbb)
    replace BXT := Lib.hid (BXT.out.below hbb)
    replace BXV := Lib.hid (BXV.out.below hbb)
    replace BXM := Lib.hid (BXM.out.below hbb)
    replace BXD := Lib.hid (BXD.out.below hbb)
    replace HB := Lib.hid (HB.out.trans (hbb.mono HB.out.size))
    clear hbx hbb
    refine (norm_ratio _ ⟨false, [1], [0, 0]⟩ w25 hra (by decide) (by decide)).mono ?_
    rintro e w26 hp
    unfold NormPost at hp
    rw [if_pos (by decide)] at hp
    obtain ⟨vX, rfl, hX, hb⟩ := hp
    clear hra
    obtain ⟨sX, AX, nX, cX, DX, mX, eX, rfl⟩ := hX.shape
    replace BXZ := Lib.hid (BXZ.out.below hb)
    replace BXS := Lib.hid (BXS.out.below hb)
    replace BXT := Lib.hid (BXT.out.below hb)
    replace BXV := Lib.hid (BXV.out.below hb)
    replace BXM := Lib.hid (BXM.out.below hb)
    replace BXD := Lib.hid (BXD.out.below hb)
    replace HB := Lib.hid (HB.out.trans (hb.mono HB.out.size))
    clear hb
    go_upto_region 14 with fail
    obtain ⟨w27, hbx⟩ : ∃ w27, w27 = w26.alloc (.cells #[.bool sX, .slice AX nX cX, .slice DX mX eX] 24) := ⟨_, rfl⟩
    have hbb : Below w26.heap.size w26 w27 := by rw [hbx]; exact below1 ..
    have BXX : Hid (BoxAt w27 w26.heap.size sX AX nX cX DX mX eX _) := Lib.hid (by rw [hbx]; exact BoxAt.new hX _)
    replace BXZ := Lib.hid (BXZ.out.below hbb)
    replace BXS := Lib.hid (BXS.out.below hbb)
    replace BXT := Lib.hid (BXT.out.below hbb)
    replace BXV := Lib.hid (BXV.out.below hbb)
    replace BXM := Lib.hid (BXM.out.below hbb)
    replace BXD := Lib.hid (BXD.out.below hbb)
    replace HB := Lib.hid (HB.out.trans (hbb.mono HB.out.size))
    rw [← hbx]
    clear hbx hbb
    clear hX
    go_wp2_with fail
    obtain ⟨w28, hbx⟩ : ∃ w28, w28 = (w27.alloc (.cells #[.int .u64 6, .int .u64 0] 58)).alloc (.cells #[.int .u64 4] 58) := ⟨_, rfl⟩
    have hbb : Below w27.heap.size w27 w28 := by rw [hbx]; exact below2 ..
    have hra := ra2 w27
    rw [← hbx]
    rw [← hbx] at hra
    replace BXZ := Lib.hid (BXZ.out.below hbb)
    replace BXS := Lib.hid (BXS.out.below hbb)
    replace BXT := Lib.hid (BXT.out.below hbb)
    replace BXV := Lib.hid (BXV.out.below hbb)
    replace BXM := Lib.hid (BXM.out.below hbb)
    replace BXD := Lib.hid (BXD.out.below hbb)
    replace BXX := Lib.hid (BXX.out.below hbb)
    replace HB := Lib.hid (HB.out.trans (hbb.mono HB.out.size))
    clear hbx hbb
    refine (norm_ratio _ ⟨true, [6, 0], [4]⟩ w28 hra (by decide) (by decide)).mono ?_
    rintro e w29 hp
    unfold NormPost at hp
    rw [if_neg (by decide)] at hp
    obtain ⟨vY, rfl, hY, hb⟩ := hp
    rw [norm_told.1]
    rw [norm_told.2] at hY
    clear hra
    obtain ⟨sY, AY, nY, cY, DY, mY, eY, rfl⟩ := hY.shape
    replace BXZ := Lib.hid (BXZ.out.below hb)
    replace BXS := Lib.hid (BXS.out.below hb)
    replace BXT := Lib.hid (BXT.out.below hb)
    replace BXV := Lib.hid (BXV.out.below hb)
    replace BXM := Lib.hid (BXM.out.below hb)
    replace BXD := Lib.hid (BXD.out.below hb)
    replace BXX := Lib.hid (BXX.out.below hb)
    replace HB := Lib.hid (HB.out.trans (hb.mono HB.out.size))
    clear hb
    go_upto_region 15 with fail
    obtain ⟨w30, hbx⟩ : ∃ w30, w30 = w29.alloc (.cells #[.bool sY, .slice AY nY cY, .slice DY mY eY] 24) := ⟨_, rfl⟩
    have hbb : Below w29.heap.size w29 w30 := by rw [hbx]; exact below1 ..
    have BXY : Hid (BoxAt w30 w29.heap.size sY AY nY cY DY mY eY _) := Lib.hid (by rw [hbx]; exact BoxAt.new hY _)
    replace BXZ := Lib.hid (BXZ.out.below hbb)
    replace BXS := Lib.hid (BXS.out.below hbb)
    replace BXT := Lib.hid (BXT.out.below hbb)
    replace BXV := Lib.hid (BXV.out.below hbb)
    replace BXM := Lib.hid (BXM.out.below hbb)
    replace BXD := Lib.hid (BXD.out.below hbb)
    replace BXX := Lib.hid (BXX.out.below hbb)
    replace HB := Lib.hid (HB.out.trans (hbb.mono HB.out.size))
    rw [← hbx]
    clear hbx hbb
    clear hY
    go_wp2_with fail
    refine (sign_ratio _ noR w30 (noR_at _ _ _) (by decide) (by decide)).mono ?_
    rintro e w31 ⟨hp, hb⟩
    rw [if_neg (by rw [noR_right]; simp)] at hp
    subst hp
    replace BXZ := Lib.hid (BXZ.out.below hb)
    replace BXS := Lib.hid (BXS.out.below hb)
    replace BXT := Lib.hid (BXT.out.below hb)
    replace BXV := Lib.hid (BXV.out.below hb)
    replace BXM := Lib.hid (BXM.out.below hb)
    replace BXD := Lib.hid (BXD.out.below hb)
    replace BXX := Lib.hid (BXX.out.below hb)
    replace BXY := Lib.hid (BXY.out.below hb)
    replace HB := Lib.hid (HB.out.trans (hb.mono HB.out.size))
    clear hb
    go_upto_region 16 with fail
    obtain ⟨hi0, hz0, hz1, hz2⟩ := HI0.out
    go_wp2_with (first | (at_make; go_must (refine wpList_make_full _ rfl _ _ _ rfl (w31.heap.size + 1) 58 i0 _ 1 Tryz.underlying22 hi0 hz0 hz1 .i64 .i64 _ _ 16 rfl rfl (by omega) (by omega) (by rw [hz2]; omega) (by simp only [maxLen]; omega) (by simp) ?_); intro wm hownm hgm; rw [made_u64] at hownm; have hoA := hownm.alloc (.cells #[Value.int .u64 2251799813685248] 58); rw [World.size_alloc] at hoA) | (at_builtin; go_must (refine wpList_append_rd _ rfl _ _ _ rfl (w31.heap.size + 1) 58 i0 _ 1 8 Tryz.underlying22 hi0 hz0 hz1 hz2 rfl (by omega) (.slice (some ⟨w31.heap.size + 1, 0, none⟩) 16 16) 16 ((List.replicate 16 0).flatMap Lc) rfl hoA (fun _ => True) (some ⟨wm.heap.size, 0, none⟩) 1 1 [.int .u64 2251799813685248] rfl (rd_blk (blk_new ..) rfl trivial) (by simp [Value.oneCell']) (by simp only [maxLen]; omega) (by omega) (by have h := hgm.size; simp at h ⊢; omega) ?_); intro v1 w32 hown1 hg1 hat1; obtain ⟨AU, cU, rfl, hcU, -⟩ := own_slice hown1))
    have hbm : Below (w31.alloc (.cells #[.int .u64 1] 58)).heap.size (w31.alloc (.cells #[.int .u64 1] 58)) wm := below_of_grown hgm (fun g hg => by cases hg)
    have hbn2 : Below (w31.alloc (.cells #[.int .u64 1] 58)).heap.size (w31.alloc (.cells #[.int .u64 1] 58)) (wm.alloc (.cells #[Value.int .u64 2251799813685248] 58)) := hbm.trans ((below1 wm _).mono hbm.size)
    have hb2 : Below (w31.alloc (.cells #[.int .u64 1] 58)).heap.size (w31.alloc (.cells #[.int .u64 1] 58)) w32 := hbn2.grown hg1 hbn2.size (fun g hg => by have h := (hoA.lt g hg).1; simpa using h)
    have hb : Below w31.heap.size w31 w32 := (below1 w31 _).trans (hb2.mono (by simp))
    have hLU : LAt w32 (.slice AU (16 + 1) cU) thinRV.den := own_lat (by rw [← thin_cells]; exact hown1)
    have hrt : RAt w32 (.agg #[.bool true, .slice (some ⟨w31.heap.size, 0, none⟩) 1 1, .slice AU (16 + 1) cU]) thinRV := ⟨_, _, _, _, _, _, rfl, (rde_one w31).belowL hb2, (lat_num hLU).2.2, thin_ldsN, thin_ldsD⟩
    clear hbm hbn2 hb2 hLU hown1 hg1 hat1 hoA hownm hgm hcU hi0 hz0 hz1 hz2
    replace BXZ := Lib.hid (BXZ.out.below hb)
    replace BXS := Lib.hid (BXS.out.below hb)
    replace BXT := Lib.hid (BXT.out.below hb)
    replace BXV := Lib.hid (BXV.out.below hb)
    replace BXM := Lib.hid (BXM.out.below hb)
    replace BXD := Lib.hid (BXD.out.below hb)
    replace BXX := Lib.hid (BXX.out.below hb)
    replace BXY := Lib.hid (BXY.out.below hb)
    replace HB := Lib.hid (HB.out.trans (hb.mono HB.out.size))
    clear hb
    refine (round_rat _ thinRV 0 w32 hrt (by decide) (by decide) (HW.out.below HB.out)).mono ?_
    rw [thin_round.1, thin_round.2]
    rintro e w33 ⟨rfl, hb⟩
    clear hrt
    replace BXZ := Lib.hid (BXZ.out.below hb)
    replace BXS := Lib.hid (BXS.out.below hb)
    replace BXT := Lib.hid (BXT.out.below hb)
    replace BXV := Lib.hid (BXV.out.below hb)
    replace BXM := Lib.hid (BXM.out.below hb)
    replace BXD := Lib.hid (BXD.out.below hb)
    replace BXX := Lib.hid (BXX.out.below hb)
    replace BXY := Lib.hid (BXY.out.below hb)
    replace HB := Lib.hid (HB.out.trans (hb.mono HB.out.size))
    clear hb
    go_upto_region 17 with fail
    obtain ⟨⟨qS0, qS1, qS2⟩, -⟩ := BXS.out
    go_wp2_with fail
    clear qS0 qS1 qS2
    refine (round_rat _ lessRV 1 w33 BXS.out.2 (by rw [less_len.1]; decide) (by decide) (HW.out.below HB.out)).mono ?_
    rw [less_round.1, less_round.2]
    rintro e w34 ⟨rfl, hb⟩
    replace BXZ := Lib.hid (BXZ.out.below hb)
    replace BXS := Lib.hid (BXS.out.below hb)
    replace BXT := Lib.hid (BXT.out.below hb)
    replace BXV := Lib.hid (BXV.out.below hb)
    replace BXM := Lib.hid (BXM.out.below hb)
    replace BXD := Lib.hid (BXD.out.below hb)
    replace BXX := Lib.hid (BXX.out.below hb)
    replace BXY := Lib.hid (BXY.out.below hb)
    replace HB := Lib.hid (HB.out.trans (hb.mono HB.out.size))
    clear hb
    go_upto_region 18 with fail
    obtain ⟨⟨qT0, qT1, qT2⟩, -⟩ := BXT.out
    obtain ⟨⟨qV0, qV1, qV2⟩, -⟩ := BXV.out
    obtain ⟨⟨qD0, qD1, qD2⟩, -⟩ := BXD.out
    obtain ⟨⟨qX0, qX1, qX2⟩, -⟩ := BXX.out
    obtain ⟨⟨qY0, qY1, qY2⟩, -⟩ := BXY.out
    refine wp_region_held_drew (S := (fun w' => w'.cell? ⟨w19.heap.size, 0, none⟩ = some (.bool sT) ∧ w'.cell? ⟨w19.heap.size, 1, none⟩ = some (.slice AT nT cT) ∧ w'.cell? ⟨w19.heap.size, 2, none⟩ = some (.slice DT mT eT) ∧ w'.cell? ⟨gV, 0, none⟩ = some (.bool sV) ∧ w'.cell? ⟨gV, 1, none⟩ = some (.slice AV nV cV) ∧ w'.cell? ⟨gV, 2, none⟩ = some (.slice DV_ mV eV) ∧ w'.cell? ⟨w23.heap.size, 0, none⟩ = some (.bool sD) ∧ w'.cell? ⟨w23.heap.size, 1, none⟩ = some (.slice AD nD cD) ∧ w'.cell? ⟨w23.heap.size, 2, none⟩ = some (.slice DD mD eD) ∧ w'.cell? ⟨w26.heap.size, 0, none⟩ = some (.bool sX) ∧ w'.cell? ⟨w26.heap.size, 1, none⟩ = some (.slice AX nX cX) ∧ w'.cell? ⟨w26.heap.size, 2, none⟩ = some (.slice DX mX eX) ∧ w'.cell? ⟨w29.heap.size, 0, none⟩ = some (.bool sY) ∧ w'.cell? ⟨w29.heap.size, 1, none⟩ = some (.slice AY nY cY) ∧ w'.cell? ⟨w29.heap.size, 2, none⟩ = some (.slice DY mY eY))) (by kernel_rfl) ?_ (fun hHeld => ?_)
    · first | exact True.intro | ((try dsimp only); go_keep)
    clear qT0 qT1 qT2
    clear qV0 qV1 qV2
    clear qD0 qD1 qD2
    clear qX0 qX1 qX2
    clear qY0 qY1 qY2
    have HB0 := HB.out.drew
    replace BXZ := Lib.hid (BXZ.out.below (Below.refl _ w34).drew)
    replace BXS := Lib.hid (BXS.out.below (Below.refl _ w34).drew)
    replace BXT := Lib.hid (BXT.out.below (Below.refl _ w34).drew)
    replace BXV := Lib.hid (BXV.out.below (Below.refl _ w34).drew)
    replace BXM := Lib.hid (BXM.out.below (Below.refl _ w34).drew)
    replace BXD := Lib.hid (BXD.out.below (Below.refl _ w34).drew)
    replace BXX := Lib.hid (BXX.out.below (Below.refl _ w34).drew)
    replace BXY := Lib.hid (BXY.out.below (Below.refl _ w34).drew)
    replace HB := Lib.hid HB0
    clear HB0
    refine tkH (i := 0) (v := ?_) rfl (by kernel_rfl) (Or.inl ⟨by kernel_rfl, ?_⟩) (by assumption) ?_
    rotate_left 1
    · (intro w hSw; (try dsimp only at hSw); go_simp; try with_reducible rfl)
    try simp only [lyA, lyB, lyC, Act.put, lyD, lyE, lyF]
    refine tkH (i := 1) (v := ?_) rfl (by kernel_rfl) (Or.inl ⟨by kernel_rfl, ?_⟩) (by assumption) ?_
    rotate_left 1
    · (intro w hSw; (try dsimp only at hSw); go_simp; try with_reducible rfl)
    try simp only [lyA, lyB, lyC, Act.put, lyD, lyE, lyF]
    refine tkH (i := 2) (v := ?_) rfl (by kernel_rfl) (Or.inl ⟨by kernel_rfl, ?_⟩) (by assumption) ?_
    rotate_left 1
    · (intro w hSw; (try dsimp only at hSw); go_simp; try with_reducible rfl)
    try simp only [lyA, lyB, lyC, Act.put, lyD, lyE, lyF]
    refine wpAnyH_ready (rs := [3]) (by kernel_rfl) (by simp) ?_
    refine AllReadyH.cons rfl (fun K hK => ?_) AllReadyH.nil
    go_simp
    (refine (is_law _ _ 3 3 noR noR w34.drew BXT.out.2 (noR_at _ _ _) (by decide) (by decide) (by decide) (by decide)).mono ?_; rintro e w35 ⟨rfl, hb⟩; rw [show (decide ((3 : Int) = 3) && decide ((noR : RV) = noR)) = true by simp]; replace BXZ := Lib.hid (BXZ.out.below hb); replace BXS := Lib.hid (BXS.out.below hb); replace BXT := Lib.hid (BXT.out.below hb); replace BXV := Lib.hid (BXV.out.below hb); replace BXM := Lib.hid (BXM.out.below hb); replace BXD := Lib.hid (BXD.out.below hb); replace BXX := Lib.hid (BXX.out.below hb); replace BXY := Lib.hid (BXY.out.below hb); replace HB := Lib.hid (HB.out.trans (hb.mono HB.out.size)); obtain ⟨x0, x1, x2, x3, x4, x5, x6, x7, x8, x9, x10, x11, x12, x13, x14⟩ := hHeld; have y0 := bat hb x0; have y1 := bat hb x1; have y2 := bat hb x2; have y3 := bat hb x3; have y4 := bat hb x4; have y5 := bat hb x5; have y6 := bat hb x6; have y7 := bat hb x7; have y8 := bat hb x8; have y9 := bat hb x9; have y10 := bat hb x10; have y11 := bat hb x11; have y12 := bat hb x12; have y13 := bat hb x13; have y14 := bat hb x14; clear hb x0 x1 x2 x3 x4 x5 x6 x7 x8 x9 x10 x11 x12 x13 x14; have hHeld := And.intro y0 (And.intro y1 (And.intro y2 (And.intro y3 (And.intro y4 (And.intro y5 (And.intro y6 (And.intro y7 (And.intro y8 (And.intro y9 (And.intro y10 (And.intro y11 (And.intro y12 (And.intro y13 (y14)))))))))))))); clear y0 y1 y2 y3 y4 y5 y6 y7 y8 y9 y10 y11 y12 y13 y14)
    try go_wp2_with fail
    refine hK.out _ _ ?_ (fun hHeld => ?_)
    · first | exact True.intro | ((try dsimp only); go_keep)
    clear hK K
    try simp only [lyA, lyB, lyC, Act.put, lyD, lyE, lyF]
    refine tkH (i := 4) (v := ?_) rfl (by kernel_rfl) (Or.inl ⟨by kernel_rfl, ?_⟩) (by assumption) ?_
    rotate_left 1
    · (intro w hSw; (try dsimp only at hSw); go_simp; try with_reducible rfl)
    try simp only [lyA, lyB, lyC, Act.put, lyD, lyE, lyF]
    refine tkH (i := 5) (v := ?_) rfl (by kernel_rfl) (Or.inl ⟨by kernel_rfl, ?_⟩) (by assumption) ?_
    rotate_left 1
    · (intro w hSw; (try dsimp only at hSw); go_simp; try with_reducible rfl)
    try simp only [lyA, lyB, lyC, Act.put, lyD, lyE, lyF]
    refine tkH (i := 6) (v := ?_) rfl (by kernel_rfl) (Or.inl ⟨by kernel_rfl, ?_⟩) (by assumption) ?_
    rotate_left 1
    · (intro w hSw; (try dsimp only at hSw); go_simp; try with_reducible rfl)
    try simp only [lyA, lyB, lyC, Act.put, lyD, lyE, lyF]
    refine tkH (i := 7) (v := ?_) rfl (by kernel_rfl) (Or.inl ⟨by kernel_rfl, ?_⟩) (by assumption) ?_
    rotate_left 1
    · (intro w hSw; (try dsimp only at hSw); go_simp; try with_reducible rfl)
    try simp only [lyA, lyB, lyC, Act.put, lyD, lyE, lyF]
    refine wpAnyH_ready (rs := [8]) (by kernel_rfl) (by simp) ?_
    refine AllReadyH.cons rfl (fun K hK => ?_) AllReadyH.nil
    go_simp
    (refine (is_law _ _ 7 7 noR noR w35 BXV.out.2 (noR_at _ _ _) (by decide) (by decide) (by decide) (by decide)).mono ?_; rintro e w36 ⟨rfl, hb⟩; rw [show (decide ((7 : Int) = 7) && decide ((noR : RV) = noR)) = true by simp]; replace BXZ := Lib.hid (BXZ.out.below hb); replace BXS := Lib.hid (BXS.out.below hb); replace BXT := Lib.hid (BXT.out.below hb); replace BXV := Lib.hid (BXV.out.below hb); replace BXM := Lib.hid (BXM.out.below hb); replace BXD := Lib.hid (BXD.out.below hb); replace BXX := Lib.hid (BXX.out.below hb); replace BXY := Lib.hid (BXY.out.below hb); replace HB := Lib.hid (HB.out.trans (hb.mono HB.out.size)); obtain ⟨x0, x1, x2, x3, x4, x5, x6, x7, x8, x9, x10, x11, x12, x13, x14⟩ := hHeld; have y0 := bat hb x0; have y1 := bat hb x1; have y2 := bat hb x2; have y3 := bat hb x3; have y4 := bat hb x4; have y5 := bat hb x5; have y6 := bat hb x6; have y7 := bat hb x7; have y8 := bat hb x8; have y9 := bat hb x9; have y10 := bat hb x10; have y11 := bat hb x11; have y12 := bat hb x12; have y13 := bat hb x13; have y14 := bat hb x14; clear hb x0 x1 x2 x3 x4 x5 x6 x7 x8 x9 x10 x11 x12 x13 x14; have hHeld := And.intro y0 (And.intro y1 (And.intro y2 (And.intro y3 (And.intro y4 (And.intro y5 (And.intro y6 (And.intro y7 (And.intro y8 (And.intro y9 (And.intro y10 (And.intro y11 (And.intro y12 (And.intro y13 (y14)))))))))))))); clear y0 y1 y2 y3 y4 y5 y6 y7 y8 y9 y10 y11 y12 y13 y14)
    try go_wp2_with fail
    refine hK.out _ _ ?_ (fun hHeld => ?_)
    · first | exact True.intro | ((try dsimp only); go_keep)
    clear hK K
    try simp only [lyA, lyB, lyC, Act.put, lyD, lyE, lyF]
    refine tkH (i := 9) (v := ?_) rfl (by kernel_rfl) (Or.inl ⟨by kernel_rfl, ?_⟩) (by assumption) ?_
    rotate_left 1
    · (intro w hSw; (try dsimp only at hSw); go_simp; try with_reducible rfl)
    try simp only [lyA, lyB, lyC, Act.put, lyD, lyE, lyF]
    refine tkH (i := 10) (v := ?_) rfl (by kernel_rfl) (Or.inl ⟨by kernel_rfl, ?_⟩) (by assumption) ?_
    rotate_left 1
    · (intro w hSw; (try dsimp only at hSw); go_simp; try with_reducible rfl)
    try simp only [lyA, lyB, lyC, Act.put, lyD, lyE, lyF]
    refine tkH (i := 11) (v := ?_) rfl (by kernel_rfl) (Or.inl ⟨by kernel_rfl, ?_⟩) (by assumption) ?_
    rotate_left 1
    · (intro w hSw; (try dsimp only at hSw); go_simp; try with_reducible rfl)
    try simp only [lyA, lyB, lyC, Act.put, lyD, lyE, lyF]
    refine tkH (i := 12) (v := ?_) rfl (by kernel_rfl) (Or.inl ⟨by kernel_rfl, ?_⟩) (by assumption) ?_
    rotate_left 1
    · (intro w hSw; (try dsimp only at hSw); go_simp; try with_reducible rfl)
    try simp only [lyA, lyB, lyC, Act.put, lyD, lyE, lyF]
    refine tkH (i := 13) (v := ?_) rfl (by kernel_rfl) (Or.inl ⟨by kernel_rfl, ?_⟩) (by assumption) ?_
    rotate_left 1
    · (intro w hSw; (try dsimp only at hSw); go_simp; try with_reducible rfl)
    try simp only [lyA, lyB, lyC, Act.put, lyD, lyE, lyF]
    refine wpAnyH_ready (rs := [14]) (by kernel_rfl) (by simp) ?_
    refine AllReadyH.cons rfl (fun K hK => ?_) AllReadyH.nil
    go_simp
    (refine (is_law _ _ 2 2 noR noR w36 BXD.out.2 (noR_at _ _ _) (by decide) (by decide) (by decide) (by decide)).mono ?_; rintro e w37 ⟨rfl, hb⟩; rw [show (decide ((2 : Int) = 2) && decide ((noR : RV) = noR)) = true by simp]; replace BXZ := Lib.hid (BXZ.out.below hb); replace BXS := Lib.hid (BXS.out.below hb); replace BXT := Lib.hid (BXT.out.below hb); replace BXV := Lib.hid (BXV.out.below hb); replace BXM := Lib.hid (BXM.out.below hb); replace BXD := Lib.hid (BXD.out.below hb); replace BXX := Lib.hid (BXX.out.below hb); replace BXY := Lib.hid (BXY.out.below hb); replace HB := Lib.hid (HB.out.trans (hb.mono HB.out.size)); obtain ⟨x0, x1, x2, x3, x4, x5, x6, x7, x8, x9, x10, x11, x12, x13, x14⟩ := hHeld; have y0 := bat hb x0; have y1 := bat hb x1; have y2 := bat hb x2; have y3 := bat hb x3; have y4 := bat hb x4; have y5 := bat hb x5; have y6 := bat hb x6; have y7 := bat hb x7; have y8 := bat hb x8; have y9 := bat hb x9; have y10 := bat hb x10; have y11 := bat hb x11; have y12 := bat hb x12; have y13 := bat hb x13; have y14 := bat hb x14; clear hb x0 x1 x2 x3 x4 x5 x6 x7 x8 x9 x10 x11 x12 x13 x14; have hHeld := And.intro y0 (And.intro y1 (And.intro y2 (And.intro y3 (And.intro y4 (And.intro y5 (And.intro y6 (And.intro y7 (And.intro y8 (And.intro y9 (And.intro y10 (And.intro y11 (And.intro y12 (And.intro y13 (y14)))))))))))))); clear y0 y1 y2 y3 y4 y5 y6 y7 y8 y9 y10 y11 y12 y13 y14)
    try go_wp2_with fail
    refine hK.out _ _ ?_ (fun hHeld => ?_)
    · first | exact True.intro | ((try dsimp only); go_keep)
    clear hK K
    try simp only [lyA, lyB, lyC, Act.put, lyD, lyE, lyF]
    refine tkH (i := 15) (v := ?_) rfl (by kernel_rfl) (Or.inl ⟨by kernel_rfl, ?_⟩) (by assumption) ?_
    rotate_left 1
    · (intro w hSw; (try dsimp only at hSw); go_simp; try with_reducible rfl)
    try simp only [lyA, lyB, lyC, Act.put, lyD, lyE, lyF]
    refine tkH (i := 16) (v := ?_) rfl (by kernel_rfl) (Or.inl ⟨by kernel_rfl, ?_⟩) (by assumption) ?_
    rotate_left 1
    · (intro w hSw; (try dsimp only at hSw); go_simp; try with_reducible rfl)
    try simp only [lyA, lyB, lyC, Act.put, lyD, lyE, lyF]
    refine tkH (i := 17) (v := ?_) rfl (by kernel_rfl) (Or.inl ⟨by kernel_rfl, ?_⟩) (by assumption) ?_
    rotate_left 1
    · (intro w hSw; (try dsimp only at hSw); go_simp; try with_reducible rfl)
    try simp only [lyA, lyB, lyC, Act.put, lyD, lyE, lyF]
    refine tkH (i := 18) (v := ?_) rfl (by kernel_rfl) (Or.inl ⟨by kernel_rfl, ?_⟩) (by assumption) ?_
    rotate_left 1
    · (intro w hSw; (try dsimp only at hSw); go_simp; try with_reducible rfl)
    try simp only [lyA, lyB, lyC, Act.put, lyD, lyE, lyF]
    refine tkH (i := 19) (v := ?_) rfl (by kernel_rfl) (Or.inl ⟨by kernel_rfl, ?_⟩) (by assumption) ?_
    rotate_left 1
    · (intro w hSw; (try dsimp only at hSw); go_simp; try with_reducible rfl)
    try simp only [lyA, lyB, lyC, Act.put, lyD, lyE, lyF]
    refine wpAnyH_ready (rs := [20]) (by kernel_rfl) (by simp) ?_
    refine AllReadyH.cons rfl (fun K hK => ?_) AllReadyH.nil
    go_simp
    (refine (is_law _ _ 7 7 noR noR w37 BXX.out.2 (noR_at _ _ _) (by decide) (by decide) (by decide) (by decide)).mono ?_; rintro e w38 ⟨rfl, hb⟩; rw [show (decide ((7 : Int) = 7) && decide ((noR : RV) = noR)) = true by simp]; replace BXZ := Lib.hid (BXZ.out.below hb); replace BXS := Lib.hid (BXS.out.below hb); replace BXT := Lib.hid (BXT.out.below hb); replace BXV := Lib.hid (BXV.out.below hb); replace BXM := Lib.hid (BXM.out.below hb); replace BXD := Lib.hid (BXD.out.below hb); replace BXX := Lib.hid (BXX.out.below hb); replace BXY := Lib.hid (BXY.out.below hb); replace HB := Lib.hid (HB.out.trans (hb.mono HB.out.size)); obtain ⟨x0, x1, x2, x3, x4, x5, x6, x7, x8, x9, x10, x11, x12, x13, x14⟩ := hHeld; have y0 := bat hb x0; have y1 := bat hb x1; have y2 := bat hb x2; have y3 := bat hb x3; have y4 := bat hb x4; have y5 := bat hb x5; have y6 := bat hb x6; have y7 := bat hb x7; have y8 := bat hb x8; have y9 := bat hb x9; have y10 := bat hb x10; have y11 := bat hb x11; have y12 := bat hb x12; have y13 := bat hb x13; have y14 := bat hb x14; clear hb x0 x1 x2 x3 x4 x5 x6 x7 x8 x9 x10 x11 x12 x13 x14; have hHeld := And.intro y0 (And.intro y1 (And.intro y2 (And.intro y3 (And.intro y4 (And.intro y5 (And.intro y6 (And.intro y7 (And.intro y8 (And.intro y9 (And.intro y10 (And.intro y11 (And.intro y12 (And.intro y13 (y14)))))))))))))); clear y0 y1 y2 y3 y4 y5 y6 y7 y8 y9 y10 y11 y12 y13 y14)
    try go_wp2_with fail
    refine hK.out _ _ ?_ (fun hHeld => ?_)
    · first | exact True.intro | ((try dsimp only); go_keep)
    clear hK K
    try simp only [lyA, lyB, lyC, Act.put, lyD, lyE, lyF]
    refine tkH (i := 21) (v := ?_) rfl (by kernel_rfl) (Or.inl ⟨by kernel_rfl, ?_⟩) (by assumption) ?_
    rotate_left 1
    · (intro w hSw; (try dsimp only at hSw); go_simp; try with_reducible rfl)
    try simp only [lyA, lyB, lyC, Act.put, lyD, lyE, lyF]
    refine tkH (i := 22) (v := ?_) rfl (by kernel_rfl) (Or.inl ⟨by kernel_rfl, ?_⟩) (by assumption) ?_
    rotate_left 1
    · (intro w hSw; (try dsimp only at hSw); go_simp; try with_reducible rfl)
    try simp only [lyA, lyB, lyC, Act.put, lyD, lyE, lyF]
    refine tkH (i := 23) (v := ?_) rfl (by kernel_rfl) (Or.inl ⟨by kernel_rfl, ?_⟩) (by assumption) ?_
    rotate_left 1
    · (intro w hSw; (try dsimp only at hSw); go_simp; try with_reducible rfl)
    try simp only [lyA, lyB, lyC, Act.put, lyD, lyE, lyF]
    refine tkH (i := 24) (v := ?_) rfl (by kernel_rfl) (Or.inl ⟨by kernel_rfl, ?_⟩) (by assumption) ?_
    rotate_left 1
    · (intro w hSw; (try dsimp only at hSw); go_simp; try with_reducible rfl)
    try simp only [lyA, lyB, lyC, Act.put, lyD, lyE, lyF]
    refine wpAnyH_ready (rs := [25]) (by kernel_rfl) (by simp) ?_
    refine AllReadyH.cons rfl (fun K hK => ?_) AllReadyH.nil
    go_simp
    (refine (small_law true 3 2 w38 (by decide) (by decide)).mono ?_; rintro e w39 ⟨vH, rfl, hH, hb⟩; replace BXZ := Lib.hid (BXZ.out.below hb); replace BXS := Lib.hid (BXS.out.below hb); replace BXT := Lib.hid (BXT.out.below hb); replace BXV := Lib.hid (BXV.out.below hb); replace BXM := Lib.hid (BXM.out.below hb); replace BXD := Lib.hid (BXD.out.below hb); replace BXX := Lib.hid (BXX.out.below hb); replace BXY := Lib.hid (BXY.out.below hb); replace HB := Lib.hid (HB.out.trans (hb.mono HB.out.size)); obtain ⟨x0, x1, x2, x3, x4, x5, x6, x7, x8, x9, x10, x11, x12, x13, x14⟩ := hHeld; have y0 := bat hb x0; have y1 := bat hb x1; have y2 := bat hb x2; have y3 := bat hb x3; have y4 := bat hb x4; have y5 := bat hb x5; have y6 := bat hb x6; have y7 := bat hb x7; have y8 := bat hb x8; have y9 := bat hb x9; have y10 := bat hb x10; have y11 := bat hb x11; have y12 := bat hb x12; have y13 := bat hb x13; have y14 := bat hb x14; clear hb x0 x1 x2 x3 x4 x5 x6 x7 x8 x9 x10 x11 x12 x13 x14; have hHeld := And.intro y0 (And.intro y1 (And.intro y2 (And.intro y3 (And.intro y4 (And.intro y5 (And.intro y6 (And.intro y7 (And.intro y8 (And.intro y9 (And.intro y10 (And.intro y11 (And.intro y12 (And.intro y13 (y14)))))))))))))); clear y0 y1 y2 y3 y4 y5 y6 y7 y8 y9 y10 y11 y12 y13 y14)
    try go_wp2_with fail
    refine hK.out _ _ ?_ (fun hHeld => ?_)
    · first | exact True.intro | ((try dsimp only); go_keep)
    clear hK K
    try simp only [lyA, lyB, lyC, Act.put, lyD, lyE, lyF]
    refine wpAnyH_ready (rs := [26]) (by kernel_rfl) (by simp) ?_
    refine AllReadyH.cons rfl (fun K hK => ?_) AllReadyH.nil
    go_simp
    (refine (is_law _ _ 0 0 ⟨true, [3], [2]⟩ ⟨true, [3], [2]⟩ w39 BXY.out.2 hH (by decide) (by decide) (by decide) (by decide)).mono ?_; rintro e w40 ⟨rfl, hb⟩; rw [show (decide ((0 : Int) = 0) && decide ((⟨true, [3], [2]⟩ : RV) = ⟨true, [3], [2]⟩)) = true by simp]; replace BXZ := Lib.hid (BXZ.out.below hb); replace BXS := Lib.hid (BXS.out.below hb); replace BXT := Lib.hid (BXT.out.below hb); replace BXV := Lib.hid (BXV.out.below hb); replace BXM := Lib.hid (BXM.out.below hb); replace BXD := Lib.hid (BXD.out.below hb); replace BXX := Lib.hid (BXX.out.below hb); replace BXY := Lib.hid (BXY.out.below hb); replace HB := Lib.hid (HB.out.trans (hb.mono HB.out.size)); obtain ⟨x0, x1, x2, x3, x4, x5, x6, x7, x8, x9, x10, x11, x12, x13, x14⟩ := hHeld; have y0 := bat hb x0; have y1 := bat hb x1; have y2 := bat hb x2; have y3 := bat hb x3; have y4 := bat hb x4; have y5 := bat hb x5; have y6 := bat hb x6; have y7 := bat hb x7; have y8 := bat hb x8; have y9 := bat hb x9; have y10 := bat hb x10; have y11 := bat hb x11; have y12 := bat hb x12; have y13 := bat hb x13; have y14 := bat hb x14; clear hb x0 x1 x2 x3 x4 x5 x6 x7 x8 x9 x10 x11 x12 x13 x14; have hHeld := And.intro y0 (And.intro y1 (And.intro y2 (And.intro y3 (And.intro y4 (And.intro y5 (And.intro y6 (And.intro y7 (And.intro y8 (And.intro y9 (And.intro y10 (And.intro y11 (And.intro y12 (And.intro y13 (y14)))))))))))))); clear y0 y1 y2 y3 y4 y5 y6 y7 y8 y9 y10 y11 y12 y13 y14)
    try go_wp2_with fail
    refine hK.out _ _ ?_ (fun hHeld => ?_)
    · first | exact True.intro | ((try dsimp only); go_keep)
    clear hK K
    try simp only [lyA, lyB, lyC, Act.put, lyD, lyE, lyF]
    refine tkH (i := 27) (v := ?_) rfl (by kernel_rfl) (Or.inl ⟨by kernel_rfl, ?_⟩) (by assumption) ?_
    rotate_left 1
    · (intro w hSw; (try dsimp only at hSw); go_simp; try with_reducible rfl)
    try simp only [lyA, lyB, lyC, Act.put, lyD, lyE, lyF]
    refine tkH (i := 28) (v := ?_) rfl (by kernel_rfl) (Or.inl ⟨by kernel_rfl, ?_⟩) (by assumption) ?_
    rotate_left 1
    · (intro w hSw; (try dsimp only at hSw); go_simp; try with_reducible rfl)
    try simp only [lyA, lyB, lyC, Act.put, lyD, lyE, lyF]
    refine tkH (i := 29) (v := ?_) rfl (by kernel_rfl) (Or.inl ⟨by kernel_rfl, ?_⟩) (by assumption) ?_
    rotate_left 1
    · (intro w hSw; (try dsimp only at hSw); go_simp; try with_reducible rfl)
    try simp only [lyA, lyB, lyC, Act.put, lyD, lyE, lyF]
    refine tkH (i := 30) (v := ?_) rfl (by kernel_rfl) (Or.inl ⟨by kernel_rfl, ?_⟩) (by assumption) ?_
    rotate_left 1
    · (intro w hSw; (try dsimp only at hSw); go_simp; try with_reducible rfl)
    try simp only [lyA, lyB, lyC, Act.put, lyD, lyE, lyF]
    refine tkH (i := 31) (v := ?_) rfl (by kernel_rfl) (Or.inl ⟨by kernel_rfl, ?_⟩) (by assumption) ?_
    rotate_left 1
    · (intro w hSw; (try dsimp only at hSw); go_simp; try with_reducible rfl)
    try simp only [lyA, lyB, lyC, Act.put, lyD, lyE, lyF]
    refine wpAnyH_ready (rs := [32]) (by kernel_rfl) (by simp) ?_
    refine AllReadyH.cons rfl (fun K hK => ?_) AllReadyH.nil
    go_simp
    refine hK.out _ _ ?_ (fun hHeld => ?_)
    · first | exact True.intro | ((try dsimp only); go_keep)
    clear hK K
    try simp only [lyA, lyB, lyC, Act.put, lyD, lyE, lyF]
    refine wpAnyH_done (by kernel_rfl) ?_ _
    go_upto_region 19 with fail
    clear BXT
    clear BXV
    clear BXD
    clear BXX
    clear BXY
    clear BXS
    have o1 : (FloatKind.f64.format.order 9218868437227405311 9218868437227405311 == some Ordering.eq) = true := by decide +kernel
    go_wp2_with fail
    refine (copysign_w 0 w40 (by decide)).mono ?_
    rintro e wx ⟨rfl, rfl⟩
    rw [show sw true 0 = 9223372036854775808 from rfl]
    go_wp2_with fail
    refine (same_float 9223372036854775808 w40).mono ?_
    rintro e wx ⟨rfl, rfl⟩
    go_upto_region 20 with fail
    clear o1
    go_wp2_with fail
    refine (int_ratio (-9223372036854775808) w40 (by decide) (by decide)).mono ?_
    rintro e w41 ⟨vI, rfl, hI, hb⟩
    rw [int_least] at hI
    replace BXZ := Lib.hid (BXZ.out.below hb)
    replace BXM := Lib.hid (BXM.out.below hb)
    replace HB := Lib.hid (HB.out.trans (hb.mono HB.out.size))
    clear hb
    go_wp2_with fail
    refine (small_law true 9223372036854775808 1 w41 (by decide) (by decide)).mono ?_
    rintro e w42 ⟨vJ, rfl, hJ, hb⟩
    replace hI := hI.below hb
    replace BXZ := Lib.hid (BXZ.out.below hb)
    replace BXM := Lib.hid (BXM.out.below hb)
    replace HB := Lib.hid (HB.out.trans (hb.mono HB.out.size))
    clear hb
    have HI := Lib.hid hI
    have HJ := Lib.hid hJ
    clear hI hJ
    go_wp2_with fail
    refine (same_ratio vI vJ _ _ w42 HI.out HJ.out (by decide) (by decide) (by decide) (by decide)).mono ?_
    rintro e w43 ⟨rfl, hb⟩
    rw [decide_eq_true (rfl : (⟨true, [9223372036854775808], [1]⟩ : RV) = ⟨true, [9223372036854775808], [1]⟩)]
    replace BXZ := Lib.hid (BXZ.out.below hb)
    replace BXM := Lib.hid (BXM.out.below hb)
    replace HB := Lib.hid (HB.out.trans (hb.mono HB.out.size))
    clear hb
    go_wp2_with fail
    refine (small_law false 2 4 w43 (by decide) (by decide)).mono ?_
    rintro e w44 ⟨vK, rfl, hK, hb⟩
    replace BXZ := Lib.hid (BXZ.out.below hb)
    replace BXM := Lib.hid (BXM.out.below hb)
    replace HB := Lib.hid (HB.out.trans (hb.mono HB.out.size))
    clear hb
    have HK := Lib.hid hK
    clear hK
    go_wp2_with fail
    refine (right_ratio vK ⟨false, [2], [4]⟩ w44 HK.out (by decide) (by decide)).mono ?_
    rw [half2_right]
    rintro e w45 ⟨rfl, hb⟩
    replace BXZ := Lib.hid (BXZ.out.below hb)
    replace BXM := Lib.hid (BXM.out.below hb)
    replace HB := Lib.hid (HB.out.trans (hb.mono HB.out.size))
    clear hb
    obtain ⟨⟨qM0, qM1, qM2⟩, -⟩ := BXM.out
    go_wp2_with fail
    clear qM0 qM1 qM2
    refine (right_ratio _ badRV w45 BXM.out.2 (by decide) (by decide)).mono ?_
    rw [bad_right]
    rintro e w46 ⟨rfl, hb⟩
    replace BXZ := Lib.hid (BXZ.out.below hb)
    replace BXM := Lib.hid (BXM.out.below hb)
    replace HB := Lib.hid (HB.out.trans (hb.mono HB.out.size))
    clear hb
    obtain ⟨⟨qZ0, qZ1, qZ2⟩, -⟩ := BXZ.out
    go_wp2_with fail
    clear qZ0 qZ1 qZ2
    refine (right_ratio _ zeroRV w46 BXZ.out.2 (by decide) (by decide)).mono ?_
    rw [zero_right]
    rintro e w47 ⟨rfl, hb⟩
    replace BXZ := Lib.hid (BXZ.out.below hb)
    replace BXM := Lib.hid (BXM.out.below hb)
    replace HB := Lib.hid (HB.out.trans (hb.mono HB.out.size))
    clear hb
    go_wp2_with fail
    refine (awake_law w47 (HW.out.below HB.out)).mono ?_
    rintro e w48 ⟨rfl, hb⟩
    replace HB := Lib.hid (HB.out.trans (hb.mono HB.out.size))
    clear hb
    go_wp2_with fail
    go_ret
    exact ⟨rfl, HB.out⟩

end Go.Proofs.YtjokpfgncmdomaaGreatDoor
