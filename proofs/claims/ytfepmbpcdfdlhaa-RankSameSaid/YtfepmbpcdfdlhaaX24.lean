import Derived.Test.YtfepmbpcdfdlhaaX23
set_option linter.unusedSimpArgs false
set_option linter.unusedVariables false
/- girderlaw11.RankSame: the walk -/
namespace Go.Proofs.Ytfepmbpcdfdlhaa
open Go.RowKit Go.Sort

set_option maxRecDepth 100000 in
set_option maxHeartbeats 40000000 in
theorem rankSame_law (v : Value) (r c pa pb : Int) (n : Nat) (xs : List Int) (w : World) (hg : GridAt w v r c n xs) (hpa : Z63 pa) (hpb : Z63 pb) :
    Calls Try.prog 3 #[v, .int .i64 pa, .int .i64 pb] w fun e w' => e = .returned (.bool true) ∧ Below w.heap.size w w' := by
  obtain ⟨A, cD, rfl, hx⟩ := hg.val
  have HX := Lib.hid hx
  have HG := Lib.hid hg
  have HPA := Lib.hid (And.intro hpa hpb)
  clear hg hx hpa hpb
  go_enter Try.func3, Try.ntmps3
  go_upto_region 1 with fail
  obtain ⟨wb, hwb⟩ : ∃ wb, wb = w.alloc (.cells #[.int .i64 r, .int .i64 c, .slice A n cD] 24) := ⟨_, rfl⟩
  obtain ⟨gg, hgg⟩ : ∃ gg, gg = w.heap.size := ⟨_, rfl⟩
  rw [← hgg, ← hwb]
  obtain ⟨hbb, q0, q1, q2⟩ := box3 hwb
  rw [← hgg] at q0 q1 q2
  have Q := Lib.hid (And.intro q0 (And.intro q1 q2))
  have HBB := Lib.hid hbb
  have hggl : gg < wb.heap.size := by rw [hwb, hgg]; simp
  clear hbb hwb hgg q0 q1 q2
  go_wp2_with fail
  refine (awake_any wb).mono ?_
  rintro e w1 ⟨rfl, hb1⟩
  have q0 := bat hb1 Q.out.1
  have q1 := bat hb1 Q.out.2.1
  have q2 := bat hb1 Q.out.2.2
  have Q1 := Lib.hid (And.intro q0 (And.intro q1 q2))
  have HB1 := Lib.hid (HBB.out.trans (hb1.mono HBB.out.size))
  have hgg1 : gg < w1.heap.size := Nat.lt_of_lt_of_le hggl hb1.size
  clear hb1
  go_wp2_with fail
  clear q0 q1 q2
  refine (right_grid r c n cD A w1 HG.out.r63 HG.out.c63 HG.out.ln).mono ?_
  rintro e w2 ⟨rfl, hb2⟩
  have q0 := bat hb2 Q1.out.1
  have q1 := bat hb2 Q1.out.2.1
  have q2 := bat hb2 Q1.out.2.2
  have Q2 := Lib.hid (And.intro q0 (And.intro q1 q2))
  have HB2 := Lib.hid (HB1.out.trans (hb2.mono HB1.out.size))
  have hgg2 : gg < w2.heap.size := Nat.lt_of_lt_of_le hgg1 hb2.size
  clear hb2
  cases hrg : rightG r c n with
  | false =>
    go_wp2_with fail
    go_ret
    exact ⟨rfl, HB2.out⟩
  | true =>
    obtain ⟨R, C, rfl, rfl, hR, hC, hn⟩ := rightG_nat hrg
    have HN := Lib.hid hn
    have HRG := Lib.hid hrg
    clear hn
    go_wp2_with fail
    clear q0 q1 q2
    refine (great_any _ (R : Int) (C : Int) n xs w2 (HG.out.below HB2.out)).mono ?_
    rw [hrg, Bool.and_true]
    clear hrg
    rintro e w3 ⟨rfl, hb3⟩
    have q0 := bat hb3 Q2.out.1
    have q1 := bat hb3 Q2.out.2.1
    have q2 := bat hb3 Q2.out.2.2
    have Q3 := Lib.hid (And.intro q0 (And.intro q1 q2))
    have HB3 := Lib.hid (HB2.out.trans (hb3.mono HB2.out.size))
    have hgg3 : gg < w3.heap.size := Nat.lt_of_lt_of_le hgg2 hb3.size
    clear hb3
    by_cases h400 : 400 < n
    · rw [decide_eq_true h400]
      go_wp2_with fail
      go_ret
      exact ⟨rfl, HB3.out⟩
    · rw [decide_eq_false h400]
      by_cases hR2 : R < 2
      · have hR2i : (R : Int) < 2 := by omega
        go_wp2_with fail
        go_ret
        exact ⟨rfl, HB3.out⟩
      · have hR2i : ¬ (R : Int) < 2 := by omega
        by_cases hR40 : 40 < R
        · have hR40i : 40 < (R : Int) := by omega
          go_wp2_with fail
          go_ret
          exact ⟨rfl, HB3.out⟩
        · have hR40i : ¬ 40 < (R : Int) := by omega
          go_wp2_with fail
          clear q0 q1 q2
          have hnl : n ≤ 400 := by omega
          have hZ := Lib.hid (And.intro HG.out.z63 (And.intro HG.out.r63 HG.out.c63))
          refine (copyGrid_any _ (R : Int) (C : Int) n xs w3 (HG.out.below HB3.out) (by omega)).mono ?_
          rintro e w4 ⟨v4, rfl, hg4, hb4⟩
          have HG4 := Lib.hid (hg4.grid hZ.out.1 hZ.out.2.1 hZ.out.2.2 (by omega))
          have HB4 := Lib.hid (HB3.out.trans (hb4.mono HB3.out.size))
          have Q4 := Lib.hid (And.intro (bat hb4 Q3.out.1) (And.intro (bat hb4 Q3.out.2.1) (bat hb4 Q3.out.2.2)))
          clear hg4 hb4
          go_wp2_with fail
          refine (rank_any v4 (R : Int) (C : Int) n xs w4 HG4.out).mono ?_
          rintro e w5 ⟨hb5, hp5⟩
          rcases hp5 with ⟨_, V1, base1, rfl, _, _, hown1⟩ | ⟨hf, _⟩
          · obtain ⟨s, hs⟩ : ∃ s, s = gS (R : Int) (C : Int) xs := ⟨_, rfl⟩
            rw [← hs] at hown1 ⊢
            obtain ⟨A1, c1, rfl, _, _⟩ := own_slice hown1.own
            have hrd := (RdE.of_own (f := Ic) (fun _ => rfl) (by decide) hown1.own).imp (S' := fun b => b < w5.heap.size) (fun b h => h.2.1)
            have HRD := Lib.hid hrd
            have HS := Lib.hid hs
            have HB5 := Lib.hid (HB4.out.trans (hb5.mono HB4.out.size))
            have q0 := bat hb5 Q4.out.1
            have q1 := bat hb5 Q4.out.2.1
            have q2 := bat hb5 Q4.out.2.2
            have Q5 := Lib.hid (And.intro q0 (And.intro q1 q2))
            clear hown1 hrd hs hb5
            go_wp2_with fail
            clear q0 q1 q2
            refine (copyGrid_any _ (R : Int) (C : Int) n xs w5 (HG.out.below HB5.out) (by omega)).mono ?_
            rintro e w6 ⟨v6, rfl, hg6, hb6⟩
            have HG6 := Lib.hid (hg6.grid hZ.out.1 hZ.out.2.1 hZ.out.2.2 (by omega))
            have HB6 := Lib.hid hb6
            clear hg6 hb6
            go_wp2_with fail
            refine (kernel_any v6 (R : Int) (C : Int) n xs w6 HG6.out).mono ?_
            rintro e w7 ⟨hb7, hp7⟩
            rcases hp7 with ⟨_, VK, rfl, hrows⟩ | ⟨hf, _⟩
            · rw [← HS.out, Int.toNat_natCast] at hrows
              obtain ⟨Ak, ck, _, rfl, _, _⟩ := hrows.at_
              have hb57 := HB6.out.trans (hb7.mono HB6.out.size)
              have HB7 := Lib.hid (HB5.out.trans (hb57.mono HB5.out.size))
              have HRD7 := Lib.hid (HRD.out.blw hb57)
              have HROWS := Lib.hid hrows
              have q0 := bat hb57 Q5.out.1
              have q1 := bat hb57 Q5.out.2.1
              have q2 := bat hb57 Q5.out.2.2
              have Q7 := Lib.hid (And.intro q0 (And.intro q1 q2))
              have hgg7 : gg < w7.heap.size := World.block_lt_of_cell? w7 ⟨gg, 0, none⟩ q0
              clear hrows hb57 hb7
              go_upto_region 7 with fail
              obtain ⟨we, hwe⟩ : ∃ we, we = w7.drew := ⟨_, rfl⟩
              have hbe : Below w7.heap.size w7 we := by rw [hwe]; exact (Below.refl _ _).drew
              have HBE := Lib.hid hbe
              have X0 := Lib.hid (bat hbe q0)
              have y0 := X0.out
              rw [hwe] at y0
              have HWE := Lib.hid hwe
              clear hbe hwe q0 q1 q2
              refine wp_region_held_drew (S := (fun w' => w'.cell? ⟨gg, 0, none⟩ = some (.int .i64 (R : Int)))) (by kernel_rfl) ?_ (fun hHeld => ?_)
              · first | exact True.intro | ((try dsimp only); go_keep)
              refine tkH (i := 0) (v := ?_) rfl (by kernel_rfl) (Or.inl ⟨by kernel_rfl, ?_⟩) (by assumption) ?_
              rotate_left 1
              · (intro w hSw; (try dsimp only at hSw); go_simp; try with_reducible rfl)
              try simp only [lyA, lyB, lyC, Act.put, lyD, lyE, lyF]
              refine tkH (i := 1) (v := ?_) rfl (by kernel_rfl) (Or.inl ⟨by kernel_rfl, ?_⟩) (by assumption) ?_
              rotate_left 1
              · (intro w hSw; (try dsimp only at hSw); go_simp; try with_reducible rfl)
              try simp only [lyA, lyB, lyC, Act.put, lyD, lyE, lyF]
              refine tkH (i := 2) (v := ?_) rfl (by kernel_rfl) (Or.inl ⟨by kernel_rfl, ?_⟩) (by assumption) ?_
              rotate_left 1
              · (intro w hSw; (try dsimp only at hSw); go_simp; try with_reducible rfl)
              try simp only [lyA, lyB, lyC, Act.put, lyD, lyE, lyF]
              refine tkH (i := 4) (v := ?_) rfl (by kernel_rfl) (Or.inl ⟨by kernel_rfl, ?_⟩) (by assumption) ?_
              rotate_left 1
              · (intro w hSw; (try dsimp only at hSw); go_simp; try with_reducible rfl)
              try simp only [lyA, lyB, lyC, Act.put, lyD, lyE, lyF]
              refine tkH (i := 5) (v := ?_) rfl (by kernel_rfl) (Or.inl ⟨by kernel_rfl, ?_⟩) (by assumption) ?_
              rotate_left 1
              · (intro w hSw; (try dsimp only at hSw); go_simp; try with_reducible rfl)
              try simp only [lyA, lyB, lyC, Act.put, lyD, lyE, lyF]
              refine tkH (i := 6) (v := ?_) rfl (by kernel_rfl) (Or.inl ⟨by kernel_rfl, ?_⟩) (by assumption) ?_
              rotate_left 1
              · (intro w hSw; (try dsimp only at hSw); go_simp; try with_reducible rfl)
              try simp only [lyA, lyB, lyC, Act.put, lyD, lyE, lyF]
              rw [← HWE.out]
              clear y0
              have y0 := X0.out
              refine wpAnyH_ready (rs := [3]) (by kernel_rfl) (by simp) ?_
              refine AllReadyH.cons rfl (fun K hK => ?_) AllReadyH.nil
              go_simp
              (refine (pick_any pa (R : Int) we HPA.out.1 (by omega) (by omega)).mono ?_; rintro e w' ⟨⟨a, rfl, ha⟩, rfl⟩)
              try go_wp2_with fail
              refine hK.out _ _ ?_ (fun hHeld => ?_)
              · first | exact True.intro | ((try dsimp only); go_keep)
              clear hK K
              try simp only [lyA, lyB, lyC, Act.put, lyD, lyE, lyF]
              refine wpAnyH_ready (rs := [7]) (by kernel_rfl) (by simp) ?_
              refine AllReadyH.cons rfl (fun K hK => ?_) AllReadyH.nil
              go_simp
              (refine (pick_any pb (R : Int) we HPA.out.2 (by omega) (by omega)).mono ?_; rintro e w' ⟨⟨b, rfl, hb⟩, rfl⟩)
              try go_wp2_with fail
              refine hK.out _ _ ?_ (fun hHeld => ?_)
              · first | exact True.intro | ((try dsimp only); go_keep)
              clear hK K
              try simp only [lyA, lyB, lyC, Act.put, lyD, lyE, lyF]
              refine wpAnyH_ready (rs := [8]) (by kernel_rfl) (by simp) ?_
              refine AllReadyH.cons rfl (fun K hK => ?_) AllReadyH.nil
              go_simp
              refine hK.out _ _ ?_ (fun hHeld => ?_)
              · first | exact True.intro | ((try dsimp only); go_keep)
              clear hK K
              try simp only [lyA, lyB, lyC, Act.put, lyD, lyE, lyF]
              refine wpAnyH_ready (rs := [9]) (by kernel_rfl) (by simp) ?_
              refine AllReadyH.cons rfl (fun K hK => ?_) AllReadyH.nil
              go_simp
              refine hK.out _ _ ?_ (fun hHeld => ?_)
              · first | exact True.intro | ((try dsimp only); go_keep)
              clear hK K
              try simp only [lyA, lyB, lyC, Act.put, lyD, lyE, lyF]
              refine wpAnyH_done (by kernel_rfl) ?_ _
              clear hHeld y0
              have han : a < R := by omega
              have hbn : b < R := by omega
              have Q7e := Lib.hid (And.intro (bat HBE.out Q7.out.1) (And.intro (bat HBE.out Q7.out.2.1) (bat HBE.out Q7.out.2.2)))
              have HB7e := Lib.hid (HB7.out.trans (HBE.out.mono HB7.out.size))
              have HRDe := Lib.hid (HRD7.out.blw HBE.out)
              have HROWe := Lib.hid (HROWS.out.below HBE.out)
              have HGe := Lib.hid (HG.out.below HB7e.out)
              have HXe := Lib.hid (HX.out.blw HB7e.out)
              have q0 := Q7e.out.1
              have q1 := Q7e.out.2.1
              have q2 := Q7e.out.2.2
              go_wp2_with fail
              clear q0 q1 q2
              refine (copyGrid_any _ (R : Int) (C : Int) n xs we HGe.out (by omega)).mono ?_
              rintro e w8 ⟨v8, rfl, hg8, hb8⟩
              obtain ⟨V8, rfl, hown8⟩ := hg8.val
              obtain ⟨A8, c8, rfl, _, _⟩ := own_slice hown8.own
              go_upto_region 9 with fail
              obtain ⟨w9, hw9⟩ : ∃ w9, w9 = w8.alloc (.cells #[.int .i64 (R : Int), .int .i64 (C : Int), .slice A8 n c8] 24) := ⟨_, rfl⟩
              obtain ⟨gh, hgh⟩ : ∃ gh, gh = w8.heap.size := ⟨_, rfl⟩
              rw [← hw9, ← hgh]
              have hst : HI we w9 gg gh R C n R C A cD (.slice A8 n c8) xs := by
                obtain ⟨hb9, z0, z1, z2⟩ := box3 hw9
                have hblk : w9.heap[gh]? = some (.cells #[.int .i64 (R : Int), .int .i64 (C : Int), .slice A8 n c8] 24 (0, 0)) := by rw [hw9, hgh]; exact blk_new ..
                rw [← hgh] at z0 z1 z2
                have hl : xs.length = n := HX.out.num
                refine ⟨hb8.trans (hb9.mono hb8.size), Q7e.out.2.1, Q7e.out.1, Q7e.out.2.2, z0, z1, z2, fun j => frozen_of_row _ gh j _ _ hblk, ?_, by rw [hgh]; exact hb8.size, fun e => ?_, hZ.out.1⟩
                · rw [hl]; exact hown8.below hb9
                · have h1 := (hown8.own.lt gh e).2
                  omega
              have HST := Lib.hid hst
              clear hg8 hb8 hown8 hw9 hgh hst
              go_wp2_with fail
              go_loopw [13] (fun kv wr => ∃ (k : Nat) (V : Value), k ≤ C ∧ kv = .int .i64 k ∧ HI we wr gg gh R C n R C A cD V (swk xs a b C k)) (fun kv _ => C - (intOf kv).toNat)
              case atStart => exact ⟨0, _, Nat.zero_le _, rfl, HST.out⟩
              case round =>
                obtain ⟨k, V, hk, rfl, hi⟩ := hrel
                have HH := Lib.hid hi
                have g1 := bat hi.b hi.g1
                clear hi
                by_cases hlk : k < C
                · have hlki : (k : Int) < (C : Int) := by omega
                  obtain ⟨oa, hoa⟩ : ∃ oa, oa = a * C := ⟨_, rfl⟩
                  obtain ⟨ob, hob⟩ : ∃ ob, ob = b * C := ⟨_, rfl⟩
                  have hoai : (a : Int) * (C : Int) = (oa : Int) := by rw [hoa]; simp
                  have hobi : (b : Int) * (C : Int) = (ob : Int) := by rw [hob]; simp
                  obtain ⟨ja, hja⟩ : ∃ ja, ja = oa + k := ⟨_, rfl⟩
                  obtain ⟨jb, hjb⟩ : ∃ jb, jb = ob + k := ⟨_, rfl⟩
                  have hjai : (oa : Int) + (k : Int) = (ja : Int) := by omega
                  have hjbi : (ob : Int) + (k : Int) = (jb : Int) := by omega
                  have hjan : ja < n := by rw [hja, hoa, HN.out]; exact idx_lt han hlk
                  have hjbn : jb < n := by rw [hjb, hob, HN.out]; exact idx_lt hbn hlk
                  have HJ := Lib.hid (And.intro (show ja = a * C + k by rw [hja, hoa]) (show jb = b * C + k by rw [hjb, hob]))
                  have hoan : oa ≤ n := by omega
                  have hobn : ob ≤ n := by omega
                  obtain ⟨b1, o1, rfl, e1⟩ := HXe.out.elemZ hjan
                  obtain ⟨b2, o2, eA, e2⟩ := HXe.out.elemZ hjbn
                  injection eA with eA
                  injection eA with eA1 eA2
                  subst eA1 eA2
                  obtain ⟨x, hx⟩ : ∃ x, x = xs.getD ja 0 := ⟨_, rfl⟩
                  obtain ⟨y, hy⟩ : ∃ y, y = xs.getD jb 0 := ⟨_, rfl⟩
                  rw [← hx] at e1
                  rw [← hy] at e2
                  have r1 := cell_regrown g1
                  have r2 := cell_regrown (bat HH.out.b HH.out.g2)
                  have r3 := cell_regrown (bat HH.out.b e1)
                  have r4 := cell_regrown (bat HH.out.b e2)
                  have HXY := Lib.hid (And.intro hx hy)
                  clear hoa hob hja hjb e1 e2 hx hy
                  go_upto_region 12 with fail
                  clear g1
                  refine wp_region_quiet_below (by kernel_rfl) (by kernel_rfl) ?_
                  repeat (first | go_big_quiet_step (fail) | quiet_step (fail))
                  refine wpQuiet_nil ?_
                  intro wq hwq
                  have hbq := below_class hwq
                  clear hwq
                  clear r1 r2 r3 r4
                  have hiq := HH.out.below hbq
                  have hlen : (swk xs a b C k).length = n := by rw [swk_len]; exact HXe.out.num
                  obtain ⟨gd, cd, hV⟩ := hiq.own.some (by rw [hlen]; omega)
                  rw [hlen] at hV
                  subst hV
                  obtain ⟨wd, hwd⟩ : ∃ wd, wd = wq.drew := ⟨_, rfl⟩
                  have hbd : Below wq.heap.size wq wd := by rw [hwd]; exact (Below.refl _ _).drew
                  have hid := hiq.below hbd
                  have HD := Lib.hid hid
                  have y1 := bat hid.b hid.g1
                  have y2 := hid.h2
                  have Y1 := Lib.hid y1
                  have Y2 := Lib.hid y2
                  rw [hwd] at y1 y2
                  have HWD := Lib.hid hwd
                  have HLEN := Lib.hid hlen
                  have hown := hid.own
                  rw [hlen] at hown
                  obtain ⟨z1, f1⟩ := hown.elemZ hjan
                  have hid1 := hid.set (j := ja) (by rw [hlen]; exact hjan) (z := y) (by rw [HXY.out.2]; exact z63_getD hZ.out.1 _)
                  have hown1 := hid1.own
                  rw [List.length_set, hlen] at hown1
                  obtain ⟨z2, f2⟩ := hown1.elemZ hjbn
                  have hid2 := hid1.set (j := jb) (by rw [List.length_set, hlen]; exact hjbn) (z := x) (by rw [HXY.out.1]; exact z63_getD hZ.out.1 _)
                  have HD2 := Lib.hid hid2
                  obtain ⟨w21, hw21⟩ : ∃ w21, w21 = wd.setCell ⟨gd, ja, none⟩ (.int .i64 y) := ⟨_, rfl⟩
                  have p1 := bat hid1.b hid1.g1
                  have p2 := hid1.h2
                  have Z2 := Lib.hid (And.intro z2 (And.intro f2 (And.intro p1 p2)))
                  obtain ⟨w22, hw22⟩ : ∃ w22, w22 = (wd.setCell ⟨gd, ja, none⟩ (.int .i64 y)).setCell ⟨gd, jb, none⟩ (.int .i64 x) := ⟨_, rfl⟩
                  have s1 := bat hid2.b hid2.g1
                  have s2 := hid2.h2
                  have HW22 := Lib.hid hw22
                  have Z1 := Lib.hid (And.intro z1 f1)
                  have S12 := Lib.hid (And.intro s1 s2)
                  clear hbq hiq hlen hwd hbd hid hown z1 f1 hid1 hown1 z2 f2 hid2 hw21 p1 p2 hw22 s1 s2
                  have hw1 : IntKind.i64.wrap (oa : Int) = (oa : Int) := IntWalk.i64_in _ (by omega)
                  have hw2 : IntKind.i64.wrap (ob : Int) = (ob : Int) := IntWalk.i64_in _ (by omega)
                  have hw3 : IntKind.i64.wrap (ja : Int) = (ja : Int) := IntWalk.i64_in _ (by omega)
                  have hw4 : IntKind.i64.wrap (jb : Int) = (jb : Int) := IntWalk.i64_in _ (by omega)
                  have hji1 : (ja : Int) < (n : Int) := by omega
                  have hji2 : (jb : Int) < (n : Int) := by omega
                  go_upto_region 13 with fail
                  refine wp_region_held_drew (S := (fun w' => w'.cell? ⟨gg, 1, none⟩ = some (.int .i64 (C : Int)) ∧ w'.cell? ⟨gh, 2, none⟩ = some (.slice (some ⟨gd, 0, none⟩) n cd))) (by kernel_rfl) ?_ (fun hHeld => ?_)
                  · first | exact True.intro | ((try dsimp only); go_keep)
                  refine tkH (i := 0) (v := ?_) rfl (by kernel_rfl) (Or.inl ⟨by kernel_rfl, ?_⟩) (by assumption) ?_
                  rotate_left 1
                  · (intro w hSw; (try dsimp only at hSw); go_simp; try with_reducible rfl)
                  try simp only [lyA, lyB, lyC, Act.put, lyD, lyE, lyF]
                  refine tkH (i := 1) (v := ?_) rfl (by kernel_rfl) (Or.inl ⟨by kernel_rfl, ?_⟩) (by assumption) ?_
                  rotate_left 1
                  · (intro w hSw; (try dsimp only at hSw); go_simp; try with_reducible rfl)
                  try simp only [lyA, lyB, lyC, Act.put, lyD, lyE, lyF]
                  refine tkH (i := 2) (v := ?_) rfl (by kernel_rfl) (Or.inl ⟨by kernel_rfl, ?_⟩) (by assumption) ?_
                  rotate_left 1
                  · (intro w hSw; (try dsimp only at hSw); go_simp; try with_reducible rfl)
                  try simp only [lyA, lyB, lyC, Act.put, lyD, lyE, lyF]
                  refine tkH (i := 3) (v := ?_) rfl (by kernel_rfl) (Or.inl ⟨by kernel_rfl, ?_⟩) (by assumption) ?_
                  rotate_left 1
                  · (intro w hSw; (try dsimp only at hSw); go_simp; try with_reducible rfl)
                  try simp only [lyA, lyB, lyC, Act.put, lyD, lyE, lyF]
                  refine tkH (i := 4) (v := ?_) rfl (by kernel_rfl) (Or.inl ⟨by kernel_rfl, ?_⟩) (by assumption) ?_
                  rotate_left 1
                  · (intro w hSw; (try dsimp only at hSw); go_simp; try with_reducible rfl)
                  try simp only [lyA, lyB, lyC, Act.put, lyD, lyE, lyF]
                  refine tkH (i := 5) (v := ?_) rfl (by kernel_rfl) (Or.inl ⟨by kernel_rfl, ?_⟩) (by assumption) ?_
                  rotate_left 1
                  · (intro w hSw; (try dsimp only at hSw); go_simp; try with_reducible rfl)
                  try simp only [lyA, lyB, lyC, Act.put, lyD, lyE, lyF]
                  refine tkH (i := 6) (v := ?_) rfl (by kernel_rfl) (Or.inl ⟨by kernel_rfl, ?_⟩) (by assumption) ?_
                  rotate_left 1
                  · (intro w hSw; (try dsimp only at hSw); go_simp; try with_reducible rfl)
                  try simp only [lyA, lyB, lyC, Act.put, lyD, lyE, lyF]
                  refine tkH (i := 7) (v := ?_) rfl (by kernel_rfl) (Or.inl ⟨by kernel_rfl, ?_⟩) (by assumption) ?_
                  rotate_left 1
                  · (intro w hSw; (try dsimp only at hSw); go_simp; try with_reducible rfl)
                  try simp only [lyA, lyB, lyC, Act.put, lyD, lyE, lyF]
                  refine tkH (i := 8) (v := ?_) rfl (by kernel_rfl) (Or.inl ⟨by kernel_rfl, ?_⟩) (by assumption) ?_
                  rotate_left 1
                  · (intro w hSw; (try dsimp only at hSw); go_simp; try with_reducible rfl)
                  try simp only [lyA, lyB, lyC, Act.put, lyD, lyE, lyF]
                  refine tkH (i := 9) (v := ?_) rfl (by kernel_rfl) (Or.inl ⟨by kernel_rfl, ?_⟩) (by assumption) ?_
                  rotate_left 1
                  · (intro w hSw; (try dsimp only at hSw); go_simp; try with_reducible rfl)
                  try simp only [lyA, lyB, lyC, Act.put, lyD, lyE, lyF]
                  refine tkH (i := 10) (v := ?_) rfl (by kernel_rfl) (Or.inl ⟨by kernel_rfl, ?_⟩) (by assumption) ?_
                  rotate_left 1
                  · (intro w hSw; (try dsimp only at hSw); go_simp; try with_reducible rfl)
                  try simp only [lyA, lyB, lyC, Act.put, lyD, lyE, lyF]
                  refine tkH (i := 11) (v := ?_) rfl (by kernel_rfl) (Or.inl ⟨by kernel_rfl, ?_⟩) (by assumption) ?_
                  rotate_left 1
                  · (intro w hSw; (try dsimp only at hSw); go_simp; try with_reducible rfl)
                  try simp only [lyA, lyB, lyC, Act.put, lyD, lyE, lyF]
                  refine tkH (i := 12) (v := ?_) rfl (by kernel_rfl) (Or.inl ⟨by kernel_rfl, ?_⟩) (by assumption) ?_
                  rotate_left 1
                  · (intro w hSw; (try dsimp only at hSw); go_simp; try with_reducible rfl)
                  try simp only [lyA, lyB, lyC, Act.put, lyD, lyE, lyF]
                  refine tkH (i := 13) (v := ?_) rfl (by kernel_rfl) (Or.inl ⟨by kernel_rfl, ?_⟩) (by assumption) ?_
                  rotate_left 1
                  · (intro w hSw; (try dsimp only at hSw); go_simp; try with_reducible rfl)
                  try simp only [lyA, lyB, lyC, Act.put, lyD, lyE, lyF]
                  refine tkH (i := 14) (v := ?_) rfl (by kernel_rfl) (Or.inl ⟨by kernel_rfl, ?_⟩) (by assumption) ?_
                  rotate_left 1
                  · (intro w hSw; (try dsimp only at hSw); go_simp; try with_reducible rfl)
                  try simp only [lyA, lyB, lyC, Act.put, lyD, lyE, lyF]
                  refine tkH (i := 15) (v := ?_) rfl (by kernel_rfl) (Or.inl ⟨by kernel_rfl, ?_⟩) (by assumption) ?_
                  rotate_left 1
                  · (intro w hSw; (try dsimp only at hSw); go_simp; try with_reducible rfl)
                  try simp only [lyA, lyB, lyC, Act.put, lyD, lyE, lyF]
                  refine tkH (i := 16) (v := ?_) rfl (by kernel_rfl) (Or.inl ⟨by kernel_rfl, ?_⟩) (by assumption) ?_
                  rotate_left 1
                  · (intro w hSw; (try dsimp only at hSw); go_simp; try with_reducible rfl)
                  try simp only [lyA, lyB, lyC, Act.put, lyD, lyE, lyF]
                  refine tkH (i := 17) (v := ?_) rfl (by kernel_rfl) (Or.inl ⟨by kernel_rfl, ?_⟩) (by assumption) ?_
                  rotate_left 1
                  · (intro w hSw; (try dsimp only at hSw); go_simp; try with_reducible rfl)
                  try simp only [lyA, lyB, lyC, Act.put, lyD, lyE, lyF]
                  refine tkH (i := 18) (v := ?_) rfl (by kernel_rfl) (Or.inl ⟨by kernel_rfl, ?_⟩) (by assumption) ?_
                  rotate_left 1
                  · (intro w hSw; (try dsimp only at hSw); go_simp; try with_reducible rfl)
                  try simp only [lyA, lyB, lyC, Act.put, lyD, lyE, lyF]
                  rw [← HWD.out]
                  clear y1 y2
                  have z1 := Z1.out.1
                  have f1 := Z1.out.2
                  have p1 := Z2.out.2.2.1
                  have p2 := Z2.out.2.2.2
                  refine wpAnyH_ready (rs := [19]) (by kernel_rfl) (by simp) ?_
                  refine AllReadyH.cons rfl (fun K hK => ?_) AllReadyH.nil
                  go_simp
                  refine hK.out _ _ ?_ (fun hHeld => ?_)
                  · first | exact True.intro | ((try dsimp only); go_keep)
                  clear hK K
                  try simp only [lyA, lyB, lyC, Act.put, lyD, lyE, lyF]
                  refine tkH (i := 20) (v := ?_) rfl (by kernel_rfl) (Or.inl ⟨by kernel_rfl, ?_⟩) (by assumption) ?_
                  rotate_left 1
                  · (intro w hSw; (try dsimp only at hSw); go_simp; try with_reducible rfl)
                  try simp only [lyA, lyB, lyC, Act.put, lyD, lyE, lyF]
                  clear z1 f1 p1 p2
                  have z2 := Z2.out.1
                  have f2 := Z2.out.2.1
                  have s1 := S12.out.1
                  have s2 := S12.out.2
                  refine wpAnyH_ready (rs := [21]) (by kernel_rfl) (by simp) ?_
                  refine AllReadyH.cons rfl (fun K hK => ?_) AllReadyH.nil
                  go_simp
                  refine hK.out _ _ ?_ (fun hHeld => ?_)
                  · first | exact True.intro | ((try dsimp only); go_keep)
                  clear hK K
                  try simp only [lyA, lyB, lyC, Act.put, lyD, lyE, lyF]
                  refine wpAnyH_done (by kernel_rfl) ?_ _
                  clear z2 f2 s1 s2 hHeld
                  go_wp2_with fail
                  refine ⟨⟨k + 1, .slice (some ⟨gd, 0, none⟩) n cd, by omega, by go_num, ?_⟩, by simp [intOf]; omega⟩
                  have e : swk xs a b C (k + 1) = ((swk xs a b C k).set ja y).set jb x := by rw [swk, HXY.out.1, HXY.out.2, HJ.out.1, HJ.out.2]
                  rw [e]
                  exact HD2.out
                · obtain rfl : C = k := by omega
                  have hnlc : ¬ ((C : Int) < (C : Int)) := by omega
                  go_upto_region 14 with fail
                  clear g1
                  obtain ⟨wf, hwf⟩ : ∃ wf, wf = wr := ⟨_, rfl⟩
                  rw [← hwf] at HH ⊢
                  clear hwf
                  obtain ⟨zs, hzs⟩ : ∃ zs, zs = swk xs a b C C := ⟨_, rfl⟩
                  rw [← hzs] at HH
                  have HZS := Lib.hid hzs
                  have hzl : zs.length = n := by rw [hzs, swk_len]; exact HXe.out.num
                  clear hzs
                  obtain ⟨rw9, hrw9⟩ : ∃ rw9, rw9 = (xs.drop (a * C)).take C := ⟨_, rfl⟩
                  have HRW := Lib.hid hrw9
                  have hrwl : rw9.length = C := by rw [hrw9]; exact row_len (by rw [HX.out.num, HN.out]) han
                  clear hrw9
                  obtain ⟨i6, hi6, hy60, hy61, hy62⟩ := info_parts' info_i64
                  go_wp2_with fail
                  go_loopw [16] (fun kv wr => ∃ (k : Nat) (V : Value), k ≤ C ∧ kv = .int .i64 k ∧ HI we wr gg gh R C n R C A cD V (zs ++ rw9.take k)) (fun kv _ => C - (intOf kv).toNat)
                  case atStart => exact ⟨0, _, Nat.zero_le _, rfl, by rw [List.take_zero, List.append_nil]; exact HH.out⟩
                  case round =>
                    obtain ⟨k, V2, hk, rfl, hi⟩ := hrel
                    have HH2 := Lib.hid hi
                    have g1 := bat hi.b hi.g1
                    clear hi
                    by_cases hlk : k < C
                    · have hlki : (k : Int) < (C : Int) := by omega
                      obtain ⟨oa, hoa⟩ : ∃ oa, oa = a * C := ⟨_, rfl⟩
                      have hoai : (a : Int) * (C : Int) = (oa : Int) := by rw [hoa]; simp
                      obtain ⟨ja, hja⟩ : ∃ ja, ja = oa + k := ⟨_, rfl⟩
                      have hjai : (oa : Int) + (k : Int) = (ja : Int) := by omega
                      have hjan : ja < n := by rw [hja, hoa, HN.out]; exact idx_lt han hlk
                      have hoan : oa ≤ n := by omega
                      obtain ⟨b1, o1, rfl, e1⟩ := HXe.out.elemZ hjan
                      obtain ⟨x, hx⟩ : ∃ x, x = xs.getD ja 0 := ⟨_, rfl⟩
                      rw [← hx] at e1
                      have hxz : Z63 x := by rw [hx]; exact z63_getD hZ.out.1 _
                      have hrk : rw9.take (k + 1) = rw9.take k ++ [x] := by
                        have hgx : rw9[k]? = some x := by
                          rw [HRW.out, List.getElem?_take_of_lt hlk, List.getElem?_drop, hx, hja, hoa, List.getD_eq_getElem?_getD]
                          obtain ⟨y, hy⟩ := get_some HXe.out.num (show a * C + k < n by rw [← hoa, ← hja]; exact hjan)
                          rw [hy]; rfl
                        rw [List.take_add_one, hgx]; rfl
                      have HRK := Lib.hid hrk
                      have HXZ := Lib.hid hxz
                      have hw1 : IntKind.i64.wrap (oa : Int) = (oa : Int) := IntWalk.i64_in _ (by omega)
                      have hw3 : IntKind.i64.wrap (ja : Int) = (ja : Int) := IntWalk.i64_in _ (by omega)
                      have hji1 : (ja : Int) < (n : Int) := by omega
                      obtain ⟨Av, nv, cv, hV2⟩ : ∃ Av nv cv, V2 = .slice Av nv cv := by obtain ⟨A1, c1, e, _⟩ := own_slice HH2.out.own.own; exact ⟨A1, _, c1, e⟩
                      subst hV2
                      obtain ⟨wd, hwd⟩ : ∃ wd, wd = wr.drew := ⟨_, rfl⟩
                      have hbd : Below wr.heap.size wr wd := by rw [hwd]; exact (Below.refl _ _).drew
                      have hid := HH2.out.below hbd
                      have HD := Lib.hid hid
                      have Y1 := Lib.hid (bat hid.b hid.g1)
                      have Y2 := Lib.hid (bat hid.b hid.g2)
                      have Y3 := Lib.hid hid.h2
                      have Y4 := Lib.hid (bat hid.b e1)
                      have y1 := Y1.out
                      have y2 := Y2.out
                      have y3 := Y3.out
                      have y4 := Y4.out
                      rw [hwd] at y1 y2 y3 y4
                      have HWD := Lib.hid hwd
                      clear hoa hja hx hrk hxz e1 hbd hid hwd
                      go_upto_region 17 with fail
                      clear g1
                      refine wp_region_G (S := (fun w' => w'.cell? ⟨gg, 1, none⟩ = some (.int .i64 (C : Int)) ∧ w'.cell? ⟨gg, 2, none⟩ = some (.slice (some ⟨b1, o1, none⟩) n cD) ∧ w'.cell? ⟨gh, 2, none⟩ = some (.slice Av nv cv) ∧ w'.cell? ⟨b1, o1 + ja, none⟩ = some (.int .i64 x))) 13 (by kernel_rfl) ?_ (fun hHeld => ?_)
                      · first | exact True.intro | ((try dsimp only); go_keep)
                      refine wpAnyG_take (i := 0) (v := ?_) rfl (by kernel_rfl) (by kernel_rfl) (by kernel_rfl) (by kernel_rfl) 30 (by kernel_rfl) (fun _ _ _ h => h) (Or.inl ⟨by kernel_rfl, ?_⟩) (by assumption) ?_
                      rotate_left 1
                      · (intro w hSw; (try dsimp only at hSw); go_simp; try with_reducible rfl)
                      try simp only [lyA, lyB, lyC, Act.put, lyD, lyE, lyF]
                      refine wpAnyG_take (i := 1) (v := ?_) rfl (by kernel_rfl) (by kernel_rfl) (by kernel_rfl) (by kernel_rfl) 30 (by kernel_rfl) (fun _ _ _ h => h) (Or.inl ⟨by kernel_rfl, ?_⟩) (by assumption) ?_
                      rotate_left 1
                      · (intro w hSw; (try dsimp only at hSw); go_simp; try with_reducible rfl)
                      try simp only [lyA, lyB, lyC, Act.put, lyD, lyE, lyF]
                      refine wpAnyG_take (i := 2) (v := ?_) rfl (by kernel_rfl) (by kernel_rfl) (by kernel_rfl) (by kernel_rfl) 30 (by kernel_rfl) (fun _ _ _ h => h) (Or.inl ⟨by kernel_rfl, ?_⟩) (by assumption) ?_
                      rotate_left 1
                      · (intro w hSw; (try dsimp only at hSw); go_simp; try with_reducible rfl)
                      try simp only [lyA, lyB, lyC, Act.put, lyD, lyE, lyF]
                      refine wpAnyG_take (i := 3) (v := ?_) rfl (by kernel_rfl) (by kernel_rfl) (by kernel_rfl) (by kernel_rfl) 30 (by kernel_rfl) (fun _ _ _ h => h) (Or.inl ⟨by kernel_rfl, ?_⟩) (by assumption) ?_
                      rotate_left 1
                      · (intro w hSw; (try dsimp only at hSw); go_simp; try with_reducible rfl)
                      try simp only [lyA, lyB, lyC, Act.put, lyD, lyE, lyF]
                      refine wpAnyG_take (i := 4) (v := ?_) rfl (by kernel_rfl) (by kernel_rfl) (by kernel_rfl) (by kernel_rfl) 30 (by kernel_rfl) (fun _ _ _ h => h) (Or.inl ⟨by kernel_rfl, ?_⟩) (by assumption) ?_
                      rotate_left 1
                      · (intro w hSw; (try dsimp only at hSw); go_simp; try with_reducible rfl)
                      try simp only [lyA, lyB, lyC, Act.put, lyD, lyE, lyF]
                      refine wpAnyG_take (i := 5) (v := ?_) rfl (by kernel_rfl) (by kernel_rfl) (by kernel_rfl) (by kernel_rfl) 30 (by kernel_rfl) (fun _ _ _ h => h) (Or.inl ⟨by kernel_rfl, ?_⟩) (by assumption) ?_
                      rotate_left 1
                      · (intro w hSw; (try dsimp only at hSw); go_simp; try with_reducible rfl)
                      try simp only [lyA, lyB, lyC, Act.put, lyD, lyE, lyF]
                      refine wpAnyG_take (i := 6) (v := ?_) rfl (by kernel_rfl) (by kernel_rfl) (by kernel_rfl) (by kernel_rfl) 30 (by kernel_rfl) (fun _ _ _ h => h) (Or.inl ⟨by kernel_rfl, ?_⟩) (by assumption) ?_
                      rotate_left 1
                      · (intro w hSw; (try dsimp only at hSw); go_simp; try with_reducible rfl)
                      try simp only [lyA, lyB, lyC, Act.put, lyD, lyE, lyF]
                      refine wpAnyG_take (i := 7) (v := ?_) rfl (by kernel_rfl) (by kernel_rfl) (by kernel_rfl) (by kernel_rfl) 30 (by kernel_rfl) (fun _ _ _ h => h) (Or.inl ⟨by kernel_rfl, ?_⟩) (by assumption) ?_
                      rotate_left 1
                      · (intro w hSw; (try dsimp only at hSw); go_simp; try with_reducible rfl)
                      try simp only [lyA, lyB, lyC, Act.put, lyD, lyE, lyF]
                      refine wpAnyG_take (i := 8) (v := ?_) rfl (by kernel_rfl) (by kernel_rfl) (by kernel_rfl) (by kernel_rfl) 30 (by kernel_rfl) (fun _ _ _ h => h) (Or.inl ⟨by kernel_rfl, ?_⟩) (by assumption) ?_
                      rotate_left 1
                      · (intro w hSw; (try dsimp only at hSw); go_simp; try with_reducible rfl)
                      try simp only [lyA, lyB, lyC, Act.put, lyD, lyE, lyF]
                      refine wpAnyG_take (i := 9) (v := ?_) rfl (by kernel_rfl) (by kernel_rfl) (by kernel_rfl) (by kernel_rfl) 30 (by kernel_rfl) (fun _ _ _ h => h) (Or.inl ⟨by kernel_rfl, ?_⟩) (by assumption) ?_
                      rotate_left 1
                      · (intro w hSw; (try dsimp only at hSw); go_simp; try with_reducible rfl)
                      try simp only [lyA, lyB, lyC, Act.put, lyD, lyE, lyF]
                      refine wpAnyG_take (i := 10) (v := ?_) rfl (by kernel_rfl) (by kernel_rfl) (by kernel_rfl) (by kernel_rfl) 30 (by kernel_rfl) (fun _ _ _ h => h) (Or.inl ⟨by kernel_rfl, ?_⟩) (by assumption) ?_
                      rotate_left 1
                      · (intro w hSw; (try dsimp only at hSw); go_simp; try with_reducible rfl)
                      try simp only [lyA, lyB, lyC, Act.put, lyD, lyE, lyF]
                      refine wpAnyG_take (i := 11) (v := ?_) rfl (by kernel_rfl) (by kernel_rfl) (by kernel_rfl) (by kernel_rfl) 30 (by kernel_rfl) (fun _ _ _ h => h) (Or.inl ⟨by kernel_rfl, ?_⟩) (by assumption) ?_
                      rotate_left 1
                      · (intro w hSw; (try dsimp only at hSw); go_simp; try with_reducible rfl)
                      try simp only [lyA, lyB, lyC, Act.put, lyD, lyE, lyF]
                      rw [← HWD.out]
                      clear y1 y2 y3 y4
                      obtain ⟨wb9, hwb9⟩ : ∃ wb, wb = wd.alloc (.cells #[.int .i64 x] 2) := ⟨_, rfl⟩
                      have hbb : Below wd.heap.size wd wb9 := by rw [hwb9]; exact below1 ..
                      have hib := HD.out.below hbb
                      have HIB := Lib.hid hib
                      have hrd9 : Rd wb9 (fun _ => True) 1 (some ⟨wd.heap.size, 0, none⟩) 1 [.int .i64 x] := by rw [hwb9]; exact rd_blk (blk_new ..) rfl trivial
                      have HRD9 := Lib.hid hrd9
                      have HWB9 := Lib.hid hwb9
                      have k1 := bat hbb Y1.out
                      have k2 := bat hbb Y2.out
                      have k3 := bat hbb Y3.out
                      have k4 := bat hbb Y4.out
                      rw [hwb9] at k1 k2 k3 k4
                      clear hwb9 hbb hib hrd9
                      refine wpAnyG_one (i := 12) (by kernel_rfl) rfl (fun K hK => ?_)
                      go_simp
                      refine (fun hHeld => hK.out _ _ (.inl hHeld) (fun _ => ?_)) ?_
                      rotate_left 1
                      · first | exact True.intro | ((try dsimp only); go_keep)
                      clear hK K
                      try simp only [lyA, lyB, lyC, Act.put, lyD, lyE, lyF]
                      rw [← HWB9.out]
                      clear k1 k2 k3 k4
                      refine wpAnyG_oneW (i := 13) (by kernel_rfl) rfl rfl (fun K hK => ?_)
                      refine wp_append_K _ _ _ rfl we.heap.size 2 i6 _ 1 8 Try.underlying22 hi6 hy60 hy61 hy62 rfl (by omega) Ik (by intro u hu; simp [Value.cells] at hu; exact ⟨_, hu⟩) (.slice Av nv cv) (zs ++ rw9.take k).length ((zs ++ rw9.take k).flatMap Zc) rfl HIB.out.own (fun _ => True) (some ⟨wd.heap.size, 0, none⟩) 1 1 [.int .i64 x] rfl HRD9.out (by simp [Value.oneCell']) (by intro u hu; simp at hu; exact ⟨_, hu⟩) (by simp only [maxLen, List.length_append, List.length_take]; omega) (by simp only [List.length_append, List.length_take]; omega) HIB.out.b.size (fun v2 w9 hown2 hg2 => ?_)
                      refine hK.out _ _ ?_ (fun hHeld => ?_)
                      · exact .inr (by kernel_rfl)
                      clear hK K
                      try simp only [lyA, lyB, lyC, Act.put, lyD, lyE, lyF]
                      clear hHeld
                      have hbx := HIB.out.grow hg2
                      have k3 : w9.cell? ⟨gh, 2, none⟩ = some (.slice Av nv cv) := (World.cell?_of_block (a := ⟨gh, 2, none⟩) hbx).trans HIB.out.h2
                      have k4 : w9.frozen? ⟨gh, 2, none⟩ = false := (World.frozen?_of_block (a := ⟨gh, 2, none⟩) hbx).trans (HIB.out.fz 2)
                      obtain ⟨Aw, cw, hV2, _, _⟩ := own_slice hown2.own
                      obtain ⟨wz, hwz⟩ : ∃ wz, wz = w9.setCell ⟨gh, 2, none⟩ v2 := ⟨_, rfl⟩
                      have hiz := HIB.out.app hg2 hown2 HXZ.out hwz
                      have HIZ := Lib.hid hiz
                      have HWZ := Lib.hid hwz
                      obtain ⟨m9, hm9⟩ : ∃ m, m = (zs ++ rw9.take k).length + 1 := ⟨_, rfl⟩
                      rw [← hm9] at hV2
                      subst hV2
                      clear hbx hown2 hg2 hiz hwz hm9
                      refine wpAnyG_one (i := 14) (by kernel_rfl) rfl (fun K hK => ?_)
                      go_simp
                      refine hK.out _ _ ?_ (fun hHeld => ?_)
                      · exact .inr (by kernel_rfl)
                      clear hK K
                      try simp only [lyA, lyB, lyC, Act.put, lyD, lyE, lyF]
                      refine wpAnyG_one (i := 15) (by kernel_rfl) rfl (fun K hK => ?_)
                      go_simp
                      refine hK.out _ _ ?_ (fun hHeld => ?_)
                      · exact .inr (by kernel_rfl)
                      clear hK K
                      try simp only [lyA, lyB, lyC, Act.put, lyD, lyE, lyF]
                      refine wpAnyG_done (by kernel_rfl) ?_ _
                      clear hHeld k3 k4
                      go_wp2_with fail
                      rw [← HWZ.out]
                      refine ⟨⟨k + 1, .slice Aw m9 cw, by omega, by go_num, ?_⟩, by simp [intOf]; omega⟩
                      rw [HRK.out, ← List.append_assoc]
                      exact HIZ.out
                    · obtain rfl : C = k := by omega
                      have hnlc2 : ¬ ((C : Int) < (C : Int)) := by omega
                      rw [List.take_of_length_le (by omega)] at HH2
                      obtain ⟨ys, hys⟩ : ∃ ys, ys = zs ++ rw9 := ⟨_, rfl⟩
                      rw [← hys] at HH2
                      have HYS := Lib.hid hys
                      have hyl : ys.length = (R + 1) * C := by rw [hys, List.length_append, hzl, hrwl, HN.out, Nat.add_mul, Nat.one_mul]
                      obtain ⟨wg, hwg⟩ : ∃ wg, wg = wr := ⟨_, rfl⟩
                      rw [← hwg] at HH2 g1 ⊢
                      clear hwg hys
                      have g0 := bat HH2.out.b HH2.out.g0
                      have h0 := HH2.out.h0
                      have h0f := HH2.out.fz 0
                      have hRs : (R : Int) + 1 = ((R + 1 : Nat) : Int) := by omega
                      obtain ⟨R1, hR1⟩ : ∃ R1, R1 = R + 1 := ⟨_, rfl⟩
                      rw [← hR1] at hRs hyl
                      obtain ⟨wi, hwi⟩ : ∃ wi, wi = wg.setCell ⟨gh, 0, none⟩ (.int .i64 (R1 : Int)) := ⟨_, rfl⟩
                      have hir := HH2.out.rows R1 hwi
                      have HIR := Lib.hid hir
                      have HWI := Lib.hid hwi
                      have HR1 := Lib.hid hR1
                      clear hir hwi hR1
                      go_upto_region 20 with fail
                      rw [← HWI.out]
                      clear g0 g1 h0 h0f
                      go_wp2_with fail
                      go_loopw [17, 18] (fun sv kv wr => ∃ (k : Nat) (f : Bool), k ≤ n ∧ kv = .int .i64 k ∧ sv = .bool f ∧ wr = wi ∧ (f = true → ∀ j, j < k → -2305843009213693952 < xs.getD j 0 ∧ xs.getD j 0 < 2305843009213693952)) (fun _ kv _ => n - (intOf kv).toNat)
                      case atStart => exact ⟨0, true, Nat.zero_le _, rfl, rfl, rfl, fun _ j h => absurd h (Nat.not_lt_zero j)⟩
                      case round =>
                        obtain ⟨k, f, hk, rfl, rfl, rfl, hsm⟩ := hrel
                        have HSM := Lib.hid hsm
                        have g2 := bat HIR.out.b HIR.out.g2
                        clear hsm
                        by_cases hlk : k < n
                        · have hlki : (k : Int) < (n : Int) := by omega
                          obtain ⟨b1, o1, rfl, e1⟩ := HXe.out.elemZ hlk
                          have e2 := bat HIR.out.b e1
                          obtain ⟨x, hx⟩ : ∃ x, x = xs.getD k 0 := ⟨_, rfl⟩
                          rw [← hx] at e2
                          have HXX := Lib.hid hx
                          clear e1 hx
                          have hstep : ∀ f' : Bool, (f' = true → f = true ∧ -2305843009213693952 < x ∧ x < 2305843009213693952) → (f' = true → ∀ j, j < k + 1 → -2305843009213693952 < xs.getD j 0 ∧ xs.getD j 0 < 2305843009213693952) := fun f' h1 h2 j hj => by
                            obtain ⟨h3, h4, h5⟩ := h1 h2
                            by_cases e : j = k
                            · rw [e, ← HXX.out]; exact ⟨h4, h5⟩
                            · exact HSM.out h3 j (by omega)
                          have HSTEP := Lib.hid hstep
                          clear hstep
                          cases f with
                          | false =>
                            go_wp2_with fail
                            exact ⟨⟨k + 1, false, by omega, by go_num, rfl, by trivial, HSTEP.out false (fun h => by cases h)⟩, by simp [intOf]; omega⟩
                          | true =>
                            by_cases hx1 : -2305843009213693952 < x
                            · by_cases hx2 : x < 2305843009213693952
                              · go_wp2_with fail
                                exact ⟨⟨k + 1, true, by omega, by go_num, rfl, by trivial, HSTEP.out true (fun _ => ⟨rfl, hx1, hx2⟩)⟩, by simp [intOf]; omega⟩
                              · go_wp2_with fail
                                exact ⟨⟨k + 1, false, by omega, by go_num, rfl, by trivial, HSTEP.out false (fun h => by cases h)⟩, by simp [intOf]; omega⟩
                            · go_wp2_with fail
                              exact ⟨⟨k + 1, false, by omega, by go_num, rfl, by trivial, HSTEP.out false (fun h => by cases h)⟩, by simp [intOf]; omega⟩
                        · obtain rfl : n = k := by omega
                          have hnln : ¬ ((n : Int) < (n : Int)) := by omega
                          go_upto_region 24 with fail
                          clear g2
                          go_cut [172] from 1000 (fun tv wx => tv = .bool (f && decide (a ≠ b)) ∧ wx = wr)
                          case first =>
                            cases f with
                            | false =>
                              go_wp2_with fail
                              go_meet
                              case rel => exact ⟨by simp, rfl⟩
                            | true =>
                              by_cases hab : a = b
                              · have hab2 : ((a : Int) != (b : Int)) = false := by simp [hab]
                                have HAB := Lib.hid hab
                                clear hab
                                go_wp2_with fail
                                go_meet
                                case rel => exact ⟨by simp [HAB.out], rfl⟩
                              · have hab2 : ((a : Int) != (b : Int)) = true := by simp; omega
                                have HAB := Lib.hid hab
                                clear hab
                                go_wp2_with fail
                                go_meet
                                case rel => exact ⟨by simp [HAB.out], rfl⟩
                          case rest =>
                            obtain ⟨rfl, hwc⟩ := hcut
                            rw [hwc]
                            clear hwc
                            obtain ⟨ww, hww⟩ : ∃ ww, ww = wr := ⟨_, rfl⟩
                            rw [← hww] at HIR ⊢
                            clear hww
                            obtain ⟨g, hg⟩ : ∃ g, g = (f && decide (a ≠ b)) := ⟨_, rfl⟩
                            rw [← hg]
                            have HGF := Lib.hid hg
                            clear hg
                            go_upto_if 172 with fail
                            go_cut [] from 1000 (fun wx => ∃ V, HI we wx gg gh R1 C n R C A cD V (sameG xs a b R C g))
                            case first =>
                              have hys0 : ys = swk xs a b C C ++ (xs.drop (a * C)).take C := by rw [HYS.out, HZS.out, HRW.out]
                              cases g with
                              | false =>
                                have hyy := hys0
                                rw [hys0] at HIR
                                clear hyy hys0
                                go_wp2_with fail
                                go_meet
                                case rel => exact ⟨_, HIR.out⟩
                              | true =>
                                have hfab := HGF.out
                                rw [eq_comm, Bool.and_eq_true, decide_eq_true_eq] at hfab
                                have HFAB := Lib.hid hfab
                                have hys1 : sameG xs a b R C true = adk ys a b C C := by rw [hys0]; rfl
                                have HY1 := Lib.hid hys1
                                clear hfab hys0 hys1
                                go_wp2_with fail
                                go_loopw [19] (fun kv wr => ∃ (k : Nat) (V : Value), k ≤ C ∧ kv = .int .i64 k ∧ HI we wr gg gh R1 C n R C A cD V (adk ys a b C k)) (fun kv _ => C - (intOf kv).toNat)
                                case atStart => exact ⟨0, _, Nat.zero_le _, rfl, HIR.out⟩
                                case round =>
                                  obtain ⟨k, V, hk, rfl, hi⟩ := hrel
                                  have HH4 := Lib.hid hi
                                  have g1 := bat hi.b hi.g1
                                  clear hi
                                  by_cases hlk : k < C
                                  · have hlki : (k : Int) < (C : Int) := by omega
                                    have hsml := adk_small (L := -2305843009213693952) (U := 2305843009213693952) (show xs.length = R * C by rw [HXe.out.num, HN.out]) han hbn HFAB.out.2 hlk (by rw [HXe.out.num]; exact HSM.out HFAB.out.1)
                                    obtain ⟨cur, hcur⟩ : ∃ cur, cur = adk ys a b C k := ⟨_, rfl⟩
                                    have hcl : cur.length = R1 * C := by rw [hcur, adk_len]; exact hyl
                                    rw [show swk xs a b C C ++ (xs.drop (a * C)).take C = ys by rw [HYS.out, HZS.out, HRW.out], ← hcur] at hsml
                                    rw [← hcur] at HH4
                                    obtain ⟨m, hm⟩ : ∃ m, m = R1 * C := ⟨_, rfl⟩
                                    rw [← hm] at hcl
                                    obtain ⟨oa, hoa⟩ : ∃ oa, oa = a * C := ⟨_, rfl⟩
                                    obtain ⟨ob, hob⟩ : ∃ ob, ob = b * C := ⟨_, rfl⟩
                                    have hoai : (a : Int) * (C : Int) = (oa : Int) := by rw [hoa]; simp
                                    have hobi : (b : Int) * (C : Int) = (ob : Int) := by rw [hob]; simp
                                    obtain ⟨ja, hja⟩ : ∃ ja, ja = oa + k := ⟨_, rfl⟩
                                    obtain ⟨jb, hjb⟩ : ∃ jb, jb = ob + k := ⟨_, rfl⟩
                                    have hjai : (oa : Int) + (k : Int) = (ja : Int) := by omega
                                    have hjbi : (ob : Int) + (k : Int) = (jb : Int) := by omega
                                    have hjan : ja < m := by rw [hja, hoa, hm, HR1.out]; exact idx_lt (by omega) hlk
                                    have hjbn : jb < m := by rw [hjb, hob, hm, HR1.out]; exact idx_lt (by omega) hlk
                                    have hml : m ≤ 41 * 48 := by rw [hm]; exact Nat.mul_le_mul (by rw [HR1.out]; omega) hC
                                    rw [← hoa, ← hob, ← hja, ← hjb] at hsml
                                    have HCU := Lib.hid (And.intro hcur (And.intro (show ja = a * C + k by rw [hja, hoa]) (show jb = b * C + k by rw [hjb, hob])))
                                    obtain ⟨za, hza⟩ : ∃ za, za = cur.getD ja 0 := ⟨_, rfl⟩
                                    obtain ⟨zb, hzb⟩ : ∃ zb, zb = cur.getD jb 0 := ⟨_, rfl⟩
                                    rw [← hza, ← hzb] at hsml
                                    have hws : IntKind.i64.wrap (za + zb) = za + zb := IntWalk.i64_in _ (by omega)
                                    have hw1 : IntKind.i64.wrap (oa : Int) = (oa : Int) := IntWalk.i64_in _ (by omega)
                                    have hw2 : IntKind.i64.wrap (ob : Int) = (ob : Int) := IntWalk.i64_in _ (by omega)
                                    have hw3 : IntKind.i64.wrap (ja : Int) = (ja : Int) := IntWalk.i64_in _ (by omega)
                                    have hw4 : IntKind.i64.wrap (jb : Int) = (jb : Int) := IntWalk.i64_in _ (by omega)
                                    have hji1 : (ja : Int) < (m : Int) := by omega
                                    have hji2 : (jb : Int) < (m : Int) := by omega
                                    obtain ⟨wd, hwd⟩ : ∃ wd, wd = wr.drew := ⟨_, rfl⟩
                                    have hbd : Below wr.heap.size wr wd := by rw [hwd]; exact (Below.refl _ _).drew
                                    have hid := HH4.out.below hbd
                                    obtain ⟨gd, cd, hV⟩ := hid.own.some (by rw [hcl]; omega)
                                    rw [hcl] at hV
                                    subst hV
                                    have hown := hid.own
                                    rw [hcl] at hown
                                    obtain ⟨z1, f1⟩ := hown.elemZ hjan
                                    obtain ⟨z2, f2⟩ := hown.elemZ hjbn
                                    rw [← hza] at z1
                                    rw [← hzb] at z2
                                    have Y1 := Lib.hid (bat hid.b hid.g1)
                                    have Y2 := Lib.hid hid.h2
                                    have Y3 := Lib.hid z1
                                    have Y4 := Lib.hid z2
                                    have Y5 := Lib.hid f1
                                    have hid1 := hid.set (j := ja) (by rw [hcl]; exact hjan) (z := za + zb) (by unfold Z63; omega)
                                    have HI1 := Lib.hid hid1
                                    have HZAB := Lib.hid (And.intro hza hzb)
                                    have y1 := Y1.out
                                    have y2 := Y2.out
                                    have y3 := Y3.out
                                    have y4 := Y4.out
                                    rw [hwd] at y1 y2 y3 y4
                                    have HWD := Lib.hid hwd
                                    clear hsml hcur hcl hm hoa hob hja hjb hza hzb hwd hbd hid hown z1 f1 z2 f2 hid1
                                    go_upto_region 28 with fail
                                    clear g1
                                    refine wp_region_G (S := (fun w' => w'.cell? ⟨gg, 1, none⟩ = some (.int .i64 (C : Int)) ∧ w'.cell? ⟨gh, 2, none⟩ = some (.slice (some ⟨gd, 0, none⟩) m cd) ∧ w'.cell? ⟨gd, ja, none⟩ = some (.int .i64 za) ∧ w'.cell? ⟨gd, jb, none⟩ = some (.int .i64 zb))) 30 (by kernel_rfl) ?_ (fun hHeld => ?_)
                                    · first | exact True.intro | ((try dsimp only); go_keep)
                                    refine wpAnyG_take (i := 0) (v := ?_) rfl (by kernel_rfl) (by kernel_rfl) (by kernel_rfl) (by kernel_rfl) 30 (by kernel_rfl) (fun _ _ _ h => h) (Or.inl ⟨by kernel_rfl, ?_⟩) (by assumption) ?_
                                    rotate_left 1
                                    · (intro w hSw; (try dsimp only at hSw); go_simp; try with_reducible rfl)
                                    try simp only [lyA, lyB, lyC, Act.put, lyD, lyE, lyF]
                                    refine wpAnyG_take (i := 1) (v := ?_) rfl (by kernel_rfl) (by kernel_rfl) (by kernel_rfl) (by kernel_rfl) 30 (by kernel_rfl) (fun _ _ _ h => h) (Or.inl ⟨by kernel_rfl, ?_⟩) (by assumption) ?_
                                    rotate_left 1
                                    · (intro w hSw; (try dsimp only at hSw); go_simp; try with_reducible rfl)
                                    try simp only [lyA, lyB, lyC, Act.put, lyD, lyE, lyF]
                                    refine wpAnyG_take (i := 2) (v := ?_) rfl (by kernel_rfl) (by kernel_rfl) (by kernel_rfl) (by kernel_rfl) 30 (by kernel_rfl) (fun _ _ _ h => h) (Or.inl ⟨by kernel_rfl, ?_⟩) (by assumption) ?_
                                    rotate_left 1
                                    · (intro w hSw; (try dsimp only at hSw); go_simp; try with_reducible rfl)
                                    try simp only [lyA, lyB, lyC, Act.put, lyD, lyE, lyF]
                                    refine wpAnyG_take (i := 3) (v := ?_) rfl (by kernel_rfl) (by kernel_rfl) (by kernel_rfl) (by kernel_rfl) 30 (by kernel_rfl) (fun _ _ _ h => h) (Or.inl ⟨by kernel_rfl, ?_⟩) (by assumption) ?_
                                    rotate_left 1
                                    · (intro w hSw; (try dsimp only at hSw); go_simp; try with_reducible rfl)
                                    try simp only [lyA, lyB, lyC, Act.put, lyD, lyE, lyF]
                                    refine wpAnyG_take (i := 4) (v := ?_) rfl (by kernel_rfl) (by kernel_rfl) (by kernel_rfl) (by kernel_rfl) 30 (by kernel_rfl) (fun _ _ _ h => h) (Or.inl ⟨by kernel_rfl, ?_⟩) (by assumption) ?_
                                    rotate_left 1
                                    · (intro w hSw; (try dsimp only at hSw); go_simp; try with_reducible rfl)
                                    try simp only [lyA, lyB, lyC, Act.put, lyD, lyE, lyF]
                                    refine wpAnyG_take (i := 5) (v := ?_) rfl (by kernel_rfl) (by kernel_rfl) (by kernel_rfl) (by kernel_rfl) 30 (by kernel_rfl) (fun _ _ _ h => h) (Or.inl ⟨by kernel_rfl, ?_⟩) (by assumption) ?_
                                    rotate_left 1
                                    · (intro w hSw; (try dsimp only at hSw); go_simp; try with_reducible rfl)
                                    try simp only [lyA, lyB, lyC, Act.put, lyD, lyE, lyF]
                                    refine wpAnyG_take (i := 6) (v := ?_) rfl (by kernel_rfl) (by kernel_rfl) (by kernel_rfl) (by kernel_rfl) 30 (by kernel_rfl) (fun _ _ _ h => h) (Or.inl ⟨by kernel_rfl, ?_⟩) (by assumption) ?_
                                    rotate_left 1
                                    · (intro w hSw; (try dsimp only at hSw); go_simp; try with_reducible rfl)
                                    try simp only [lyA, lyB, lyC, Act.put, lyD, lyE, lyF]
                                    refine wpAnyG_take (i := 7) (v := ?_) rfl (by kernel_rfl) (by kernel_rfl) (by kernel_rfl) (by kernel_rfl) 30 (by kernel_rfl) (fun _ _ _ h => h) (Or.inl ⟨by kernel_rfl, ?_⟩) (by assumption) ?_
                                    rotate_left 1
                                    · (intro w hSw; (try dsimp only at hSw); go_simp; try with_reducible rfl)
                                    try simp only [lyA, lyB, lyC, Act.put, lyD, lyE, lyF]
                                    refine wpAnyG_take (i := 8) (v := ?_) rfl (by kernel_rfl) (by kernel_rfl) (by kernel_rfl) (by kernel_rfl) 30 (by kernel_rfl) (fun _ _ _ h => h) (Or.inl ⟨by kernel_rfl, ?_⟩) (by assumption) ?_
                                    rotate_left 1
                                    · (intro w hSw; (try dsimp only at hSw); go_simp; try with_reducible rfl)
                                    try simp only [lyA, lyB, lyC, Act.put, lyD, lyE, lyF]
                                    refine wpAnyG_take (i := 9) (v := ?_) rfl (by kernel_rfl) (by kernel_rfl) (by kernel_rfl) (by kernel_rfl) 30 (by kernel_rfl) (fun _ _ _ h => h) (Or.inl ⟨by kernel_rfl, ?_⟩) (by assumption) ?_
                                    rotate_left 1
                                    · (intro w hSw; (try dsimp only at hSw); go_simp; try with_reducible rfl)
                                    try simp only [lyA, lyB, lyC, Act.put, lyD, lyE, lyF]
                                    refine wpAnyG_take (i := 10) (v := ?_) rfl (by kernel_rfl) (by kernel_rfl) (by kernel_rfl) (by kernel_rfl) 30 (by kernel_rfl) (fun _ _ _ h => h) (Or.inl ⟨by kernel_rfl, ?_⟩) (by assumption) ?_
                                    rotate_left 1
                                    · (intro w hSw; (try dsimp only at hSw); go_simp; try with_reducible rfl)
                                    try simp only [lyA, lyB, lyC, Act.put, lyD, lyE, lyF]
                                    refine wpAnyG_take (i := 11) (v := ?_) rfl (by kernel_rfl) (by kernel_rfl) (by kernel_rfl) (by kernel_rfl) 30 (by kernel_rfl) (fun _ _ _ h => h) (Or.inl ⟨by kernel_rfl, ?_⟩) (by assumption) ?_
                                    rotate_left 1
                                    · (intro w hSw; (try dsimp only at hSw); go_simp; try with_reducible rfl)
                                    try simp only [lyA, lyB, lyC, Act.put, lyD, lyE, lyF]
                                    refine wpAnyG_take (i := 12) (v := ?_) rfl (by kernel_rfl) (by kernel_rfl) (by kernel_rfl) (by kernel_rfl) 30 (by kernel_rfl) (fun _ _ _ h => h) (Or.inl ⟨by kernel_rfl, ?_⟩) (by assumption) ?_
                                    rotate_left 1
                                    · (intro w hSw; (try dsimp only at hSw); go_simp; try with_reducible rfl)
                                    try simp only [lyA, lyB, lyC, Act.put, lyD, lyE, lyF]
                                    refine wpAnyG_take (i := 13) (v := ?_) rfl (by kernel_rfl) (by kernel_rfl) (by kernel_rfl) (by kernel_rfl) 30 (by kernel_rfl) (fun _ _ _ h => h) (Or.inl ⟨by kernel_rfl, ?_⟩) (by assumption) ?_
                                    rotate_left 1
                                    · (intro w hSw; (try dsimp only at hSw); go_simp; try with_reducible rfl)
                                    try simp only [lyA, lyB, lyC, Act.put, lyD, lyE, lyF]
                                    refine wpAnyG_take (i := 14) (v := ?_) rfl (by kernel_rfl) (by kernel_rfl) (by kernel_rfl) (by kernel_rfl) 30 (by kernel_rfl) (fun _ _ _ h => h) (Or.inl ⟨by kernel_rfl, ?_⟩) (by assumption) ?_
                                    rotate_left 1
                                    · (intro w hSw; (try dsimp only at hSw); go_simp; try with_reducible rfl)
                                    try simp only [lyA, lyB, lyC, Act.put, lyD, lyE, lyF]
                                    refine wpAnyG_take (i := 15) (v := ?_) rfl (by kernel_rfl) (by kernel_rfl) (by kernel_rfl) (by kernel_rfl) 30 (by kernel_rfl) (fun _ _ _ h => h) (Or.inl ⟨by kernel_rfl, ?_⟩) (by assumption) ?_
                                    rotate_left 1
                                    · (intro w hSw; (try dsimp only at hSw); go_simp; try with_reducible rfl)
                                    try simp only [lyA, lyB, lyC, Act.put, lyD, lyE, lyF]
                                    refine wpAnyG_take (i := 16) (v := ?_) rfl (by kernel_rfl) (by kernel_rfl) (by kernel_rfl) (by kernel_rfl) 30 (by kernel_rfl) (fun _ _ _ h => h) (Or.inl ⟨by kernel_rfl, ?_⟩) (by assumption) ?_
                                    rotate_left 1
                                    · (intro w hSw; (try dsimp only at hSw); go_simp; try with_reducible rfl)
                                    try simp only [lyA, lyB, lyC, Act.put, lyD, lyE, lyF]
                                    refine wpAnyG_take (i := 17) (v := ?_) rfl (by kernel_rfl) (by kernel_rfl) (by kernel_rfl) (by kernel_rfl) 30 (by kernel_rfl) (fun _ _ _ h => h) (Or.inl ⟨by kernel_rfl, ?_⟩) (by assumption) ?_
                                    rotate_left 1
                                    · (intro w hSw; (try dsimp only at hSw); go_simp; try with_reducible rfl)
                                    try simp only [lyA, lyB, lyC, Act.put, lyD, lyE, lyF]
                                    refine wpAnyG_take (i := 18) (v := ?_) rfl (by kernel_rfl) (by kernel_rfl) (by kernel_rfl) (by kernel_rfl) 30 (by kernel_rfl) (fun _ _ _ h => h) (Or.inl ⟨by kernel_rfl, ?_⟩) (by assumption) ?_
                                    rotate_left 1
                                    · (intro w hSw; (try dsimp only at hSw); go_simp; try with_reducible rfl)
                                    try simp only [lyA, lyB, lyC, Act.put, lyD, lyE, lyF]
                                    refine wpAnyG_take (i := 19) (v := ?_) rfl (by kernel_rfl) (by kernel_rfl) (by kernel_rfl) (by kernel_rfl) 30 (by kernel_rfl) (fun _ _ _ h => h) (Or.inl ⟨by kernel_rfl, ?_⟩) (by assumption) ?_
                                    rotate_left 1
                                    · (intro w hSw; (try dsimp only at hSw); go_simp; try with_reducible rfl)
                                    try simp only [lyA, lyB, lyC, Act.put, lyD, lyE, lyF]
                                    refine wpAnyG_take (i := 20) (v := ?_) rfl (by kernel_rfl) (by kernel_rfl) (by kernel_rfl) (by kernel_rfl) 30 (by kernel_rfl) (fun _ _ _ h => h) (Or.inl ⟨by kernel_rfl, ?_⟩) (by assumption) ?_
                                    rotate_left 1
                                    · (intro w hSw; (try dsimp only at hSw); go_simp; try with_reducible rfl)
                                    try simp only [lyA, lyB, lyC, Act.put, lyD, lyE, lyF]
                                    refine wpAnyG_take (i := 21) (v := ?_) rfl (by kernel_rfl) (by kernel_rfl) (by kernel_rfl) (by kernel_rfl) 30 (by kernel_rfl) (fun _ _ _ h => h) (Or.inl ⟨by kernel_rfl, ?_⟩) (by assumption) ?_
                                    rotate_left 1
                                    · (intro w hSw; (try dsimp only at hSw); go_simp; try with_reducible rfl)
                                    try simp only [lyA, lyB, lyC, Act.put, lyD, lyE, lyF]
                                    refine wpAnyG_take (i := 22) (v := ?_) rfl (by kernel_rfl) (by kernel_rfl) (by kernel_rfl) (by kernel_rfl) 30 (by kernel_rfl) (fun _ _ _ h => h) (Or.inl ⟨by kernel_rfl, ?_⟩) (by assumption) ?_
                                    rotate_left 1
                                    · (intro w hSw; (try dsimp only at hSw); go_simp; try with_reducible rfl)
                                    try simp only [lyA, lyB, lyC, Act.put, lyD, lyE, lyF]
                                    refine wpAnyG_take (i := 23) (v := ?_) rfl (by kernel_rfl) (by kernel_rfl) (by kernel_rfl) (by kernel_rfl) 30 (by kernel_rfl) (fun _ _ _ h => h) (Or.inl ⟨by kernel_rfl, ?_⟩) (by assumption) ?_
                                    rotate_left 1
                                    · (intro w hSw; (try dsimp only at hSw); go_simp; try with_reducible rfl)
                                    try simp only [lyA, lyB, lyC, Act.put, lyD, lyE, lyF]
                                    refine wpAnyG_take (i := 24) (v := ?_) rfl (by kernel_rfl) (by kernel_rfl) (by kernel_rfl) (by kernel_rfl) 30 (by kernel_rfl) (fun _ _ _ h => h) (Or.inl ⟨by kernel_rfl, ?_⟩) (by assumption) ?_
                                    rotate_left 1
                                    · (intro w hSw; (try dsimp only at hSw); go_simp; try with_reducible rfl)
                                    try simp only [lyA, lyB, lyC, Act.put, lyD, lyE, lyF]
                                    refine wpAnyG_take (i := 25) (v := ?_) rfl (by kernel_rfl) (by kernel_rfl) (by kernel_rfl) (by kernel_rfl) 30 (by kernel_rfl) (fun _ _ _ h => h) (Or.inl ⟨by kernel_rfl, ?_⟩) (by assumption) ?_
                                    rotate_left 1
                                    · (intro w hSw; (try dsimp only at hSw); go_simp; try with_reducible rfl)
                                    try simp only [lyA, lyB, lyC, Act.put, lyD, lyE, lyF]
                                    refine wpAnyG_take (i := 26) (v := ?_) rfl (by kernel_rfl) (by kernel_rfl) (by kernel_rfl) (by kernel_rfl) 30 (by kernel_rfl) (fun _ _ _ h => h) (Or.inl ⟨by kernel_rfl, ?_⟩) (by assumption) ?_
                                    rotate_left 1
                                    · (intro w hSw; (try dsimp only at hSw); go_simp; try with_reducible rfl)
                                    try simp only [lyA, lyB, lyC, Act.put, lyD, lyE, lyF]
                                    refine wpAnyG_take (i := 27) (v := ?_) rfl (by kernel_rfl) (by kernel_rfl) (by kernel_rfl) (by kernel_rfl) 30 (by kernel_rfl) (fun _ _ _ h => h) (Or.inl ⟨by kernel_rfl, ?_⟩) (by assumption) ?_
                                    rotate_left 1
                                    · (intro w hSw; (try dsimp only at hSw); go_simp; try with_reducible rfl)
                                    try simp only [lyA, lyB, lyC, Act.put, lyD, lyE, lyF]
                                    refine wpAnyG_take (i := 28) (v := ?_) rfl (by kernel_rfl) (by kernel_rfl) (by kernel_rfl) (by kernel_rfl) 30 (by kernel_rfl) (fun _ _ _ h => h) (Or.inl ⟨by kernel_rfl, ?_⟩) (by assumption) ?_
                                    rotate_left 1
                                    · (intro w hSw; (try dsimp only at hSw); go_simp; try with_reducible rfl)
                                    try simp only [lyA, lyB, lyC, Act.put, lyD, lyE, lyF]
                                    refine wpAnyG_take (i := 29) (v := ?_) rfl (by kernel_rfl) (by kernel_rfl) (by kernel_rfl) (by kernel_rfl) 30 (by kernel_rfl) (fun _ _ _ h => h) (Or.inl ⟨by kernel_rfl, ?_⟩) (by assumption) ?_
                                    rotate_left 1
                                    · (intro w hSw; (try dsimp only at hSw); go_simp; try with_reducible rfl)
                                    try simp only [lyA, lyB, lyC, Act.put, lyD, lyE, lyF]
                                    rw [← HWD.out]
                                    clear y1 y2 y3 y4
                                    have z1 := Y3.out
                                    have f1 := Y5.out
                                    refine wpAnyG_one (i := 30) (by kernel_rfl) rfl (fun K hK => ?_)
                                    go_simp
                                    refine hK.out _ _ ?_ (fun hHeld => ?_)
                                    · exact .inr (by kernel_rfl)
                                    clear hK K
                                    try simp only [lyA, lyB, lyC, Act.put, lyD, lyE, lyF]
                                    refine wpAnyG_done (by kernel_rfl) ?_ _
                                    clear hHeld z1 f1
                                    go_wp2_with fail
                                    refine ⟨⟨k + 1, .slice (some ⟨gd, 0, none⟩) m cd, by omega, by go_num, ?_⟩, by simp [intOf]; omega⟩
                                    have e : adk ys a b C (k + 1) = cur.set ja (za + zb) := by rw [adk, ← HCU.out.1, ← HCU.out.2.1, ← HCU.out.2.2, ← HZAB.out.1, ← HZAB.out.2]
                                    rw [e]
                                    exact HI1.out
                                  · obtain rfl : C = k := by omega
                                    have hnlc3 : ¬ ((C : Int) < (C : Int)) := by omega
                                    go_wp2_with fail
                                    go_meet
                                    case rel => exact ⟨V, by rw [HY1.out]; exact HH4.out⟩
                            case rest =>
                              obtain ⟨V, hih⟩ := hcut
                              have hxl : xs.length = R * C := by rw [HXe.out.num, HN.out]
                              have hfg : g = true → a ≠ b := fun h => by
                                have h2 := HGF.out
                                rw [h, eq_comm, Bool.and_eq_true, decide_eq_true_eq] at h2
                                exact h2.2
                              have hsg := sameG_len (f := g) (b := b) hxl han
                              rw [← HR1.out] at hsg
                              obtain ⟨hp1, hp2⟩ := same_all hxl han hbn hfg
                              rw [← HR1.out] at hp1 hp2
                              obtain ⟨ns, hns⟩ : ∃ ns, ns = sameG xs a b R C g := ⟨_, rfl⟩
                              rw [← hns] at hih hsg hp1 hp2
                              obtain ⟨m, hm⟩ : ∃ m, m = R1 * C := ⟨_, rfl⟩
                              have hml : m ≤ 41 * 48 := by rw [hm]; exact Nat.mul_le_mul (by rw [HR1.out]; omega) hC
                              rw [← hm] at hsg
                              obtain ⟨AV, cV, hV, _, _⟩ := own_slice hih.own.own
                              rw [hsg] at hV
                              subst hV
                              have hgr : GridAt wc (.agg #[.int .i64 (R1 : Int), .int .i64 (C : Int), .slice AV m cV]) (R1 : Int) (C : Int) m ns := by
                                have ho := hih.own
                                rw [hsg] at ho
                                refine ⟨⟨AV, cV, rfl, (RdE.of_own Zc.clen (by decide) ho.own).imp fun b hb => hb.2.1⟩, hih.z, by unfold Z63; have := HR1.out; omega, hZ.out.2.2, by omega⟩
                              have hrg2 : rightG (R1 : Int) (C : Int) m = true := by
                                unfold rightG
                                have e : ((m : Nat) : Int) = (R1 : Int) * (C : Int) := by rw [hm]; simp
                                have hR1 := HR1.out
                                exact decide_eq_true ⟨by omega, by omega, by omega, by omega, e⟩
                              have HGR := Lib.hid hgr
                              have HRG2 := Lib.hid hrg2
                              have HIH := Lib.hid hih
                              have HP := Lib.hid (And.intro hp1 hp2)
                              have h0 := hih.h0
                              have h1 := hih.h1
                              have h2 := hih.h2
                              clear hxl hfg hsg hp1 hp2 hns hm hgr hrg2 hih
                              go_wp2_with fail
                              refine (rank_any _ (R1 : Int) (C : Int) m ns wc HGR.out).mono ?_
                              rintro e wj ⟨hbj, hpj⟩
                              have hgs1 : gS (R : Int) (C : Int) xs = brun (gridT xs R C) C := by unfold gS; simp only [Int.toNat_natCast]
                              have hgs2 : gS (R1 : Int) (C : Int) ns = brun (gridT ns R1 C) C := by unfold gS; simp only [Int.toNat_natCast]
                              have hspiv : (gS (R1 : Int) (C : Int) ns).piv = s.piv := by rw [hgs2, ← HP.out.1, HS.out, hgs1]
                              have hsker : kerRows (gS (R1 : Int) (C : Int) ns) C C = kerRows s C C := by rw [hgs2, ← HP.out.2, HS.out, hgs1]
                              have HGS := Lib.hid (And.intro hspiv (And.intro hsker (show s = brun (gridT xs R C) C by rw [HS.out, hgs1])))
                              rcases hpj with ⟨_, V2, base2, rfl, _, _, hown2⟩ | ⟨hf, _⟩
                              · rw [hspiv] at hown2 ⊢
                                obtain ⟨A2, c2, rfl, _, _⟩ := own_slice hown2.own
                                have hrd := (RdE.of_own (f := Ic) (fun _ => rfl) (by decide) hown2.own).imp (S' := fun b => b < wj.heap.size) (fun b h => h.2.1)
                                have HRD2 := Lib.hid hrd
                                have HBJ := Lib.hid hbj
                                clear hgs1 hgs2 hspiv hsker hown2 hrd h0 h1 h2
                                have h0 := bat hbj HIH.out.h0
                                have h1 := bat hbj HIH.out.h1
                                have h2 := bat hbj HIH.out.h2
                                clear hbj
                                go_wp2_with fail
                                clear h0 h1 h2
                                refine (kernel_any _ (R1 : Int) (C : Int) m ns wj (HGR.out.below HBJ.out)).mono ?_
                                rintro e wk ⟨hbk, hpk⟩
                                rcases hpk with ⟨_, VK2, rfl, hrows2⟩ | ⟨hf, _⟩
                                · rw [Int.toNat_natCast, HGS.out.2.1] at hrows2
                                  obtain ⟨Ak2, ck2, _, rfl, _, _⟩ := hrows2.at_
                                  have HROW2 := Lib.hid hrows2
                                  have hbJK := HBJ.out.trans (hbk.mono HBJ.out.size)
                                  have HBK := Lib.hid (HIH.out.b.trans (hbJK.mono HIH.out.b.size))
                                  have HRD2k := Lib.hid (HRD2.out.blw hbk)
                                  have hbe0 := brun_be (gridT_rect (show xs.length = R * C by rw [HXe.out.num, HN.out])) C
                                  have hpl48 : s.piv.length ≤ 1000000 := by have := hbe0.le; rw [HGS.out.2.2]; omega
                                  have hplt : ∀ x ∈ s.piv, x ≤ 1000000 := fun x hx => by rw [HGS.out.2.2] at hx; have := hbe0.lt x hx; omega
                                  have hkl := kerRows_len s C C
                                  have hkr : ∀ r ∈ kerRows s C C, r.length ≤ 1000000 := fun r hr => by
                                    unfold kerRows at hr
                                    obtain ⟨f, _, rfl⟩ := List.mem_map.1 hr
                                    rw [kerVec_len]; omega
                                  have HKR := Lib.hid hkr
                                  have HPLT := Lib.hid hplt
                                  have HBE0 := Lib.hid hbe0
                                  have hnee : ((s.piv.length : Int) != (s.piv.length : Int)) = false := by simp
                                  clear hrows2 hbk hbJK hbe0 hplt hkr
                                  go_wp2_with fail
                                  refine (sameInts_any A1 A2 s.piv.length s.piv.length c1 c2 s.piv s.piv _ _ wk (HRDe.out.blw HBK.out) HRD2k.out hpl48 hpl48 HPLT.out HPLT.out).mono ?_
                                  rintro e wl ⟨he, hbl⟩
                                  obtain rfl : e = .returned (.bool true) := (by rw [he, decide_eq_true rfl])
                                  have HBL := Lib.hid (HBK.out.trans (hbl.mono HBK.out.size))
                                  have HROW2l := Lib.hid (HROW2.out.below hbl)
                                  clear he hbl
                                  go_wp2_with fail
                                  refine (sameRows_any _ _ (kerRows s C C) (kerRows s C C) wl (HROWe.out.below HBL.out) HROW2l.out (by omega) (by omega) HKR.out HKR.out).mono ?_
                                  rintro e wm ⟨he, hbm⟩
                                  obtain rfl : e = .returned (.bool true) := (by rw [he, decide_eq_true rfl])
                                  have HBM := Lib.hid (HBL.out.trans (hbm.mono HBL.out.size))
                                  have g0 := bat HBM.out Q7e.out.1
                                  have g1 := bat HBM.out Q7e.out.2.1
                                  clear he hbm
                                  go_upto_region 34 with fail
                                  clear g0 g1
                                  obtain ⟨wS, hwS⟩ : ∃ wS, wS = wm.alloc (.cells #[.int .i64 (C : Int), .int .i64 (R : Int), .slice none 0 0] 24) := ⟨_, rfl⟩
                                  obtain ⟨gq, hgq⟩ : ∃ gq, gq = wm.heap.size := ⟨_, rfl⟩
                                  rw [← hwS, ← hgq]
                                  have hsS : HI wm wS gg gq C R n R C A cD (.slice none 0 0) (sideG xs R C 0) := by
                                    obtain ⟨hbS, z0, z1, z2⟩ := box3 hwS
                                    rw [← hgq] at z0 z1 z2
                                    have hblk : wS.heap[gq]? = some (.cells #[.int .i64 (C : Int), .int .i64 (R : Int), .slice none 0 0] 24 (0, 0)) := by rw [hwS, hgq]; exact blk_new ..
                                    exact ⟨hbS, bat HBM.out Q7e.out.2.1, bat HBM.out Q7e.out.1, bat HBM.out Q7e.out.2.2, z0, z1, z2, fun j => frozen_of_row _ gq j _ _ hblk, OwnR.nil .., by rw [hgq]; exact Nat.le_refl _, fun e => by simp [Value.ownBlock] at e, fun y hy => by simp [sideG] at hy⟩
                                  have HSS := Lib.hid hsS
                                  have HXm := Lib.hid (HXe.out.blw HBM.out)
                                  have HNLE := Lib.hid hnl
                                  clear hwS hgq hsS
                                  go_wp2_with fail
                                  go_loopw [26] (fun cv wr => ∃ (d : Nat) (V : Value), d ≤ C ∧ cv = .int .i64 d ∧ HI wm wr gg gq C R n R C A cD V (sideG xs R C d)) (fun cv _ => C - (intOf cv).toNat)
                                  case atStart => exact ⟨0, _, Nat.zero_le _, rfl, HSS.out⟩
                                  case round =>
                                    obtain ⟨d, V3, hd, rfl, hi3⟩ := hrel
                                    have HH3 := Lib.hid hi3
                                    have g1 := bat hi3.b hi3.g1
                                    clear hi3
                                    by_cases hdC : d < C
                                    · have hdCi : (d : Int) < (C : Int) := by omega
                                      go_upto_region 37 with fail
                                      clear g1
                                      obtain ⟨wn, hwn⟩ : ∃ wn, wn = wr := ⟨_, rfl⟩
                                      rw [← hwn] at HH3 ⊢
                                      clear hwn
                                      go_wp2_with fail
                                      go_loopw [27] (fun iv wr => ∃ (i : Nat) (V : Value), i ≤ R ∧ iv = .int .i64 i ∧ HI wm wr gg gq C R n R C A cD V (sideG xs R C d ++ (sideR xs R C d).take i)) (fun iv _ => R - (intOf iv).toNat)
                                      case atStart => exact ⟨0, _, Nat.zero_le _, rfl, by rw [List.take_zero, List.append_nil]; exact HH3.out⟩
                                      case round =>
                                        obtain ⟨i, V4, hi, rfl, hi4⟩ := hrel
                                        have HH4 := Lib.hid hi4
                                        have g0 := bat hi4.b hi4.g0
                                        clear hi4
                                        by_cases hiR : i < R
                                        · have hiRi : (i : Int) < (R : Int) := by omega
                                          obtain ⟨oa, hoa⟩ : ∃ oa, oa = i * C := ⟨_, rfl⟩
                                          have hoai : (i : Int) * (C : Int) = (oa : Int) := by rw [hoa]; simp
                                          obtain ⟨ja, hja⟩ : ∃ ja, ja = oa + d := ⟨_, rfl⟩
                                          have hjai : (oa : Int) + (d : Int) = (ja : Int) := by omega
                                          have hjan : ja < n := by rw [hja, hoa, HN.out]; exact idx_lt hiR hdC
                                          have hoan : oa ≤ n := by omega
                                          obtain ⟨b1, o1, rfl, e1⟩ := HXm.out.elemZ hjan
                                          obtain ⟨x, hx⟩ : ∃ x, x = xs.getD ja 0 := ⟨_, rfl⟩
                                          rw [← hx] at e1
                                          have hxz : Z63 x := by rw [hx]; exact z63_getD hZ.out.1 _
                                          have hrk : (sideR xs R C d).take (i + 1) = (sideR xs R C d).take i ++ [x] := by rw [sideR_take hiR, hx, hja, hoa]
                                          have HRK := Lib.hid hrk
                                          have HXZ := Lib.hid hxz
                                          have hw1 : IntKind.i64.wrap (oa : Int) = (oa : Int) := IntWalk.i64_in _ (by omega)
                                          have hw3 : IntKind.i64.wrap (ja : Int) = (ja : Int) := IntWalk.i64_in _ (by omega)
                                          have hji1 : (ja : Int) < (n : Int) := by omega
                                          obtain ⟨Av, nv, cv, hV2⟩ : ∃ Av nv cv, V4 = .slice Av nv cv := by obtain ⟨A1, c1, e, _⟩ := own_slice HH4.out.own.own; exact ⟨A1, _, c1, e⟩
                                          subst hV2
                                          have hdl : d * R ≤ C * R := Nat.mul_le_mul_right R (by omega)
                                          have hcr : C * R ≤ 48 * 40 := Nat.mul_le_mul hC (by omega)
                                          have hsl := sideG_len xs R C d
                                          obtain ⟨wd, hwd⟩ : ∃ wd, wd = wr.drew := ⟨_, rfl⟩
                                          have hbd : Below wr.heap.size wr wd := by rw [hwd]; exact (Below.refl _ _).drew
                                          have hid := HH4.out.below hbd
                                          have HD := Lib.hid hid
                                          have Y1 := Lib.hid (bat hid.b hid.g1)
                                          have Y2 := Lib.hid (bat hid.b hid.g2)
                                          have Y3 := Lib.hid hid.h2
                                          have Y4 := Lib.hid (bat hid.b e1)
                                          have y1 := Y1.out
                                          have y2 := Y2.out
                                          have y3 := Y3.out
                                          have y4 := Y4.out
                                          rw [hwd] at y1 y2 y3 y4
                                          have HWD := Lib.hid hwd
                                          have hll : (sideG xs R C d ++ (sideR xs R C d).take i).length ≤ 10000 := by
                                            rw [List.length_append, hsl, List.length_take, sideR_len]; omega
                                          clear hoa hja hx hrk hxz e1 hbd hid hwd hdl hcr hsl
                                          go_upto_region 40 with fail
                                          clear g0
                                          refine wp_region_G (S := (fun w' => w'.cell? ⟨gg, 1, none⟩ = some (.int .i64 (C : Int)) ∧ w'.cell? ⟨gg, 2, none⟩ = some (.slice (some ⟨b1, o1, none⟩) n cD) ∧ w'.cell? ⟨gq, 2, none⟩ = some (.slice Av nv cv) ∧ w'.cell? ⟨b1, o1 + ja, none⟩ = some (.int .i64 x))) 13 (by kernel_rfl) ?_ (fun hHeld => ?_)
                                          · first | exact True.intro | ((try dsimp only); go_keep)
                                          refine wpAnyG_take (i := 0) (v := ?_) rfl (by kernel_rfl) (by kernel_rfl) (by kernel_rfl) (by kernel_rfl) 30 (by kernel_rfl) (fun _ _ _ h => h) (Or.inl ⟨by kernel_rfl, ?_⟩) (by assumption) ?_
                                          rotate_left 1
                                          · (intro w hSw; (try dsimp only at hSw); go_simp; try with_reducible rfl)
                                          try simp only [lyA, lyB, lyC, Act.put, lyD, lyE, lyF]
                                          refine wpAnyG_take (i := 1) (v := ?_) rfl (by kernel_rfl) (by kernel_rfl) (by kernel_rfl) (by kernel_rfl) 30 (by kernel_rfl) (fun _ _ _ h => h) (Or.inl ⟨by kernel_rfl, ?_⟩) (by assumption) ?_
                                          rotate_left 1
                                          · (intro w hSw; (try dsimp only at hSw); go_simp; try with_reducible rfl)
                                          try simp only [lyA, lyB, lyC, Act.put, lyD, lyE, lyF]
                                          refine wpAnyG_take (i := 2) (v := ?_) rfl (by kernel_rfl) (by kernel_rfl) (by kernel_rfl) (by kernel_rfl) 30 (by kernel_rfl) (fun _ _ _ h => h) (Or.inl ⟨by kernel_rfl, ?_⟩) (by assumption) ?_
                                          rotate_left 1
                                          · (intro w hSw; (try dsimp only at hSw); go_simp; try with_reducible rfl)
                                          try simp only [lyA, lyB, lyC, Act.put, lyD, lyE, lyF]
                                          refine wpAnyG_take (i := 3) (v := ?_) rfl (by kernel_rfl) (by kernel_rfl) (by kernel_rfl) (by kernel_rfl) 30 (by kernel_rfl) (fun _ _ _ h => h) (Or.inl ⟨by kernel_rfl, ?_⟩) (by assumption) ?_
                                          rotate_left 1
                                          · (intro w hSw; (try dsimp only at hSw); go_simp; try with_reducible rfl)
                                          try simp only [lyA, lyB, lyC, Act.put, lyD, lyE, lyF]
                                          refine wpAnyG_take (i := 4) (v := ?_) rfl (by kernel_rfl) (by kernel_rfl) (by kernel_rfl) (by kernel_rfl) 30 (by kernel_rfl) (fun _ _ _ h => h) (Or.inl ⟨by kernel_rfl, ?_⟩) (by assumption) ?_
                                          rotate_left 1
                                          · (intro w hSw; (try dsimp only at hSw); go_simp; try with_reducible rfl)
                                          try simp only [lyA, lyB, lyC, Act.put, lyD, lyE, lyF]
                                          refine wpAnyG_take (i := 5) (v := ?_) rfl (by kernel_rfl) (by kernel_rfl) (by kernel_rfl) (by kernel_rfl) 30 (by kernel_rfl) (fun _ _ _ h => h) (Or.inl ⟨by kernel_rfl, ?_⟩) (by assumption) ?_
                                          rotate_left 1
                                          · (intro w hSw; (try dsimp only at hSw); go_simp; try with_reducible rfl)
                                          try simp only [lyA, lyB, lyC, Act.put, lyD, lyE, lyF]
                                          refine wpAnyG_take (i := 6) (v := ?_) rfl (by kernel_rfl) (by kernel_rfl) (by kernel_rfl) (by kernel_rfl) 30 (by kernel_rfl) (fun _ _ _ h => h) (Or.inl ⟨by kernel_rfl, ?_⟩) (by assumption) ?_
                                          rotate_left 1
                                          · (intro w hSw; (try dsimp only at hSw); go_simp; try with_reducible rfl)
                                          try simp only [lyA, lyB, lyC, Act.put, lyD, lyE, lyF]
                                          refine wpAnyG_take (i := 7) (v := ?_) rfl (by kernel_rfl) (by kernel_rfl) (by kernel_rfl) (by kernel_rfl) 30 (by kernel_rfl) (fun _ _ _ h => h) (Or.inl ⟨by kernel_rfl, ?_⟩) (by assumption) ?_
                                          rotate_left 1
                                          · (intro w hSw; (try dsimp only at hSw); go_simp; try with_reducible rfl)
                                          try simp only [lyA, lyB, lyC, Act.put, lyD, lyE, lyF]
                                          refine wpAnyG_take (i := 8) (v := ?_) rfl (by kernel_rfl) (by kernel_rfl) (by kernel_rfl) (by kernel_rfl) 30 (by kernel_rfl) (fun _ _ _ h => h) (Or.inl ⟨by kernel_rfl, ?_⟩) (by assumption) ?_
                                          rotate_left 1
                                          · (intro w hSw; (try dsimp only at hSw); go_simp; try with_reducible rfl)
                                          try simp only [lyA, lyB, lyC, Act.put, lyD, lyE, lyF]
                                          refine wpAnyG_take (i := 9) (v := ?_) rfl (by kernel_rfl) (by kernel_rfl) (by kernel_rfl) (by kernel_rfl) 30 (by kernel_rfl) (fun _ _ _ h => h) (Or.inl ⟨by kernel_rfl, ?_⟩) (by assumption) ?_
                                          rotate_left 1
                                          · (intro w hSw; (try dsimp only at hSw); go_simp; try with_reducible rfl)
                                          try simp only [lyA, lyB, lyC, Act.put, lyD, lyE, lyF]
                                          refine wpAnyG_take (i := 10) (v := ?_) rfl (by kernel_rfl) (by kernel_rfl) (by kernel_rfl) (by kernel_rfl) 30 (by kernel_rfl) (fun _ _ _ h => h) (Or.inl ⟨by kernel_rfl, ?_⟩) (by assumption) ?_
                                          rotate_left 1
                                          · (intro w hSw; (try dsimp only at hSw); go_simp; try with_reducible rfl)
                                          try simp only [lyA, lyB, lyC, Act.put, lyD, lyE, lyF]
                                          refine wpAnyG_take (i := 11) (v := ?_) rfl (by kernel_rfl) (by kernel_rfl) (by kernel_rfl) (by kernel_rfl) 30 (by kernel_rfl) (fun _ _ _ h => h) (Or.inl ⟨by kernel_rfl, ?_⟩) (by assumption) ?_
                                          rotate_left 1
                                          · (intro w hSw; (try dsimp only at hSw); go_simp; try with_reducible rfl)
                                          try simp only [lyA, lyB, lyC, Act.put, lyD, lyE, lyF]
                                          rw [← HWD.out]
                                          clear y1 y2 y3 y4
                                          obtain ⟨wb9, hwb9⟩ : ∃ wb, wb = wd.alloc (.cells #[.int .i64 x] 2) := ⟨_, rfl⟩
                                          have hbb : Below wd.heap.size wd wb9 := by rw [hwb9]; exact below1 ..
                                          have hib := HD.out.below hbb
                                          have HIB := Lib.hid hib
                                          have hrd9 : Rd wb9 (fun _ => True) 1 (some ⟨wd.heap.size, 0, none⟩) 1 [.int .i64 x] := by rw [hwb9]; exact rd_blk (blk_new ..) rfl trivial
                                          have HRD9 := Lib.hid hrd9
                                          have HWB9 := Lib.hid hwb9
                                          have k1 := bat hbb Y1.out
                                          have k2 := bat hbb Y2.out
                                          have k3 := bat hbb Y3.out
                                          have k4 := bat hbb Y4.out
                                          rw [hwb9] at k1 k2 k3 k4
                                          clear hwb9 hbb hib hrd9
                                          refine wpAnyG_one (i := 12) (by kernel_rfl) rfl (fun K hK => ?_)
                                          go_simp
                                          refine (fun hHeld => hK.out _ _ (.inl hHeld) (fun _ => ?_)) ?_
                                          rotate_left 1
                                          · first | exact True.intro | ((try dsimp only); go_keep)
                                          clear hK K
                                          try simp only [lyA, lyB, lyC, Act.put, lyD, lyE, lyF]
                                          rw [← HWB9.out]
                                          clear k1 k2 k3 k4
                                          obtain ⟨cur, hcur⟩ : ∃ cur, cur = sideG xs R C d ++ (sideR xs R C d).take i := ⟨_, rfl⟩
                                          rw [← hcur] at HIB hll
                                          have HCU := Lib.hid hcur
                                          clear hcur
                                          refine wpAnyG_oneW (i := 13) (by kernel_rfl) rfl rfl (fun K hK => ?_)
                                          refine wp_append_K _ _ _ rfl wm.heap.size 2 i6 _ 1 8 Try.underlying22 hi6 hy60 hy61 hy62 rfl (by omega) Ik (by intro u hu; simp [Value.cells] at hu; exact ⟨_, hu⟩) (.slice Av nv cv) cur.length (cur.flatMap Zc) rfl HIB.out.own (fun _ => True) (some ⟨wd.heap.size, 0, none⟩) 1 1 [.int .i64 x] rfl HRD9.out (by simp [Value.oneCell']) (by intro u hu; simp at hu; exact ⟨_, hu⟩) (by simp only [maxLen]; omega) (by omega) HIB.out.b.size (fun v2 w9 hown2 hg2 => ?_)
                                          refine hK.out _ _ ?_ (fun hHeld => ?_)
                                          · exact .inr (by kernel_rfl)
                                          clear hK K
                                          try simp only [lyA, lyB, lyC, Act.put, lyD, lyE, lyF]
                                          clear hHeld
                                          have hbx := HIB.out.grow hg2
                                          have k3 : w9.cell? ⟨gq, 2, none⟩ = some (.slice Av nv cv) := (World.cell?_of_block (a := ⟨gq, 2, none⟩) hbx).trans HIB.out.h2
                                          have k4 : w9.frozen? ⟨gq, 2, none⟩ = false := (World.frozen?_of_block (a := ⟨gq, 2, none⟩) hbx).trans (HIB.out.fz 2)
                                          obtain ⟨Aw, cw, hV2, _, _⟩ := own_slice hown2.own
                                          obtain ⟨wz, hwz⟩ : ∃ wz, wz = w9.setCell ⟨gq, 2, none⟩ v2 := ⟨_, rfl⟩
                                          have hiz := HIB.out.app hg2 hown2 HXZ.out hwz
                                          have HIZ := Lib.hid hiz
                                          have HWZ := Lib.hid hwz
                                          obtain ⟨m9, hm9⟩ : ∃ m, m = cur.length + 1 := ⟨_, rfl⟩
                                          rw [← hm9] at hV2
                                          subst hV2
                                          clear hbx hown2 hg2 hiz hwz hm9
                                          refine wpAnyG_one (i := 14) (by kernel_rfl) rfl (fun K hK => ?_)
                                          go_simp
                                          refine hK.out _ _ ?_ (fun hHeld => ?_)
                                          · exact .inr (by kernel_rfl)
                                          clear hK K
                                          try simp only [lyA, lyB, lyC, Act.put, lyD, lyE, lyF]
                                          refine wpAnyG_one (i := 15) (by kernel_rfl) rfl (fun K hK => ?_)
                                          go_simp
                                          refine hK.out _ _ ?_ (fun hHeld => ?_)
                                          · exact .inr (by kernel_rfl)
                                          clear hK K
                                          try simp only [lyA, lyB, lyC, Act.put, lyD, lyE, lyF]
                                          refine wpAnyG_done (by kernel_rfl) ?_ _
                                          clear hHeld k3 k4
                                          go_wp2_with fail
                                          rw [← HWZ.out]
                                          refine ⟨⟨i + 1, .slice Aw m9 cw, by omega, by go_num, ?_⟩, by simp [intOf]; omega⟩
                                          rw [HRK.out, ← List.append_assoc, ← HCU.out]
                                          exact HIZ.out
                                        · obtain rfl : R = i := by omega
                                          have hnlR : ¬ ((R : Int) < (R : Int)) := by omega
                                          go_wp2_with fail
                                          refine ⟨⟨d + 1, V4, by omega, by go_num, ?_⟩, by simp [intOf]; omega⟩
                                          have h9 := HH4.out
                                          rw [List.take_of_length_le (by rw [sideR_len]; exact Nat.le_refl _), ← sideG_succ] at h9
                                          exact h9
                                    · obtain rfl : C = d := by omega
                                      have hnlC : ¬ ((C : Int) < (C : Int)) := by omega
                                      obtain ⟨m2, hm2⟩ : ∃ m2, m2 = C * R := ⟨_, rfl⟩
                                      have hsl : (sideG xs R C C).length = m2 := by rw [hm2]; exact sideG_len xs R C C
                                      have hm2l : m2 ≤ 48 * 40 := by rw [hm2]; exact Nat.mul_le_mul hC (by omega)
                                      obtain ⟨AV3, cV3, hV3, _, _⟩ := own_slice HH3.out.own.own
                                      rw [hsl] at hV3
                                      subst hV3
                                      have hgr3 : GridAt wr (.agg #[.int .i64 (C : Int), .int .i64 (R : Int), .slice AV3 m2 cV3]) (C : Int) (R : Int) m2 (sideG xs R C C) := by
                                        have ho := HH3.out.own
                                        rw [hsl] at ho
                                        exact ⟨⟨AV3, cV3, rfl, (RdE.of_own Zc.clen (by decide) ho.own).imp fun b hb => hb.2.1⟩, HH3.out.z, hZ.out.2.2, hZ.out.2.1, by omega⟩
                                      have hrg3 : rightG (C : Int) (R : Int) m2 = true := by
                                        unfold rightG
                                        have e : ((m2 : Nat) : Int) = (C : Int) * (R : Int) := by rw [hm2]; simp
                                        exact decide_eq_true ⟨by omega, by omega, by omega, by omega, e⟩
                                      have hpv : (gS (C : Int) (R : Int) (sideG xs R C C)).piv.length = s.piv.length := by
                                        rw [HGS.out.2.2]
                                        unfold gS
                                        simp only [Int.toNat_natCast]
                                        exact side_rank (by rw [HXe.out.num, HN.out])
                                      have HGR3 := Lib.hid hgr3
                                      have HRG3 := Lib.hid hrg3
                                      have HPV := Lib.hid hpv
                                      clear hm2 hgr3 hrg3 hpv hsl
                                      go_upto_region 41 with fail
                                      clear g1
                                      have h0 := HH3.out.h0
                                      have h1 := HH3.out.h1
                                      have h2 := HH3.out.h2
                                      go_wp2_with fail
                                      clear h0 h1 h2
                                      refine (rank_any _ (C : Int) (R : Int) m2 (sideG xs R C C) wr HGR3.out).mono ?_
                                      rintro e wy ⟨hby, hpy⟩
                                      rcases hpy with ⟨_, V5, base5, rfl, _, _, _⟩ | ⟨hf, _⟩
                                      · rw [HPV.out]
                                        have hee : ((s.piv.length : Int) == (s.piv.length : Int)) = true := by simp
                                        have HBY := Lib.hid ((HB7e.out.trans (HBM.out.mono HB7e.out.size)).trans ((HH3.out.b.trans (hby.mono HH3.out.b.size)).mono (Nat.le_trans HB7e.out.size HBM.out.size)))
                                        clear hby
                                        go_wp2_with fail
                                        go_ret
                                        exact ⟨by simp, HBY.out⟩
                                      · rw [HRG3.out] at hf; cases hf
                                · rw [HRG2.out] at hf; cases hf
                              · rw [HRG2.out] at hf; cases hf
            · rw [HRG.out] at hf; cases hf
          · rw [HRG.out] at hf; cases hf

end Go.Proofs.Ytfepmbpcdfdlhaa
