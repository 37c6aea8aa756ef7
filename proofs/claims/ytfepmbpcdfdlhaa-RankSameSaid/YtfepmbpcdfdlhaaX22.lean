import Derived.Test.YtfepmbpcdfdlhaaX21
set_option linter.unusedSimpArgs false
set_option linter.unusedVariables false
/- girderlaw11.awake: the walk -/
namespace Go.Proofs.Ytfepmbpcdfdlhaa
open Go.RowKit Go.Sort

def awX : List Int := [1, 2, 3, 2, 4, 6]
def awD : List DV := [⟨false, [1], 1⟩, ⟨false, [1], 0⟩, ⟨false, [1], 0⟩, ⟨false, [1], 0⟩]
def awB : List RV := [⟨false, [1], [1]⟩, ⟨false, [], [1]⟩]
theorem aw_right : rightG 2 3 6 = true := by decide
theorem aw_piv : (gS 2 3 awX).piv = [0] := by decide +kernel
theorem aw_ker : (kerRows (gS 2 3 awX) 3 3).length = 2 := by
  unfold kerRows
  rw [List.length_map, aw_piv]
  decide
theorem aw_sys : sysB 2 2 awD awB = true := by decide +kernel
theorem aw_long : 2 * sprW awD ≤ 8192 := by decide +kernel
theorem aw_sol : (solS awD 2).piv.length = 2 := by decide +kernel
theorem aw_fit : ∀ i, i < 2 → fits (ansQ (solS awD 2) 2 (awB.map RV.q) (sprL awD) i) := by decide +kernel
theorem aw_ans : ansL (solS awD 2) 2 (awB.map RV.q) (sprL awD) 2 = [1, -1] := by decide +kernel
theorem aw_solve {w w' : World} {e : Ending} (h : SolvePost 2 2 awD awB w e w') : Below w.heap.size w w' ∧ ∃ V, e = .returned (.tuple #[V, .int .i64 0]) ∧ RatsAt w' V [1, -1] := by
  obtain ⟨h1, h2⟩ := h
  refine ⟨h1, ?_⟩
  have e2 : ((2 : Int)).toNat = 2 := rfl
  rw [e2] at h2
  rcases h2 with ⟨a, _⟩ | ⟨_, a, _⟩ | ⟨_, _, a, _⟩ | ⟨_, _, _, a⟩
  · rw [aw_sys] at a; cases a
  · have := aw_long; omega
  · rw [aw_sol] at a; omega
  · rcases a with ⟨_, V, e, hV⟩ | ⟨a, _⟩
    · rw [aw_ans] at hV
      exact ⟨V, e, hV⟩
    · exact absurd aw_fit a

/-- the system that awake lays out -/
def awW (w : World) : World := (((((w.alloc (.cells #[.int .u64 1] 45)).alloc (.cells #[.bool false, .slice (some ⟨w.heap.size, 0, none⟩) 1 1, .int .i64 0] 61)).alloc (.cells #[.int .u64 1] 45)).alloc
  (.cells #[.bool false, .slice (some ⟨w.heap.size + 1 + 1, 0, none⟩) 1 1, .int .i64 1] 61)).alloc
  (.cells #[.bool false, .slice (some ⟨w.heap.size + 1 + 1, 0, none⟩) 1 1, .int .i64 1, .bool false, .slice (some ⟨w.heap.size, 0, none⟩) 1 1, .int .i64 0, .bool false, .slice (some ⟨w.heap.size, 0, none⟩) 1 1, .int .i64 0, .bool false, .slice (some ⟨w.heap.size, 0, none⟩) 1 1, .int .i64 0] 61)).alloc
  (.cells #[.int .i64 2, .int .i64 2, .slice (some ⟨w.heap.size + 1 + 1 + 1 + 1, 0, none⟩) 4 4] 51)
theorem aw_mem (w : World) : Below w.heap.size w (awW w) ∧ DyadsAt (awW w) (some ⟨w.heap.size + 1 + 1 + 1 + 1, 0, none⟩) 4 awD ∧ (awW w).heap[w.heap.size + 1 + 1 + 1 + 1 + 1]? = some (.cells #[.int .i64 2, .int .i64 2, .slice (some ⟨w.heap.size + 1 + 1 + 1 + 1, 0, none⟩) 4 4] 51 (0, 0)) := by
  obtain ⟨o1, ho1⟩ : ∃ o, o = Obj.cells #[.int .u64 1] 45 := ⟨_, rfl⟩
  obtain ⟨o2, ho2⟩ : ∃ o, o = Obj.cells #[.bool false, .slice (some ⟨w.heap.size, 0, none⟩) 1 1, .int .i64 0] 61 := ⟨_, rfl⟩
  obtain ⟨o4, ho4⟩ : ∃ o, o = Obj.cells #[.bool false, .slice (some ⟨w.heap.size + 1 + 1, 0, none⟩) 1 1, .int .i64 1] 61 := ⟨_, rfl⟩
  obtain ⟨o5, ho5⟩ : ∃ o, o = Obj.cells #[.bool false, .slice (some ⟨w.heap.size + 1 + 1, 0, none⟩) 1 1, .int .i64 1, .bool false, .slice (some ⟨w.heap.size, 0, none⟩) 1 1, .int .i64 0, .bool false, .slice (some ⟨w.heap.size, 0, none⟩) 1 1, .int .i64 0, .bool false, .slice (some ⟨w.heap.size, 0, none⟩) 1 1, .int .i64 0] 61 := ⟨_, rfl⟩
  obtain ⟨o6, ho6⟩ : ∃ o, o = Obj.cells #[.int .i64 2, .int .i64 2, .slice (some ⟨w.heap.size + 1 + 1 + 1 + 1, 0, none⟩) 4 4] 51 := ⟨_, rfl⟩
  have e : awW w = (((((w.alloc o1).alloc o2).alloc o1).alloc o4).alloc o5).alloc o6 := by rw [ho1, ho2, ho4, ho5, ho6]; rfl
  rw [e, ← ho6]
  have b1 : (w.alloc o1).heap[w.heap.size]? = some o1 := by rw [ho1]; exact blk_new ..
  have b3 : (((w.alloc o1).alloc o2).alloc o1).heap[w.heap.size + 1 + 1]? = some o1 := by
    have h : (((w.alloc o1).alloc o2).alloc o1).heap[((w.alloc o1).alloc o2).heap.size]? = some o1 := by rw [ho1]; exact blk_new ..
    rwa [World.size_alloc, World.size_alloc] at h
  have b5 : (((((w.alloc o1).alloc o2).alloc o1).alloc o4).alloc o5).heap[w.heap.size + 1 + 1 + 1 + 1]? = some o5 := by
    have h : (((((w.alloc o1).alloc o2).alloc o1).alloc o4).alloc o5).heap[((((w.alloc o1).alloc o2).alloc o1).alloc o4).heap.size]? = some o5 := by rw [ho5]; exact blk_new ..
    rwa [World.size_alloc, World.size_alloc, World.size_alloc, World.size_alloc] at h
  have b6 : ((((((w.alloc o1).alloc o2).alloc o1).alloc o4).alloc o5).alloc o6).heap[w.heap.size + 1 + 1 + 1 + 1 + 1]? = some o6 := by
    have h : ((((((w.alloc o1).alloc o2).alloc o1).alloc o4).alloc o5).alloc o6).heap[(((((w.alloc o1).alloc o2).alloc o1).alloc o4).alloc o5).heap.size]? = some o6 := by rw [ho6]; exact blk_new ..
    rwa [World.size_alloc, World.size_alloc, World.size_alloc, World.size_alloc, World.size_alloc] at h
  have c1 : ((((((w.alloc o1).alloc o2).alloc o1).alloc o4).alloc o5).alloc o6).heap[w.heap.size]? = some o1 := blk_old (blk_old (blk_old (blk_old (blk_old b1 _) _) _) _) _
  have c3 : ((((((w.alloc o1).alloc o2).alloc o1).alloc o4).alloc o5).alloc o6).heap[w.heap.size + 1 + 1]? = some o1 := blk_old (blk_old (blk_old b3 _) _) _
  have c5 : ((((((w.alloc o1).alloc o2).alloc o1).alloc o4).alloc o5).alloc o6).heap[w.heap.size + 1 + 1 + 1 + 1]? = some o5 := blk_old b5 _
  refine ⟨((((((Below.refl _ w).alloc (Nat.le_refl _) _).alloc (by simp) _).alloc (by simp; omega) _).alloc (by simp; omega) _).alloc (by simp; omega) _).alloc (by simp; omega) _, ⟨⟨[⟨false, some ⟨w.heap.size + 1 + 1, 0, none⟩, 1, 1, 1⟩, ⟨false, some ⟨w.heap.size, 0, none⟩, 1, 1, 0⟩, ⟨false, some ⟨w.heap.size, 0, none⟩, 1, 1, 0⟩, ⟨false, some ⟨w.heap.size, 0, none⟩, 1, 1, 0⟩], ?_, fun k t d ht hd => ?_⟩, rfl⟩, b6⟩
  · have d5 := c5.trans (congrArg some ho5)
    exact rde_blk (f := Dc) (size := 3) (n := 4) d5 rfl (Array.getElem?_eq_some_iff.1 c5).1 rfl rfl
  · have d1 := c1.trans (congrArg some ho1)
    have d3 := c3.trans (congrArg some ho1)
    match k with
    | 0 => simp [awD] at ht hd; subst ht hd; exact ⟨_, _, _, rfl, rd_one d3, lds_one⟩
    | 1 => simp [awD] at ht hd; subst ht hd; exact ⟨_, _, _, rfl, rd_one d1, lds_one⟩
    | 2 => simp [awD] at ht hd; subst ht hd; exact ⟨_, _, _, rfl, rd_one d1, lds_one⟩
    | 3 => simp [awD] at ht hd; subst ht hd; exact ⟨_, _, _, rfl, rd_one d1, lds_one⟩
    | k + 4 => simp at ht

def awV (w : World) : World := (((w.alloc (.cells #[.int .u64 1] 45)).alloc (.cells #[.int .u64 1] 45)).alloc (.cells #[.bool true, .slice (some ⟨w.heap.size, 0, none⟩) 1 1, .slice (some ⟨w.heap.size + 1, 0, none⟩) 1 1] 43))
theorem aw_want (w : World) : Below w.heap.size w (awV w) ∧ At (awV w) (.agg #[.bool true, .slice (some ⟨w.heap.size, 0, none⟩) 1 1, .slice (some ⟨w.heap.size + 1, 0, none⟩) 1 1]) (-1) ∧
    (awV w).heap[w.heap.size + 1 + 1]? = some (.cells #[.bool true, .slice (some ⟨w.heap.size, 0, none⟩) 1 1, .slice (some ⟨w.heap.size + 1, 0, none⟩) 1 1] 43 (0, 0)) := by
  have h1 := blk_new w #[.int .u64 1] 45
  have h2 := blk_new (w.alloc (.cells #[.int .u64 1] 45)) #[.int .u64 1] 45
  rw [World.size_alloc] at h2
  have h3 := blk_new ((w.alloc (.cells #[.int .u64 1] 45)).alloc (.cells #[.int .u64 1] 45)) #[.bool true, .slice (some ⟨w.heap.size, 0, none⟩) 1 1, .slice (some ⟨w.heap.size + 1, 0, none⟩) 1 1] 43
  rw [World.size_alloc, World.size_alloc] at h3
  refine ⟨(below2 ..).trans ((below1 ..).mono (by simp; omega)), ⟨?_, fits_minus⟩, h3⟩
  rw [rv_minus]
  exact ⟨_, _, _, _, _, _, rfl, rd_one (blk_old (blk_old h1 _) _), rd_one (blk_old h2 _), lds_one, lds_one⟩

set_option maxRecDepth 100000 in
set_option maxHeartbeats 4000000 in
theorem awake_any (w : World) : Calls Try.prog 7 #[] w fun e w' => e = .returned (.bool true) ∧ Below w.heap.size w w' := by
  go_enter Try.func7, Try.ntmps7
  go_wp2_with fail
  refine (rows_any w).mono ?_
  rintro e w1 ⟨v1, rfl, hg1, hb1⟩
  have HG1 := Lib.hid hg1
  have HB1 := Lib.hid hb1
  clear hg1 hb1
  go_wp2_with fail
  refine (rank_any v1 2 3 6 awX w1 HG1.out).mono ?_
  rintro e w2 ⟨hb2, hp2⟩
  rcases hp2 with ⟨_, V, base, rfl, _, _, hown⟩ | ⟨hf, _⟩
  · rw [aw_piv] at hown ⊢
    obtain ⟨Ap, cp, rfl, _, _⟩ := own_slice hown.own
    have hrd := (RdE.of_own (f := Ic) (fun _ => rfl) (by decide) hown.own).imp (S' := fun b => b < w2.heap.size) (fun b h => h.2.1)
    have HRD := Lib.hid hrd
    have HB2 := Lib.hid (HB1.out.trans (hb2.mono HB1.out.size))
    clear hown hrd hb2
    go_wp2_with fail
    refine (rows_any w2).mono ?_
    rintro e w3 ⟨v3, rfl, hg3, hb3⟩
    have HG3 := Lib.hid hg3
    have HB3 := Lib.hid hb3
    clear hg3 hb3
    go_wp2_with fail
    refine (kernel_any v3 2 3 6 awX w3 HG3.out).mono ?_
    rintro e w4 ⟨hb4, hp4⟩
    rcases hp4 with ⟨_, VK, rfl, hrows⟩ | ⟨hf, _⟩
    · obtain ⟨Ak, ck, _, rfl, _, _⟩ := hrows.at_
      rw [show ((3 : Int)).toNat = 3 from rfl, aw_ker]
      have hb24 := HB3.out.trans (hb4.mono HB3.out.size)
      have HB4 := Lib.hid (HB2.out.trans (hb24.mono HB2.out.size))
      have HRD4 := Lib.hid (HRD.out.blw hb24)
      clear hrows hb4 hb24
      go_upto_region 6 with fail
      obtain ⟨w5, hw5⟩ : ∃ w5, w5 = awW w4 := ⟨_, rfl⟩
      obtain ⟨hb5, hd5, hbk5⟩ := aw_mem w4
      rw [← hw5] at hb5 hd5 hbk5
      have hw5' := hw5
      unfold awW at hw5'
      rw [← hw5']
      obtain ⟨gd, hgd⟩ : ∃ gd, gd = w4.heap.size + 1 + 1 + 1 + 1 := ⟨_, rfl⟩
      rw [← hgd] at hd5 hbk5 ⊢
      obtain ⟨ga, hga⟩ : ∃ ga, ga = gd + 1 := ⟨_, rfl⟩
      rw [← hga] at hbk5 ⊢
      have q0 : w5.cell? ⟨ga, 0, none⟩ = some (.int .i64 2) := by rw [cell_of_row _ ga 0 _ _ (0, 0) hbk5]; rfl
      have q1 : w5.cell? ⟨ga, 1, none⟩ = some (.int .i64 2) := by rw [cell_of_row _ ga 1 _ _ (0, 0) hbk5]; rfl
      have q2 : w5.cell? ⟨ga, 2, none⟩ = some (.slice (some ⟨gd, 0, none⟩) 4 4) := by rw [cell_of_row _ ga 2 _ _ (0, 0) hbk5]; rfl
      obtain ⟨we, hwe⟩ : ∃ we, we = w5.drew := ⟨_, rfl⟩
      have hbe : Below w5.heap.size w5 we := by rw [hwe]; exact (Below.refl _ _).drew
      have X0 := Lib.hid (bat hbe q0)
      have X1 := Lib.hid (bat hbe q1)
      have X2 := Lib.hid (bat hbe q2)
      have y0 := X0.out
      have y1 := X1.out
      have y2 := X2.out
      rw [hwe] at y0 y1 y2
      have HD5 := Lib.hid (hd5.below hbe)
      have HB5 := Lib.hid (HB4.out.trans ((hb5.trans (hbe.mono hb5.size)).mono HB4.out.size))
      have HRD5 := Lib.hid (HRD4.out.blw (hb5.trans (hbe.mono hb5.size)))
      have HWE := Lib.hid hwe
      clear hb5 hd5 hbk5 hw5 hw5' hgd hga q0 q1 q2 hbe hwe
      refine wp_region_G (S := (fun w' => w'.cell? ⟨ga, 0, none⟩ = some (.int .i64 2) ∧ w'.cell? ⟨ga, 1, none⟩ = some (.int .i64 2) ∧ w'.cell? ⟨ga, 2, none⟩ = some (.slice (some ⟨gd, 0, none⟩) 4 4))) 4 (by kernel_rfl) ?_ (fun hHeld => ?_)
      · first | exact True.intro | ((try dsimp only); go_keep)
      refine tkG (i := 0) (v := ?_) rfl (by kernel_rfl) (Or.inl ⟨by kernel_rfl, ?_⟩) (by assumption) ?_
      rotate_left 1
      · (intro w hSw; (try dsimp only at hSw); go_simp; try with_reducible rfl)
      try simp only [lyA, lyB, lyC, Act.put, lyD, lyE, lyF]
      rw [← HWE.out]
      clear y0 y1 y2
      refine wpAnyG_one (i := 1) (by kernel_rfl) rfl (fun K hK => ?_)
      go_simp
      (refine (whole_one we).mono ?_; rintro e w6 ⟨u1, rfl, hu1, hb6⟩; obtain ⟨t1, rfl⟩ := hu1.t3; have y0 := bat hb6 X0.out; have y1 := bat hb6 X1.out; have y2 := bat hb6 X2.out; have HU1 := Lib.hid hu1; have HB6 := Lib.hid hb6; clear hu1 hb6)
      try go_wp2_with fail
      refine (fun hHeld => hK.out _ _ (.inl hHeld) (fun _ => ?_)) ?_
      rotate_left 1
      · first | exact True.intro | ((try dsimp only); go_keep)
      clear hK K
      try simp only [lyA, lyB, lyC, Act.put, lyD, lyE, lyF]
      clear y0 y1 y2
      have Z0 := Lib.hid (bat HB6.out X0.out)
      have Z1 := Lib.hid (bat HB6.out X1.out)
      have Z2 := Lib.hid (bat HB6.out X2.out)
      have y0 := Z0.out
      have y1 := Z1.out
      have y2 := Z2.out
      refine wpAnyG_one (i := 2) (by kernel_rfl) rfl (fun K hK => ?_)
      go_simp
      (refine (whole_nought w6).mono ?_; rintro e w7 ⟨u2, rfl, hu2, hb7⟩; obtain ⟨t2, rfl⟩ := hu2.t3; have x0 := bat hb7 Z0.out; have x1 := bat hb7 Z1.out; have x2 := bat hb7 Z2.out; have HU2 := Lib.hid hu2; have HB7 := Lib.hid hb7; clear hu2 hb7)
      try go_wp2_with fail
      refine (fun hHeld => hK.out _ _ (.inl hHeld) (fun _ => ?_)) ?_
      rotate_left 1
      · first | exact True.intro | ((try dsimp only); go_keep)
      clear hK K
      try simp only [lyA, lyB, lyC, Act.put, lyD, lyE, lyF]
      clear x0 x1 x2 y0 y1 y2
      obtain ⟨w8, hw8⟩ : ∃ w8, w8 = w7.alloc (.cells #[.bool t1.s, .slice t1.a t1.n t1.c, .slice t1.a' t1.n' t1.c', .bool t2.s, .slice t2.a t2.n t2.c, .slice t2.a' t2.n' t2.c'] 43) := ⟨_, rfl⟩
      have hb8 : Below w7.heap.size w7 w8 := by rw [hw8]; exact below1 ..
      have z0 := bat hb8 (bat HB7.out Z0.out)
      have z1 := bat hb8 (bat HB7.out Z1.out)
      have z2 := bat hb8 (bat HB7.out Z2.out)
      rw [hw8] at z0 z1 z2
      have x0 := bat HB7.out Z0.out
      have x1 := bat HB7.out Z1.out
      have x2 := bat HB7.out Z2.out
      obtain ⟨gb, hgb⟩ : ∃ gb, gb = w7.heap.size := ⟨_, rfl⟩
      have hbs : RVsAt w8 (some ⟨gb, 0, none⟩) 2 awB := by
        have hblk : w8.heap[gb]? = some (.cells #[.bool t1.s, .slice t1.a t1.n t1.c, .slice t1.a' t1.n' t1.c', .bool t2.s, .slice t2.a t2.n t2.c, .slice t2.a' t2.n' t2.c'] 43 (0, 0)) := by rw [hw8, hgb]; exact blk_new ..
        refine ⟨⟨[t1, t2], rde_blk (f := Tc) (size := 3) (n := 2) hblk rfl (Array.getElem?_eq_some_iff.1 hblk).1 rfl rfl, fun k t r ht hr => ?_⟩, rfl⟩
        match k with
        | 0 => simp [awB] at ht hr; subst ht hr; rw [← rv_one]; exact ((HU1.out.below HB7.out).below hb8).1
        | 1 => simp [awB] at ht hr; subst ht hr; rw [← rv_nought]; exact (HU2.out.below hb8).1
        | k + 2 => simp at ht
      have HBS := Lib.hid hbs
      have h68 := HB6.out.trans ((HB7.out.trans (hb8.mono HB7.out.size)).mono HB6.out.size)
      have H68 := Lib.hid h68
      have HW8 := Lib.hid hw8
      have HGB := Lib.hid hgb
      clear hbs h68 hb8 hw8 hgb
      refine wpAnyG_one (i := 3) (by kernel_rfl) rfl (fun K hK => ?_)
      go_simp
      refine (fun hHeld => hK.out _ _ (.inl hHeld) (fun _ => ?_)) ?_
      rotate_left 1
      · first | exact True.intro | ((try dsimp only); go_keep)
      clear hK K
      try simp only [lyA, lyB, lyC, Act.put, lyD, lyE, lyF]
      rw [← HW8.out]
      try rw [← HGB.out]
      clear z0 z1 z2 x0 x1 x2
      refine wpAnyG_one (i := 4) (by kernel_rfl) rfl (fun K hK => ?_)
      go_simp
      (refine (solve_any 2 2 4 4 2 2 (some ⟨gd, 0, none⟩) (some ⟨gb, 0, none⟩) awD awB w8 (by unfold Z63; decide) (by unfold Z63; decide) (by decide) (by decide) (by decide) (HD5.out.below H68.out) HBS.out (by decide) (by decide)).mono ?_; rintro e w9 hsol; obtain ⟨hb9, VX, rfl, hrx⟩ := aw_solve hsol; have HRX := Lib.hid hrx; obtain ⟨Ax, cx, _, rfl, _, _⟩ := hrx.at_; have HB9 := Lib.hid hb9; clear hsol hrx hb9)
      try go_wp2_with fail
      refine hK.out _ _ ?_ (fun hHeld => ?_)
      · exact .inr (by kernel_rfl)
      clear hK K
      try simp only [lyA, lyB, lyC, Act.put, lyD, lyE, lyF]
      refine wpAnyG_one (i := 5) (by kernel_rfl) rfl (fun K hK => ?_)
      go_simp
      refine hK.out _ _ ?_ (fun hHeld => ?_)
      · exact .inr (by kernel_rfl)
      clear hK K
      try simp only [lyA, lyB, lyC, Act.put, lyD, lyE, lyF]
      refine wpAnyG_free (i := 6) (v := ?_) rfl (by kernel_rfl) (by kernel_rfl) (by kernel_rfl) (by decide) (fun _ _ _ h => h) (Or.inl ⟨by kernel_rfl, ?_⟩) (.inr (by kernel_rfl)) ?_
      rotate_left 1
      · (intro w _; go_simp; try with_reducible rfl)
      try simp only [lyA, lyB, lyC, Act.put, lyD, lyE, lyF]
      refine wpAnyG_free (i := 7) (v := ?_) rfl (by kernel_rfl) (by kernel_rfl) (by kernel_rfl) (by decide) (fun _ _ _ h => h) (Or.inl ⟨by kernel_rfl, ?_⟩) (.inr (by kernel_rfl)) ?_
      rotate_left 1
      · (intro w _; go_simp; try with_reducible rfl)
      try simp only [lyA, lyB, lyC, Act.put, lyD, lyE, lyF]
      refine wpAnyG_one (i := 8) (by kernel_rfl) rfl (fun K hK => ?_)
      go_simp
      refine hK.out _ _ ?_ (fun hHeld => ?_)
      · exact .inr (by kernel_rfl)
      clear hK K
      try simp only [lyA, lyB, lyC, Act.put, lyD, lyE, lyF]
      refine wpAnyG_one (i := 9) (by kernel_rfl) rfl (fun K hK => ?_)
      go_simp
      refine hK.out _ _ ?_ (fun hHeld => ?_)
      · exact .inr (by kernel_rfl)
      clear hK K
      try simp only [lyA, lyB, lyC, Act.put, lyD, lyE, lyF]
      refine wpAnyG_done (by kernel_rfl) ?_ _
      clear hHeld
      have HB9T := Lib.hid (HB5.out.trans ((H68.out.trans (HB9.out.mono H68.out.size)).mono HB5.out.size))
      have HRD9 := Lib.hid (HRD5.out.blw (H68.out.trans (HB9.out.mono H68.out.size)))
      go_upto_region 8 with fail
      obtain ⟨hbA, hatA, hblkA⟩ := aw_want w9
      obtain ⟨wA, hwA⟩ : ∃ wA, wA = awV w9 := ⟨_, rfl⟩
      have hwA' := hwA
      rw [← hwA] at hbA hatA hblkA
      unfold awV at hwA'
      rw [← hwA']
      obtain ⟨gw, hgw⟩ : ∃ gw, gw = w9.heap.size + 1 + 1 := ⟨_, rfl⟩
      rw [← hgw] at hblkA ⊢
      obtain ⟨tw, htw⟩ : ∃ tw : T3, tw = ⟨true, some ⟨w9.heap.size, 0, none⟩, 1, 1, some ⟨w9.heap.size + 1, 0, none⟩, 1, 1⟩ := ⟨_, rfl⟩
      have hatA' : At wA tw.val (-1) := by rw [htw]; exact hatA
      have n0 : wA.cell? ⟨gw, 0, none⟩ = some (.bool tw.s) := by rw [htw, cell_of_row _ gw 0 _ _ (0, 0) hblkA]; rfl
      have n1 : wA.cell? ⟨gw, 1, none⟩ = some (.slice tw.a tw.n tw.c) := by rw [htw, cell_of_row _ gw 1 _ _ (0, 0) hblkA]; rfl
      have n2 : wA.cell? ⟨gw, 2, none⟩ = some (.slice tw.a' tw.n' tw.c') := by rw [htw, cell_of_row _ gw 2 _ _ (0, 0) hblkA]; rfl
      obtain ⟨bx, ox, ta, qa, rfl, hqa, hta, c0, c1, c2⟩ := HRX.out.get (k := 0) (by decide)
      obtain ⟨bx', ox', tb, qb, ex, hqb, htb, d0, d1, d2⟩ := HRX.out.get (k := 1) (by decide)
      injection ex with ex
      injection ex with ex1 ex2
      subst ex1 ex2
      obtain rfl : (1 : Rat) = qa := by simpa using hqa
      obtain rfl : (-1 : Rat) = qb := by simpa using hqb
      simp only [Nat.zero_mul, Nat.one_mul, Nat.add_zero] at c0 c1 c2 d0 d1 d2
      obtain ⟨wd, hwd⟩ : ∃ wd, wd = wA.drew := ⟨_, rfl⟩
      have hbd : Below wA.heap.size wA wd := by rw [hwd]; exact (Below.refl _ _).drew
      have hb9d := hbA.trans (hbd.mono hbA.size)
      have C0 := Lib.hid (bat hb9d c0)
      have C1 := Lib.hid (bat hb9d c1)
      have C2 := Lib.hid (bat hb9d c2)
      have D0 := Lib.hid (bat hb9d d0)
      have D1 := Lib.hid (bat hb9d d1)
      have D2 := Lib.hid (bat hb9d d2)
      have N0 := Lib.hid (bat hbd n0)
      have N1 := Lib.hid (bat hbd n1)
      have N2 := Lib.hid (bat hbd n2)
      have HTA := Lib.hid (hta.below hb9d)
      have HTB := Lib.hid (htb.below hb9d)
      have HTW := Lib.hid (hatA'.below hbd)
      have HBD := Lib.hid (HB9T.out.trans (hb9d.mono HB9T.out.size))
      have HRDD := Lib.hid (HRD9.out.blw hb9d)
      have HWD := Lib.hid hwd
      have a0 := C0.out
      have a1 := C1.out
      have a2 := C2.out
      have b0 := D0.out
      have b1 := D1.out
      have b2 := D2.out
      have m0 := N0.out
      have m1 := N1.out
      have m2 := N2.out
      rw [hwd] at a0 a1 a2 b0 b1 b2 m0 m1 m2
      clear hbA hatA hblkA hwA hwA' hgw htw hatA' n0 n1 n2 hqa hta c0 c1 c2 hqb htb d0 d1 d2 hwd hbd hb9d
      refine wp_region_held_drew (S := (fun w' => w'.cell? ⟨bx, ox, none⟩ = some (.bool ta.s) ∧ w'.cell? ⟨bx, ox + 1, none⟩ = some (.slice ta.a ta.n ta.c) ∧ w'.cell? ⟨bx, ox + 2, none⟩ = some (.slice ta.a' ta.n' ta.c') ∧ w'.cell? ⟨bx, ox + 3, none⟩ = some (.bool tb.s) ∧ w'.cell? ⟨bx, ox + 3 + 1, none⟩ = some (.slice tb.a tb.n tb.c) ∧ w'.cell? ⟨bx, ox + 3 + 2, none⟩ = some (.slice tb.a' tb.n' tb.c') ∧ w'.cell? ⟨gw, 0, none⟩ = some (.bool tw.s) ∧ w'.cell? ⟨gw, 1, none⟩ = some (.slice tw.a tw.n tw.c) ∧ w'.cell? ⟨gw, 2, none⟩ = some (.slice tw.a' tw.n' tw.c'))) (by kernel_rfl) ?_ (fun hHeld => ?_)
      · first | exact True.intro | ((try dsimp only); go_keep)
      refine tkH (i := 0) (v := ?_) rfl (by kernel_rfl) (Or.inl ⟨by kernel_rfl, ?_⟩) (by assumption) ?_
      rotate_left 1
      · (intro w hSw; (try dsimp only at hSw); go_simp; try with_reducible rfl)
      try simp only [lyA, lyB, lyC, Act.put, lyD, lyE, lyF]
      refine tkH (i := 1) (v := ?_) rfl (by kernel_rfl) (Or.inl ⟨by kernel_rfl, ?_⟩) (by assumption) ?_
      rotate_left 1
      · (intro w hSw; (try dsimp only at hSw); go_simp; try with_reducible rfl)
      try simp only [lyA, lyB, lyC, Act.put, lyD, lyE, lyF]
      refine tkH (i := 2) (v := ?_) rfl (by kernel_rfl) (Or.inl ⟨by kernel_rfl, ?_⟩) (by assumption) ?_
      rotate_left 1
      · (intro w hSw; (try dsimp only at hSw); go_simp; try with_reducible rfl)
      try simp only [lyA, lyB, lyC, Act.put, lyD, lyE, lyF]
      refine tkH (i := 3) (v := ?_) rfl (by kernel_rfl) (Or.inl ⟨by kernel_rfl, ?_⟩) (by assumption) ?_
      rotate_left 1
      · (intro w hSw; (try dsimp only at hSw); go_simp; try with_reducible rfl)
      try simp only [lyA, lyB, lyC, Act.put, lyD, lyE, lyF]
      refine tkH (i := 4) (v := ?_) rfl (by kernel_rfl) (Or.inl ⟨by kernel_rfl, ?_⟩) (by assumption) ?_
      rotate_left 1
      · (intro w hSw; (try dsimp only at hSw); go_simp; try with_reducible rfl)
      try simp only [lyA, lyB, lyC, Act.put, lyD, lyE, lyF]
      refine tkH (i := 5) (v := ?_) rfl (by kernel_rfl) (Or.inl ⟨by kernel_rfl, ?_⟩) (by assumption) ?_
      rotate_left 1
      · (intro w hSw; (try dsimp only at hSw); go_simp; try with_reducible rfl)
      try simp only [lyA, lyB, lyC, Act.put, lyD, lyE, lyF]
      refine tkH (i := 6) (v := ?_) rfl (by kernel_rfl) (Or.inl ⟨by kernel_rfl, ?_⟩) (by assumption) ?_
      rotate_left 1
      · (intro w hSw; (try dsimp only at hSw); go_simp; try with_reducible rfl)
      try simp only [lyA, lyB, lyC, Act.put, lyD, lyE, lyF]
      refine tkH (i := 7) (v := ?_) rfl (by kernel_rfl) (Or.inl ⟨by kernel_rfl, ?_⟩) (by assumption) ?_
      rotate_left 1
      · (intro w hSw; (try dsimp only at hSw); go_simp; try with_reducible rfl)
      try simp only [lyA, lyB, lyC, Act.put, lyD, lyE, lyF]
      refine tkH (i := 8) (v := ?_) rfl (by kernel_rfl) (Or.inl ⟨by kernel_rfl, ?_⟩) (by assumption) ?_
      rotate_left 1
      · (intro w hSw; (try dsimp only at hSw); go_simp; try with_reducible rfl)
      try simp only [lyA, lyB, lyC, Act.put, lyD, lyE, lyF]
      refine tkH (i := 9) (v := ?_) rfl (by kernel_rfl) (Or.inl ⟨by kernel_rfl, ?_⟩) (by assumption) ?_
      rotate_left 1
      · (intro w hSw; (try dsimp only at hSw); go_simp; try with_reducible rfl)
      try simp only [lyA, lyB, lyC, Act.put, lyD, lyE, lyF]
      refine tkH (i := 10) (v := ?_) rfl (by kernel_rfl) (Or.inl ⟨by kernel_rfl, ?_⟩) (by assumption) ?_
      rotate_left 1
      · (intro w hSw; (try dsimp only at hSw); go_simp; try with_reducible rfl)
      try simp only [lyA, lyB, lyC, Act.put, lyD, lyE, lyF]
      refine tkH (i := 11) (v := ?_) rfl (by kernel_rfl) (Or.inl ⟨by kernel_rfl, ?_⟩) (by assumption) ?_
      rotate_left 1
      · (intro w hSw; (try dsimp only at hSw); go_simp; try with_reducible rfl)
      try simp only [lyA, lyB, lyC, Act.put, lyD, lyE, lyF]
      refine tkH (i := 12) (v := ?_) rfl (by kernel_rfl) (Or.inl ⟨by kernel_rfl, ?_⟩) (by assumption) ?_
      rotate_left 1
      · (intro w hSw; (try dsimp only at hSw); go_simp; try with_reducible rfl)
      try simp only [lyA, lyB, lyC, Act.put, lyD, lyE, lyF]
      refine tkH (i := 13) (v := ?_) rfl (by kernel_rfl) (Or.inl ⟨by kernel_rfl, ?_⟩) (by assumption) ?_
      rotate_left 1
      · (intro w hSw; (try dsimp only at hSw); go_simp; try with_reducible rfl)
      try simp only [lyA, lyB, lyC, Act.put, lyD, lyE, lyF]
      refine tkH (i := 14) (v := ?_) rfl (by kernel_rfl) (Or.inl ⟨by kernel_rfl, ?_⟩) (by assumption) ?_
      rotate_left 1
      · (intro w hSw; (try dsimp only at hSw); go_simp; try with_reducible rfl)
      try simp only [lyA, lyB, lyC, Act.put, lyD, lyE, lyF]
      refine tkH (i := 15) (v := ?_) rfl (by kernel_rfl) (Or.inl ⟨by kernel_rfl, ?_⟩) (by assumption) ?_
      rotate_left 1
      · (intro w hSw; (try dsimp only at hSw); go_simp; try with_reducible rfl)
      try simp only [lyA, lyB, lyC, Act.put, lyD, lyE, lyF]
      rw [← HWD.out]
      clear a0 a1 a2 b0 b1 b2 m0 m1 m2
      have HK : Hid (∀ w', Below wd.heap.size wd w' → w'.cell? ⟨bx, ox, none⟩ = some (.bool ta.s) ∧ w'.cell? ⟨bx, ox + 1, none⟩ = some (.slice ta.a ta.n ta.c) ∧ w'.cell? ⟨bx, ox + 2, none⟩ = some (.slice ta.a' ta.n' ta.c') ∧ w'.cell? ⟨bx, ox + 3, none⟩ = some (.bool tb.s) ∧ w'.cell? ⟨bx, ox + 3 + 1, none⟩ = some (.slice tb.a tb.n tb.c) ∧ w'.cell? ⟨bx, ox + 3 + 2, none⟩ = some (.slice tb.a' tb.n' tb.c') ∧ w'.cell? ⟨gw, 0, none⟩ = some (.bool tw.s) ∧ w'.cell? ⟨gw, 1, none⟩ = some (.slice tw.a tw.n tw.c) ∧ w'.cell? ⟨gw, 2, none⟩ = some (.slice tw.a' tw.n' tw.c')) := Lib.hid (fun w' hb => ⟨bat hb C0.out, bat hb C1.out, bat hb C2.out, bat hb D0.out, bat hb D1.out, bat hb D2.out, bat hb N0.out, bat hb N1.out, bat hb N2.out⟩)
      obtain ⟨we2, hwe2⟩ : ∃ we2, we2 = wd.alloc (.cells #[.int .i64 0] 3) := ⟨_, rfl⟩
      have hbe2 : Below wd.heap.size wd we2 := by rw [hwe2]; exact below1 ..
      have hrz : RdE Ic 1 we2 (fun _ => True) (some ⟨wd.heap.size, 0, none⟩) 1 [0] := by rw [hwe2]; exact rde_blk (blk_new ..) rfl trivial rfl rfl
      obtain ⟨k0, k1, k2, k3, k4, k5, k6, k7, k8⟩ := HK.out we2 hbe2
      have HBE2 := Lib.hid hbe2
      have HRZ := Lib.hid hrz
      have HWE2 := Lib.hid hwe2
      rw [hwe2] at k0 k1 k2 k3 k4 k5 k6 k7 k8
      clear hwe2 hbe2 hrz
      refine wpAnyH_ready (rs := [16]) (by kernel_rfl) (by simp) ?_
      refine AllReadyH.cons rfl (fun K hK => ?_) AllReadyH.nil
      go_simp
      refine hK.out _ _ ?_ (fun hHeld => ?_)
      · first | exact True.intro | ((try dsimp only); go_keep)
      clear hK K
      try simp only [lyA, lyB, lyC, Act.put, lyD, lyE, lyF]
      rw [← HWE2.out]
      clear k0 k1 k2 k3 k4 k5 k6 k7 k8
      refine wpAnyH_ready (rs := [17]) (by kernel_rfl) (by simp) ?_
      refine AllReadyH.cons rfl (fun K hK => ?_) AllReadyH.nil
      go_simp
      (refine (sameInts_any Ap (some ⟨wd.heap.size, 0, none⟩) 1 1 cp 1 [0] [0] _ _ we2 (HRDD.out.blw HBE2.out) HRZ.out (by decide) (by decide) (by decide) (by decide)).mono ?_; rintro e wf ⟨he, hbf⟩; obtain rfl : e = .returned (.bool true) := he; obtain ⟨k0, k1, k2, k3, k4, k5, k6, k7, k8⟩ := HK.out wf (HBE2.out.trans (hbf.mono HBE2.out.size)); have HBF := Lib.hid (HBE2.out.trans (hbf.mono HBE2.out.size)); clear hbf)
      try go_wp2_with fail
      refine hK.out _ _ ?_ (fun hHeld => ?_)
      · first | exact True.intro | ((try dsimp only); go_keep)
      clear hK K
      try simp only [lyA, lyB, lyC, Act.put, lyD, lyE, lyF]
      clear k0 k1 k2 k3 k4 k5 k6 k7 k8
      refine tkH (i := 18) (v := ?_) rfl (by kernel_rfl) (Or.inl ⟨by kernel_rfl, ?_⟩) (by assumption) ?_
      rotate_left 1
      · (intro w hSw; (try dsimp only at hSw); go_simp; try with_reducible rfl)
      try simp only [lyA, lyB, lyC, Act.put, lyD, lyE, lyF]
      refine tkH (i := 19) (v := ?_) rfl (by kernel_rfl) (Or.inl ⟨by kernel_rfl, ?_⟩) (by assumption) ?_
      rotate_left 1
      · (intro w hSw; (try dsimp only at hSw); go_simp; try with_reducible rfl)
      try simp only [lyA, lyB, lyC, Act.put, lyD, lyE, lyF]
      refine tkH (i := 20) (v := ?_) rfl (by kernel_rfl) (Or.inl ⟨by kernel_rfl, ?_⟩) (by assumption) ?_
      rotate_left 1
      · (intro w hSw; (try dsimp only at hSw); go_simp; try with_reducible rfl)
      try simp only [lyA, lyB, lyC, Act.put, lyD, lyE, lyF]
      refine tkH (i := 21) (v := ?_) rfl (by kernel_rfl) (Or.inl ⟨by kernel_rfl, ?_⟩) (by assumption) ?_
      rotate_left 1
      · (intro w hSw; (try dsimp only at hSw); go_simp; try with_reducible rfl)
      try simp only [lyA, lyB, lyC, Act.put, lyD, lyE, lyF]
      refine tkH (i := 22) (v := ?_) rfl (by kernel_rfl) (Or.inl ⟨by kernel_rfl, ?_⟩) (by assumption) ?_
      rotate_left 1
      · (intro w hSw; (try dsimp only at hSw); go_simp; try with_reducible rfl)
      try simp only [lyA, lyB, lyC, Act.put, lyD, lyE, lyF]
      refine tkH (i := 23) (v := ?_) rfl (by kernel_rfl) (Or.inl ⟨by kernel_rfl, ?_⟩) (by assumption) ?_
      rotate_left 1
      · (intro w hSw; (try dsimp only at hSw); go_simp; try with_reducible rfl)
      try simp only [lyA, lyB, lyC, Act.put, lyD, lyE, lyF]
      refine tkH (i := 24) (v := ?_) rfl (by kernel_rfl) (Or.inl ⟨by kernel_rfl, ?_⟩) (by assumption) ?_
      rotate_left 1
      · (intro w hSw; (try dsimp only at hSw); go_simp; try with_reducible rfl)
      try simp only [lyA, lyB, lyC, Act.put, lyD, lyE, lyF]
      refine tkH (i := 25) (v := ?_) rfl (by kernel_rfl) (Or.inl ⟨by kernel_rfl, ?_⟩) (by assumption) ?_
      rotate_left 1
      · (intro w hSw; (try dsimp only at hSw); go_simp; try with_reducible rfl)
      try simp only [lyA, lyB, lyC, Act.put, lyD, lyE, lyF]
      refine tkH (i := 26) (v := ?_) rfl (by kernel_rfl) (Or.inl ⟨by kernel_rfl, ?_⟩) (by assumption) ?_
      rotate_left 1
      · (intro w hSw; (try dsimp only at hSw); go_simp; try with_reducible rfl)
      try simp only [lyA, lyB, lyC, Act.put, lyD, lyE, lyF]
      refine tkH (i := 27) (v := ?_) rfl (by kernel_rfl) (Or.inl ⟨by kernel_rfl, ?_⟩) (by assumption) ?_
      rotate_left 1
      · (intro w hSw; (try dsimp only at hSw); go_simp; try with_reducible rfl)
      try simp only [lyA, lyB, lyC, Act.put, lyD, lyE, lyF]
      refine tkH (i := 28) (v := ?_) rfl (by kernel_rfl) (Or.inl ⟨by kernel_rfl, ?_⟩) (by assumption) ?_
      rotate_left 1
      · (intro w hSw; (try dsimp only at hSw); go_simp; try with_reducible rfl)
      try simp only [lyA, lyB, lyC, Act.put, lyD, lyE, lyF]
      refine tkH (i := 29) (v := ?_) rfl (by kernel_rfl) (Or.inl ⟨by kernel_rfl, ?_⟩) (by assumption) ?_
      rotate_left 1
      · (intro w hSw; (try dsimp only at hSw); go_simp; try with_reducible rfl)
      try simp only [lyA, lyB, lyC, Act.put, lyD, lyE, lyF]
      refine tkH (i := 30) (v := ?_) rfl (by kernel_rfl) (Or.inl ⟨by kernel_rfl, ?_⟩) (by assumption) ?_
      rotate_left 1
      · (intro w hSw; (try dsimp only at hSw); go_simp; try with_reducible rfl)
      try simp only [lyA, lyB, lyC, Act.put, lyD, lyE, lyF]
      refine tkH (i := 31) (v := ?_) rfl (by kernel_rfl) (Or.inl ⟨by kernel_rfl, ?_⟩) (by assumption) ?_
      rotate_left 1
      · (intro w hSw; (try dsimp only at hSw); go_simp; try with_reducible rfl)
      try simp only [lyA, lyB, lyC, Act.put, lyD, lyE, lyF]
      refine tkH (i := 32) (v := ?_) rfl (by kernel_rfl) (Or.inl ⟨by kernel_rfl, ?_⟩) (by assumption) ?_
      rotate_left 1
      · (intro w hSw; (try dsimp only at hSw); go_simp; try with_reducible rfl)
      try simp only [lyA, lyB, lyC, Act.put, lyD, lyE, lyF]
      refine wpAnyH_ready (rs := [33]) (by kernel_rfl) (by simp) ?_
      refine AllReadyH.cons rfl (fun K hK => ?_) AllReadyH.nil
      go_simp
      (refine (whole_one wf).mono ?_; rintro e wg ⟨ug, rfl, hug, hbg⟩; obtain ⟨tg, rfl⟩ := hug.t3; obtain ⟨k0, k1, k2, k3, k4, k5, k6, k7, k8⟩ := HK.out wg (HBF.out.trans (hbg.mono HBF.out.size)); have HUG := Lib.hid hug; have HBG := Lib.hid (HBF.out.trans (hbg.mono HBF.out.size)); clear hug hbg)
      try go_wp2_with fail
      refine hK.out _ _ ?_ (fun hHeld => ?_)
      · first | exact True.intro | ((try dsimp only); go_keep)
      clear hK K
      try simp only [lyA, lyB, lyC, Act.put, lyD, lyE, lyF]
      clear k0 k1 k2 k3 k4 k5 k6 k7 k8
      refine wpAnyH_ready (rs := [34]) (by kernel_rfl) (by simp) ?_
      refine AllReadyH.cons rfl (fun K hK => ?_) AllReadyH.nil
      go_simp
      (refine (sameAt (HTA.out.below HBG.out) HUG.out).mono ?_; rintro e wh ⟨he, hbh⟩; obtain rfl : e = .returned (.bool true) := (by rw [he, decide_eq_true rfl]); obtain ⟨k0, k1, k2, k3, k4, k5, k6, k7, k8⟩ := HK.out wh (HBG.out.trans (hbh.mono HBG.out.size)); have HBH := Lib.hid (HBG.out.trans (hbh.mono HBG.out.size)); clear he hbh)
      try go_wp2_with fail
      refine hK.out _ _ ?_ (fun hHeld => ?_)
      · first | exact True.intro | ((try dsimp only); go_keep)
      clear hK K
      try simp only [lyA, lyB, lyC, Act.put, lyD, lyE, lyF]
      clear k0 k1 k2 k3 k4 k5 k6 k7 k8
      refine tkH (i := 35) (v := ?_) rfl (by kernel_rfl) (Or.inl ⟨by kernel_rfl, ?_⟩) (by assumption) ?_
      rotate_left 1
      · (intro w hSw; (try dsimp only at hSw); go_simp; try with_reducible rfl)
      try simp only [lyA, lyB, lyC, Act.put, lyD, lyE, lyF]
      refine tkH (i := 36) (v := ?_) rfl (by kernel_rfl) (Or.inl ⟨by kernel_rfl, ?_⟩) (by assumption) ?_
      rotate_left 1
      · (intro w hSw; (try dsimp only at hSw); go_simp; try with_reducible rfl)
      try simp only [lyA, lyB, lyC, Act.put, lyD, lyE, lyF]
      refine tkH (i := 37) (v := ?_) rfl (by kernel_rfl) (Or.inl ⟨by kernel_rfl, ?_⟩) (by assumption) ?_
      rotate_left 1
      · (intro w hSw; (try dsimp only at hSw); go_simp; try with_reducible rfl)
      try simp only [lyA, lyB, lyC, Act.put, lyD, lyE, lyF]
      refine tkH (i := 38) (v := ?_) rfl (by kernel_rfl) (Or.inl ⟨by kernel_rfl, ?_⟩) (by assumption) ?_
      rotate_left 1
      · (intro w hSw; (try dsimp only at hSw); go_simp; try with_reducible rfl)
      try simp only [lyA, lyB, lyC, Act.put, lyD, lyE, lyF]
      refine tkH (i := 39) (v := ?_) rfl (by kernel_rfl) (Or.inl ⟨by kernel_rfl, ?_⟩) (by assumption) ?_
      rotate_left 1
      · (intro w hSw; (try dsimp only at hSw); go_simp; try with_reducible rfl)
      try simp only [lyA, lyB, lyC, Act.put, lyD, lyE, lyF]
      refine tkH (i := 40) (v := ?_) rfl (by kernel_rfl) (Or.inl ⟨by kernel_rfl, ?_⟩) (by assumption) ?_
      rotate_left 1
      · (intro w hSw; (try dsimp only at hSw); go_simp; try with_reducible rfl)
      try simp only [lyA, lyB, lyC, Act.put, lyD, lyE, lyF]
      refine wpAnyH_ready (rs := [41]) (by kernel_rfl) (by simp) ?_
      refine AllReadyH.cons rfl (fun K hK => ?_) AllReadyH.nil
      go_simp
      (refine (sameAt (HTB.out.below HBH.out) (HTW.out.below HBH.out)).mono ?_; rintro e wk ⟨he, hbk⟩; obtain rfl : e = .returned (.bool true) := (by rw [he, decide_eq_true rfl]); obtain ⟨k0, k1, k2, k3, k4, k5, k6, k7, k8⟩ := HK.out wk (HBH.out.trans (hbk.mono HBH.out.size)); have HBK := Lib.hid (HBH.out.trans (hbk.mono HBH.out.size)); clear he hbk)
      try go_wp2_with fail
      refine hK.out _ _ ?_ (fun hHeld => ?_)
      · first | exact True.intro | ((try dsimp only); go_keep)
      clear hK K
      try simp only [lyA, lyB, lyC, Act.put, lyD, lyE, lyF]
      clear k0 k1 k2 k3 k4 k5 k6 k7 k8
      refine tkH (i := 42) (v := ?_) rfl (by kernel_rfl) (Or.inl ⟨by kernel_rfl, ?_⟩) (by assumption) ?_
      rotate_left 1
      · (intro w hSw; (try dsimp only at hSw); go_simp; try with_reducible rfl)
      try simp only [lyA, lyB, lyC, Act.put, lyD, lyE, lyF]
      refine wpAnyH_ready (rs := [43]) (by kernel_rfl) (by simp) ?_
      refine AllReadyH.cons rfl (fun K hK => ?_) AllReadyH.nil
      go_simp
      refine hK.out _ _ ?_ (fun hHeld => ?_)
      · first | exact True.intro | ((try dsimp only); go_keep)
      clear hK K
      try simp only [lyA, lyB, lyC, Act.put, lyD, lyE, lyF]
      refine wpAnyH_done (by kernel_rfl) ?_ _
      clear hHeld
      go_wp2_with fail
      go_ret
      exact ⟨rfl, HBD.out.trans (HBK.out.mono HBD.out.size)⟩
    · rw [aw_right] at hf; cases hf
  · rw [aw_right] at hf; cases hf

end Go.Proofs.Ytfepmbpcdfdlhaa

/- girderlaw11.great, girderkit.CopyLongs, CopyGrid, Pick: the walks -/
namespace Go.Proofs.Ytfepmbpcdfdlhaa
open Go.RowKit Go.Sort

theorem info_i64 : (Try.prog.info? 2).map (fun i => (i.zero, i.size, i.bytes)) = some (some (.int .i64 0), 1, 8) := by kernel_rfl
theorem great_any (v : Value) (r c : Int) (n : Nat) (xs : List Int) (w : World) (hg : GridAt w v r c n xs) :
    Calls Try.prog 9 #[v] w fun e w' => e = .returned (.bool (decide (400 < n) && rightG r c n)) ∧ Below w.heap.size w w' := by
  obtain ⟨A, cD, rfl, hx⟩ := hg.val
  have HG := Lib.hid hg
  have hn := hg.ln
  obtain ⟨f, hf⟩ : ∃ f, f = (decide (400 < n) && rightG r c n) := ⟨_, rfl⟩
  rw [← hf]
  have HF := Lib.hid hf
  clear hg hx hf
  have hblk := blk_new w #[.int .i64 r, .int .i64 c, .slice A n cD] 24
  obtain ⟨wb, hwb⟩ : ∃ wb, wb = w.alloc (.cells #[.int .i64 r, .int .i64 c, .slice A n cD] 24) := ⟨_, rfl⟩
  obtain ⟨hbb, q0, q1, q2⟩ := box3 hwb
  obtain ⟨gg, hgg⟩ : ∃ gg, gg = w.heap.size := ⟨_, rfl⟩
  rw [← hgg] at q0 q1 q2
  have HBB := Lib.hid hbb
  by_cases h4 : 400 < n
  · have h4i : 400 < (n : Int) := by omega
    have H4 := Lib.hid h4
    go_enter Try.func9, Try.ntmps9
    go_upto_region 1 with fail
    rw [← hgg, ← hwb]
    clear hblk hwb hgg hbb h4
    go_wp2_with fail
    refine (right_grid r c n cD A wb HG.out.r63 HG.out.c63 HG.out.ln).mono ?_
    rintro e w1 ⟨rfl, hb1⟩
    have HB1 := Lib.hid (HBB.out.trans (hb1.mono HBB.out.size))
    clear hb1 q0 q1 q2
    obtain ⟨g, hg⟩ : ∃ g, g = rightG r c n := ⟨_, rfl⟩
    rw [← hg]
    have HG2 := Lib.hid hg
    clear hg
    go_wp2_with fail
    go_ret
    refine ⟨?_, HB1.out⟩
    rw [HF.out, decide_eq_true H4.out, ← HG2.out]
    rfl
  · have h4i : ¬ 400 < (n : Int) := by omega
    have H4 := Lib.hid h4
    go_enter Try.func9, Try.ntmps9
    go_upto_region 1 with fail
    rw [← hgg, ← hwb]
    clear hblk hwb hgg hbb h4
    go_wp2_with fail
    go_ret
    refine ⟨?_, HBB.out⟩
    rw [HF.out, decide_eq_false (by have := H4.out; omega)]
    rfl

set_option maxHeartbeats 2000000 in
theorem longs_any (A : Option Addr) (n cA : Nat) (xs : List Int) (w : World) (hx : RdE Zc 1 w (fun b => b < w.heap.size) A n xs) (hn : n ≤ 1000000) :
    Calls Try.prog 34 #[.slice A n cA] w fun e w' => ∃ V, e = .returned V ∧ OwnR w' w.heap.size 2 1 Ik V n (xs.flatMap Zc) ∧ Below w.heap.size w w' := by
  obtain ⟨i0, hi0, hz0, hz1, hz2⟩ := info_parts' info_i64
  have HX := Lib.hid hx
  clear hx
  go_enter Try.func34, Try.ntmps34
  go_wp2_with (at_builtin; go_must (refine wpList_append_K rfl _ _ _ rfl w.heap.size 2 i0 _ 1 8 Try.underlying22 hi0 hz0 hz1 hz2 rfl (by omega) Ik (by intro u hu; simp [Value.cells] at hu; exact ⟨_, hu⟩) (.slice none 0 0) 0 [] rfl (OwnR.nil ..) (fun b => b < w.heap.size) A n cA (xs.flatMap Zc) rfl HX.out.rd (by intro u hu; obtain ⟨z, _, hz⟩ := List.mem_flatMap.1 hu; simp [Zc] at hz; subst hz; rfl) (by intro u hu; obtain ⟨z, _, hz⟩ := List.mem_flatMap.1 hu; simp [Zc] at hz; subst hz; exact ⟨_, rfl⟩) (by simp only [maxLen]; omega) (by omega) (Nat.le_refl _) ?_); go_must (intro v2 w2 hown2 hg2))
  go_ret
  refine ⟨v2, rfl, ?_, (Below.refl _ _).grown hg2.g (Nat.le_refl _) (fun b e => by simp [Value.ownBlock] at e)⟩
  rw [Nat.zero_add, List.nil_append] at hown2
  exact hown2

theorem below_set {w w1 : World} {B g o : Nat} {v : Value} (h : Below B w w1) (hg : B ≤ g) : Below B w (w1.setCell ⟨g, o, none⟩ v) :=
  ⟨h.os, h.tape, h.output, by simp [go_sem]; exact h.size, fun k hk => (Below.heap_setCell _ _ _ _ (show k ≠ g by omega)).trans (h.block k hk)⟩
theorem OwnR.base {w : World} {b b' : Nat} {e : TypeId} {size n : Nat} {K : Value → Prop} {v : Value} {xs : List Value} (h : OwnR w b e size K v n xs) (hb : b' ≤ b) : OwnR w b' e size K v n xs := by
  refine ⟨⟨h.own.1, ?_⟩, h.k⟩
  rcases h.own.2 with hn | ⟨g, cap, cur, e, hbg, rest⟩
  · exact .inl hn
  · exact .inr ⟨g, cap, cur, e, Nat.le_trans hb hbg, rest⟩
/-- a grid of the caller's own -/
structure GridOwn (w : World) (base : Nat) (v : Value) (r c : Int) (n : Nat) (xs : List Int) : Prop where
  val : ∃ V, v = .agg #[.int .i64 r, .int .i64 c, V] ∧ OwnR w base 2 1 Ik V n (xs.flatMap Zc)
theorem GridOwn.grid {w : World} {base : Nat} {v : Value} {r c : Int} {n : Nat} {xs : List Int} (h : GridOwn w base v r c n xs) (hz : ∀ x ∈ xs, Z63 x) (hr : Z63 r) (hc : Z63 c) (hn : n ≤ 1000000) : GridAt w v r c n xs := by
  obtain ⟨V, rfl, ho⟩ := h.val
  obtain ⟨A, cA, rfl, _, _⟩ := own_slice ho.own
  exact ⟨⟨A, cA, rfl, (RdE.of_own Zc.clen (by decide) ho.own).imp fun b hb => hb.2.1⟩, hz, hr, hc, by omega⟩
set_option maxHeartbeats 2000000 in
theorem copyGrid_any (v : Value) (r c : Int) (n : Nat) (xs : List Int) (w : World) (hg : GridAt w v r c n xs) (hn : n ≤ 1000000) :
    Calls Try.prog 11 #[v] w fun e w' => ∃ v', e = .returned v' ∧ GridOwn w' w.heap.size v' r c n xs ∧ Below w.heap.size w w' := by
  obtain ⟨A, cD, rfl, hx⟩ := hg.val
  have HG := Lib.hid hg
  have HX := Lib.hid hx
  clear hg hx
  go_enter Try.func11, Try.ntmps11
  go_upto_region 1 with fail
  obtain ⟨wb, hwb⟩ : ∃ wb, wb = (w.alloc (.cells #[.int .i64 r, .int .i64 c, .slice A n cD] 24)).alloc (.cells #[.int .i64 0, .int .i64 0, .slice none 0 0] 24) := ⟨_, rfl⟩
  rw [← hwb]
  obtain ⟨gg, hgg⟩ : ∃ gg, gg = w.heap.size := ⟨_, rfl⟩
  obtain ⟨gr, hgr⟩ : ∃ gr, gr = w.heap.size + 1 := ⟨_, rfl⟩
  have hbb : Below w.heap.size w wb := by rw [hwb]; exact below2 ..
  have k1 : wb.heap[gg]? = some (.cells #[.int .i64 r, .int .i64 c, .slice A n cD] 24 (0, 0)) := by rw [hwb, hgg]; exact blk_old (blk_new ..) _
  have k2 : wb.heap[gr]? = some (.cells #[.int .i64 0, .int .i64 0, .slice none 0 0] 24 (0, 0)) := by
    have h := blk_new (w.alloc (.cells #[.int .i64 r, .int .i64 c, .slice A n cD] 24)) #[.int .i64 0, .int .i64 0, .slice none 0 0] 24
    rw [World.size_alloc] at h
    rw [hwb, hgr]; exact h
  have hs : gr + 1 ≤ wb.heap.size := by rw [hwb, hgr]; simp
  rw [← hgr, ← hgg]
  have HBB := Lib.hid hbb
  have K1 := Lib.hid k1
  have K2 := Lib.hid k2
  have q2 : wb.cell? ⟨gg, 2, none⟩ = some (.slice A n cD) := by rw [cell_of_row _ gg 2 _ _ (0, 0) k1]; rfl
  have hne : gg < gr := by omega
  have hge : w.heap.size ≤ gg := by omega
  clear hwb hgg hgr hbb k1 k2
  go_wp2_with fail
  clear q2
  refine (longs_any A n cD xs wb (HX.out.blw HBB.out) hn).mono ?_
  rintro e w2 ⟨V, rfl, ho, hb2⟩
  have j1 := (hb2.block gg (by omega)).trans K1.out
  have j2 := (hb2.block gr (by omega)).trans K2.out
  have r0 : w2.cell? ⟨gg, 0, none⟩ = some (.int .i64 r) := by rw [cell_of_row _ gg 0 _ _ (0, 0) j1]; rfl
  have r1 : w2.cell? ⟨gg, 1, none⟩ = some (.int .i64 c) := by rw [cell_of_row _ gg 1 _ _ (0, 0) j1]; rfl
  have r2 : w2.cell? ⟨gg, 2, none⟩ = some (.slice A n cD) := by rw [cell_of_row _ gg 2 _ _ (0, 0) j1]; rfl
  have f2 := frozen_of_row _ gg 2 _ _ j1
  have HO := Lib.hid ho
  have HB2 := Lib.hid hb2
  obtain ⟨A2, c2, rfl, _, _⟩ := own_slice ho.own
  obtain ⟨w3, hw3⟩ : ∃ w3, w3 = w2.setCell ⟨gg, 2, none⟩ (.slice A2 n c2) := ⟨_, rfl⟩
  have HW3 := Lib.hid hw3
  have s0 : w3.cell? ⟨gg, 0, none⟩ = some (.int .i64 r) := by rw [hw3, set_other gg (fun _ => by omega)]; exact r0
  have s1 : w3.cell? ⟨gg, 1, none⟩ = some (.int .i64 c) := by rw [hw3, set_other gg (fun _ => by omega)]; exact r1
  have s2 : w3.cell? ⟨gg, 2, none⟩ = some (.slice A2 n c2) := by rw [hw3]; exact set_self r2
  have hu3 : UpS w2 w3 (fun b => b = gg) := by rw [hw3]; exact upS_set r2 (fun kd x e => by cases e)
  have l2 := (hu3.blk gr (by have := hb2.size; omega) (by omega)).trans j2
  have t0 : w3.cell? ⟨gr, 0, none⟩ = some (.int .i64 0) := by rw [cell_of_row _ gr 0 _ _ (0, 0) l2]; rfl
  have t1 : w3.cell? ⟨gr, 1, none⟩ = some (.int .i64 0) := by rw [cell_of_row _ gr 1 _ _ (0, 0) l2]; rfl
  have t2 : w3.cell? ⟨gr, 2, none⟩ = some (.slice none 0 0) := by rw [cell_of_row _ gr 2 _ _ (0, 0) l2]; rfl
  have g0 := frozen_of_row _ gr 0 _ _ l2
  have g1 := frozen_of_row _ gr 1 _ _ l2
  have g2 := frozen_of_row _ gr 2 _ _ l2
  have HU3 := Lib.hid hu3
  have T := Lib.hid (And.intro t0 (And.intro t1 (And.intro t2 (And.intro g0 (And.intro g1 g2)))))
  have SS := Lib.hid (And.intro s0 (And.intro s1 s2))
  clear ho hb2 j1 j2 hw3 hu3 l2 t0 t1 t2 g0 g1 g2 s0 s1 s2
  go_upto_region 2 with fail
  rw [← HW3.out]
  have s0 := SS.out.1
  have s1 := SS.out.2.1
  have s2 := SS.out.2.2
  have t0 := T.out.1
  have t1 := T.out.2.1
  have t2 := T.out.2.2.1
  have g0 := T.out.2.2.2.1
  have g1 := T.out.2.2.2.2.1
  have g2 := T.out.2.2.2.2.2
  clear r0 r1 r2 f2
  obtain ⟨w4, hw4⟩ : ∃ w4, w4 = ((w3.setCell ⟨gr, 0, none⟩ (.int .i64 r)).setCell ⟨gr, 1, none⟩ (.int .i64 c)).setCell ⟨gr, 2, none⟩ (.slice A2 n c2) := ⟨_, rfl⟩
  have u0 : w4.cell? ⟨gr, 0, none⟩ = some (.int .i64 r) := by rw [hw4, set_other gr (fun _ => by omega), set_other gr (fun _ => by omega)]; exact set_self t0
  have u1 : w4.cell? ⟨gr, 1, none⟩ = some (.int .i64 c) := by rw [hw4, set_other gr (fun _ => by omega)]; exact set_self (by rw [set_other gr (fun _ => by omega)]; exact t1)
  have u2 : w4.cell? ⟨gr, 2, none⟩ = some (.slice A2 n c2) := by rw [hw4]; exact set_self (by rw [set_other gr (fun _ => by omega), set_other gr (fun _ => by omega)]; exact t2)
  have hb34 : Below gr w3 w4 := by rw [hw4]; exact below_set (below_set (below_set (Below.refl _ _) (Nat.le_refl _)) (Nat.le_refl _)) (Nat.le_refl _)
  have hkeep : ∀ k, gr < k → w4.heap[k]? = w3.heap[k]? := fun k hk => by
    rw [hw4, Below.heap_setCell _ _ _ _ (by simp; omega), Below.heap_setCell _ _ _ _ (by simp; omega), Below.heap_setCell _ _ _ _ (by simp; omega)]
  have hsz : w4.heap.size = w3.heap.size := by rw [hw4]; simp [go_sem]
  have ho4 : OwnR w4 wb.heap.size 2 1 Ik (.slice A2 n c2) n (xs.flatMap Zc) := (HO.out.ups HU3.out (fun k e => by omega)).keep (by omega) (fun k hk _ => hkeep k (by omega))
  have HO4 := Lib.hid (ho4.base HBB.out.size)
  have HW4 := Lib.hid hw4
  have hb4 : Below w.heap.size w w4 := ((HBB.out.trans (HB2.out.mono HBB.out.size)).trans (HU3.out.below (fun k e => by omega) (Nat.le_trans HBB.out.size HB2.out.size))).trans (hb34.mono (by omega))
  have HB4 := Lib.hid hb4
  clear hw4 hb34 hkeep hsz ho4 hb4
  go_wp2_with fail
  rw [← HW4.out]
  (try simp only [Exit.inBlock, Exit.then])
  refine bodyPost_ret (v := .agg #[.int .i64 r, .int .i64 c, .slice A2 n c2]) (by simp [results, Try.results11, go_sem, u0, u1, u2]; done) rfl ?_
  exact ⟨_, rfl, ⟨_, rfl, HO4.out⟩, HB4.out⟩

theorem pick_any (x n : Int) (w : World) (hx : Z63 x) (hn : 1 ≤ n) (hn2 : n ≤ 1000000) :
    Calls Try.prog 13 #[.int .i64 x, .int .i64 n] w fun e w' => (∃ k : Nat, e = .returned (.int .i64 k) ∧ (k : Int) < n) ∧ w = w' := by
  have hx1 := hx.1
  have hx2 := hx.2
  obtain ⟨r, hr⟩ : ∃ r, r = x.tmod n := ⟨_, rfl⟩
  have hr1 : -n < r ∧ r < n := by
    rw [hr]
    have h1 := Int.tmod_lt_of_pos x (show 0 < n by omega)
    have h2 := Int.lt_tmod_of_pos x (show 0 < n by omega)
    exact ⟨h2, h1⟩
  have hn1 : ¬ n < 1 := by omega
  by_cases h0 : r < 0
  · obtain ⟨k, hk⟩ : ∃ k : Nat, r + n = (k : Int) := ⟨(r + n).toNat, by omega⟩
    have HK := Lib.hid hk
    have HR := Lib.hid hr
    have HR1 := Lib.hid hr1
    have H0 := Lib.hid h0
    clear hx hk
    go_enter Try.func13, Try.ntmps13
    go_wp2_with fail
    go_ret
    refine ⟨⟨k, ?_, by have := HK.out; have := H0.out; omega⟩, rfl⟩
    rw [← HK.out, HR.out]
    rfl
  · obtain ⟨k, hk⟩ : ∃ k : Nat, r = (k : Int) := ⟨r.toNat, by omega⟩
    have HK := Lib.hid hk
    have HR := Lib.hid hr
    have HR1 := Lib.hid hr1
    clear hx hk
    go_enter Try.func13, Try.ntmps13
    go_wp2_with fail
    go_ret
    refine ⟨⟨k, ?_, by have := HK.out; have := HR1.out; omega⟩, rfl⟩
    rw [← HK.out, HR.out]
    rfl

end Go.Proofs.Ytfepmbpcdfdlhaa
