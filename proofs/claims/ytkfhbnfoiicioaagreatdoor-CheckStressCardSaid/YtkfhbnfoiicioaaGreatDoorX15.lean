import Derived.Test.YtkfhbnfoiicioaaGreatDoorX14
import Derived.Deep.Cut
import Derived.Deep.DeepCutAuto
set_option linter.unusedSimpArgs false
set_option linter.unusedVariables false
/- span.corners of quotients: the walk (printed by gen_c20.py) -/
namespace Go.Proofs.YtkfhbnfoiicioaaGreatDoor
open Go.RowKit Go.Sort

theorem FzS.below {w w' : World} {g : Nat} (h : FzS w g) (hb : Below w.heap.size w w') (hg : g < w.heap.size) : FzS w' g := ⟨bfz hb hg h.1, bfz hb hg h.2⟩
theorem FzS.set {w : World} {g : Nat} (h : FzS w g) (g' o : Nat) (v : Value) : FzS (w.setCell ⟨g', o, none⟩ v) g := ⟨by simp [go_sem, h.1], by simp [go_sem, h.2]⟩
theorem set_lo {w : World} {g : Nat} {s : Spn} (h : BxS w g s) (x : Nat) : ∀ w', w' = w.setCell ⟨g, 0, none⟩ (.float .f64 x) → Wr1 w w' g ∧ BxS w' g ⟨x, s.hi⟩ := by
  intro w' hw'
  subst hw'
  exact ⟨Wr1.set .., by simp [go_sem, h.1], by simp [go_sem, h.2]⟩
theorem set_hi {w : World} {g : Nat} {s : Spn} (h : BxS w g s) (x : Nat) : ∀ w', w' = w.setCell ⟨g, 1, none⟩ (.float .f64 x) → Wr1 w w' g ∧ BxS w' g ⟨s.lo, x⟩ := by
  intro w' hw'
  subst hw'
  exact ⟨Wr1.set .., by simp [go_sem, h.1], by simp [go_sem, h.2]⟩
/-- the corners so far -/
def corL (a b : Spn) (D : Nat → Nat → Int → Nat) : Nat → Nat
  | 0 => D a.lo b.lo 1
  | 1 => lesF (D a.lo b.lo 1) (D a.lo b.hi 1)
  | 2 => lesF (lesF (D a.lo b.lo 1) (D a.lo b.hi 1)) (D a.hi b.lo 1)
  | _ => lesF (lesF (lesF (D a.lo b.lo 1) (D a.lo b.hi 1)) (D a.hi b.lo 1)) (D a.hi b.hi 1)
def corH (a b : Spn) (D : Nat → Nat → Int → Nat) : Nat → Nat
  | 0 => D a.lo b.lo 2
  | 1 => greF (D a.lo b.lo 2) (D a.lo b.hi 2)
  | 2 => greF (greF (D a.lo b.lo 2) (D a.lo b.hi 2)) (D a.hi b.lo 2)
  | _ => greF (greF (greF (D a.lo b.lo 2) (D a.lo b.hi 2)) (D a.hi b.lo 2)) (D a.hi b.hi 2)
def DivC (x y : Nat) (D : Nat → Nat → Int → Nat) : Prop := (∀ w, Laid w → Calls Tryz.prog 35 #[.float .f64 x, .float .f64 y, .int .i8 1] w fun e w' => e = .returned (.float .f64 (D x y 1)) ∧ Below w.heap.size w w') ∧ (∀ w, Laid w → Calls Tryz.prog 35 #[.float .f64 x, .float .f64 y, .int .i8 2] w fun e w' => e = .returned (.float .f64 (D x y 2)) ∧ Below w.heap.size w w') ∧ D x y 1 < 18446744073709551616 ∧ D x y 2 < 18446744073709551616
theorem lesF_lt {a b : Nat} (ha : a < 18446744073709551616) (hb : b < 18446744073709551616) : lesF a b < 18446744073709551616 := by rcases lesF_or a b with h | h <;> rw [h] <;> assumption
theorem greF_lt {a b : Nat} (ha : a < 18446744073709551616) (hb : b < 18446744073709551616) : greF a b < 18446744073709551616 := by rcases greF_or a b with h | h <;> rw [h] <;> assumption

set_option maxRecDepth 100000 in
set_option maxHeartbeats 16000000 in
theorem corners_any (a b : Spn) (D : Nat → Nat → Int → Nat) (w : World) (h00 : DivC a.lo b.lo D) (h01 : DivC a.lo b.hi D) (h10 : DivC a.hi b.lo D) (h11 : DivC a.hi b.hi D) (hL : Laid w) :
    Calls Tryz.prog 34 #[a.val, b.val, .func (Fn.func 35) #[] #[]] w fun e w' => e = .returned (.agg #[.float .f64 (corL a b D 3), .float .f64 (corH a b D 3)]) ∧ Below w.heap.size w w' := by
  have H00 := Lib.hid h00
  have H01 := Lib.hid h01
  have H10 := Lib.hid h10
  have H11 := Lib.hid h11
  have LW := Lib.hid hL
  have IL := Lib.hid lesser_span
  have IG := Lib.hid greater_span
  have l1 := lesF_lt h00.2.2.1 h01.2.2.1
  have l2 := lesF_lt l1 h10.2.2.1
  have g1' := greF_lt h00.2.2.2 h01.2.2.2
  have g2' := greF_lt g1' h10.2.2.2
  have HLT := Lib.hid (And.intro l1 (And.intro l2 (And.intro g1' g2')))
  obtain ⟨c, d⟩ := a
  obtain ⟨p, q⟩ := b
  simp only at H00 H01 H10 H11 HLT ⊢
  obtain ⟨w0, hw0⟩ : ∃ w0, w0 = ((w.alloc (.cells #[.float .f64 c, .float .f64 d] 24)).alloc (.cells #[.float .f64 p, .float .f64 q] 24)).alloc (.cells #[.float .f64 0, .float .f64 0] 24) := ⟨_, rfl⟩
  have hb0 : Below w.heap.size w w0 := by rw [hw0]; exact below3 ..
  have z0 : w0.heap.size = w.heap.size + 3 := by rw [hw0]; simp
  have g1 : w0.heap[w.heap.size]? = some (.cells #[.float .f64 c, .float .f64 d] 24 (0, 0)) := by
    rw [hw0]; exact ((below2 (w.alloc _) _ _).block w.heap.size (by simp)).trans (blk_new w _ _)
  have g2 : w0.heap[w.heap.size + 1]? = some (.cells #[.float .f64 p, .float .f64 q] 24 (0, 0)) := by
    rw [hw0]
    have h := blk_new (w.alloc (.cells #[.float .f64 c, .float .f64 d] 24)) #[.float .f64 p, .float .f64 q] 24
    rw [World.size_alloc] at h
    exact ((below1 _ _).block (w.heap.size + 1) (by simp)).trans h
  have g3 : w0.heap[w.heap.size + 2]? = some (.cells #[.float .f64 0, .float .f64 0] 24 (0, 0)) := by
    rw [hw0]
    have h := blk_new ((w.alloc (.cells #[.float .f64 c, .float .f64 d] 24)).alloc (.cells #[.float .f64 p, .float .f64 q] 24)) #[.float .f64 0, .float .f64 0] 24
    rwa [World.size_alloc, World.size_alloc] at h
  have K1 := Lib.hid (BxS.of_blk (s := ⟨c, d⟩) g1)
  have K2 := Lib.hid (BxS.of_blk (s := ⟨p, q⟩) g2)
  have G3 := Lib.hid g3
  have HB0 := Lib.hid hb0
  have HW0 := Lib.hid hw0
  obtain ⟨rl, hrl⟩ : ∃ rl, rl = corL ⟨c, d⟩ ⟨p, q⟩ D 3 := ⟨_, rfl⟩
  obtain ⟨ru, hru⟩ : ∃ ru, ru = corH ⟨c, d⟩ ⟨p, q⟩ D 3 := ⟨_, rfl⟩
  rw [← hrl, ← hru]
  have HRL := Lib.hid hrl
  have HRU := Lib.hid hru
  have LW0 := Lib.hid (hL.below hb0)
  clear hL hrl hru h00 h01 h10 h11 l1 l2 g1' g2' hw0 hb0 g1 g2 g3
  go_enter Tryz.func34, Tryz.ntmps34
  go_upto_region 1 with fail
  rw [← HW0.out]
  obtain ⟨k10, k11⟩ := K1.out
  obtain ⟨k20, k21⟩ := K2.out
  simp only at k10 k11 k20 k21
  go_cut [7] (fun pv wx => ∃ g : Nat, pv = .pointer (some ⟨g, 0, none⟩) ∧ w0.heap.size ≤ g ∧ g < wx.heap.size ∧ BxS wx g ⟨D c p 1, D c p 2⟩ ∧ FzS wx g ∧ Below w0.heap.size w0 wx)
  case first =>
    refine wp_region_held_drew (S := (fun w' => w'.cell? ⟨w.heap.size, 0, none⟩ = some (.float .f64 c) ∧ w'.cell? ⟨w.heap.size, 1, none⟩ = some (.float .f64 d) ∧ w'.cell? ⟨w.heap.size + 1, 0, none⟩ = some (.float .f64 p) ∧ w'.cell? ⟨w.heap.size + 1, 1, none⟩ = some (.float .f64 q))) (by kernel_rfl) ?_ (fun hHeld => ?_)
    · first | exact True.intro | ((try dsimp only); go_keep)
    clear k10 k11 k20 k21
    refine tkH (i := 0) (v := ?_) rfl (by kernel_rfl) (Or.inl ⟨by kernel_rfl, ?_⟩) (by assumption) ?_
    rotate_left 1
    · (intro w hSw; (try dsimp only at hSw); go_simp; try with_reducible rfl)
    try simp only [lyA, lyB, lyC, Act.put, lyD, lyE, lyF]
    refine tkH (i := 1) (v := ?_) rfl (by kernel_rfl) (Or.inl ⟨by kernel_rfl, ?_⟩) (by assumption) ?_
    rotate_left 1
    · (intro w hSw; (try dsimp only at hSw); go_simp; try with_reducible rfl)
    try simp only [lyA, lyB, lyC, Act.put, lyD, lyE, lyF]
    refine tkH (i := 2) (v := ?_) rfl (by kernel_rfl) (Or.inl ⟨by kernel_rfl, ?_⟩) (by assumption) ?_
    rotate_left 1
    · (intro w hSw; (try dsimp only at hSw); go_simp; try with_reducible rfl)
    try simp only [lyA, lyB, lyC, Act.put, lyD, lyE, lyF]
    refine tkH (i := 3) (v := ?_) rfl (by kernel_rfl) (Or.inl ⟨by kernel_rfl, ?_⟩) (by assumption) ?_
    rotate_left 1
    · (intro w hSw; (try dsimp only at hSw); go_simp; try with_reducible rfl)
    try simp only [lyA, lyB, lyC, Act.put, lyD, lyE, lyF]
    refine tkH (i := 4) (v := ?_) rfl (by kernel_rfl) (Or.inl ⟨by kernel_rfl, ?_⟩) (by assumption) ?_
    rotate_left 1
    · (intro w hSw; (try dsimp only at hSw); go_simp; try with_reducible rfl)
    try simp only [lyA, lyB, lyC, Act.put, lyD, lyE, lyF]
    refine tkH (i := 6) (v := ?_) rfl (by kernel_rfl) (Or.inl ⟨by kernel_rfl, ?_⟩) (by assumption) ?_
    rotate_left 1
    · (intro w hSw; (try dsimp only at hSw); go_simp; try with_reducible rfl)
    try simp only [lyA, lyB, lyC, Act.put, lyD, lyE, lyF]
    refine tkH (i := 7) (v := ?_) rfl (by kernel_rfl) (Or.inl ⟨by kernel_rfl, ?_⟩) (by assumption) ?_
    rotate_left 1
    · (intro w hSw; (try dsimp only at hSw); go_simp; try with_reducible rfl)
    try simp only [lyA, lyB, lyC, Act.put, lyD, lyE, lyF]
    refine tkH (i := 8) (v := ?_) rfl (by kernel_rfl) (Or.inl ⟨by kernel_rfl, ?_⟩) (by assumption) ?_
    rotate_left 1
    · (intro w hSw; (try dsimp only at hSw); go_simp; try with_reducible rfl)
    try simp only [lyA, lyB, lyC, Act.put, lyD, lyE, lyF]
    refine tkH (i := 9) (v := ?_) rfl (by kernel_rfl) (Or.inl ⟨by kernel_rfl, ?_⟩) (by assumption) ?_
    rotate_left 1
    · (intro w hSw; (try dsimp only at hSw); go_simp; try with_reducible rfl)
    try simp only [lyA, lyB, lyC, Act.put, lyD, lyE, lyF]
    refine tkH (i := 10) (v := ?_) rfl (by kernel_rfl) (Or.inl ⟨by kernel_rfl, ?_⟩) (by assumption) ?_
    rotate_left 1
    · (intro w hSw; (try dsimp only at hSw); go_simp; try with_reducible rfl)
    try simp only [lyA, lyB, lyC, Act.put, lyD, lyE, lyF]
    obtain ⟨u, hu⟩ : ∃ ux : World, ux = w0.drew := ⟨_, rfl⟩
    have HBu : Hid (Below w0.heap.size w0 u) := Lib.hid (by rw [hu]; exact (Below.refl _ _).drew)
    rw [← hu] at hHeld ⊢
    clear hu
    refine wpAnyH_ready (rs := [5, 13]) (by kernel_rfl) (by simp) ?_
    refine AllReadyH.cons rfl (fun K hK => ?_) (AllReadyH.cons rfl (fun K hK => ?_) (AllReadyH.nil))
    · skip
      go_simp
      refine (H00.out.1 _ (by first | exact LW.out.below (Hid.out (by assumption)) | exact LW0.out.below (Hid.out (by assumption)) | exact LW.out.below (Hid.out (by assumption)).drew | exact LW0.out.below (Hid.out (by assumption)).drew | (trace_state; fail))).mono ?_
      rintro e u5 ⟨rfl, hba⟩
      have HBu5 := Lib.hid (HBu.out.trans (hba.mono HBu.out.size))
      try go_wp2_with fail
      refine hK.out _ _ ?_ (fun hHeld => ?_)
      · exact ⟨bat hba hHeld.1, bat hba hHeld.2.1, bat hba hHeld.2.2.1, bat hba hHeld.2.2.2⟩
      clear hK K hba
      try simp only [lyA, lyB, lyC, Act.put, lyD, lyE, lyF]
      refine wpAnyH_ready (rs := [11, 13]) (by kernel_rfl) (by simp) ?_
      refine AllReadyH.cons rfl (fun K hK => ?_) (AllReadyH.cons rfl (fun K hK => ?_) (AllReadyH.nil))
      · skip
        go_simp
        refine (H00.out.2.1 _ (by first | exact LW.out.below (Hid.out (by assumption)) | exact LW0.out.below (Hid.out (by assumption)) | exact LW.out.below (Hid.out (by assumption)).drew | exact LW0.out.below (Hid.out (by assumption)).drew | (trace_state; fail))).mono ?_
        rintro e u511 ⟨rfl, hba⟩
        have HBu511 := Lib.hid (HBu5.out.trans (hba.mono HBu5.out.size))
        try go_wp2_with fail
        refine hK.out _ _ ?_ (fun hHeld => ?_)
        · exact ⟨bat hba hHeld.1, bat hba hHeld.2.1, bat hba hHeld.2.2.1, bat hba hHeld.2.2.2⟩
        clear hK K hba
        try simp only [lyA, lyB, lyC, Act.put, lyD, lyE, lyF]
        refine wpAnyH_ready (rs := [12, 13]) (by kernel_rfl) (by simp) ?_
        refine AllReadyH.cons rfl (fun K hK => ?_) (AllReadyH.cons rfl (fun K hK => ?_) (AllReadyH.nil))
        · skip
          go_simp
          refine hK.out _ _ ?_ (fun hHeld => ?_)
          · exact hHeld
          clear hK K
          try simp only [lyA, lyB, lyC, Act.put, lyD, lyE, lyF]
          refine wpAnyH_ready (rs := [13]) (by kernel_rfl) (by simp) ?_
          refine AllReadyH.cons rfl (fun K hK => ?_) (AllReadyH.nil)
          · skip
            obtain ⟨u51113, hU⟩ : ∃ ux : World, ux = u511.alloc (.cells #[.float .f64 0, .float .f64 0] 24) := ⟨_, rfl⟩
            have hba : Below u511.heap.size u511 u51113 := by rw [hU]; exact below1 ..
            obtain ⟨ga, hga⟩ : ∃ ga, ga = u511.heap.size := ⟨_, rfl⟩
            have HGu51113 : Hid (u51113.heap[ga]? = some (.cells #[.float .f64 0, .float .f64 0] 24 (0, 0))) := Lib.hid (by rw [hU, hga]; exact blk_new ..)
            have HLu51113 : Hid (w0.heap.size ≤ ga ∧ ga < u51113.heap.size) := Lib.hid ⟨by rw [hga]; exact HBu511.out.size, by rw [hU, hga]; simp⟩
            go_simp
            rw [← hU, ← hga]
            have HBu51113 := Lib.hid (HBu511.out.trans (hba.mono HBu511.out.size))
            refine hK.out _ _ ?_ (fun hHeld => ?_)
            · exact ⟨bat hba hHeld.1, bat hba hHeld.2.1, bat hba hHeld.2.2.1, bat hba hHeld.2.2.2⟩
            clear hK K hba hU hga
            try simp only [lyA, lyB, lyC, Act.put, lyD, lyE, lyF]
            refine wpAnyH_ready (rs := [14]) (by kernel_rfl) (by simp) ?_
            refine AllReadyH.cons rfl (fun K hK => ?_) AllReadyH.nil
            obtain ⟨kc, kf⟩ := blk_cs HGu51113.out
            have kc0 := kc 0
            have kf0 := kf 0
            have kc1 := kc 1
            have kf1 := kf 1
            simp only [List.getElem?_toArray, List.getElem?_cons_zero, List.getElem?_cons_succ] at kc0 kc1
            clear kc kf
            obtain ⟨w8, hw8⟩ : ∃ w8, w8 = (u51113.setCell ⟨ga, 0, none⟩ (.float .f64 (D c p 1))).setCell ⟨ga, 1, none⟩ (.float .f64 (D c p 2)) := ⟨_, rfl⟩
            obtain ⟨hu8, hq⟩ := spn_set kc0 kc1 _ _ _ hw8
            have HF8 : Hid (FzS w8 ga) := Lib.hid (by rw [hw8]; exact (FzS.set (FzS.set ⟨kf0, kf1⟩ _ _ _) _ _ _))
            go_simp
            rw [← hw8]
            have zg := HLu51113.out
            refine hK.out _ _ ?_ (fun hHeld => ?_)
            · exact ⟨hu8.cell (by omega) (by omega) hHeld.1, hu8.cell (by omega) (by omega) hHeld.2.1, hu8.cell (by omega) (by omega) hHeld.2.2.1, hu8.cell (by omega) (by omega) hHeld.2.2.2⟩
            have HQ8 := Lib.hid hq
            have HU8 := Lib.hid hu8
            clear hK K hw8 hu8 hq kc0 kc1 kf0 kf1
            try simp only [lyA, lyB, lyC, Act.put, lyD, lyE, lyF]
            refine wpAnyH_done (by kernel_rfl) ?_ _
            clear hHeld
            go_wp2_with fail
            go_meet
            exact ⟨_, rfl, zg.1, Nat.lt_of_lt_of_le zg.2 HU8.out.size, HQ8.out, HF8.out, HBu51113.out.trans (HU8.out.below zg.1 HBu51113.out.size)⟩
        · skip
          obtain ⟨u51113, hU⟩ : ∃ ux : World, ux = u511.alloc (.cells #[.float .f64 0, .float .f64 0] 24) := ⟨_, rfl⟩
          have hba : Below u511.heap.size u511 u51113 := by rw [hU]; exact below1 ..
          obtain ⟨ga, hga⟩ : ∃ ga, ga = u511.heap.size := ⟨_, rfl⟩
          have HGu51113 : Hid (u51113.heap[ga]? = some (.cells #[.float .f64 0, .float .f64 0] 24 (0, 0))) := Lib.hid (by rw [hU, hga]; exact blk_new ..)
          have HLu51113 : Hid (w0.heap.size ≤ ga ∧ ga < u51113.heap.size) := Lib.hid ⟨by rw [hga]; exact HBu511.out.size, by rw [hU, hga]; simp⟩
          go_simp
          rw [← hU, ← hga]
          have HBu51113 := Lib.hid (HBu511.out.trans (hba.mono HBu511.out.size))
          refine hK.out _ _ ?_ (fun hHeld => ?_)
          · exact ⟨bat hba hHeld.1, bat hba hHeld.2.1, bat hba hHeld.2.2.1, bat hba hHeld.2.2.2⟩
          clear hK K hba hU hga
          try simp only [lyA, lyB, lyC, Act.put, lyD, lyE, lyF]
          refine wpAnyH_ready (rs := [12]) (by kernel_rfl) (by simp) ?_
          refine AllReadyH.cons rfl (fun K hK => ?_) (AllReadyH.nil)
          · skip
            go_simp
            refine hK.out _ _ ?_ (fun hHeld => ?_)
            · exact hHeld
            clear hK K
            try simp only [lyA, lyB, lyC, Act.put, lyD, lyE, lyF]
            refine wpAnyH_ready (rs := [14]) (by kernel_rfl) (by simp) ?_
            refine AllReadyH.cons rfl (fun K hK => ?_) AllReadyH.nil
            obtain ⟨kc, kf⟩ := blk_cs HGu51113.out
            have kc0 := kc 0
            have kf0 := kf 0
            have kc1 := kc 1
            have kf1 := kf 1
            simp only [List.getElem?_toArray, List.getElem?_cons_zero, List.getElem?_cons_succ] at kc0 kc1
            clear kc kf
            obtain ⟨w8, hw8⟩ : ∃ w8, w8 = (u51113.setCell ⟨ga, 0, none⟩ (.float .f64 (D c p 1))).setCell ⟨ga, 1, none⟩ (.float .f64 (D c p 2)) := ⟨_, rfl⟩
            obtain ⟨hu8, hq⟩ := spn_set kc0 kc1 _ _ _ hw8
            have HF8 : Hid (FzS w8 ga) := Lib.hid (by rw [hw8]; exact (FzS.set (FzS.set ⟨kf0, kf1⟩ _ _ _) _ _ _))
            go_simp
            rw [← hw8]
            have zg := HLu51113.out
            refine hK.out _ _ ?_ (fun hHeld => ?_)
            · exact ⟨hu8.cell (by omega) (by omega) hHeld.1, hu8.cell (by omega) (by omega) hHeld.2.1, hu8.cell (by omega) (by omega) hHeld.2.2.1, hu8.cell (by omega) (by omega) hHeld.2.2.2⟩
            have HQ8 := Lib.hid hq
            have HU8 := Lib.hid hu8
            clear hK K hw8 hu8 hq kc0 kc1 kf0 kf1
            try simp only [lyA, lyB, lyC, Act.put, lyD, lyE, lyF]
            refine wpAnyH_done (by kernel_rfl) ?_ _
            clear hHeld
            go_wp2_with fail
            go_meet
            exact ⟨_, rfl, zg.1, Nat.lt_of_lt_of_le zg.2 HU8.out.size, HQ8.out, HF8.out, HBu51113.out.trans (HU8.out.below zg.1 HBu51113.out.size)⟩
      · skip
        obtain ⟨u513, hU⟩ : ∃ ux : World, ux = u5.alloc (.cells #[.float .f64 0, .float .f64 0] 24) := ⟨_, rfl⟩
        have hba : Below u5.heap.size u5 u513 := by rw [hU]; exact below1 ..
        obtain ⟨ga, hga⟩ : ∃ ga, ga = u5.heap.size := ⟨_, rfl⟩
        have HGu513 : Hid (u513.heap[ga]? = some (.cells #[.float .f64 0, .float .f64 0] 24 (0, 0))) := Lib.hid (by rw [hU, hga]; exact blk_new ..)
        have HLu513 : Hid (w0.heap.size ≤ ga ∧ ga < u513.heap.size) := Lib.hid ⟨by rw [hga]; exact HBu5.out.size, by rw [hU, hga]; simp⟩
        go_simp
        rw [← hU, ← hga]
        have HBu513 := Lib.hid (HBu5.out.trans (hba.mono HBu5.out.size))
        refine hK.out _ _ ?_ (fun hHeld => ?_)
        · exact ⟨bat hba hHeld.1, bat hba hHeld.2.1, bat hba hHeld.2.2.1, bat hba hHeld.2.2.2⟩
        clear hK K hba hU hga
        try simp only [lyA, lyB, lyC, Act.put, lyD, lyE, lyF]
        refine wpAnyH_ready (rs := [11]) (by kernel_rfl) (by simp) ?_
        refine AllReadyH.cons rfl (fun K hK => ?_) (AllReadyH.nil)
        · skip
          go_simp
          refine (H00.out.2.1 _ (by first | exact LW.out.below (Hid.out (by assumption)) | exact LW0.out.below (Hid.out (by assumption)) | exact LW.out.below (Hid.out (by assumption)).drew | exact LW0.out.below (Hid.out (by assumption)).drew | (trace_state; fail))).mono ?_
          rintro e u51311 ⟨rfl, hba⟩
          have HBu51311 := Lib.hid (HBu513.out.trans (hba.mono HBu513.out.size))
          have HGu51311 := Lib.hid ((hba.block ga HLu513.out.2).trans HGu513.out)
          have HLu51311 : Hid (w0.heap.size ≤ ga ∧ ga < u51311.heap.size) := Lib.hid ⟨HLu513.out.1, Nat.lt_of_lt_of_le HLu513.out.2 hba.size⟩
          try go_wp2_with fail
          refine hK.out _ _ ?_ (fun hHeld => ?_)
          · exact ⟨bat hba hHeld.1, bat hba hHeld.2.1, bat hba hHeld.2.2.1, bat hba hHeld.2.2.2⟩
          clear hK K hba
          try simp only [lyA, lyB, lyC, Act.put, lyD, lyE, lyF]
          refine wpAnyH_ready (rs := [12]) (by kernel_rfl) (by simp) ?_
          refine AllReadyH.cons rfl (fun K hK => ?_) (AllReadyH.nil)
          · skip
            go_simp
            refine hK.out _ _ ?_ (fun hHeld => ?_)
            · exact hHeld
            clear hK K
            try simp only [lyA, lyB, lyC, Act.put, lyD, lyE, lyF]
            refine wpAnyH_ready (rs := [14]) (by kernel_rfl) (by simp) ?_
            refine AllReadyH.cons rfl (fun K hK => ?_) AllReadyH.nil
            obtain ⟨kc, kf⟩ := blk_cs HGu51311.out
            have kc0 := kc 0
            have kf0 := kf 0
            have kc1 := kc 1
            have kf1 := kf 1
            simp only [List.getElem?_toArray, List.getElem?_cons_zero, List.getElem?_cons_succ] at kc0 kc1
            clear kc kf
            obtain ⟨w8, hw8⟩ : ∃ w8, w8 = (u51311.setCell ⟨ga, 0, none⟩ (.float .f64 (D c p 1))).setCell ⟨ga, 1, none⟩ (.float .f64 (D c p 2)) := ⟨_, rfl⟩
            obtain ⟨hu8, hq⟩ := spn_set kc0 kc1 _ _ _ hw8
            have HF8 : Hid (FzS w8 ga) := Lib.hid (by rw [hw8]; exact (FzS.set (FzS.set ⟨kf0, kf1⟩ _ _ _) _ _ _))
            go_simp
            rw [← hw8]
            have zg := HLu51311.out
            refine hK.out _ _ ?_ (fun hHeld => ?_)
            · exact ⟨hu8.cell (by omega) (by omega) hHeld.1, hu8.cell (by omega) (by omega) hHeld.2.1, hu8.cell (by omega) (by omega) hHeld.2.2.1, hu8.cell (by omega) (by omega) hHeld.2.2.2⟩
            have HQ8 := Lib.hid hq
            have HU8 := Lib.hid hu8
            clear hK K hw8 hu8 hq kc0 kc1 kf0 kf1
            try simp only [lyA, lyB, lyC, Act.put, lyD, lyE, lyF]
            refine wpAnyH_done (by kernel_rfl) ?_ _
            clear hHeld
            go_wp2_with fail
            go_meet
            exact ⟨_, rfl, zg.1, Nat.lt_of_lt_of_le zg.2 HU8.out.size, HQ8.out, HF8.out, HBu51311.out.trans (HU8.out.below zg.1 HBu51311.out.size)⟩
    · skip
      obtain ⟨u13, hU⟩ : ∃ ux : World, ux = u.alloc (.cells #[.float .f64 0, .float .f64 0] 24) := ⟨_, rfl⟩
      have hba : Below u.heap.size u u13 := by rw [hU]; exact below1 ..
      obtain ⟨ga, hga⟩ : ∃ ga, ga = u.heap.size := ⟨_, rfl⟩
      have HGu13 : Hid (u13.heap[ga]? = some (.cells #[.float .f64 0, .float .f64 0] 24 (0, 0))) := Lib.hid (by rw [hU, hga]; exact blk_new ..)
      have HLu13 : Hid (w0.heap.size ≤ ga ∧ ga < u13.heap.size) := Lib.hid ⟨by rw [hga]; exact HBu.out.size, by rw [hU, hga]; simp⟩
      go_simp
      rw [← hU, ← hga]
      have HBu13 := Lib.hid (HBu.out.trans (hba.mono HBu.out.size))
      refine hK.out _ _ ?_ (fun hHeld => ?_)
      · exact ⟨bat hba hHeld.1, bat hba hHeld.2.1, bat hba hHeld.2.2.1, bat hba hHeld.2.2.2⟩
      clear hK K hba hU hga
      try simp only [lyA, lyB, lyC, Act.put, lyD, lyE, lyF]
      refine wpAnyH_ready (rs := [5]) (by kernel_rfl) (by simp) ?_
      refine AllReadyH.cons rfl (fun K hK => ?_) (AllReadyH.nil)
      · skip
        go_simp
        refine (H00.out.1 _ (by first | exact LW.out.below (Hid.out (by assumption)) | exact LW0.out.below (Hid.out (by assumption)) | exact LW.out.below (Hid.out (by assumption)).drew | exact LW0.out.below (Hid.out (by assumption)).drew | (trace_state; fail))).mono ?_
        rintro e u135 ⟨rfl, hba⟩
        have HBu135 := Lib.hid (HBu13.out.trans (hba.mono HBu13.out.size))
        have HGu135 := Lib.hid ((hba.block ga HLu13.out.2).trans HGu13.out)
        have HLu135 : Hid (w0.heap.size ≤ ga ∧ ga < u135.heap.size) := Lib.hid ⟨HLu13.out.1, Nat.lt_of_lt_of_le HLu13.out.2 hba.size⟩
        try go_wp2_with fail
        refine hK.out _ _ ?_ (fun hHeld => ?_)
        · exact ⟨bat hba hHeld.1, bat hba hHeld.2.1, bat hba hHeld.2.2.1, bat hba hHeld.2.2.2⟩
        clear hK K hba
        try simp only [lyA, lyB, lyC, Act.put, lyD, lyE, lyF]
        refine wpAnyH_ready (rs := [11]) (by kernel_rfl) (by simp) ?_
        refine AllReadyH.cons rfl (fun K hK => ?_) (AllReadyH.nil)
        · skip
          go_simp
          refine (H00.out.2.1 _ (by first | exact LW.out.below (Hid.out (by assumption)) | exact LW0.out.below (Hid.out (by assumption)) | exact LW.out.below (Hid.out (by assumption)).drew | exact LW0.out.below (Hid.out (by assumption)).drew | (trace_state; fail))).mono ?_
          rintro e u13511 ⟨rfl, hba⟩
          have HBu13511 := Lib.hid (HBu135.out.trans (hba.mono HBu135.out.size))
          have HGu13511 := Lib.hid ((hba.block ga HLu135.out.2).trans HGu135.out)
          have HLu13511 : Hid (w0.heap.size ≤ ga ∧ ga < u13511.heap.size) := Lib.hid ⟨HLu135.out.1, Nat.lt_of_lt_of_le HLu135.out.2 hba.size⟩
          try go_wp2_with fail
          refine hK.out _ _ ?_ (fun hHeld => ?_)
          · exact ⟨bat hba hHeld.1, bat hba hHeld.2.1, bat hba hHeld.2.2.1, bat hba hHeld.2.2.2⟩
          clear hK K hba
          try simp only [lyA, lyB, lyC, Act.put, lyD, lyE, lyF]
          refine wpAnyH_ready (rs := [12]) (by kernel_rfl) (by simp) ?_
          refine AllReadyH.cons rfl (fun K hK => ?_) (AllReadyH.nil)
          · skip
            go_simp
            refine hK.out _ _ ?_ (fun hHeld => ?_)
            · exact hHeld
            clear hK K
            try simp only [lyA, lyB, lyC, Act.put, lyD, lyE, lyF]
            refine wpAnyH_ready (rs := [14]) (by kernel_rfl) (by simp) ?_
            refine AllReadyH.cons rfl (fun K hK => ?_) AllReadyH.nil
            obtain ⟨kc, kf⟩ := blk_cs HGu13511.out
            have kc0 := kc 0
            have kf0 := kf 0
            have kc1 := kc 1
            have kf1 := kf 1
            simp only [List.getElem?_toArray, List.getElem?_cons_zero, List.getElem?_cons_succ] at kc0 kc1
            clear kc kf
            obtain ⟨w8, hw8⟩ : ∃ w8, w8 = (u13511.setCell ⟨ga, 0, none⟩ (.float .f64 (D c p 1))).setCell ⟨ga, 1, none⟩ (.float .f64 (D c p 2)) := ⟨_, rfl⟩
            obtain ⟨hu8, hq⟩ := spn_set kc0 kc1 _ _ _ hw8
            have HF8 : Hid (FzS w8 ga) := Lib.hid (by rw [hw8]; exact (FzS.set (FzS.set ⟨kf0, kf1⟩ _ _ _) _ _ _))
            go_simp
            rw [← hw8]
            have zg := HLu13511.out
            refine hK.out _ _ ?_ (fun hHeld => ?_)
            · exact ⟨hu8.cell (by omega) (by omega) hHeld.1, hu8.cell (by omega) (by omega) hHeld.2.1, hu8.cell (by omega) (by omega) hHeld.2.2.1, hu8.cell (by omega) (by omega) hHeld.2.2.2⟩
            have HQ8 := Lib.hid hq
            have HU8 := Lib.hid hu8
            clear hK K hw8 hu8 hq kc0 kc1 kf0 kf1
            try simp only [lyA, lyB, lyC, Act.put, lyD, lyE, lyF]
            refine wpAnyH_done (by kernel_rfl) ?_ _
            clear hHeld
            go_wp2_with fail
            go_meet
            exact ⟨_, rfl, zg.1, Nat.lt_of_lt_of_le zg.2 HU8.out.size, HQ8.out, HF8.out, HBu13511.out.trans (HU8.out.below zg.1 HBu13511.out.size)⟩
  case rest =>
    clear k10 k11 k20 k21
    obtain ⟨g, rfl, hg1, hg2, hbx, hfz, hbc⟩ := hcut
    have KC := Lib.hid hbx
    have FC := Lib.hid hfz
    have HBC := Lib.hid hbc
    have K1c := Lib.hid (K1.out.below (w' := wc) (Below.mono hbc (Nat.le_refl _)))
    have K2c := Lib.hid (K2.out.below (w' := wc) (Below.mono hbc (Nat.le_refl _)))
    obtain ⟨k10, k11⟩ := K1c.out
    obtain ⟨k20, k21⟩ := K2c.out
    simp only at k10 k11 k20 k21
    clear hbx hfz hbc
    go_wp2_with fail
    clear k10 k11 k20 k21
    go_loopw [39] (fun iv wr => ∃ k : Nat, k ≤ 3 ∧ iv = .int .i64 k ∧ BxS wr g ⟨corL ⟨c, d⟩ ⟨p, q⟩ D k, corH ⟨c, d⟩ ⟨p, q⟩ D k⟩ ∧ FzS wr g ∧ g < wr.heap.size ∧ Below w0.heap.size w0 wr) (fun iv _ => 3 - (intOf iv).toNat)
    case atStart => exact ⟨0, by omega, rfl, KC.out, FC.out, hg2, HBC.out⟩
    case round =>
      obtain ⟨k, hk, rfl, hbx, hfz, hgl, hbw⟩ := hrel
      have KR := Lib.hid hbx
      have FR := Lib.hid hfz
      have HBR := Lib.hid hbw
      clear hbx hfz hbw
      obtain rfl | rfl | rfl | rfl : k = 0 ∨ k = 1 ∨ k = 2 ∨ k = 3 := by omega
      · obtain ⟨L, hL⟩ : ∃ L, L = corL ⟨c, d⟩ ⟨p, q⟩ D 0 := ⟨_, rfl⟩
        obtain ⟨U, hU⟩ : ∃ U, U = corH ⟨c, d⟩ ⟨p, q⟩ D 0 := ⟨_, rfl⟩
        rw [← hL, ← hU] at KR
        have HNL : Hid (lesF L (D c q 1) = corL ⟨c, d⟩ ⟨p, q⟩ D (0 + 1)) := Lib.hid (by rw [hL]; rfl)
        have HNU : Hid (greF U (D c q 2) = corH ⟨c, d⟩ ⟨p, q⟩ D (0 + 1)) := Lib.hid (by rw [hU]; rfl)
        have HLL : Hid (L < 18446744073709551616) := Lib.hid (by rw [hL]; exact H00.out.2.2.1)
        have HLU : Hid (U < 18446744073709551616) := Lib.hid (by rw [hU]; exact H00.out.2.2.2)
        clear hL hU
        obtain ⟨w1, hw1⟩ : ∃ w1, w1 = wr.alloc (.cells #[.float .f64 c, .float .f64 q] 67) := ⟨_, rfl⟩
        have hb1 : Below wr.heap.size wr w1 := by rw [hw1]; exact below1 ..
        obtain ⟨v, hv⟩ : ∃ v, v = wr.heap.size := ⟨_, rfl⟩
        have BV : Hid (BxS w1 v ⟨c, q⟩) := Lib.hid (by rw [hw1, hv]; exact BxS.of_blk (s := ⟨c, q⟩) (blk_new ..))
        have zv : v < w1.heap.size := by rw [hw1, hv]; simp
        have KR1 := Lib.hid (KR.out.below hb1)
        have FR1 := Lib.hid (FR.out.below hb1 hgl)
        have HB1 := Lib.hid (HBR.out.trans (hb1.mono HBR.out.size))
        have hg1l : g < w1.heap.size := Nat.lt_of_lt_of_le hgl hb1.size
        have HW1 := Lib.hid hw1
        have HV := Lib.hid hv
        have hne : v ≠ g := by omega
        have hix : ∀ w, (Instr.index 68 (.agg #[.float .f64 c, .float .f64 q, .float .f64 d, .float .f64 p, .float .f64 d, .float .f64 q]) (.int .i64 0)).run Tryz.prog w = .ok (.agg #[.float .f64 c, .float .f64 q]) w := fun _ => by kernel_rfl
        clear hw1 hb1 hv
        go_upto_region 5 with fail
        rw [← HW1.out, ← HV.out]
        obtain ⟨e0, e1⟩ := BV.out
        obtain ⟨r0, r1⟩ := KR1.out
        simp only at e0 e1 r0 r1
        refine wp_region_G (S := (fun w' => w'.cell? ⟨v, 0, none⟩ = some (.float .f64 c) ∧ w'.cell? ⟨v, 1, none⟩ = some (.float .f64 q) ∧ w'.cell? ⟨g, 0, none⟩ = some (.float .f64 L) ∧ w'.cell? ⟨g, 1, none⟩ = some (.float .f64 U))) 10 (by kernel_rfl) ?_ (fun hHeld => ?_)
        · first | exact True.intro | ((try dsimp only); go_keep)
        refine tkG (i := 0) (v := ?_) rfl (by kernel_rfl) (Or.inl ⟨by kernel_rfl, ?_⟩) (by assumption) ?_
        rotate_left 1
        · (intro w hSw; (try dsimp only at hSw); go_simp; try with_reducible rfl)
        try simp only [lyA, lyB, lyC, Act.put, lyD, lyE, lyF]
        refine tkG (i := 1) (v := ?_) rfl (by kernel_rfl) (Or.inl ⟨by kernel_rfl, ?_⟩) (by assumption) ?_
        rotate_left 1
        · (intro w hSw; (try dsimp only at hSw); go_simp; try with_reducible rfl)
        try simp only [lyA, lyB, lyC, Act.put, lyD, lyE, lyF]
        refine tkG (i := 2) (v := ?_) rfl (by kernel_rfl) (Or.inl ⟨by kernel_rfl, ?_⟩) (by assumption) ?_
        rotate_left 1
        · (intro w hSw; (try dsimp only at hSw); go_simp; try with_reducible rfl)
        try simp only [lyA, lyB, lyC, Act.put, lyD, lyE, lyF]
        refine tkG (i := 3) (v := ?_) rfl (by kernel_rfl) (Or.inl ⟨by kernel_rfl, ?_⟩) (by assumption) ?_
        rotate_left 1
        · (intro w hSw; (try dsimp only at hSw); go_simp; try with_reducible rfl)
        try simp only [lyA, lyB, lyC, Act.put, lyD, lyE, lyF]
        refine tkG (i := 4) (v := ?_) rfl (by kernel_rfl) (Or.inl ⟨by kernel_rfl, ?_⟩) (by assumption) ?_
        rotate_left 1
        · (intro w hSw; (try dsimp only at hSw); go_simp; try with_reducible rfl)
        try simp only [lyA, lyB, lyC, Act.put, lyD, lyE, lyF]
        refine tkG (i := 5) (v := ?_) rfl (by kernel_rfl) (Or.inl ⟨by kernel_rfl, ?_⟩) (by assumption) ?_
        rotate_left 1
        · (intro w hSw; (try dsimp only at hSw); go_simp; try with_reducible rfl)
        try simp only [lyA, lyB, lyC, Act.put, lyD, lyE, lyF]
        refine tkG (i := 6) (v := ?_) rfl (by kernel_rfl) (Or.inl ⟨by kernel_rfl, ?_⟩) (by assumption) ?_
        rotate_left 1
        · (intro w hSw; (try dsimp only at hSw); go_simp; try with_reducible rfl)
        try simp only [lyA, lyB, lyC, Act.put, lyD, lyE, lyF]
        obtain ⟨u, hu⟩ : ∃ ux : World, ux = w1.drew := ⟨_, rfl⟩
        have hbu : Below w1.heap.size w1 u := by rw [hu]; exact (Below.refl _ _).drew
        rw [← hu] at hHeld ⊢
        clear hu
        have FU := Lib.hid (FR1.out.below hbu hg1l)
        have HBU := Lib.hid (HB1.out.trans (hbu.mono HB1.out.size))
        have hgu : g < u.heap.size := Nat.lt_of_lt_of_le hg1l hbu.size
        have hvu : v < u.heap.size := Nat.lt_of_lt_of_le zv hbu.size
        clear hbu e0 e1 r0 r1
        refine wpAnyG_one (i := 7) (by kernel_rfl) rfl (fun K hK => ?_)
        go_simp
        (refine (H01.out.1 _ (by first | exact LW.out.below (Hid.out (by assumption)) | exact LW0.out.below (Hid.out (by assumption)) | exact LW.out.below (Hid.out (by assumption)).drew | exact LW0.out.below (Hid.out (by assumption)).drew | (trace_state; fail))).mono ?_; rintro e w2 ⟨rfl, hb2⟩; obtain ⟨s0, s1, s2, s3⟩ := hHeld; have t0 := bat hb2 s0; have t1 := bat hb2 s1; have t2 := bat hb2 s2; have t3 := bat hb2 s3; have F2 := Lib.hid (FU.out.below hb2 hgu); have HB2 := Lib.hid (HBU.out.trans (hb2.mono HBU.out.size)); have hg2l := Nat.lt_of_lt_of_le hgu hb2.size; have hv2l := Nat.lt_of_lt_of_le hvu hb2.size; clear hb2 s0 s1 s2 s3)
        try go_wp2_with fail
        refine (fun hHeld => hK.out _ _ (.inl hHeld) (fun _ => ?_)) ?_
        rotate_left 1
        · first | exact True.intro | ((try dsimp only); go_keep)
        clear hK K
        try simp only [lyA, lyB, lyC, Act.put, lyD, lyE, lyF]
        refine wpAnyG_one (i := 8) (by kernel_rfl) rfl (fun K hK => ?_)
        go_simp
        (refine (IL.out _ _ _ HLL.out H01.out.2.2.1).mono ?_; rintro e w3 ⟨rfl, hb3⟩; have p0 := bat hb3 t0; have p1 := bat hb3 t1; have p2 := bat hb3 t2; have p3 := bat hb3 t3; have F3 := Lib.hid (F2.out.below hb3 hg2l); have HB3 := Lib.hid (HB2.out.trans (hb3.mono HB2.out.size)); have hg3l := Nat.lt_of_lt_of_le hg2l hb3.size; have hv3l := Nat.lt_of_lt_of_le hv2l hb3.size; clear hb3 t0 t1 t2 t3)
        try go_wp2_with fail
        refine (fun hHeld => hK.out _ _ (.inl hHeld) (fun _ => ?_)) ?_
        rotate_left 1
        · first | exact True.intro | ((try dsimp only); go_keep)
        clear hK K
        try simp only [lyA, lyB, lyC, Act.put, lyD, lyE, lyF]
        obtain ⟨f0, f1⟩ := F3.out
        obtain ⟨wa, hw8⟩ : ∃ w8, w8 = w3.setCell ⟨g, 0, none⟩ (.float .f64 (lesF L (D c q 1))) := ⟨_, rfl⟩
        obtain ⟨hu8, hbx8⟩ := set_lo (s := ⟨L, U⟩) ⟨p2, p3⟩ (lesF L (D c q 1)) _ hw8
        have FA : Hid (FzS wa g) := Lib.hid (by rw [hw8]; exact F3.out.set _ _ _)
        have KA := Lib.hid hbx8
        have VA : Hid (BxS wa v ⟨c, q⟩) := Lib.hid ⟨hu8.cell hv3l hne p0, hu8.cell hv3l hne p1⟩
        have HBA := Lib.hid (HB3.out.trans (hu8.below hg1 HB3.out.size))
        have hgA : g < wa.heap.size := Nat.lt_of_lt_of_le hg3l hu8.size
        have hvA : v < wa.heap.size := Nat.lt_of_lt_of_le hv3l hu8.size
        have HW8 := Lib.hid hw8
        clear hw8 hu8 hbx8
        refine wpAnyG_one (i := 9) (by kernel_rfl) rfl (fun K hK => ?_)
        go_simp
        refine (fun hHeld => hK.out _ _ (.inl hHeld) (fun _ => ?_)) ?_
        rotate_left 1
        · first | exact True.intro | ((try dsimp only); go_keep)
        clear hK K
        try simp only [lyA, lyB, lyC, Act.put, lyD, lyE, lyF]
        refine wpAnyG_one (i := 10) (by kernel_rfl) rfl (fun K hK => ?_)
        go_simp
        refine hK.out _ _ ?_ (fun hHeld => ?_)
        · exact .inr (by kernel_rfl)
        clear hK K
        try simp only [lyA, lyB, lyC, Act.put, lyD, lyE, lyF]
        refine wpAnyG_done (by kernel_rfl) ?_ _
        rw [← HW8.out]
        clear HW8 p0 p1 p2 p3 f0 f1
        go_upto_region 6 with fail
        obtain ⟨e0, e1⟩ := VA.out
        obtain ⟨r0, r1⟩ := KA.out
        simp only at e0 e1 r0 r1
        refine wp_region_G (S := (fun w' => w'.cell? ⟨v, 0, none⟩ = some (.float .f64 c) ∧ w'.cell? ⟨v, 1, none⟩ = some (.float .f64 q) ∧ w'.cell? ⟨g, 0, none⟩ = some (.float .f64 (lesF L (D c q 1))) ∧ w'.cell? ⟨g, 1, none⟩ = some (.float .f64 U))) 10 (by kernel_rfl) ?_ (fun hHeld => ?_)
        · first | exact True.intro | ((try dsimp only); go_keep)
        refine tkG (i := 0) (v := ?_) rfl (by kernel_rfl) (Or.inl ⟨by kernel_rfl, ?_⟩) (by assumption) ?_
        rotate_left 1
        · (intro w hSw; (try dsimp only at hSw); go_simp; try with_reducible rfl)
        try simp only [lyA, lyB, lyC, Act.put, lyD, lyE, lyF]
        refine tkG (i := 1) (v := ?_) rfl (by kernel_rfl) (Or.inl ⟨by kernel_rfl, ?_⟩) (by assumption) ?_
        rotate_left 1
        · (intro w hSw; (try dsimp only at hSw); go_simp; try with_reducible rfl)
        try simp only [lyA, lyB, lyC, Act.put, lyD, lyE, lyF]
        refine tkG (i := 2) (v := ?_) rfl (by kernel_rfl) (Or.inl ⟨by kernel_rfl, ?_⟩) (by assumption) ?_
        rotate_left 1
        · (intro w hSw; (try dsimp only at hSw); go_simp; try with_reducible rfl)
        try simp only [lyA, lyB, lyC, Act.put, lyD, lyE, lyF]
        refine tkG (i := 3) (v := ?_) rfl (by kernel_rfl) (Or.inl ⟨by kernel_rfl, ?_⟩) (by assumption) ?_
        rotate_left 1
        · (intro w hSw; (try dsimp only at hSw); go_simp; try with_reducible rfl)
        try simp only [lyA, lyB, lyC, Act.put, lyD, lyE, lyF]
        refine tkG (i := 4) (v := ?_) rfl (by kernel_rfl) (Or.inl ⟨by kernel_rfl, ?_⟩) (by assumption) ?_
        rotate_left 1
        · (intro w hSw; (try dsimp only at hSw); go_simp; try with_reducible rfl)
        try simp only [lyA, lyB, lyC, Act.put, lyD, lyE, lyF]
        refine tkG (i := 5) (v := ?_) rfl (by kernel_rfl) (Or.inl ⟨by kernel_rfl, ?_⟩) (by assumption) ?_
        rotate_left 1
        · (intro w hSw; (try dsimp only at hSw); go_simp; try with_reducible rfl)
        try simp only [lyA, lyB, lyC, Act.put, lyD, lyE, lyF]
        refine tkG (i := 6) (v := ?_) rfl (by kernel_rfl) (Or.inl ⟨by kernel_rfl, ?_⟩) (by assumption) ?_
        rotate_left 1
        · (intro w hSw; (try dsimp only at hSw); go_simp; try with_reducible rfl)
        try simp only [lyA, lyB, lyC, Act.put, lyD, lyE, lyF]
        obtain ⟨u, hu⟩ : ∃ ux : World, ux = wa.drew := ⟨_, rfl⟩
        have hbu : Below wa.heap.size wa u := by rw [hu]; exact (Below.refl _ _).drew
        rw [← hu] at hHeld ⊢
        clear hu
        have FU := Lib.hid (FA.out.below hbu hgA)
        have HBU := Lib.hid (HBA.out.trans (hbu.mono HBA.out.size))
        have hgu : g < u.heap.size := Nat.lt_of_lt_of_le hgA hbu.size
        have hvu : v < u.heap.size := Nat.lt_of_lt_of_le hvA hbu.size
        clear hbu e0 e1 r0 r1
        refine wpAnyG_one (i := 7) (by kernel_rfl) rfl (fun K hK => ?_)
        go_simp
        (refine (H01.out.2.1 _ (by first | exact LW.out.below (Hid.out (by assumption)) | exact LW0.out.below (Hid.out (by assumption)) | exact LW.out.below (Hid.out (by assumption)).drew | exact LW0.out.below (Hid.out (by assumption)).drew | (trace_state; fail))).mono ?_; rintro e w2 ⟨rfl, hb2⟩; obtain ⟨s0, s1, s2, s3⟩ := hHeld; have t0 := bat hb2 s0; have t1 := bat hb2 s1; have t2 := bat hb2 s2; have t3 := bat hb2 s3; have F2 := Lib.hid (FU.out.below hb2 hgu); have HB2 := Lib.hid (HBU.out.trans (hb2.mono HBU.out.size)); have hg2l := Nat.lt_of_lt_of_le hgu hb2.size; have hv2l := Nat.lt_of_lt_of_le hvu hb2.size; clear hb2 s0 s1 s2 s3)
        try go_wp2_with fail
        refine (fun hHeld => hK.out _ _ (.inl hHeld) (fun _ => ?_)) ?_
        rotate_left 1
        · first | exact True.intro | ((try dsimp only); go_keep)
        clear hK K
        try simp only [lyA, lyB, lyC, Act.put, lyD, lyE, lyF]
        refine wpAnyG_one (i := 8) (by kernel_rfl) rfl (fun K hK => ?_)
        go_simp
        (refine (IG.out _ _ _ HLU.out H01.out.2.2.2).mono ?_; rintro e w3 ⟨rfl, hb3⟩; have p0 := bat hb3 t0; have p1 := bat hb3 t1; have p2 := bat hb3 t2; have p3 := bat hb3 t3; have F3 := Lib.hid (F2.out.below hb3 hg2l); have HB3 := Lib.hid (HB2.out.trans (hb3.mono HB2.out.size)); have hg3l := Nat.lt_of_lt_of_le hg2l hb3.size; have hv3l := Nat.lt_of_lt_of_le hv2l hb3.size; clear hb3 t0 t1 t2 t3)
        try go_wp2_with fail
        refine (fun hHeld => hK.out _ _ (.inl hHeld) (fun _ => ?_)) ?_
        rotate_left 1
        · first | exact True.intro | ((try dsimp only); go_keep)
        clear hK K
        try simp only [lyA, lyB, lyC, Act.put, lyD, lyE, lyF]
        obtain ⟨f0, f1⟩ := F3.out
        obtain ⟨wb, hw8⟩ : ∃ w8, w8 = w3.setCell ⟨g, 1, none⟩ (.float .f64 (greF U (D c q 2))) := ⟨_, rfl⟩
        obtain ⟨hu8, hbx8⟩ := set_hi (s := ⟨(lesF L (D c q 1)), U⟩) ⟨p2, p3⟩ (greF U (D c q 2)) _ hw8
        have FB : Hid (FzS wb g) := Lib.hid (by rw [hw8]; exact F3.out.set _ _ _)
        have KB := Lib.hid hbx8
        have VB : Hid (BxS wb v ⟨c, q⟩) := Lib.hid ⟨hu8.cell hv3l hne p0, hu8.cell hv3l hne p1⟩
        have HBB := Lib.hid (HB3.out.trans (hu8.below hg1 HB3.out.size))
        have hgB : g < wb.heap.size := Nat.lt_of_lt_of_le hg3l hu8.size
        have hvB : v < wb.heap.size := Nat.lt_of_lt_of_le hv3l hu8.size
        have HW8 := Lib.hid hw8
        clear hw8 hu8 hbx8
        refine wpAnyG_one (i := 9) (by kernel_rfl) rfl (fun K hK => ?_)
        go_simp
        refine (fun hHeld => hK.out _ _ (.inl hHeld) (fun _ => ?_)) ?_
        rotate_left 1
        · first | exact True.intro | ((try dsimp only); go_keep)
        clear hK K
        try simp only [lyA, lyB, lyC, Act.put, lyD, lyE, lyF]
        refine wpAnyG_one (i := 10) (by kernel_rfl) rfl (fun K hK => ?_)
        go_simp
        refine hK.out _ _ ?_ (fun hHeld => ?_)
        · exact .inr (by kernel_rfl)
        clear hK K
        try simp only [lyA, lyB, lyC, Act.put, lyD, lyE, lyF]
        refine wpAnyG_done (by kernel_rfl) ?_ _
        rw [← HW8.out]
        clear HW8 p0 p1 p2 p3 f0 f1
        go_wp2_with fail
        go_roundw
        case rel => exact ⟨0 + 1, by omega, by go_num, by rw [← HNL.out, ← HNU.out]; exact KB.out, FB.out, hgB, HBB.out⟩
        case measure => simp [intOf]
      · obtain ⟨L, hL⟩ : ∃ L, L = corL ⟨c, d⟩ ⟨p, q⟩ D 1 := ⟨_, rfl⟩
        obtain ⟨U, hU⟩ : ∃ U, U = corH ⟨c, d⟩ ⟨p, q⟩ D 1 := ⟨_, rfl⟩
        rw [← hL, ← hU] at KR
        have HNL : Hid (lesF L (D d p 1) = corL ⟨c, d⟩ ⟨p, q⟩ D (1 + 1)) := Lib.hid (by rw [hL]; rfl)
        have HNU : Hid (greF U (D d p 2) = corH ⟨c, d⟩ ⟨p, q⟩ D (1 + 1)) := Lib.hid (by rw [hU]; rfl)
        have HLL : Hid (L < 18446744073709551616) := Lib.hid (by rw [hL]; exact HLT.out.1)
        have HLU : Hid (U < 18446744073709551616) := Lib.hid (by rw [hU]; exact HLT.out.2.2.1)
        clear hL hU
        obtain ⟨w1, hw1⟩ : ∃ w1, w1 = wr.alloc (.cells #[.float .f64 d, .float .f64 p] 67) := ⟨_, rfl⟩
        have hb1 : Below wr.heap.size wr w1 := by rw [hw1]; exact below1 ..
        obtain ⟨v, hv⟩ : ∃ v, v = wr.heap.size := ⟨_, rfl⟩
        have BV : Hid (BxS w1 v ⟨d, p⟩) := Lib.hid (by rw [hw1, hv]; exact BxS.of_blk (s := ⟨d, p⟩) (blk_new ..))
        have zv : v < w1.heap.size := by rw [hw1, hv]; simp
        have KR1 := Lib.hid (KR.out.below hb1)
        have FR1 := Lib.hid (FR.out.below hb1 hgl)
        have HB1 := Lib.hid (HBR.out.trans (hb1.mono HBR.out.size))
        have hg1l : g < w1.heap.size := Nat.lt_of_lt_of_le hgl hb1.size
        have HW1 := Lib.hid hw1
        have HV := Lib.hid hv
        have hne : v ≠ g := by omega
        have hix : ∀ w, (Instr.index 68 (.agg #[.float .f64 c, .float .f64 q, .float .f64 d, .float .f64 p, .float .f64 d, .float .f64 q]) (.int .i64 1)).run Tryz.prog w = .ok (.agg #[.float .f64 d, .float .f64 p]) w := fun _ => by kernel_rfl
        clear hw1 hb1 hv
        go_upto_region 5 with fail
        rw [← HW1.out, ← HV.out]
        obtain ⟨e0, e1⟩ := BV.out
        obtain ⟨r0, r1⟩ := KR1.out
        simp only at e0 e1 r0 r1
        refine wp_region_G (S := (fun w' => w'.cell? ⟨v, 0, none⟩ = some (.float .f64 d) ∧ w'.cell? ⟨v, 1, none⟩ = some (.float .f64 p) ∧ w'.cell? ⟨g, 0, none⟩ = some (.float .f64 L) ∧ w'.cell? ⟨g, 1, none⟩ = some (.float .f64 U))) 10 (by kernel_rfl) ?_ (fun hHeld => ?_)
        · first | exact True.intro | ((try dsimp only); go_keep)
        refine tkG (i := 0) (v := ?_) rfl (by kernel_rfl) (Or.inl ⟨by kernel_rfl, ?_⟩) (by assumption) ?_
        rotate_left 1
        · (intro w hSw; (try dsimp only at hSw); go_simp; try with_reducible rfl)
        try simp only [lyA, lyB, lyC, Act.put, lyD, lyE, lyF]
        refine tkG (i := 1) (v := ?_) rfl (by kernel_rfl) (Or.inl ⟨by kernel_rfl, ?_⟩) (by assumption) ?_
        rotate_left 1
        · (intro w hSw; (try dsimp only at hSw); go_simp; try with_reducible rfl)
        try simp only [lyA, lyB, lyC, Act.put, lyD, lyE, lyF]
        refine tkG (i := 2) (v := ?_) rfl (by kernel_rfl) (Or.inl ⟨by kernel_rfl, ?_⟩) (by assumption) ?_
        rotate_left 1
        · (intro w hSw; (try dsimp only at hSw); go_simp; try with_reducible rfl)
        try simp only [lyA, lyB, lyC, Act.put, lyD, lyE, lyF]
        refine tkG (i := 3) (v := ?_) rfl (by kernel_rfl) (Or.inl ⟨by kernel_rfl, ?_⟩) (by assumption) ?_
        rotate_left 1
        · (intro w hSw; (try dsimp only at hSw); go_simp; try with_reducible rfl)
        try simp only [lyA, lyB, lyC, Act.put, lyD, lyE, lyF]
        refine tkG (i := 4) (v := ?_) rfl (by kernel_rfl) (Or.inl ⟨by kernel_rfl, ?_⟩) (by assumption) ?_
        rotate_left 1
        · (intro w hSw; (try dsimp only at hSw); go_simp; try with_reducible rfl)
        try simp only [lyA, lyB, lyC, Act.put, lyD, lyE, lyF]
        refine tkG (i := 5) (v := ?_) rfl (by kernel_rfl) (Or.inl ⟨by kernel_rfl, ?_⟩) (by assumption) ?_
        rotate_left 1
        · (intro w hSw; (try dsimp only at hSw); go_simp; try with_reducible rfl)
        try simp only [lyA, lyB, lyC, Act.put, lyD, lyE, lyF]
        refine tkG (i := 6) (v := ?_) rfl (by kernel_rfl) (Or.inl ⟨by kernel_rfl, ?_⟩) (by assumption) ?_
        rotate_left 1
        · (intro w hSw; (try dsimp only at hSw); go_simp; try with_reducible rfl)
        try simp only [lyA, lyB, lyC, Act.put, lyD, lyE, lyF]
        obtain ⟨u, hu⟩ : ∃ ux : World, ux = w1.drew := ⟨_, rfl⟩
        have hbu : Below w1.heap.size w1 u := by rw [hu]; exact (Below.refl _ _).drew
        rw [← hu] at hHeld ⊢
        clear hu
        have FU := Lib.hid (FR1.out.below hbu hg1l)
        have HBU := Lib.hid (HB1.out.trans (hbu.mono HB1.out.size))
        have hgu : g < u.heap.size := Nat.lt_of_lt_of_le hg1l hbu.size
        have hvu : v < u.heap.size := Nat.lt_of_lt_of_le zv hbu.size
        clear hbu e0 e1 r0 r1
        refine wpAnyG_one (i := 7) (by kernel_rfl) rfl (fun K hK => ?_)
        go_simp
        (refine (H10.out.1 _ (by first | exact LW.out.below (Hid.out (by assumption)) | exact LW0.out.below (Hid.out (by assumption)) | exact LW.out.below (Hid.out (by assumption)).drew | exact LW0.out.below (Hid.out (by assumption)).drew | (trace_state; fail))).mono ?_; rintro e w2 ⟨rfl, hb2⟩; obtain ⟨s0, s1, s2, s3⟩ := hHeld; have t0 := bat hb2 s0; have t1 := bat hb2 s1; have t2 := bat hb2 s2; have t3 := bat hb2 s3; have F2 := Lib.hid (FU.out.below hb2 hgu); have HB2 := Lib.hid (HBU.out.trans (hb2.mono HBU.out.size)); have hg2l := Nat.lt_of_lt_of_le hgu hb2.size; have hv2l := Nat.lt_of_lt_of_le hvu hb2.size; clear hb2 s0 s1 s2 s3)
        try go_wp2_with fail
        refine (fun hHeld => hK.out _ _ (.inl hHeld) (fun _ => ?_)) ?_
        rotate_left 1
        · first | exact True.intro | ((try dsimp only); go_keep)
        clear hK K
        try simp only [lyA, lyB, lyC, Act.put, lyD, lyE, lyF]
        refine wpAnyG_one (i := 8) (by kernel_rfl) rfl (fun K hK => ?_)
        go_simp
        (refine (IL.out _ _ _ HLL.out H10.out.2.2.1).mono ?_; rintro e w3 ⟨rfl, hb3⟩; have p0 := bat hb3 t0; have p1 := bat hb3 t1; have p2 := bat hb3 t2; have p3 := bat hb3 t3; have F3 := Lib.hid (F2.out.below hb3 hg2l); have HB3 := Lib.hid (HB2.out.trans (hb3.mono HB2.out.size)); have hg3l := Nat.lt_of_lt_of_le hg2l hb3.size; have hv3l := Nat.lt_of_lt_of_le hv2l hb3.size; clear hb3 t0 t1 t2 t3)
        try go_wp2_with fail
        refine (fun hHeld => hK.out _ _ (.inl hHeld) (fun _ => ?_)) ?_
        rotate_left 1
        · first | exact True.intro | ((try dsimp only); go_keep)
        clear hK K
        try simp only [lyA, lyB, lyC, Act.put, lyD, lyE, lyF]
        obtain ⟨f0, f1⟩ := F3.out
        obtain ⟨wa, hw8⟩ : ∃ w8, w8 = w3.setCell ⟨g, 0, none⟩ (.float .f64 (lesF L (D d p 1))) := ⟨_, rfl⟩
        obtain ⟨hu8, hbx8⟩ := set_lo (s := ⟨L, U⟩) ⟨p2, p3⟩ (lesF L (D d p 1)) _ hw8
        have FA : Hid (FzS wa g) := Lib.hid (by rw [hw8]; exact F3.out.set _ _ _)
        have KA := Lib.hid hbx8
        have VA : Hid (BxS wa v ⟨d, p⟩) := Lib.hid ⟨hu8.cell hv3l hne p0, hu8.cell hv3l hne p1⟩
        have HBA := Lib.hid (HB3.out.trans (hu8.below hg1 HB3.out.size))
        have hgA : g < wa.heap.size := Nat.lt_of_lt_of_le hg3l hu8.size
        have hvA : v < wa.heap.size := Nat.lt_of_lt_of_le hv3l hu8.size
        have HW8 := Lib.hid hw8
        clear hw8 hu8 hbx8
        refine wpAnyG_one (i := 9) (by kernel_rfl) rfl (fun K hK => ?_)
        go_simp
        refine (fun hHeld => hK.out _ _ (.inl hHeld) (fun _ => ?_)) ?_
        rotate_left 1
        · first | exact True.intro | ((try dsimp only); go_keep)
        clear hK K
        try simp only [lyA, lyB, lyC, Act.put, lyD, lyE, lyF]
        refine wpAnyG_one (i := 10) (by kernel_rfl) rfl (fun K hK => ?_)
        go_simp
        refine hK.out _ _ ?_ (fun hHeld => ?_)
        · exact .inr (by kernel_rfl)
        clear hK K
        try simp only [lyA, lyB, lyC, Act.put, lyD, lyE, lyF]
        refine wpAnyG_done (by kernel_rfl) ?_ _
        rw [← HW8.out]
        clear HW8 p0 p1 p2 p3 f0 f1
        go_upto_region 6 with fail
        obtain ⟨e0, e1⟩ := VA.out
        obtain ⟨r0, r1⟩ := KA.out
        simp only at e0 e1 r0 r1
        refine wp_region_G (S := (fun w' => w'.cell? ⟨v, 0, none⟩ = some (.float .f64 d) ∧ w'.cell? ⟨v, 1, none⟩ = some (.float .f64 p) ∧ w'.cell? ⟨g, 0, none⟩ = some (.float .f64 (lesF L (D d p 1))) ∧ w'.cell? ⟨g, 1, none⟩ = some (.float .f64 U))) 10 (by kernel_rfl) ?_ (fun hHeld => ?_)
        · first | exact True.intro | ((try dsimp only); go_keep)
        refine tkG (i := 0) (v := ?_) rfl (by kernel_rfl) (Or.inl ⟨by kernel_rfl, ?_⟩) (by assumption) ?_
        rotate_left 1
        · (intro w hSw; (try dsimp only at hSw); go_simp; try with_reducible rfl)
        try simp only [lyA, lyB, lyC, Act.put, lyD, lyE, lyF]
        refine tkG (i := 1) (v := ?_) rfl (by kernel_rfl) (Or.inl ⟨by kernel_rfl, ?_⟩) (by assumption) ?_
        rotate_left 1
        · (intro w hSw; (try dsimp only at hSw); go_simp; try with_reducible rfl)
        try simp only [lyA, lyB, lyC, Act.put, lyD, lyE, lyF]
        refine tkG (i := 2) (v := ?_) rfl (by kernel_rfl) (Or.inl ⟨by kernel_rfl, ?_⟩) (by assumption) ?_
        rotate_left 1
        · (intro w hSw; (try dsimp only at hSw); go_simp; try with_reducible rfl)
        try simp only [lyA, lyB, lyC, Act.put, lyD, lyE, lyF]
        refine tkG (i := 3) (v := ?_) rfl (by kernel_rfl) (Or.inl ⟨by kernel_rfl, ?_⟩) (by assumption) ?_
        rotate_left 1
        · (intro w hSw; (try dsimp only at hSw); go_simp; try with_reducible rfl)
        try simp only [lyA, lyB, lyC, Act.put, lyD, lyE, lyF]
        refine tkG (i := 4) (v := ?_) rfl (by kernel_rfl) (Or.inl ⟨by kernel_rfl, ?_⟩) (by assumption) ?_
        rotate_left 1
        · (intro w hSw; (try dsimp only at hSw); go_simp; try with_reducible rfl)
        try simp only [lyA, lyB, lyC, Act.put, lyD, lyE, lyF]
        refine tkG (i := 5) (v := ?_) rfl (by kernel_rfl) (Or.inl ⟨by kernel_rfl, ?_⟩) (by assumption) ?_
        rotate_left 1
        · (intro w hSw; (try dsimp only at hSw); go_simp; try with_reducible rfl)
        try simp only [lyA, lyB, lyC, Act.put, lyD, lyE, lyF]
        refine tkG (i := 6) (v := ?_) rfl (by kernel_rfl) (Or.inl ⟨by kernel_rfl, ?_⟩) (by assumption) ?_
        rotate_left 1
        · (intro w hSw; (try dsimp only at hSw); go_simp; try with_reducible rfl)
        try simp only [lyA, lyB, lyC, Act.put, lyD, lyE, lyF]
        obtain ⟨u, hu⟩ : ∃ ux : World, ux = wa.drew := ⟨_, rfl⟩
        have hbu : Below wa.heap.size wa u := by rw [hu]; exact (Below.refl _ _).drew
        rw [← hu] at hHeld ⊢
        clear hu
        have FU := Lib.hid (FA.out.below hbu hgA)
        have HBU := Lib.hid (HBA.out.trans (hbu.mono HBA.out.size))
        have hgu : g < u.heap.size := Nat.lt_of_lt_of_le hgA hbu.size
        have hvu : v < u.heap.size := Nat.lt_of_lt_of_le hvA hbu.size
        clear hbu e0 e1 r0 r1
        refine wpAnyG_one (i := 7) (by kernel_rfl) rfl (fun K hK => ?_)
        go_simp
        (refine (H10.out.2.1 _ (by first | exact LW.out.below (Hid.out (by assumption)) | exact LW0.out.below (Hid.out (by assumption)) | exact LW.out.below (Hid.out (by assumption)).drew | exact LW0.out.below (Hid.out (by assumption)).drew | (trace_state; fail))).mono ?_; rintro e w2 ⟨rfl, hb2⟩; obtain ⟨s0, s1, s2, s3⟩ := hHeld; have t0 := bat hb2 s0; have t1 := bat hb2 s1; have t2 := bat hb2 s2; have t3 := bat hb2 s3; have F2 := Lib.hid (FU.out.below hb2 hgu); have HB2 := Lib.hid (HBU.out.trans (hb2.mono HBU.out.size)); have hg2l := Nat.lt_of_lt_of_le hgu hb2.size; have hv2l := Nat.lt_of_lt_of_le hvu hb2.size; clear hb2 s0 s1 s2 s3)
        try go_wp2_with fail
        refine (fun hHeld => hK.out _ _ (.inl hHeld) (fun _ => ?_)) ?_
        rotate_left 1
        · first | exact True.intro | ((try dsimp only); go_keep)
        clear hK K
        try simp only [lyA, lyB, lyC, Act.put, lyD, lyE, lyF]
        refine wpAnyG_one (i := 8) (by kernel_rfl) rfl (fun K hK => ?_)
        go_simp
        (refine (IG.out _ _ _ HLU.out H10.out.2.2.2).mono ?_; rintro e w3 ⟨rfl, hb3⟩; have p0 := bat hb3 t0; have p1 := bat hb3 t1; have p2 := bat hb3 t2; have p3 := bat hb3 t3; have F3 := Lib.hid (F2.out.below hb3 hg2l); have HB3 := Lib.hid (HB2.out.trans (hb3.mono HB2.out.size)); have hg3l := Nat.lt_of_lt_of_le hg2l hb3.size; have hv3l := Nat.lt_of_lt_of_le hv2l hb3.size; clear hb3 t0 t1 t2 t3)
        try go_wp2_with fail
        refine (fun hHeld => hK.out _ _ (.inl hHeld) (fun _ => ?_)) ?_
        rotate_left 1
        · first | exact True.intro | ((try dsimp only); go_keep)
        clear hK K
        try simp only [lyA, lyB, lyC, Act.put, lyD, lyE, lyF]
        obtain ⟨f0, f1⟩ := F3.out
        obtain ⟨wb, hw8⟩ : ∃ w8, w8 = w3.setCell ⟨g, 1, none⟩ (.float .f64 (greF U (D d p 2))) := ⟨_, rfl⟩
        obtain ⟨hu8, hbx8⟩ := set_hi (s := ⟨(lesF L (D d p 1)), U⟩) ⟨p2, p3⟩ (greF U (D d p 2)) _ hw8
        have FB : Hid (FzS wb g) := Lib.hid (by rw [hw8]; exact F3.out.set _ _ _)
        have KB := Lib.hid hbx8
        have VB : Hid (BxS wb v ⟨d, p⟩) := Lib.hid ⟨hu8.cell hv3l hne p0, hu8.cell hv3l hne p1⟩
        have HBB := Lib.hid (HB3.out.trans (hu8.below hg1 HB3.out.size))
        have hgB : g < wb.heap.size := Nat.lt_of_lt_of_le hg3l hu8.size
        have hvB : v < wb.heap.size := Nat.lt_of_lt_of_le hv3l hu8.size
        have HW8 := Lib.hid hw8
        clear hw8 hu8 hbx8
        refine wpAnyG_one (i := 9) (by kernel_rfl) rfl (fun K hK => ?_)
        go_simp
        refine (fun hHeld => hK.out _ _ (.inl hHeld) (fun _ => ?_)) ?_
        rotate_left 1
        · first | exact True.intro | ((try dsimp only); go_keep)
        clear hK K
        try simp only [lyA, lyB, lyC, Act.put, lyD, lyE, lyF]
        refine wpAnyG_one (i := 10) (by kernel_rfl) rfl (fun K hK => ?_)
        go_simp
        refine hK.out _ _ ?_ (fun hHeld => ?_)
        · exact .inr (by kernel_rfl)
        clear hK K
        try simp only [lyA, lyB, lyC, Act.put, lyD, lyE, lyF]
        refine wpAnyG_done (by kernel_rfl) ?_ _
        rw [← HW8.out]
        clear HW8 p0 p1 p2 p3 f0 f1
        go_wp2_with fail
        go_roundw
        case rel => exact ⟨1 + 1, by omega, by go_num, by rw [← HNL.out, ← HNU.out]; exact KB.out, FB.out, hgB, HBB.out⟩
        case measure => simp [intOf]
      · obtain ⟨L, hL⟩ : ∃ L, L = corL ⟨c, d⟩ ⟨p, q⟩ D 2 := ⟨_, rfl⟩
        obtain ⟨U, hU⟩ : ∃ U, U = corH ⟨c, d⟩ ⟨p, q⟩ D 2 := ⟨_, rfl⟩
        rw [← hL, ← hU] at KR
        have HNL : Hid (lesF L (D d q 1) = corL ⟨c, d⟩ ⟨p, q⟩ D (2 + 1)) := Lib.hid (by rw [hL]; rfl)
        have HNU : Hid (greF U (D d q 2) = corH ⟨c, d⟩ ⟨p, q⟩ D (2 + 1)) := Lib.hid (by rw [hU]; rfl)
        have HLL : Hid (L < 18446744073709551616) := Lib.hid (by rw [hL]; exact HLT.out.2.1)
        have HLU : Hid (U < 18446744073709551616) := Lib.hid (by rw [hU]; exact HLT.out.2.2.2)
        clear hL hU
        obtain ⟨w1, hw1⟩ : ∃ w1, w1 = wr.alloc (.cells #[.float .f64 d, .float .f64 q] 67) := ⟨_, rfl⟩
        have hb1 : Below wr.heap.size wr w1 := by rw [hw1]; exact below1 ..
        obtain ⟨v, hv⟩ : ∃ v, v = wr.heap.size := ⟨_, rfl⟩
        have BV : Hid (BxS w1 v ⟨d, q⟩) := Lib.hid (by rw [hw1, hv]; exact BxS.of_blk (s := ⟨d, q⟩) (blk_new ..))
        have zv : v < w1.heap.size := by rw [hw1, hv]; simp
        have KR1 := Lib.hid (KR.out.below hb1)
        have FR1 := Lib.hid (FR.out.below hb1 hgl)
        have HB1 := Lib.hid (HBR.out.trans (hb1.mono HBR.out.size))
        have hg1l : g < w1.heap.size := Nat.lt_of_lt_of_le hgl hb1.size
        have HW1 := Lib.hid hw1
        have HV := Lib.hid hv
        have hne : v ≠ g := by omega
        have hix : ∀ w, (Instr.index 68 (.agg #[.float .f64 c, .float .f64 q, .float .f64 d, .float .f64 p, .float .f64 d, .float .f64 q]) (.int .i64 2)).run Tryz.prog w = .ok (.agg #[.float .f64 d, .float .f64 q]) w := fun _ => by kernel_rfl
        clear hw1 hb1 hv
        go_upto_region 5 with fail
        rw [← HW1.out, ← HV.out]
        obtain ⟨e0, e1⟩ := BV.out
        obtain ⟨r0, r1⟩ := KR1.out
        simp only at e0 e1 r0 r1
        refine wp_region_G (S := (fun w' => w'.cell? ⟨v, 0, none⟩ = some (.float .f64 d) ∧ w'.cell? ⟨v, 1, none⟩ = some (.float .f64 q) ∧ w'.cell? ⟨g, 0, none⟩ = some (.float .f64 L) ∧ w'.cell? ⟨g, 1, none⟩ = some (.float .f64 U))) 10 (by kernel_rfl) ?_ (fun hHeld => ?_)
        · first | exact True.intro | ((try dsimp only); go_keep)
        refine tkG (i := 0) (v := ?_) rfl (by kernel_rfl) (Or.inl ⟨by kernel_rfl, ?_⟩) (by assumption) ?_
        rotate_left 1
        · (intro w hSw; (try dsimp only at hSw); go_simp; try with_reducible rfl)
        try simp only [lyA, lyB, lyC, Act.put, lyD, lyE, lyF]
        refine tkG (i := 1) (v := ?_) rfl (by kernel_rfl) (Or.inl ⟨by kernel_rfl, ?_⟩) (by assumption) ?_
        rotate_left 1
        · (intro w hSw; (try dsimp only at hSw); go_simp; try with_reducible rfl)
        try simp only [lyA, lyB, lyC, Act.put, lyD, lyE, lyF]
        refine tkG (i := 2) (v := ?_) rfl (by kernel_rfl) (Or.inl ⟨by kernel_rfl, ?_⟩) (by assumption) ?_
        rotate_left 1
        · (intro w hSw; (try dsimp only at hSw); go_simp; try with_reducible rfl)
        try simp only [lyA, lyB, lyC, Act.put, lyD, lyE, lyF]
        refine tkG (i := 3) (v := ?_) rfl (by kernel_rfl) (Or.inl ⟨by kernel_rfl, ?_⟩) (by assumption) ?_
        rotate_left 1
        · (intro w hSw; (try dsimp only at hSw); go_simp; try with_reducible rfl)
        try simp only [lyA, lyB, lyC, Act.put, lyD, lyE, lyF]
        refine tkG (i := 4) (v := ?_) rfl (by kernel_rfl) (Or.inl ⟨by kernel_rfl, ?_⟩) (by assumption) ?_
        rotate_left 1
        · (intro w hSw; (try dsimp only at hSw); go_simp; try with_reducible rfl)
        try simp only [lyA, lyB, lyC, Act.put, lyD, lyE, lyF]
        refine tkG (i := 5) (v := ?_) rfl (by kernel_rfl) (Or.inl ⟨by kernel_rfl, ?_⟩) (by assumption) ?_
        rotate_left 1
        · (intro w hSw; (try dsimp only at hSw); go_simp; try with_reducible rfl)
        try simp only [lyA, lyB, lyC, Act.put, lyD, lyE, lyF]
        refine tkG (i := 6) (v := ?_) rfl (by kernel_rfl) (Or.inl ⟨by kernel_rfl, ?_⟩) (by assumption) ?_
        rotate_left 1
        · (intro w hSw; (try dsimp only at hSw); go_simp; try with_reducible rfl)
        try simp only [lyA, lyB, lyC, Act.put, lyD, lyE, lyF]
        obtain ⟨u, hu⟩ : ∃ ux : World, ux = w1.drew := ⟨_, rfl⟩
        have hbu : Below w1.heap.size w1 u := by rw [hu]; exact (Below.refl _ _).drew
        rw [← hu] at hHeld ⊢
        clear hu
        have FU := Lib.hid (FR1.out.below hbu hg1l)
        have HBU := Lib.hid (HB1.out.trans (hbu.mono HB1.out.size))
        have hgu : g < u.heap.size := Nat.lt_of_lt_of_le hg1l hbu.size
        have hvu : v < u.heap.size := Nat.lt_of_lt_of_le zv hbu.size
        clear hbu e0 e1 r0 r1
        refine wpAnyG_one (i := 7) (by kernel_rfl) rfl (fun K hK => ?_)
        go_simp
        (refine (H11.out.1 _ (by first | exact LW.out.below (Hid.out (by assumption)) | exact LW0.out.below (Hid.out (by assumption)) | exact LW.out.below (Hid.out (by assumption)).drew | exact LW0.out.below (Hid.out (by assumption)).drew | (trace_state; fail))).mono ?_; rintro e w2 ⟨rfl, hb2⟩; obtain ⟨s0, s1, s2, s3⟩ := hHeld; have t0 := bat hb2 s0; have t1 := bat hb2 s1; have t2 := bat hb2 s2; have t3 := bat hb2 s3; have F2 := Lib.hid (FU.out.below hb2 hgu); have HB2 := Lib.hid (HBU.out.trans (hb2.mono HBU.out.size)); have hg2l := Nat.lt_of_lt_of_le hgu hb2.size; have hv2l := Nat.lt_of_lt_of_le hvu hb2.size; clear hb2 s0 s1 s2 s3)
        try go_wp2_with fail
        refine (fun hHeld => hK.out _ _ (.inl hHeld) (fun _ => ?_)) ?_
        rotate_left 1
        · first | exact True.intro | ((try dsimp only); go_keep)
        clear hK K
        try simp only [lyA, lyB, lyC, Act.put, lyD, lyE, lyF]
        refine wpAnyG_one (i := 8) (by kernel_rfl) rfl (fun K hK => ?_)
        go_simp
        (refine (IL.out _ _ _ HLL.out H11.out.2.2.1).mono ?_; rintro e w3 ⟨rfl, hb3⟩; have p0 := bat hb3 t0; have p1 := bat hb3 t1; have p2 := bat hb3 t2; have p3 := bat hb3 t3; have F3 := Lib.hid (F2.out.below hb3 hg2l); have HB3 := Lib.hid (HB2.out.trans (hb3.mono HB2.out.size)); have hg3l := Nat.lt_of_lt_of_le hg2l hb3.size; have hv3l := Nat.lt_of_lt_of_le hv2l hb3.size; clear hb3 t0 t1 t2 t3)
        try go_wp2_with fail
        refine (fun hHeld => hK.out _ _ (.inl hHeld) (fun _ => ?_)) ?_
        rotate_left 1
        · first | exact True.intro | ((try dsimp only); go_keep)
        clear hK K
        try simp only [lyA, lyB, lyC, Act.put, lyD, lyE, lyF]
        obtain ⟨f0, f1⟩ := F3.out
        obtain ⟨wa, hw8⟩ : ∃ w8, w8 = w3.setCell ⟨g, 0, none⟩ (.float .f64 (lesF L (D d q 1))) := ⟨_, rfl⟩
        obtain ⟨hu8, hbx8⟩ := set_lo (s := ⟨L, U⟩) ⟨p2, p3⟩ (lesF L (D d q 1)) _ hw8
        have FA : Hid (FzS wa g) := Lib.hid (by rw [hw8]; exact F3.out.set _ _ _)
        have KA := Lib.hid hbx8
        have VA : Hid (BxS wa v ⟨d, q⟩) := Lib.hid ⟨hu8.cell hv3l hne p0, hu8.cell hv3l hne p1⟩
        have HBA := Lib.hid (HB3.out.trans (hu8.below hg1 HB3.out.size))
        have hgA : g < wa.heap.size := Nat.lt_of_lt_of_le hg3l hu8.size
        have hvA : v < wa.heap.size := Nat.lt_of_lt_of_le hv3l hu8.size
        have HW8 := Lib.hid hw8
        clear hw8 hu8 hbx8
        refine wpAnyG_one (i := 9) (by kernel_rfl) rfl (fun K hK => ?_)
        go_simp
        refine (fun hHeld => hK.out _ _ (.inl hHeld) (fun _ => ?_)) ?_
        rotate_left 1
        · first | exact True.intro | ((try dsimp only); go_keep)
        clear hK K
        try simp only [lyA, lyB, lyC, Act.put, lyD, lyE, lyF]
        refine wpAnyG_one (i := 10) (by kernel_rfl) rfl (fun K hK => ?_)
        go_simp
        refine hK.out _ _ ?_ (fun hHeld => ?_)
        · exact .inr (by kernel_rfl)
        clear hK K
        try simp only [lyA, lyB, lyC, Act.put, lyD, lyE, lyF]
        refine wpAnyG_done (by kernel_rfl) ?_ _
        rw [← HW8.out]
        clear HW8 p0 p1 p2 p3 f0 f1
        go_upto_region 6 with fail
        obtain ⟨e0, e1⟩ := VA.out
        obtain ⟨r0, r1⟩ := KA.out
        simp only at e0 e1 r0 r1
        refine wp_region_G (S := (fun w' => w'.cell? ⟨v, 0, none⟩ = some (.float .f64 d) ∧ w'.cell? ⟨v, 1, none⟩ = some (.float .f64 q) ∧ w'.cell? ⟨g, 0, none⟩ = some (.float .f64 (lesF L (D d q 1))) ∧ w'.cell? ⟨g, 1, none⟩ = some (.float .f64 U))) 10 (by kernel_rfl) ?_ (fun hHeld => ?_)
        · first | exact True.intro | ((try dsimp only); go_keep)
        refine tkG (i := 0) (v := ?_) rfl (by kernel_rfl) (Or.inl ⟨by kernel_rfl, ?_⟩) (by assumption) ?_
        rotate_left 1
        · (intro w hSw; (try dsimp only at hSw); go_simp; try with_reducible rfl)
        try simp only [lyA, lyB, lyC, Act.put, lyD, lyE, lyF]
        refine tkG (i := 1) (v := ?_) rfl (by kernel_rfl) (Or.inl ⟨by kernel_rfl, ?_⟩) (by assumption) ?_
        rotate_left 1
        · (intro w hSw; (try dsimp only at hSw); go_simp; try with_reducible rfl)
        try simp only [lyA, lyB, lyC, Act.put, lyD, lyE, lyF]
        refine tkG (i := 2) (v := ?_) rfl (by kernel_rfl) (Or.inl ⟨by kernel_rfl, ?_⟩) (by assumption) ?_
        rotate_left 1
        · (intro w hSw; (try dsimp only at hSw); go_simp; try with_reducible rfl)
        try simp only [lyA, lyB, lyC, Act.put, lyD, lyE, lyF]
        refine tkG (i := 3) (v := ?_) rfl (by kernel_rfl) (Or.inl ⟨by kernel_rfl, ?_⟩) (by assumption) ?_
        rotate_left 1
        · (intro w hSw; (try dsimp only at hSw); go_simp; try with_reducible rfl)
        try simp only [lyA, lyB, lyC, Act.put, lyD, lyE, lyF]
        refine tkG (i := 4) (v := ?_) rfl (by kernel_rfl) (Or.inl ⟨by kernel_rfl, ?_⟩) (by assumption) ?_
        rotate_left 1
        · (intro w hSw; (try dsimp only at hSw); go_simp; try with_reducible rfl)
        try simp only [lyA, lyB, lyC, Act.put, lyD, lyE, lyF]
        refine tkG (i := 5) (v := ?_) rfl (by kernel_rfl) (Or.inl ⟨by kernel_rfl, ?_⟩) (by assumption) ?_
        rotate_left 1
        · (intro w hSw; (try dsimp only at hSw); go_simp; try with_reducible rfl)
        try simp only [lyA, lyB, lyC, Act.put, lyD, lyE, lyF]
        refine tkG (i := 6) (v := ?_) rfl (by kernel_rfl) (Or.inl ⟨by kernel_rfl, ?_⟩) (by assumption) ?_
        rotate_left 1
        · (intro w hSw; (try dsimp only at hSw); go_simp; try with_reducible rfl)
        try simp only [lyA, lyB, lyC, Act.put, lyD, lyE, lyF]
        obtain ⟨u, hu⟩ : ∃ ux : World, ux = wa.drew := ⟨_, rfl⟩
        have hbu : Below wa.heap.size wa u := by rw [hu]; exact (Below.refl _ _).drew
        rw [← hu] at hHeld ⊢
        clear hu
        have FU := Lib.hid (FA.out.below hbu hgA)
        have HBU := Lib.hid (HBA.out.trans (hbu.mono HBA.out.size))
        have hgu : g < u.heap.size := Nat.lt_of_lt_of_le hgA hbu.size
        have hvu : v < u.heap.size := Nat.lt_of_lt_of_le hvA hbu.size
        clear hbu e0 e1 r0 r1
        refine wpAnyG_one (i := 7) (by kernel_rfl) rfl (fun K hK => ?_)
        go_simp
        (refine (H11.out.2.1 _ (by first | exact LW.out.below (Hid.out (by assumption)) | exact LW0.out.below (Hid.out (by assumption)) | exact LW.out.below (Hid.out (by assumption)).drew | exact LW0.out.below (Hid.out (by assumption)).drew | (trace_state; fail))).mono ?_; rintro e w2 ⟨rfl, hb2⟩; obtain ⟨s0, s1, s2, s3⟩ := hHeld; have t0 := bat hb2 s0; have t1 := bat hb2 s1; have t2 := bat hb2 s2; have t3 := bat hb2 s3; have F2 := Lib.hid (FU.out.below hb2 hgu); have HB2 := Lib.hid (HBU.out.trans (hb2.mono HBU.out.size)); have hg2l := Nat.lt_of_lt_of_le hgu hb2.size; have hv2l := Nat.lt_of_lt_of_le hvu hb2.size; clear hb2 s0 s1 s2 s3)
        try go_wp2_with fail
        refine (fun hHeld => hK.out _ _ (.inl hHeld) (fun _ => ?_)) ?_
        rotate_left 1
        · first | exact True.intro | ((try dsimp only); go_keep)
        clear hK K
        try simp only [lyA, lyB, lyC, Act.put, lyD, lyE, lyF]
        refine wpAnyG_one (i := 8) (by kernel_rfl) rfl (fun K hK => ?_)
        go_simp
        (refine (IG.out _ _ _ HLU.out H11.out.2.2.2).mono ?_; rintro e w3 ⟨rfl, hb3⟩; have p0 := bat hb3 t0; have p1 := bat hb3 t1; have p2 := bat hb3 t2; have p3 := bat hb3 t3; have F3 := Lib.hid (F2.out.below hb3 hg2l); have HB3 := Lib.hid (HB2.out.trans (hb3.mono HB2.out.size)); have hg3l := Nat.lt_of_lt_of_le hg2l hb3.size; have hv3l := Nat.lt_of_lt_of_le hv2l hb3.size; clear hb3 t0 t1 t2 t3)
        try go_wp2_with fail
        refine (fun hHeld => hK.out _ _ (.inl hHeld) (fun _ => ?_)) ?_
        rotate_left 1
        · first | exact True.intro | ((try dsimp only); go_keep)
        clear hK K
        try simp only [lyA, lyB, lyC, Act.put, lyD, lyE, lyF]
        obtain ⟨f0, f1⟩ := F3.out
        obtain ⟨wb, hw8⟩ : ∃ w8, w8 = w3.setCell ⟨g, 1, none⟩ (.float .f64 (greF U (D d q 2))) := ⟨_, rfl⟩
        obtain ⟨hu8, hbx8⟩ := set_hi (s := ⟨(lesF L (D d q 1)), U⟩) ⟨p2, p3⟩ (greF U (D d q 2)) _ hw8
        have FB : Hid (FzS wb g) := Lib.hid (by rw [hw8]; exact F3.out.set _ _ _)
        have KB := Lib.hid hbx8
        have VB : Hid (BxS wb v ⟨d, q⟩) := Lib.hid ⟨hu8.cell hv3l hne p0, hu8.cell hv3l hne p1⟩
        have HBB := Lib.hid (HB3.out.trans (hu8.below hg1 HB3.out.size))
        have hgB : g < wb.heap.size := Nat.lt_of_lt_of_le hg3l hu8.size
        have hvB : v < wb.heap.size := Nat.lt_of_lt_of_le hv3l hu8.size
        have HW8 := Lib.hid hw8
        clear hw8 hu8 hbx8
        refine wpAnyG_one (i := 9) (by kernel_rfl) rfl (fun K hK => ?_)
        go_simp
        refine (fun hHeld => hK.out _ _ (.inl hHeld) (fun _ => ?_)) ?_
        rotate_left 1
        · first | exact True.intro | ((try dsimp only); go_keep)
        clear hK K
        try simp only [lyA, lyB, lyC, Act.put, lyD, lyE, lyF]
        refine wpAnyG_one (i := 10) (by kernel_rfl) rfl (fun K hK => ?_)
        go_simp
        refine hK.out _ _ ?_ (fun hHeld => ?_)
        · exact .inr (by kernel_rfl)
        clear hK K
        try simp only [lyA, lyB, lyC, Act.put, lyD, lyE, lyF]
        refine wpAnyG_done (by kernel_rfl) ?_ _
        rw [← HW8.out]
        clear HW8 p0 p1 p2 p3 f0 f1
        go_wp2_with fail
        go_roundw
        case rel => exact ⟨2 + 1, by omega, by go_num, by rw [← HNL.out, ← HNU.out]; exact KB.out, FB.out, hgB, HBB.out⟩
        case measure => simp [intOf]
      · have z3 := HBR.out.size
        obtain ⟨r0, r1⟩ := KR.out
        simp only at r0 r1
        obtain ⟨hk3, hf3⟩ := blk_cs ((HBR.out.block (w.heap.size + 2) (by omega)).trans G3.out)
        have k30 := hk3 0
        have k31 := hk3 1
        have f30 := hf3 0
        have f31 := hf3 1
        simp only [List.getElem?_toArray, List.getElem?_cons_zero, List.getElem?_cons_succ] at k30 k31
        rw [← HRL.out] at r0
        rw [← HRU.out] at r1
        obtain ⟨w8, hw8⟩ : ∃ w8, w8 = (wr.setCell ⟨w.heap.size + 2, 0, none⟩ (.float .f64 rl)).setCell ⟨w.heap.size + 2, 1, none⟩ (.float .f64 ru) := ⟨_, rfl⟩
        obtain ⟨hu8, hq⟩ := spn_set k30 k31 _ _ _ hw8
        have HQ := Lib.hid hq
        have HW8 := Lib.hid hw8
        have HB8 := Lib.hid (HB0.out.trans ((HBR.out.mono HB0.out.size).trans (hu8.below (by omega) (by omega))))
        clear hk3 hf3 hw8 hu8 hq
        go_wp2_with fail
        rw [← HW8.out]
        obtain ⟨q0, q1⟩ := HQ.out
        (try simp only [Exit.inBlock, Exit.then])
        refine bodyPost_ret (v := .agg #[.float .f64 rl, .float .f64 ru]) (by simp [results, Tryz.results34, go_sem, q0, q1]; done) rfl ?_
        exact ⟨rfl, HB8.out⟩

end Go.Proofs.YtkfhbnfoiicioaaGreatDoor
