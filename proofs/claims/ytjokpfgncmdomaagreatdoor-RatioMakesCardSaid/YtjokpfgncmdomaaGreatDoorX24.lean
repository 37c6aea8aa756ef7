import Derived.Test.YtjokpfgncmdomaaGreatDoorX23
import Derived.Deep.Cut
import Derived.Deep.DeepCutAuto
set_option linter.unusedSimpArgs false
set_option linter.unusedVariables false
/- girderref07.Num: the walk (printed by gen_h28.py) -/
namespace Go.Proofs.YtjokpfgncmdomaaGreatDoor
open Go.RowKit Go.Sort

/-- one slice cell is written -/
theorem slice_set {w : World} {g o : Nat} {A : Option Addr} {n c : Nat} (k1 : w.cell? ⟨g, o, none⟩ = some (.slice A n c)) (d1 : Option Addr) (n1 c1 : Nat) :
    ∀ w', w' = w.setCell ⟨g, o, none⟩ (.slice d1 n1 c1) → UpL w w' g ∧ w'.cell? ⟨g, o, none⟩ = some (.slice d1 n1 c1) ∧ ∀ (o' : Nat) (x : Value), o' ≠ o → w.cell? ⟨g, o', none⟩ = some x → w'.cell? ⟨g, o', none⟩ = some x := by
  intro w' hw'
  subst hw'
  refine ⟨⟨rfl, rfl, rfl, by simp, fun k hk hne => ?_, fun o' x hv => ?_⟩, ?_, fun o' x hne hv => ?_⟩
  · rw [Below.heap_setCell _ _ _ _ hne]
  · have e1 : o' ≠ o := by rintro rfl; rw [k1] at hv; cases hv
    simp [go_sem, e1, hv]
  · simp [go_sem, k1]
  · simp [go_sem, hne, hv]

set_option maxRecDepth 100000 in
set_option maxHeartbeats 8000000 in
theorem num07_any (v : Value) (s : Bool) (xs : List Nat) (ex : Int) (w : World) (h : NAt w v s xs ex) (hl : Lds xs) (n1 : xs.length ≤ 100000) (he : -100000 ≤ ex) (he2 : ex ≤ 100000) :
    Calls Tryz.prog 85 #[v] w fun e w' => ∃ v', e = .returned v' ∧ FAt w' v' ⟨s, lim (ln xs * 2 ^ ex.toNat), lim (2 ^ (-ex).toNat)⟩ ∧ Below w.heap.size w w' := by
  obtain ⟨A, n, c, rfl, hx⟩ := h
  have HX := Lib.hid hx
  have HL := Lib.hid hl
  obtain ⟨X, hX⟩ : ∃ X, X = ln xs := ⟨_, rfl⟩
  obtain ⟨N, hN⟩ : ∃ N, N = X * 2 ^ ex.toNat := ⟨_, rfl⟩
  obtain ⟨D, hD⟩ : ∃ D, D = 2 ^ (-ex).toNat := ⟨_, rfl⟩
  rw [← hX, ← hN, ← hD]
  have HXV := Lib.hid hX
  have HNV := Lib.hid hN
  have HDV := Lib.hid hD
  have HXL := Lib.hid (show (lim X).length ≤ 100000 from by rw [hX]; exact Nat.le_trans (lim_len_le (ln_lt hl)) n1)
  have HE := Lib.hid (And.intro he he2)
  obtain ⟨w0, hw0⟩ : ∃ w0, w0 = (w.alloc (.cells #[.bool s, .slice A n c, .int .i64 ex] 102)).alloc (.cells #[.bool false, .slice none 0 0, .slice none 0 0] 77) := ⟨_, rfl⟩
  have hb0 : Below w.heap.size w w0 := by rw [hw0]; exact below2 ..
  have g1 : w0.heap[w.heap.size]? = some (.cells #[.bool s, .slice A n c, .int .i64 ex] 102 (0, 0)) := by
    rw [hw0]; exact ((below1 (w.alloc _) _).block w.heap.size (by simp)).trans (blk_new w _ _)
  have g2 : w0.heap[w.heap.size + 1]? = some (.cells #[.bool false, .slice none 0 0, .slice none 0 0] 77 (0, 0)) := by
    rw [hw0]; exact blk2 w _ _ _
  have z0 : w0.heap.size = w.heap.size + 2 := by rw [hw0]; simp
  have k1 := (blk_cells g1).1
  have k10 := k1 0
  have k11 := k1 1
  have k12 := k1 2
  simp only [List.getElem?_toArray, List.getElem?_cons_zero, List.getElem?_cons_succ] at k10 k11 k12
  have HK := Lib.hid (And.intro k10 (And.intro k11 k12))
  have G2 := Lib.hid g2
  have HB0 := Lib.hid hb0
  have HW0 := Lib.hid hw0
  clear hw0 hb0 g1 g2 k1 hl hx hX hN hD he he2
  go_enter Tryz.func85, Tryz.ntmps85
  go_upto_region 1 with fail
  rw [← HW0.out]
  go_cut [3] (fun pv wx => ∃ (g : Nat) (B : Option Addr) (m d : Nat) (B' : Option Addr) (m' d' : Nat), pv = .pointer (some ⟨g, 0, none⟩) ∧ w0.heap.size ≤ g ∧ g < wx.heap.size ∧ (wx.cell? ⟨g, 0, none⟩ = some (.bool s) ∧ wx.cell? ⟨g, 1, none⟩ = some (.slice B m d) ∧ wx.cell? ⟨g, 2, none⟩ = some (.slice B' m' d')) ∧ (wx.frozen? ⟨g, 1, none⟩ = false ∧ wx.frozen? ⟨g, 2, none⟩ = false) ∧ LAt wx (.slice B m d) (lim X) ∧ LAt wx (.slice B' m' d') [1] ∧ Below w0.heap.size w0 wx)
  case first =>
    refine wp_region_held_drew (S := (fun w' => w'.cell? ⟨w.heap.size, 0, none⟩ = some (.bool s) ∧ w'.cell? ⟨w.heap.size, 1, none⟩ = some (.slice A n c) ∧ w'.cell? ⟨w.heap.size, 2, none⟩ = some (.int .i64 ex))) (by kernel_rfl) ?_ (fun hHeld => ?_)
    · first | exact True.intro | ((try dsimp only); go_keep)
    clear k10 k11 k12
    refine tkH (i := 0) (v := ?_) rfl (by kernel_rfl) (Or.inl ⟨by kernel_rfl, ?_⟩) (by assumption) ?_
    rotate_left 1
    · (intro w hSw; (try dsimp only at hSw); go_simp; try with_reducible rfl)
    try simp only [lyA, lyB, lyC, Act.put, lyD, lyE, lyF]
    refine tkH (i := 1) (v := ?_) rfl (by kernel_rfl) (Or.inl ⟨by kernel_rfl, ?_⟩) (by assumption) ?_
    rotate_left 1
    · (intro w hSw; (try dsimp only at hSw); go_simp; try with_reducible rfl)
    try simp only [lyA, lyB, lyC, Act.put, lyD, lyE, lyF]
    refine tkH (i := 2) (v := ?_) rfl (by kernel_rfl) (Or.inl ⟨by kernel_rfl, ?_⟩) (by assumption) ?_
    rotate_left 1
    · (intro w hSw; (try dsimp only at hSw); go_simp; try with_reducible rfl)
    try simp only [lyA, lyB, lyC, Act.put, lyD, lyE, lyF]
    refine tkH (i := 3) (v := ?_) rfl (by kernel_rfl) (Or.inl ⟨by kernel_rfl, ?_⟩) (by assumption) ?_
    rotate_left 1
    · (intro w hSw; (try dsimp only at hSw); go_simp; try with_reducible rfl)
    try simp only [lyA, lyB, lyC, Act.put, lyD, lyE, lyF]
    obtain ⟨u, hu⟩ : ∃ ux : World, ux = w0.drew := ⟨_, rfl⟩
    have HBu : Hid (Below w0.heap.size w0 u) := Lib.hid (by rw [hu]; exact (Below.refl _ _).drew)
    rw [← hu] at hHeld ⊢
    clear hu
    refine wpAnyH_ready (rs := [4, 7]) (by kernel_rfl) (by simp) ?_
    refine AllReadyH.cons rfl (fun K hK => ?_) (AllReadyH.cons rfl (fun K hK => ?_) AllReadyH.nil)
    · go_simp
      refine (natTrim_any _ xs u (HX.out.below (HB0.out.trans (HBu.out.mono HB0.out.size))) HL.out (by omega)).mono ?_
      rintro e u4 ⟨vb, rfl, hvb, hba⟩
      rw [← HXV.out] at hvb
      obtain ⟨B, m, d, rfl, -, -, -⟩ := hvb.parts
      have HVu4 := Lib.hid hvb
      clear hvb
      have HBu4 := Lib.hid (HBu.out.trans (hba.mono HBu.out.size))
      try go_wp2_with fail
      refine hK.out _ _ ?_ (fun hHeld => ?_)
      · exact ⟨bat hba hHeld.1, bat hba hHeld.2.1, bat hba hHeld.2.2⟩
      clear hK K hba
      try simp only [lyA, lyB, lyC, Act.put, lyD, lyE, lyF]
      refine wpAnyH_ready (rs := [5, 7]) (by kernel_rfl) (by simp) ?_
      refine AllReadyH.cons rfl (fun K hK => ?_) (AllReadyH.cons rfl (fun K hK => ?_) AllReadyH.nil)
      · go_simp
        refine (one_any u4).mono ?_
        rintro e u45 ⟨vo, rfl, hvo, hba⟩
        obtain ⟨B2, m2, d2, rfl, -, -, -⟩ := hvo.parts
        have HOu45 := Lib.hid hvo
        clear hvo
        have HBu45 := Lib.hid (HBu4.out.trans (hba.mono HBu4.out.size))
        have HVu45 := Lib.hid (HVu4.out.below hba)
        try go_wp2_with fail
        refine hK.out _ _ ?_ (fun hHeld => ?_)
        · exact ⟨bat hba hHeld.1, bat hba hHeld.2.1, bat hba hHeld.2.2⟩
        clear hK K hba
        try simp only [lyA, lyB, lyC, Act.put, lyD, lyE, lyF]
        refine tkH (i := 6) (v := ?_) rfl (by kernel_rfl) (Or.inl ⟨by kernel_rfl, ?_⟩) (by assumption) ?_
        rotate_left 1
        · (intro w hSw; (try dsimp only at hSw); go_simp; try with_reducible rfl)
        try simp only [lyA, lyB, lyC, Act.put, lyD, lyE, lyF]
        refine wpAnyH_ready (rs := [7]) (by kernel_rfl) (by simp) ?_
        refine AllReadyH.cons rfl (fun K hK => ?_) AllReadyH.nil
        · obtain ⟨u457, hU⟩ : ∃ ux : World, ux = u45.alloc (.cells #[.bool false, .slice none 0 0, .slice none 0 0] 77) := ⟨_, rfl⟩
          have hba : Below u45.heap.size u45 u457 := by rw [hU]; exact below1 ..
          have HGu457 : Hid (u457.heap[u45.heap.size]? = some (.cells #[.bool false, .slice none 0 0, .slice none 0 0] 77 (0, 0))) := Lib.hid (by rw [hU]; exact blk_new ..)
          have HLu457 : Hid (w0.heap.size ≤ u45.heap.size ∧ u45.heap.size < u457.heap.size) := Lib.hid ⟨HBu45.out.size, by rw [hU]; simp⟩
          go_simp
          rw [← hU]
          have HBu457 := Lib.hid (HBu45.out.trans (hba.mono HBu45.out.size))
          have HVu457 := Lib.hid (HVu45.out.below hba)
          have HOu457 := Lib.hid (HOu45.out.below hba)
          refine hK.out _ _ ?_ (fun hHeld => ?_)
          · exact ⟨bat hba hHeld.1, bat hba hHeld.2.1, bat hba hHeld.2.2⟩
          clear hK K hba hU
          try simp only [lyA, lyB, lyC, Act.put, lyD, lyE, lyF]
          refine wpAnyH_ready (rs := [8]) (by kernel_rfl) (by simp) ?_
          refine AllReadyH.cons rfl (fun K hK => ?_) AllReadyH.nil
          obtain ⟨kc, kf⟩ := blk_cells HGu457.out
          have kc0 := kc 0
          have kf0 := kf 0
          have kc1 := kc 1
          have kf1 := kf 1
          have kc2 := kc 2
          have kf2 := kf 2
          simp only [List.getElem?_toArray, List.getElem?_cons_zero, List.getElem?_cons_succ] at kc0 kc1 kc2
          clear kc kf
          obtain ⟨w8, hw8⟩ : ∃ w8, w8 = ((u457.setCell ⟨u45.heap.size, 0, none⟩ (.bool s)).setCell ⟨u45.heap.size, 1, none⟩ (.slice B m d)).setCell ⟨u45.heap.size, 2, none⟩ (.slice B2 m2 d2) := ⟨_, rfl⟩
          obtain ⟨hu8, q0, q1, q2⟩ := rat_set kc0 kc1 kc2 _ _ _ _ _ _ _ _ hw8
          have hf8 : w8.frozen? ⟨u45.heap.size, 1, none⟩ = false ∧ w8.frozen? ⟨u45.heap.size, 2, none⟩ = false := by rw [hw8]; simp [go_sem, kf1, kf2]
          have HF8 := Lib.hid hf8
          clear hf8
          go_simp
          rw [← hw8]
          have zg := HLu457.out
          refine hK.out _ _ ?_ (fun hHeld => ?_)
          · exact ⟨hu8.cellOf hHeld.1 (by omega), hu8.cellOf hHeld.2.1 (by omega), hu8.cellOf hHeld.2.2 (by omega)⟩
          have HQ8 := Lib.hid (And.intro q0 (And.intro q1 q2))
          have HU8 := Lib.hid hu8
          clear hK K hw8 hu8 q0 q1 q2 kc0 kc1 kc2 kf0 kf1 kf2
          try simp only [lyA, lyB, lyC, Act.put, lyD, lyE, lyF]
          refine wpAnyH_done (by kernel_rfl) ?_ _
          clear hHeld
          go_wp2_with fail
          go_meet
          exact ⟨_, _, _, _, _, _, _, rfl, zg.1, Nat.lt_of_lt_of_le zg.2 HU8.out.size, HQ8.out, HF8.out, HVu457.out.upb HU8.out, HOu457.out.upb HU8.out, HBu457.out.trans (HU8.out.below zg.1 HBu457.out.size)⟩
      · obtain ⟨u47, hU⟩ : ∃ ux : World, ux = u4.alloc (.cells #[.bool false, .slice none 0 0, .slice none 0 0] 77) := ⟨_, rfl⟩
        have hba : Below u4.heap.size u4 u47 := by rw [hU]; exact below1 ..
        have HGu47 : Hid (u47.heap[u4.heap.size]? = some (.cells #[.bool false, .slice none 0 0, .slice none 0 0] 77 (0, 0))) := Lib.hid (by rw [hU]; exact blk_new ..)
        have HLu47 : Hid (w0.heap.size ≤ u4.heap.size ∧ u4.heap.size < u47.heap.size) := Lib.hid ⟨HBu4.out.size, by rw [hU]; simp⟩
        go_simp
        rw [← hU]
        have HBu47 := Lib.hid (HBu4.out.trans (hba.mono HBu4.out.size))
        have HVu47 := Lib.hid (HVu4.out.below hba)
        refine hK.out _ _ ?_ (fun hHeld => ?_)
        · exact ⟨bat hba hHeld.1, bat hba hHeld.2.1, bat hba hHeld.2.2⟩
        clear hK K hba hU
        try simp only [lyA, lyB, lyC, Act.put, lyD, lyE, lyF]
        refine wpAnyH_ready (rs := [5]) (by kernel_rfl) (by simp) ?_
        refine AllReadyH.cons rfl (fun K hK => ?_) AllReadyH.nil
        · go_simp
          refine (one_any u47).mono ?_
          rintro e u475 ⟨vo, rfl, hvo, hba⟩
          obtain ⟨B2, m2, d2, rfl, -, -, -⟩ := hvo.parts
          have HOu475 := Lib.hid hvo
          clear hvo
          have HBu475 := Lib.hid (HBu47.out.trans (hba.mono HBu47.out.size))
          have HVu475 := Lib.hid (HVu47.out.below hba)
          have HGu475 := Lib.hid ((hba.block _ HLu47.out.2).trans HGu47.out)
          have HLu475 : Hid (w0.heap.size ≤ u4.heap.size ∧ u4.heap.size < u475.heap.size) := Lib.hid ⟨HLu47.out.1, Nat.lt_of_lt_of_le HLu47.out.2 hba.size⟩
          try go_wp2_with fail
          refine hK.out _ _ ?_ (fun hHeld => ?_)
          · exact ⟨bat hba hHeld.1, bat hba hHeld.2.1, bat hba hHeld.2.2⟩
          clear hK K hba
          try simp only [lyA, lyB, lyC, Act.put, lyD, lyE, lyF]
          refine tkH (i := 6) (v := ?_) rfl (by kernel_rfl) (Or.inl ⟨by kernel_rfl, ?_⟩) (by assumption) ?_
          rotate_left 1
          · (intro w hSw; (try dsimp only at hSw); go_simp; try with_reducible rfl)
          try simp only [lyA, lyB, lyC, Act.put, lyD, lyE, lyF]
          refine wpAnyH_ready (rs := [8]) (by kernel_rfl) (by simp) ?_
          refine AllReadyH.cons rfl (fun K hK => ?_) AllReadyH.nil
          obtain ⟨kc, kf⟩ := blk_cells HGu475.out
          have kc0 := kc 0
          have kf0 := kf 0
          have kc1 := kc 1
          have kf1 := kf 1
          have kc2 := kc 2
          have kf2 := kf 2
          simp only [List.getElem?_toArray, List.getElem?_cons_zero, List.getElem?_cons_succ] at kc0 kc1 kc2
          clear kc kf
          obtain ⟨w8, hw8⟩ : ∃ w8, w8 = ((u475.setCell ⟨u4.heap.size, 0, none⟩ (.bool s)).setCell ⟨u4.heap.size, 1, none⟩ (.slice B m d)).setCell ⟨u4.heap.size, 2, none⟩ (.slice B2 m2 d2) := ⟨_, rfl⟩
          obtain ⟨hu8, q0, q1, q2⟩ := rat_set kc0 kc1 kc2 _ _ _ _ _ _ _ _ hw8
          have hf8 : w8.frozen? ⟨u4.heap.size, 1, none⟩ = false ∧ w8.frozen? ⟨u4.heap.size, 2, none⟩ = false := by rw [hw8]; simp [go_sem, kf1, kf2]
          have HF8 := Lib.hid hf8
          clear hf8
          go_simp
          rw [← hw8]
          have zg := HLu475.out
          refine hK.out _ _ ?_ (fun hHeld => ?_)
          · exact ⟨hu8.cellOf hHeld.1 (by omega), hu8.cellOf hHeld.2.1 (by omega), hu8.cellOf hHeld.2.2 (by omega)⟩
          have HQ8 := Lib.hid (And.intro q0 (And.intro q1 q2))
          have HU8 := Lib.hid hu8
          clear hK K hw8 hu8 q0 q1 q2 kc0 kc1 kc2 kf0 kf1 kf2
          try simp only [lyA, lyB, lyC, Act.put, lyD, lyE, lyF]
          refine wpAnyH_done (by kernel_rfl) ?_ _
          clear hHeld
          go_wp2_with fail
          go_meet
          exact ⟨_, _, _, _, _, _, _, rfl, zg.1, Nat.lt_of_lt_of_le zg.2 HU8.out.size, HQ8.out, HF8.out, HVu475.out.upb HU8.out, HOu475.out.upb HU8.out, HBu475.out.trans (HU8.out.below zg.1 HBu475.out.size)⟩
    · obtain ⟨u7, hU⟩ : ∃ ux : World, ux = u.alloc (.cells #[.bool false, .slice none 0 0, .slice none 0 0] 77) := ⟨_, rfl⟩
      have hba : Below u.heap.size u u7 := by rw [hU]; exact below1 ..
      have HGu7 : Hid (u7.heap[u.heap.size]? = some (.cells #[.bool false, .slice none 0 0, .slice none 0 0] 77 (0, 0))) := Lib.hid (by rw [hU]; exact blk_new ..)
      have HLu7 : Hid (w0.heap.size ≤ u.heap.size ∧ u.heap.size < u7.heap.size) := Lib.hid ⟨HBu.out.size, by rw [hU]; simp⟩
      go_simp
      rw [← hU]
      have HBu7 := Lib.hid (HBu.out.trans (hba.mono HBu.out.size))
      refine hK.out _ _ ?_ (fun hHeld => ?_)
      · exact ⟨bat hba hHeld.1, bat hba hHeld.2.1, bat hba hHeld.2.2⟩
      clear hK K hba hU
      try simp only [lyA, lyB, lyC, Act.put, lyD, lyE, lyF]
      refine wpAnyH_ready (rs := [4]) (by kernel_rfl) (by simp) ?_
      refine AllReadyH.cons rfl (fun K hK => ?_) AllReadyH.nil
      · go_simp
        refine (natTrim_any _ xs u7 (HX.out.below (HB0.out.trans (HBu7.out.mono HB0.out.size))) HL.out (by omega)).mono ?_
        rintro e u74 ⟨vb, rfl, hvb, hba⟩
        rw [← HXV.out] at hvb
        obtain ⟨B, m, d, rfl, -, -, -⟩ := hvb.parts
        have HVu74 := Lib.hid hvb
        clear hvb
        have HBu74 := Lib.hid (HBu7.out.trans (hba.mono HBu7.out.size))
        have HGu74 := Lib.hid ((hba.block _ HLu7.out.2).trans HGu7.out)
        have HLu74 : Hid (w0.heap.size ≤ u.heap.size ∧ u.heap.size < u74.heap.size) := Lib.hid ⟨HLu7.out.1, Nat.lt_of_lt_of_le HLu7.out.2 hba.size⟩
        try go_wp2_with fail
        refine hK.out _ _ ?_ (fun hHeld => ?_)
        · exact ⟨bat hba hHeld.1, bat hba hHeld.2.1, bat hba hHeld.2.2⟩
        clear hK K hba
        try simp only [lyA, lyB, lyC, Act.put, lyD, lyE, lyF]
        refine wpAnyH_ready (rs := [5]) (by kernel_rfl) (by simp) ?_
        refine AllReadyH.cons rfl (fun K hK => ?_) AllReadyH.nil
        · go_simp
          refine (one_any u74).mono ?_
          rintro e u745 ⟨vo, rfl, hvo, hba⟩
          obtain ⟨B2, m2, d2, rfl, -, -, -⟩ := hvo.parts
          have HOu745 := Lib.hid hvo
          clear hvo
          have HBu745 := Lib.hid (HBu74.out.trans (hba.mono HBu74.out.size))
          have HVu745 := Lib.hid (HVu74.out.below hba)
          have HGu745 := Lib.hid ((hba.block _ HLu74.out.2).trans HGu74.out)
          have HLu745 : Hid (w0.heap.size ≤ u.heap.size ∧ u.heap.size < u745.heap.size) := Lib.hid ⟨HLu74.out.1, Nat.lt_of_lt_of_le HLu74.out.2 hba.size⟩
          try go_wp2_with fail
          refine hK.out _ _ ?_ (fun hHeld => ?_)
          · exact ⟨bat hba hHeld.1, bat hba hHeld.2.1, bat hba hHeld.2.2⟩
          clear hK K hba
          try simp only [lyA, lyB, lyC, Act.put, lyD, lyE, lyF]
          refine tkH (i := 6) (v := ?_) rfl (by kernel_rfl) (Or.inl ⟨by kernel_rfl, ?_⟩) (by assumption) ?_
          rotate_left 1
          · (intro w hSw; (try dsimp only at hSw); go_simp; try with_reducible rfl)
          try simp only [lyA, lyB, lyC, Act.put, lyD, lyE, lyF]
          refine wpAnyH_ready (rs := [8]) (by kernel_rfl) (by simp) ?_
          refine AllReadyH.cons rfl (fun K hK => ?_) AllReadyH.nil
          obtain ⟨kc, kf⟩ := blk_cells HGu745.out
          have kc0 := kc 0
          have kf0 := kf 0
          have kc1 := kc 1
          have kf1 := kf 1
          have kc2 := kc 2
          have kf2 := kf 2
          simp only [List.getElem?_toArray, List.getElem?_cons_zero, List.getElem?_cons_succ] at kc0 kc1 kc2
          clear kc kf
          obtain ⟨w8, hw8⟩ : ∃ w8, w8 = ((u745.setCell ⟨u.heap.size, 0, none⟩ (.bool s)).setCell ⟨u.heap.size, 1, none⟩ (.slice B m d)).setCell ⟨u.heap.size, 2, none⟩ (.slice B2 m2 d2) := ⟨_, rfl⟩
          obtain ⟨hu8, q0, q1, q2⟩ := rat_set kc0 kc1 kc2 _ _ _ _ _ _ _ _ hw8
          have hf8 : w8.frozen? ⟨u.heap.size, 1, none⟩ = false ∧ w8.frozen? ⟨u.heap.size, 2, none⟩ = false := by rw [hw8]; simp [go_sem, kf1, kf2]
          have HF8 := Lib.hid hf8
          clear hf8
          go_simp
          rw [← hw8]
          have zg := HLu745.out
          refine hK.out _ _ ?_ (fun hHeld => ?_)
          · exact ⟨hu8.cellOf hHeld.1 (by omega), hu8.cellOf hHeld.2.1 (by omega), hu8.cellOf hHeld.2.2 (by omega)⟩
          have HQ8 := Lib.hid (And.intro q0 (And.intro q1 q2))
          have HU8 := Lib.hid hu8
          clear hK K hw8 hu8 q0 q1 q2 kc0 kc1 kc2 kf0 kf1 kf2
          try simp only [lyA, lyB, lyC, Act.put, lyD, lyE, lyF]
          refine wpAnyH_done (by kernel_rfl) ?_ _
          clear hHeld
          go_wp2_with fail
          go_meet
          exact ⟨_, _, _, _, _, _, _, rfl, zg.1, Nat.lt_of_lt_of_le zg.2 HU8.out.size, HQ8.out, HF8.out, HVu745.out.upb HU8.out, HOu745.out.upb HU8.out, HBu745.out.trans (HU8.out.below zg.1 HBu745.out.size)⟩
  case rest =>
    obtain ⟨g, B, m, d, B', m', d', rfl, hg, hgl, ⟨q0, q1, q2⟩, ⟨f1, f2⟩, hv, ho, hb⟩ := hcut
    have HV := Lib.hid hv
    have HO := Lib.hid ho
    have HB := Lib.hid hb
    have HF := Lib.hid (And.intro f1 f2)
    obtain ⟨j0, j1, j2⟩ := HK.out
    have c2 := bat hb j2
    have he := HE.out
    clear hv ho hb j0 j1 j2 k10 k11 k12
    by_cases h0 : 0 ≤ ex
    · obtain ⟨p, hp⟩ : ∃ p : Nat, (p : Int) = ex := ⟨ex.toNat, by omega⟩
      have hge : decide (0 ≤ ex) = true := decide_eq_true h0
      have HNE := Lib.hid (show N = X * 2 ^ p by rw [HNV.out, show ex.toNat = p by omega])
      have HDE := Lib.hid (show D = 1 by rw [HDV.out, show (-ex).toNat = 0 by omega])
      have hp2 : p ≤ 100000 := by omega
      have HP := Lib.hid hp
      obtain rfl : ex = (p : Int) := hp.symm
      clear hp
      go_wp2_with fail
      refine (natUp_any _ (lim X) p wc HV.out (lim_lds _) (by have := HXL.out; omega) (by omega)).mono ?_
      rintro e w1 ⟨v1, rfl, h1, hb1⟩
      rw [ln_dig, ← HNE.out] at h1
      obtain ⟨B1, m1, d1, rfl, -, -, -⟩ := h1.parts
      have H1 := Lib.hid h1
      have HO1 := Lib.hid (HO.out.below hb1)
      have HB1 := Lib.hid (HB.out.trans (hb1.mono HB.out.size))
      have r0 := bat hb1 q0
      have r1 := bat hb1 q1
      have r2 := bat hb1 q2
      have kf1 := (bfz hb1 hgl f1)
      have zz1 := hb1.size
      obtain ⟨w2, hw2⟩ : ∃ w2, w2 = w1.setCell ⟨g, 1, none⟩ (.slice B1 m1 d1) := ⟨_, rfl⟩
      obtain ⟨hu2, t1, ht⟩ := slice_set r1 _ _ _ _ hw2
      have t0 := ht 0 _ (by decide) r0
      have t2 := ht 2 _ (by decide) r2
      have HW2 := Lib.hid hw2
      have HU2 := Lib.hid hu2
      have HT := Lib.hid (And.intro t0 (And.intro t1 t2))
      clear h1 hb1 q0 q1 q2 f1 f2 hw2 hu2 t0 t1 t2 ht
      go_upto_region 5 with fail
      rw [← HW2.out]
      obtain ⟨t0, t1, t2⟩ := HT.out
      have zz2 := HU2.out.size
      have hblk := (HU2.out.blk (w.heap.size + 1) (by omega) (by omega)).trans ((HB1.out.block (w.heap.size + 1) (by omega)).trans G2.out)
      obtain ⟨kc, kf⟩ := blk_cells hblk
      have kc0 := kc 0
      have kc1 := kc 1
      have kc2 := kc 2
      have kf0 := kf 0
      have kfb := kf 1
      have kfc := kf 2
      simp only [List.getElem?_toArray, List.getElem?_cons_zero, List.getElem?_cons_succ] at kc0 kc1 kc2
      obtain ⟨w3, hw3⟩ : ∃ w3, w3 = ((w2.setCell ⟨w.heap.size + 1, 0, none⟩ (.bool s)).setCell ⟨w.heap.size + 1, 1, none⟩ (.slice B1 m1 d1)).setCell ⟨w.heap.size + 1, 2, none⟩ (.slice B' m' d') := ⟨_, rfl⟩
      obtain ⟨hu3, y0, y1, y2⟩ := rat_set kc0 kc1 kc2 _ _ _ _ _ _ _ _ hw3
      have HW3 := Lib.hid hw3
      have HU3 := Lib.hid hu3
      have Y := Lib.hid (And.intro y0 (And.intro y1 y2))
      clear kc kf hblk hw3 hu3 y0 y1 y2
      go_wp2_with fail
      rw [← HW3.out]
      obtain ⟨y0, y1, y2⟩ := Y.out
      (try simp only [Exit.inBlock, Exit.then])
      refine bodyPost_ret (v := .agg #[.bool s, .slice B1 m1 d1, .slice B' m' d']) (by simp [results, Tryz.results85, go_sem, y0, y1, y2]; done) rfl ?_
      refine ⟨_, rfl, ⟨_, _, rfl, (H1.out.upl HU2.out).upb HU3.out, ?_⟩, HB0.out.trans (((HB1.out.trans (HU2.out.below hg (by omega))).mono HB0.out.size).trans (HU3.out.below (by omega) (by omega)))⟩
      rw [HDE.out]
      exact (HO1.out.upl HU2.out).upb HU3.out
    · obtain ⟨p, hp⟩ : ∃ p : Nat, (p : Int) = -ex := ⟨(-ex).toNat, by omega⟩
      have hge : decide (0 ≤ ex) = false := decide_eq_false h0
      have hwn : IntKind.i64.wrap (-ex) = (p : Int) := by rw [hp]; exact IntWalk.i64_in _ (by omega)
      have HNE := Lib.hid (show N = X by rw [HNV.out, show ex.toNat = 0 by omega, Nat.pow_zero, Nat.mul_one])
      have HDE := Lib.hid (show D = 2 ^ p by rw [HDV.out, show (-ex).toNat = p by omega])
      have hp2 : p ≤ 100000 := by omega
      clear hp
      go_wp2_with fail
      refine (natUp_any _ [1] p wc HO.out (by intro x hx; simp at hx; subst hx; decide) (by decide) (by omega)).mono ?_
      rintro e w1 ⟨v1, rfl, h1, hb1⟩
      rw [show ln [1] = 1 from rfl, Nat.one_mul, ← HDE.out] at h1
      obtain ⟨B1, m1, d1, rfl, -, -, -⟩ := h1.parts
      have H1 := Lib.hid h1
      have HO1 := Lib.hid (HV.out.below hb1)
      have HB1 := Lib.hid (HB.out.trans (hb1.mono HB.out.size))
      have r0 := bat hb1 q0
      have r1 := bat hb1 q1
      have r2 := bat hb1 q2
      have kf1 := (bfz hb1 hgl f2)
      have zz1 := hb1.size
      obtain ⟨w2, hw2⟩ : ∃ w2, w2 = w1.setCell ⟨g, 2, none⟩ (.slice B1 m1 d1) := ⟨_, rfl⟩
      obtain ⟨hu2, t2, ht⟩ := slice_set r2 _ _ _ _ hw2
      have t0 := ht 0 _ (by decide) r0
      have t1 := ht 1 _ (by decide) r1
      have HW2 := Lib.hid hw2
      have HU2 := Lib.hid hu2
      have HT := Lib.hid (And.intro t0 (And.intro t1 t2))
      clear h1 hb1 q0 q1 q2 f1 f2 hw2 hu2 t0 t1 t2 ht
      go_upto_region 5 with fail
      rw [← HW2.out]
      obtain ⟨t0, t1, t2⟩ := HT.out
      have zz2 := HU2.out.size
      have hblk := (HU2.out.blk (w.heap.size + 1) (by omega) (by omega)).trans ((HB1.out.block (w.heap.size + 1) (by omega)).trans G2.out)
      obtain ⟨kc, kf⟩ := blk_cells hblk
      have kc0 := kc 0
      have kc1 := kc 1
      have kc2 := kc 2
      have kf0 := kf 0
      have kfb := kf 1
      have kfc := kf 2
      simp only [List.getElem?_toArray, List.getElem?_cons_zero, List.getElem?_cons_succ] at kc0 kc1 kc2
      obtain ⟨w3, hw3⟩ : ∃ w3, w3 = ((w2.setCell ⟨w.heap.size + 1, 0, none⟩ (.bool s)).setCell ⟨w.heap.size + 1, 1, none⟩ (.slice B m d)).setCell ⟨w.heap.size + 1, 2, none⟩ (.slice B1 m1 d1) := ⟨_, rfl⟩
      obtain ⟨hu3, y0, y1, y2⟩ := rat_set kc0 kc1 kc2 _ _ _ _ _ _ _ _ hw3
      have HW3 := Lib.hid hw3
      have HU3 := Lib.hid hu3
      have Y := Lib.hid (And.intro y0 (And.intro y1 y2))
      clear kc kf hblk hw3 hu3 y0 y1 y2
      go_wp2_with fail
      rw [← HW3.out]
      obtain ⟨y0, y1, y2⟩ := Y.out
      (try simp only [Exit.inBlock, Exit.then])
      refine bodyPost_ret (v := .agg #[.bool s, .slice B m d, .slice B1 m1 d1]) (by simp [results, Tryz.results85, go_sem, y0, y1, y2]; done) rfl ?_
      refine ⟨_, rfl, ⟨_, _, rfl, ?_, (H1.out.upl HU2.out).upb HU3.out⟩, HB0.out.trans (((HB1.out.trans (HU2.out.below hg (by omega))).mono HB0.out.size).trans (HU3.out.below (by omega) (by omega)))⟩
      rw [HNE.out]
      exact (HO1.out.upl HU2.out).upb HU3.out

end Go.Proofs.YtjokpfgncmdomaaGreatDoor

/- girderref07.OfDyad: the walk -/
namespace Go.Proofs.YtjokpfgncmdomaaGreatDoor
open Go.RowKit Go.Sort

/-- what OfDyad tells -/
def ofDE (d : DV) : Int := if rightDB d = true then toldE d.q else 2
def ofDR (d : DV) : RV := if rightDB d = true then toldR d.q else noR
theorem lim_scale_len {xs : List Nat} {n p : Nat} (hl : Lds xs) (hn : xs.length ≤ n) : (lim (ln xs * 2 ^ p)).length ≤ n + p := by
  refine lim_len_le ?_
  have h := ln_lt hl
  rw [W64_pow] at h ⊢
  have h1 : ln xs * 2 ^ p < 2 ^ (64 * xs.length) * 2 ^ p := Nat.mul_lt_mul_of_pos_right h (Nat.pow_pos (by decide))
  rw [← Nat.pow_add] at h1
  exact Nat.lt_of_lt_of_le h1 (Nat.pow_le_pow_right (by decide) (by omega))
theorem lim_pow_len (p : Nat) : (lim (2 ^ p)).length ≤ 1 + p := by
  have h := lim_scale_len (xs := [1]) (n := 1) (p := p) (fun x hx => by simp at hx; subst hx; decide) (by decide)
  rwa [show ln [1] = 1 from rfl, Nat.one_mul] at h
/-- a whole number over another -/
theorem least_of {s : Bool} {N D : Nat} {q : Rat} (hD : D ≠ 0) (hq : q = Rat.divInt (if s then -(N : Int) else (N : Int)) (D : Int)) : leastR s N D = rv q := by
  have h := least_rv ⟨s, lim N, lim D⟩ (by show ln (lim D) ≠ 0; rw [ln_dig]; exact hD)
  have e : (⟨s, lim N, lim D⟩ : RV).q = q := by
    rw [hq]
    unfold RV.q RV.top
    simp only [ln_dig]
  rw [e] at h
  simp only [ln_dig] at h
  exact h
theorem least_dyad (d : DV) : leastR d.neg (ln d.mag * 2 ^ d.exp.toNat) (2 ^ (-d.exp).toNat) = rv d.q := by
  obtain ⟨p, hp⟩ : ∃ p, p = d.exp.toNat := ⟨_, rfl⟩
  obtain ⟨p', hp'⟩ : ∃ p', p' = (-d.exp).toNat := ⟨_, rfl⟩
  have hd : d.q = Rat.divInt (d.top * 2 ^ p) (2 ^ p') := by rw [hp, hp']; rfl
  rw [← hp, ← hp']
  refine least_of (Nat.ne_of_gt (Nat.pow_pos (by decide))) ?_
  rw [hd]
  unfold DV.top
  have e1 : ((2 ^ p' : Nat) : Int) = 2 ^ p' := Int.natCast_pow 2 p'
  have e2 : ((ln d.mag * 2 ^ p : Nat) : Int) = (ln d.mag : Int) * 2 ^ p := by rw [Int.natCast_mul, Int.natCast_pow]; rfl
  rw [e1, e2]
  split
  · rw [Int.neg_mul]
  · rfl
theorem rightDB_exp {d : DV} (h : rightDB d = true) : -65536 ≤ d.exp ∧ d.exp ≤ 65536 ∧ d.mag.length ≤ 256 := by
  unfold rightDB at h
  split at h
  · rename_i h0
    rw [Bool.and_eq_true] at h
    have := of_decide_eq_true h.2
    omega
  · simp only [Bool.and_eq_true, decide_eq_true_eq] at h
    omega

set_option maxRecDepth 100000 in
set_option maxHeartbeats 4000000 in
theorem ofDyad07_any (A : Option Addr) (n c : Nat) (d : DV) (w : World) (h : LAt w (.slice A n c) d.mag) (hl : Lds d.mag) (n1 : d.mag.length ≤ 1000) :
    Calls Tryz.prog 36 #[.agg #[.bool d.neg, .slice A n c, .int .i64 d.exp]] w fun e w' => ∃ v', e = .returned (.tuple #[v', .int .i64 (ofDE d)]) ∧ RAt w' v' (ofDR d) ∧ Below w.heap.size w w' := by
  have hdat : DAt w (.agg #[.bool d.neg, .slice A n c, .int .i64 d.exp]) d := by
    obtain ⟨A', c', e, hc, hr⟩ := h
    cases e
    exact ⟨_, _, _, rfl, hr, hl⟩
  obtain ⟨en, hen⟩ : ∃ en, en = ofDE d := ⟨_, rfl⟩
  obtain ⟨nr, hnr⟩ : ∃ nr, nr = ofDR d := ⟨_, rfl⟩
  rw [← hen, ← hnr]
  have HEN := Lib.hid hen
  have HNR := Lib.hid hnr
  obtain ⟨rb, hrb⟩ : ∃ rb, rb = rightDB d := ⟨_, rfl⟩
  have HRI := Lib.hid (fun w (h : DAt w (.agg #[.bool d.neg, .slice A n c, .int .i64 d.exp]) d) => rightD_ref _ d w h (Nat.le_trans n1 (by decide)))
  rw [← hrb] at HRI
  have HRB := Lib.hid hrb
  have HDAT := Lib.hid hdat
  have HLA := Lib.hid h
  have HL := Lib.hid hl
  have HN1 := Lib.hid n1
  clear hen hnr hrb hdat h hl n1
  obtain ⟨s, hs⟩ : ∃ s, s = d.neg := ⟨_, rfl⟩
  obtain ⟨ex, hex⟩ : ∃ ex, ex = d.exp := ⟨_, rfl⟩
  rw [← hs, ← hex] at HDAT HRI ⊢
  have HS := Lib.hid hs
  have HEX := Lib.hid hex
  clear hs hex
  obtain ⟨w0, hw0⟩ : ∃ w0, w0 = (w.alloc (.cells #[.bool s, .slice A n c, .int .i64 ex] 46)).alloc (.cells #[.bool false, .slice none 0 0, .slice none 0 0] 24) := ⟨_, rfl⟩
  have hb0 : Below w.heap.size w w0 := by rw [hw0]; exact below2 ..
  have g1 : w0.heap[w.heap.size]? = some (.cells #[.bool s, .slice A n c, .int .i64 ex] 46 (0, 0)) := by
    rw [hw0]; exact ((below1 (w.alloc _) _).block w.heap.size (by simp)).trans (blk_new w _ _)
  have g2 : w0.heap[w.heap.size + 1]? = some (.cells #[.bool false, .slice none 0 0, .slice none 0 0] 24 (0, 0)) := by
    rw [hw0]; exact blk2 w _ _ _
  have z0 : w0.heap.size = w.heap.size + 2 := by rw [hw0]; simp
  have k1 := (blk_cells g1).1
  have k10 := k1 0
  have k11 := k1 1
  have k12 := k1 2
  simp only [List.getElem?_toArray, List.getElem?_cons_zero, List.getElem?_cons_succ] at k10 k11 k12
  have HK := Lib.hid (And.intro k10 (And.intro k11 k12))
  have G2 := Lib.hid g2
  have HB0 := Lib.hid hb0
  have HW0 := Lib.hid hw0
  rw [hw0] at k10 k11 k12
  clear hw0 hb0 g1 g2 k1
  go_enter Tryz.func36, Tryz.ntmps36
  go_wp2_with fail
  rw [← HW0.out]
  refine (HRI.out w0 (HDAT.out.below HB0.out)).mono ?_
  rintro e w1 ⟨rfl, hb1⟩
  have HB1 := Lib.hid hb1
  obtain ⟨k10, k11, k12⟩ := HK.out
  have c0 := bat hb1 k10
  have c1 := bat hb1 k11
  have c2 := bat hb1 k12
  have G21 := Lib.hid ((hb1.block (w.heap.size + 1) (by omega)).trans G2.out)
  have zz1 := hb1.size
  clear hb1 k10 k11 k12
  cases rb
  · have HE : Hid (en = 2) := Lib.hid (HEN.out.trans (if_neg (by rw [← HRB.out]; decide)))
    have HR : Hid (nr = noR) := Lib.hid (HNR.out.trans (if_neg (by rw [← HRB.out]; decide)))
    obtain ⟨kc, kf⟩ := blk_cells G21.out
    have kc0 := kc 0
    have kc1 := kc 1
    have kc2 := kc 2
    have kf0 := kf 0
    have kf1 := kf 1
    have kf2 := kf 2
    simp only [List.getElem?_toArray, List.getElem?_cons_zero, List.getElem?_cons_succ] at kc0 kc1 kc2
    obtain ⟨w8, hw8⟩ : ∃ w8, w8 = ((w1.setCell ⟨w.heap.size + 1, 0, none⟩ (.bool false)).setCell ⟨w.heap.size + 1, 1, none⟩ (.slice none 0 0)).setCell ⟨w.heap.size + 1, 2, none⟩ (.slice none 0 0) := ⟨_, rfl⟩
    obtain ⟨hu8, q0, q1, q2⟩ := rat_set kc0 kc1 kc2 _ _ _ _ _ _ _ _ hw8
    have HW8 := Lib.hid hw8
    have HU8 := Lib.hid hu8
    have Q0 := Lib.hid q0
    have Q1 := Lib.hid q1
    have Q2 := Lib.hid q2
    clear kc kf hw8 hu8 q0 q1 q2
    go_wp2_with fail
    rw [← HW8.out]
    have q0 := Q0.out
    have q1 := Q1.out
    have q2 := Q2.out
    (try simp only [Exit.inBlock, Exit.then])
    refine bodyPost_ret (v := .tuple #[.agg #[.bool false, .slice none 0 0, .slice none 0 0], .int .i64 2]) (by simp [results, Tryz.results36, go_sem, q0, q1, q2]; done) rfl ?_
    exact ⟨.agg #[.bool false, .slice none 0 0, .slice none 0 0], by rw [HE.out], by rw [HR.out]; exact noR_at _ _ _, HB0.out.trans ((HB1.out.mono HB0.out.size).trans (HU8.out.below (by omega) (by omega)))⟩
  · have HE : Hid (en = toldE d.q) := Lib.hid (HEN.out.trans (if_pos HRB.out.symm))
    have HR : Hid (nr = toldR d.q) := Lib.hid (HNR.out.trans (if_pos HRB.out.symm))
    have hx := rightDB_exp HRB.out.symm
    rw [← HEX.out] at hx
    have HXX := Lib.hid hx
    have htr := told_rv d.q
    have HLN : Hid ((lim (ln d.mag)).length ≤ 1000) := Lib.hid (Nat.le_trans (lim_len_le (ln_lt HL.out)) HN1.out)
    have HNM := Lib.hid (fun v w (h : NAt w v s (lim (ln d.mag)) ex) => by
      have h9 := num07_any v s (lim (ln d.mag)) ex w h (lim_lds _) (by have := HLN.out; omega) (by omega) (by omega)
      rw [ln_dig] at h9
      exact h9)
    have HT := Lib.hid (fun v w (h : FAt w v ⟨s, lim (ln d.mag * 2 ^ ex.toNat), lim (2 ^ (-ex).toNat)⟩) => by
      have h9 := told_any v s _ _ w h (Nat.ne_of_gt (Nat.pow_pos (by decide))) (Nat.le_trans (lim_scale_len HL.out HN1.out) (by omega)) (Nat.le_trans (lim_pow_len _) (by omega))
      have h8 := least_dyad d
      rw [← HS.out, ← HEX.out] at h8
      rw [h8, htr.1, htr.2] at h9
      exact h9)
    obtain ⟨te, hte⟩ : ∃ te, te = toldE d.q := ⟨_, rfl⟩
    rw [← hte] at HT HE
    clear hx htr hte
    go_wp2_with fail
    refine (dyadN_any s A n c ex d.mag w1 ((HLA.out.below HB0.out).below HB1.out) HL.out (by have := HN1.out; omega)).mono ?_
    rintro e w2 ⟨v2, rfl, h2, hb2⟩
    have H2 := Lib.hid h2
    obtain ⟨A2, n2, c2', rfl, -⟩ := h2
    have HB2 := Lib.hid (HB1.out.trans (hb2.mono HB1.out.size))
    have G22 := Lib.hid ((hb2.block (w.heap.size + 1) (by omega)).trans G21.out)
    have zz2 := hb2.size
    clear hb2 c0 c1 c2
    go_wp2_with fail
    refine (HNM.out _ w2 H2.out).mono ?_
    rintro e w3 ⟨v3, rfl, h3, hb3⟩
    have H3 := Lib.hid h3
    obtain ⟨A3, n3, c3, A3', n3', c3', rfl, -, -⟩ := h3.shape
    have HB3 := Lib.hid (HB2.out.trans (hb3.mono HB2.out.size))
    have G23 := Lib.hid ((hb3.block (w.heap.size + 1) (by omega)).trans G22.out)
    have zz3 := hb3.size
    simp only at H3 ⊢
    clear h3 hb3
    go_wp2_with fail
    refine (HT.out _ w3 H3.out).mono ?_
    rintro e w4 ⟨v4, rfl, h4, hb4⟩
    obtain ⟨B, m, dd, B', m', dd', rfl, -, -⟩ := h4.shape
    have hlt : LdR (toldR d.q) := by
      unfold toldR
      split
      · exact ⟨lim_lds _, lim_lds _⟩
      · exact ⟨fun _ h => absurd h (by simp [noR]), fun _ h => absurd h (by simp [noR])⟩
    have HV4 := Lib.hid (h4.rat hlt)
    have HB4 := Lib.hid (HB3.out.trans (hb4.mono HB3.out.size))
    have zz4 := hb4.size
    obtain ⟨kc, kf⟩ := blk_cells ((hb4.block (w.heap.size + 1) (by omega)).trans G23.out)
    have kc0 := kc 0
    have kc1 := kc 1
    have kc2 := kc 2
    have kf0 := kf 0
    have kf1 := kf 1
    have kf2 := kf 2
    simp only [List.getElem?_toArray, List.getElem?_cons_zero, List.getElem?_cons_succ] at kc0 kc1 kc2
    obtain ⟨tn, htn⟩ : ∃ tn, tn = (toldR d.q).neg := ⟨_, rfl⟩
    rw [← htn] at HV4 ⊢
    obtain ⟨w8, hw8⟩ : ∃ w8, w8 = ((w4.setCell ⟨w.heap.size + 1, 0, none⟩ (.bool tn)).setCell ⟨w.heap.size + 1, 1, none⟩ (.slice B m dd)).setCell ⟨w.heap.size + 1, 2, none⟩ (.slice B' m' dd') := ⟨_, rfl⟩
    obtain ⟨hu8, q0, q1, q2⟩ := rat_set kc0 kc1 kc2 _ _ _ _ _ _ _ _ hw8
    have HW8 := Lib.hid hw8
    have HU8 := Lib.hid hu8
    have Q0 := Lib.hid q0
    have Q1 := Lib.hid q1
    have Q2 := Lib.hid q2
    clear kc kf hw8 hu8 q0 q1 q2 h4 hb4 hlt htn
    go_wp2_with fail
    rw [← HW8.out]
    have q0 := Q0.out
    have q1 := Q1.out
    have q2 := Q2.out
    (try simp only [Exit.inBlock, Exit.then])
    refine bodyPost_ret (v := .tuple #[.agg #[.bool tn, .slice B m dd, .slice B' m' dd'], .int .i64 te]) (by simp [results, Tryz.results36, go_sem, q0, q1, q2]; done) rfl ?_
    exact ⟨.agg #[.bool tn, .slice B m dd, .slice B' m' dd'], by rw [HE.out], by rw [HR.out]; exact HV4.out.upb HU8.out, HB0.out.trans ((HB4.out.mono HB0.out.size).trans (HU8.out.below (by omega) (by omega)))⟩

end Go.Proofs.YtjokpfgncmdomaaGreatDoor

/- ratio.OfDyad of any dyad: what it tells is what girderref07.OfDyad tells (ofDE, ofDR) -/
namespace Go.Proofs.YtjokpfgncmdomaaGreatDoor
open Go.RowKit Go.Sort

theorem ln_odd {xs : List Nat} (h : xs.getD 0 0 % 2 = 1) : ln xs % 2 = 1 := by
  cases xs with
  | nil => simp at h
  | cons a r =>
    have h1 : a % 2 = 1 := by simpa using h
    have h2 : ln (a :: r) = a + W64 * ln r := rfl
    rw [h2, show W64 = 2 * 9223372036854775808 from rfl, Nat.mul_assoc]
    omega
theorem gcd_odd_pow {a : Nat} (h : a % 2 = 1) (p : Nat) : Nat.gcd a (2 ^ p) = 1 := by
  have h2 : Nat.Coprime a 2 := by
    unfold Nat.Coprime
    rw [Nat.gcd_comm, Nat.gcd_rec, h]
    rfl
  exact Nat.Coprime.pow_right p h2
theorem lim_not {N K : Nat} (h : 2 ^ (64 * K) ≤ N) : K < (lim N).length := by
  by_cases hc : (lim N).length ≤ K
  · have h1 := ln_lt (lim_lds N)
    rw [ln_dig, W64_pow] at h1
    have h2 : 2 ^ (64 * (lim N).length) ≤ 2 ^ (64 * K) := Nat.pow_le_pow_right (by decide) (by omega)
    omega
  · omega
/-- a right dyad that is far -/
theorem far_not_fits {d : DV} (h : rightDB d = true) (hf : 16384 < d.exp ∨ d.exp < -16384) : ¬ fits d.q := by
  unfold rightDB at h
  split at h
  · rw [Bool.and_eq_true] at h
    have := of_decide_eq_true h.2
    omega
  · simp only [Bool.and_eq_true, decide_eq_true_eq] at h
    obtain ⟨⟨⟨⟨-, h2⟩, h3⟩, h4⟩, h5⟩ := h
    have hodd := ln_odd h3
    have hL := least_dyad d
    obtain ⟨N, hN⟩ : ∃ N, N = ln d.mag := ⟨_, rfl⟩
    obtain ⟨p, hp⟩ : ∃ p, p = d.exp.toNat := ⟨_, rfl⟩
    obtain ⟨p', hp'⟩ : ∃ p', p' = (-d.exp).toNat := ⟨_, rfl⟩
    rw [← hN, ← hp, ← hp'] at hL
    rw [← hN] at hodd
    have hN1 : 1 ≤ N := by omega
    intro hfit
    obtain ⟨f1, f2⟩ := hfit
    obtain ⟨K, hK⟩ : ∃ K, K = 256 := ⟨_, rfl⟩
    have f1' : (rv d.q).num.length ≤ K := by rw [hK]; exact f1
    have f2' : (rv d.q).den.length ≤ K := by rw [hK]; exact f2
    have hnz : N * 2 ^ p ≠ 0 := Nat.ne_of_gt (Nat.mul_pos (by omega) (Nat.pow_pos (by decide)))
    unfold leastR at hL
    rw [if_neg hnz] at hL
    rcases hf with hf | hf
    · have hp0 : p' = 0 := by omega
      rw [hp0, Nat.pow_zero, Nat.gcd_one_right, Nat.div_one] at hL
      rw [← hL] at f1'
      have h9 : 2 ^ (64 * K) ≤ N * 2 ^ p := by
        have h8 : 2 ^ (64 * K) ≤ 2 ^ p := Nat.pow_le_pow_right (by decide) (by omega)
        exact Nat.le_trans h8 (Nat.le_mul_of_pos_left _ (by omega))
      have := lim_not h9
      simp only at f1'
      omega
    · have hp0 : p = 0 := by omega
      rw [hp0, Nat.pow_zero, Nat.mul_one, gcd_odd_pow hodd, Nat.div_one, Nat.div_one] at hL
      rw [← hL] at f2'
      have h9 : 2 ^ (64 * K) ≤ 2 ^ p' := Nat.pow_le_pow_right (by decide) (by omega)
      have := lim_not h9
      simp only at f2'
      omega

set_option maxRecDepth 100000 in
set_option maxHeartbeats 4000000 in
theorem ofDyad_fail (v : Value) (d : DV) (w : World) (hd : DAt w v d) (hlen : d.mag.length ≤ 1000) (b g l : Bool) (k : Int) (hb : rightDB d = b) (hg : decide (16384 < d.exp) = g) (hl : decide (d.exp < -16384) = l) (hk : (b = false ∧ k = 2) ∨ (b = true ∧ (g = true ∨ l = true) ∧ k = 3)) :
    Calls Tryz.prog 35 #[v] w (Fail k w) := by
  have HD := Lib.hid hd
  have HR := Lib.hid (fun w (h : DAt w v d) => rightD_prog v d w h (Nat.le_trans hlen (by decide)))
  rw [hb] at HR
  obtain ⟨A, n, c, rfl, hx, hls⟩ := hd
  obtain ⟨s, ms, ex⟩ := d
  simp only at HD HR hg hl
  obtain ⟨w0, hw0⟩ : ∃ w0, w0 = (w.alloc (.cells #[.bool s, .slice A n c, .int .i64 ex] 46)).alloc (.cells #[.bool false, .slice none 0 0, .slice none 0 0] 24) := ⟨_, rfl⟩
  have hb0 : Below w.heap.size w w0 := by rw [hw0]; exact below2 ..
  have g1 : w0.heap[w.heap.size]? = some (.cells #[.bool s, .slice A n c, .int .i64 ex] 46 (0, 0)) := by
    rw [hw0]; exact ((below1 (w.alloc _) _).block w.heap.size (by simp)).trans (blk_new w _ _)
  have g2 : w0.heap[w.heap.size + 1]? = some (.cells #[.bool false, .slice none 0 0, .slice none 0 0] 24 (0, 0)) := by
    rw [hw0]; exact blk2 w _ _ _
  have z0 : w0.heap.size = w.heap.size + 2 := by rw [hw0]; simp
  have k1 := (blk_cells g1).1
  have k10 := k1 0
  have k11 := k1 1
  have k12 := k1 2
  simp only [List.getElem?_toArray, List.getElem?_cons_zero, List.getElem?_cons_succ] at k10 k11 k12
  have HK := Lib.hid (And.intro k10 (And.intro k11 k12))
  have G2 := Lib.hid g2
  have HB0 := Lib.hid hb0
  have HW0 := Lib.hid hw0
  have HG := Lib.hid hg
  have HLL := Lib.hid hl
  rw [hw0] at k10 k11 k12
  have fin : ∀ (w1 : World) (kk : Int), Below w0.heap.size w0 w1 → ∀ w8, w8 = ((w1.setCell ⟨w.heap.size + 1, 0, none⟩ (.bool false)).setCell ⟨w.heap.size + 1, 1, none⟩ (.slice none 0 0)).setCell ⟨w.heap.size + 1, 2, none⟩ (.slice none 0 0) → Below w.heap.size w w8 ∧ w8.cell? ⟨w.heap.size + 1, 0, none⟩ = some (.bool false) ∧ w8.cell? ⟨w.heap.size + 1, 1, none⟩ = some (.slice none 0 0) ∧ w8.cell? ⟨w.heap.size + 1, 2, none⟩ = some (.slice none 0 0) := by
    intro w1 kk hb1 w8 hw8
    obtain ⟨kc, kf⟩ := blk_cells ((hb1.block (w.heap.size + 1) (by omega)).trans G2.out)
    have kc0 := kc 0
    have kc1 := kc 1
    have kc2 := kc 2
    simp only [List.getElem?_toArray, List.getElem?_cons_zero, List.getElem?_cons_succ] at kc0 kc1 kc2
    obtain ⟨hu8, q0, q1, q2⟩ := rat_set kc0 kc1 kc2 _ _ _ _ _ _ _ _ hw8
    exact ⟨HB0.out.trans ((hb1.mono HB0.out.size).trans (hu8.below (by omega) (by have := hb1.size; omega))), q0, q1, q2⟩
  have FIN := Lib.hid fin
  clear hx hls hw0 hb0 g1 g2 k1 hlen hb hg hl fin
  go_enter Tryz.func35, Tryz.ntmps35
  go_wp2_with fail
  rw [← HW0.out]
  refine (HR.out w0 (HD.out.below HB0.out)).mono ?_
  rintro e w1 ⟨rfl, hb1⟩
  have HB1 := Lib.hid hb1
  obtain ⟨k10, k11, k12⟩ := HK.out
  have c0 := bat hb1 k10
  have c1 := bat hb1 k11
  have c2 := bat hb1 k12
  have hblk2 := (hb1.block (w.heap.size + 1) (by omega)).trans G2.out
  obtain ⟨kc, kf⟩ := blk_cells hblk2
  have kc0 := kc 0
  have kc1 := kc 1
  have kc2 := kc 2
  have kf0 := kf 0
  have kf1 := kf 1
  have kf2 := kf 2
  simp only [List.getElem?_toArray, List.getElem?_cons_zero, List.getElem?_cons_succ] at kc0 kc1 kc2
  obtain ⟨w8, hw8⟩ : ∃ w8, w8 = ((w1.setCell ⟨w.heap.size + 1, 0, none⟩ (.bool false)).setCell ⟨w.heap.size + 1, 1, none⟩ (.slice none 0 0)).setCell ⟨w.heap.size + 1, 2, none⟩ (.slice none 0 0) := ⟨_, rfl⟩
  obtain ⟨hu8, q0, q1, q2⟩ := FIN.out w1 0 hb1 _ hw8
  have HW8 := Lib.hid hw8
  have HU8 := Lib.hid hu8
  have Q0 := Lib.hid q0
  have Q1 := Lib.hid q1
  have Q2 := Lib.hid q2
  clear kc kf hblk2 hw8 hu8 q0 q1 q2 hb1 k10 k11 k12
  cases b
  · obtain ⟨-, rfl⟩ | ⟨h, -⟩ := hk
    · go_wp2_with fail
      rw [← HW8.out]
      have q0 := Q0.out
      have q1 := Q1.out
      have q2 := Q2.out
      (try simp only [Exit.inBlock, Exit.then])
      refine bodyPost_ret (v := .tuple #[.agg #[.bool false, .slice none 0 0, .slice none 0 0], .int .i64 2]) (by simp [results, Tryz.results35, go_sem, q0, q1, q2]; done) rfl ?_
      exact ⟨_, rfl, noR_at _ _ _, HU8.out⟩
    · cases h
  · obtain ⟨h, -⟩ | ⟨-, hgl, rfl⟩ := hk
    · cases h
    · have f1 := HG.out
      have f2 := HLL.out
      cases g
      · obtain h | rfl := hgl
        · cases h
        · go_wp2_with fail
          rw [← HW8.out]
          have q0 := Q0.out
          have q1 := Q1.out
          have q2 := Q2.out
          (try simp only [Exit.inBlock, Exit.then])
          refine bodyPost_ret (v := .tuple #[.agg #[.bool false, .slice none 0 0, .slice none 0 0], .int .i64 3]) (by simp [results, Tryz.results35, go_sem, q0, q1, q2]; done) rfl ?_
          exact ⟨_, rfl, noR_at _ _ _, HU8.out⟩
      · clear hgl
        go_wp2_with fail
        rw [← HW8.out]
        have q0 := Q0.out
        have q1 := Q1.out
        have q2 := Q2.out
        (try simp only [Exit.inBlock, Exit.then])
        refine bodyPost_ret (v := .tuple #[.agg #[.bool false, .slice none 0 0, .slice none 0 0], .int .i64 3]) (by simp [results, Tryz.results35, go_sem, q0, q1, q2]; done) rfl ?_
        exact ⟨_, rfl, noR_at _ _ _, HU8.out⟩

theorem ofDyad_any (v : Value) (d : DV) (w : World) (hd : DAt w v d) (hlen : d.mag.length ≤ 1000) :
    Calls Tryz.prog 35 #[v] w fun e w' => ∃ v', e = .returned (.tuple #[v', .int .i64 (ofDE d)]) ∧ RAt w' v' (ofDR d) ∧ Below w.heap.size w w' := by
  have hfail : ∀ k, ofDE d = k → ofDR d = noR → Calls Tryz.prog 35 #[v] w (Fail k w) → Calls Tryz.prog 35 #[v] w fun e w' => ∃ v', e = .returned (.tuple #[v', .int .i64 (ofDE d)]) ∧ RAt w' v' (ofDR d) ∧ Below w.heap.size w w' := by
    intro k h1 h2 h
    refine h.mono ?_
    rintro e w' ⟨v', rfl, hv, hb⟩
    exact ⟨v', by rw [h1], by rw [h2]; exact hv, hb⟩
  cases hB : rightDB d
  · exact hfail 2 (by unfold ofDE; rw [hB]; rfl) (by unfold ofDR; rw [hB]; rfl) (ofDyad_fail v d w hd hlen _ _ _ 2 hB rfl rfl (.inl ⟨rfl, rfl⟩))
  · by_cases hf : 16384 < d.exp ∨ d.exp < -16384
    · have hnf := far_not_fits hB hf
      refine hfail 3 (by unfold ofDE; rw [hB, if_pos rfl]; unfold toldE; rw [if_neg hnf]) (by unfold ofDR; rw [hB, if_pos rfl]; unfold toldR; rw [if_neg hnf]) (ofDyad_fail v d w hd hlen _ _ _ 3 hB rfl rfl (.inr ⟨rfl, ?_, rfl⟩))
      rcases hf with h | h
      · exact .inl (decide_eq_true h)
      · exact .inr (decide_eq_true h)
    · refine (ofDyad_told v d w hd hlen (by omega) (by omega) (fun w h => by have h9 := rightD_prog v d w h (Nat.le_trans hlen (by decide)); rwa [hB] at h9)).mono ?_
      rintro e w' ⟨v', rfl, hv, hb⟩
      refine ⟨v', ?_, ?_, hb⟩
      · unfold ofDE; rw [hB, if_pos rfl]
      · unfold ofDR; rw [hB, if_pos rfl]; exact hv

end Go.Proofs.YtjokpfgncmdomaaGreatDoor

/- a float as a fraction (plain) -/
namespace Go.Proofs.YtjokpfgncmdomaaGreatDoor

/-- a float's number as a size times a power of two -/
theorem flt_split {neg : Bool} {g f : Nat} {e : Int} (he : -1074 ≤ e) (hv : Vr g = f * 2 ^ (e + 1074).toNat) : leastR neg (f * 2 ^ e.toNat) (2 ^ (-e).toNat) = rv (fltQ neg g) := by
  obtain ⟨n, hn⟩ : ∃ n : Nat, n = 1074 := ⟨_, rfl⟩
  obtain ⟨p, hp⟩ : ∃ p, p = e.toNat := ⟨_, rfl⟩
  obtain ⟨p', hp'⟩ : ∃ p', p' = (-e).toNat := ⟨_, rfl⟩
  obtain ⟨k, hk⟩ : ∃ k, k = (e + 1074).toNat := ⟨_, rfl⟩
  have hpk : p + n = k + p' := by omega
  rw [← hk] at hv
  rw [← hp, ← hp']
  have hD : (2 ^ p' : Nat) ≠ 0 := Nat.ne_of_gt (Nat.pow_pos (by decide))
  have hD2 : (2 ^ n : Nat) ≠ 0 := Nat.ne_of_gt (Nat.pow_pos (by decide))
  refine least_of hD ?_
  have hq : fltQ neg g = Rat.divInt (if neg then -(Vr g : Int) else (Vr g : Int)) ((2 ^ n : Nat) : Int) := by rw [hn]; rfl
  rw [hq, Rat.divInt_eq_divInt_iff (by omega) (by omega), hv]
  have h1 : f * 2 ^ k * 2 ^ p' = f * 2 ^ p * 2 ^ n := by rw [Nat.mul_assoc, Nat.mul_assoc, ← Nat.pow_add, ← Nat.pow_add, hpk]
  have h2 : ((f * 2 ^ k : Nat) : Int) * ((2 ^ p' : Nat) : Int) = ((f * 2 ^ p : Nat) : Int) * ((2 ^ n : Nat) : Int) := by rw [← Int.natCast_mul, h1, Int.natCast_mul]
  cases neg
  · simp only [if_false, Bool.false_eq_true]
    exact h2
  · simp only [if_true, Int.neg_mul]
    rw [h2]
/-- how great the power may be -/
theorem split_exp {g f : Nat} {e : Int} (hg : g < 9218868437227405312) (hf : f ≠ 0) (he : -1074 ≤ e) (hv : Vr g = f * 2 ^ (e + 1074).toNat) : e ≤ 1023 := by
  obtain ⟨k, hk⟩ : ∃ k, k = (e + 1074).toNat := ⟨_, rfl⟩
  obtain ⟨a, ha⟩ : ∃ a : Nat, a = 2098 := ⟨_, rfl⟩
  rw [← hk] at hv
  have h1 : Vr g < 2 ^ a := by rw [ha]; exact Vr_lt_inf hg
  have h2 : 2 ^ k ≤ Vr g := by rw [hv]; exact Nat.le_mul_of_pos_left _ (by omega)
  have h4 : k < a := (Nat.pow_lt_pow_iff_right (show 1 < 2 by decide)).1 (Nat.lt_of_le_of_lt h2 h1)
  omega
theorem split_half {V f k : Nat} (hv : V = f * 2 ^ k) (h2 : f % 2 = 0) : V = f / 2 * 2 ^ (k + 1) := by
  have e : f = 2 * (f / 2) := by omega
  rw [hv, Nat.pow_succ]
  generalize 2 ^ k = P
  calc f * P = 2 * (f / 2) * P := by rw [← e]
    _ = f / 2 * (P * 2) := by ac_rfl
theorem split_sub {g : Nat} (h : g / 4503599627370496 = 0) : Vr g = g % 4503599627370496 * 2 ^ ((-1074 : Int) + 1074).toNat := by
  have h1 : g < 2 ^ 52 := by have : (2 : Nat) ^ 52 = 4503599627370496 := by decide
                             omega
  unfold Vr
  rw [if_pos h1, show ((-1074 : Int) + 1074).toNat = 0 from rfl, Nat.pow_zero, Nat.mul_one]
  omega
theorem split_nor {g E : Nat} (hE : E = g / 4503599627370496) (h : 0 < E) : Vr g = (g % 4503599627370496 + 4503599627370496) * 2 ^ (((E : Int) - 1075) + 1074).toNat := by
  have e52 : (2 : Nat) ^ 52 = 4503599627370496 := by decide
  have h1 : ¬ g < 2 ^ 52 := by omega
  unfold Vr
  rw [if_neg h1, e52, ← hE, show (((E : Int) - 1075) + 1074).toNat = E - 1 by omega, Nat.add_comm]

end Go.Proofs.YtjokpfgncmdomaaGreatDoor

/- lists of limbs that are lent, and whether they were kept -/
namespace Go.Proofs.YtjokpfgncmdomaaGreatDoor
open Go.RowKit Go.Sort

def mkL (k : Nat) : Nat := 8000024 + k
def marksL : List Nat := (List.range 12).map mkL
theorem marksL_len : marksL.length = 12 := by simp [marksL]
theorem marksL_take (i : Nat) (h : i < 12) : marksL.take i ++ [mkL i] = marksL.take (i + 1) := by
  have hl : i < marksL.length := by rw [marksL_len]; exact h
  rw [List.take_succ_eq_append_getElem hl]
  congr 1
  simp [marksL]
theorem marksL_get {i x : Nat} (h : marksL[i]? = some x) : x = mkL i ∧ i < 12 := by
  simp only [marksL, List.getElem?_map, Option.map_eq_some_iff] at h
  obtain ⟨j, hj, rfl⟩ := h
  obtain ⟨h1, h2⟩ := List.getElem?_eq_some_iff.1 hj
  rw [List.getElem_range] at h2
  subst h2
  exact ⟨rfl, by simpa using h1⟩
theorem mark_any (i : Int) (w : World) (h1 : 0 ≤ i) (h2 : i ≤ 100) : Calls Tryz.prog 128 #[.int .i64 1, .int .i64 i] w fun e w' => e = .returned (.int .i64 (8000024 + i)) ∧ w = w' := by
  have e1 : IntKind.i64.wrap (8000024 + i) = 8000024 + i := IntWalk.i64_in _ (by omega)
  go_enter Tryz.func128, Tryz.ntmps128
  go_wp2_with fail
  go_ret
  exact ⟨rfl, rfl⟩
/-- a list that was lent: behind it lie twelve marks -/
def LentL (w : World) (v : Value) (xs : List Nat) : Prop := ∃ g d, v = .slice (some ⟨g, 0, none⟩) xs.length d ∧ xs.length + 12 ≤ d ∧ RdE Lc 1 w (fun b => b < w.heap.size) (some ⟨g, 0, none⟩) (xs.length + 12) (xs ++ marksL)
theorem LentL.below {w w' : World} {v : Value} {xs : List Nat} (h : LentL w v xs) (hb : Below w.heap.size w w') : LentL w' v xs := by
  obtain ⟨g, d, e, hd, hr⟩ := h
  exact ⟨g, d, e, hd, hr.belowL hb⟩
theorem LentL.lat {w : World} {v : Value} {xs : List Nat} (h : LentL w v xs) : LAt w v xs := by
  obtain ⟨g, d, e, hd, hr⟩ := h
  have h1 := hr.take Lc.clen (show xs.length ≤ xs.length + 12 by omega)
  rw [List.take_left' rfl] at h1
  exact ⟨_, d, e, by omega, h1⟩
theorem LentL.upl {w w' : World} {v : Value} {xs : List Nat} {g : Nat} (h : LentL w v xs) (hu : UpL w w' g) : LentL w' v xs := by
  obtain ⟨A, c, e, hc, hr⟩ := h
  exact ⟨A, c, e, hc, (hu.limbs hr).imp fun b hb => Nat.lt_of_lt_of_le hb hu.size⟩

set_option maxRecDepth 100000 in
set_option maxHeartbeats 4000000 in
theorem lentL_any (v : Value) (xs : List Nat) (w : World) (h : LAt w v xs) (hn : xs.length ≤ 1000000000000) :
    Calls Tryz.prog 72 #[v] w fun e w' => ∃ v', e = .returned v' ∧ LentL w' v' xs ∧ Below w.heap.size w w' := by
  obtain ⟨i0, hi0, hz0, hz1, hz2⟩ := info_parts' info_u64
  obtain ⟨A, c, rfl, hnc, hx⟩ := h
  obtain ⟨n, hnn⟩ : ∃ n, n = xs.length := ⟨_, rfl⟩
  rw [← hnn] at hx hnc hn ⊢
  have HX := Lib.hid hx
  have NN := Lib.hid hnn
  clear hx hnn
  go_enter Tryz.func72, Tryz.ntmps72
  go_wp2_with (first
    | (at_make; go_must (refine wpList_make_own _ rfl _ _ _ rfl w.heap.size 58 i0 _ 1 Tryz.underlying22 hi0 hz0 hz1 .i64 .i64 _ (n + 12) rfl rfl (by omega) (by rw [hz2]; omega) (by simp only [maxLen]; omega) (Nat.le_refl _) ?_); intro w1 hown1 hg1; have HO1 := Lib.hid hown1; have HG1 := Lib.hid (below_of_grown hg1 (fun g hg => by cases hg)); have hsz1 := hg1.size; clear hown1 hg1)
    | (at_builtin; go_must (refine wpList_append_rd _ rfl _ _ _ rfl w.heap.size 58 i0 _ 1 8 Tryz.underlying22 hi0 hz0 hz1 hz2 rfl (by omega) _ 0 [] rfl HO1.out (fun b => b < w.heap.size) A n c (xs.flatMap Lc) rfl (HX.out.keep (Keeps.below HG1.out (fun b h => h))).rd (lc_one xs) (by simp only [maxLen]; omega) (by omega) (by omega) ?_); intro v2 w2 hown2 hg2 hat2))
  have hown3 : w2.ownsRow w.heap.size 58 1 v2 (n + 0) ((xs ++ marksL.take 0).flatMap Lc) := by simpa using hown2
  have HO3 := Lib.hid hown3
  have HB3 := Lib.hid (HG1.out.trans (Below.grown (Below.refl w.heap.size _) hg2 (by omega) (fun g hg => (HO1.out.lt g hg).1)))
  clear hown2 hown3 hg2 hat2
  have I1 := Lib.hid mark_any
  go_loopw [3, 4] (fun v i wr => ∃ k : Nat, k ≤ 12 ∧ i = .int .i64 k ∧ wr.ownsRow w.heap.size 58 1 v (n + k) ((xs ++ marksL.take k).flatMap Lc) ∧ Below w.heap.size w wr) (fun _ i _ => 12 - (intOf i).toNat)
  case atStart => exact ⟨0, by omega, rfl, HO3.out, HB3.out⟩
  case round =>
    obtain ⟨k, hk, rfl, hown, hb⟩ := hrel
    have HO := Lib.hid hown
    have HB := Lib.hid hb
    clear hown hb
    by_cases hlt : k < 12
    · obtain ⟨A2, c2, rfl, hc2, _⟩ := own_slice HO.out
      have ew : IntKind.u64.wrap (8000024 + (k : Int)) = ((mkL k : Nat) : Int) := by unfold mkL; rw [IntKind.wrap_u64]; omega
      go_wp2_with (first
        | (go_at_call 128; refine (I1.out _ _ (by omega) (by omega)).mono ?_; rintro e w4 ⟨rfl, rfl⟩)
        | (at_builtin; go_must (refine wpList_append_rd _ rfl _ _ _ rfl w.heap.size 58 i0 _ 1 8 Tryz.underlying22 hi0 hz0 hz1 hz2 rfl (by omega) _ (n + k) _ rfl (HO.out.alloc _) (fun _ => True) (some ⟨wr.heap.size, 0, none⟩) 1 1 (Lc (mkL k)) rfl (rd_blk (blk_new ..) rfl trivial) (by simpa using lc_one [mkL k]) (by simp only [maxLen]; omega) (by omega) (by have := HB.out.size; simp; omega) ?_); intro v5 w5 hown5 hg5 hat5))
      have hown6 : w5.ownsRow w.heap.size 58 1 v5 (n + (k + 1)) ((xs ++ marksL.take (k + 1)).flatMap Lc) := by
        have h := hown5
        have e : Lc (mkL k) = [mkL k].flatMap Lc := rfl
        rw [e, ← List.flatMap_append, List.append_assoc, marksL_take k hlt] at h
        exact h
      have HO6 := Lib.hid hown6
      have HB6 := Lib.hid (HB.out.trans (((below1 ..).mono HB.out.size).trans (Below.grown (Below.refl w.heap.size _) hg5 (by have := HB.out.size; simp; omega) (fun g hg => (HO.out.lt g hg).1))))
      clear hown5 hown6 hg5 hat5
      go_roundw
      case rel => exact ⟨k + 1, by omega, by go_num, HO6.out, HB6.out⟩
      case measure => simp [intOf]; omega
    · obtain rfl : k = 12 := by omega
      rw [List.take_of_length_le (by rw [marksL_len]; exact Nat.le_refl _)] at HO
      rcases HO.out.2 with ⟨_, h⟩ | ⟨g, cap, cur, rfl, _, _, hnc2, _⟩
      · exfalso
        omega
      · go_wp2_with fail
        go_ret
        exact ⟨.slice (some ⟨g, 0, none⟩) n cap, rfl, ⟨g, cap, by rw [NN.out], by rw [← NN.out]; exact hnc2, by rw [← NN.out]; exact (RdE.of_own Lc.clen (by omega) HO.out).imp (fun b h => h.2.1)⟩, HB.out⟩

set_option maxRecDepth 100000 in
set_option maxHeartbeats 4000000 in
theorem keptL_any (v1 v2 : Value) (xs : List Nat) (w : World) (h1 : LentL w v1 xs) (h2 : LAt w v2 xs) (hn : xs.length ≤ 1000000000000) :
    Calls Tryz.prog 83 #[v1, v2] w fun e w' => e = .returned (.bool true) ∧ Below w.heap.size w w' := by
  obtain ⟨g, d, rfl, hd, hy⟩ := h1
  obtain ⟨A, c, rfl, hnc, hx⟩ := h2
  obtain ⟨n, hnn⟩ : ∃ n, n = xs.length := ⟨_, rfl⟩
  rw [← hnn] at hx hy hd hnc hn ⊢
  have HX := Lib.hid hx
  have HY := Lib.hid hy
  have I2 := Lib.hid mark_any
  clear hx hy hnn
  go_enter Tryz.func83, Tryz.ntmps83
  go_wp2_with fail
  go_loopw [6] (fun i wr => ∃ k : Nat, k ≤ n + 12 ∧ i = .int .i64 k ∧ Below w.heap.size w wr) (fun i _ => n + 12 - (intOf i).toNat)
  case atStart => exact ⟨0, Nat.zero_le _, rfl, Below.refl _ _⟩
  case round =>
    obtain ⟨k, hk, rfl, hb⟩ := hrel
    by_cases hlt : k < n + 12
    · obtain ⟨y, ey⟩ := get_some HY.out.num hlt
      obtain ⟨b2, o2, e2, hb2, hdd⟩ := HY.out.elem Lc.clen ey (by omega)
      cases e2
      have q1 : wr.cell? ⟨g, k, none⟩ = some (.int .u64 (y : Int)) := by have h := bat hb (hdd 0 _ rfl); simpa using h
      have l0 := cell_regrown q1
      by_cases hkn : k < n
      · have hkn2 : ¬ n ≤ k := by omega
        obtain ⟨x, ex⟩ := get_some HX.out.num hkn
        have exy : x = y := by
          rw [List.getElem?_append_left (by rw [HX.out.num]; exact hkn), ex] at ey
          injection ey
        subst exy
        obtain ⟨b1, o1, rfl, hb1, hc⟩ := HX.out.elem Lc.clen ex (by omega)
        have q2 : wr.cell? ⟨b1, o1 + k, none⟩ = some (.int .u64 (x : Int)) := by have h := bat hb (hc 0 _ rfl); simpa using h
        have k0 := cell_regrown q2
        have exx : ((x : Int) == (x : Int)) = true := by simp
        have HB := Lib.hid hb
        clear hb hc hdd ex ey
        go_wp2_with fail
        refine wp_region_quiet_below (by kernel_rfl) (by kernel_rfl) ?_
        repeat (first | go_big_quiet_step (fail) | quiet_step (fail))
        refine wpQuiet_nil ?_
        intro wq hwq
        have hbq := below_class hwq
        clear hwq
        have HQ := Lib.hid hbq
        clear hbq
        go_wp2_with fail
        go_roundw
        case rel => exact ⟨k + 1, by omega, by go_num, HB.out.trans (HQ.out.mono HB.out.size)⟩
        case measure => simp [intOf]; omega
      · have hkn2 : n ≤ k := by omega
        have ey2 := marksL_get (by rw [List.getElem?_append_right (by rw [HX.out.num]; exact hkn2), HX.out.num] at ey; exact ey)
        have ew : IntKind.u64.wrap (8000024 + ((k : Int) - n)) = (y : Int) := by rw [ey2.1]; unfold mkL; rw [IntKind.wrap_u64]; omega
        have exx : ((y : Int) == (y : Int)) = true := by simp
        have cM : ∀ d os, Calls Tryz.prog 128 #[.int .i64 1, .int .i64 ((k : Int) - n)] (grow (redrawn wr d) os) fun e w'' => e = .returned (.int .i64 (8000024 + ((k : Int) - n))) ∧ ∃ p : Regrown, w'' = grow (redrawn wr p.d) p.os := fun d os => Calls.regrown_of ((I2.out ((k : Int) - n) _ (by omega) (by omega)).mono (by rintro e w'' ⟨h, rfl⟩; exact ⟨h, Below.refl _ _⟩))
        have HB := Lib.hid hb
        clear hb hdd ey ey2
        go_wp2_with fail
        refine wp_region_quiet_below (by kernel_rfl) (by kernel_rfl) ?_
        repeat (first | go_big_quiet_step (exact cM _ _) | quiet_step (exact cM _ _))
        refine wpQuiet_nil ?_
        intro wq hwq
        have hbq := below_class hwq
        clear hwq
        have HQ := Lib.hid hbq
        clear hbq
        go_wp2_with fail
        go_roundw
        case rel => exact ⟨k + 1, by omega, by go_num, HB.out.trans (HQ.out.mono HB.out.size)⟩
        case measure => simp [intOf]; omega
    · have HB := Lib.hid hb
      clear hb
      go_wp2_with fail
      go_ret
      exact ⟨rfl, HB.out⟩

end Go.Proofs.YtjokpfgncmdomaaGreatDoor
