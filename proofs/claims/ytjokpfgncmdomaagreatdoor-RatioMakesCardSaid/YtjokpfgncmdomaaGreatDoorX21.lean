import Derived.Test.YtjokpfgncmdomaaGreatDoorX20
set_option linter.unusedSimpArgs false
set_option linter.unusedVariables false
/- girderref07.Told: the walk (printed by gen_h14.py) -/
namespace Go.Proofs.YtjokpfgncmdomaaGreatDoor
open Go.RowKit Go.Sort

/-- append, as one operation of a region that draws -/
theorem operWp_append_rd {P : Program} (w : World) {o : Oper} {a : Act} {K : Act → World → Prop} {Q : Exit → Act → World → Prop} (s x : Operand) (t : TypeId)
    (ho : o.op = .call { callee := .builtin .append, args := #[s, x], argTypes := #[t, t] })
    (base : Nat) (e : TypeId) (i : TypeInfo) (z : Value) (size bytes : Nat) (ht : P.underlying t = some (.slice e)) (hi : P.info? e = some i) (hz : i.zero = some z)
    (hsize : i.size = size) (hby : i.bytes = bytes) (hzs : z.cells.size = size) (hsz : 0 < size)
    (v : Value) (n : Nat) (xs : List Value) (hs : a.eval s = v) (hown : w.ownsRow base e size v n xs)
    (S : Nat → Prop) (A : Option Addr) (m c : Nat) (news : List Value) (hx : a.eval x = .slice A m c) (hr : Rd w S size A m news) (h1 : ∀ u ∈ news, u.oneCell' = true)
    (h63 : n + m ≤ maxLen) (hbytes : (n + m) * bytes ≤ 140737488355328) (hbase : base ≤ w.heap.size)
    (h : ∀ v' w', w'.ownsRow base e size v' (n + m) (xs ++ news) → w.grownBy w' v.ownBlock → (v'.ownBlock = v.ownBlock ∨ v'.ownBlock = some w.heap.size) → K (a.put o.dst v') w') : Oper.wp P o a w K Q := by
  obtain ⟨v', w', hrun, h2, h3, h5⟩ := run_append_rd (P := P) w base t o.type e i z size bytes ht hi hz hsize hby hzs hsz v n xs hown S A m c news hr h1 h63 hbytes hbase (opt_cases A)
  unfold Oper.wp execOp
  simp only [ho, resolve, invoke, builtin, Sem.run_bind, Sem.run_pure, Result.andThen_ok, List.map_toArray, List.map_cons, List.map_nil, hs, hx, hrun]
  exact h v' w' h2 h3 h5
theorem leastR_lds (s : Bool) (N D : Nat) : LdR (leastR s N D) := by
  unfold leastR
  split
  · exact ⟨fun x hx => by simp at hx, fun x hx => by simp at hx; subst hx; decide⟩
  · exact ⟨lim_lds _, lim_lds _⟩
theorem leastR_len {s : Bool} {N D k : Nat} (hN : (lim N).length ≤ k) (hD : (lim D).length ≤ k) (h1 : 1 ≤ k) : (leastR s N D).num.length ≤ k ∧ (leastR s N D).den.length ≤ k := by
  unfold leastR
  split
  · exact ⟨Nat.zero_le _, h1⟩
  · exact ⟨Nat.le_trans (lim_len_mono (Nat.div_le_self _ _)) hN, Nat.le_trans (lim_len_mono (Nat.div_le_self _ _)) hD⟩
theorem lat_own {w : World} {base n : Nat} {v : Value} {xs : List Nat} (h : w.ownsRow base 58 1 v (0 + n) ([] ++ xs.flatMap Lc)) : LAt w v xs := by
  rw [Nat.zero_add, List.nil_append] at h
  exact own_lat h
/-- may it be told -/
def toldB (r : RV) : Bool := decide (r.num.length ≤ 256) && decide (r.den.length ≤ 256)
def toldRV (r : RV) : RV := if toldB r = true then r else noR
def toldEn (r : RV) : Int := if toldB r = true then 0 else 3

set_option maxRecDepth 100000 in
set_option maxHeartbeats 16000000 in
theorem told_any (v : Value) (s : Bool) (N D : Nat) (w : World) (h : FAt w v ⟨s, lim N, lim D⟩) (hD : D ≠ 0) (n1 : (lim N).length ≤ 10000000000) (n2 : (lim D).length ≤ 10000000000) :
    Calls Tryz.prog 62 #[v] w fun e w' => ∃ v', e = .returned (.tuple #[v', .int .i64 (toldEn (leastR s N D))]) ∧ FAt w' v' (toldRV (leastR s N D)) ∧ Below w.heap.size w w' := by
  obtain ⟨i0, hi0, hz0, hz1, hz2⟩ := info_parts' info_u64
  obtain ⟨A, n, c, A', n', c', rfl, h1, h2⟩ := h.shape
  have HF := Lib.hid h
  have HN1 := Lib.hid n1
  have HN2 := Lib.hid n2
  have HD0 := Lib.hid hD
  obtain ⟨w0, hw0⟩ : ∃ w0, w0 = (w.alloc (.cells #[.bool s, .slice A n c, .slice A' n' c'] 77)).alloc (.cells #[.bool false, .slice none 0 0, .slice none 0 0] 24) := ⟨_, rfl⟩
  have hb0 : Below w.heap.size w w0 := by rw [hw0]; exact below2 ..
  have g1 : w0.heap[w.heap.size]? = some (.cells #[.bool s, .slice A n c, .slice A' n' c'] 77 (0, 0)) := by
    rw [hw0]; exact ((below1 (w.alloc _) _).block w.heap.size (by simp)).trans (blk_new w _ _)
  have g2 : w0.heap[w.heap.size + 1]? = some (.cells #[.bool false, .slice none 0 0, .slice none 0 0] 24 (0, 0)) := by
    rw [hw0]; exact blk2 w _ _ _
  have z0 : w0.heap.size = w.heap.size + 2 := by rw [hw0]; simp
  have G2 := Lib.hid g2
  have HB0 := Lib.hid hb0
  have HW0 := Lib.hid hw0
  have k1 := (blk_cells g1).1
  have k10 := k1 0
  have k11 := k1 1
  have k12 := k1 2
  simp only [List.getElem?_toArray, List.getElem?_cons_zero, List.getElem?_cons_succ] at k10 k11 k12
  clear hw0 hb0 g1 g2 h1 h2 h hD n1 n2 k1
  go_enter Tryz.func62, Tryz.ntmps62
  go_wp2_with fail
  rw [← HW0.out]
  refine (least_any _ s N D w0 (HF.out.below HB0.out) HD0.out HN1.out HN2.out).mono ?_
  rintro e w1 ⟨v1, rfl, hv1, hb1⟩
  have hld := leastR_lds s N D
  obtain ⟨hq1, hq2⟩ := leastR_len (s := s) HN1.out HN2.out (by decide)
  obtain ⟨r, hr⟩ : ∃ r, r = leastR s N D := ⟨_, rfl⟩
  rw [← hr] at hv1 hld hq1 hq2
  have HR := Lib.hid hr
  have HLD := Lib.hid hld
  have HQ1 := Lib.hid hq1
  have HQ2 := Lib.hid hq2
  obtain ⟨t, xs, ys⟩ := r
  simp only at hv1 hld hq1 hq2
  obtain ⟨B, m, d, B', m', d', rfl, l1, l2⟩ := hv1.shape
  simp only at l1 l2
  obtain ⟨hm, hmd, hrx⟩ := lat_num l1
  obtain ⟨hm', hmd', hry⟩ := lat_num l2
  have HV1 := Lib.hid hv1
  have HM := Lib.hid hm
  have HM' := Lib.hid hm'
  have HRX := Lib.hid hrx
  have HRY := Lib.hid hry
  have HB1 := Lib.hid hb1
  have hz1' := hb1.size
  have mb : m ≤ 10000000000 := by rw [hm]; exact hq1
  have mb' : m' ≤ 10000000000 := by rw [hm']; exact hq2
  obtain ⟨w2, hw2⟩ : ∃ w2, w2 = w1.alloc (.cells #[.bool t, .slice B m d, .slice B' m' d'] 77) := ⟨_, rfl⟩
  have hb2 : Below w1.heap.size w1 w2 := by rw [hw2]; exact below1 ..
  have g3 : w2.heap[w1.heap.size]? = some (.cells #[.bool t, .slice B m d, .slice B' m' d'] 77 (0, 0)) := by rw [hw2]; exact blk_new ..
  have k3 := (blk_cells g3).1
  have k30 := k3 0
  have k31 := k3 1
  have k32 := k3 2
  simp only [List.getElem?_toArray, List.getElem?_cons_zero, List.getElem?_cons_succ] at k30 k31 k32
  have HB2 := Lib.hid (HB1.out.trans (hb2.mono HB1.out.size))
  have HBw := Lib.hid (HB0.out.trans ((HB1.out.trans (hb2.mono HB1.out.size)).mono HB0.out.size))
  have hz2' := hb2.size
  have hz2s : w2.heap.size = w1.heap.size + 1 := by rw [hw2]; simp
  have HB12 := Lib.hid hb2
  have HK := Lib.hid (And.intro k30 (And.intro k31 k32))
  have HW2 := Lib.hid hw2
  rw [hw2] at k30 k31 k32
  clear hr hld hq1 hq2 hv1 l1 l2 hm hm' hrx hry hb1 hw2 hb2 g3 k3 k10 k11 k12
  by_cases t1 : 256 < m
  · have d1 : decide (256 < (m : Int)) = true := by simp; omega
    have HT : Hid (toldB (leastR s N D) = false) := Lib.hid (by rw [← HR.out]; unfold toldB; rw [← HM.out, ← HM'.out]; simp; omega)
    have cc := blk_cells ((HB2.out.block (w.heap.size + 1) (by omega)).trans G2.out)
    have b20 := cc.1 0
    have b21 := cc.1 1
    have b22 := cc.1 2
    have f20 := cc.2 0
    have f21 := cc.2 1
    have f22 := cc.2 2
    simp only [List.getElem?_toArray, List.getElem?_cons_zero, List.getElem?_cons_succ] at b20 b21 b22
    clear cc
    rw [HW2.out] at b20 b21 b22
    obtain ⟨w6, hw6⟩ : ∃ w6, w6 = ((w2.setCell ⟨w.heap.size + 1, 0, none⟩ (.bool false)).setCell ⟨w.heap.size + 1, 1, none⟩ (.slice none 0 0)).setCell ⟨w.heap.size + 1, 2, none⟩ (.slice none 0 0) := ⟨_, rfl⟩
    obtain ⟨hu6, q0, q1, q2⟩ := rat_set (by rw [← HW2.out] at b20; exact b20) (by rw [← HW2.out] at b21; exact b21) (by rw [← HW2.out] at b22; exact b22) _ _ _ _ _ _ _ _ hw6
    have HW6 := Lib.hid hw6
    have HU6 := Lib.hid hu6
    have Q0 := Lib.hid q0
    have Q1 := Lib.hid q1
    have Q2 := Lib.hid q2
    rw [HW2.out] at f20 f21 f22
    clear hw6 hu6 q0 q1 q2
    go_wp2_with fail
    rw [← HW2.out, ← HW6.out]
    have hu6 := HU6.out
    have q0 := Q0.out
    have q1 := Q1.out
    have q2 := Q2.out
    (try simp only [Exit.inBlock, Exit.then])
    refine bodyPost_ret (v := .tuple #[.agg #[.bool false, .slice none 0 0, .slice none 0 0], .int .i64 3]) (by simp [results, Tryz.results62, go_sem, q0, q1, q2]; done) rfl ?_
    have hz6 := HB2.out.size
    refine ⟨.agg #[.bool false, .slice none 0 0, .slice none 0 0], ?_, ?_, HBw.out.trans (hu6.below (by omega) (by omega))⟩
    · unfold toldEn; rw [HT.out]; rfl
    · unfold toldRV; rw [HT.out]
      exact ⟨_, _, rfl, LAt.nil .., LAt.nil ..⟩
  · have d1 : decide (256 < (m : Int)) = false := by simp; omega
    by_cases t2 : 256 < m'
    · have d2 : decide (256 < (m' : Int)) = true := by simp; omega
      have HT : Hid (toldB (leastR s N D) = false) := Lib.hid (by rw [← HR.out]; unfold toldB; rw [← HM.out, ← HM'.out]; simp; omega)
      have cc := blk_cells ((HB2.out.block (w.heap.size + 1) (by omega)).trans G2.out)
      have b20 := cc.1 0
      have b21 := cc.1 1
      have b22 := cc.1 2
      have f20 := cc.2 0
      have f21 := cc.2 1
      have f22 := cc.2 2
      simp only [List.getElem?_toArray, List.getElem?_cons_zero, List.getElem?_cons_succ] at b20 b21 b22
      clear cc
      rw [HW2.out] at b20 b21 b22
      obtain ⟨w6, hw6⟩ : ∃ w6, w6 = ((w2.setCell ⟨w.heap.size + 1, 0, none⟩ (.bool false)).setCell ⟨w.heap.size + 1, 1, none⟩ (.slice none 0 0)).setCell ⟨w.heap.size + 1, 2, none⟩ (.slice none 0 0) := ⟨_, rfl⟩
      obtain ⟨hu6, q0, q1, q2⟩ := rat_set (by rw [← HW2.out] at b20; exact b20) (by rw [← HW2.out] at b21; exact b21) (by rw [← HW2.out] at b22; exact b22) _ _ _ _ _ _ _ _ hw6
      have HW6 := Lib.hid hw6
      have HU6 := Lib.hid hu6
      have Q0 := Lib.hid q0
      have Q1 := Lib.hid q1
      have Q2 := Lib.hid q2
      rw [HW2.out] at f20 f21 f22
      clear hw6 hu6 q0 q1 q2
      go_wp2_with fail
      rw [← HW2.out, ← HW6.out]
      have hu6 := HU6.out
      have q0 := Q0.out
      have q1 := Q1.out
      have q2 := Q2.out
      (try simp only [Exit.inBlock, Exit.then])
      refine bodyPost_ret (v := .tuple #[.agg #[.bool false, .slice none 0 0, .slice none 0 0], .int .i64 3]) (by simp [results, Tryz.results62, go_sem, q0, q1, q2]; done) rfl ?_
      have hz6 := HB2.out.size
      refine ⟨.agg #[.bool false, .slice none 0 0, .slice none 0 0], ?_, ?_, HBw.out.trans (hu6.below (by omega) (by omega))⟩
      · unfold toldEn; rw [HT.out]; rfl
      · unfold toldRV; rw [HT.out]
        exact ⟨_, _, rfl, LAt.nil .., LAt.nil ..⟩
    · have d2 : decide (256 < (m' : Int)) = false := by simp; omega
      have HT : Hid (toldB (leastR s N D) = true) := Lib.hid (by rw [← HR.out]; unfold toldB; rw [← HM.out, ← HM'.out]; simp; omega)
      go_wp2_with fail
      rw [← HW2.out]
      obtain ⟨k30, k31, k32⟩ := HK.out
      have hlt12 : w1.heap.size < w2.heap.size := by omega
      refine wp_region_held_drew (S := (fun w' => w'.cell? ⟨w1.heap.size, 0, none⟩ = some (.bool t) ∧ w'.cell? ⟨w1.heap.size, 1, none⟩ = some (.slice B m d) ∧ w'.cell? ⟨w1.heap.size, 2, none⟩ = some (.slice B' m' d'))) (by kernel_rfl) ?_ (fun hHeld => ?_)
      · first | exact True.intro | ((try dsimp only); go_keep)
      refine tkH (i := 0) (v := ?_) rfl (by kernel_rfl) (Or.inl ⟨by kernel_rfl, ?_⟩) (by assumption) ?_
      rotate_left 1
      · (intro w hSw; (try dsimp only at hSw); go_simp; try with_reducible rfl)
      try simp only [lyA, lyB, lyC, Act.put, lyD, lyE, lyF]
      refine tkH (i := 1) (v := ?_) rfl (by kernel_rfl) (Or.inl ⟨by kernel_rfl, ?_⟩) (by assumption) ?_
      rotate_left 1
      · (intro w hSw; (try dsimp only at hSw); go_simp; try with_reducible rfl)
      try simp only [lyA, lyB, lyC, Act.put, lyD, lyE, lyF]
      refine tkH (i := 3) (v := ?_) rfl (by kernel_rfl) (Or.inl ⟨by kernel_rfl, ?_⟩) (by assumption) ?_
      rotate_left 1
      · (intro w hSw; (try dsimp only at hSw); go_simp; try with_reducible rfl)
      try simp only [lyA, lyB, lyC, Act.put, lyD, lyE, lyF]
      refine tkH (i := 4) (v := ?_) rfl (by kernel_rfl) (Or.inl ⟨by kernel_rfl, ?_⟩) (by assumption) ?_
      rotate_left 1
      · (intro w hSw; (try dsimp only at hSw); go_simp; try with_reducible rfl)
      try simp only [lyA, lyB, lyC, Act.put, lyD, lyE, lyF]
      refine tkH (i := 7) (v := ?_) rfl (by kernel_rfl) (Or.inl ⟨by kernel_rfl, ?_⟩) (by assumption) ?_
      rotate_left 1
      · (intro w hSw; (try dsimp only at hSw); go_simp; try with_reducible rfl)
      try simp only [lyA, lyB, lyC, Act.put, lyD, lyE, lyF]
      refine tkH (i := 8) (v := ?_) rfl (by kernel_rfl) (Or.inl ⟨by kernel_rfl, ?_⟩) (by assumption) ?_
      rotate_left 1
      · (intro w hSw; (try dsimp only at hSw); go_simp; try with_reducible rfl)
      try simp only [lyA, lyB, lyC, Act.put, lyD, lyE, lyF]
      clear k30 k31 k32
      obtain ⟨u, hu⟩ : ∃ ux : World, ux = w2.drew := ⟨_, rfl⟩
      have HBu : Hid (Below w2.heap.size w2 u) := Lib.hid (by rw [hu]; exact (Below.refl _ _).drew)
      rw [← hu] at hHeld ⊢
      clear hu hz2s
      refine wpAnyH_ready (rs := [2, 6]) (by kernel_rfl) (by simp) ?_
      refine AllReadyH.cons rfl (fun K hK => ?_) (AllReadyH.cons rfl (fun K hK => ?_) (AllReadyH.nil))
      · obtain ⟨u2, hu2⟩ : ∃ ux : World, ux = u.alloc (.cells #[] 58) := ⟨_, rfl⟩
        have hba := below1 u (.cells #[] 58)
        rw [← hu2] at hba
        have HBu2 := Lib.hid (HBu.out.trans (hba.mono HBu.out.size))
        have su2 : u.heap.size < u2.heap.size := by rw [hu2]; simp
        have HOu2 : Hid (u2.ownsRow u.heap.size 58 1 (.slice (some ⟨u.heap.size, 0, none⟩) 0 0) 0 []) := Lib.hid (by rw [hu2]; exact World.ownsRow_lit u #[] 0 (Nat.le_refl _) (by decide) rfl)
        go_simp
        rw [← hu2]
        refine hK.out _ _ ?_ (fun hHeld => ?_)
        · exact ⟨bat hba hHeld.1, bat hba hHeld.2.1, bat hba hHeld.2.2⟩
        clear hK K hba hu2
        try simp only [lyA, lyB, lyC, Act.put, lyD, lyE, lyF]
        refine wpAnyH_ready (rs := [5, 6]) (by kernel_rfl) (by simp) ?_
        refine AllReadyH.cons rfl (fun K hK => ?_) (AllReadyH.cons rfl (fun K hK => ?_) (AllReadyH.nil))
        · rw [if_pos (by kernel_rfl)]
          refine operWp_append_rd u2 _ _ _ rfl u.heap.size 58 i0 _ 1 8 Tryz.underlying22 hi0 hz0 hz1 hz2 rfl (by decide) (.slice (some ⟨u.heap.size, 0, none⟩) 0 0) 0 [] rfl HOu2.out _ B m d (xs.flatMap Lc) rfl ((HRX.out.keep (Keeps.below (HB12.out.trans (HBu2.out.mono HB12.out.size)) (fun b hb => hb))).rd) (lc_one _) (by simp only [maxLen]; omega) (by omega) (Nat.le_of_lt (HOu2.out.lt _ rfl).2) ?_
          intro vau25 u25 hown hgr hat
          have hba : Below w2.heap.size u2 u25 := Below.grown (Below.refl _ _) hgr HBu2.out.size (fun g hg => by injection hg with hg; rw [← hg]; exact HBu.out.size)
          have HBu25 := Lib.hid (HBu2.out.trans hba)
          have HAu25 := Lib.hid hown
          have HTu25 := Lib.hid hat
          refine hK.out _ _ ?_ (fun hHeld => ?_)
          · exact ⟨(hba.cell hlt12).trans hHeld.1, (hba.cell hlt12).trans hHeld.2.1, (hba.cell hlt12).trans hHeld.2.2⟩
          clear hK K hba hown hgr hat
          try simp only [lyA, lyB, lyC, Act.put, lyD, lyE, lyF]
          refine wpAnyH_ready (rs := [6]) (by kernel_rfl) (by simp) ?_
          refine AllReadyH.cons rfl (fun K hK => ?_) (AllReadyH.nil)
          · obtain ⟨u256, hu256⟩ : ∃ ux : World, ux = u25.alloc (.cells #[] 58) := ⟨_, rfl⟩
            have hba := below1 u25 (.cells #[] 58)
            rw [← hu256] at hba
            have HBu256 := Lib.hid (HBu25.out.trans (hba.mono HBu25.out.size))
            have su256 : u25.heap.size < u256.heap.size := by rw [hu256]; simp
            have HOu256 : Hid (u256.ownsRow u25.heap.size 58 1 (.slice (some ⟨u25.heap.size, 0, none⟩) 0 0) 0 []) := Lib.hid (by rw [hu256]; exact World.ownsRow_lit u25 #[] 0 (Nat.le_refl _) (by decide) rfl)
            have HAu25_u256 := Lib.hid (own_below HAu25.out hba)
            go_simp
            rw [← hu256]
            refine hK.out _ _ ?_ (fun hHeld => ?_)
            · exact ⟨bat hba hHeld.1, bat hba hHeld.2.1, bat hba hHeld.2.2⟩
            clear hK K hba hu256
            try simp only [lyA, lyB, lyC, Act.put, lyD, lyE, lyF]
            refine wpAnyH_ready (rs := [9]) (by kernel_rfl) (by simp) ?_
            refine AllReadyH.cons rfl (fun K hK => ?_) (AllReadyH.nil)
            · rw [if_pos (by kernel_rfl)]
              refine operWp_append_rd u256 _ _ _ rfl u25.heap.size 58 i0 _ 1 8 Tryz.underlying22 hi0 hz0 hz1 hz2 rfl (by decide) (.slice (some ⟨u25.heap.size, 0, none⟩) 0 0) 0 [] rfl HOu256.out _ B' m' d' (ys.flatMap Lc) rfl ((HRY.out.keep (Keeps.below (HB12.out.trans (HBu256.out.mono HB12.out.size)) (fun b hb => hb))).rd) (lc_one _) (by simp only [maxLen]; omega) (by omega) (Nat.le_of_lt (HOu256.out.lt _ rfl).2) ?_
              intro vbu2569 u2569 hown hgr hat
              have hba : Below w2.heap.size u256 u2569 := Below.grown (Below.refl _ _) hgr HBu256.out.size (fun g hg => by injection hg with hg; rw [← hg]; exact HBu25.out.size)
              have HBu2569 := Lib.hid (HBu256.out.trans hba)
              have HAu2569 := Lib.hid hown
              have HTu2569 := Lib.hid hat
              have HAu25_u256_u2569 := Lib.hid (HAu25_u256.out.kept hgr (.inr (by intro h; have h2 : u25.heap.size < u25.heap.size := (HAu25.out.lt _ h).2; omega)))
              refine hK.out _ _ ?_ (fun hHeld => ?_)
              · exact ⟨(hba.cell hlt12).trans hHeld.1, (hba.cell hlt12).trans hHeld.2.1, (hba.cell hlt12).trans hHeld.2.2⟩
              clear hK K hba hown hgr hat
              try simp only [lyA, lyB, lyC, Act.put, lyD, lyE, lyF]
              have LA := lat_own HAu25_u256_u2569.out
              have LB := lat_own HAu2569.out
              obtain ⟨A5, n5, c5, e5, -, -, -⟩ := LA.parts
              obtain ⟨A6, n6, c6, e6, -, -, -⟩ := LB.parts
              subst e5 e6
              have HLA := Lib.hid LA
              have HLB := Lib.hid LB
              have HBz := Lib.hid (HB2.out.trans (HBu2569.out.mono HB2.out.size))
              clear LA LB
              have cc := blk_cells ((HBz.out.block (w.heap.size + 1) (by omega)).trans G2.out)
              have b20 := cc.1 0
              have b21 := cc.1 1
              have b22 := cc.1 2
              have f20 := cc.2 0
              have f21 := cc.2 1
              have f22 := cc.2 2
              simp only [List.getElem?_toArray, List.getElem?_cons_zero, List.getElem?_cons_succ] at b20 b21 b22
              clear cc
              have hne1 : w.heap.size + 1 ≠ w1.heap.size := by omega
              obtain ⟨w6, hw6⟩ : ∃ w6, w6 = ((u2569.setCell ⟨w.heap.size + 1, 0, none⟩ (.bool t)).setCell ⟨w.heap.size + 1, 1, none⟩ (.slice A5 n5 c5)).setCell ⟨w.heap.size + 1, 2, none⟩ (.slice A6 n6 c6) := ⟨_, rfl⟩
              obtain ⟨hu6, q0, q1, q2⟩ := rat_set b20 b21 b22 _ _ _ _ _ _ _ _ hw6
              have HW6 := Lib.hid hw6
              have HU6 := Lib.hid hu6
              have Q0 := Lib.hid q0
              have Q1 := Lib.hid q1
              have Q2 := Lib.hid q2
              clear hw6 hu6 q0 q1 q2
              refine wpAnyH_ready (rs := [10]) (by kernel_rfl) (by simp) ?_
              refine AllReadyH.cons rfl (fun K hK => ?_) AllReadyH.nil
              go_simp
              refine hK.out _ _ ?_ (fun hHeld => ?_)
              · first | exact True.intro | ((try dsimp only); go_keep)
              clear hK K
              try simp only [lyA, lyB, lyC, Act.put, lyD, lyE, lyF]
              refine wpAnyH_ready (rs := [11]) (by kernel_rfl) (by simp) ?_
              refine AllReadyH.cons rfl (fun K hK => ?_) AllReadyH.nil
              go_simp
              rw [← HW6.out]; have hHeld := And.intro (HU6.out.cellOf hHeld.1 (by omega)) (And.intro (HU6.out.cellOf hHeld.2.1 (by omega)) (HU6.out.cellOf hHeld.2.2 (by omega)))
              try go_wp2_with fail
              refine hK.out _ _ ?_ (fun hHeld => ?_)
              · first | exact True.intro | ((try dsimp only); go_keep)
              clear hK K
              try simp only [lyA, lyB, lyC, Act.put, lyD, lyE, lyF]
              refine wpAnyH_ready (rs := [12]) (by kernel_rfl) (by simp) ?_
              refine AllReadyH.cons rfl (fun K hK => ?_) AllReadyH.nil
              go_simp
              refine hK.out _ _ ?_ (fun hHeld => ?_)
              · first | exact True.intro | ((try dsimp only); go_keep)
              clear hK K
              try simp only [lyA, lyB, lyC, Act.put, lyD, lyE, lyF]
              refine wpAnyH_done (by kernel_rfl) ?_ _
              go_wp2_with fail
              have hu6 := HU6.out
              have q0 := Q0.out
              have q1 := Q1.out
              have q2 := Q2.out
              (try simp only [Exit.inBlock, Exit.then])
              refine bodyPost_ret (v := .tuple #[.agg #[.bool t, .slice A5 n5 c5, .slice A6 n6 c6], .int .i64 0]) (by simp [results, Tryz.results62, go_sem, q0, q1, q2]; done) rfl ?_
              have hz6 := HBz.out.size
              refine ⟨.agg #[.bool t, .slice A5 n5 c5, .slice A6 n6 c6], ?_, ?_, (HB0.out.trans (HBz.out.mono HB0.out.size)).trans (hu6.below (by omega) (by omega))⟩
              · unfold toldEn; rw [HT.out]; rfl
              · unfold toldRV; rw [HT.out, if_pos rfl, ← HR.out]
                exact FAt.upb ⟨_, _, rfl, HLA.out, HLB.out⟩ hu6
        · obtain ⟨u26, hu26⟩ : ∃ ux : World, ux = u2.alloc (.cells #[] 58) := ⟨_, rfl⟩
          have hba := below1 u2 (.cells #[] 58)
          rw [← hu26] at hba
          have HBu26 := Lib.hid (HBu2.out.trans (hba.mono HBu2.out.size))
          have su26 : u2.heap.size < u26.heap.size := by rw [hu26]; simp
          have HOu26 : Hid (u26.ownsRow u2.heap.size 58 1 (.slice (some ⟨u2.heap.size, 0, none⟩) 0 0) 0 []) := Lib.hid (by rw [hu26]; exact World.ownsRow_lit u2 #[] 0 (Nat.le_refl _) (by decide) rfl)
          have HOu2_u26 := Lib.hid (own_below HOu2.out hba)
          go_simp
          rw [← hu26]
          refine hK.out _ _ ?_ (fun hHeld => ?_)
          · exact ⟨bat hba hHeld.1, bat hba hHeld.2.1, bat hba hHeld.2.2⟩
          clear hK K hba hu26
          try simp only [lyA, lyB, lyC, Act.put, lyD, lyE, lyF]
          refine wpAnyH_ready (rs := [5]) (by kernel_rfl) (by simp) ?_
          refine AllReadyH.cons rfl (fun K hK => ?_) (AllReadyH.nil)
          · rw [if_pos (by kernel_rfl)]
            refine operWp_append_rd u26 _ _ _ rfl u.heap.size 58 i0 _ 1 8 Tryz.underlying22 hi0 hz0 hz1 hz2 rfl (by decide) (.slice (some ⟨u.heap.size, 0, none⟩) 0 0) 0 [] rfl HOu2_u26.out _ B m d (xs.flatMap Lc) rfl ((HRX.out.keep (Keeps.below (HB12.out.trans (HBu26.out.mono HB12.out.size)) (fun b hb => hb))).rd) (lc_one _) (by simp only [maxLen]; omega) (by omega) (Nat.le_of_lt (HOu2_u26.out.lt _ rfl).2) ?_
            intro vau265 u265 hown hgr hat
            have hba : Below w2.heap.size u26 u265 := Below.grown (Below.refl _ _) hgr HBu26.out.size (fun g hg => by injection hg with hg; rw [← hg]; exact HBu.out.size)
            have HBu265 := Lib.hid (HBu26.out.trans hba)
            have HAu265 := Lib.hid hown
            have HTu265 := Lib.hid hat
            have HOu26_u265 := Lib.hid (HOu26.out.kept hgr (.inr (by simp only [Value.ownBlock]; intro h; injection h with h; omega)))
            refine hK.out _ _ ?_ (fun hHeld => ?_)
            · exact ⟨(hba.cell hlt12).trans hHeld.1, (hba.cell hlt12).trans hHeld.2.1, (hba.cell hlt12).trans hHeld.2.2⟩
            clear hK K hba hown hgr hat
            try simp only [lyA, lyB, lyC, Act.put, lyD, lyE, lyF]
            refine wpAnyH_ready (rs := [9]) (by kernel_rfl) (by simp) ?_
            refine AllReadyH.cons rfl (fun K hK => ?_) (AllReadyH.nil)
            · rw [if_pos (by kernel_rfl)]
              refine operWp_append_rd u265 _ _ _ rfl u2.heap.size 58 i0 _ 1 8 Tryz.underlying22 hi0 hz0 hz1 hz2 rfl (by decide) (.slice (some ⟨u2.heap.size, 0, none⟩) 0 0) 0 [] rfl HOu26_u265.out _ B' m' d' (ys.flatMap Lc) rfl ((HRY.out.keep (Keeps.below (HB12.out.trans (HBu265.out.mono HB12.out.size)) (fun b hb => hb))).rd) (lc_one _) (by simp only [maxLen]; omega) (by omega) (Nat.le_of_lt (HOu26_u265.out.lt _ rfl).2) ?_
              intro vbu2659 u2659 hown hgr hat
              have hba : Below w2.heap.size u265 u2659 := Below.grown (Below.refl _ _) hgr HBu265.out.size (fun g hg => by injection hg with hg; rw [← hg]; exact HBu2.out.size)
              have HBu2659 := Lib.hid (HBu265.out.trans hba)
              have HAu2659 := Lib.hid hown
              have HTu2659 := Lib.hid hat
              have HAu265_u2659 := Lib.hid (HAu265.out.kept hgr (.inr (by intro h; rcases HTu265.out with h1 | h1 <;> (rw [h1] at h; simp only [Value.ownBlock] at h; injection h with h; omega))))
              refine hK.out _ _ ?_ (fun hHeld => ?_)
              · exact ⟨(hba.cell hlt12).trans hHeld.1, (hba.cell hlt12).trans hHeld.2.1, (hba.cell hlt12).trans hHeld.2.2⟩
              clear hK K hba hown hgr hat
              try simp only [lyA, lyB, lyC, Act.put, lyD, lyE, lyF]
              have LA := lat_own HAu265_u2659.out
              have LB := lat_own HAu2659.out
              obtain ⟨A5, n5, c5, e5, -, -, -⟩ := LA.parts
              obtain ⟨A6, n6, c6, e6, -, -, -⟩ := LB.parts
              subst e5 e6
              have HLA := Lib.hid LA
              have HLB := Lib.hid LB
              have HBz := Lib.hid (HB2.out.trans (HBu2659.out.mono HB2.out.size))
              clear LA LB
              have cc := blk_cells ((HBz.out.block (w.heap.size + 1) (by omega)).trans G2.out)
              have b20 := cc.1 0
              have b21 := cc.1 1
              have b22 := cc.1 2
              have f20 := cc.2 0
              have f21 := cc.2 1
              have f22 := cc.2 2
              simp only [List.getElem?_toArray, List.getElem?_cons_zero, List.getElem?_cons_succ] at b20 b21 b22
              clear cc
              have hne1 : w.heap.size + 1 ≠ w1.heap.size := by omega
              obtain ⟨w6, hw6⟩ : ∃ w6, w6 = ((u2659.setCell ⟨w.heap.size + 1, 0, none⟩ (.bool t)).setCell ⟨w.heap.size + 1, 1, none⟩ (.slice A5 n5 c5)).setCell ⟨w.heap.size + 1, 2, none⟩ (.slice A6 n6 c6) := ⟨_, rfl⟩
              obtain ⟨hu6, q0, q1, q2⟩ := rat_set b20 b21 b22 _ _ _ _ _ _ _ _ hw6
              have HW6 := Lib.hid hw6
              have HU6 := Lib.hid hu6
              have Q0 := Lib.hid q0
              have Q1 := Lib.hid q1
              have Q2 := Lib.hid q2
              clear hw6 hu6 q0 q1 q2
              refine wpAnyH_ready (rs := [10]) (by kernel_rfl) (by simp) ?_
              refine AllReadyH.cons rfl (fun K hK => ?_) AllReadyH.nil
              go_simp
              refine hK.out _ _ ?_ (fun hHeld => ?_)
              · first | exact True.intro | ((try dsimp only); go_keep)
              clear hK K
              try simp only [lyA, lyB, lyC, Act.put, lyD, lyE, lyF]
              refine wpAnyH_ready (rs := [11]) (by kernel_rfl) (by simp) ?_
              refine AllReadyH.cons rfl (fun K hK => ?_) AllReadyH.nil
              go_simp
              rw [← HW6.out]; have hHeld := And.intro (HU6.out.cellOf hHeld.1 (by omega)) (And.intro (HU6.out.cellOf hHeld.2.1 (by omega)) (HU6.out.cellOf hHeld.2.2 (by omega)))
              try go_wp2_with fail
              refine hK.out _ _ ?_ (fun hHeld => ?_)
              · first | exact True.intro | ((try dsimp only); go_keep)
              clear hK K
              try simp only [lyA, lyB, lyC, Act.put, lyD, lyE, lyF]
              refine wpAnyH_ready (rs := [12]) (by kernel_rfl) (by simp) ?_
              refine AllReadyH.cons rfl (fun K hK => ?_) AllReadyH.nil
              go_simp
              refine hK.out _ _ ?_ (fun hHeld => ?_)
              · first | exact True.intro | ((try dsimp only); go_keep)
              clear hK K
              try simp only [lyA, lyB, lyC, Act.put, lyD, lyE, lyF]
              refine wpAnyH_done (by kernel_rfl) ?_ _
              go_wp2_with fail
              have hu6 := HU6.out
              have q0 := Q0.out
              have q1 := Q1.out
              have q2 := Q2.out
              (try simp only [Exit.inBlock, Exit.then])
              refine bodyPost_ret (v := .tuple #[.agg #[.bool t, .slice A5 n5 c5, .slice A6 n6 c6], .int .i64 0]) (by simp [results, Tryz.results62, go_sem, q0, q1, q2]; done) rfl ?_
              have hz6 := HBz.out.size
              refine ⟨.agg #[.bool t, .slice A5 n5 c5, .slice A6 n6 c6], ?_, ?_, (HB0.out.trans (HBz.out.mono HB0.out.size)).trans (hu6.below (by omega) (by omega))⟩
              · unfold toldEn; rw [HT.out]; rfl
              · unfold toldRV; rw [HT.out, if_pos rfl, ← HR.out]
                exact FAt.upb ⟨_, _, rfl, HLA.out, HLB.out⟩ hu6
      · obtain ⟨u6, hu6⟩ : ∃ ux : World, ux = u.alloc (.cells #[] 58) := ⟨_, rfl⟩
        have hba := below1 u (.cells #[] 58)
        rw [← hu6] at hba
        have HBu6 := Lib.hid (HBu.out.trans (hba.mono HBu.out.size))
        have su6 : u.heap.size < u6.heap.size := by rw [hu6]; simp
        have HOu6 : Hid (u6.ownsRow u.heap.size 58 1 (.slice (some ⟨u.heap.size, 0, none⟩) 0 0) 0 []) := Lib.hid (by rw [hu6]; exact World.ownsRow_lit u #[] 0 (Nat.le_refl _) (by decide) rfl)
        go_simp
        rw [← hu6]
        refine hK.out _ _ ?_ (fun hHeld => ?_)
        · exact ⟨bat hba hHeld.1, bat hba hHeld.2.1, bat hba hHeld.2.2⟩
        clear hK K hba hu6
        try simp only [lyA, lyB, lyC, Act.put, lyD, lyE, lyF]
        refine wpAnyH_ready (rs := [2]) (by kernel_rfl) (by simp) ?_
        refine AllReadyH.cons rfl (fun K hK => ?_) (AllReadyH.nil)
        · obtain ⟨u62, hu62⟩ : ∃ ux : World, ux = u6.alloc (.cells #[] 58) := ⟨_, rfl⟩
          have hba := below1 u6 (.cells #[] 58)
          rw [← hu62] at hba
          have HBu62 := Lib.hid (HBu6.out.trans (hba.mono HBu6.out.size))
          have su62 : u6.heap.size < u62.heap.size := by rw [hu62]; simp
          have HOu62 : Hid (u62.ownsRow u6.heap.size 58 1 (.slice (some ⟨u6.heap.size, 0, none⟩) 0 0) 0 []) := Lib.hid (by rw [hu62]; exact World.ownsRow_lit u6 #[] 0 (Nat.le_refl _) (by decide) rfl)
          have HOu6_u62 := Lib.hid (own_below HOu6.out hba)
          go_simp
          rw [← hu62]
          refine hK.out _ _ ?_ (fun hHeld => ?_)
          · exact ⟨bat hba hHeld.1, bat hba hHeld.2.1, bat hba hHeld.2.2⟩
          clear hK K hba hu62
          try simp only [lyA, lyB, lyC, Act.put, lyD, lyE, lyF]
          refine wpAnyH_ready (rs := [5]) (by kernel_rfl) (by simp) ?_
          refine AllReadyH.cons rfl (fun K hK => ?_) (AllReadyH.nil)
          · rw [if_pos (by kernel_rfl)]
            refine operWp_append_rd u62 _ _ _ rfl u6.heap.size 58 i0 _ 1 8 Tryz.underlying22 hi0 hz0 hz1 hz2 rfl (by decide) (.slice (some ⟨u6.heap.size, 0, none⟩) 0 0) 0 [] rfl HOu62.out _ B m d (xs.flatMap Lc) rfl ((HRX.out.keep (Keeps.below (HB12.out.trans (HBu62.out.mono HB12.out.size)) (fun b hb => hb))).rd) (lc_one _) (by simp only [maxLen]; omega) (by omega) (Nat.le_of_lt (HOu62.out.lt _ rfl).2) ?_
            intro vau625 u625 hown hgr hat
            have hba : Below w2.heap.size u62 u625 := Below.grown (Below.refl _ _) hgr HBu62.out.size (fun g hg => by injection hg with hg; rw [← hg]; exact HBu6.out.size)
            have HBu625 := Lib.hid (HBu62.out.trans hba)
            have HAu625 := Lib.hid hown
            have HTu625 := Lib.hid hat
            have HOu6_u62_u625 := Lib.hid (HOu6_u62.out.kept hgr (.inr (by simp only [Value.ownBlock]; intro h; injection h with h; omega)))
            refine hK.out _ _ ?_ (fun hHeld => ?_)
            · exact ⟨(hba.cell hlt12).trans hHeld.1, (hba.cell hlt12).trans hHeld.2.1, (hba.cell hlt12).trans hHeld.2.2⟩
            clear hK K hba hown hgr hat
            try simp only [lyA, lyB, lyC, Act.put, lyD, lyE, lyF]
            refine wpAnyH_ready (rs := [9]) (by kernel_rfl) (by simp) ?_
            refine AllReadyH.cons rfl (fun K hK => ?_) (AllReadyH.nil)
            · rw [if_pos (by kernel_rfl)]
              refine operWp_append_rd u625 _ _ _ rfl u.heap.size 58 i0 _ 1 8 Tryz.underlying22 hi0 hz0 hz1 hz2 rfl (by decide) (.slice (some ⟨u.heap.size, 0, none⟩) 0 0) 0 [] rfl HOu6_u62_u625.out _ B' m' d' (ys.flatMap Lc) rfl ((HRY.out.keep (Keeps.below (HB12.out.trans (HBu625.out.mono HB12.out.size)) (fun b hb => hb))).rd) (lc_one _) (by simp only [maxLen]; omega) (by omega) (Nat.le_of_lt (HOu6_u62_u625.out.lt _ rfl).2) ?_
              intro vbu6259 u6259 hown hgr hat
              have hba : Below w2.heap.size u625 u6259 := Below.grown (Below.refl _ _) hgr HBu625.out.size (fun g hg => by injection hg with hg; rw [← hg]; exact HBu.out.size)
              have HBu6259 := Lib.hid (HBu625.out.trans hba)
              have HAu6259 := Lib.hid hown
              have HTu6259 := Lib.hid hat
              have HAu625_u6259 := Lib.hid (HAu625.out.kept hgr (.inr (by intro h; rcases HTu625.out with h1 | h1 <;> (rw [h1] at h; simp only [Value.ownBlock] at h; injection h with h; omega))))
              refine hK.out _ _ ?_ (fun hHeld => ?_)
              · exact ⟨(hba.cell hlt12).trans hHeld.1, (hba.cell hlt12).trans hHeld.2.1, (hba.cell hlt12).trans hHeld.2.2⟩
              clear hK K hba hown hgr hat
              try simp only [lyA, lyB, lyC, Act.put, lyD, lyE, lyF]
              have LA := lat_own HAu625_u6259.out
              have LB := lat_own HAu6259.out
              obtain ⟨A5, n5, c5, e5, -, -, -⟩ := LA.parts
              obtain ⟨A6, n6, c6, e6, -, -, -⟩ := LB.parts
              subst e5 e6
              have HLA := Lib.hid LA
              have HLB := Lib.hid LB
              have HBz := Lib.hid (HB2.out.trans (HBu6259.out.mono HB2.out.size))
              clear LA LB
              have cc := blk_cells ((HBz.out.block (w.heap.size + 1) (by omega)).trans G2.out)
              have b20 := cc.1 0
              have b21 := cc.1 1
              have b22 := cc.1 2
              have f20 := cc.2 0
              have f21 := cc.2 1
              have f22 := cc.2 2
              simp only [List.getElem?_toArray, List.getElem?_cons_zero, List.getElem?_cons_succ] at b20 b21 b22
              clear cc
              have hne1 : w.heap.size + 1 ≠ w1.heap.size := by omega
              obtain ⟨w6, hw6⟩ : ∃ w6, w6 = ((u6259.setCell ⟨w.heap.size + 1, 0, none⟩ (.bool t)).setCell ⟨w.heap.size + 1, 1, none⟩ (.slice A5 n5 c5)).setCell ⟨w.heap.size + 1, 2, none⟩ (.slice A6 n6 c6) := ⟨_, rfl⟩
              obtain ⟨hu6, q0, q1, q2⟩ := rat_set b20 b21 b22 _ _ _ _ _ _ _ _ hw6
              have HW6 := Lib.hid hw6
              have HU6 := Lib.hid hu6
              have Q0 := Lib.hid q0
              have Q1 := Lib.hid q1
              have Q2 := Lib.hid q2
              clear hw6 hu6 q0 q1 q2
              refine wpAnyH_ready (rs := [10]) (by kernel_rfl) (by simp) ?_
              refine AllReadyH.cons rfl (fun K hK => ?_) AllReadyH.nil
              go_simp
              refine hK.out _ _ ?_ (fun hHeld => ?_)
              · first | exact True.intro | ((try dsimp only); go_keep)
              clear hK K
              try simp only [lyA, lyB, lyC, Act.put, lyD, lyE, lyF]
              refine wpAnyH_ready (rs := [11]) (by kernel_rfl) (by simp) ?_
              refine AllReadyH.cons rfl (fun K hK => ?_) AllReadyH.nil
              go_simp
              rw [← HW6.out]; have hHeld := And.intro (HU6.out.cellOf hHeld.1 (by omega)) (And.intro (HU6.out.cellOf hHeld.2.1 (by omega)) (HU6.out.cellOf hHeld.2.2 (by omega)))
              try go_wp2_with fail
              refine hK.out _ _ ?_ (fun hHeld => ?_)
              · first | exact True.intro | ((try dsimp only); go_keep)
              clear hK K
              try simp only [lyA, lyB, lyC, Act.put, lyD, lyE, lyF]
              refine wpAnyH_ready (rs := [12]) (by kernel_rfl) (by simp) ?_
              refine AllReadyH.cons rfl (fun K hK => ?_) AllReadyH.nil
              go_simp
              refine hK.out _ _ ?_ (fun hHeld => ?_)
              · first | exact True.intro | ((try dsimp only); go_keep)
              clear hK K
              try simp only [lyA, lyB, lyC, Act.put, lyD, lyE, lyF]
              refine wpAnyH_done (by kernel_rfl) ?_ _
              go_wp2_with fail
              have hu6 := HU6.out
              have q0 := Q0.out
              have q1 := Q1.out
              have q2 := Q2.out
              (try simp only [Exit.inBlock, Exit.then])
              refine bodyPost_ret (v := .tuple #[.agg #[.bool t, .slice A5 n5 c5, .slice A6 n6 c6], .int .i64 0]) (by simp [results, Tryz.results62, go_sem, q0, q1, q2]; done) rfl ?_
              have hz6 := HBz.out.size
              refine ⟨.agg #[.bool t, .slice A5 n5 c5, .slice A6 n6 c6], ?_, ?_, (HB0.out.trans (HBz.out.mono HB0.out.size)).trans (hu6.below (by omega) (by omega))⟩
              · unfold toldEn; rw [HT.out]; rfl
              · unfold toldRV; rw [HT.out, if_pos rfl, ← HR.out]
                exact FAt.upb ⟨_, _, rfl, HLA.out, HLB.out⟩ hu6

end Go.Proofs.YtjokpfgncmdomaaGreatDoor
