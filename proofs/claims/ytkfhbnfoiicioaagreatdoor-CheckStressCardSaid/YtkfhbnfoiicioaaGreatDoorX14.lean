import Derived.Test.YtkfhbnfoiicioaaGreatDoorX13
set_option linter.unusedSimpArgs false
set_option linter.unusedVariables false
/- span.Abs: the walk -/
namespace Go.Proofs.YtkfhbnfoiicioaaGreatDoor
open Go.RowKit Go.Sort

theorem word_fk {x y : Nat} (hx : x ≤ 9218868437227405312) (hy : y ≤ 9218868437227405312) (h : x < y) : fk x < fk y := by
  have hx2 : x < 9218868437227405312 := by omega
  by_cases hy2 : y < 9218868437227405312
  · rw [fk_vr hx2, fk_vr hy2]
    have := Vr_lt h
    omega
  · obtain rfl : y = 9218868437227405312 := by omega
    rw [fk_pinf.2]
    exact (fk_fin (decide_eq_true (by omega))).2.2
theorem word_nan {x : Nat} (hx : x ≤ 9218868437227405312) : fnan x = false := by
  by_cases h : x < 9218868437227405312
  · exact (fk_fin (decide_eq_true (by omega))).1
  · obtain rfl : x = 9218868437227405312 := by omega
    exact fk_pinf.1
theorem word_order {x y : Nat} (hx : x ≤ 9218868437227405312) (hy : y ≤ 9218868437227405312) : FloatKind.f64.format.order x y = if x < y then some .lt else if y < x then some .gt else some .eq := by
  rw [order_fk (word_nan hx) (word_nan hy)]
  by_cases h1 : x < y
  · rw [if_pos h1, Int.compare_eq_lt.2 (word_fk hx hy h1)]
  · rw [if_neg h1]
    by_cases h2 : y < x
    · rw [if_pos h2, Int.compare_eq_gt.2 (word_fk hy hx h2)]
    · obtain rfl : x = y := by omega
      rw [if_neg h2]; simp
theorem run_max2 {x y : Nat} (hx : x ≤ 9218868437227405312) (hy : y ≤ 9218868437227405312) (w : World) : (Builtin.max2 (.float .f64 x) (.float .f64 y)).run Tryz.prog w = .ok (.float .f64 (max x y)) w := by
  have ho := word_order hx hy
  have hm : Builtin.max2 (.float .f64 x) (.float .f64 y) = pure (.float .f64 (max x y)) := by
    show (match FloatKind.f64.format.order x y with
      | none => _
      | some .lt => (pure (.float .f64 y) : Sem Value)
      | some .gt => pure (.float .f64 x)
      | some .eq => pure (.float .f64 (if (FloatKind.f64.decode x).neg then y else x))) = _
    rw [ho]
    by_cases h1 : x < y
    · rw [if_pos h1, show max x y = y by omega]
    · rw [if_neg h1]
      by_cases h2 : y < x
      · rw [if_pos h2, show max x y = x by omega]
      · obtain rfl : x = y := by omega
        rw [if_neg h2, Nat.max_self, ite_self]
  rw [hm]
  rfl
theorem run_max {x y : Nat} (hx : x ≤ 9218868437227405312) (hy : y ≤ 9218868437227405312) (t : TypeId) (w : World) : (Builtin.max_ #[t, t] t #[.float .f64 x, .float .f64 y]).run Tryz.prog w = .ok (.float .f64 (max x y)) w := by
  have h := run_max2 hx hy w
  unfold Builtin.max_
  simp [List.foldlM, h]
theorem spB_num {lo hi : Nat} (h : spB lo hi = true) : fnan lo = false ∧ fnan hi = false := by
  unfold spB at h
  rw [Bool.and_eq_true] at h
  have := (fle_iff lo hi).1 h.1
  exact ⟨this.1, this.2.1⟩
def absS (x : Spn) : Spn := if fgt x.lo 0 = true then x else if flt x.hi 0 = true then ⟨negF x.hi, negF x.lo⟩ else ⟨0, max (absF x.lo) (absF x.hi)⟩
set_option maxRecDepth 100000 in
set_option maxHeartbeats 2000000 in
theorem abs_span (x : Spn) (w : World) (h1 : x.lo < 18446744073709551616) (h2 : x.hi < 18446744073709551616) (hok : x.ok = true) :
    Calls Tryz.prog 16 #[x.val] w fun e w' => e = .returned (.tuple #[(absS x).val, .int .i64 0]) ∧ Below w.heap.size w w' := by
  have I1 := Lib.hid (fun w => right_any x w)
  have hok2 : spB x.lo x.hi = true := hok
  rw [hok2] at I1
  have I2 := Lib.hid (fun w => neg_any x w h1 h2 hok)
  have I3 := Lib.hid (fun w => abs_any x.lo w h1)
  have I4 := Lib.hid (fun w => abs_any x.hi w h2)
  obtain ⟨lo, hi⟩ := x
  simp only at I1 I2 I3 I4 h1 h2 hok2 ⊢
  have hnum := spB_num hok2
  have hmax := Lib.hid (fun w => run_max (x := absF lo) (y := absF hi) (num_le hnum.1) (num_le hnum.2) 22 w)
  obtain ⟨r, hr⟩ : ∃ r, r = absS ⟨lo, hi⟩ := ⟨_, rfl⟩
  rw [← hr]
  have HR := Lib.hid hr
  obtain ⟨w0, hw0⟩ : ∃ w0, w0 = (w.alloc (.cells #[.float .f64 lo, .float .f64 hi] 24)).alloc (.cells #[.float .f64 0, .float .f64 0] 24) := ⟨_, rfl⟩
  have hb0 : Below w.heap.size w w0 := by rw [hw0]; exact below2 ..
  have g1 : w0.heap[w.heap.size]? = some (.cells #[.float .f64 lo, .float .f64 hi] 24 (0, 0)) := by
    rw [hw0]; exact ((below1 (w.alloc _) _).block w.heap.size (by simp)).trans (blk_new w _ _)
  have g2 : w0.heap[w.heap.size + 1]? = some (.cells #[.float .f64 0, .float .f64 0] 24 (0, 0)) := by
    rw [hw0]
    have h := blk_new (w.alloc (.cells #[.float .f64 lo, .float .f64 hi] 24)) #[.float .f64 0, .float .f64 0] 24
    rwa [World.size_alloc] at h
  have z0 : w0.heap.size = w.heap.size + 2 := by rw [hw0]; simp
  have G1 := Lib.hid g1
  have G2 := Lib.hid g2
  have HB0 := Lib.hid hb0
  have HW0 := Lib.hid hw0
  -- what is stored at the end, whatever it is
  have fin : ∀ (w1 : World) (a b : Nat), Below w0.heap.size w0 w1 → ∀ w8, w8 = (w1.setCell ⟨w.heap.size + 1, 0, none⟩ (.float .f64 a)).setCell ⟨w.heap.size + 1, 1, none⟩ (.float .f64 b) → Below w.heap.size w w8 ∧ BxS w8 (w.heap.size + 1) ⟨a, b⟩ := by
    intro w1 a b hb1 w8 hw8
    have zz1 := hb1.size
    have hk2 := (blk_cs ((hb1.block (w.heap.size + 1) (by omega)).trans G2.out)).1
    obtain ⟨hu8, hq⟩ := spn_set (hk2 0) (hk2 1) _ _ _ hw8
    exact ⟨HB0.out.trans ((hb1.mono HB0.out.size).trans (hu8.below (by omega) (by omega))), hq⟩
  have FIN := Lib.hid fin
  clear hok hok2 hnum hw0 hb0 g1 g2 hr fin
  cases hg : fgt lo 0
  · cases hh : flt hi 0
    · have hres : absS ⟨lo, hi⟩ = ⟨0, max (absF lo) (absF hi)⟩ := by unfold absS; simp only [hg, hh, Bool.false_eq_true, if_false]
      have HRES := Lib.hid (HR.out.trans hres)
      unfold fgt at hg
      unfold flt at hh
      clear hres
      go_enter Tryz.func16, Tryz.ntmps16
      go_wp2_with fail
      rw [← HW0.out]
      refine (I1.out w0).mono ?_
      rintro e w1 ⟨rfl, hb1⟩
      have zz1 := hb1.size
      have HB1 := Lib.hid hb1
      have hk1 := (blk_cs ((hb1.block w.heap.size (by omega)).trans G1.out)).1
      have k10 := hk1 0
      have k11 := hk1 1
      simp only [List.getElem?_toArray, List.getElem?_cons_zero, List.getElem?_cons_succ] at k10 k11
      clear hk1 hb1
      go_wp2_with fail
      refine wp_region_G (S := (fun w' => w'.cell? ⟨w.heap.size, 0, none⟩ = some (.float .f64 lo) ∧ w'.cell? ⟨w.heap.size, 1, none⟩ = some (.float .f64 hi))) 8 (by kernel_rfl) ?_ (fun hHeld => ?_)
      · first | exact True.intro | ((try dsimp only); go_keep)
      refine tkG (i := 0) (v := ?_) rfl (by kernel_rfl) (Or.inl ⟨by kernel_rfl, ?_⟩) (by assumption) ?_
      rotate_left 1
      · (intro w hSw; (try dsimp only at hSw); go_simp; try with_reducible rfl)
      try simp only [lyA, lyB, lyC, Act.put, lyD, lyE, lyF]
      refine tkG (i := 1) (v := ?_) rfl (by kernel_rfl) (Or.inl ⟨by kernel_rfl, ?_⟩) (by assumption) ?_
      rotate_left 1
      · (intro w hSw; (try dsimp only at hSw); go_simp; try with_reducible rfl)
      try simp only [lyA, lyB, lyC, Act.put, lyD, lyE, lyF]
      refine tkG (i := 3) (v := ?_) rfl (by kernel_rfl) (Or.inl ⟨by kernel_rfl, ?_⟩) (by assumption) ?_
      rotate_left 1
      · (intro w hSw; (try dsimp only at hSw); go_simp; try with_reducible rfl)
      try simp only [lyA, lyB, lyC, Act.put, lyD, lyE, lyF]
      refine tkG (i := 4) (v := ?_) rfl (by kernel_rfl) (Or.inl ⟨by kernel_rfl, ?_⟩) (by assumption) ?_
      rotate_left 1
      · (intro w hSw; (try dsimp only at hSw); go_simp; try with_reducible rfl)
      try simp only [lyA, lyB, lyC, Act.put, lyD, lyE, lyF]
      refine wpAnyG_one (i := 2) (by kernel_rfl) rfl (fun K hK => ?_)
      go_simp
      (refine (I3.out _).mono ?_; rintro e w2 ⟨rfl, rfl⟩; skip)
      try go_wp2_with fail
      refine (fun hHeld => hK.out _ _ (.inl hHeld) (fun _ => ?_)) ?_
      rotate_left 1
      · first | exact True.intro | ((try dsimp only); go_keep)
      clear hK K
      try simp only [lyA, lyB, lyC, Act.put, lyD, lyE, lyF]
      refine wpAnyG_one (i := 5) (by kernel_rfl) rfl (fun K hK => ?_)
      go_simp
      (refine (I4.out _).mono ?_; rintro e w2 ⟨rfl, rfl⟩; skip)
      try go_wp2_with fail
      refine (fun hHeld => hK.out _ _ (.inl hHeld) (fun _ => ?_)) ?_
      rotate_left 1
      · first | exact True.intro | ((try dsimp only); go_keep)
      clear hK K
      try simp only [lyA, lyB, lyC, Act.put, lyD, lyE, lyF]
      have hm := hmax.out
      generalize max (absF lo) (absF hi) = mx at hm HRES
      refine wpAnyG_one (i := 6) (by kernel_rfl) rfl (fun K hK => ?_)
      go_simp
      refine (fun hHeld => hK.out _ _ (.inl hHeld) (fun _ => ?_)) ?_
      rotate_left 1
      · first | exact True.intro | ((try dsimp only); go_keep)
      clear hK K
      try simp only [lyA, lyB, lyC, Act.put, lyD, lyE, lyF]
      obtain ⟨u, hu⟩ : ∃ ux : World, ux = w1.drew := ⟨_, rfl⟩
      have HBu : Hid (Below w0.heap.size w0 u) := Lib.hid (by rw [hu]; exact HB1.out.drew)
      rw [← hu] at hHeld ⊢
      clear hu
      obtain ⟨hk2, hf2⟩ := blk_cs ((HBu.out.block (w.heap.size + 1) (by omega)).trans G2.out)
      have k20 := hk2 0
      have k21 := hk2 1
      have f20 := hf2 0
      have f21 := hf2 1
      simp only [List.getElem?_toArray, List.getElem?_cons_zero, List.getElem?_cons_succ] at k20 k21
      obtain ⟨w8, hw8⟩ : ∃ w8, w8 = (u.setCell ⟨w.heap.size + 1, 0, none⟩ (.float .f64 0)).setCell ⟨w.heap.size + 1, 1, none⟩ (.float .f64 mx) := ⟨_, rfl⟩
      have HQ := Lib.hid (FIN.out u _ _ HBu.out _ hw8)
      have HW8 := Lib.hid hw8
      clear hk2 hf2 hw8 hm
      refine wpAnyG_one (i := 7) (by kernel_rfl) rfl (fun K hK => ?_)
      go_simp
      refine (fun hHeld => hK.out _ _ (.inl hHeld) (fun _ => ?_)) ?_
      rotate_left 1
      · first | exact True.intro | ((try dsimp only); go_keep)
      clear hK K
      try simp only [lyA, lyB, lyC, Act.put, lyD, lyE, lyF]
      refine wpAnyG_one (i := 8) (by kernel_rfl) rfl (fun K hK => ?_)
      go_simp
      refine hK.out _ _ ?_ (fun hHeld => ?_)
      · exact .inr (by kernel_rfl)
      clear hK K
      try simp only [lyA, lyB, lyC, Act.put, lyD, lyE, lyF]
      refine wpAnyG_one (i := 9) (by kernel_rfl) rfl (fun K hK => ?_)
      go_simp
      refine hK.out _ _ ?_ (fun hHeld => ?_)
      · exact .inr (by kernel_rfl)
      clear hK K
      try simp only [lyA, lyB, lyC, Act.put, lyD, lyE, lyF]
      refine wpAnyG_done (by kernel_rfl) ?_ _
      rw [← HW8.out]
      go_wp2_with fail
      obtain ⟨hb8, q0, q1⟩ := HQ.out
      (try simp only [Exit.inBlock, Exit.then])
      refine bodyPost_ret (v := .tuple #[.agg #[.float .f64 0, .float .f64 mx], .int .i64 0]) (by simp [results, Tryz.results16, go_sem, q0, q1]; done) rfl ?_
      exact ⟨by rw [HRES.out], hb8⟩
    · have hres : absS ⟨lo, hi⟩ = ⟨negF hi, negF lo⟩ := by unfold absS; simp only [hg, hh, Bool.false_eq_true, if_false, if_true]
      have HRES := Lib.hid (HR.out.trans hres)
      unfold fgt at hg
      unfold flt at hh
      clear hres
      go_enter Tryz.func16, Tryz.ntmps16
      go_wp2_with fail
      rw [← HW0.out]
      refine (I1.out w0).mono ?_
      rintro e w1 ⟨rfl, hb1⟩
      have zz1 := hb1.size
      have HB1 := Lib.hid hb1
      have hk1 := (blk_cs ((hb1.block w.heap.size (by omega)).trans G1.out)).1
      have k10 := hk1 0
      have k11 := hk1 1
      simp only [List.getElem?_toArray, List.getElem?_cons_zero, List.getElem?_cons_succ] at k10 k11
      clear hk1 hb1
      go_wp2_with fail
      refine (I2.out w1).mono ?_
      rintro e w2 ⟨rfl, hb2⟩
      have zz2 := hb2.size
      have HB2 := Lib.hid (HB1.out.trans (hb2.mono HB1.out.size))
      obtain ⟨hk2, hf2⟩ := blk_cs ((HB2.out.block (w.heap.size + 1) (by omega)).trans G2.out)
      have k20 := hk2 0
      have k21 := hk2 1
      have f20 := hf2 0
      have f21 := hf2 1
      simp only [List.getElem?_toArray, List.getElem?_cons_zero, List.getElem?_cons_succ] at k20 k21
      obtain ⟨w8, hw8⟩ : ∃ w8, w8 = (w2.setCell ⟨w.heap.size + 1, 0, none⟩ (.float .f64 (negF hi))).setCell ⟨w.heap.size + 1, 1, none⟩ (.float .f64 (negF lo)) := ⟨_, rfl⟩
      have HQ := Lib.hid (FIN.out w2 _ _ HB2.out _ hw8)
      have HW8 := Lib.hid hw8
      clear hk2 hf2 hb2 hw8 k10 k11
      go_wp2_with fail
      rw [← HW8.out]
      obtain ⟨hb8, q0, q1⟩ := HQ.out
      (try simp only [Exit.inBlock, Exit.then])
      refine bodyPost_ret (v := .tuple #[.agg #[.float .f64 (negF hi), .float .f64 (negF lo)], .int .i64 0]) (by simp [results, Tryz.results16, go_sem, q0, q1]; done) rfl ?_
      exact ⟨by rw [HRES.out], hb8⟩
  · have hres : absS ⟨lo, hi⟩ = ⟨lo, hi⟩ := by unfold absS; simp only [hg, if_true]
    have HRES := Lib.hid (HR.out.trans hres)
    unfold fgt at hg
    clear hres
    go_enter Tryz.func16, Tryz.ntmps16
    go_wp2_with fail
    rw [← HW0.out]
    refine (I1.out w0).mono ?_
    rintro e w1 ⟨rfl, hb1⟩
    have zz1 := hb1.size
    have HB1 := Lib.hid hb1
    have hk1 := (blk_cs ((hb1.block w.heap.size (by omega)).trans G1.out)).1
    have k10 := hk1 0
    have k11 := hk1 1
    obtain ⟨hk2, hf2⟩ := blk_cs ((hb1.block (w.heap.size + 1) (by omega)).trans G2.out)
    have k20 := hk2 0
    have k21 := hk2 1
    have f20 := hf2 0
    have f21 := hf2 1
    simp only [List.getElem?_toArray, List.getElem?_cons_zero, List.getElem?_cons_succ] at k10 k11 k20 k21
    obtain ⟨w8, hw8⟩ : ∃ w8, w8 = (w1.setCell ⟨w.heap.size + 1, 0, none⟩ (.float .f64 lo)).setCell ⟨w.heap.size + 1, 1, none⟩ (.float .f64 hi) := ⟨_, rfl⟩
    have HQ := Lib.hid (FIN.out w1 _ _ HB1.out _ hw8)
    have HW8 := Lib.hid hw8
    clear hk1 hk2 hf2 hb1 hw8
    go_wp2_with fail
    rw [← HW8.out]
    obtain ⟨hb8, q0, q1⟩ := HQ.out
    (try simp only [Exit.inBlock, Exit.then])
    refine bodyPost_ret (v := .tuple #[.agg #[.float .f64 lo, .float .f64 hi], .int .i64 0]) (by simp [results, Tryz.results16, go_sem, q0, q1]; done) rfl ?_
    exact ⟨by rw [HRES.out], hb8⟩

end Go.Proofs.YtkfhbnfoiicioaaGreatDoor
