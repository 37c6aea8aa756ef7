import Derived.Test.YtkfhbnfoiicioaaDoorC25
/- girderref29.Under, girderlaw29.CheckUnder: the walks -/
set_option linter.unusedSimpArgs false
set_option linter.unusedVariables false
namespace Go.Proofs.YtkfhbnfoiicioaaDoor
open Go.RowKit Go.Sort

theorem fin05_any (u : Nat) (w : World) : Calls Tryd.prog 17 #[.float .f64 u] w fun e w' => e = .returned (.bool (finB u)) ∧ Below w.heap.size w w' := by
  obtain ⟨b, n, hrun, hb⟩ := sub_self 22 u w
  obtain ⟨f, hf⟩ : ∃ f, f = finB u := ⟨_, rfl⟩
  rw [← hf] at hb ⊢
  have HB : Hid (Below w.heap.size w (w.drewN n)) := Lib.hid (below_drewN (Below.refl _ _) n)
  clear hf
  go_enter Tryd.func17, Tryd.ntmps17
  go_wp2_with fail
  go_ret
  exact ⟨rfl, HB.out⟩
set_option maxRecDepth 100000 in
set_option maxHeartbeats 4000000 in
theorem right05_any (x : Spn) (w : World) : Calls Tryd.prog 10 #[x.val] w fun e w' => e = .returned (.bool (spB x.lo x.hi)) ∧ Below w.heap.size w w' := by
  rw [← spR_eq]
  obtain ⟨lo, hi⟩ := x
  simp only
  unfold spR
  have I1 := Lib.hid (fun w => fin05_any lo w)
  have I2 := Lib.hid (fun w => fin05_any hi w)
  obtain ⟨b1, h1⟩ : ∃ b, feq lo lo = b := ⟨_, rfl⟩
  obtain ⟨b2, h2⟩ : ∃ b, feq hi hi = b := ⟨_, rfl⟩
  obtain ⟨b3, h3⟩ : ∃ b, fgt lo hi = b := ⟨_, rfl⟩
  obtain ⟨b4, h4⟩ : ∃ b, flt lo 0 = b := ⟨_, rfl⟩
  obtain ⟨b5, h5⟩ : ∃ b, fgt hi 0 = b := ⟨_, rfl⟩
  obtain ⟨f1, h6⟩ : ∃ b, finB lo = b := ⟨_, rfl⟩
  obtain ⟨f2, h7⟩ : ∃ b, finB hi = b := ⟨_, rfl⟩
  rw [h6] at I1
  rw [h7] at I2
  rw [h1, h2, h3, h4, h5, h6, h7]
  have h1' : (FloatKind.f64.format.order lo lo != some .eq) = !b1 := by rw [← h1]; rfl
  have h2' : (FloatKind.f64.format.order hi hi != some .eq) = !b2 := by rw [← h2]; rfl
  unfold fgt at h3 h5
  unfold flt at h4
  obtain ⟨w0, hw0⟩ : ∃ w0, w0 = w.alloc (.cells #[.float .f64 lo, .float .f64 hi] 24) := ⟨_, rfl⟩
  have hb0 : Below w.heap.size w w0 := by rw [hw0]; exact below1 ..
  have K1 := Lib.hid (BxS.of_blk (s := ⟨lo, hi⟩) (show w0.heap[w.heap.size]? = some (.cells #[.float .f64 lo, .float .f64 hi] 24 (0, 0)) by rw [hw0]; exact blk_new ..))
  have HB0 := Lib.hid hb0
  have HW0 := Lib.hid hw0
  clear h1 h2 h6 h7 hw0 hb0
  cases b1
  · simp only [Bool.not_false, Bool.true_or, if_true] at h1' ⊢
    go_enter Tryd.func10, Tryd.ntmps10
    go_wp2_with fail
    rw [← HW0.out]
    go_ret
    exact ⟨rfl, HB0.out⟩
  · cases b2
    · simp only [Bool.not_false, Bool.not_true, Bool.true_or, Bool.false_or, if_true] at h1' h2' ⊢
      go_enter Tryd.func10, Tryd.ntmps10
      go_wp2_with fail
      rw [← HW0.out]
      go_ret
      exact ⟨rfl, HB0.out⟩
    · cases b3
      · simp only [Bool.not_true, Bool.false_or, Bool.false_eq_true, if_false] at h1' h2' ⊢
        cases f1
        · cases b4
          · simp only [Bool.false_or, Bool.false_and]
            go_enter Tryd.func10, Tryd.ntmps10
            go_wp2_with fail
            rw [← HW0.out]
            refine (I1.out w0).mono ?_
            rintro e w1 ⟨rfl, hb⟩
            replace HB0 := Lib.hid (HB0.out.trans (hb.mono HB0.out.size))
            replace K1 := Lib.hid (K1.out.below hb)
            clear hb
            obtain ⟨k0, k1⟩ := K1.out
            simp only at k0 k1
            go_wp2_with fail
            clear k0 k1
            go_ret
            exact ⟨rfl, HB0.out⟩
          · simp only [Bool.false_or, Bool.true_and]
            cases f2
            · simp only [Bool.false_or]
              go_enter Tryd.func10, Tryd.ntmps10
              go_wp2_with fail
              rw [← HW0.out]
              refine (I1.out w0).mono ?_
              rintro e w1 ⟨rfl, hb⟩
              replace HB0 := Lib.hid (HB0.out.trans (hb.mono HB0.out.size))
              replace K1 := Lib.hid (K1.out.below hb)
              clear hb
              obtain ⟨k0, k1⟩ := K1.out
              simp only at k0 k1
              go_wp2_with fail
              clear k0 k1
              refine (I2.out w1).mono ?_
              rintro e w2 ⟨rfl, hb⟩
              replace HB0 := Lib.hid (HB0.out.trans (hb.mono HB0.out.size))
              replace K1 := Lib.hid (K1.out.below hb)
              clear hb
              obtain ⟨k0, k1⟩ := K1.out
              simp only at k0 k1
              go_wp2_with fail
              clear k0 k1
              go_ret
              exact ⟨rfl, HB0.out⟩
            · simp only [Bool.true_or]
              go_enter Tryd.func10, Tryd.ntmps10
              go_wp2_with fail
              rw [← HW0.out]
              refine (I1.out w0).mono ?_
              rintro e w1 ⟨rfl, hb⟩
              replace HB0 := Lib.hid (HB0.out.trans (hb.mono HB0.out.size))
              replace K1 := Lib.hid (K1.out.below hb)
              clear hb
              obtain ⟨k0, k1⟩ := K1.out
              simp only at k0 k1
              go_wp2_with fail
              clear k0 k1
              refine (I2.out w1).mono ?_
              rintro e w2 ⟨rfl, hb⟩
              replace HB0 := Lib.hid (HB0.out.trans (hb.mono HB0.out.size))
              replace K1 := Lib.hid (K1.out.below hb)
              clear hb
              obtain ⟨k0, k1⟩ := K1.out
              simp only at k0 k1
              go_wp2_with fail
              clear k0 k1
              go_ret
              exact ⟨rfl, HB0.out⟩
        · simp only [Bool.true_or, Bool.true_and]
          cases f2
          · simp only [Bool.false_or]
            go_enter Tryd.func10, Tryd.ntmps10
            go_wp2_with fail
            rw [← HW0.out]
            refine (I1.out w0).mono ?_
            rintro e w1 ⟨rfl, hb⟩
            replace HB0 := Lib.hid (HB0.out.trans (hb.mono HB0.out.size))
            replace K1 := Lib.hid (K1.out.below hb)
            clear hb
            obtain ⟨k0, k1⟩ := K1.out
            simp only at k0 k1
            go_wp2_with fail
            clear k0 k1
            refine (I2.out w1).mono ?_
            rintro e w2 ⟨rfl, hb⟩
            replace HB0 := Lib.hid (HB0.out.trans (hb.mono HB0.out.size))
            replace K1 := Lib.hid (K1.out.below hb)
            clear hb
            obtain ⟨k0, k1⟩ := K1.out
            simp only at k0 k1
            go_wp2_with fail
            clear k0 k1
            go_ret
            exact ⟨rfl, HB0.out⟩
          · simp only [Bool.true_or]
            go_enter Tryd.func10, Tryd.ntmps10
            go_wp2_with fail
            rw [← HW0.out]
            refine (I1.out w0).mono ?_
            rintro e w1 ⟨rfl, hb⟩
            replace HB0 := Lib.hid (HB0.out.trans (hb.mono HB0.out.size))
            replace K1 := Lib.hid (K1.out.below hb)
            clear hb
            obtain ⟨k0, k1⟩ := K1.out
            simp only at k0 k1
            go_wp2_with fail
            clear k0 k1
            refine (I2.out w1).mono ?_
            rintro e w2 ⟨rfl, hb⟩
            replace HB0 := Lib.hid (HB0.out.trans (hb.mono HB0.out.size))
            replace K1 := Lib.hid (K1.out.below hb)
            clear hb
            obtain ⟨k0, k1⟩ := K1.out
            simp only at k0 k1
            go_wp2_with fail
            clear k0 k1
            go_ret
            exact ⟨rfl, HB0.out⟩
      · simp only [Bool.not_true, Bool.false_or, if_true] at h1' h2' ⊢
        go_enter Tryd.func10, Tryd.ntmps10
        go_wp2_with fail
        rw [← HW0.out]
        go_ret
        exact ⟨rfl, HB0.out⟩
theorem under_ref (x : Spn) (most : Nat) (w : World) : Calls Tryd.prog 6 #[x.val, .float .f64 most] w fun e w' => e = .returned (.int .i8 (underI x.lo x.hi most)) ∧ Below w.heap.size w w' := by
  have I1 := Lib.hid (fun w => right05_any x w)
  unfold underI
  obtain ⟨lo, hi⟩ := x
  simp only at I1 ⊢
  obtain ⟨b1, h1⟩ : ∃ b, spB lo hi = b := ⟨_, rfl⟩
  obtain ⟨b2, h2⟩ : ∃ b, feq most most = b := ⟨_, rfl⟩
  obtain ⟨b3, h3⟩ : ∃ b, fle hi most = b := ⟨_, rfl⟩
  obtain ⟨b4, h4⟩ : ∃ b, fgt lo most = b := ⟨_, rfl⟩
  rw [h1] at I1
  rw [h1, h2, h3, h4]
  have h2' : (FloatKind.f64.format.order most most != some .eq) = !b2 := by rw [← h2]; rfl
  unfold fle at h3
  unfold fgt at h4
  obtain ⟨w0, hw0⟩ : ∃ w0, w0 = w.alloc (.cells #[.float .f64 lo, .float .f64 hi] 24) := ⟨_, rfl⟩
  have hb0 : Below w.heap.size w w0 := by rw [hw0]; exact below1 ..
  have K1 := Lib.hid (BxS.of_blk (s := ⟨lo, hi⟩) (show w0.heap[w.heap.size]? = some (.cells #[.float .f64 lo, .float .f64 hi] 24 (0, 0)) by rw [hw0]; exact blk_new ..))
  have HB0 := Lib.hid hb0
  have HW0 := Lib.hid hw0
  clear h1 h2 hw0 hb0
  cases b1
  · rw [if_pos (by rfl)]
    go_enter Tryd.func6, Tryd.ntmps6
    go_wp2_with fail
    rw [← HW0.out]
    refine (I1.out w0).mono ?_
    rintro e w1 ⟨rfl, hb1⟩
    have HB1 := Lib.hid (HB0.out.trans (hb1.mono HB0.out.size))
    clear hb1
    go_wp2_with fail
    go_ret
    exact ⟨rfl, HB1.out⟩
  · cases b2
    · rw [if_pos (by rfl)]
      simp only [Bool.not_false] at h2'
      go_enter Tryd.func6, Tryd.ntmps6
      go_wp2_with fail
      rw [← HW0.out]
      refine (I1.out w0).mono ?_
      rintro e w1 ⟨rfl, hb1⟩
      have HB1 := Lib.hid (HB0.out.trans (hb1.mono HB0.out.size))
      clear hb1
      go_wp2_with fail
      go_ret
      exact ⟨rfl, HB1.out⟩
    · rw [if_neg (by decide)]
      simp only [Bool.not_true] at h2'
      cases b3
      · rw [if_neg (by decide)]
        cases b4
        · rw [if_neg (by decide)]
          go_enter Tryd.func6, Tryd.ntmps6
          go_wp2_with fail
          rw [← HW0.out]
          refine (I1.out w0).mono ?_
          rintro e w1 ⟨rfl, hb1⟩
          have HB1 := Lib.hid (HB0.out.trans (hb1.mono HB0.out.size))
          obtain ⟨k0, k1⟩ := K1.out.below hb1
          simp only at k0 k1
          clear hb1
          go_wp2_with fail
          go_ret
          exact ⟨rfl, HB1.out⟩
        · rw [if_pos rfl]
          go_enter Tryd.func6, Tryd.ntmps6
          go_wp2_with fail
          rw [← HW0.out]
          refine (I1.out w0).mono ?_
          rintro e w1 ⟨rfl, hb1⟩
          have HB1 := Lib.hid (HB0.out.trans (hb1.mono HB0.out.size))
          obtain ⟨k0, k1⟩ := K1.out.below hb1
          simp only at k0 k1
          clear hb1
          go_wp2_with fail
          go_ret
          exact ⟨rfl, HB1.out⟩
      · rw [if_pos rfl]
        go_enter Tryd.func6, Tryd.ntmps6
        go_wp2_with fail
        rw [← HW0.out]
        refine (I1.out w0).mono ?_
        rintro e w1 ⟨rfl, hb1⟩
        have HB1 := Lib.hid (HB0.out.trans (hb1.mono HB0.out.size))
        obtain ⟨k0, k1⟩ := K1.out.below hb1
        simp only at k0 k1
        clear hb1
        go_wp2_with fail
        go_ret
        exact ⟨rfl, HB1.out⟩
set_option maxRecDepth 100000 in
set_option maxHeartbeats 4000000 in
theorem under_law (x : Spn) (most : Nat) (w : World) : Calls Tryd.prog 3 #[x.val, .float .f64 most] w fun e w' => e = .returned (.bool true) ∧ Below w.heap.size w w' := by
  have I1 := Lib.hid awake_law
  have I2 := Lib.hid (fun w => under_chk x most w)
  have I3 := Lib.hid (fun w => under_ref x most w)
  obtain ⟨k, hk⟩ : ∃ k, k = underI x.lo x.hi most := ⟨_, rfl⟩
  rw [← hk] at I2 I3
  obtain ⟨lo, hi⟩ := x
  have ek : (k == k) = true := by simp
  obtain ⟨w0, hw0⟩ : ∃ w0, w0 = w.alloc (.cells #[.float .f64 lo, .float .f64 hi] 24) := ⟨_, rfl⟩
  have hb0 : Below w.heap.size w w0 := by rw [hw0]; exact below1 ..
  have hk1 := BxS.of_blk (s := ⟨lo, hi⟩) (show w0.heap[w.heap.size]? = some (.cells #[.float .f64 lo, .float .f64 hi] 24 (0, 0)) by rw [hw0]; exact blk_new ..)
  obtain ⟨k0, k1⟩ := hk1
  simp only at k0 k1
  have g0 := cell_regrown k0
  have g1 := cell_regrown k1
  have HB0 := Lib.hid hb0
  have HW0 := Lib.hid hw0
  have cA : ∀ d os, Calls Tryd.prog 4 #[] (grow (redrawn w0 d) os) fun e w'' => e = .returned (.bool true) ∧ ∃ p : Regrown, w'' = grow (redrawn w0 p.d) p.os := fun d os => Calls.regrown_of (I1.out _)
  have cU : ∀ d os, Calls Tryd.prog 5 #[.agg #[.float .f64 lo, .float .f64 hi], .float .f64 most] (grow (redrawn w0 d) os) fun e w'' => e = .returned (.int .i8 k) ∧ ∃ p : Regrown, w'' = grow (redrawn w0 p.d) p.os := fun d os => Calls.regrown_of (I2.out _)
  have cR : ∀ d os, Calls Tryd.prog 6 #[.agg #[.float .f64 lo, .float .f64 hi], .float .f64 most] (grow (redrawn w0 d) os) fun e w'' => e = .returned (.int .i8 k) ∧ ∃ p : Regrown, w'' = grow (redrawn w0 p.d) p.os := fun d os => Calls.regrown_of (I3.out _)
  clear hk hw0 hb0 k0 k1
  go_enter Tryd.func3, Tryd.ntmps3
  go_wp2_with fail
  rw [← HW0.out]
  refine wp_region_quiet_below (by kernel_rfl) (by kernel_rfl) ?_
  repeat (first | go_big_quiet_step (first | exact cA _ _ | exact cU _ _ | exact cR _ _) | quiet_step (first | exact cA _ _ | exact cU _ _ | exact cR _ _))
  refine wpQuiet_nil ?_
  intro wq hwq
  have hbq := below_class hwq
  clear hwq
  have HBQ := Lib.hid (HB0.out.trans (hbq.mono HB0.out.size))
  clear hbq
  go_wp2_with fail
  go_ret
  exact ⟨rfl, HBQ.out⟩

end Go.Proofs.YtkfhbnfoiicioaaDoor
