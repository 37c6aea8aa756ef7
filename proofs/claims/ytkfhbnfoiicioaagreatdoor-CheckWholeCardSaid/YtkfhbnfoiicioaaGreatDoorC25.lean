import Derived.Test.YtkfhbnfoiicioaaGreatDoorC24
import Derived.Deep.Cut
import Derived.Deep.DeepCutAuto
/- girderlaw29.awake: the walk -/
set_option linter.unusedSimpArgs false
set_option linter.unusedVariables false
namespace Go.Proofs.YtkfhbnfoiicioaaGreatDoor
open Go.RowKit Go.Sort

def divD (x y : Nat) (m : Int) : Nat := divF x y m ((floatBits .quo .f64 x y).getD 0) 0
theorem divC_easy {x y q : Nat} (hx : x < 18446744073709551616) (hy : y < 18446744073709551616) (hq : q < 18446744073709551616) (hr : floatBits .quo .f64 x y = some q) (hn : fnan q = false) (hp : (plB x && (plB y && plB q)) = true) (hf : ∃ r, FloatKind.f64.format.fma (negF q) y x = some r)
    (n1 : fnan (divD x y 1) = false) (n2 : fnan (divD x y 2) = false) (l1 : divD x y 1 < 18446744073709551616) (l2 : divD x y 2 < 18446744073709551616) : DivC x y divD := by
  have e : (floatBits .quo .f64 x y).getD 0 = q := by rw [hr]; rfl
  refine ⟨fun w => div1_any x y _ 1 (fun w => ?_) n1 w, fun w => div1_any x y _ 2 (fun w => ?_) n2 w, l1, l2⟩
  · have h := div_easy x y q 1 0 w hx hy hq hr hn (.inl rfl) (fun _ => hf) (.inr (.inr (.inr (.inl hp))))
    unfold divD
    rw [e]
    exact h
  · have h := div_easy x y q 2 0 w hx hy hq hr hn (.inr rfl) (fun _ => hf) (.inr (.inr (.inr (.inl hp))))
    unfold divD
    rw [e]
    exact h
theorem spn_eq {x : Spn} {a b : Nat} (h1 : x.lo = a) (h2 : x.hi = b) : x = ⟨a, b⟩ := by cases x; simp only at h1 h2; rw [h1, h2]
theorem d62 : DivC 4618441417868443648 4611686018427387904 divD :=
  divC_easy (q := 4613937818241073152) (by decide) (by decide) (by decide) (by decide +kernel) (by decide +kernel) (by decide +kernel) ⟨0, by decide +kernel⟩ (by decide +kernel) (by decide +kernel) (by decide +kernel) (by decide +kernel)
theorem d11 : DivC 4607182418800017408 4607182418800017408 divD :=
  divC_easy (q := 4607182418800017408) (by decide) (by decide) (by decide) (by decide +kernel) (by decide +kernel) (by decide +kernel) ⟨0, by decide +kernel⟩ (by decide +kernel) (by decide +kernel) (by decide +kernel) (by decide +kernel)
theorem d31 : DivC 4613937818241073152 4607182418800017408 divD :=
  divC_easy (q := 4613937818241073152) (by decide) (by decide) (by decide) (by decide +kernel) (by decide +kernel) (by decide +kernel) ⟨0, by decide +kernel⟩ (by decide +kernel) (by decide +kernel) (by decide +kernel) (by decide +kernel)
theorem a31 : AddC 4613937818241073152 4607182418800017408 1 4616189618054758400 := fun w => by
  have h := add_any 4613937818241073152 4607182418800017408 4616189618054758400 1 w (by decide) (by decide) (by decide) (by decide +kernel) (by decide +kernel) (.inl rfl)
  rwa [show addF 4613937818241073152 4607182418800017408 1 4616189618054758400 = 4616189618054758400 by decide +kernel] at h
theorem a33 : AddC 4613937818241073152 4613937818241073152 2 4618441417868443648 := fun w => by
  have h := add_any 4613937818241073152 4613937818241073152 4618441417868443648 2 w (by decide) (by decide) (by decide) (by decide +kernel) (by decide +kernel) (.inr rfl)
  rwa [show addF 4613937818241073152 4613937818241073152 2 4618441417868443648 = 4618441417868443648 by decide +kernel] at h
theorem stress1 (w : World) : Calls Tryz.prog 6 #[.agg #[.float .f64 13841813454723219456, .float .f64 13841813454723219456, .float .f64 4607182418800017408, .float .f64 4611686018427387904, .float .f64 13837309855095848960, .float .f64 0], .float .f64 4611686018427387904, .float .f64 4607182418800017408] w fun e w' => e = .returned (.tuple #[.agg #[.float .f64 4616189618054758400, .float .f64 4618441417868443648], .int .i64 0]) ∧ Below w.heap.size w w' := by
  have e1 : absS ⟨13841813454723219456, 13841813454723219456⟩ = ⟨4618441417868443648, 4618441417868443648⟩ := spn_eq (by decide +kernel) (by decide +kernel)
  have e2 : greS (absS ⟨4607182418800017408, 4611686018427387904⟩) (absS ⟨13837309855095848960, 0⟩) = ⟨4607182418800017408, 4613937818241073152⟩ := spn_eq (by decide +kernel) (by decide +kernel)
  have e3 : corS ⟨4618441417868443648, 4618441417868443648⟩ ⟨4611686018427387904, 4611686018427387904⟩ divD = ⟨4613937818241073152, 4613937818241073152⟩ := spn_eq (by decide +kernel) (by decide +kernel)
  have e4 : corS ⟨4607182418800017408, 4613937818241073152⟩ ⟨4607182418800017408, 4607182418800017408⟩ divD = ⟨4607182418800017408, 4613937818241073152⟩ := spn_eq (by decide +kernel) (by decide +kernel)
  refine stress_ok ⟨13841813454723219456, 13841813454723219456⟩ ⟨4607182418800017408, 4611686018427387904⟩ ⟨13837309855095848960, 0⟩ 4611686018427387904 4607182418800017408 divD _ _ w (by decide +kernel) (by decide) (by decide) (by decide)
    ?_ ?_ ?_ ?_ (by decide +kernel) (by decide +kernel) (by decide +kernel) (by decide +kernel) ?_ ?_ ?_ ?_
  · rw [e1]; exact ⟨d62, d62, d62, d62⟩
  · rw [e2]; exact ⟨d11, d11, d31, d31⟩
  · rw [e1]; decide +kernel
  · rw [e2]; decide +kernel
  · rw [e1, e3]; decide +kernel
  · rw [e2, e4]; decide +kernel
  · rw [e1, e2, e3, e4]; exact a31
  · rw [e1, e2, e3, e4]; exact a33
theorem stress2 (w : World) : Calls Tryz.prog 6 #[.agg #[.float .f64 0, .float .f64 0, .float .f64 0, .float .f64 0, .float .f64 0, .float .f64 0], .float .f64 0, .float .f64 4607182418800017408] w fun e w' => e = .returned (.tuple #[.agg #[.float .f64 0, .float .f64 0], .int .i64 2]) ∧ Below w.heap.size w w' :=
  stress_bad ⟨0, 0⟩ ⟨0, 0⟩ ⟨0, 0⟩ 0 4607182418800017408 w (by decide +kernel)
theorem und (lo hi m : Nat) (k : Int) (h : underI lo hi m = k) (w : World) : Calls Tryz.prog 13 #[.agg #[.float .f64 lo, .float .f64 hi], .float .f64 m] w fun e w' => e = .returned (.int .i8 k) ∧ Below w.heap.size w w' := by
  have h2 := under_chk ⟨lo, hi⟩ m w
  simp only [h] at h2
  exact h2
set_option maxRecDepth 100000 in
set_option maxHeartbeats 4000000 in
theorem awake_law (w : World) : Calls Tryz.prog 5 #[] w fun e w' => e = .returned (.bool true) ∧ Below w.heap.size w w' := by
  have S1 := Lib.hid stress1
  have S2 := Lib.hid stress2
  have U1 := Lib.hid (fun w => und 4607182418800017408 4611686018427387904 4611686018427387904 1 (by decide +kernel) w)
  have U2 := Lib.hid (fun w => und 4607182418800017408 4611686018427387904 4609434218613702656 0 (by decide +kernel) w)
  have U3 := Lib.hid (fun w => und 4607182418800017408 4611686018427387904 4602678819172646912 2 (by decide +kernel) w)
  have o4 : ∀ w, (Op.equalIn 9999 22 (.float .f64 4616189618054758400) (.float .f64 4616189618054758400)).run Tryz.prog w = .ok true w := fun _ => by kernel_rfl
  have o6 : ∀ w, (Op.equalIn 9999 22 (.float .f64 4618441417868443648) (.float .f64 4618441417868443648)).run Tryz.prog w = .ok true w := fun _ => by kernel_rfl
  obtain ⟨w1, hw1⟩ : ∃ w1, w1 = w.alloc (.cells #[.float .f64 4607182418800017408, .float .f64 4611686018427387904] 24) := ⟨_, rfl⟩
  have hb1 : Below w.heap.size w w1 := by rw [hw1]; exact below1 ..
  have X1 := Lib.hid (BxS.of_blk (s := ⟨4607182418800017408, 4611686018427387904⟩) (show w1.heap[w.heap.size]? = some (.cells #[.float .f64 4607182418800017408, .float .f64 4611686018427387904] 24 (0, 0)) by rw [hw1]; exact blk_new ..))
  have HB := Lib.hid hb1
  have HW1 := Lib.hid hw1
  clear hw1 hb1
  go_enter Tryz.func5, Tryz.ntmps5
  go_wp2_with fail
  rw [← HW1.out]
  refine (S1.out w1).mono ?_
  rintro e w2 ⟨rfl, hb2⟩
  replace X1 := Lib.hid (X1.out.below hb2)
  replace HB := Lib.hid (HB.out.trans (hb2.mono HB.out.size))
  obtain ⟨w3, hw3⟩ : ∃ w3, w3 = w2.alloc (.cells #[.float .f64 4616189618054758400, .float .f64 4618441417868443648] 24) := ⟨_, rfl⟩
  obtain ⟨g2, hg2⟩ : ∃ g, g = w2.heap.size := ⟨_, rfl⟩
  have hb3 : Below w2.heap.size w2 w3 := by rw [hw3]; exact below1 ..
  have X2 := Lib.hid (BxS.of_blk (s := ⟨4616189618054758400, 4618441417868443648⟩) (show w3.heap[g2]? = some (.cells #[.float .f64 4616189618054758400, .float .f64 4618441417868443648] 24 (0, 0)) by rw [hw3, hg2]; exact blk_new ..))
  replace X1 := Lib.hid (X1.out.below hb3)
  replace HB := Lib.hid (HB.out.trans (hb3.mono HB.out.size))
  have HW3 := Lib.hid hw3
  have HG2 := Lib.hid hg2
  clear hb2 hb3 hw3 hg2
  go_upto_region 3 with fail
  rw [← HW3.out, ← HG2.out]
  go_wp2_with fail
  refine (S2.out w3).mono ?_
  rintro e w4 ⟨rfl, hb4⟩
  obtain ⟨w5, hw5⟩ : ∃ w5, w5 = w4.alloc (.cells #[.float .f64 0, .float .f64 0] 24) := ⟨_, rfl⟩
  have hb5 : Below w4.heap.size w4 w5 := by rw [hw5]; exact below1 ..
  replace X1 := Lib.hid ((X1.out.below hb4).below hb5)
  replace X2 := Lib.hid ((X2.out.below hb4).below hb5)
  replace HB := Lib.hid ((HB.out.trans (hb4.mono HB.out.size)).trans (hb5.mono (Nat.le_trans HB.out.size hb4.size)))
  have HW5 := Lib.hid hw5
  clear hb4 hb5 hw5
  go_upto_region 4 with fail
  rw [← HW5.out]
  obtain ⟨p0, p1⟩ := X1.out
  simp only at p0 p1
  go_wp2_with fail
  refine (U1.out w5).mono ?_
  rintro e w6 ⟨rfl, hb6⟩
  replace X1 := Lib.hid (X1.out.below hb6)
  replace X2 := Lib.hid (X2.out.below hb6)
  replace HB := Lib.hid (HB.out.trans (hb6.mono HB.out.size))
  clear hb6 p0 p1
  obtain ⟨p0, p1⟩ := X1.out
  simp only at p0 p1
  go_wp2_with fail
  refine (U2.out w6).mono ?_
  rintro e w7 ⟨rfl, hb7⟩
  replace X1 := Lib.hid (X1.out.below hb7)
  replace X2 := Lib.hid (X2.out.below hb7)
  replace HB := Lib.hid (HB.out.trans (hb7.mono HB.out.size))
  clear hb7 p0 p1
  obtain ⟨p0, p1⟩ := X1.out
  simp only at p0 p1
  go_wp2_with fail
  refine (U3.out w7).mono ?_
  rintro e w8 ⟨rfl, hb8⟩
  replace X2 := Lib.hid (X2.out.below hb8)
  replace HB := Lib.hid (HB.out.trans (hb8.mono HB.out.size))
  clear hb8 p0 p1
  obtain ⟨p0, p1⟩ := X2.out
  simp only at p0 p1
  obtain ⟨w9, hw9⟩ : ∃ w9, w9 = w8.alloc (.cells #[.bool false, .int .i64 0, .int .i8 1, .float .f64 0, .float .f64 0, .int .i64 0, .bool false, .int .i64 0, .int .i8 0, .float .f64 0, .float .f64 0, .int .i64 0] 42) := ⟨_, rfl⟩
  have hb9 : Below w8.heap.size w8 w9 := by rw [hw9]; exact below1 ..
  have hx9 : RdE Vd.cells 6 w9 (fun b => b < w9.heap.size) (some ⟨w8.heap.size, 0, none⟩) 2 [⟨false, 0, 1, 0, 0, 0⟩, ⟨false, 0, 0, 0, 0, 0⟩] := by rw [hw9]; exact rde_blk (blk_new ..) rfl (by simp) rfl rfl
  have WH := Lib.hid (whole_any _ 2 2 _ _ w9 hx9 (fun b h => h) (by omega))
  rw [show wholeI [⟨false, 0, 1, 0, 0, 0⟩, ⟨false, 0, 0, 0, 0, 0⟩] = 0 by decide +kernel] at WH
  replace HB := Lib.hid (HB.out.trans (hb9.mono HB.out.size))
  have HW9 := Lib.hid hw9
  clear hb9 hx9 hw9
  go_wp2_with fail
  rw [← HW9.out]
  refine WH.out.mono ?_
  rintro e w10 ⟨rfl, hb10⟩
  replace HB := Lib.hid (HB.out.trans (hb10.mono HB.out.size))
  clear hb10
  go_wp2_with fail
  go_ret
  exact ⟨rfl, HB.out⟩

end Go.Proofs.YtkfhbnfoiicioaaGreatDoor
