import Derived.Test.YtkfhbnfoiicioaaGreatDoorX17
set_option linter.unusedSimpArgs false
set_option linter.unusedVariables false
/- check.Stress of what may be: the walk (printed by gen_c23.py) -/
namespace Go.Proofs.YtkfhbnfoiicioaaGreatDoor
open Go.RowKit Go.Sort

theorem negF_lt {u : Nat} (h : u < 18446744073709551616) : negF u < 18446744073709551616 := by unfold negF; split <;> omega
theorem absS_lt {x : Spn} (h1 : x.lo < 18446744073709551616) (h2 : x.hi < 18446744073709551616) : (absS x).lo < 18446744073709551616 ∧ (absS x).hi < 18446744073709551616 := by
  unfold absS
  split
  · exact ⟨h1, h2⟩
  · split
    · exact ⟨negF_lt h2, negF_lt h1⟩
    · refine ⟨by simp, ?_⟩
      show max (absF x.lo) (absF x.hi) < _
      unfold absF
      omega
/-- four quotients of two spans -/
structure Four (a b : Spn) (D : Nat → Nat → Int → Nat) : Prop where
  h00 : DivC a.lo b.lo D
  h01 : DivC a.lo b.hi D
  h10 : DivC a.hi b.lo D
  h11 : DivC a.hi b.hi D
def corS (a b : Spn) (D : Nat → Nat → Int → Nat) : Spn := ⟨corL a b D 3, corH a b D 3⟩
def greS (a b : Spn) : Spn := ⟨greF a.lo b.lo, greF a.hi b.hi⟩
def AddC (x y : Nat) (m : Int) (r : Nat) : Prop := ∀ w, Calls Tryz.prog 37 #[.float .f64 x, .float .f64 y, .int .i8 m] w fun e w' => e = .returned (.float .f64 r) ∧ Below w.heap.size w w'

set_option maxRecDepth 100000 in
set_option maxHeartbeats 8000000 in
theorem stress_ok (n ma mb : Spn) (ar wd : Nat) (D : Nat → Nat → Int → Nat) (rl ru : Nat) (w : World) (h : (n.ok && (ma.ok && (mb.ok && (numB ar && numB wd)))) = true)
    (ln : n.lo < 18446744073709551616 ∧ n.hi < 18446744073709551616) (la : ma.lo < 18446744073709551616 ∧ ma.hi < 18446744073709551616) (lb : mb.lo < 18446744073709551616 ∧ mb.hi < 18446744073709551616)
    (h1 : Four (absS n) ⟨ar, ar⟩ D) (h2 : Four (greS (absS ma) (absS mb)) ⟨wd, wd⟩ D) (k1 : (absS n).ok = true) (k2 : (greS (absS ma) (absS mb)).ok = true) (k3 : Spn.ok ⟨ar, ar⟩ = true) (k4 : Spn.ok ⟨wd, wd⟩ = true) (z1 : fle ar 0 = false) (z2 : fle wd 0 = false)
    (k5 : (corS (absS n) ⟨ar, ar⟩ D).ok = true) (k6 : (corS (greS (absS ma) (absS mb)) ⟨wd, wd⟩ D).ok = true)
    (a1 : AddC (corS (absS n) ⟨ar, ar⟩ D).lo (corS (greS (absS ma) (absS mb)) ⟨wd, wd⟩ D).lo 1 rl) (a2 : AddC (corS (absS n) ⟨ar, ar⟩ D).hi (corS (greS (absS ma) (absS mb)) ⟨wd, wd⟩ D).hi 2 ru) (hL : Laid w) :
    Calls Tryz.prog 6 #[.agg #[.float .f64 n.lo, .float .f64 n.hi, .float .f64 ma.lo, .float .f64 ma.hi, .float .f64 mb.lo, .float .f64 mb.hi], .float .f64 ar, .float .f64 wd] w fun e w' => e = .returned (.tuple #[.agg #[.float .f64 rl, .float .f64 ru], .int .i64 0]) ∧ Below w.heap.size w w' := by
  simp only [Bool.and_eq_true] at h
  obtain ⟨o1, o2, o3, o4, o5⟩ := h
  have I1 := Lib.hid (fun w => right_any n w)
  have I2 := Lib.hid (fun w => right_any ma w)
  have I3 := Lib.hid (fun w => right_any mb w)
  have I4 := Lib.hid (fun w => number_any ar w)
  have I5 := Lib.hid (fun w => number_any wd w)
  have ok1 : spB n.lo n.hi = true := o1
  have ok2 : spB ma.lo ma.hi = true := o2
  have ok3 : spB mb.lo mb.hi = true := o3
  rw [ok1] at I1
  rw [ok2] at I2
  rw [ok3] at I3
  rw [o4] at I4
  rw [o5] at I5
  have J1 := Lib.hid (fun w => abs_span n w ln.1 ln.2 o1)
  have J2 := Lib.hid (fun w => abs_span ma w la.1 la.2 o2)
  have J3 := Lib.hid (fun w => abs_span mb w lb.1 lb.2 o3)
  obtain ⟨lA1, lA2⟩ := absS_lt la.1 la.2
  obtain ⟨lB1, lB2⟩ := absS_lt lb.1 lb.2
  have J4 := Lib.hid (fun w => greater_chk (absS ma).lo (absS mb).lo w lA1 lB1)
  have J5 := Lib.hid (fun w => greater_chk (absS ma).hi (absS mb).hi w lA2 lB2)
  have LW := Lib.hid hL
  have J6 := Lib.hid (fun w hL => div_span (absS n) ⟨ar, ar⟩ D w h1.h00 h1.h01 h1.h10 h1.h11 k1 k3 z1 hL)
  have J7 := Lib.hid (fun w hL => div_span (greS (absS ma) (absS mb)) ⟨wd, wd⟩ D w h2.h00 h2.h01 h2.h10 h2.h11 k2 k4 z2 hL)
  have J8 := Lib.hid (fun w => add_span (corS (absS n) ⟨ar, ar⟩ D) (corS (greS (absS ma) (absS mb)) ⟨wd, wd⟩ D) rl ru w k5 k6 a1 a2)
  clear hL h1 h2 k1 k2 k3 k4 z1 z2 k5 k6 a1 a2 o1 o2 o3 o4 o5 ok1 ok2 ok3 lA1 lA2 lB1 lB2 ln la lb
  obtain ⟨N, hN⟩ : ∃ N, N = absS n := ⟨_, rfl⟩
  obtain ⟨A, hA⟩ : ∃ A, A = absS ma := ⟨_, rfl⟩
  obtain ⟨B, hB⟩ : ∃ B, B = absS mb := ⟨_, rfl⟩
  rw [← hN] at J1 J6 J8
  rw [← hA] at J2 J4 J5 J7 J8
  rw [← hB] at J3 J4 J5 J7 J8
  obtain ⟨m0, hm0⟩ : ∃ m0, m0 = greF A.lo B.lo := ⟨_, rfl⟩
  obtain ⟨m1, hm1⟩ : ∃ m1, m1 = greF A.hi B.hi := ⟨_, rfl⟩
  have hM : greS A B = ⟨m0, m1⟩ := by rw [hm0, hm1]; rfl
  rw [← hm0] at J4
  rw [← hm1] at J5
  rw [hM] at J7 J8
  obtain ⟨x0, hx0⟩ : ∃ x, x = corL N ⟨ar, ar⟩ D 3 := ⟨_, rfl⟩
  obtain ⟨x1, hx1⟩ : ∃ x, x = corH N ⟨ar, ar⟩ D 3 := ⟨_, rfl⟩
  obtain ⟨y0, hy0⟩ : ∃ x, x = corL ⟨m0, m1⟩ ⟨wd, wd⟩ D 3 := ⟨_, rfl⟩
  obtain ⟨y1, hy1⟩ : ∃ x, x = corH ⟨m0, m1⟩ ⟨wd, wd⟩ D 3 := ⟨_, rfl⟩
  rw [← hx0, ← hx1] at J6
  rw [← hy0, ← hy1] at J7
  have hX : corS N ⟨ar, ar⟩ D = ⟨x0, x1⟩ := by rw [hx0, hx1]; rfl
  have hY : corS ⟨m0, m1⟩ ⟨wd, wd⟩ D = ⟨y0, y1⟩ := by rw [hy0, hy1]; rfl
  rw [hX, hY] at J8
  clear hm0 hm1 hM hx0 hx1 hy0 hy1 hX hY hN hA hB
  obtain ⟨N0, N1⟩ := N
  obtain ⟨A0, A1⟩ := A
  obtain ⟨B0, B1⟩ := B
  obtain ⟨n0, n1⟩ := n
  obtain ⟨a0, a1⟩ := ma
  obtain ⟨b0, b1⟩ := mb
  simp only at I1 I2 I3 J1 J2 J3 J4 J5 J6 J7 J8 ⊢
  obtain ⟨w0, hw0⟩ : ∃ w0, w0 = (w.alloc (.cells #[.float .f64 n0, .float .f64 n1, .float .f64 a0, .float .f64 a1, .float .f64 b0, .float .f64 b1] 26)).alloc (.cells #[.float .f64 0, .float .f64 0] 24) := ⟨_, rfl⟩
  have hb0 : Below w.heap.size w w0 := by rw [hw0]; exact below2 ..
  have z0 : w0.heap.size = w.heap.size + 2 := by rw [hw0]; simp
  have g1 : w0.heap[w.heap.size]? = some (.cells #[.float .f64 n0, .float .f64 n1, .float .f64 a0, .float .f64 a1, .float .f64 b0, .float .f64 b1] 26 (0, 0)) := by
    rw [hw0]; exact ((below1 (w.alloc _) _).block w.heap.size (by simp)).trans (blk_new w _ _)
  have g2 : w0.heap[w.heap.size + 1]? = some (.cells #[.float .f64 0, .float .f64 0] 24 (0, 0)) := by
    rw [hw0]
    have h := blk_new (w.alloc (.cells #[.float .f64 n0, .float .f64 n1, .float .f64 a0, .float .f64 a1, .float .f64 b0, .float .f64 b1] 26)) #[.float .f64 0, .float .f64 0] 24
    rwa [World.size_alloc] at h
  have G1 := Lib.hid g1
  have G2 := Lib.hid g2
  have HB0 := Lib.hid hb0
  have HW0 := Lib.hid hw0
  have fin : ∀ (w1 : World), Below w0.heap.size w0 w1 → w1.cell? ⟨w.heap.size + 1, 0, none⟩ = some (.float .f64 0) ∧ w1.cell? ⟨w.heap.size + 1, 1, none⟩ = some (.float .f64 0) ∧ w1.frozen? ⟨w.heap.size + 1, 0, none⟩ = false ∧ w1.frozen? ⟨w.heap.size + 1, 1, none⟩ = false ∧ ∀ w8, w8 = (w1.setCell ⟨w.heap.size + 1, 0, none⟩ (.float .f64 rl)).setCell ⟨w.heap.size + 1, 1, none⟩ (.float .f64 ru) → Below w.heap.size w w8 ∧ BxS w8 (w.heap.size + 1) ⟨rl, ru⟩ := by
    intro w1 hb1
    have zz1 := hb1.size
    obtain ⟨hk2, hf2⟩ := blk_cs ((hb1.block (w.heap.size + 1) (by omega)).trans G2.out)
    refine ⟨hk2 0, hk2 1, hf2 0, hf2 1, fun w8 hw8 => ?_⟩
    obtain ⟨hu8, hq⟩ := spn_set (hk2 0) (hk2 1) _ _ _ hw8
    exact ⟨HB0.out.trans ((hb1.mono HB0.out.size).trans (hu8.below (by omega) (by omega))), hq⟩
  have FIN := Lib.hid fin
  have KN : Hid (∀ w1 : World, Below w0.heap.size w0 w1 → w1.cell? ⟨w.heap.size, 0, none⟩ = some (.float .f64 n0) ∧ w1.cell? ⟨w.heap.size, 1, none⟩ = some (.float .f64 n1) ∧ w1.cell? ⟨w.heap.size, 2, none⟩ = some (.float .f64 a0) ∧ w1.cell? ⟨w.heap.size, 3, none⟩ = some (.float .f64 a1) ∧ w1.cell? ⟨w.heap.size, 4, none⟩ = some (.float .f64 b0) ∧ w1.cell? ⟨w.heap.size, 5, none⟩ = some (.float .f64 b1)) := Lib.hid (by
    intro w1 hb1
    obtain ⟨hk, _⟩ := blk_cs ((hb1.block w.heap.size (by omega)).trans G1.out)
    exact ⟨hk 0, hk 1, hk 2, hk 3, hk 4, hk 5⟩)
  have LW0 := Lib.hid (LW.out.below hb0)
  clear hw0 hb0 g1 g2 fin
  go_enter Tryz.func6, Tryz.ntmps6
  go_wp2_with fail
  rw [← HW0.out]
  refine (I1.out w0).mono ?_
  rintro e w1 ⟨rfl, hb⟩
  have HBw1 := Lib.hid hb
  clear hb
  obtain ⟨c0, c1, c2, c3, c4, c5⟩ := KN.out w1 HBw1.out
  go_wp2_with fail
  clear c0 c1 c2 c3 c4 c5
  refine (I2.out w1).mono ?_
  rintro e w2 ⟨rfl, hb⟩
  have HBw2 := Lib.hid (HBw1.out.trans (hb.mono HBw1.out.size))
  clear hb
  obtain ⟨c0, c1, c2, c3, c4, c5⟩ := KN.out w2 HBw2.out
  go_wp2_with fail
  clear c0 c1 c2 c3 c4 c5
  refine (I3.out w2).mono ?_
  rintro e w3 ⟨rfl, hb⟩
  have HBw3 := Lib.hid (HBw2.out.trans (hb.mono HBw2.out.size))
  clear hb
  go_wp2_with fail
  refine (I4.out w3).mono ?_
  rintro e wz ⟨rfl, rfl⟩
  go_wp2_with fail
  refine (I5.out w3).mono ?_
  rintro e wz ⟨rfl, rfl⟩
  go_upto_region 3 with fail
  obtain ⟨c0, c1, c2, c3, c4, c5⟩ := KN.out w3 HBw3.out
  go_wp2_with fail
  clear c0 c1 c2 c3 c4 c5
  refine (J1.out w3).mono ?_
  rintro e w4 ⟨rfl, hb⟩
  have HBw4 := Lib.hid (HBw3.out.trans (hb.mono HBw3.out.size))
  clear hb
  obtain ⟨w5, hbx⟩ : ∃ w5, w5 = w4.alloc (.cells #[.float .f64 N0, .float .f64 N1] 24) := ⟨_, rfl⟩
  have hbb : Below w4.heap.size w4 w5 := by rw [hbx]; exact below1 ..
  obtain ⟨gN, hgN⟩ : ∃ g, g = w4.heap.size := ⟨_, rfl⟩
  have hblk : w5.heap[gN]? = some (.cells #[.float .f64 N0, .float .f64 N1] 24 (0, 0)) := by rw [hbx, hgN]; exact blk_new ..
  have HBw5 := Lib.hid (HBw4.out.trans (hbb.mono HBw4.out.size))
  have XN := Lib.hid (BxS.of_blk (s := ⟨N0, N1⟩) hblk)
  have FN := Lib.hid (FzS.of_blk hblk)
  have YN : Hid (gN < w5.heap.size) := Lib.hid (by rw [hbx, hgN]; simp)
  have ZN := YN
  have WN : Hid (w0.heap.size ≤ gN) := Lib.hid (by rw [hgN]; exact HBw4.out.size)
  have HWX := Lib.hid hbx
  have HGX := Lib.hid hgN
  clear hbx hbb hblk hgN
  go_upto_region 4 with fail
  rw [← HWX.out, ← HGX.out]
  clear HWX HGX
  obtain ⟨c0, c1, c2, c3, c4, c5⟩ := KN.out w5 HBw5.out
  go_wp2_with fail
  clear c0 c1 c2 c3 c4 c5
  refine (J2.out w5).mono ?_
  rintro e w6 ⟨rfl, hb⟩
  have HBw6 := Lib.hid (HBw5.out.trans (hb.mono HBw5.out.size))
  replace XN := Lib.hid (XN.out.below hb)
  replace ZN := Lib.hid (Nat.lt_of_lt_of_le ZN.out hb.size)
  replace FN := Lib.hid (FN.out.below hb YN.out)
  replace YN := ZN
  clear hb
  obtain ⟨w7, hbx⟩ : ∃ w7, w7 = w6.alloc (.cells #[.float .f64 A0, .float .f64 A1] 24) := ⟨_, rfl⟩
  have hbb : Below w6.heap.size w6 w7 := by rw [hbx]; exact below1 ..
  obtain ⟨gA, hgA⟩ : ∃ g, g = w6.heap.size := ⟨_, rfl⟩
  have hblk : w7.heap[gA]? = some (.cells #[.float .f64 A0, .float .f64 A1] 24 (0, 0)) := by rw [hbx, hgA]; exact blk_new ..
  have HBw7 := Lib.hid (HBw6.out.trans (hbb.mono HBw6.out.size))
  have NNA : Hid (gN ≠ gA) := Lib.hid (by have := YN.out; omega)
  replace XN := Lib.hid (XN.out.below hbb)
  replace FN := Lib.hid (FN.out.below hbb YN.out)
  replace YN := Lib.hid (Nat.lt_of_lt_of_le YN.out hbb.size)
  replace ZN := YN
  have XA := Lib.hid (BxS.of_blk (s := ⟨A0, A1⟩) hblk)
  have FA := Lib.hid (FzS.of_blk hblk)
  have YA : Hid (gA < w7.heap.size) := Lib.hid (by rw [hbx, hgA]; simp)
  have ZA := YA
  have WA : Hid (w0.heap.size ≤ gA) := Lib.hid (by rw [hgA]; exact HBw6.out.size)
  have HWX := Lib.hid hbx
  have HGX := Lib.hid hgA
  clear hbx hbb hblk hgA
  go_upto_region 5 with fail
  rw [← HWX.out, ← HGX.out]
  clear HWX HGX
  obtain ⟨c0, c1, c2, c3, c4, c5⟩ := KN.out w7 HBw7.out
  go_wp2_with fail
  clear c0 c1 c2 c3 c4 c5
  refine (J3.out w7).mono ?_
  rintro e w8 ⟨rfl, hb⟩
  have HBw8 := Lib.hid (HBw7.out.trans (hb.mono HBw7.out.size))
  replace XN := Lib.hid (XN.out.below hb)
  replace ZN := Lib.hid (Nat.lt_of_lt_of_le ZN.out hb.size)
  replace XA := Lib.hid (XA.out.below hb)
  replace ZA := Lib.hid (Nat.lt_of_lt_of_le ZA.out hb.size)
  replace FN := Lib.hid (FN.out.below hb YN.out)
  replace FA := Lib.hid (FA.out.below hb YA.out)
  replace YN := ZN
  replace YA := ZA
  clear hb
  obtain ⟨w9, hbx⟩ : ∃ w9, w9 = w8.alloc (.cells #[.float .f64 B0, .float .f64 B1] 24) := ⟨_, rfl⟩
  have hbb : Below w8.heap.size w8 w9 := by rw [hbx]; exact below1 ..
  obtain ⟨gB, hgB⟩ : ∃ g, g = w8.heap.size := ⟨_, rfl⟩
  have hblk : w9.heap[gB]? = some (.cells #[.float .f64 B0, .float .f64 B1] 24 (0, 0)) := by rw [hbx, hgB]; exact blk_new ..
  have HBw9 := Lib.hid (HBw8.out.trans (hbb.mono HBw8.out.size))
  have NNB : Hid (gN ≠ gB) := Lib.hid (by have := YN.out; omega)
  have NAB : Hid (gA ≠ gB) := Lib.hid (by have := YA.out; omega)
  replace XN := Lib.hid (XN.out.below hbb)
  replace FN := Lib.hid (FN.out.below hbb YN.out)
  replace YN := Lib.hid (Nat.lt_of_lt_of_le YN.out hbb.size)
  replace ZN := YN
  replace XA := Lib.hid (XA.out.below hbb)
  replace FA := Lib.hid (FA.out.below hbb YA.out)
  replace YA := Lib.hid (Nat.lt_of_lt_of_le YA.out hbb.size)
  replace ZA := YA
  have XB := Lib.hid (BxS.of_blk (s := ⟨B0, B1⟩) hblk)
  have FB := Lib.hid (FzS.of_blk hblk)
  have YB : Hid (gB < w9.heap.size) := Lib.hid (by rw [hbx, hgB]; simp)
  have ZB := YB
  have WB : Hid (w0.heap.size ≤ gB) := Lib.hid (by rw [hgB]; exact HBw8.out.size)
  have HWX := Lib.hid hbx
  have HGX := Lib.hid hgB
  clear hbx hbb hblk hgB
  go_upto_region 6 with fail
  rw [← HWX.out, ← HGX.out]
  clear HWX HGX
  obtain ⟨r0, r1⟩ := XA.out
  obtain ⟨s0, s1⟩ := XB.out
  simp only at r0 r1 s0 s1
  refine wp_region_G (S := (fun w' => w'.cell? ⟨gA, 0, none⟩ = some (.float .f64 A0) ∧ w'.cell? ⟨gA, 1, none⟩ = some (.float .f64 A1) ∧ w'.cell? ⟨gB, 0, none⟩ = some (.float .f64 B0) ∧ w'.cell? ⟨gB, 1, none⟩ = some (.float .f64 B1))) 11 (by kernel_rfl) ?_ (fun hHeld => ?_)
  · first | exact True.intro | ((try dsimp only); go_keep)
  refine tkG (i := 0) (v := ?_) rfl (by kernel_rfl) (Or.inl ⟨by kernel_rfl, ?_⟩) (by assumption) ?_
  rotate_left 1
  · (intro w hSw; (try dsimp only at hSw); go_simp; try with_reducible rfl)
  try simp only [lyA, lyB, lyC, Act.put, lyD, lyE, lyF]
  refine tkG (i := 1) (v := ?_) rfl (by kernel_rfl) (Or.inl ⟨by kernel_rfl, ?_⟩) (by assumption) ?_
  rotate_left 1
  · (intro w hSw; (try dsimp only at hSw); go_simp; try with_reducible rfl)
  try simp only [lyA, lyB, lyC, Act.put, lyD, lyE, lyF]
  refine tkG (i := 2) (v := ?_) rfl (by kernel_rfl) (Or.inl ⟨by kernel_rfl, ?_⟩) (by assumption) ?_
  rotate_left 1
  · (intro w hSw; (try dsimp only at hSw); go_simp; try with_reducible rfl)
  try simp only [lyA, lyB, lyC, Act.put, lyD, lyE, lyF]
  refine tkG (i := 3) (v := ?_) rfl (by kernel_rfl) (Or.inl ⟨by kernel_rfl, ?_⟩) (by assumption) ?_
  rotate_left 1
  · (intro w hSw; (try dsimp only at hSw); go_simp; try with_reducible rfl)
  try simp only [lyA, lyB, lyC, Act.put, lyD, lyE, lyF]
  refine tkG (i := 5) (v := ?_) rfl (by kernel_rfl) (Or.inl ⟨by kernel_rfl, ?_⟩) (by assumption) ?_
  rotate_left 1
  · (intro w hSw; (try dsimp only at hSw); go_simp; try with_reducible rfl)
  try simp only [lyA, lyB, lyC, Act.put, lyD, lyE, lyF]
  refine tkG (i := 6) (v := ?_) rfl (by kernel_rfl) (Or.inl ⟨by kernel_rfl, ?_⟩) (by assumption) ?_
  rotate_left 1
  · (intro w hSw; (try dsimp only at hSw); go_simp; try with_reducible rfl)
  try simp only [lyA, lyB, lyC, Act.put, lyD, lyE, lyF]
  refine tkG (i := 7) (v := ?_) rfl (by kernel_rfl) (Or.inl ⟨by kernel_rfl, ?_⟩) (by assumption) ?_
  rotate_left 1
  · (intro w hSw; (try dsimp only at hSw); go_simp; try with_reducible rfl)
  try simp only [lyA, lyB, lyC, Act.put, lyD, lyE, lyF]
  refine tkG (i := 8) (v := ?_) rfl (by kernel_rfl) (Or.inl ⟨by kernel_rfl, ?_⟩) (by assumption) ?_
  rotate_left 1
  · (intro w hSw; (try dsimp only at hSw); go_simp; try with_reducible rfl)
  try simp only [lyA, lyB, lyC, Act.put, lyD, lyE, lyF]
  obtain ⟨u, hu⟩ : ∃ ux : World, ux = w9.drew := ⟨_, rfl⟩
  have hbu : Below w9.heap.size w9 u := by rw [hu]; exact (Below.refl _ _).drew
  rw [← hu] at hHeld ⊢
  have HBu := Lib.hid (HBw9.out.trans (hbu.mono HBw9.out.size))
  replace XN := Lib.hid (XN.out.below hbu)
  replace FN := Lib.hid (FN.out.below hbu YN.out)
  replace YN := Lib.hid (Nat.lt_of_lt_of_le YN.out hbu.size)
  replace XA := Lib.hid (XA.out.below hbu)
  replace FA := Lib.hid (FA.out.below hbu YA.out)
  replace YA := Lib.hid (Nat.lt_of_lt_of_le YA.out hbu.size)
  replace XB := Lib.hid (XB.out.below hbu)
  replace FB := Lib.hid (FB.out.below hbu YB.out)
  replace YB := Lib.hid (Nat.lt_of_lt_of_le YB.out hbu.size)
  clear hu hbu r0 r1 s0 s1
  refine wpAnyG_one (i := 4) (by kernel_rfl) rfl (fun K hK => ?_)
  go_simp
  (refine (J4.out u).mono ?_; rintro e v1 ⟨rfl, hb⟩; obtain ⟨t0, t1, t2, t3⟩ := hHeld; have HBv1 := Lib.hid (HBu.out.trans (hb.mono HBu.out.size)); replace XN := Lib.hid (XN.out.below hb); replace FN := Lib.hid (FN.out.below hb YN.out); replace YN := Lib.hid (Nat.lt_of_lt_of_le YN.out hb.size); replace XA := Lib.hid (XA.out.below hb); replace FA := Lib.hid (FA.out.below hb YA.out); replace YA := Lib.hid (Nat.lt_of_lt_of_le YA.out hb.size); replace XB := Lib.hid (XB.out.below hb); replace FB := Lib.hid (FB.out.below hb YB.out); replace YB := Lib.hid (Nat.lt_of_lt_of_le YB.out hb.size); obtain ⟨r0, r1⟩ := XA.out; obtain ⟨s0, s1⟩ := XB.out; simp only at r0 r1 s0 s1; clear hb t0 t1 t2 t3)
  try go_wp2_with fail
  refine (fun hHeld => hK.out _ _ (.inl hHeld) (fun _ => ?_)) ?_
  rotate_left 1
  · first | exact True.intro | ((try dsimp only); go_keep)
  clear hK K
  try simp only [lyA, lyB, lyC, Act.put, lyD, lyE, lyF]
  refine tkG (i := 10) (v := ?_) rfl (by kernel_rfl) (Or.inl ⟨by kernel_rfl, ?_⟩) (by assumption) ?_
  rotate_left 1
  · (intro w hSw; (try dsimp only at hSw); go_simp; try with_reducible rfl)
  try simp only [lyA, lyB, lyC, Act.put, lyD, lyE, lyF]
  clear r0 r1 s0 s1
  refine wpAnyG_one (i := 9) (by kernel_rfl) rfl (fun K hK => ?_)
  go_simp
  (refine (J5.out v1).mono ?_; rintro e v2 ⟨rfl, hb⟩; obtain ⟨t0, t1, t2, t3⟩ := hHeld; have HBv2 := Lib.hid (HBv1.out.trans (hb.mono HBv1.out.size)); replace XN := Lib.hid (XN.out.below hb); replace FN := Lib.hid (FN.out.below hb YN.out); replace YN := Lib.hid (Nat.lt_of_lt_of_le YN.out hb.size); replace XA := Lib.hid (XA.out.below hb); replace FA := Lib.hid (FA.out.below hb YA.out); replace YA := Lib.hid (Nat.lt_of_lt_of_le YA.out hb.size); replace XB := Lib.hid (XB.out.below hb); replace FB := Lib.hid (FB.out.below hb YB.out); replace YB := Lib.hid (Nat.lt_of_lt_of_le YB.out hb.size); obtain ⟨r0, r1⟩ := XA.out; obtain ⟨s0, s1⟩ := XB.out; simp only at r0 r1 s0 s1; clear hb t0 t1 t2 t3)
  try go_wp2_with fail
  refine (fun hHeld => hK.out _ _ (.inl hHeld) (fun _ => ?_)) ?_
  rotate_left 1
  · first | exact True.intro | ((try dsimp only); go_keep)
  clear hK K
  try simp only [lyA, lyB, lyC, Act.put, lyD, lyE, lyF]
  clear r0 r1 s0 s1
  obtain ⟨v3, hv3⟩ : ∃ v3, v3 = v2.setCell ⟨gA, 0, none⟩ (.float .f64 m0) := ⟨_, rfl⟩
  obtain ⟨v4, hv4⟩ : ∃ v4, v4 = v3.setCell ⟨gA, 1, none⟩ (.float .f64 m1) := ⟨_, rfl⟩
  obtain ⟨hu3, hx3⟩ := set_lo XA.out m0 _ hv3
  obtain ⟨hu4, hx4⟩ := set_hi hx3 m1 _ hv4
  have hu := hu3.trans hu4
  have HBv4 := Lib.hid (HBv2.out.trans (hu.below WA.out HBv2.out.size))
  have hsz := hu.size
  have hfA : FzS v4 gA := by rw [hv4, hv3]; exact (FA.out.set _ _ _).set _ _ _
  have hfN : FzS v4 gN := by rw [hv4, hv3]; exact (FN.out.set _ _ _).set _ _ _
  obtain ⟨f0, f1⟩ := FA.out
  have FA3 : FzS v3 gA := by rw [hv3]; exact FA.out.set _ _ _
  obtain ⟨f2, f3⟩ := FA3
  obtain ⟨r0, r1⟩ := XA.out
  obtain ⟨r2, r3⟩ := hx3
  simp only at r0 r1 r2 r3
  replace XA := Lib.hid hx4
  replace XN : Hid (BxS v4 gN ⟨N0, N1⟩) := Lib.hid ⟨hu.cell YN.out NNA.out XN.out.1, hu.cell YN.out NNA.out XN.out.2⟩
  have HV3 := Lib.hid hv3
  have HV4 := Lib.hid hv4
  rw [hv3] at r2 r3 f2 f3
  clear hv3 hv4 hu3 hu4 hu hx4
  refine wpAnyG_one (i := 11) (by kernel_rfl) rfl (fun K hK => ?_)
  go_simp
  refine hK.out _ _ ?_ (fun hHeld => ?_)
  · exact .inr (by kernel_rfl)
  clear hK K
  try simp only [lyA, lyB, lyC, Act.put, lyD, lyE, lyF]
  refine wpAnyG_one (i := 12) (by kernel_rfl) rfl (fun K hK => ?_)
  go_simp
  refine hK.out _ _ ?_ (fun hHeld => ?_)
  · exact .inr (by kernel_rfl)
  clear hK K
  try simp only [lyA, lyB, lyC, Act.put, lyD, lyE, lyF]
  refine wpAnyG_one (i := 13) (by kernel_rfl) rfl (fun K hK => ?_)
  go_simp
  refine hK.out _ _ ?_ (fun hHeld => ?_)
  · exact .inr (by kernel_rfl)
  clear hK K
  try simp only [lyA, lyB, lyC, Act.put, lyD, lyE, lyF]
  refine wpAnyG_done (by kernel_rfl) ?_ _
  rw [← HV3.out, ← HV4.out]
  clear HV3 HV4 f0 f1 f2 f3 r0 r1 r2 r3
  have HBv := HBv4.out
  replace YN : Hid (gN < v4.heap.size) := Lib.hid (Nat.lt_of_lt_of_le YN.out hsz)
  replace YA : Hid (gA < v4.heap.size) := Lib.hid (Nat.lt_of_lt_of_le YA.out hsz)
  have FN4 : Hid (FzS v4 gN) := Lib.hid hfN
  clear FN
  have FN := FN4
  clear FN4
  have FA4 : Hid (FzS v4 gA) := Lib.hid hfA
  clear FA
  have FA := FA4
  clear FA4 hsz hfN hfA HBv
  have ZN := YN
  have ZA := YA
  go_upto_region 7 with fail
  obtain ⟨qN0, qN1⟩ := XN.out
  simp only at qN0 qN1
  go_wp2_with fail
  clear qN0 qN1
  refine (J6.out v4 (by first | exact LW.out.below (Hid.out (by assumption)) | exact LW0.out.below (Hid.out (by assumption)) | (trace_state; fail))).mono ?_
  rintro e w10 ⟨rfl, hb⟩
  have HBw10 := Lib.hid (HBv4.out.trans (hb.mono HBv4.out.size))
  replace XN := Lib.hid (XN.out.below hb)
  replace ZN := Lib.hid (Nat.lt_of_lt_of_le ZN.out hb.size)
  replace XA := Lib.hid (XA.out.below hb)
  replace ZA := Lib.hid (Nat.lt_of_lt_of_le ZA.out hb.size)
  replace FN := Lib.hid (FN.out.below hb YN.out)
  replace FA := Lib.hid (FA.out.below hb YA.out)
  replace YN := ZN
  replace YA := ZA
  clear hb
  obtain ⟨w11, hbx⟩ : ∃ w11, w11 = w10.alloc (.cells #[.float .f64 x0, .float .f64 x1] 24) := ⟨_, rfl⟩
  have hbb : Below w10.heap.size w10 w11 := by rw [hbx]; exact below1 ..
  obtain ⟨gX, hgX⟩ : ∃ g, g = w10.heap.size := ⟨_, rfl⟩
  have hblk : w11.heap[gX]? = some (.cells #[.float .f64 x0, .float .f64 x1] 24 (0, 0)) := by rw [hbx, hgX]; exact blk_new ..
  have HBw11 := Lib.hid (HBw10.out.trans (hbb.mono HBw10.out.size))
  have NNX : Hid (gN ≠ gX) := Lib.hid (by have := YN.out; omega)
  have NAX : Hid (gA ≠ gX) := Lib.hid (by have := YA.out; omega)
  replace XN := Lib.hid (XN.out.below hbb)
  replace FN := Lib.hid (FN.out.below hbb YN.out)
  replace YN := Lib.hid (Nat.lt_of_lt_of_le YN.out hbb.size)
  replace ZN := YN
  replace XA := Lib.hid (XA.out.below hbb)
  replace FA := Lib.hid (FA.out.below hbb YA.out)
  replace YA := Lib.hid (Nat.lt_of_lt_of_le YA.out hbb.size)
  replace ZA := YA
  have XX := Lib.hid (BxS.of_blk (s := ⟨x0, x1⟩) hblk)
  have FX := Lib.hid (FzS.of_blk hblk)
  have YX : Hid (gX < w11.heap.size) := Lib.hid (by rw [hbx, hgX]; simp)
  have ZX := YX
  have WX : Hid (w0.heap.size ≤ gX) := Lib.hid (by rw [hgX]; exact HBw10.out.size)
  have HWX := Lib.hid hbx
  have HGX := Lib.hid hgX
  clear hbx hbb hblk hgX
  go_upto_region 8 with fail
  rw [← HWX.out, ← HGX.out]
  clear HWX HGX
  obtain ⟨qA0, qA1⟩ := XA.out
  simp only at qA0 qA1
  go_wp2_with fail
  clear qA0 qA1
  refine (J7.out w11 (by first | exact LW.out.below (Hid.out (by assumption)) | exact LW0.out.below (Hid.out (by assumption)) | (trace_state; fail))).mono ?_
  rintro e w12 ⟨rfl, hb⟩
  have HBw12 := Lib.hid (HBw11.out.trans (hb.mono HBw11.out.size))
  replace XN := Lib.hid (XN.out.below hb)
  replace ZN := Lib.hid (Nat.lt_of_lt_of_le ZN.out hb.size)
  replace XA := Lib.hid (XA.out.below hb)
  replace ZA := Lib.hid (Nat.lt_of_lt_of_le ZA.out hb.size)
  replace XX := Lib.hid (XX.out.below hb)
  replace ZX := Lib.hid (Nat.lt_of_lt_of_le ZX.out hb.size)
  replace FN := Lib.hid (FN.out.below hb YN.out)
  replace FA := Lib.hid (FA.out.below hb YA.out)
  replace FX := Lib.hid (FX.out.below hb YX.out)
  replace YN := ZN
  replace YA := ZA
  replace YX := ZX
  clear hb
  obtain ⟨w13, hbx⟩ : ∃ w13, w13 = w12.alloc (.cells #[.float .f64 y0, .float .f64 y1] 24) := ⟨_, rfl⟩
  have hbb : Below w12.heap.size w12 w13 := by rw [hbx]; exact below1 ..
  obtain ⟨gQ, hgQ⟩ : ∃ g, g = w12.heap.size := ⟨_, rfl⟩
  have hblk : w13.heap[gQ]? = some (.cells #[.float .f64 y0, .float .f64 y1] 24 (0, 0)) := by rw [hbx, hgQ]; exact blk_new ..
  have HBw13 := Lib.hid (HBw12.out.trans (hbb.mono HBw12.out.size))
  have NNQ : Hid (gN ≠ gQ) := Lib.hid (by have := YN.out; omega)
  have NAQ : Hid (gA ≠ gQ) := Lib.hid (by have := YA.out; omega)
  have NXQ : Hid (gX ≠ gQ) := Lib.hid (by have := YX.out; omega)
  replace XN := Lib.hid (XN.out.below hbb)
  replace FN := Lib.hid (FN.out.below hbb YN.out)
  replace YN := Lib.hid (Nat.lt_of_lt_of_le YN.out hbb.size)
  replace ZN := YN
  replace XA := Lib.hid (XA.out.below hbb)
  replace FA := Lib.hid (FA.out.below hbb YA.out)
  replace YA := Lib.hid (Nat.lt_of_lt_of_le YA.out hbb.size)
  replace ZA := YA
  replace XX := Lib.hid (XX.out.below hbb)
  replace FX := Lib.hid (FX.out.below hbb YX.out)
  replace YX := Lib.hid (Nat.lt_of_lt_of_le YX.out hbb.size)
  replace ZX := YX
  have XQ := Lib.hid (BxS.of_blk (s := ⟨y0, y1⟩) hblk)
  have FQ := Lib.hid (FzS.of_blk hblk)
  have YQ : Hid (gQ < w13.heap.size) := Lib.hid (by rw [hbx, hgQ]; simp)
  have ZQ := YQ
  have WQ : Hid (w0.heap.size ≤ gQ) := Lib.hid (by rw [hgQ]; exact HBw12.out.size)
  have HWX := Lib.hid hbx
  have HGX := Lib.hid hgQ
  clear hbx hbb hblk hgQ
  go_upto_region 9 with fail
  rw [← HWX.out, ← HGX.out]
  clear HWX HGX
  obtain ⟨qX0, qX1⟩ := XX.out
  obtain ⟨qQ0, qQ1⟩ := XQ.out
  simp only at qX0 qX1 qQ0 qQ1
  go_wp2_with fail
  clear qX0 qX1 qQ0 qQ1
  refine (J8.out w13).mono ?_
  rintro e w14 ⟨rfl, hb⟩
  have HBw14 := Lib.hid (HBw13.out.trans (hb.mono HBw13.out.size))
  replace XN := Lib.hid (XN.out.below hb)
  replace ZN := Lib.hid (Nat.lt_of_lt_of_le ZN.out hb.size)
  replace XA := Lib.hid (XA.out.below hb)
  replace ZA := Lib.hid (Nat.lt_of_lt_of_le ZA.out hb.size)
  replace XX := Lib.hid (XX.out.below hb)
  replace ZX := Lib.hid (Nat.lt_of_lt_of_le ZX.out hb.size)
  replace XQ := Lib.hid (XQ.out.below hb)
  replace ZQ := Lib.hid (Nat.lt_of_lt_of_le ZQ.out hb.size)
  replace FN := Lib.hid (FN.out.below hb YN.out)
  replace FA := Lib.hid (FA.out.below hb YA.out)
  replace FX := Lib.hid (FX.out.below hb YX.out)
  replace FQ := Lib.hid (FQ.out.below hb YQ.out)
  replace YN := ZN
  replace YA := ZA
  replace YX := ZX
  replace YQ := ZQ
  clear hb
  obtain ⟨w15, hbx⟩ : ∃ w15, w15 = w14.alloc (.cells #[.float .f64 rl, .float .f64 ru] 24) := ⟨_, rfl⟩
  have hbb : Below w14.heap.size w14 w15 := by rw [hbx]; exact below1 ..
  obtain ⟨gS, hgS⟩ : ∃ g, g = w14.heap.size := ⟨_, rfl⟩
  have hblk : w15.heap[gS]? = some (.cells #[.float .f64 rl, .float .f64 ru] 24 (0, 0)) := by rw [hbx, hgS]; exact blk_new ..
  have HBw15 := Lib.hid (HBw14.out.trans (hbb.mono HBw14.out.size))
  have NNS : Hid (gN ≠ gS) := Lib.hid (by have := YN.out; omega)
  have NAS : Hid (gA ≠ gS) := Lib.hid (by have := YA.out; omega)
  have NXS : Hid (gX ≠ gS) := Lib.hid (by have := YX.out; omega)
  have NQS : Hid (gQ ≠ gS) := Lib.hid (by have := YQ.out; omega)
  replace XN := Lib.hid (XN.out.below hbb)
  replace FN := Lib.hid (FN.out.below hbb YN.out)
  replace YN := Lib.hid (Nat.lt_of_lt_of_le YN.out hbb.size)
  replace ZN := YN
  replace XA := Lib.hid (XA.out.below hbb)
  replace FA := Lib.hid (FA.out.below hbb YA.out)
  replace YA := Lib.hid (Nat.lt_of_lt_of_le YA.out hbb.size)
  replace ZA := YA
  replace XX := Lib.hid (XX.out.below hbb)
  replace FX := Lib.hid (FX.out.below hbb YX.out)
  replace YX := Lib.hid (Nat.lt_of_lt_of_le YX.out hbb.size)
  replace ZX := YX
  replace XQ := Lib.hid (XQ.out.below hbb)
  replace FQ := Lib.hid (FQ.out.below hbb YQ.out)
  replace YQ := Lib.hid (Nat.lt_of_lt_of_le YQ.out hbb.size)
  replace ZQ := YQ
  have XS := Lib.hid (BxS.of_blk (s := ⟨rl, ru⟩) hblk)
  have FS := Lib.hid (FzS.of_blk hblk)
  have YS : Hid (gS < w15.heap.size) := Lib.hid (by rw [hbx, hgS]; simp)
  have ZS := YS
  have WS : Hid (w0.heap.size ≤ gS) := Lib.hid (by rw [hgS]; exact HBw14.out.size)
  have HWX := Lib.hid hbx
  have HGX := Lib.hid hgS
  clear hbx hbb hblk hgS
  go_upto_region 10 with fail
  rw [← HWX.out, ← HGX.out]
  clear HWX HGX
  obtain ⟨qS0, qS1⟩ := XS.out
  simp only at qS0 qS1
  obtain ⟨k20, k21, f20, f21, hfin⟩ := FIN.out w15 HBw15.out
  obtain ⟨w9, hw9⟩ : ∃ w9, w9 = (w15.setCell ⟨w.heap.size + 1, 0, none⟩ (.float .f64 rl)).setCell ⟨w.heap.size + 1, 1, none⟩ (.float .f64 ru) := ⟨_, rfl⟩
  have HQ := Lib.hid (hfin _ hw9)
  have HW9 := Lib.hid hw9
  clear hfin hw9
  go_wp2_with fail
  rw [← HW9.out]
  obtain ⟨hb9, q0, q1⟩ := HQ.out
  (try simp only [Exit.inBlock, Exit.then])
  refine bodyPost_ret (v := .tuple #[.agg #[.float .f64 rl, .float .f64 ru], .int .i64 0]) (by simp [results, Tryz.results6, go_sem, q0, q1]; done) rfl ?_
  exact ⟨rfl, hb9⟩

end Go.Proofs.YtkfhbnfoiicioaaGreatDoor
