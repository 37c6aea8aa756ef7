import Derived.Test.YtkfhbnfoiicioaaGreatDoorX19
import Derived.Deep.Cut
import Derived.Deep.DeepCutAuto
set_option linter.unusedSimpArgs false
set_option linter.unusedVariables false
/- girderref29.Stress: the walks (printed by gen_q12.py) -/
namespace Go.Proofs.YtkfhbnfoiicioaaGreatDoor
open Go.RowKit Go.Sort

/-- four quotients of two spans -/
structure FourR (a b : Spn) (D : Nat → Nat → Int → Nat) : Prop where
  h00 : OvC a.lo b.lo D
  h01 : OvC a.lo b.hi D
  h10 : OvC a.hi b.lo D
  h11 : OvC a.hi b.hi D
def AddR (x y : Nat) (m : Int) (r : Nat) : Prop := ∀ w, Calls Tryz.prog 45 #[.float .f64 x, .float .f64 y, .int .i8 m] w fun e w' => e = .returned (.float .f64 r) ∧ Below w.heap.size w w'

set_option maxRecDepth 100000 in
set_option maxHeartbeats 8000000 in
theorem bad29 (n ma mb : Spn) (ar wd : Nat) (w : World) (h : (n.ok && (ma.ok && (mb.ok && (numB ar && numB wd)))) = false) :
    Calls Tryz.prog 7 #[.agg #[.float .f64 n.lo, .float .f64 n.hi, .float .f64 ma.lo, .float .f64 ma.hi, .float .f64 mb.lo, .float .f64 mb.hi], .float .f64 ar, .float .f64 wd] w fun e w' => e = .returned (.tuple #[.agg #[.float .f64 0, .float .f64 0], .int .i64 2]) ∧ Below w.heap.size w w' := by
  have I1 := Lib.hid (fun w => right05_any n w)
  have I2 := Lib.hid (fun w => right05_any ma w)
  have I3 := Lib.hid (fun w => right05_any mb w)
  have I4 := Lib.hid (fun w => number29 ar w)
  have I5 := Lib.hid (fun w => number29 wd w)
  have ok1 : n.ok = spB n.lo n.hi := rfl
  have ok2 : ma.ok = spB ma.lo ma.hi := rfl
  have ok3 : mb.ok = spB mb.lo mb.hi := rfl
  rw [ok1, ok2, ok3] at h
  obtain ⟨n0, n1⟩ := n
  obtain ⟨a0, a1⟩ := ma
  obtain ⟨b0, b1⟩ := mb
  simp only at I1 I2 I3 h ⊢
  obtain ⟨w0, hw0⟩ : ∃ w0, w0 = (w.alloc (.cells #[.float .f64 n0, .float .f64 n1, .float .f64 a0, .float .f64 a1, .float .f64 b0, .float .f64 b1] 26)).alloc (.cells #[.float .f64 0, .float .f64 0] 24) := ⟨_, rfl⟩
  have hb0 : Below w.heap.size w w0 := by rw [hw0]; exact below2 ..
  have z0 : w0.heap.size = w.heap.size + 2 := by rw [hw0]; simp
  have g1 : w0.heap[w.heap.size]? = some (.cells #[.float .f64 n0, .float .f64 n1, .float .f64 a0, .float .f64 a1, .float .f64 b0, .float .f64 b1] 26 (0, 0)) := by
    rw [hw0]; exact ((below1 (w.alloc _) _).block w.heap.size (by simp)).trans (blk_new w _ _)
  have g2 : w0.heap[w.heap.size + 1]? = some (.cells #[.float .f64 0, .float .f64 0] 24 (0, 0)) := by
    rw [hw0]
    have h := blk_new (w.alloc (.cells #[.float .f64 n0, .float .f64 n1, .float .f64 a0, .float .f64 a1, .float .f64 b0, .float .f64 b1] 26)) #[.float .f64 0, .float .f64 0] 24
    rwa [World.size_alloc] at h
  have G1 := Lib.hid g1
  have G2 := Lib.hid g2
  have HB0 := Lib.hid hb0
  have HW0 := Lib.hid hw0
  have fin : ∀ (w1 : World), Below w0.heap.size w0 w1 → w1.cell? ⟨w.heap.size + 1, 0, none⟩ = some (.float .f64 0) ∧ w1.cell? ⟨w.heap.size + 1, 1, none⟩ = some (.float .f64 0) ∧ w1.frozen? ⟨w.heap.size + 1, 0, none⟩ = false ∧ w1.frozen? ⟨w.heap.size + 1, 1, none⟩ = false ∧ ∀ w8, w8 = (w1.setCell ⟨w.heap.size + 1, 0, none⟩ (.float .f64 0)).setCell ⟨w.heap.size + 1, 1, none⟩ (.float .f64 0) → Below w.heap.size w w8 ∧ BxS w8 (w.heap.size + 1) ⟨0, 0⟩ := by
    intro w1 hb1
    have zz1 := hb1.size
    obtain ⟨hk2, hf2⟩ := blk_cs ((hb1.block (w.heap.size + 1) (by omega)).trans G2.out)
    refine ⟨hk2 0, hk2 1, hf2 0, hf2 1, fun w8 hw8 => ?_⟩
    obtain ⟨hu8, hq⟩ := spn_set (hk2 0) (hk2 1) _ _ _ hw8
    exact ⟨HB0.out.trans ((hb1.mono HB0.out.size).trans (hu8.below (by omega) (by omega))), hq⟩
  have FIN := Lib.hid fin
  have KN : Hid (∀ w1 : World, Below w0.heap.size w0 w1 → w1.cell? ⟨w.heap.size, 0, none⟩ = some (.float .f64 n0) ∧ w1.cell? ⟨w.heap.size, 1, none⟩ = some (.float .f64 n1) ∧ w1.cell? ⟨w.heap.size, 2, none⟩ = some (.float .f64 a0) ∧ w1.cell? ⟨w.heap.size, 3, none⟩ = some (.float .f64 a1) ∧ w1.cell? ⟨w.heap.size, 4, none⟩ = some (.float .f64 b0) ∧ w1.cell? ⟨w.heap.size, 5, none⟩ = some (.float .f64 b1)) := Lib.hid (by
    intro w1 hb1
    obtain ⟨hk, _⟩ := blk_cs ((hb1.block w.heap.size (by omega)).trans G1.out)
    exact ⟨hk 0, hk 1, hk 2, hk 3, hk 4, hk 5⟩)
  clear ok1 ok2 ok3 hw0 hb0 g1 g2 fin
  generalize spB n0 n1 = p1 at *
  generalize spB a0 a1 = p2 at *
  generalize spB b0 b1 = p3 at *
  generalize numB ar = p4 at *
  generalize numB wd = p5 at *
  cases p1
  · clear h
    go_enter Tryz.func7, Tryz.ntmps7
    go_wp2_with fail
    rw [← HW0.out]
    refine (I1.out w0).mono ?_
    rintro e w1 ⟨rfl, hb⟩
    have HBw1 := Lib.hid hb
    clear hb
    obtain ⟨k20, k21, f20, f21, hfin⟩ := FIN.out w1 HBw1.out
    obtain ⟨w8, hw8⟩ : ∃ w8, w8 = (w1.setCell ⟨w.heap.size + 1, 0, none⟩ (.float .f64 0)).setCell ⟨w.heap.size + 1, 1, none⟩ (.float .f64 0) := ⟨_, rfl⟩
    have HQ := Lib.hid (hfin _ hw8)
    have HW8 := Lib.hid hw8
    clear hfin hw8
    go_wp2_with fail
    rw [← HW8.out]
    obtain ⟨hb8, q0, q1⟩ := HQ.out
    (try simp only [Exit.inBlock, Exit.then])
    refine bodyPost_ret (v := .tuple #[.agg #[.float .f64 0, .float .f64 0], .int .i64 2]) (by simp [results, Tryz.results7, go_sem, q0, q1]; done) rfl ?_
    exact ⟨rfl, hb8⟩
  · skip
    cases p2
    · clear h
      go_enter Tryz.func7, Tryz.ntmps7
      go_wp2_with fail
      rw [← HW0.out]
      refine (I1.out w0).mono ?_
      rintro e w1 ⟨rfl, hb⟩
      have HBw1 := Lib.hid hb
      clear hb
      obtain ⟨c0, c1, c2, c3, c4, c5⟩ := KN.out w1 HBw1.out
      go_wp2_with fail
      clear c0 c1 c2 c3 c4 c5
      refine (I2.out w1).mono ?_
      rintro e w2 ⟨rfl, hb⟩
      have HBw2 := Lib.hid (HBw1.out.trans (hb.mono HBw1.out.size))
      clear hb
      obtain ⟨k20, k21, f20, f21, hfin⟩ := FIN.out w2 HBw2.out
      obtain ⟨w8, hw8⟩ : ∃ w8, w8 = (w2.setCell ⟨w.heap.size + 1, 0, none⟩ (.float .f64 0)).setCell ⟨w.heap.size + 1, 1, none⟩ (.float .f64 0) := ⟨_, rfl⟩
      have HQ := Lib.hid (hfin _ hw8)
      have HW8 := Lib.hid hw8
      clear hfin hw8
      go_wp2_with fail
      rw [← HW8.out]
      obtain ⟨hb8, q0, q1⟩ := HQ.out
      (try simp only [Exit.inBlock, Exit.then])
      refine bodyPost_ret (v := .tuple #[.agg #[.float .f64 0, .float .f64 0], .int .i64 2]) (by simp [results, Tryz.results7, go_sem, q0, q1]; done) rfl ?_
      exact ⟨rfl, hb8⟩
    · skip
      cases p3
      · clear h
        go_enter Tryz.func7, Tryz.ntmps7
        go_wp2_with fail
        rw [← HW0.out]
        refine (I1.out w0).mono ?_
        rintro e w1 ⟨rfl, hb⟩
        have HBw1 := Lib.hid hb
        clear hb
        obtain ⟨c0, c1, c2, c3, c4, c5⟩ := KN.out w1 HBw1.out
        go_wp2_with fail
        clear c0 c1 c2 c3 c4 c5
        refine (I2.out w1).mono ?_
        rintro e w2 ⟨rfl, hb⟩
        have HBw2 := Lib.hid (HBw1.out.trans (hb.mono HBw1.out.size))
        clear hb
        obtain ⟨c0, c1, c2, c3, c4, c5⟩ := KN.out w2 HBw2.out
        go_wp2_with fail
        clear c0 c1 c2 c3 c4 c5
        refine (I3.out w2).mono ?_
        rintro e w3 ⟨rfl, hb⟩
        have HBw3 := Lib.hid (HBw2.out.trans (hb.mono HBw2.out.size))
        clear hb
        obtain ⟨k20, k21, f20, f21, hfin⟩ := FIN.out w3 HBw3.out
        obtain ⟨w8, hw8⟩ : ∃ w8, w8 = (w3.setCell ⟨w.heap.size + 1, 0, none⟩ (.float .f64 0)).setCell ⟨w.heap.size + 1, 1, none⟩ (.float .f64 0) := ⟨_, rfl⟩
        have HQ := Lib.hid (hfin _ hw8)
        have HW8 := Lib.hid hw8
        clear hfin hw8
        go_wp2_with fail
        rw [← HW8.out]
        obtain ⟨hb8, q0, q1⟩ := HQ.out
        (try simp only [Exit.inBlock, Exit.then])
        refine bodyPost_ret (v := .tuple #[.agg #[.float .f64 0, .float .f64 0], .int .i64 2]) (by simp [results, Tryz.results7, go_sem, q0, q1]; done) rfl ?_
        exact ⟨rfl, hb8⟩
      · skip
        cases p4
        · clear h
          go_enter Tryz.func7, Tryz.ntmps7
          go_wp2_with fail
          rw [← HW0.out]
          refine (I1.out w0).mono ?_
          rintro e w1 ⟨rfl, hb⟩
          have HBw1 := Lib.hid hb
          clear hb
          obtain ⟨c0, c1, c2, c3, c4, c5⟩ := KN.out w1 HBw1.out
          go_wp2_with fail
          clear c0 c1 c2 c3 c4 c5
          refine (I2.out w1).mono ?_
          rintro e w2 ⟨rfl, hb⟩
          have HBw2 := Lib.hid (HBw1.out.trans (hb.mono HBw1.out.size))
          clear hb
          obtain ⟨c0, c1, c2, c3, c4, c5⟩ := KN.out w2 HBw2.out
          go_wp2_with fail
          clear c0 c1 c2 c3 c4 c5
          refine (I3.out w2).mono ?_
          rintro e w3 ⟨rfl, hb⟩
          have HBw3 := Lib.hid (HBw2.out.trans (hb.mono HBw2.out.size))
          clear hb
          obtain ⟨c0, c1, c2, c3, c4, c5⟩ := KN.out w3 HBw3.out
          go_wp2_with fail
          clear c0 c1 c2 c3 c4 c5
          refine (I4.out w3).mono ?_
          rintro e wz ⟨rfl, rfl⟩
          obtain ⟨k20, k21, f20, f21, hfin⟩ := FIN.out w3 HBw3.out
          obtain ⟨w8, hw8⟩ : ∃ w8, w8 = (w3.setCell ⟨w.heap.size + 1, 0, none⟩ (.float .f64 0)).setCell ⟨w.heap.size + 1, 1, none⟩ (.float .f64 0) := ⟨_, rfl⟩
          have HQ := Lib.hid (hfin _ hw8)
          have HW8 := Lib.hid hw8
          clear hfin hw8
          go_wp2_with fail
          rw [← HW8.out]
          obtain ⟨hb8, q0, q1⟩ := HQ.out
          (try simp only [Exit.inBlock, Exit.then])
          refine bodyPost_ret (v := .tuple #[.agg #[.float .f64 0, .float .f64 0], .int .i64 2]) (by simp [results, Tryz.results7, go_sem, q0, q1]; done) rfl ?_
          exact ⟨rfl, hb8⟩
        · skip
          cases p5
          · clear h
            go_enter Tryz.func7, Tryz.ntmps7
            go_wp2_with fail
            rw [← HW0.out]
            refine (I1.out w0).mono ?_
            rintro e w1 ⟨rfl, hb⟩
            have HBw1 := Lib.hid hb
            clear hb
            obtain ⟨c0, c1, c2, c3, c4, c5⟩ := KN.out w1 HBw1.out
            go_wp2_with fail
            clear c0 c1 c2 c3 c4 c5
            refine (I2.out w1).mono ?_
            rintro e w2 ⟨rfl, hb⟩
            have HBw2 := Lib.hid (HBw1.out.trans (hb.mono HBw1.out.size))
            clear hb
            obtain ⟨c0, c1, c2, c3, c4, c5⟩ := KN.out w2 HBw2.out
            go_wp2_with fail
            clear c0 c1 c2 c3 c4 c5
            refine (I3.out w2).mono ?_
            rintro e w3 ⟨rfl, hb⟩
            have HBw3 := Lib.hid (HBw2.out.trans (hb.mono HBw2.out.size))
            clear hb
            obtain ⟨c0, c1, c2, c3, c4, c5⟩ := KN.out w3 HBw3.out
            go_wp2_with fail
            clear c0 c1 c2 c3 c4 c5
            refine (I4.out w3).mono ?_
            rintro e wz ⟨rfl, rfl⟩
            obtain ⟨c0, c1, c2, c3, c4, c5⟩ := KN.out w3 HBw3.out
            go_wp2_with fail
            clear c0 c1 c2 c3 c4 c5
            refine (I5.out w3).mono ?_
            rintro e wz ⟨rfl, rfl⟩
            obtain ⟨k20, k21, f20, f21, hfin⟩ := FIN.out w3 HBw3.out
            obtain ⟨w8, hw8⟩ : ∃ w8, w8 = (w3.setCell ⟨w.heap.size + 1, 0, none⟩ (.float .f64 0)).setCell ⟨w.heap.size + 1, 1, none⟩ (.float .f64 0) := ⟨_, rfl⟩
            have HQ := Lib.hid (hfin _ hw8)
            have HW8 := Lib.hid hw8
            clear hfin hw8
            go_wp2_with fail
            rw [← HW8.out]
            obtain ⟨hb8, q0, q1⟩ := HQ.out
            (try simp only [Exit.inBlock, Exit.then])
            refine bodyPost_ret (v := .tuple #[.agg #[.float .f64 0, .float .f64 0], .int .i64 2]) (by simp [results, Tryz.results7, go_sem, q0, q1]; done) rfl ?_
            exact ⟨rfl, hb8⟩
          · skip
            exact absurd h (by decide)

set_option maxRecDepth 100000 in
set_option maxHeartbeats 8000000 in
theorem stress29 (n ma mb : Spn) (ar wd : Nat) (D : Nat → Nat → Int → Nat) (rl ru : Nat) (w : World) (h : (n.ok && (ma.ok && (mb.ok && (numB ar && numB wd)))) = true)
    (ln : n.lo < 18446744073709551616 ∧ n.hi < 18446744073709551616) (la : ma.lo < 18446744073709551616 ∧ ma.hi < 18446744073709551616) (lb : mb.lo < 18446744073709551616 ∧ mb.hi < 18446744073709551616)
    (h1 : FourR (absS n) ⟨ar, ar⟩ D) (h2 : FourR (greS (absS ma) (absS mb)) ⟨wd, wd⟩ D) (k1 : (absS n).ok = true) (k2 : (greS (absS ma) (absS mb)).ok = true) (k3 : Spn.ok ⟨ar, ar⟩ = true) (k4 : Spn.ok ⟨wd, wd⟩ = true) (z1 : fle ar 0 = false) (z2 : fle wd 0 = false)
    (nA : fnan (absS ma).lo = false ∧ fnan (absS ma).hi = false) (nB : fnan (absS mb).lo = false ∧ fnan (absS mb).hi = false)
    (k5 : (corS (absS n) ⟨ar, ar⟩ D).ok = true) (k6 : (corS (greS (absS ma) (absS mb)) ⟨wd, wd⟩ D).ok = true)
    (a1 : AddR (corS (absS n) ⟨ar, ar⟩ D).lo (corS (greS (absS ma) (absS mb)) ⟨wd, wd⟩ D).lo 1 rl) (a2 : AddR (corS (absS n) ⟨ar, ar⟩ D).hi (corS (greS (absS ma) (absS mb)) ⟨wd, wd⟩ D).hi 2 ru) :
    Calls Tryz.prog 7 #[.agg #[.float .f64 n.lo, .float .f64 n.hi, .float .f64 ma.lo, .float .f64 ma.hi, .float .f64 mb.lo, .float .f64 mb.hi], .float .f64 ar, .float .f64 wd] w fun e w' => e = .returned (.tuple #[.agg #[.float .f64 rl, .float .f64 ru], .int .i64 0]) ∧ Below w.heap.size w w' := by
  simp only [Bool.and_eq_true] at h
  obtain ⟨o1, o2, o3, o4, o5⟩ := h
  have I1 := Lib.hid (fun w => right05_any n w)
  have I2 := Lib.hid (fun w => right05_any ma w)
  have I3 := Lib.hid (fun w => right05_any mb w)
  have I4 := Lib.hid (fun w => number29 ar w)
  have I5 := Lib.hid (fun w => number29 wd w)
  have ok1 : spB n.lo n.hi = true := o1
  have ok2 : spB ma.lo ma.hi = true := o2
  have ok3 : spB mb.lo mb.hi = true := o3
  rw [ok1] at I1
  rw [ok2] at I2
  rw [ok3] at I3
  rw [o4] at I4
  rw [o5] at I5
  have J1 := Lib.hid (fun w => abs05 n w ln.1 ln.2 o1)
  have J2 := Lib.hid (fun w => abs05 ma w la.1 la.2 o2)
  have J3 := Lib.hid (fun w => abs05 mb w lb.1 lb.2 o3)
  obtain ⟨lA1, lA2⟩ := absS_lt la.1 la.2
  obtain ⟨lB1, lB2⟩ := absS_lt lb.1 lb.2
  have J4 := Lib.hid (fun w => greater29 (absS ma).lo (absS mb).lo w lA1 lB1 nA.1 nB.1)
  have J5 := Lib.hid (fun w => greater29 (absS ma).hi (absS mb).hi w lA2 lB2 nA.2 nB.2)
  have J6 := Lib.hid (fun w => div05 (absS n) ⟨ar, ar⟩ D w h1.h00 h1.h01 h1.h10 h1.h11 k1 k3 z1)
  have J7 := Lib.hid (fun w => div05 (greS (absS ma) (absS mb)) ⟨wd, wd⟩ D w h2.h00 h2.h01 h2.h10 h2.h11 k2 k4 z2)
  have J8 := Lib.hid (fun w => add05 (corS (absS n) ⟨ar, ar⟩ D) (corS (greS (absS ma) (absS mb)) ⟨wd, wd⟩ D) rl ru w k5 k6 a1 a2)
  clear h1 h2 k1 k2 k3 k4 z1 z2 k5 k6 a1 a2 o1 o2 o3 o4 o5 ok1 ok2 ok3 lA1 lA2 lB1 lB2 ln la lb
  obtain ⟨N, hN⟩ : ∃ N, N = absS n := ⟨_, rfl⟩
  obtain ⟨A, hA⟩ : ∃ A, A = absS ma := ⟨_, rfl⟩
  obtain ⟨B, hB⟩ : ∃ B, B = absS mb := ⟨_, rfl⟩
  rw [← hN] at J1 J6 J8
  rw [← hA] at J2 J4 J5 J7 J8
  rw [← hB] at J3 J4 J5 J7 J8
  obtain ⟨m0, hm0⟩ : ∃ m0, m0 = greF A.lo B.lo := ⟨_, rfl⟩
  obtain ⟨m1, hm1⟩ : ∃ m1, m1 = greF A.hi B.hi := ⟨_, rfl⟩
  have hM : greS A B = ⟨m0, m1⟩ := by rw [hm0, hm1]; rfl
  rw [← hm0] at J4
  rw [← hm1] at J5
  rw [hM] at J7 J8
  obtain ⟨x0, hx0⟩ : ∃ x, x = corL N ⟨ar, ar⟩ D 3 := ⟨_, rfl⟩
  obtain ⟨x1, hx1⟩ : ∃ x, x = corH N ⟨ar, ar⟩ D 3 := ⟨_, rfl⟩
  obtain ⟨y0, hy0⟩ : ∃ x, x = corL ⟨m0, m1⟩ ⟨wd, wd⟩ D 3 := ⟨_, rfl⟩
  obtain ⟨y1, hy1⟩ : ∃ x, x = corH ⟨m0, m1⟩ ⟨wd, wd⟩ D 3 := ⟨_, rfl⟩
  rw [← hx0, ← hx1] at J6
  rw [← hy0, ← hy1] at J7
  have hX : corS N ⟨ar, ar⟩ D = ⟨x0, x1⟩ := by rw [hx0, hx1]; rfl
  have hY : corS ⟨m0, m1⟩ ⟨wd, wd⟩ D = ⟨y0, y1⟩ := by rw [hy0, hy1]; rfl
  rw [hX, hY] at J8
  clear hm0 hm1 hM hx0 hx1 hy0 hy1 hX hY hN hA hB
  obtain ⟨N0, N1⟩ := N
  obtain ⟨A0, A1⟩ := A
  obtain ⟨B0, B1⟩ := B
  obtain ⟨n0, n1⟩ := n
  obtain ⟨a0, a1⟩ := ma
  obtain ⟨b0, b1⟩ := mb
  simp only at I1 I2 I3 J1 J2 J3 J4 J5 J6 J7 J8 ⊢
  obtain ⟨w0, hw0⟩ : ∃ w0, w0 = (w.alloc (.cells #[.float .f64 n0, .float .f64 n1, .float .f64 a0, .float .f64 a1, .float .f64 b0, .float .f64 b1] 26)).alloc (.cells #[.float .f64 0, .float .f64 0] 24) := ⟨_, rfl⟩
  have hb0 : Below w.heap.size w w0 := by rw [hw0]; exact below2 ..
  have z0 : w0.heap.size = w.heap.size + 2 := by rw [hw0]; simp
  have g1 : w0.heap[w.heap.size]? = some (.cells #[.float .f64 n0, .float .f64 n1, .float .f64 a0, .float .f64 a1, .float .f64 b0, .float .f64 b1] 26 (0, 0)) := by
    rw [hw0]; exact ((below1 (w.alloc _) _).block w.heap.size (by simp)).trans (blk_new w _ _)
  have g2 : w0.heap[w.heap.size + 1]? = some (.cells #[.float .f64 0, .float .f64 0] 24 (0, 0)) := by
    rw [hw0]
    have h := blk_new (w.alloc (.cells #[.float .f64 n0, .float .f64 n1, .float .f64 a0, .float .f64 a1, .float .f64 b0, .float .f64 b1] 26)) #[.float .f64 0, .float .f64 0] 24
    rwa [World.size_alloc] at h
  have G1 := Lib.hid g1
  have G2 := Lib.hid g2
  have HB0 := Lib.hid hb0
  have HW0 := Lib.hid hw0
  have fin : ∀ (w1 : World), Below w0.heap.size w0 w1 → w1.cell? ⟨w.heap.size + 1, 0, none⟩ = some (.float .f64 0) ∧ w1.cell? ⟨w.heap.size + 1, 1, none⟩ = some (.float .f64 0) ∧ w1.frozen? ⟨w.heap.size + 1, 0, none⟩ = false ∧ w1.frozen? ⟨w.heap.size + 1, 1, none⟩ = false ∧ ∀ w8, w8 = (w1.setCell ⟨w.heap.size + 1, 0, none⟩ (.float .f64 rl)).setCell ⟨w.heap.size + 1, 1, none⟩ (.float .f64 ru) → Below w.heap.size w w8 ∧ BxS w8 (w.heap.size + 1) ⟨rl, ru⟩ := by
    intro w1 hb1
    have zz1 := hb1.size
    obtain ⟨hk2, hf2⟩ := blk_cs ((hb1.block (w.heap.size + 1) (by omega)).trans G2.out)
    refine ⟨hk2 0, hk2 1, hf2 0, hf2 1, fun w8 hw8 => ?_⟩
    obtain ⟨hu8, hq⟩ := spn_set (hk2 0) (hk2 1) _ _ _ hw8
    exact ⟨HB0.out.trans ((hb1.mono HB0.out.size).trans (hu8.below (by omega) (by omega))), hq⟩
  have FIN := Lib.hid fin
  have KN : Hid (∀ w1 : World, Below w0.heap.size w0 w1 → w1.cell? ⟨w.heap.size, 0, none⟩ = some (.float .f64 n0) ∧ w1.cell? ⟨w.heap.size, 1, none⟩ = some (.float .f64 n1) ∧ w1.cell? ⟨w.heap.size, 2, none⟩ = some (.float .f64 a0) ∧ w1.cell? ⟨w.heap.size, 3, none⟩ = some (.float .f64 a1) ∧ w1.cell? ⟨w.heap.size, 4, none⟩ = some (.float .f64 b0) ∧ w1.cell? ⟨w.heap.size, 5, none⟩ = some (.float .f64 b1)) := Lib.hid (by
    intro w1 hb1
    obtain ⟨hk, _⟩ := blk_cs ((hb1.block w.heap.size (by omega)).trans G1.out)
    exact ⟨hk 0, hk 1, hk 2, hk 3, hk 4, hk 5⟩)
  clear hw0 hb0 g1 g2 fin
  go_enter Tryz.func7, Tryz.ntmps7
  go_wp2_with fail
  rw [← HW0.out]
  refine (I1.out w0).mono ?_
  rintro e w1 ⟨rfl, hb⟩
  have HBw1 := Lib.hid hb
  clear hb
  obtain ⟨c0, c1, c2, c3, c4, c5⟩ := KN.out w1 HBw1.out
  go_wp2_with fail
  clear c0 c1 c2 c3 c4 c5
  refine (I2.out w1).mono ?_
  rintro e w2 ⟨rfl, hb⟩
  have HBw2 := Lib.hid (HBw1.out.trans (hb.mono HBw1.out.size))
  clear hb
  obtain ⟨c0, c1, c2, c3, c4, c5⟩ := KN.out w2 HBw2.out
  go_wp2_with fail
  clear c0 c1 c2 c3 c4 c5
  refine (I3.out w2).mono ?_
  rintro e w3 ⟨rfl, hb⟩
  have HBw3 := Lib.hid (HBw2.out.trans (hb.mono HBw2.out.size))
  clear hb
  go_wp2_with fail
  refine (I4.out w3).mono ?_
  rintro e wz ⟨rfl, rfl⟩
  go_wp2_with fail
  refine (I5.out w3).mono ?_
  rintro e wz ⟨rfl, rfl⟩
  go_upto_region 3 with fail
  obtain ⟨c0, c1, c2, c3, c4, c5⟩ := KN.out w3 HBw3.out
  go_wp2_with fail
  clear c0 c1 c2 c3 c4 c5
  refine (J1.out w3).mono ?_
  rintro e w4 ⟨rfl, hb⟩
  have HBw4 := Lib.hid (HBw3.out.trans (hb.mono HBw3.out.size))
  clear hb
  obtain ⟨w5, hbx⟩ : ∃ w5, w5 = w4.alloc (.cells #[.float .f64 N0, .float .f64 N1] 24) := ⟨_, rfl⟩
  have hbb : Below w4.heap.size w4 w5 := by rw [hbx]; exact below1 ..
  obtain ⟨gN, hgN⟩ : ∃ g, g = w4.heap.size := ⟨_, rfl⟩
  have hblk : w5.heap[gN]? = some (.cells #[.float .f64 N0, .float .f64 N1] 24 (0, 0)) := by rw [hbx, hgN]; exact blk_new ..
  have HBw5 := Lib.hid (HBw4.out.trans (hbb.mono HBw4.out.size))
  have XN := Lib.hid (BxS.of_blk (s := ⟨N0, N1⟩) hblk)
  have FN := Lib.hid (FzS.of_blk hblk)
  have YN : Hid (gN < w5.heap.size) := Lib.hid (by rw [hbx, hgN]; simp)
  have ZN := YN
  have WN : Hid (w0.heap.size ≤ gN) := Lib.hid (by rw [hgN]; exact HBw4.out.size)
  have HWX := Lib.hid hbx
  have HGX := Lib.hid hgN
  clear hbx hbb hblk hgN
  go_upto_region 4 with fail
  rw [← HWX.out, ← HGX.out]
  clear HWX HGX
  obtain ⟨c0, c1, c2, c3, c4, c5⟩ := KN.out w5 HBw5.out
  go_wp2_with fail
  clear c0 c1 c2 c3 c4 c5
  refine (J2.out w5).mono ?_
  rintro e w6 ⟨rfl, hb⟩
  have HBw6 := Lib.hid (HBw5.out.trans (hb.mono HBw5.out.size))
  replace XN := Lib.hid (XN.out.below hb)
  replace ZN := Lib.hid (Nat.lt_of_lt_of_le ZN.out hb.size)
  replace FN := Lib.hid (FN.out.below hb YN.out)
  replace YN := ZN
  clear hb
  obtain ⟨w7, hbx⟩ : ∃ w7, w7 = w6.alloc (.cells #[.float .f64 A0, .float .f64 A1] 24) := ⟨_, rfl⟩
  have hbb : Below w6.heap.size w6 w7 := by rw [hbx]; exact below1 ..
  obtain ⟨gA, hgA⟩ : ∃ g, g = w6.heap.size := ⟨_, rfl⟩
  have hblk : w7.heap[gA]? = some (.cells #[.float .f64 A0, .float .f64 A1] 24 (0, 0)) := by rw [hbx, hgA]; exact blk_new ..
  have HBw7 := Lib.hid (HBw6.out.trans (hbb.mono HBw6.out.size))
  have NNA : Hid (gN ≠ gA) := Lib.hid (by have := YN.out; omega)
  replace XN := Lib.hid (XN.out.below hbb)
  replace FN := Lib.hid (FN.out.below hbb YN.out)
  replace YN := Lib.hid (Nat.lt_of_lt_of_le YN.out hbb.size)
  replace ZN := YN
  have XA := Lib.hid (BxS.of_blk (s := ⟨A0, A1⟩) hblk)
  have FA := Lib.hid (FzS.of_blk hblk)
  have YA : Hid (gA < w7.heap.size) := Lib.hid (by rw [hbx, hgA]; simp)
  have ZA := YA
  have WA : Hid (w0.heap.size ≤ gA) := Lib.hid (by rw [hgA]; exact HBw6.out.size)
  have HWX := Lib.hid hbx
  have HGX := Lib.hid hgA
  clear hbx hbb hblk hgA
  go_upto_region 5 with fail
  rw [← HWX.out, ← HGX.out]
  clear HWX HGX
  obtain ⟨c0, c1, c2, c3, c4, c5⟩ := KN.out w7 HBw7.out
  go_wp2_with fail
  clear c0 c1 c2 c3 c4 c5
  refine (J3.out w7).mono ?_
  rintro e w8 ⟨rfl, hb⟩
  have HBw8 := Lib.hid (HBw7.out.trans (hb.mono HBw7.out.size))
  replace XN := Lib.hid (XN.out.below hb)
  replace ZN := Lib.hid (Nat.lt_of_lt_of_le ZN.out hb.size)
  replace XA := Lib.hid (XA.out.below hb)
  replace ZA := Lib.hid (Nat.lt_of_lt_of_le ZA.out hb.size)
  replace FN := Lib.hid (FN.out.below hb YN.out)
  replace FA := Lib.hid (FA.out.below hb YA.out)
  replace YN := ZN
  replace YA := ZA
  clear hb
  obtain ⟨w9, hbx⟩ : ∃ w9, w9 = w8.alloc (.cells #[.float .f64 B0, .float .f64 B1] 24) := ⟨_, rfl⟩
  have hbb : Below w8.heap.size w8 w9 := by rw [hbx]; exact below1 ..
  obtain ⟨gB, hgB⟩ : ∃ g, g = w8.heap.size := ⟨_, rfl⟩
  have hblk : w9.heap[gB]? = some (.cells #[.float .f64 B0, .float .f64 B1] 24 (0, 0)) := by rw [hbx, hgB]; exact blk_new ..
  have HBw9 := Lib.hid (HBw8.out.trans (hbb.mono HBw8.out.size))
  have NNB : Hid (gN ≠ gB) := Lib.hid (by have := YN.out; omega)
  have NAB : Hid (gA ≠ gB) := Lib.hid (by have := YA.out; omega)
  replace XN := Lib.hid (XN.out.below hbb)
  replace FN := Lib.hid (FN.out.below hbb YN.out)
  replace YN := Lib.hid (Nat.lt_of_lt_of_le YN.out hbb.size)
  replace ZN := YN
  replace XA := Lib.hid (XA.out.below hbb)
  replace FA := Lib.hid (FA.out.below hbb YA.out)
  replace YA := Lib.hid (Nat.lt_of_lt_of_le YA.out hbb.size)
  replace ZA := YA
  have XB := Lib.hid (BxS.of_blk (s := ⟨B0, B1⟩) hblk)
  have FB := Lib.hid (FzS.of_blk hblk)
  have YB : Hid (gB < w9.heap.size) := Lib.hid (by rw [hbx, hgB]; simp)
  have ZB := YB
  have WB : Hid (w0.heap.size ≤ gB) := Lib.hid (by rw [hgB]; exact HBw8.out.size)
  have HWX := Lib.hid hbx
  have HGX := Lib.hid hgB
  clear hbx hbb hblk hgB
  go_upto_region 6 with fail
  rw [← HWX.out, ← HGX.out]
  clear HWX HGX
  obtain ⟨r0, r1⟩ := XA.out
  obtain ⟨s0, s1⟩ := XB.out
  simp only at r0 r1 s0 s1
  obtain ⟨u, hu⟩ : ∃ ux : World, ux = w9.drew := ⟨_, rfl⟩
  have hbu : Below w9.heap.size w9 u := by rw [hu]; exact (Below.refl _ _).drew
  have HU := Lib.hid hu
  have HBu := Lib.hid (HBw9.out.trans (hbu.mono HBw9.out.size))
  replace XN := Lib.hid (XN.out.below hbu)
  replace FN := Lib.hid (FN.out.below hbu YN.out)
  replace YN := Lib.hid (Nat.lt_of_lt_of_le YN.out hbu.size)
  replace XA := Lib.hid (XA.out.below hbu)
  replace FA := Lib.hid (FA.out.below hbu YA.out)
  replace YA := Lib.hid (Nat.lt_of_lt_of_le YA.out hbu.size)
  replace XB := Lib.hid (XB.out.below hbu)
  replace FB := Lib.hid (FB.out.below hbu YB.out)
  replace YB := Lib.hid (Nat.lt_of_lt_of_le YB.out hbu.size)
  clear hu hbu
  refine wp_region_held_drew (S := (fun w' => w'.cell? ⟨gA, 0, none⟩ = some (.float .f64 A0) ∧ w'.cell? ⟨gA, 1, none⟩ = some (.float .f64 A1) ∧ w'.cell? ⟨gB, 0, none⟩ = some (.float .f64 B0) ∧ w'.cell? ⟨gB, 1, none⟩ = some (.float .f64 B1))) (by kernel_rfl) ?_ (fun hHeld => ?_)
  · first | exact True.intro | ((try dsimp only); go_keep)
  refine tkH (i := 0) (v := ?_) rfl (by kernel_rfl) (Or.inl ⟨by kernel_rfl, ?_⟩) (by assumption) ?_
  rotate_left 1
  · (intro w hSw; (try dsimp only at hSw); go_simp; try with_reducible rfl)
  try simp only [lyA, lyB, lyC, Act.put, lyD, lyE, lyF]
  refine tkH (i := 1) (v := ?_) rfl (by kernel_rfl) (Or.inl ⟨by kernel_rfl, ?_⟩) (by assumption) ?_
  rotate_left 1
  · (intro w hSw; (try dsimp only at hSw); go_simp; try with_reducible rfl)
  try simp only [lyA, lyB, lyC, Act.put, lyD, lyE, lyF]
  refine tkH (i := 2) (v := ?_) rfl (by kernel_rfl) (Or.inl ⟨by kernel_rfl, ?_⟩) (by assumption) ?_
  rotate_left 1
  · (intro w hSw; (try dsimp only at hSw); go_simp; try with_reducible rfl)
  try simp only [lyA, lyB, lyC, Act.put, lyD, lyE, lyF]
  refine tkH (i := 3) (v := ?_) rfl (by kernel_rfl) (Or.inl ⟨by kernel_rfl, ?_⟩) (by assumption) ?_
  rotate_left 1
  · (intro w hSw; (try dsimp only at hSw); go_simp; try with_reducible rfl)
  try simp only [lyA, lyB, lyC, Act.put, lyD, lyE, lyF]
  refine tkH (i := 5) (v := ?_) rfl (by kernel_rfl) (Or.inl ⟨by kernel_rfl, ?_⟩) (by assumption) ?_
  rotate_left 1
  · (intro w hSw; (try dsimp only at hSw); go_simp; try with_reducible rfl)
  try simp only [lyA, lyB, lyC, Act.put, lyD, lyE, lyF]
  refine tkH (i := 6) (v := ?_) rfl (by kernel_rfl) (Or.inl ⟨by kernel_rfl, ?_⟩) (by assumption) ?_
  rotate_left 1
  · (intro w hSw; (try dsimp only at hSw); go_simp; try with_reducible rfl)
  try simp only [lyA, lyB, lyC, Act.put, lyD, lyE, lyF]
  refine tkH (i := 7) (v := ?_) rfl (by kernel_rfl) (Or.inl ⟨by kernel_rfl, ?_⟩) (by assumption) ?_
  rotate_left 1
  · (intro w hSw; (try dsimp only at hSw); go_simp; try with_reducible rfl)
  try simp only [lyA, lyB, lyC, Act.put, lyD, lyE, lyF]
  refine tkH (i := 8) (v := ?_) rfl (by kernel_rfl) (Or.inl ⟨by kernel_rfl, ?_⟩) (by assumption) ?_
  rotate_left 1
  · (intro w hSw; (try dsimp only at hSw); go_simp; try with_reducible rfl)
  try simp only [lyA, lyB, lyC, Act.put, lyD, lyE, lyF]
  rw [← HU.out] at hHeld ⊢
  clear r0 r1 s0 s1
  refine wpAnyH_ready (rs := [4, 11]) (by kernel_rfl) (by simp) ?_
  refine AllReadyH.cons rfl (fun K hK => ?_) (AllReadyH.cons rfl (fun K hK => ?_) AllReadyH.nil)
  · skip
    go_simp
    refine (J4.out u).mono ?_
    rintro e wz ⟨rfl, rfl⟩
    try go_wp2_with fail
    refine hK.out _ _ ?_ (fun hHeld => ?_)
    · exact hHeld
    clear hK K
    try simp only [lyA, lyB, lyC, Act.put, lyD, lyE, lyF]
    refine wpAnyH_ready (rs := [9, 11]) (by kernel_rfl) (by simp) ?_
    refine AllReadyH.cons rfl (fun K hK => ?_) (AllReadyH.cons rfl (fun K hK => ?_) AllReadyH.nil)
    · skip
      go_simp
      refine (J5.out u).mono ?_
      rintro e wz ⟨rfl, rfl⟩
      try go_wp2_with fail
      refine hK.out _ _ ?_ (fun hHeld => ?_)
      · exact hHeld
      clear hK K
      try simp only [lyA, lyB, lyC, Act.put, lyD, lyE, lyF]
      refine tkH (i := 10) (v := ?_) rfl (by kernel_rfl) (Or.inl ⟨by kernel_rfl, ?_⟩) (by assumption) ?_
      rotate_left 1
      · (intro w hSw; (try dsimp only at hSw); go_simp; try with_reducible rfl)
      try simp only [lyA, lyB, lyC, Act.put, lyD, lyE, lyF]
      refine wpAnyH_ready (rs := [11]) (by kernel_rfl) (by simp) ?_
      refine AllReadyH.cons rfl (fun K hK => ?_) AllReadyH.nil
      · skip
        obtain ⟨uM, hU⟩ : ∃ ux : World, ux = u.alloc (.cells #[.float .f64 0, .float .f64 0] 24) := ⟨_, rfl⟩
        have hba : Below u.heap.size u uM := by rw [hU]; exact below1 ..
        obtain ⟨gM, hgM⟩ : ∃ g, g = u.heap.size := ⟨_, rfl⟩
        have HGM : Hid (uM.heap[gM]? = some (.cells #[.float .f64 0, .float .f64 0] 24 (0, 0))) := Lib.hid (by rw [hU, hgM]; exact blk_new ..)
        have HLM : Hid (u.heap.size ≤ gM ∧ gM < uM.heap.size) := Lib.hid ⟨by rw [hgM]; exact Nat.le_refl _, by rw [hU, hgM]; simp⟩
        have HBM := Lib.hid hba
        go_simp
        rw [← hU, ← hgM]
        refine hK.out _ _ ?_ (fun hHeld => ?_)
        · exact ⟨bat hba hHeld.1, bat hba hHeld.2.1, bat hba hHeld.2.2.1, bat hba hHeld.2.2.2⟩
        clear hK K hba hU hgM
        try simp only [lyA, lyB, lyC, Act.put, lyD, lyE, lyF]
        refine wpAnyH_ready (rs := [12]) (by kernel_rfl) (by simp) ?_
        refine AllReadyH.cons rfl (fun K hK => ?_) AllReadyH.nil
        obtain ⟨kM, fM⟩ := blk_cs HGM.out
        have km0 := kM 0
        have km1 := kM 1
        have fm0 := fM 0
        have fm1 := fM 1
        simp only [List.getElem?_toArray, List.getElem?_cons_zero, List.getElem?_cons_succ] at km0 km1
        clear kM fM
        obtain ⟨v4, hv4⟩ : ∃ v4, v4 = (uM.setCell ⟨gM, 0, none⟩ (.float .f64 m0)).setCell ⟨gM, 1, none⟩ (.float .f64 m1) := ⟨_, rfl⟩
        obtain ⟨hu8, hq8⟩ := spn_set km0 km1 _ _ _ hv4
        have hfM : FzS v4 gM := by rw [hv4]; exact ((FzS.of_blk HGM.out).set _ _ _).set _ _ _
        go_simp
        rw [← hv4]
        have zg := HLM.out
        have yA := YA.out
        have yB := YB.out
        refine hK.out _ _ ?_ (fun hHeld => ?_)
        · exact ⟨hu8.cell (by omega) (by omega) hHeld.1, hu8.cell (by omega) (by omega) hHeld.2.1, hu8.cell (by omega) (by omega) hHeld.2.2.1, hu8.cell (by omega) (by omega) hHeld.2.2.2⟩
        have XM := Lib.hid hq8
        have FM := Lib.hid hfM
        have hb8 : Below u.heap.size u v4 := HBM.out.trans (hu8.below (by omega) (by omega))
        have YM : Hid (gM < v4.heap.size) := Lib.hid (by have := hu8.size; omega)
        have WM : Hid (w0.heap.size ≤ gM) := Lib.hid (by have := HBu.out.size; omega)
        replace XN := Lib.hid (XN.out.below hb8)
        replace FN := Lib.hid (FN.out.below hb8 YN.out)
        replace YN := Lib.hid (Nat.lt_of_lt_of_le YN.out hb8.size)
        have HBv4 := Lib.hid (HBu.out.trans (hb8.mono HBu.out.size))
        clear hK K hv4 hu8 hq8 hfM km0 km1 fm0 fm1 zg yA yB hb8 XA XB FA FB YA YB
        try simp only [lyA, lyB, lyC, Act.put, lyD, lyE, lyF]
        refine wpAnyH_done (by kernel_rfl) ?_ _
        clear hHeld
        have ZN := YN
        have ZM := YM
        go_upto_region 7 with fail
        obtain ⟨qN0, qN1⟩ := XN.out
        simp only at qN0 qN1
        go_wp2_with fail
        clear qN0 qN1
        refine (J6.out v4).mono ?_
        rintro e w10 ⟨rfl, hb⟩
        have HBw10 := Lib.hid (HBv4.out.trans (hb.mono HBv4.out.size))
        replace XN := Lib.hid (XN.out.below hb)
        replace ZN := Lib.hid (Nat.lt_of_lt_of_le ZN.out hb.size)
        replace XM := Lib.hid (XM.out.below hb)
        replace ZM := Lib.hid (Nat.lt_of_lt_of_le ZM.out hb.size)
        replace FN := Lib.hid (FN.out.below hb YN.out)
        replace FM := Lib.hid (FM.out.below hb YM.out)
        replace YN := ZN
        replace YM := ZM
        clear hb
        obtain ⟨w11, hbx⟩ : ∃ w11, w11 = w10.alloc (.cells #[.float .f64 x0, .float .f64 x1] 24) := ⟨_, rfl⟩
        have hbb : Below w10.heap.size w10 w11 := by rw [hbx]; exact below1 ..
        obtain ⟨gX, hgX⟩ : ∃ g, g = w10.heap.size := ⟨_, rfl⟩
        have hblk : w11.heap[gX]? = some (.cells #[.float .f64 x0, .float .f64 x1] 24 (0, 0)) := by rw [hbx, hgX]; exact blk_new ..
        have HBw11 := Lib.hid (HBw10.out.trans (hbb.mono HBw10.out.size))
        have NNX : Hid (gN ≠ gX) := Lib.hid (by have := YN.out; omega)
        have NMX : Hid (gM ≠ gX) := Lib.hid (by have := YM.out; omega)
        replace XN := Lib.hid (XN.out.below hbb)
        replace FN := Lib.hid (FN.out.below hbb YN.out)
        replace YN := Lib.hid (Nat.lt_of_lt_of_le YN.out hbb.size)
        replace ZN := YN
        replace XM := Lib.hid (XM.out.below hbb)
        replace FM := Lib.hid (FM.out.below hbb YM.out)
        replace YM := Lib.hid (Nat.lt_of_lt_of_le YM.out hbb.size)
        replace ZM := YM
        have XX := Lib.hid (BxS.of_blk (s := ⟨x0, x1⟩) hblk)
        have FX := Lib.hid (FzS.of_blk hblk)
        have YX : Hid (gX < w11.heap.size) := Lib.hid (by rw [hbx, hgX]; simp)
        have ZX := YX
        have WX : Hid (w0.heap.size ≤ gX) := Lib.hid (by rw [hgX]; exact HBw10.out.size)
        have HWX := Lib.hid hbx
        have HGX := Lib.hid hgX
        clear hbx hbb hblk hgX
        go_upto_region 8 with fail
        rw [← HWX.out, ← HGX.out]
        clear HWX HGX
        obtain ⟨qM0, qM1⟩ := XM.out
        simp only at qM0 qM1
        go_wp2_with fail
        clear qM0 qM1
        refine (J7.out w11).mono ?_
        rintro e w12 ⟨rfl, hb⟩
        have HBw12 := Lib.hid (HBw11.out.trans (hb.mono HBw11.out.size))
        replace XN := Lib.hid (XN.out.below hb)
        replace ZN := Lib.hid (Nat.lt_of_lt_of_le ZN.out hb.size)
        replace XM := Lib.hid (XM.out.below hb)
        replace ZM := Lib.hid (Nat.lt_of_lt_of_le ZM.out hb.size)
        replace XX := Lib.hid (XX.out.below hb)
        replace ZX := Lib.hid (Nat.lt_of_lt_of_le ZX.out hb.size)
        replace FN := Lib.hid (FN.out.below hb YN.out)
        replace FM := Lib.hid (FM.out.below hb YM.out)
        replace FX := Lib.hid (FX.out.below hb YX.out)
        replace YN := ZN
        replace YM := ZM
        replace YX := ZX
        clear hb
        obtain ⟨w13, hbx⟩ : ∃ w13, w13 = w12.alloc (.cells #[.float .f64 y0, .float .f64 y1] 24) := ⟨_, rfl⟩
        have hbb : Below w12.heap.size w12 w13 := by rw [hbx]; exact below1 ..
        obtain ⟨gQ, hgQ⟩ : ∃ g, g = w12.heap.size := ⟨_, rfl⟩
        have hblk : w13.heap[gQ]? = some (.cells #[.float .f64 y0, .float .f64 y1] 24 (0, 0)) := by rw [hbx, hgQ]; exact blk_new ..
        have HBw13 := Lib.hid (HBw12.out.trans (hbb.mono HBw12.out.size))
        have NNQ : Hid (gN ≠ gQ) := Lib.hid (by have := YN.out; omega)
        have NMQ : Hid (gM ≠ gQ) := Lib.hid (by have := YM.out; omega)
        have NXQ : Hid (gX ≠ gQ) := Lib.hid (by have := YX.out; omega)
        replace XN := Lib.hid (XN.out.below hbb)
        replace FN := Lib.hid (FN.out.below hbb YN.out)
        replace YN := Lib.hid (Nat.lt_of_lt_of_le YN.out hbb.size)
        replace ZN := YN
        replace XM := Lib.hid (XM.out.below hbb)
        replace FM := Lib.hid (FM.out.below hbb YM.out)
        replace YM := Lib.hid (Nat.lt_of_lt_of_le YM.out hbb.size)
        replace ZM := YM
        replace XX := Lib.hid (XX.out.below hbb)
        replace FX := Lib.hid (FX.out.below hbb YX.out)
        replace YX := Lib.hid (Nat.lt_of_lt_of_le YX.out hbb.size)
        replace ZX := YX
        have XQ := Lib.hid (BxS.of_blk (s := ⟨y0, y1⟩) hblk)
        have FQ := Lib.hid (FzS.of_blk hblk)
        have YQ : Hid (gQ < w13.heap.size) := Lib.hid (by rw [hbx, hgQ]; simp)
        have ZQ := YQ
        have WQ : Hid (w0.heap.size ≤ gQ) := Lib.hid (by rw [hgQ]; exact HBw12.out.size)
        have HWX := Lib.hid hbx
        have HGX := Lib.hid hgQ
        clear hbx hbb hblk hgQ
        go_upto_region 9 with fail
        rw [← HWX.out, ← HGX.out]
        clear HWX HGX
        obtain ⟨qX0, qX1⟩ := XX.out
        obtain ⟨qQ0, qQ1⟩ := XQ.out
        simp only at qX0 qX1 qQ0 qQ1
        go_wp2_with fail
        clear qX0 qX1 qQ0 qQ1
        refine (J8.out w13).mono ?_
        rintro e w14 ⟨rfl, hb⟩
        have HBw14 := Lib.hid (HBw13.out.trans (hb.mono HBw13.out.size))
        replace XN := Lib.hid (XN.out.below hb)
        replace ZN := Lib.hid (Nat.lt_of_lt_of_le ZN.out hb.size)
        replace XM := Lib.hid (XM.out.below hb)
        replace ZM := Lib.hid (Nat.lt_of_lt_of_le ZM.out hb.size)
        replace XX := Lib.hid (XX.out.below hb)
        replace ZX := Lib.hid (Nat.lt_of_lt_of_le ZX.out hb.size)
        replace XQ := Lib.hid (XQ.out.below hb)
        replace ZQ := Lib.hid (Nat.lt_of_lt_of_le ZQ.out hb.size)
        replace FN := Lib.hid (FN.out.below hb YN.out)
        replace FM := Lib.hid (FM.out.below hb YM.out)
        replace FX := Lib.hid (FX.out.below hb YX.out)
        replace FQ := Lib.hid (FQ.out.below hb YQ.out)
        replace YN := ZN
        replace YM := ZM
        replace YX := ZX
        replace YQ := ZQ
        clear hb
        obtain ⟨w15, hbx⟩ : ∃ w15, w15 = w14.alloc (.cells #[.float .f64 rl, .float .f64 ru] 24) := ⟨_, rfl⟩
        have hbb : Below w14.heap.size w14 w15 := by rw [hbx]; exact below1 ..
        obtain ⟨gS, hgS⟩ : ∃ g, g = w14.heap.size := ⟨_, rfl⟩
        have hblk : w15.heap[gS]? = some (.cells #[.float .f64 rl, .float .f64 ru] 24 (0, 0)) := by rw [hbx, hgS]; exact blk_new ..
        have HBw15 := Lib.hid (HBw14.out.trans (hbb.mono HBw14.out.size))
        have NNS : Hid (gN ≠ gS) := Lib.hid (by have := YN.out; omega)
        have NMS : Hid (gM ≠ gS) := Lib.hid (by have := YM.out; omega)
        have NXS : Hid (gX ≠ gS) := Lib.hid (by have := YX.out; omega)
        have NQS : Hid (gQ ≠ gS) := Lib.hid (by have := YQ.out; omega)
        replace XN := Lib.hid (XN.out.below hbb)
        replace FN := Lib.hid (FN.out.below hbb YN.out)
        replace YN := Lib.hid (Nat.lt_of_lt_of_le YN.out hbb.size)
        replace ZN := YN
        replace XM := Lib.hid (XM.out.below hbb)
        replace FM := Lib.hid (FM.out.below hbb YM.out)
        replace YM := Lib.hid (Nat.lt_of_lt_of_le YM.out hbb.size)
        replace ZM := YM
        replace XX := Lib.hid (XX.out.below hbb)
        replace FX := Lib.hid (FX.out.below hbb YX.out)
        replace YX := Lib.hid (Nat.lt_of_lt_of_le YX.out hbb.size)
        replace ZX := YX
        replace XQ := Lib.hid (XQ.out.below hbb)
        replace FQ := Lib.hid (FQ.out.below hbb YQ.out)
        replace YQ := Lib.hid (Nat.lt_of_lt_of_le YQ.out hbb.size)
        replace ZQ := YQ
        have XS := Lib.hid (BxS.of_blk (s := ⟨rl, ru⟩) hblk)
        have FS := Lib.hid (FzS.of_blk hblk)
        have YS : Hid (gS < w15.heap.size) := Lib.hid (by rw [hbx, hgS]; simp)
        have ZS := YS
        have WS : Hid (w0.heap.size ≤ gS) := Lib.hid (by rw [hgS]; exact HBw14.out.size)
        have HWX := Lib.hid hbx
        have HGX := Lib.hid hgS
        clear hbx hbb hblk hgS
        go_upto_region 10 with fail
        rw [← HWX.out, ← HGX.out]
        clear HWX HGX
        obtain ⟨qS0, qS1⟩ := XS.out
        simp only at qS0 qS1
        obtain ⟨k20, k21, f20, f21, hfin⟩ := FIN.out w15 HBw15.out
        obtain ⟨w9, hw9⟩ : ∃ w9, w9 = (w15.setCell ⟨w.heap.size + 1, 0, none⟩ (.float .f64 rl)).setCell ⟨w.heap.size + 1, 1, none⟩ (.float .f64 ru) := ⟨_, rfl⟩
        have HQ := Lib.hid (hfin _ hw9)
        have HW9 := Lib.hid hw9
        clear hfin hw9
        go_wp2_with fail
        rw [← HW9.out]
        obtain ⟨hb9, q0, q1⟩ := HQ.out
        (try simp only [Exit.inBlock, Exit.then])
        refine bodyPost_ret (v := .tuple #[.agg #[.float .f64 rl, .float .f64 ru], .int .i64 0]) (by simp [results, Tryz.results7, go_sem, q0, q1]; done) rfl ?_
        exact ⟨rfl, hb9⟩
    · skip
      obtain ⟨uM, hU⟩ : ∃ ux : World, ux = u.alloc (.cells #[.float .f64 0, .float .f64 0] 24) := ⟨_, rfl⟩
      have hba : Below u.heap.size u uM := by rw [hU]; exact below1 ..
      obtain ⟨gM, hgM⟩ : ∃ g, g = u.heap.size := ⟨_, rfl⟩
      have HGM : Hid (uM.heap[gM]? = some (.cells #[.float .f64 0, .float .f64 0] 24 (0, 0))) := Lib.hid (by rw [hU, hgM]; exact blk_new ..)
      have HLM : Hid (u.heap.size ≤ gM ∧ gM < uM.heap.size) := Lib.hid ⟨by rw [hgM]; exact Nat.le_refl _, by rw [hU, hgM]; simp⟩
      have HBM := Lib.hid hba
      go_simp
      rw [← hU, ← hgM]
      refine hK.out _ _ ?_ (fun hHeld => ?_)
      · exact ⟨bat hba hHeld.1, bat hba hHeld.2.1, bat hba hHeld.2.2.1, bat hba hHeld.2.2.2⟩
      clear hK K hba hU hgM
      try simp only [lyA, lyB, lyC, Act.put, lyD, lyE, lyF]
      refine wpAnyH_ready (rs := [9]) (by kernel_rfl) (by simp) ?_
      refine AllReadyH.cons rfl (fun K hK => ?_) AllReadyH.nil
      · skip
        go_simp
        refine (J5.out uM).mono ?_
        rintro e wz ⟨rfl, rfl⟩
        try go_wp2_with fail
        refine hK.out _ _ ?_ (fun hHeld => ?_)
        · exact hHeld
        clear hK K
        try simp only [lyA, lyB, lyC, Act.put, lyD, lyE, lyF]
        refine tkH (i := 10) (v := ?_) rfl (by kernel_rfl) (Or.inl ⟨by kernel_rfl, ?_⟩) (by assumption) ?_
        rotate_left 1
        · (intro w hSw; (try dsimp only at hSw); go_simp; try with_reducible rfl)
        try simp only [lyA, lyB, lyC, Act.put, lyD, lyE, lyF]
        refine wpAnyH_ready (rs := [12]) (by kernel_rfl) (by simp) ?_
        refine AllReadyH.cons rfl (fun K hK => ?_) AllReadyH.nil
        obtain ⟨kM, fM⟩ := blk_cs HGM.out
        have km0 := kM 0
        have km1 := kM 1
        have fm0 := fM 0
        have fm1 := fM 1
        simp only [List.getElem?_toArray, List.getElem?_cons_zero, List.getElem?_cons_succ] at km0 km1
        clear kM fM
        obtain ⟨v4, hv4⟩ : ∃ v4, v4 = (uM.setCell ⟨gM, 0, none⟩ (.float .f64 m0)).setCell ⟨gM, 1, none⟩ (.float .f64 m1) := ⟨_, rfl⟩
        obtain ⟨hu8, hq8⟩ := spn_set km0 km1 _ _ _ hv4
        have hfM : FzS v4 gM := by rw [hv4]; exact ((FzS.of_blk HGM.out).set _ _ _).set _ _ _
        go_simp
        rw [← hv4]
        have zg := HLM.out
        have yA := YA.out
        have yB := YB.out
        refine hK.out _ _ ?_ (fun hHeld => ?_)
        · exact ⟨hu8.cell (by omega) (by omega) hHeld.1, hu8.cell (by omega) (by omega) hHeld.2.1, hu8.cell (by omega) (by omega) hHeld.2.2.1, hu8.cell (by omega) (by omega) hHeld.2.2.2⟩
        have XM := Lib.hid hq8
        have FM := Lib.hid hfM
        have hb8 : Below u.heap.size u v4 := HBM.out.trans (hu8.below (by omega) (by omega))
        have YM : Hid (gM < v4.heap.size) := Lib.hid (by have := hu8.size; omega)
        have WM : Hid (w0.heap.size ≤ gM) := Lib.hid (by have := HBu.out.size; omega)
        replace XN := Lib.hid (XN.out.below hb8)
        replace FN := Lib.hid (FN.out.below hb8 YN.out)
        replace YN := Lib.hid (Nat.lt_of_lt_of_le YN.out hb8.size)
        have HBv4 := Lib.hid (HBu.out.trans (hb8.mono HBu.out.size))
        clear hK K hv4 hu8 hq8 hfM km0 km1 fm0 fm1 zg yA yB hb8 XA XB FA FB YA YB
        try simp only [lyA, lyB, lyC, Act.put, lyD, lyE, lyF]
        refine wpAnyH_done (by kernel_rfl) ?_ _
        clear hHeld
        have ZN := YN
        have ZM := YM
        go_upto_region 7 with fail
        obtain ⟨qN0, qN1⟩ := XN.out
        simp only at qN0 qN1
        go_wp2_with fail
        clear qN0 qN1
        refine (J6.out v4).mono ?_
        rintro e w16 ⟨rfl, hb⟩
        have HBw16 := Lib.hid (HBv4.out.trans (hb.mono HBv4.out.size))
        replace XN := Lib.hid (XN.out.below hb)
        replace ZN := Lib.hid (Nat.lt_of_lt_of_le ZN.out hb.size)
        replace XM := Lib.hid (XM.out.below hb)
        replace ZM := Lib.hid (Nat.lt_of_lt_of_le ZM.out hb.size)
        replace FN := Lib.hid (FN.out.below hb YN.out)
        replace FM := Lib.hid (FM.out.below hb YM.out)
        replace YN := ZN
        replace YM := ZM
        clear hb
        obtain ⟨w17, hbx⟩ : ∃ w17, w17 = w16.alloc (.cells #[.float .f64 x0, .float .f64 x1] 24) := ⟨_, rfl⟩
        have hbb : Below w16.heap.size w16 w17 := by rw [hbx]; exact below1 ..
        obtain ⟨gX, hgX⟩ : ∃ g, g = w16.heap.size := ⟨_, rfl⟩
        have hblk : w17.heap[gX]? = some (.cells #[.float .f64 x0, .float .f64 x1] 24 (0, 0)) := by rw [hbx, hgX]; exact blk_new ..
        have HBw17 := Lib.hid (HBw16.out.trans (hbb.mono HBw16.out.size))
        have NNX : Hid (gN ≠ gX) := Lib.hid (by have := YN.out; omega)
        have NMX : Hid (gM ≠ gX) := Lib.hid (by have := YM.out; omega)
        replace XN := Lib.hid (XN.out.below hbb)
        replace FN := Lib.hid (FN.out.below hbb YN.out)
        replace YN := Lib.hid (Nat.lt_of_lt_of_le YN.out hbb.size)
        replace ZN := YN
        replace XM := Lib.hid (XM.out.below hbb)
        replace FM := Lib.hid (FM.out.below hbb YM.out)
        replace YM := Lib.hid (Nat.lt_of_lt_of_le YM.out hbb.size)
        replace ZM := YM
        have XX := Lib.hid (BxS.of_blk (s := ⟨x0, x1⟩) hblk)
        have FX := Lib.hid (FzS.of_blk hblk)
        have YX : Hid (gX < w17.heap.size) := Lib.hid (by rw [hbx, hgX]; simp)
        have ZX := YX
        have WX : Hid (w0.heap.size ≤ gX) := Lib.hid (by rw [hgX]; exact HBw16.out.size)
        have HWX := Lib.hid hbx
        have HGX := Lib.hid hgX
        clear hbx hbb hblk hgX
        go_upto_region 8 with fail
        rw [← HWX.out, ← HGX.out]
        clear HWX HGX
        obtain ⟨qM0, qM1⟩ := XM.out
        simp only at qM0 qM1
        go_wp2_with fail
        clear qM0 qM1
        refine (J7.out w17).mono ?_
        rintro e w18 ⟨rfl, hb⟩
        have HBw18 := Lib.hid (HBw17.out.trans (hb.mono HBw17.out.size))
        replace XN := Lib.hid (XN.out.below hb)
        replace ZN := Lib.hid (Nat.lt_of_lt_of_le ZN.out hb.size)
        replace XM := Lib.hid (XM.out.below hb)
        replace ZM := Lib.hid (Nat.lt_of_lt_of_le ZM.out hb.size)
        replace XX := Lib.hid (XX.out.below hb)
        replace ZX := Lib.hid (Nat.lt_of_lt_of_le ZX.out hb.size)
        replace FN := Lib.hid (FN.out.below hb YN.out)
        replace FM := Lib.hid (FM.out.below hb YM.out)
        replace FX := Lib.hid (FX.out.below hb YX.out)
        replace YN := ZN
        replace YM := ZM
        replace YX := ZX
        clear hb
        obtain ⟨w19, hbx⟩ : ∃ w19, w19 = w18.alloc (.cells #[.float .f64 y0, .float .f64 y1] 24) := ⟨_, rfl⟩
        have hbb : Below w18.heap.size w18 w19 := by rw [hbx]; exact below1 ..
        obtain ⟨gQ, hgQ⟩ : ∃ g, g = w18.heap.size := ⟨_, rfl⟩
        have hblk : w19.heap[gQ]? = some (.cells #[.float .f64 y0, .float .f64 y1] 24 (0, 0)) := by rw [hbx, hgQ]; exact blk_new ..
        have HBw19 := Lib.hid (HBw18.out.trans (hbb.mono HBw18.out.size))
        have NNQ : Hid (gN ≠ gQ) := Lib.hid (by have := YN.out; omega)
        have NMQ : Hid (gM ≠ gQ) := Lib.hid (by have := YM.out; omega)
        have NXQ : Hid (gX ≠ gQ) := Lib.hid (by have := YX.out; omega)
        replace XN := Lib.hid (XN.out.below hbb)
        replace FN := Lib.hid (FN.out.below hbb YN.out)
        replace YN := Lib.hid (Nat.lt_of_lt_of_le YN.out hbb.size)
        replace ZN := YN
        replace XM := Lib.hid (XM.out.below hbb)
        replace FM := Lib.hid (FM.out.below hbb YM.out)
        replace YM := Lib.hid (Nat.lt_of_lt_of_le YM.out hbb.size)
        replace ZM := YM
        replace XX := Lib.hid (XX.out.below hbb)
        replace FX := Lib.hid (FX.out.below hbb YX.out)
        replace YX := Lib.hid (Nat.lt_of_lt_of_le YX.out hbb.size)
        replace ZX := YX
        have XQ := Lib.hid (BxS.of_blk (s := ⟨y0, y1⟩) hblk)
        have FQ := Lib.hid (FzS.of_blk hblk)
        have YQ : Hid (gQ < w19.heap.size) := Lib.hid (by rw [hbx, hgQ]; simp)
        have ZQ := YQ
        have WQ : Hid (w0.heap.size ≤ gQ) := Lib.hid (by rw [hgQ]; exact HBw18.out.size)
        have HWX := Lib.hid hbx
        have HGX := Lib.hid hgQ
        clear hbx hbb hblk hgQ
        go_upto_region 9 with fail
        rw [← HWX.out, ← HGX.out]
        clear HWX HGX
        obtain ⟨qX0, qX1⟩ := XX.out
        obtain ⟨qQ0, qQ1⟩ := XQ.out
        simp only at qX0 qX1 qQ0 qQ1
        go_wp2_with fail
        clear qX0 qX1 qQ0 qQ1
        refine (J8.out w19).mono ?_
        rintro e w20 ⟨rfl, hb⟩
        have HBw20 := Lib.hid (HBw19.out.trans (hb.mono HBw19.out.size))
        replace XN := Lib.hid (XN.out.below hb)
        replace ZN := Lib.hid (Nat.lt_of_lt_of_le ZN.out hb.size)
        replace XM := Lib.hid (XM.out.below hb)
        replace ZM := Lib.hid (Nat.lt_of_lt_of_le ZM.out hb.size)
        replace XX := Lib.hid (XX.out.below hb)
        replace ZX := Lib.hid (Nat.lt_of_lt_of_le ZX.out hb.size)
        replace XQ := Lib.hid (XQ.out.below hb)
        replace ZQ := Lib.hid (Nat.lt_of_lt_of_le ZQ.out hb.size)
        replace FN := Lib.hid (FN.out.below hb YN.out)
        replace FM := Lib.hid (FM.out.below hb YM.out)
        replace FX := Lib.hid (FX.out.below hb YX.out)
        replace FQ := Lib.hid (FQ.out.below hb YQ.out)
        replace YN := ZN
        replace YM := ZM
        replace YX := ZX
        replace YQ := ZQ
        clear hb
        obtain ⟨w21, hbx⟩ : ∃ w21, w21 = w20.alloc (.cells #[.float .f64 rl, .float .f64 ru] 24) := ⟨_, rfl⟩
        have hbb : Below w20.heap.size w20 w21 := by rw [hbx]; exact below1 ..
        obtain ⟨gS, hgS⟩ : ∃ g, g = w20.heap.size := ⟨_, rfl⟩
        have hblk : w21.heap[gS]? = some (.cells #[.float .f64 rl, .float .f64 ru] 24 (0, 0)) := by rw [hbx, hgS]; exact blk_new ..
        have HBw21 := Lib.hid (HBw20.out.trans (hbb.mono HBw20.out.size))
        have NNS : Hid (gN ≠ gS) := Lib.hid (by have := YN.out; omega)
        have NMS : Hid (gM ≠ gS) := Lib.hid (by have := YM.out; omega)
        have NXS : Hid (gX ≠ gS) := Lib.hid (by have := YX.out; omega)
        have NQS : Hid (gQ ≠ gS) := Lib.hid (by have := YQ.out; omega)
        replace XN := Lib.hid (XN.out.below hbb)
        replace FN := Lib.hid (FN.out.below hbb YN.out)
        replace YN := Lib.hid (Nat.lt_of_lt_of_le YN.out hbb.size)
        replace ZN := YN
        replace XM := Lib.hid (XM.out.below hbb)
        replace FM := Lib.hid (FM.out.below hbb YM.out)
        replace YM := Lib.hid (Nat.lt_of_lt_of_le YM.out hbb.size)
        replace ZM := YM
        replace XX := Lib.hid (XX.out.below hbb)
        replace FX := Lib.hid (FX.out.below hbb YX.out)
        replace YX := Lib.hid (Nat.lt_of_lt_of_le YX.out hbb.size)
        replace ZX := YX
        replace XQ := Lib.hid (XQ.out.below hbb)
        replace FQ := Lib.hid (FQ.out.below hbb YQ.out)
        replace YQ := Lib.hid (Nat.lt_of_lt_of_le YQ.out hbb.size)
        replace ZQ := YQ
        have XS := Lib.hid (BxS.of_blk (s := ⟨rl, ru⟩) hblk)
        have FS := Lib.hid (FzS.of_blk hblk)
        have YS : Hid (gS < w21.heap.size) := Lib.hid (by rw [hbx, hgS]; simp)
        have ZS := YS
        have WS : Hid (w0.heap.size ≤ gS) := Lib.hid (by rw [hgS]; exact HBw20.out.size)
        have HWX := Lib.hid hbx
        have HGX := Lib.hid hgS
        clear hbx hbb hblk hgS
        go_upto_region 10 with fail
        rw [← HWX.out, ← HGX.out]
        clear HWX HGX
        obtain ⟨qS0, qS1⟩ := XS.out
        simp only at qS0 qS1
        obtain ⟨k20, k21, f20, f21, hfin⟩ := FIN.out w21 HBw21.out
        obtain ⟨w9, hw9⟩ : ∃ w9, w9 = (w21.setCell ⟨w.heap.size + 1, 0, none⟩ (.float .f64 rl)).setCell ⟨w.heap.size + 1, 1, none⟩ (.float .f64 ru) := ⟨_, rfl⟩
        have HQ := Lib.hid (hfin _ hw9)
        have HW9 := Lib.hid hw9
        clear hfin hw9
        go_wp2_with fail
        rw [← HW9.out]
        obtain ⟨hb9, q0, q1⟩ := HQ.out
        (try simp only [Exit.inBlock, Exit.then])
        refine bodyPost_ret (v := .tuple #[.agg #[.float .f64 rl, .float .f64 ru], .int .i64 0]) (by simp [results, Tryz.results7, go_sem, q0, q1]; done) rfl ?_
        exact ⟨rfl, hb9⟩
  · skip
    obtain ⟨uM, hU⟩ : ∃ ux : World, ux = u.alloc (.cells #[.float .f64 0, .float .f64 0] 24) := ⟨_, rfl⟩
    have hba : Below u.heap.size u uM := by rw [hU]; exact below1 ..
    obtain ⟨gM, hgM⟩ : ∃ g, g = u.heap.size := ⟨_, rfl⟩
    have HGM : Hid (uM.heap[gM]? = some (.cells #[.float .f64 0, .float .f64 0] 24 (0, 0))) := Lib.hid (by rw [hU, hgM]; exact blk_new ..)
    have HLM : Hid (u.heap.size ≤ gM ∧ gM < uM.heap.size) := Lib.hid ⟨by rw [hgM]; exact Nat.le_refl _, by rw [hU, hgM]; simp⟩
    have HBM := Lib.hid hba
    go_simp
    rw [← hU, ← hgM]
    refine hK.out _ _ ?_ (fun hHeld => ?_)
    · exact ⟨bat hba hHeld.1, bat hba hHeld.2.1, bat hba hHeld.2.2.1, bat hba hHeld.2.2.2⟩
    clear hK K hba hU hgM
    try simp only [lyA, lyB, lyC, Act.put, lyD, lyE, lyF]
    refine wpAnyH_ready (rs := [4]) (by kernel_rfl) (by simp) ?_
    refine AllReadyH.cons rfl (fun K hK => ?_) AllReadyH.nil
    · skip
      go_simp
      refine (J4.out uM).mono ?_
      rintro e wz ⟨rfl, rfl⟩
      try go_wp2_with fail
      refine hK.out _ _ ?_ (fun hHeld => ?_)
      · exact hHeld
      clear hK K
      try simp only [lyA, lyB, lyC, Act.put, lyD, lyE, lyF]
      refine wpAnyH_ready (rs := [9]) (by kernel_rfl) (by simp) ?_
      refine AllReadyH.cons rfl (fun K hK => ?_) AllReadyH.nil
      · skip
        go_simp
        refine (J5.out uM).mono ?_
        rintro e wz ⟨rfl, rfl⟩
        try go_wp2_with fail
        refine hK.out _ _ ?_ (fun hHeld => ?_)
        · exact hHeld
        clear hK K
        try simp only [lyA, lyB, lyC, Act.put, lyD, lyE, lyF]
        refine tkH (i := 10) (v := ?_) rfl (by kernel_rfl) (Or.inl ⟨by kernel_rfl, ?_⟩) (by assumption) ?_
        rotate_left 1
        · (intro w hSw; (try dsimp only at hSw); go_simp; try with_reducible rfl)
        try simp only [lyA, lyB, lyC, Act.put, lyD, lyE, lyF]
        refine wpAnyH_ready (rs := [12]) (by kernel_rfl) (by simp) ?_
        refine AllReadyH.cons rfl (fun K hK => ?_) AllReadyH.nil
        obtain ⟨kM, fM⟩ := blk_cs HGM.out
        have km0 := kM 0
        have km1 := kM 1
        have fm0 := fM 0
        have fm1 := fM 1
        simp only [List.getElem?_toArray, List.getElem?_cons_zero, List.getElem?_cons_succ] at km0 km1
        clear kM fM
        obtain ⟨v4, hv4⟩ : ∃ v4, v4 = (uM.setCell ⟨gM, 0, none⟩ (.float .f64 m0)).setCell ⟨gM, 1, none⟩ (.float .f64 m1) := ⟨_, rfl⟩
        obtain ⟨hu8, hq8⟩ := spn_set km0 km1 _ _ _ hv4
        have hfM : FzS v4 gM := by rw [hv4]; exact ((FzS.of_blk HGM.out).set _ _ _).set _ _ _
        go_simp
        rw [← hv4]
        have zg := HLM.out
        have yA := YA.out
        have yB := YB.out
        refine hK.out _ _ ?_ (fun hHeld => ?_)
        · exact ⟨hu8.cell (by omega) (by omega) hHeld.1, hu8.cell (by omega) (by omega) hHeld.2.1, hu8.cell (by omega) (by omega) hHeld.2.2.1, hu8.cell (by omega) (by omega) hHeld.2.2.2⟩
        have XM := Lib.hid hq8
        have FM := Lib.hid hfM
        have hb8 : Below u.heap.size u v4 := HBM.out.trans (hu8.below (by omega) (by omega))
        have YM : Hid (gM < v4.heap.size) := Lib.hid (by have := hu8.size; omega)
        have WM : Hid (w0.heap.size ≤ gM) := Lib.hid (by have := HBu.out.size; omega)
        replace XN := Lib.hid (XN.out.below hb8)
        replace FN := Lib.hid (FN.out.below hb8 YN.out)
        replace YN := Lib.hid (Nat.lt_of_lt_of_le YN.out hb8.size)
        have HBv4 := Lib.hid (HBu.out.trans (hb8.mono HBu.out.size))
        clear hK K hv4 hu8 hq8 hfM km0 km1 fm0 fm1 zg yA yB hb8 XA XB FA FB YA YB
        try simp only [lyA, lyB, lyC, Act.put, lyD, lyE, lyF]
        refine wpAnyH_done (by kernel_rfl) ?_ _
        clear hHeld
        have ZN := YN
        have ZM := YM
        go_upto_region 7 with fail
        obtain ⟨qN0, qN1⟩ := XN.out
        simp only at qN0 qN1
        go_wp2_with fail
        clear qN0 qN1
        refine (J6.out v4).mono ?_
        rintro e w22 ⟨rfl, hb⟩
        have HBw22 := Lib.hid (HBv4.out.trans (hb.mono HBv4.out.size))
        replace XN := Lib.hid (XN.out.below hb)
        replace ZN := Lib.hid (Nat.lt_of_lt_of_le ZN.out hb.size)
        replace XM := Lib.hid (XM.out.below hb)
        replace ZM := Lib.hid (Nat.lt_of_lt_of_le ZM.out hb.size)
        replace FN := Lib.hid (FN.out.below hb YN.out)
        replace FM := Lib.hid (FM.out.below hb YM.out)
        replace YN := ZN
        replace YM := ZM
        clear hb
        obtain ⟨w23, hbx⟩ : ∃ w23, w23 = w22.alloc (.cells #[.float .f64 x0, .float .f64 x1] 24) := ⟨_, rfl⟩
        have hbb : Below w22.heap.size w22 w23 := by rw [hbx]; exact below1 ..
        obtain ⟨gX, hgX⟩ : ∃ g, g = w22.heap.size := ⟨_, rfl⟩
        have hblk : w23.heap[gX]? = some (.cells #[.float .f64 x0, .float .f64 x1] 24 (0, 0)) := by rw [hbx, hgX]; exact blk_new ..
        have HBw23 := Lib.hid (HBw22.out.trans (hbb.mono HBw22.out.size))
        have NNX : Hid (gN ≠ gX) := Lib.hid (by have := YN.out; omega)
        have NMX : Hid (gM ≠ gX) := Lib.hid (by have := YM.out; omega)
        replace XN := Lib.hid (XN.out.below hbb)
        replace FN := Lib.hid (FN.out.below hbb YN.out)
        replace YN := Lib.hid (Nat.lt_of_lt_of_le YN.out hbb.size)
        replace ZN := YN
        replace XM := Lib.hid (XM.out.below hbb)
        replace FM := Lib.hid (FM.out.below hbb YM.out)
        replace YM := Lib.hid (Nat.lt_of_lt_of_le YM.out hbb.size)
        replace ZM := YM
        have XX := Lib.hid (BxS.of_blk (s := ⟨x0, x1⟩) hblk)
        have FX := Lib.hid (FzS.of_blk hblk)
        have YX : Hid (gX < w23.heap.size) := Lib.hid (by rw [hbx, hgX]; simp)
        have ZX := YX
        have WX : Hid (w0.heap.size ≤ gX) := Lib.hid (by rw [hgX]; exact HBw22.out.size)
        have HWX := Lib.hid hbx
        have HGX := Lib.hid hgX
        clear hbx hbb hblk hgX
        go_upto_region 8 with fail
        rw [← HWX.out, ← HGX.out]
        clear HWX HGX
        obtain ⟨qM0, qM1⟩ := XM.out
        simp only at qM0 qM1
        go_wp2_with fail
        clear qM0 qM1
        refine (J7.out w23).mono ?_
        rintro e w24 ⟨rfl, hb⟩
        have HBw24 := Lib.hid (HBw23.out.trans (hb.mono HBw23.out.size))
        replace XN := Lib.hid (XN.out.below hb)
        replace ZN := Lib.hid (Nat.lt_of_lt_of_le ZN.out hb.size)
        replace XM := Lib.hid (XM.out.below hb)
        replace ZM := Lib.hid (Nat.lt_of_lt_of_le ZM.out hb.size)
        replace XX := Lib.hid (XX.out.below hb)
        replace ZX := Lib.hid (Nat.lt_of_lt_of_le ZX.out hb.size)
        replace FN := Lib.hid (FN.out.below hb YN.out)
        replace FM := Lib.hid (FM.out.below hb YM.out)
        replace FX := Lib.hid (FX.out.below hb YX.out)
        replace YN := ZN
        replace YM := ZM
        replace YX := ZX
        clear hb
        obtain ⟨w25, hbx⟩ : ∃ w25, w25 = w24.alloc (.cells #[.float .f64 y0, .float .f64 y1] 24) := ⟨_, rfl⟩
        have hbb : Below w24.heap.size w24 w25 := by rw [hbx]; exact below1 ..
        obtain ⟨gQ, hgQ⟩ : ∃ g, g = w24.heap.size := ⟨_, rfl⟩
        have hblk : w25.heap[gQ]? = some (.cells #[.float .f64 y0, .float .f64 y1] 24 (0, 0)) := by rw [hbx, hgQ]; exact blk_new ..
        have HBw25 := Lib.hid (HBw24.out.trans (hbb.mono HBw24.out.size))
        have NNQ : Hid (gN ≠ gQ) := Lib.hid (by have := YN.out; omega)
        have NMQ : Hid (gM ≠ gQ) := Lib.hid (by have := YM.out; omega)
        have NXQ : Hid (gX ≠ gQ) := Lib.hid (by have := YX.out; omega)
        replace XN := Lib.hid (XN.out.below hbb)
        replace FN := Lib.hid (FN.out.below hbb YN.out)
        replace YN := Lib.hid (Nat.lt_of_lt_of_le YN.out hbb.size)
        replace ZN := YN
        replace XM := Lib.hid (XM.out.below hbb)
        replace FM := Lib.hid (FM.out.below hbb YM.out)
        replace YM := Lib.hid (Nat.lt_of_lt_of_le YM.out hbb.size)
        replace ZM := YM
        replace XX := Lib.hid (XX.out.below hbb)
        replace FX := Lib.hid (FX.out.below hbb YX.out)
        replace YX := Lib.hid (Nat.lt_of_lt_of_le YX.out hbb.size)
        replace ZX := YX
        have XQ := Lib.hid (BxS.of_blk (s := ⟨y0, y1⟩) hblk)
        have FQ := Lib.hid (FzS.of_blk hblk)
        have YQ : Hid (gQ < w25.heap.size) := Lib.hid (by rw [hbx, hgQ]; simp)
        have ZQ := YQ
        have WQ : Hid (w0.heap.size ≤ gQ) := Lib.hid (by rw [hgQ]; exact HBw24.out.size)
        have HWX := Lib.hid hbx
        have HGX := Lib.hid hgQ
        clear hbx hbb hblk hgQ
        go_upto_region 9 with fail
        rw [← HWX.out, ← HGX.out]
        clear HWX HGX
        obtain ⟨qX0, qX1⟩ := XX.out
        obtain ⟨qQ0, qQ1⟩ := XQ.out
        simp only at qX0 qX1 qQ0 qQ1
        go_wp2_with fail
        clear qX0 qX1 qQ0 qQ1
        refine (J8.out w25).mono ?_
        rintro e w26 ⟨rfl, hb⟩
        have HBw26 := Lib.hid (HBw25.out.trans (hb.mono HBw25.out.size))
        replace XN := Lib.hid (XN.out.below hb)
        replace ZN := Lib.hid (Nat.lt_of_lt_of_le ZN.out hb.size)
        replace XM := Lib.hid (XM.out.below hb)
        replace ZM := Lib.hid (Nat.lt_of_lt_of_le ZM.out hb.size)
        replace XX := Lib.hid (XX.out.below hb)
        replace ZX := Lib.hid (Nat.lt_of_lt_of_le ZX.out hb.size)
        replace XQ := Lib.hid (XQ.out.below hb)
        replace ZQ := Lib.hid (Nat.lt_of_lt_of_le ZQ.out hb.size)
        replace FN := Lib.hid (FN.out.below hb YN.out)
        replace FM := Lib.hid (FM.out.below hb YM.out)
        replace FX := Lib.hid (FX.out.below hb YX.out)
        replace FQ := Lib.hid (FQ.out.below hb YQ.out)
        replace YN := ZN
        replace YM := ZM
        replace YX := ZX
        replace YQ := ZQ
        clear hb
        obtain ⟨w27, hbx⟩ : ∃ w27, w27 = w26.alloc (.cells #[.float .f64 rl, .float .f64 ru] 24) := ⟨_, rfl⟩
        have hbb : Below w26.heap.size w26 w27 := by rw [hbx]; exact below1 ..
        obtain ⟨gS, hgS⟩ : ∃ g, g = w26.heap.size := ⟨_, rfl⟩
        have hblk : w27.heap[gS]? = some (.cells #[.float .f64 rl, .float .f64 ru] 24 (0, 0)) := by rw [hbx, hgS]; exact blk_new ..
        have HBw27 := Lib.hid (HBw26.out.trans (hbb.mono HBw26.out.size))
        have NNS : Hid (gN ≠ gS) := Lib.hid (by have := YN.out; omega)
        have NMS : Hid (gM ≠ gS) := Lib.hid (by have := YM.out; omega)
        have NXS : Hid (gX ≠ gS) := Lib.hid (by have := YX.out; omega)
        have NQS : Hid (gQ ≠ gS) := Lib.hid (by have := YQ.out; omega)
        replace XN := Lib.hid (XN.out.below hbb)
        replace FN := Lib.hid (FN.out.below hbb YN.out)
        replace YN := Lib.hid (Nat.lt_of_lt_of_le YN.out hbb.size)
        replace ZN := YN
        replace XM := Lib.hid (XM.out.below hbb)
        replace FM := Lib.hid (FM.out.below hbb YM.out)
        replace YM := Lib.hid (Nat.lt_of_lt_of_le YM.out hbb.size)
        replace ZM := YM
        replace XX := Lib.hid (XX.out.below hbb)
        replace FX := Lib.hid (FX.out.below hbb YX.out)
        replace YX := Lib.hid (Nat.lt_of_lt_of_le YX.out hbb.size)
        replace ZX := YX
        replace XQ := Lib.hid (XQ.out.below hbb)
        replace FQ := Lib.hid (FQ.out.below hbb YQ.out)
        replace YQ := Lib.hid (Nat.lt_of_lt_of_le YQ.out hbb.size)
        replace ZQ := YQ
        have XS := Lib.hid (BxS.of_blk (s := ⟨rl, ru⟩) hblk)
        have FS := Lib.hid (FzS.of_blk hblk)
        have YS : Hid (gS < w27.heap.size) := Lib.hid (by rw [hbx, hgS]; simp)
        have ZS := YS
        have WS : Hid (w0.heap.size ≤ gS) := Lib.hid (by rw [hgS]; exact HBw26.out.size)
        have HWX := Lib.hid hbx
        have HGX := Lib.hid hgS
        clear hbx hbb hblk hgS
        go_upto_region 10 with fail
        rw [← HWX.out, ← HGX.out]
        clear HWX HGX
        obtain ⟨qS0, qS1⟩ := XS.out
        simp only at qS0 qS1
        obtain ⟨k20, k21, f20, f21, hfin⟩ := FIN.out w27 HBw27.out
        obtain ⟨w9, hw9⟩ : ∃ w9, w9 = (w27.setCell ⟨w.heap.size + 1, 0, none⟩ (.float .f64 rl)).setCell ⟨w.heap.size + 1, 1, none⟩ (.float .f64 ru) := ⟨_, rfl⟩
        have HQ := Lib.hid (hfin _ hw9)
        have HW9 := Lib.hid hw9
        clear hfin hw9
        go_wp2_with fail
        rw [← HW9.out]
        obtain ⟨hb9, q0, q1⟩ := HQ.out
        (try simp only [Exit.inBlock, Exit.then])
        refine bodyPost_ret (v := .tuple #[.agg #[.float .f64 rl, .float .f64 ru], .int .i64 0]) (by simp [results, Tryz.results7, go_sem, q0, q1]; done) rfl ?_
        exact ⟨rfl, hb9⟩

end Go.Proofs.YtkfhbnfoiicioaaGreatDoor
