import Derived.Test.YtkfhbnfoiicioaaGreatDoorC21
/- check.number, check.Stress: the walks -/
set_option linter.unusedSimpArgs false
set_option linter.unusedVariables false
namespace Go.Proofs.YtkfhbnfoiicioaaGreatDoor
open Go.RowKit Go.Sort

def numB (x : Nat) : Bool := (FloatKind.f64.format.order x 4336966441157787648 == some .gt || FloatKind.f64.format.order x 4336966441157787648 == some .eq) && fle x 4877398396442247168
theorem number_any (x : Nat) (w : World) : Calls Tryz.prog 15 #[.float .f64 x] w fun e w' => e = .returned (.bool (numB x)) ∧ w = w' := by
  unfold numB
  obtain ⟨b1, h1⟩ : ∃ b, (FloatKind.f64.format.order x 4336966441157787648 == some .gt || FloatKind.f64.format.order x 4336966441157787648 == some .eq) = b := ⟨_, rfl⟩
  obtain ⟨b2, h2⟩ : ∃ b, fle x 4877398396442247168 = b := ⟨_, rfl⟩
  rw [h1, h2]
  unfold fle at h2
  cases b1
  · go_enter Tryz.func15, Tryz.ntmps15
    go_wp2_with fail
    go_ret
    exact ⟨rfl, rfl⟩
  · cases b2
    · go_enter Tryz.func15, Tryz.ntmps15
      go_wp2_with fail
      go_ret
      exact ⟨rfl, rfl⟩
    · go_enter Tryz.func15, Tryz.ntmps15
      go_wp2_with fail
      go_ret
      exact ⟨rfl, rfl⟩
set_option maxRecDepth 100000 in
set_option maxHeartbeats 4000000 in
theorem stress_bad (n ma mb : Spn) (ar wd : Nat) (w : World) (h : (n.ok && (ma.ok && (mb.ok && (numB ar && numB wd)))) = false) :
    Calls Tryz.prog 6 #[.agg #[.float .f64 n.lo, .float .f64 n.hi, .float .f64 ma.lo, .float .f64 ma.hi, .float .f64 mb.lo, .float .f64 mb.hi], .float .f64 ar, .float .f64 wd] w fun e w' => e = .returned (.tuple #[.agg #[.float .f64 0, .float .f64 0], .int .i64 2]) ∧ Below w.heap.size w w' := by
  have I1 := Lib.hid (fun w => right_any n w)
  have I2 := Lib.hid (fun w => right_any ma w)
  have I3 := Lib.hid (fun w => right_any mb w)
  have I4 := Lib.hid (fun w => number_any ar w)
  have I5 := Lib.hid (fun w => number_any wd w)
  have ok1 : n.ok = spB n.lo n.hi := rfl
  have ok2 : ma.ok = spB ma.lo ma.hi := rfl
  have ok3 : mb.ok = spB mb.lo mb.hi := rfl
  rw [ok1, ok2, ok3] at h
  obtain ⟨n0, n1⟩ := n
  obtain ⟨a0, a1⟩ := ma
  obtain ⟨b0, b1⟩ := mb
  simp only at I1 I2 I3 h ⊢
  obtain ⟨w0, hw0⟩ : ∃ w0, w0 = (w.alloc (.cells #[.float .f64 n0, .float .f64 n1, .float .f64 a0, .float .f64 a1, .float .f64 b0, .float .f64 b1] 26)).alloc (.cells #[.float .f64 0, .float .f64 0] 24) := ⟨_, rfl⟩
  have hb0 : Below w.heap.size w w0 := by rw [hw0]; exact below2 ..
  have z0 : w0.heap.size = w.heap.size + 2 := by rw [hw0]; simp
  have g1 : w0.heap[w.heap.size]? = some (.cells #[.float .f64 n0, .float .f64 n1, .float .f64 a0, .float .f64 a1, .float .f64 b0, .float .f64 b1] 26 (0, 0)) := by
    rw [hw0]; exact ((below1 (w.alloc _) _).block w.heap.size (by simp)).trans (blk_new w _ _)
  have g2 : w0.heap[w.heap.size + 1]? = some (.cells #[.float .f64 0, .float .f64 0] 24 (0, 0)) := by
    rw [hw0]
    have h := blk_new (w.alloc (.cells #[.float .f64 n0, .float .f64 n1, .float .f64 a0, .float .f64 a1, .float .f64 b0, .float .f64 b1] 26)) #[.float .f64 0, .float .f64 0] 24
    rwa [World.size_alloc] at h
  have G1 := Lib.hid g1
  have G2 := Lib.hid g2
  have HB0 := Lib.hid hb0
  have HW0 := Lib.hid hw0
  have fin : ∀ (w1 : World), Below w0.heap.size w0 w1 → w1.cell? ⟨w.heap.size + 1, 0, none⟩ = some (.float .f64 0) ∧ w1.cell? ⟨w.heap.size + 1, 1, none⟩ = some (.float .f64 0) ∧ w1.frozen? ⟨w.heap.size + 1, 0, none⟩ = false ∧ w1.frozen? ⟨w.heap.size + 1, 1, none⟩ = false ∧ ∀ w8, w8 = (w1.setCell ⟨w.heap.size + 1, 0, none⟩ (.float .f64 0)).setCell ⟨w.heap.size + 1, 1, none⟩ (.float .f64 0) → Below w.heap.size w w8 ∧ BxS w8 (w.heap.size + 1) ⟨0, 0⟩ := by
    intro w1 hb1
    have zz1 := hb1.size
    obtain ⟨hk2, hf2⟩ := blk_cs ((hb1.block (w.heap.size + 1) (by omega)).trans G2.out)
    refine ⟨hk2 0, hk2 1, hf2 0, hf2 1, fun w8 hw8 => ?_⟩
    obtain ⟨hu8, hq⟩ := spn_set (hk2 0) (hk2 1) _ _ _ hw8
    exact ⟨HB0.out.trans ((hb1.mono HB0.out.size).trans (hu8.below (by omega) (by omega))), hq⟩
  have FIN := Lib.hid fin
  have KN : Hid (∀ w1 : World, Below w0.heap.size w0 w1 → w1.cell? ⟨w.heap.size, 0, none⟩ = some (.float .f64 n0) ∧ w1.cell? ⟨w.heap.size, 1, none⟩ = some (.float .f64 n1) ∧ w1.cell? ⟨w.heap.size, 2, none⟩ = some (.float .f64 a0) ∧ w1.cell? ⟨w.heap.size, 3, none⟩ = some (.float .f64 a1) ∧ w1.cell? ⟨w.heap.size, 4, none⟩ = some (.float .f64 b0) ∧ w1.cell? ⟨w.heap.size, 5, none⟩ = some (.float .f64 b1)) := Lib.hid (by
    intro w1 hb1
    obtain ⟨hk, _⟩ := blk_cs ((hb1.block w.heap.size (by omega)).trans G1.out)
    exact ⟨hk 0, hk 1, hk 2, hk 3, hk 4, hk 5⟩)
  clear ok1 ok2 ok3 hw0 hb0 g1 g2 fin
  generalize spB n0 n1 = p1 at *
  generalize spB a0 a1 = p2 at *
  generalize spB b0 b1 = p3 at *
  generalize numB ar = p4 at *
  generalize numB wd = p5 at *
  cases p1
  · clear h
    go_enter Tryz.func6, Tryz.ntmps6
    go_wp2_with fail
    rw [← HW0.out]
    refine (I1.out w0).mono ?_
    rintro e w1 ⟨rfl, hb⟩
    have HBw1 := Lib.hid hb
    clear hb
    obtain ⟨k20, k21, f20, f21, hfin⟩ := FIN.out w1 HBw1.out
    obtain ⟨w8, hw8⟩ : ∃ w8, w8 = (w1.setCell ⟨w.heap.size + 1, 0, none⟩ (.float .f64 0)).setCell ⟨w.heap.size + 1, 1, none⟩ (.float .f64 0) := ⟨_, rfl⟩
    have HQ := Lib.hid (hfin _ hw8)
    have HW8 := Lib.hid hw8
    clear hfin hw8
    go_wp2_with fail
    rw [← HW8.out]
    obtain ⟨hb8, q0, q1⟩ := HQ.out
    (try simp only [Exit.inBlock, Exit.then])
    refine bodyPost_ret (v := .tuple #[.agg #[.float .f64 0, .float .f64 0], .int .i64 2]) (by simp [results, Tryz.results6, go_sem, q0, q1]; done) rfl ?_
    exact ⟨rfl, hb8⟩
  · skip
    cases p2
    · clear h
      go_enter Tryz.func6, Tryz.ntmps6
      go_wp2_with fail
      rw [← HW0.out]
      refine (I1.out w0).mono ?_
      rintro e w1 ⟨rfl, hb⟩
      have HBw1 := Lib.hid hb
      clear hb
      obtain ⟨c0, c1, c2, c3, c4, c5⟩ := KN.out w1 HBw1.out
      go_wp2_with fail
      clear c0 c1 c2 c3 c4 c5
      refine (I2.out w1).mono ?_
      rintro e w2 ⟨rfl, hb⟩
      have HBw2 := Lib.hid (HBw1.out.trans (hb.mono HBw1.out.size))
      clear hb
      obtain ⟨k20, k21, f20, f21, hfin⟩ := FIN.out w2 HBw2.out
      obtain ⟨w8, hw8⟩ : ∃ w8, w8 = (w2.setCell ⟨w.heap.size + 1, 0, none⟩ (.float .f64 0)).setCell ⟨w.heap.size + 1, 1, none⟩ (.float .f64 0) := ⟨_, rfl⟩
      have HQ := Lib.hid (hfin _ hw8)
      have HW8 := Lib.hid hw8
      clear hfin hw8
      go_wp2_with fail
      rw [← HW8.out]
      obtain ⟨hb8, q0, q1⟩ := HQ.out
      (try simp only [Exit.inBlock, Exit.then])
      refine bodyPost_ret (v := .tuple #[.agg #[.float .f64 0, .float .f64 0], .int .i64 2]) (by simp [results, Tryz.results6, go_sem, q0, q1]; done) rfl ?_
      exact ⟨rfl, hb8⟩
    · skip
      cases p3
      · clear h
        go_enter Tryz.func6, Tryz.ntmps6
        go_wp2_with fail
        rw [← HW0.out]
        refine (I1.out w0).mono ?_
        rintro e w1 ⟨rfl, hb⟩
        have HBw1 := Lib.hid hb
        clear hb
        obtain ⟨c0, c1, c2, c3, c4, c5⟩ := KN.out w1 HBw1.out
        go_wp2_with fail
        clear c0 c1 c2 c3 c4 c5
        refine (I2.out w1).mono ?_
        rintro e w2 ⟨rfl, hb⟩
        have HBw2 := Lib.hid (HBw1.out.trans (hb.mono HBw1.out.size))
        clear hb
        obtain ⟨c0, c1, c2, c3, c4, c5⟩ := KN.out w2 HBw2.out
        go_wp2_with fail
        clear c0 c1 c2 c3 c4 c5
        refine (I3.out w2).mono ?_
        rintro e w3 ⟨rfl, hb⟩
        have HBw3 := Lib.hid (HBw2.out.trans (hb.mono HBw2.out.size))
        clear hb
        obtain ⟨k20, k21, f20, f21, hfin⟩ := FIN.out w3 HBw3.out
        obtain ⟨w8, hw8⟩ : ∃ w8, w8 = (w3.setCell ⟨w.heap.size + 1, 0, none⟩ (.float .f64 0)).setCell ⟨w.heap.size + 1, 1, none⟩ (.float .f64 0) := ⟨_, rfl⟩
        have HQ := Lib.hid (hfin _ hw8)
        have HW8 := Lib.hid hw8
        clear hfin hw8
        go_wp2_with fail
        rw [← HW8.out]
        obtain ⟨hb8, q0, q1⟩ := HQ.out
        (try simp only [Exit.inBlock, Exit.then])
        refine bodyPost_ret (v := .tuple #[.agg #[.float .f64 0, .float .f64 0], .int .i64 2]) (by simp [results, Tryz.results6, go_sem, q0, q1]; done) rfl ?_
        exact ⟨rfl, hb8⟩
      · skip
        cases p4
        · clear h
          go_enter Tryz.func6, Tryz.ntmps6
          go_wp2_with fail
          rw [← HW0.out]
          refine (I1.out w0).mono ?_
          rintro e w1 ⟨rfl, hb⟩
          have HBw1 := Lib.hid hb
          clear hb
          obtain ⟨c0, c1, c2, c3, c4, c5⟩ := KN.out w1 HBw1.out
          go_wp2_with fail
          clear c0 c1 c2 c3 c4 c5
          refine (I2.out w1).mono ?_
          rintro e w2 ⟨rfl, hb⟩
          have HBw2 := Lib.hid (HBw1.out.trans (hb.mono HBw1.out.size))
          clear hb
          obtain ⟨c0, c1, c2, c3, c4, c5⟩ := KN.out w2 HBw2.out
          go_wp2_with fail
          clear c0 c1 c2 c3 c4 c5
          refine (I3.out w2).mono ?_
          rintro e w3 ⟨rfl, hb⟩
          have HBw3 := Lib.hid (HBw2.out.trans (hb.mono HBw2.out.size))
          clear hb
          obtain ⟨c0, c1, c2, c3, c4, c5⟩ := KN.out w3 HBw3.out
          go_wp2_with fail
          clear c0 c1 c2 c3 c4 c5
          refine (I4.out w3).mono ?_
          rintro e wz ⟨rfl, rfl⟩
          obtain ⟨k20, k21, f20, f21, hfin⟩ := FIN.out w3 HBw3.out
          obtain ⟨w8, hw8⟩ : ∃ w8, w8 = (w3.setCell ⟨w.heap.size + 1, 0, none⟩ (.float .f64 0)).setCell ⟨w.heap.size + 1, 1, none⟩ (.float .f64 0) := ⟨_, rfl⟩
          have HQ := Lib.hid (hfin _ hw8)
          have HW8 := Lib.hid hw8
          clear hfin hw8
          go_wp2_with fail
          rw [← HW8.out]
          obtain ⟨hb8, q0, q1⟩ := HQ.out
          (try simp only [Exit.inBlock, Exit.then])
          refine bodyPost_ret (v := .tuple #[.agg #[.float .f64 0, .float .f64 0], .int .i64 2]) (by simp [results, Tryz.results6, go_sem, q0, q1]; done) rfl ?_
          exact ⟨rfl, hb8⟩
        · skip
          cases p5
          · clear h
            go_enter Tryz.func6, Tryz.ntmps6
            go_wp2_with fail
            rw [← HW0.out]
            refine (I1.out w0).mono ?_
            rintro e w1 ⟨rfl, hb⟩
            have HBw1 := Lib.hid hb
            clear hb
            obtain ⟨c0, c1, c2, c3, c4, c5⟩ := KN.out w1 HBw1.out
            go_wp2_with fail
            clear c0 c1 c2 c3 c4 c5
            refine (I2.out w1).mono ?_
            rintro e w2 ⟨rfl, hb⟩
            have HBw2 := Lib.hid (HBw1.out.trans (hb.mono HBw1.out.size))
            clear hb
            obtain ⟨c0, c1, c2, c3, c4, c5⟩ := KN.out w2 HBw2.out
            go_wp2_with fail
            clear c0 c1 c2 c3 c4 c5
            refine (I3.out w2).mono ?_
            rintro e w3 ⟨rfl, hb⟩
            have HBw3 := Lib.hid (HBw2.out.trans (hb.mono HBw2.out.size))
            clear hb
            obtain ⟨c0, c1, c2, c3, c4, c5⟩ := KN.out w3 HBw3.out
            go_wp2_with fail
            clear c0 c1 c2 c3 c4 c5
            refine (I4.out w3).mono ?_
            rintro e wz ⟨rfl, rfl⟩
            obtain ⟨c0, c1, c2, c3, c4, c5⟩ := KN.out w3 HBw3.out
            go_wp2_with fail
            clear c0 c1 c2 c3 c4 c5
            refine (I5.out w3).mono ?_
            rintro e wz ⟨rfl, rfl⟩
            obtain ⟨k20, k21, f20, f21, hfin⟩ := FIN.out w3 HBw3.out
            obtain ⟨w8, hw8⟩ : ∃ w8, w8 = (w3.setCell ⟨w.heap.size + 1, 0, none⟩ (.float .f64 0)).setCell ⟨w.heap.size + 1, 1, none⟩ (.float .f64 0) := ⟨_, rfl⟩
            have HQ := Lib.hid (hfin _ hw8)
            have HW8 := Lib.hid hw8
            clear hfin hw8
            go_wp2_with fail
            rw [← HW8.out]
            obtain ⟨hb8, q0, q1⟩ := HQ.out
            (try simp only [Exit.inBlock, Exit.then])
            refine bodyPost_ret (v := .tuple #[.agg #[.float .f64 0, .float .f64 0], .int .i64 2]) (by simp [results, Tryz.results6, go_sem, q0, q1]; done) rfl ?_
            exact ⟨rfl, hb8⟩
          · skip
            exact absurd h (by decide)

end Go.Proofs.YtkfhbnfoiicioaaGreatDoor
