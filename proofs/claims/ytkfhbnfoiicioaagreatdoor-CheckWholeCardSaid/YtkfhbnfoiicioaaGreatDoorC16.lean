import Derived.Test.YtkfhbnfoiicioaaGreatDoorC15
/- round.Add: the walk -/
set_option linter.unusedSimpArgs false
set_option linter.unusedVariables false
namespace Go.Proofs.YtkfhbnfoiicioaaGreatDoor
open Go.RowKit Go.Sort

theorem rd_two (w : World) (a b : Nat) (t : TypeId) : RdE Fc 1 (w.alloc (.cells #[.float .f64 a, .float .f64 b] t)) (fun x => x < w.heap.size + 1) (some ⟨w.heap.size, 0, none⟩) 2 [a, b] := rde_blk (blk_new ..) rfl (by omega) rfl rfl
theorem two_lt {a b : Nat} (ha : a < 18446744073709551616) (hb : b < 18446744073709551616) : ∀ x ∈ [a, b], x < 18446744073709551616 := by
  intro x hx
  simp at hx
  rcases hx with rfl | rfl <;> assumption
theorem subF_run {a b : Nat} (ha : finB a = true) (hb : finB b = true) : floatBits .sub .f64 a b = some (subF a b) ∧ fnan (subF a b) = false := by
  obtain ⟨s, h1, h2⟩ := sub_fin ha hb
  unfold subF
  rw [h1]
  exact ⟨rfl, h2⟩
theorem subF_run2 {a y : Nat} (ha : finB a = true) (hy : fnan y = false) : floatBits .sub .f64 a y = some (subF a y) := by
  cases hf : finB y
  · obtain ⟨s, m, h1, _⟩ := fin_parts ha
    rcases finB_read.2 hf with ⟨t, hr⟩ | ⟨t, n, hr⟩
    · have h : floatBits .sub .f64 a y = some (Ieee.double.write (.infinity (!t))) := by
        show ((Ieee.double.read a).sum (Ieee.double.read y).opposite).map Ieee.double.write = _
        rw [h1, hr]
        rfl
      unfold subF
      rw [h]
      rfl
    · unfold fnan at hy
      rw [hr] at hy
      cases hy
  · exact (subF_run ha hf).1
set_option maxRecDepth 100000 in
set_option maxHeartbeats 4000000 in
theorem add_any (a b s : Nat) (m : Int) (w : World) (ha : a < 18446744073709551616) (hb : b < 18446744073709551616) (hs : s < 18446744073709551616) (hr : floatBits .add .f64 a b = some s) (hn : fnan s = false) (hm : m = 1 ∨ m = 2) :
    Calls Tryz.prog 37 #[.float .f64 a, .float .f64 b, .int .i8 m] w fun e w' => e = .returned (.float .f64 (addF a b m s)) ∧ Below w.heap.size w w' := by
  have I1 := Lib.hid (fun w => way_any m w (by omega) (by omega))
  have I2 := Lib.hid (fun A n c S w hx hn => finite_any A n c [a, b] S w hx (two_lt ha hb) hn)
  have hl2 : [a, b].all finB = (finB a && finB b) := by simp
  rw [hl2] at I2
  have I3 := Lib.hid (fun w => signbit_any a w ha)
  have I4 := Lib.hid (fun w => signbit_any b w hb)
  have I5 := Lib.hid (fun w => none_any m w)
  have I6 := Lib.hid (fun w => isinf_any s w hs)
  have I7 := Lib.hid (fun off w => settle_any s off m w hs hn hm)
  have I8 := Lib.hid (fun w => abs_any a w ha)
  have I9 := Lib.hid (fun w => abs_any b w hb)
  have I10 := Lib.hid sign_any
  have hrun := fun w => run_float_arith (P := Tryz.prog) (w := w) BinOp.add 22 FloatKind.f64 a b s hr
  obtain ⟨w0, hw0⟩ : ∃ w0, w0 = w.alloc (.cells #[.float .f64 a, .float .f64 b] 22) := ⟨_, rfl⟩
  have hb0 : Below w.heap.size w w0 := by rw [hw0]; exact below1 ..
  have hx0 := rd_two w a b 22
  rw [← hw0] at hx0
  have HX := Lib.hid hx0
  have HB0 := Lib.hid hb0
  have HW0 := Lib.hid hw0
  obtain ⟨r, hrr⟩ : ∃ r, r = addF a b m s := ⟨_, rfl⟩
  rw [← hrr]
  have HR := Lib.hid hrr
  obtain ⟨fb, hfb⟩ : ∃ fb, fb = (finB a && finB b) := ⟨_, rfl⟩
  rw [← hfb] at I2
  have HFB := Lib.hid hfb
  have HN := Lib.hid hn
  clear hr hn hm hl2 hw0 hb0 hx0 hrr hfb
  cases fb
  · go_enter Tryz.func37, Tryz.ntmps37
    go_wp2_with fail
    refine (I1.out _).mono ?_
    rintro e w1 ⟨rfl, rfl⟩
    go_wp2_with fail
    rw [← HW0.out]
    refine (I2.out _ 2 2 _ w0 HX.out (by omega)).mono ?_
    rintro e w1 ⟨rfl, rfl⟩
    go_wp2_with fail
    go_ret
    exact ⟨by rw [HR.out]; unfold addF; rw [if_pos HFB.out.symm]; rfl, HB0.out⟩
  · have hf2 : finB a = true ∧ finB b = true := by
      have h := HFB.out.symm
      rwa [Bool.and_eq_true] at h
    have hne : ¬ (finB a && finB b) = false := by rw [← HFB.out]; decide
    have HNE := Lib.hid hne
    have HF2 := Lib.hid hf2
    clear hne hf2
    cases hz : feq s 0
    · -- a number
      have HZ := Lib.hid hz
      unfold feq at hz
      cases hi : infB s
      · rw [hi] at I6
        have hfs : finB s = true := by
          have h := fin_inf HN.out
          rw [hi] at h
          simpa using h.symm
        have HI := Lib.hid hi
        clear hi
        cases hl : flt (absF a) (absF b)
        · have h1 := subF_run hfs HF2.out.1
          have h2 := subF_run2 HF2.out.2 h1.2
          have hlost : lostF a b s = subF b (subF s a) := by unfold lostF; rw [hl, if_neg (by decide)]
          have HLO := Lib.hid hlost
          have q1 := fun w => run_float_arith (P := Tryz.prog) (w := w) BinOp.sub 22 FloatKind.f64 s a _ h1.1
          have q2 := fun w => run_float_arith (P := Tryz.prog) (w := w) BinOp.sub 22 FloatKind.f64 b (subF s a) _ h2
          generalize subF s a = x1 at *
          generalize subF b x1 = x2 at *
          unfold flt at hl
          clear h1 h2 hlost hfs
          go_enter Tryz.func37, Tryz.ntmps37
          go_wp2_with fail
          refine (I1.out _).mono ?_
          rintro e w1 ⟨rfl, rfl⟩
          go_wp2_with fail
          rw [← HW0.out]
          refine (I2.out _ 2 2 _ w0 HX.out (by omega)).mono ?_
          rintro e w1 ⟨rfl, rfl⟩
          go_wp2_with fail
          refine (I6.out _).mono ?_
          rintro e w1 ⟨rfl, rfl⟩
          go_wp2_with fail
          refine (I8.out _).mono ?_
          rintro e w1 ⟨rfl, rfl⟩
          go_wp2_with fail
          refine (I9.out _).mono ?_
          rintro e w1 ⟨rfl, rfl⟩
          go_wp2_with fail
          refine (I10.out _ _).mono ?_
          rintro e w1 ⟨rfl, rfl⟩
          go_wp2_with fail
          refine (I7.out _ _).mono ?_
          rintro e w1 ⟨rfl, rfl⟩
          go_wp2_with fail
          go_ret
          exact ⟨by rw [HR.out]; unfold addF; rw [if_neg HNE.out, if_neg (show ¬ feq s 0 = true by rw [HZ.out]; decide), if_neg (show ¬ infB s = true by rw [HI.out]; decide), HLO.out]; rfl, HB0.out⟩
        · have h1 := subF_run hfs HF2.out.2
          have h2 := subF_run2 HF2.out.1 h1.2
          have hlost : lostF a b s = subF a (subF s b) := by unfold lostF; rw [hl, if_pos rfl]
          have HLO := Lib.hid hlost
          have q1 := fun w => run_float_arith (P := Tryz.prog) (w := w) BinOp.sub 22 FloatKind.f64 s b _ h1.1
          have q2 := fun w => run_float_arith (P := Tryz.prog) (w := w) BinOp.sub 22 FloatKind.f64 a (subF s b) _ h2
          generalize subF s b = x1 at *
          generalize subF a x1 = x2 at *
          unfold flt at hl
          clear h1 h2 hlost hfs
          go_enter Tryz.func37, Tryz.ntmps37
          go_wp2_with fail
          refine (I1.out _).mono ?_
          rintro e w1 ⟨rfl, rfl⟩
          go_wp2_with fail
          rw [← HW0.out]
          refine (I2.out _ 2 2 _ w0 HX.out (by omega)).mono ?_
          rintro e w1 ⟨rfl, rfl⟩
          go_wp2_with fail
          refine (I6.out _).mono ?_
          rintro e w1 ⟨rfl, rfl⟩
          go_wp2_with fail
          refine (I8.out _).mono ?_
          rintro e w1 ⟨rfl, rfl⟩
          go_wp2_with fail
          refine (I9.out _).mono ?_
          rintro e w1 ⟨rfl, rfl⟩
          go_wp2_with fail
          refine (I10.out _ _).mono ?_
          rintro e w1 ⟨rfl, rfl⟩
          go_wp2_with fail
          refine (I7.out _ _).mono ?_
          rintro e w1 ⟨rfl, rfl⟩
          go_wp2_with fail
          go_ret
          exact ⟨by rw [HR.out]; unfold addF; rw [if_neg HNE.out, if_neg (show ¬ feq s 0 = true by rw [HZ.out]; decide), if_neg (show ¬ infB s = true by rw [HI.out]; decide), HLO.out]; rfl, HB0.out⟩
      · rw [hi] at I6
        have HI := Lib.hid hi
        clear hi
        go_enter Tryz.func37, Tryz.ntmps37
        go_wp2_with fail
        refine (I1.out _).mono ?_
        rintro e w1 ⟨rfl, rfl⟩
        go_wp2_with fail
        rw [← HW0.out]
        refine (I2.out _ 2 2 _ w0 HX.out (by omega)).mono ?_
        rintro e w1 ⟨rfl, rfl⟩
        go_wp2_with fail
        refine (I6.out _).mono ?_
        rintro e w1 ⟨rfl, rfl⟩
        go_wp2_with fail
        refine (I7.out _ _).mono ?_
        rintro e w1 ⟨rfl, rfl⟩
        go_wp2_with fail
        go_ret
        exact ⟨by rw [HR.out]; unfold addF; rw [if_neg HNE.out, if_neg (show ¬ feq s 0 = true by rw [HZ.out]; decide), if_pos HI.out]; rfl, HB0.out⟩
    · have HZ := Lib.hid hz
      unfold feq at hz
      cases ha0 : feq a 0
      · have HA0 := Lib.hid ha0
        unfold feq at ha0
        have ha1 : (FloatKind.f64.format.order a 0 != some .eq) = true := by rw [bne, ha0]; rfl
        go_enter Tryz.func37, Tryz.ntmps37
        go_wp2_with fail
        refine (I1.out _).mono ?_
        rintro e w1 ⟨rfl, rfl⟩
        go_wp2_with fail
        rw [← HW0.out]
        refine (I2.out _ 2 2 _ w0 HX.out (by omega)).mono ?_
        rintro e w1 ⟨rfl, rfl⟩
        go_wp2_with fail
        refine (I5.out _).mono ?_
        rintro e w1 ⟨rfl, rfl⟩
        go_wp2_with fail
        go_ret
        exact ⟨by rw [HR.out]; unfold addF; rw [if_neg HNE.out, if_pos HZ.out, if_pos (.inl HA0.out)]; rfl, HB0.out⟩
      · have HA0 := Lib.hid ha0
        unfold feq at ha0
        have ha1 : (FloatKind.f64.format.order a 0 != some .eq) = false := by rw [bne, ha0]; rfl
        obtain ⟨sa, hsa⟩ : ∃ x, x = sgbB a := ⟨_, rfl⟩
        obtain ⟨sb, hsb⟩ : ∃ x, x = sgbB b := ⟨_, rfl⟩
        rw [← hsa] at I3
        rw [← hsb] at I4
        have HSA := Lib.hid hsa
        have HSB := Lib.hid hsb
        clear hsa hsb
        cases sa <;> cases sb
        · have HSS := Lib.hid (show sgbB a = sgbB b from HSA.out.symm.trans HSB.out)
          go_enter Tryz.func37, Tryz.ntmps37
          go_wp2_with fail
          refine (I1.out _).mono ?_
          rintro e w1 ⟨rfl, rfl⟩
          go_wp2_with fail
          rw [← HW0.out]
          refine (I2.out _ 2 2 _ w0 HX.out (by omega)).mono ?_
          rintro e w1 ⟨rfl, rfl⟩
          go_wp2_with fail
          refine (I3.out _).mono ?_
          rintro e w1 ⟨rfl, rfl⟩
          go_wp2_with fail
          refine (I4.out _).mono ?_
          rintro e w1 ⟨rfl, rfl⟩
          go_wp2_with fail
          go_ret
          exact ⟨by rw [HR.out]; unfold addF; rw [if_neg HNE.out, if_pos HZ.out, if_neg (by rw [HA0.out, HSS.out]; simp)]; rfl, HB0.out⟩
        · have HSS := Lib.hid (show sgbB a ≠ sgbB b by rw [← HSA.out, ← HSB.out]; decide)
          go_enter Tryz.func37, Tryz.ntmps37
          go_wp2_with fail
          refine (I1.out _).mono ?_
          rintro e w1 ⟨rfl, rfl⟩
          go_wp2_with fail
          rw [← HW0.out]
          refine (I2.out _ 2 2 _ w0 HX.out (by omega)).mono ?_
          rintro e w1 ⟨rfl, rfl⟩
          go_wp2_with fail
          refine (I3.out _).mono ?_
          rintro e w1 ⟨rfl, rfl⟩
          go_wp2_with fail
          refine (I4.out _).mono ?_
          rintro e w1 ⟨rfl, rfl⟩
          go_wp2_with fail
          refine (I5.out _).mono ?_
          rintro e w1 ⟨rfl, rfl⟩
          go_wp2_with fail
          go_ret
          exact ⟨by rw [HR.out]; unfold addF; rw [if_neg HNE.out, if_pos HZ.out, if_pos (.inr HSS.out)]; rfl, HB0.out⟩
        · have HSS := Lib.hid (show sgbB a ≠ sgbB b by rw [← HSA.out, ← HSB.out]; decide)
          go_enter Tryz.func37, Tryz.ntmps37
          go_wp2_with fail
          refine (I1.out _).mono ?_
          rintro e w1 ⟨rfl, rfl⟩
          go_wp2_with fail
          rw [← HW0.out]
          refine (I2.out _ 2 2 _ w0 HX.out (by omega)).mono ?_
          rintro e w1 ⟨rfl, rfl⟩
          go_wp2_with fail
          refine (I3.out _).mono ?_
          rintro e w1 ⟨rfl, rfl⟩
          go_wp2_with fail
          refine (I4.out _).mono ?_
          rintro e w1 ⟨rfl, rfl⟩
          go_wp2_with fail
          refine (I5.out _).mono ?_
          rintro e w1 ⟨rfl, rfl⟩
          go_wp2_with fail
          go_ret
          exact ⟨by rw [HR.out]; unfold addF; rw [if_neg HNE.out, if_pos HZ.out, if_pos (.inr HSS.out)]; rfl, HB0.out⟩
        · have HSS := Lib.hid (show sgbB a = sgbB b from HSA.out.symm.trans HSB.out)
          go_enter Tryz.func37, Tryz.ntmps37
          go_wp2_with fail
          refine (I1.out _).mono ?_
          rintro e w1 ⟨rfl, rfl⟩
          go_wp2_with fail
          rw [← HW0.out]
          refine (I2.out _ 2 2 _ w0 HX.out (by omega)).mono ?_
          rintro e w1 ⟨rfl, rfl⟩
          go_wp2_with fail
          refine (I3.out _).mono ?_
          rintro e w1 ⟨rfl, rfl⟩
          go_wp2_with fail
          refine (I4.out _).mono ?_
          rintro e w1 ⟨rfl, rfl⟩
          go_wp2_with fail
          go_ret
          exact ⟨by rw [HR.out]; unfold addF; rw [if_neg HNE.out, if_pos HZ.out, if_neg (by rw [HA0.out, HSS.out]; simp)]; rfl, HB0.out⟩

end Go.Proofs.YtkfhbnfoiicioaaGreatDoor
