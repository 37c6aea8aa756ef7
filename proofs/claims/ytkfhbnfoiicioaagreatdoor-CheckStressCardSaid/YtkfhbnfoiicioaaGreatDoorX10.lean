import Derived.Test.YtkfhbnfoiicioaaGreatDoorX09
set_option linter.unusedSimpArgs false
set_option linter.unusedVariables false
/- round.step, settle, FMA, negation: the walks -/
namespace Go.Proofs.YtkfhbnfoiicioaaGreatDoor
open Go.RowKit Go.Sort

theorem run_fma {x y z r : Nat} (h : FloatKind.f64.format.fma x y z = some r) (w : World) : (callFunc 60 #[.float .f64 x, .float .f64 y, .float .f64 z]).run Tryz.prog w = .ok (.value (.float .f64 r)) w := by
  have hrun : Extern.MathFMA.fma #[.float .f64 x, .float .f64 y, .float .f64 z] = pure (.float .f64 r) := by
    show (match FloatKind.f64.format.fma x y z with
      | some r => (pure (.float .f64 r) : Sem Value)
      | none => _) = _
    rw [h]
  rw [run_callFunc_extern (e := Extern.MathFMA.fma) Tryz.func60 (by kernel_rfl) (by kernel_rfl) (by kernel_rfl) (by kernel_rfl), hrun]
  rfl
set_option maxRecDepth 100000 in
set_option maxHeartbeats 2000000 in
theorem step_any (u : Nat) (up : Bool) (w : World) (hu : u < 18446744073709551616) (hn : fnan u = false) : Calls Tryz.prog 81 #[.float .f64 u, .bool up] w fun e w' => e = .returned (.float .f64 (stepF u up)) ∧ w = w' := by
  have hl := num_le hn
  unfold stepF
  cases h0 : feq u 0
  · have hz := feq_zero hu
    rw [h0] at hz
    have hz2 := of_decide_eq_false hz.symm
    have e1 : IntKind.u64.wrap ((u : Int) + 1) = ((u + 1 : Nat) : Int) := by rw [IntKind.wrap_u64]; omega
    have e2 : IntKind.u64.wrap ((u : Int) - 1) = ((u - 1 : Nat) : Int) := by rw [IntKind.wrap_u64]; omega
    unfold feq at h0
    rw [if_neg (by decide)]
    obtain ⟨g, hg⟩ : ∃ g, fgt u 0 = g := ⟨_, rfl⟩
    rw [hg]
    unfold fgt at hg
    clear hz hz2 hl hn
    cases up <;> cases g
    · rw [if_pos rfl]
      go_enter Tryz.func81, Tryz.ntmps81
      go_wp2_with fail
      go_ret
      exact ⟨by first | rfl | (congr 2; omega), rfl⟩
    · rw [if_neg (by decide)]
      go_enter Tryz.func81, Tryz.ntmps81
      go_wp2_with fail
      go_ret
      exact ⟨by first | rfl | (congr 2; omega), rfl⟩
    · rw [if_neg (by decide)]
      go_enter Tryz.func81, Tryz.ntmps81
      go_wp2_with fail
      go_ret
      exact ⟨by first | rfl | (congr 2; omega), rfl⟩
    · rw [if_pos rfl]
      go_enter Tryz.func81, Tryz.ntmps81
      go_wp2_with fail
      go_ret
      exact ⟨by first | rfl | (congr 2; omega), rfl⟩
  · rw [if_pos rfl]
    unfold feq at h0
    have b1 : bits BinOp.or IntKind.u64 1 9223372036854775808 = 9223372036854775809 := by decide +kernel
    clear hl hn
    cases up
    · rw [if_neg (by decide)]
      go_enter Tryz.func81, Tryz.ntmps81
      go_wp2_with fail
      go_ret
      exact ⟨rfl, rfl⟩
    · rw [if_pos rfl]
      go_enter Tryz.func81, Tryz.ntmps81
      go_wp2_with fail
      go_ret
      exact ⟨rfl, rfl⟩

end Go.Proofs.YtkfhbnfoiicioaaGreatDoor

/- round.settle: the walk (printed by a loop over its ways) -/
namespace Go.Proofs.YtkfhbnfoiicioaaGreatDoor
open Go.RowKit Go.Sort

theorem maxF_cs (u : Nat) : absF 9218868437227405311 + (if sgbB u = true then 9223372036854775808 else 0) = maxF u := by
  unfold maxF
  cases sgbB u
  · rfl
  · rfl
set_option maxRecDepth 100000 in
set_option maxHeartbeats 4000000 in
theorem settle_any (u : Nat) (off m : Int) (w : World) (hu : u < 18446744073709551616) (hn : fnan u = false) (hm : m = 1 ∨ m = 2) : Calls Tryz.prog 58 #[.float .f64 u, .int .i64 off, .int .i8 m] w fun e w' => e = .returned (.float .f64 (setF u off m)) ∧ w = w' := by
  have I1 := Lib.hid (fun w => isinf_any u w hu)
  have I2 := Lib.hid (fun w => copysign_any 9218868437227405311 u w (by decide) hu)
  rw [maxF_cs] at I2
  have I3 := Lib.hid (fun up w => step_any u up w hu hn)
  obtain ⟨r, hr⟩ : ∃ r, r = setF u off m := ⟨_, rfl⟩
  rw [← hr]
  have HR := Lib.hid hr
  clear hr
  obtain ⟨g, hg⟩ : ∃ g, fgt u 0 = g := ⟨_, rfl⟩
  obtain ⟨h, hh⟩ : ∃ h, flt u 0 = h := ⟨_, rfl⟩
  obtain ⟨d1, hd1⟩ : ∃ d, decide (off < 0) = d := ⟨_, rfl⟩
  obtain ⟨d2, hd2⟩ : ∃ d, decide (0 < off) = d := ⟨_, rfl⟩
  obtain ⟨b, hb⟩ : ∃ b, infB u = b := ⟨_, rfl⟩
  rw [hb] at I1
  have HG := Lib.hid hg
  have HH := Lib.hid hh
  have HB := Lib.hid hb
  have HD1 := Lib.hid hd1
  have HD2 := Lib.hid hd2
  unfold fgt at hg
  unfold flt at hh
  clear hb hn
  rcases hm with rfl | rfl
  · cases b
    · cases d1 <;> cases d2
      · clear hg hh
        go_enter Tryz.func58, Tryz.ntmps58
        go_wp2_with fail
        refine (I1.out _).mono ?_
        rintro e w1 ⟨rfl, rfl⟩
        go_wp2_with fail
        go_ret
        exact ⟨by rw [HR.out]; unfold setF; rw [if_neg (by rw [HB.out]; decide)]; have q1 := of_decide_eq_false HD1.out; have q2 := of_decide_eq_false HD2.out; rw [if_neg (by omega)]; rfl, rfl⟩
      · clear hg hh
        go_enter Tryz.func58, Tryz.ntmps58
        go_wp2_with fail
        refine (I1.out _).mono ?_
        rintro e w1 ⟨rfl, rfl⟩
        go_wp2_with fail
        go_ret
        exact ⟨by rw [HR.out]; unfold setF; rw [if_neg (by rw [HB.out]; decide)]; have q1 := of_decide_eq_false HD1.out; have q2 := of_decide_eq_true HD2.out; rw [if_neg (by omega)]; rfl, rfl⟩
      · clear hg hh
        go_enter Tryz.func58, Tryz.ntmps58
        go_wp2_with fail
        refine (I1.out _).mono ?_
        rintro e w1 ⟨rfl, rfl⟩
        go_wp2_with fail
        refine (I3.out _ _).mono ?_
        rintro e w1 ⟨rfl, rfl⟩
        go_wp2_with fail
        go_ret
        exact ⟨by rw [HR.out]; unfold setF; rw [if_neg (by rw [HB.out]; decide)]; have q1 := of_decide_eq_true HD1.out; have q2 := of_decide_eq_false HD2.out; rw [if_pos (by omega), HD2.out]; rfl, rfl⟩
      · clear hg hh
        exfalso
        have q1 := of_decide_eq_true HD1.out
        have q2 := of_decide_eq_true HD2.out
        omega
    · cases g <;> cases h
      · clear hd1 hd2
        go_enter Tryz.func58, Tryz.ntmps58
        go_wp2_with fail
        refine (I1.out _).mono ?_
        rintro e w1 ⟨rfl, rfl⟩
        go_wp2_with fail
        go_ret
        exact ⟨by rw [HR.out]; unfold setF; rw [if_pos HB.out]; rw [HG.out, HH.out, if_neg (by decide)]; rfl, rfl⟩
      · clear hd1 hd2
        go_enter Tryz.func58, Tryz.ntmps58
        go_wp2_with fail
        refine (I1.out _).mono ?_
        rintro e w1 ⟨rfl, rfl⟩
        go_wp2_with fail
        go_ret
        exact ⟨by rw [HR.out]; unfold setF; rw [if_pos HB.out]; rw [HG.out, HH.out, if_neg (by decide)]; rfl, rfl⟩
      · clear hd1 hd2
        go_enter Tryz.func58, Tryz.ntmps58
        go_wp2_with fail
        refine (I1.out _).mono ?_
        rintro e w1 ⟨rfl, rfl⟩
        go_wp2_with fail
        refine (I2.out _).mono ?_
        rintro e w1 ⟨rfl, rfl⟩
        go_wp2_with fail
        go_ret
        exact ⟨by rw [HR.out]; unfold setF; rw [if_pos HB.out]; rw [HG.out, HH.out, if_pos (by decide)]; rfl, rfl⟩
      · clear hd1 hd2
        go_enter Tryz.func58, Tryz.ntmps58
        go_wp2_with fail
        refine (I1.out _).mono ?_
        rintro e w1 ⟨rfl, rfl⟩
        go_wp2_with fail
        refine (I2.out _).mono ?_
        rintro e w1 ⟨rfl, rfl⟩
        go_wp2_with fail
        go_ret
        exact ⟨by rw [HR.out]; unfold setF; rw [if_pos HB.out]; rw [HG.out, HH.out, if_pos (by decide)]; rfl, rfl⟩
  · cases b
    · cases d1 <;> cases d2
      · clear hg hh
        go_enter Tryz.func58, Tryz.ntmps58
        go_wp2_with fail
        refine (I1.out _).mono ?_
        rintro e w1 ⟨rfl, rfl⟩
        go_wp2_with fail
        go_ret
        exact ⟨by rw [HR.out]; unfold setF; rw [if_neg (by rw [HB.out]; decide)]; have q1 := of_decide_eq_false HD1.out; have q2 := of_decide_eq_false HD2.out; rw [if_neg (by omega)]; rfl, rfl⟩
      · clear hg hh
        go_enter Tryz.func58, Tryz.ntmps58
        go_wp2_with fail
        refine (I1.out _).mono ?_
        rintro e w1 ⟨rfl, rfl⟩
        go_wp2_with fail
        refine (I3.out _ _).mono ?_
        rintro e w1 ⟨rfl, rfl⟩
        go_wp2_with fail
        go_ret
        exact ⟨by rw [HR.out]; unfold setF; rw [if_neg (by rw [HB.out]; decide)]; have q1 := of_decide_eq_false HD1.out; have q2 := of_decide_eq_true HD2.out; rw [if_pos (by omega), HD2.out]; rfl, rfl⟩
      · clear hg hh
        go_enter Tryz.func58, Tryz.ntmps58
        go_wp2_with fail
        refine (I1.out _).mono ?_
        rintro e w1 ⟨rfl, rfl⟩
        go_wp2_with fail
        go_ret
        exact ⟨by rw [HR.out]; unfold setF; rw [if_neg (by rw [HB.out]; decide)]; have q1 := of_decide_eq_true HD1.out; have q2 := of_decide_eq_false HD2.out; rw [if_neg (by omega)]; rfl, rfl⟩
      · clear hg hh
        exfalso
        have q1 := of_decide_eq_true HD1.out
        have q2 := of_decide_eq_true HD2.out
        omega
    · cases g <;> cases h
      · clear hd1 hd2
        go_enter Tryz.func58, Tryz.ntmps58
        go_wp2_with fail
        refine (I1.out _).mono ?_
        rintro e w1 ⟨rfl, rfl⟩
        go_wp2_with fail
        go_ret
        exact ⟨by rw [HR.out]; unfold setF; rw [if_pos HB.out]; rw [HG.out, HH.out, if_neg (by decide)]; rfl, rfl⟩
      · clear hd1 hd2
        go_enter Tryz.func58, Tryz.ntmps58
        go_wp2_with fail
        refine (I1.out _).mono ?_
        rintro e w1 ⟨rfl, rfl⟩
        go_wp2_with fail
        refine (I2.out _).mono ?_
        rintro e w1 ⟨rfl, rfl⟩
        go_wp2_with fail
        go_ret
        exact ⟨by rw [HR.out]; unfold setF; rw [if_pos HB.out]; rw [HG.out, HH.out, if_pos (by decide)]; rfl, rfl⟩
      · clear hd1 hd2
        go_enter Tryz.func58, Tryz.ntmps58
        go_wp2_with fail
        refine (I1.out _).mono ?_
        rintro e w1 ⟨rfl, rfl⟩
        go_wp2_with fail
        go_ret
        exact ⟨by rw [HR.out]; unfold setF; rw [if_pos HB.out]; rw [HG.out, HH.out, if_neg (by decide)]; rfl, rfl⟩
      · clear hd1 hd2
        go_enter Tryz.func58, Tryz.ntmps58
        go_wp2_with fail
        refine (I1.out _).mono ?_
        rintro e w1 ⟨rfl, rfl⟩
        go_wp2_with fail
        refine (I2.out _).mono ?_
        rintro e w1 ⟨rfl, rfl⟩
        go_wp2_with fail
        go_ret
        exact ⟨by rw [HR.out]; unfold setF; rw [if_pos HB.out]; rw [HG.out, HH.out, if_pos (by decide)]; rfl, rfl⟩

end Go.Proofs.YtkfhbnfoiicioaaGreatDoor

/- round.Add: the walk -/
namespace Go.Proofs.YtkfhbnfoiicioaaGreatDoor
open Go.RowKit Go.Sort

theorem rd_two (w : World) (a b : Nat) (t : TypeId) : RdE Fc 1 (w.alloc (.cells #[.float .f64 a, .float .f64 b] t)) (fun x => x < w.heap.size + 1) (some ⟨w.heap.size, 0, none⟩) 2 [a, b] := rde_blk (blk_new ..) rfl (by omega) rfl rfl
theorem two_lt {a b : Nat} (ha : a < 18446744073709551616) (hb : b < 18446744073709551616) : ∀ x ∈ [a, b], x < 18446744073709551616 := by
  intro x hx
  simp at hx
  rcases hx with rfl | rfl <;> assumption
theorem subF_run {a b : Nat} (ha : finB a = true) (hb : finB b = true) : floatBits .sub .f64 a b = some (subF a b) ∧ fnan (subF a b) = false := by
  obtain ⟨s, h1, h2⟩ := sub_fin ha hb
  unfold subF
  rw [h1]
  exact ⟨rfl, h2⟩
theorem subF_run2 {a y : Nat} (ha : finB a = true) (hy : fnan y = false) : floatBits .sub .f64 a y = some (subF a y) := by
  cases hf : finB y
  · obtain ⟨s, m, h1, _⟩ := fin_parts ha
    rcases finB_read.2 hf with ⟨t, hr⟩ | ⟨t, n, hr⟩
    · have h : floatBits .sub .f64 a y = some (Ieee.double.write (.infinity (!t))) := by
        show ((Ieee.double.read a).sum (Ieee.double.read y).opposite).map Ieee.double.write = _
        rw [h1, hr]
        rfl
      unfold subF
      rw [h]
      rfl
    · unfold fnan at hy
      rw [hr] at hy
      cases hy
  · exact (subF_run ha hf).1
set_option maxRecDepth 100000 in
set_option maxHeartbeats 4000000 in
theorem add_any (a b s : Nat) (m : Int) (w : World) (ha : a < 18446744073709551616) (hb : b < 18446744073709551616) (hs : s < 18446744073709551616) (hr : floatBits .add .f64 a b = some s) (hn : fnan s = false) (hm : m = 1 ∨ m = 2) :
    Calls Tryz.prog 37 #[.float .f64 a, .float .f64 b, .int .i8 m] w fun e w' => e = .returned (.float .f64 (addF a b m s)) ∧ Below w.heap.size w w' := by
  have I1 := Lib.hid (fun w => way_any m w (by omega) (by omega))
  have I2 := Lib.hid (fun A n c S w hx hn => finite_any A n c [a, b] S w hx (two_lt ha hb) hn)
  have hl2 : [a, b].all finB = (finB a && finB b) := by simp
  rw [hl2] at I2
  have I3 := Lib.hid (fun w => signbit_any a w ha)
  have I4 := Lib.hid (fun w => signbit_any b w hb)
  have I5 := Lib.hid (fun w => none_any m w)
  have I6 := Lib.hid (fun w => isinf_any s w hs)
  have I7 := Lib.hid (fun off w => settle_any s off m w hs hn hm)
  have I8 := Lib.hid (fun w => abs_any a w ha)
  have I9 := Lib.hid (fun w => abs_any b w hb)
  have I10 := Lib.hid sign_any
  have hrun := fun w => run_float_arith (P := Tryz.prog) (w := w) BinOp.add 22 FloatKind.f64 a b s hr
  obtain ⟨w0, hw0⟩ : ∃ w0, w0 = w.alloc (.cells #[.float .f64 a, .float .f64 b] 22) := ⟨_, rfl⟩
  have hb0 : Below w.heap.size w w0 := by rw [hw0]; exact below1 ..
  have hx0 := rd_two w a b 22
  rw [← hw0] at hx0
  have HX := Lib.hid hx0
  have HB0 := Lib.hid hb0
  have HW0 := Lib.hid hw0
  obtain ⟨r, hrr⟩ : ∃ r, r = addF a b m s := ⟨_, rfl⟩
  rw [← hrr]
  have HR := Lib.hid hrr
  obtain ⟨fb, hfb⟩ : ∃ fb, fb = (finB a && finB b) := ⟨_, rfl⟩
  rw [← hfb] at I2
  have HFB := Lib.hid hfb
  have HN := Lib.hid hn
  clear hr hn hm hl2 hw0 hb0 hx0 hrr hfb
  cases fb
  · go_enter Tryz.func37, Tryz.ntmps37
    go_wp2_with fail
    refine (I1.out _).mono ?_
    rintro e w1 ⟨rfl, rfl⟩
    go_wp2_with fail
    rw [← HW0.out]
    refine (I2.out _ 2 2 _ w0 HX.out (by omega)).mono ?_
    rintro e w1 ⟨rfl, rfl⟩
    go_wp2_with fail
    go_ret
    exact ⟨by rw [HR.out]; unfold addF; rw [if_pos HFB.out.symm]; rfl, HB0.out⟩
  · have hf2 : finB a = true ∧ finB b = true := by
      have h := HFB.out.symm
      rwa [Bool.and_eq_true] at h
    have hne : ¬ (finB a && finB b) = false := by rw [← HFB.out]; decide
    have HNE := Lib.hid hne
    have HF2 := Lib.hid hf2
    clear hne hf2
    cases hz : feq s 0
    · -- a number
      have HZ := Lib.hid hz
      unfold feq at hz
      cases hi : infB s
      · rw [hi] at I6
        have hfs : finB s = true := by
          have h := fin_inf HN.out
          rw [hi] at h
          simpa using h.symm
        have HI := Lib.hid hi
        clear hi
        cases hl : flt (absF a) (absF b)
        · have h1 := subF_run hfs HF2.out.1
          have h2 := subF_run2 HF2.out.2 h1.2
          have hlost : lostF a b s = subF b (subF s a) := by unfold lostF; rw [hl, if_neg (by decide)]
          have HLO := Lib.hid hlost
          have q1 := fun w => run_float_arith (P := Tryz.prog) (w := w) BinOp.sub 22 FloatKind.f64 s a _ h1.1
          have q2 := fun w => run_float_arith (P := Tryz.prog) (w := w) BinOp.sub 22 FloatKind.f64 b (subF s a) _ h2
          generalize subF s a = x1 at *
          generalize subF b x1 = x2 at *
          unfold flt at hl
          clear h1 h2 hlost hfs
          go_enter Tryz.func37, Tryz.ntmps37
          go_wp2_with fail
          refine (I1.out _).mono ?_
          rintro e w1 ⟨rfl, rfl⟩
          go_wp2_with fail
          rw [← HW0.out]
          refine (I2.out _ 2 2 _ w0 HX.out (by omega)).mono ?_
          rintro e w1 ⟨rfl, rfl⟩
          go_wp2_with fail
          refine (I6.out _).mono ?_
          rintro e w1 ⟨rfl, rfl⟩
          go_wp2_with fail
          refine (I8.out _).mono ?_
          rintro e w1 ⟨rfl, rfl⟩
          go_wp2_with fail
          refine (I9.out _).mono ?_
          rintro e w1 ⟨rfl, rfl⟩
          go_wp2_with fail
          refine (I10.out _ _).mono ?_
          rintro e w1 ⟨rfl, rfl⟩
          go_wp2_with fail
          refine (I7.out _ _).mono ?_
          rintro e w1 ⟨rfl, rfl⟩
          go_wp2_with fail
          go_ret
          exact ⟨by rw [HR.out]; unfold addF; rw [if_neg HNE.out, if_neg (show ¬ feq s 0 = true by rw [HZ.out]; decide), if_neg (show ¬ infB s = true by rw [HI.out]; decide), HLO.out]; rfl, HB0.out⟩
        · have h1 := subF_run hfs HF2.out.2
          have h2 := subF_run2 HF2.out.1 h1.2
          have hlost : lostF a b s = subF a (subF s b) := by unfold lostF; rw [hl, if_pos rfl]
          have HLO := Lib.hid hlost
          have q1 := fun w => run_float_arith (P := Tryz.prog) (w := w) BinOp.sub 22 FloatKind.f64 s b _ h1.1
          have q2 := fun w => run_float_arith (P := Tryz.prog) (w := w) BinOp.sub 22 FloatKind.f64 a (subF s b) _ h2
          generalize subF s b = x1 at *
          generalize subF a x1 = x2 at *
          unfold flt at hl
          clear h1 h2 hlost hfs
          go_enter Tryz.func37, Tryz.ntmps37
          go_wp2_with fail
          refine (I1.out _).mono ?_
          rintro e w1 ⟨rfl, rfl⟩
          go_wp2_with fail
          rw [← HW0.out]
          refine (I2.out _ 2 2 _ w0 HX.out (by omega)).mono ?_
          rintro e w1 ⟨rfl, rfl⟩
          go_wp2_with fail
          refine (I6.out _).mono ?_
          rintro e w1 ⟨rfl, rfl⟩
          go_wp2_with fail
          refine (I8.out _).mono ?_
          rintro e w1 ⟨rfl, rfl⟩
          go_wp2_with fail
          refine (I9.out _).mono ?_
          rintro e w1 ⟨rfl, rfl⟩
          go_wp2_with fail
          refine (I10.out _ _).mono ?_
          rintro e w1 ⟨rfl, rfl⟩
          go_wp2_with fail
          refine (I7.out _ _).mono ?_
          rintro e w1 ⟨rfl, rfl⟩
          go_wp2_with fail
          go_ret
          exact ⟨by rw [HR.out]; unfold addF; rw [if_neg HNE.out, if_neg (show ¬ feq s 0 = true by rw [HZ.out]; decide), if_neg (show ¬ infB s = true by rw [HI.out]; decide), HLO.out]; rfl, HB0.out⟩
      · rw [hi] at I6
        have HI := Lib.hid hi
        clear hi
        go_enter Tryz.func37, Tryz.ntmps37
        go_wp2_with fail
        refine (I1.out _).mono ?_
        rintro e w1 ⟨rfl, rfl⟩
        go_wp2_with fail
        rw [← HW0.out]
        refine (I2.out _ 2 2 _ w0 HX.out (by omega)).mono ?_
        rintro e w1 ⟨rfl, rfl⟩
        go_wp2_with fail
        refine (I6.out _).mono ?_
        rintro e w1 ⟨rfl, rfl⟩
        go_wp2_with fail
        refine (I7.out _ _).mono ?_
        rintro e w1 ⟨rfl, rfl⟩
        go_wp2_with fail
        go_ret
        exact ⟨by rw [HR.out]; unfold addF; rw [if_neg HNE.out, if_neg (show ¬ feq s 0 = true by rw [HZ.out]; decide), if_pos HI.out]; rfl, HB0.out⟩
    · have HZ := Lib.hid hz
      unfold feq at hz
      cases ha0 : feq a 0
      · have HA0 := Lib.hid ha0
        unfold feq at ha0
        have ha1 : (FloatKind.f64.format.order a 0 != some .eq) = true := by rw [bne, ha0]; rfl
        go_enter Tryz.func37, Tryz.ntmps37
        go_wp2_with fail
        refine (I1.out _).mono ?_
        rintro e w1 ⟨rfl, rfl⟩
        go_wp2_with fail
        rw [← HW0.out]
        refine (I2.out _ 2 2 _ w0 HX.out (by omega)).mono ?_
        rintro e w1 ⟨rfl, rfl⟩
        go_wp2_with fail
        refine (I5.out _).mono ?_
        rintro e w1 ⟨rfl, rfl⟩
        go_wp2_with fail
        go_ret
        exact ⟨by rw [HR.out]; unfold addF; rw [if_neg HNE.out, if_pos HZ.out, if_pos (.inl HA0.out)]; rfl, HB0.out⟩
      · have HA0 := Lib.hid ha0
        unfold feq at ha0
        have ha1 : (FloatKind.f64.format.order a 0 != some .eq) = false := by rw [bne, ha0]; rfl
        obtain ⟨sa, hsa⟩ : ∃ x, x = sgbB a := ⟨_, rfl⟩
        obtain ⟨sb, hsb⟩ : ∃ x, x = sgbB b := ⟨_, rfl⟩
        rw [← hsa] at I3
        rw [← hsb] at I4
        have HSA := Lib.hid hsa
        have HSB := Lib.hid hsb
        clear hsa hsb
        cases sa <;> cases sb
        · have HSS := Lib.hid (show sgbB a = sgbB b from HSA.out.symm.trans HSB.out)
          go_enter Tryz.func37, Tryz.ntmps37
          go_wp2_with fail
          refine (I1.out _).mono ?_
          rintro e w1 ⟨rfl, rfl⟩
          go_wp2_with fail
          rw [← HW0.out]
          refine (I2.out _ 2 2 _ w0 HX.out (by omega)).mono ?_
          rintro e w1 ⟨rfl, rfl⟩
          go_wp2_with fail
          refine (I3.out _).mono ?_
          rintro e w1 ⟨rfl, rfl⟩
          go_wp2_with fail
          refine (I4.out _).mono ?_
          rintro e w1 ⟨rfl, rfl⟩
          go_wp2_with fail
          go_ret
          exact ⟨by rw [HR.out]; unfold addF; rw [if_neg HNE.out, if_pos HZ.out, if_neg (by rw [HA0.out, HSS.out]; simp)]; rfl, HB0.out⟩
        · have HSS := Lib.hid (show sgbB a ≠ sgbB b by rw [← HSA.out, ← HSB.out]; decide)
          go_enter Tryz.func37, Tryz.ntmps37
          go_wp2_with fail
          refine (I1.out _).mono ?_
          rintro e w1 ⟨rfl, rfl⟩
          go_wp2_with fail
          rw [← HW0.out]
          refine (I2.out _ 2 2 _ w0 HX.out (by omega)).mono ?_
          rintro e w1 ⟨rfl, rfl⟩
          go_wp2_with fail
          refine (I3.out _).mono ?_
          rintro e w1 ⟨rfl, rfl⟩
          go_wp2_with fail
          refine (I4.out _).mono ?_
          rintro e w1 ⟨rfl, rfl⟩
          go_wp2_with fail
          refine (I5.out _).mono ?_
          rintro e w1 ⟨rfl, rfl⟩
          go_wp2_with fail
          go_ret
          exact ⟨by rw [HR.out]; unfold addF; rw [if_neg HNE.out, if_pos HZ.out, if_pos (.inr HSS.out)]; rfl, HB0.out⟩
        · have HSS := Lib.hid (show sgbB a ≠ sgbB b by rw [← HSA.out, ← HSB.out]; decide)
          go_enter Tryz.func37, Tryz.ntmps37
          go_wp2_with fail
          refine (I1.out _).mono ?_
          rintro e w1 ⟨rfl, rfl⟩
          go_wp2_with fail
          rw [← HW0.out]
          refine (I2.out _ 2 2 _ w0 HX.out (by omega)).mono ?_
          rintro e w1 ⟨rfl, rfl⟩
          go_wp2_with fail
          refine (I3.out _).mono ?_
          rintro e w1 ⟨rfl, rfl⟩
          go_wp2_with fail
          refine (I4.out _).mono ?_
          rintro e w1 ⟨rfl, rfl⟩
          go_wp2_with fail
          refine (I5.out _).mono ?_
          rintro e w1 ⟨rfl, rfl⟩
          go_wp2_with fail
          go_ret
          exact ⟨by rw [HR.out]; unfold addF; rw [if_neg HNE.out, if_pos HZ.out, if_pos (.inr HSS.out)]; rfl, HB0.out⟩
        · have HSS := Lib.hid (show sgbB a = sgbB b from HSA.out.symm.trans HSB.out)
          go_enter Tryz.func37, Tryz.ntmps37
          go_wp2_with fail
          refine (I1.out _).mono ?_
          rintro e w1 ⟨rfl, rfl⟩
          go_wp2_with fail
          rw [← HW0.out]
          refine (I2.out _ 2 2 _ w0 HX.out (by omega)).mono ?_
          rintro e w1 ⟨rfl, rfl⟩
          go_wp2_with fail
          refine (I3.out _).mono ?_
          rintro e w1 ⟨rfl, rfl⟩
          go_wp2_with fail
          refine (I4.out _).mono ?_
          rintro e w1 ⟨rfl, rfl⟩
          go_wp2_with fail
          go_ret
          exact ⟨by rw [HR.out]; unfold addF; rw [if_neg HNE.out, if_pos HZ.out, if_neg (by rw [HA0.out, HSS.out]; simp)]; rfl, HB0.out⟩

end Go.Proofs.YtkfhbnfoiicioaaGreatDoor

/- round.Div where its rest is told by a fused product: the walk -/
namespace Go.Proofs.YtkfhbnfoiicioaaGreatDoor
open Go.RowKit Go.Sort

theorem xor63 {u : Nat} (h : u < 2 ^ 63) : u ^^^ 2 ^ 63 = u + 2 ^ 63 := by
  refine Nat.eq_of_testBit_eq fun i => ?_
  rw [Nat.testBit_xor, Nat.testBit_two_pow, Nat.add_comm]
  by_cases hi : 63 = i
  · subst hi
    rw [Nat.testBit_two_pow_add_eq]
    simp
  · rw [decide_eq_false hi, Bool.xor_false]
    by_cases hlt : i < 63
    · rw [Nat.testBit_two_pow_add_gt hlt]
    · have h1 : 63 < i := by omega
      rw [Nat.testBit_lt_two_pow (Nat.lt_of_lt_of_le h (Nat.pow_le_pow_right (by decide) (by omega))), Nat.testBit_lt_two_pow]
      have : 2 ^ 64 ≤ 2 ^ i := Nat.pow_le_pow_right (by decide) (by omega)
      omega
theorem xor63' {u : Nat} (h : u < 2 ^ 64) (h2 : 2 ^ 63 ≤ u) : u ^^^ 2 ^ 63 = u - 2 ^ 63 := by
  have h3 := xor63 (u := u - 2 ^ 63) (by omega)
  have h4 : u - 2 ^ 63 + 2 ^ 63 = u := by omega
  rw [h4] at h3
  calc u ^^^ 2 ^ 63 = (u - 2 ^ 63) ^^^ 2 ^ 63 ^^^ 2 ^ 63 := by rw [h3]
    _ = u - 2 ^ 63 := by rw [Nat.xor_assoc, Nat.xor_self, Nat.xor_zero]
theorem run_neg {u : Nat} (hu : u < 18446744073709551616) (w : World) : (Op.unary UnOp.neg (.float .f64 u)).run Tryz.prog w = .ok (.float .f64 (negF u)) w := by
  have h : u ^^^ 2 ^ 63 = negF u := by
    unfold negF
    by_cases h1 : u < 9223372036854775808
    · rw [if_pos h1, xor63 h1]
    · rw [if_neg h1, xor63' hu (by omega)]
  rw [← h]
  rfl
def fmaF (x y z : Nat) : Nat := (FloatKind.f64.format.fma x y z).getD 0
/-- a quotient, rounded to either side; X: the sign of what is left, told exactly -/
def divF (a b : Nat) (m : Int) (q : Nat) (X : Int) : Nat :=
  if (finB a && finB b) = false ∨ feq a 0 = true ∨ feq b 0 = true then q
  else if (plB a && (plB b && plB q)) = true then setF q (sgF (fmaF (negF q) b a) * sgF b) m
  else if infB q = true then setF q 0 m
  else setF q (X * sgF b) m
theorem rd_three (w : World) (a b q : Nat) (t : TypeId) : RdE Fc 1 (w.alloc (.cells #[.float .f64 a, .float .f64 b, .float .f64 q] t)) (fun x => x < w.heap.size + 1) (some ⟨w.heap.size, 0, none⟩) 3 [a, b, q] := rde_blk (blk_new ..) rfl (by omega) rfl rfl
theorem three_lt {a b q : Nat} (ha : a < 18446744073709551616) (hb : b < 18446744073709551616) (hq : q < 18446744073709551616) : ∀ x ∈ [a, b, q], x < 18446744073709551616 := by
  intro x hx
  simp at hx
  rcases hx with rfl | rfl | rfl <;> assumption
theorem sgF_range (u : Nat) : sgF u = 1 ∨ sgF u = -1 ∨ sgF u = 0 := by
  unfold sgF
  split
  · exact .inl rfl
  · split
    · exact .inr (.inl rfl)
    · exact .inr (.inr rfl)
set_option maxRecDepth 100000 in
set_option maxHeartbeats 4000000 in
theorem div_easy (a b q : Nat) (m : Int) (X : Int) (w : World) (ha : a < 18446744073709551616) (hb : b < 18446744073709551616) (hq : q < 18446744073709551616) (hr : floatBits .quo .f64 a b = some q) (hn : fnan q = false) (hm : m = 1 ∨ m = 2)
    (hf : (plB a && (plB b && plB q)) = true → ∃ r, FloatKind.f64.format.fma (negF q) b a = some r)
    (he : (finB a && finB b) = false ∨ feq a 0 = true ∨ feq b 0 = true ∨ (plB a && (plB b && plB q)) = true ∨ infB q = true) :
    Calls Tryz.prog 36 #[.float .f64 a, .float .f64 b, .int .i8 m] w fun e w' => e = .returned (.float .f64 (divF a b m q X)) ∧ Below w.heap.size w w' := by
  have I1 := Lib.hid (fun w => way_any m w (by omega) (by omega))
  have I2 := Lib.hid (fun A n c S w hx hn => finite_any A n c [a, b] S w hx (two_lt ha hb) hn)
  have hl2 : [a, b].all finB = (finB a && finB b) := by simp
  rw [hl2] at I2
  have I3 := Lib.hid (fun A n c S w hx hn => plain_any A n c [a, b, q] S w hx (three_lt ha hb hq) hn)
  have hl3 : [a, b, q].all plB = (plB a && (plB b && plB q)) := by simp
  rw [hl3] at I3
  have I6 := Lib.hid (fun w => isinf_any q w hq)
  have I7 := Lib.hid (fun off w => settle_any q off m w hq hn hm)
  have I10 := Lib.hid sign_any
  have hrun := fun w => run_float_arith (P := Tryz.prog) (w := w) BinOp.quo 22 FloatKind.f64 a b q hr
  obtain ⟨w0, hw0⟩ : ∃ w0, w0 = w.alloc (.cells #[.float .f64 a, .float .f64 b] 22) := ⟨_, rfl⟩
  have hb0 : Below w.heap.size w w0 := by rw [hw0]; exact below1 ..
  have hx0 := rd_two w a b 22
  rw [← hw0] at hx0
  obtain ⟨w1, hw1⟩ : ∃ w1, w1 = w0.alloc (.cells #[.float .f64 a, .float .f64 b, .float .f64 q] 22) := ⟨_, rfl⟩
  have hb1 : Below w.heap.size w w1 := hb0.trans (by rw [hw1]; exact (below1 ..).mono hb0.size)
  have hx1 := rd_three w0 a b q 22
  rw [← hw1] at hx1
  have HX := Lib.hid hx0
  have HX1 := Lib.hid hx1
  have HB0 := Lib.hid hb0
  have HB1 := Lib.hid hb1
  have HW0 := Lib.hid hw0
  have HW1 := Lib.hid hw1
  obtain ⟨r, hrr⟩ : ∃ r, r = divF a b m q X := ⟨_, rfl⟩
  rw [← hrr]
  have HR := Lib.hid hrr
  obtain ⟨fb, hfb⟩ : ∃ fb, fb = (finB a && finB b) := ⟨_, rfl⟩
  rw [← hfb] at I2
  have HFB := Lib.hid hfb
  obtain ⟨pb, hpb⟩ : ∃ pb, pb = (plB a && (plB b && plB q)) := ⟨_, rfl⟩
  rw [← hpb] at I3
  have HPB := Lib.hid hpb
  rw [← hfb, ← hpb] at he
  rw [← hpb] at hf
  have HE := Lib.hid he
  have HF := Lib.hid hf
  clear hr hn hm hl2 hl3 hw0 hb0 hx0 hw1 hb1 hx1 hrr hfb hpb he hf
  cases fb
  · go_enter Tryz.func36, Tryz.ntmps36
    go_wp2_with fail
    refine (I1.out _).mono ?_
    rintro e w1 ⟨rfl, rfl⟩
    go_wp2_with fail
    rw [← HW0.out]
    refine (I2.out _ 2 2 _ w0 HX.out (by omega)).mono ?_
    rintro e w1 ⟨rfl, rfl⟩
    go_wp2_with fail
    go_ret
    exact ⟨by rw [HR.out]; unfold divF; rw [if_pos (.inl HFB.out.symm)]; rfl, HB0.out⟩
  · cases ha0 : feq a 0
    · have HA0 := Lib.hid ha0
      unfold feq at ha0
      cases hb0 : feq b 0
      · have HB00 := Lib.hid hb0
        unfold feq at hb0
        have hne : ¬ ((finB a && finB b) = false ∨ feq a 0 = true ∨ feq b 0 = true) := by
          rintro (h | h | h)
          · rw [← HFB.out] at h; cases h
          · rw [HA0.out] at h; cases h
          · rw [HB00.out] at h; cases h
        have HNE := Lib.hid hne
        clear hne
        cases pb
        · have hi : infB q = true := by
            rcases HE.out with h | h | h | h | h
            · cases h
            · rw [HA0.out] at h; cases h
            · rw [HB00.out] at h; cases h
            · cases h
            · exact h
          rw [hi] at I6
          have HI := Lib.hid hi
          clear hi
          go_enter Tryz.func36, Tryz.ntmps36
          go_wp2_with fail
          refine (I1.out _).mono ?_
          rintro e w2 ⟨rfl, rfl⟩
          go_wp2_with fail
          rw [← HW0.out]
          refine (I2.out _ 2 2 _ w0 HX.out (by omega)).mono ?_
          rintro e w2 ⟨rfl, rfl⟩
          go_wp2_with fail
          rw [← HW1.out]
          refine (I3.out _ 3 3 _ w1 HX1.out (by omega)).mono ?_
          rintro e w2 ⟨rfl, rfl⟩
          go_wp2_with fail
          refine (I6.out _).mono ?_
          rintro e w2 ⟨rfl, rfl⟩
          go_wp2_with fail
          refine (I7.out _ _).mono ?_
          rintro e w2 ⟨rfl, rfl⟩
          go_wp2_with fail
          go_ret
          exact ⟨by rw [HR.out]; unfold divF; rw [if_neg HNE.out, if_neg (by rw [← HPB.out]; decide), if_pos HI.out]; rfl, HB1.out⟩
        · obtain ⟨fr, hfr⟩ := HF.out rfl
          have hfd : fmaF (negF q) b a = fr := by unfold fmaF; rw [hfr]; rfl
          have HFD := Lib.hid hfd
          have hwr : wrap64 (sgF fr * sgF b) = sgF fr * sgF b := by
            have h1 := sgF_range fr
            have h2 := sgF_range b
            rcases h1 with h1 | h1 | h1 <;> rcases h2 with h2 | h2 | h2 <;> rw [h1, h2] <;> decide +kernel
          have hfma := fun w => run_fma hfr w
          have hneg := fun w => run_neg hq w
          clear hfr hfd
          go_enter Tryz.func36, Tryz.ntmps36
          go_wp2_with fail
          refine (I1.out _).mono ?_
          rintro e w2 ⟨rfl, rfl⟩
          go_wp2_with fail
          rw [← HW0.out]
          refine (I2.out _ 2 2 _ w0 HX.out (by omega)).mono ?_
          rintro e w2 ⟨rfl, rfl⟩
          go_wp2_with fail
          rw [← HW1.out]
          refine (I3.out _ 3 3 _ w1 HX1.out (by omega)).mono ?_
          rintro e w2 ⟨rfl, rfl⟩
          go_wp2_with fail
          refine (I10.out _ _).mono ?_
          rintro e w2 ⟨rfl, rfl⟩
          go_wp2_with fail
          refine (I10.out _ _).mono ?_
          rintro e w2 ⟨rfl, rfl⟩
          go_wp2_with fail
          refine (I7.out _ _).mono ?_
          rintro e w2 ⟨rfl, rfl⟩
          go_wp2_with fail
          go_ret
          exact ⟨by rw [HR.out]; unfold divF; rw [if_neg HNE.out, if_pos (by rw [← HPB.out]), HFD.out]; rfl, HB1.out⟩
      · have HB00 := Lib.hid hb0
        unfold feq at hb0
        go_enter Tryz.func36, Tryz.ntmps36
        go_wp2_with fail
        refine (I1.out _).mono ?_
        rintro e w2 ⟨rfl, rfl⟩
        go_wp2_with fail
        rw [← HW0.out]
        refine (I2.out _ 2 2 _ w0 HX.out (by omega)).mono ?_
        rintro e w2 ⟨rfl, rfl⟩
        go_wp2_with fail
        go_ret
        exact ⟨by rw [HR.out]; unfold divF; rw [if_pos (.inr (.inr HB00.out))]; rfl, HB0.out⟩
    · have HA0 := Lib.hid ha0
      unfold feq at ha0
      go_enter Tryz.func36, Tryz.ntmps36
      go_wp2_with fail
      refine (I1.out _).mono ?_
      rintro e w2 ⟨rfl, rfl⟩
      go_wp2_with fail
      rw [← HW0.out]
      refine (I2.out _ 2 2 _ w0 HX.out (by omega)).mono ?_
      rintro e w2 ⟨rfl, rfl⟩
      go_wp2_with fail
      go_ret
      exact ⟨by rw [HR.out]; unfold divF; rw [if_pos (.inr (.inl HA0.out))]; rfl, HB0.out⟩

end Go.Proofs.YtkfhbnfoiicioaaGreatDoor

/- girderref00: low, NatTrim, digit, halves, limbs, NatOf: the walks -/
namespace Go.Proofs.YtkfhbnfoiicioaaGreatDoor
open Go.RowKit Go.Sort

/-- a list of limbs (or of digits of 32 bits in cells of 64) -/
def LAt (w : World) (v : Value) (xs : List Nat) : Prop := ∃ A c, v = .slice A xs.length c ∧ xs.length ≤ c ∧ RdE Lc 1 w (fun b => b < w.heap.size) A xs.length xs
theorem LAt.below {w w' : World} {v : Value} {xs : List Nat} (h : LAt w v xs) (hb : Below w.heap.size w w') : LAt w' v xs := by
  obtain ⟨A, c, e, hc, hr⟩ := h
  exact ⟨A, c, e, hc, (hr.keep (Keeps.below hb (fun b hb => hb))).imp fun b h => Nat.lt_of_lt_of_le h hb.size⟩
theorem dig_len2 {ls : List Nat} (h : Lds ls) : (dig (ln ls)).length ≤ 2 * ls.length := dig_len_le (by
  have h1 := ln_lt h
  rw [W64_pow] at h1
  rw [W32_pow]
  refine Nat.lt_of_lt_of_le h1 (Nat.pow_le_pow_right (by decide) (by omega)))
theorem LAt.nil (w : World) (A : Option Addr) (c : Nat) : LAt w (.slice A 0 c) [] := ⟨A, c, rfl, Nat.zero_le _, RdE.nil ..⟩
/-- the first k are something, what is behind is not -/
def Trim (xs : List Nat) (k : Nat) : Prop := (∀ (i x : Nat), k ≤ i → xs[i]? = some x → x = 0) ∧ (∀ x : Nat, 0 < k → xs[k - 1]? = some x → x ≠ 0)
theorem trim_last {xs : List Nat} {k : Nat} (hk : k ≤ xs.length) (h : Trim xs k) : ∀ hn : xs.take k ≠ [], (xs.take k).getLast hn ≠ 0 := by
  intro hn
  have hk0 : 0 < k := by
    rcases Nat.eq_zero_or_pos k with h0 | h0
    · subst h0; simp at hn
    · exact h0
  have e : (xs.take k)[k - 1]? = some ((xs.take k).getLast hn) := by
    rw [List.getLast_eq_getElem]
    have : (xs.take k).length = k := by rw [List.length_take]; omega
    have h2 := List.getElem?_eq_getElem (l := xs.take k) (i := (xs.take k).length - 1) (by omega)
    rw [← h2, this]
  rw [List.getElem?_take_of_lt (by omega)] at e
  exact h.2 _ hk0 e
theorem trim_dig {xs : List Nat} {k : Nat} (hk : k ≤ xs.length) (hw : Wds xs) (h : Trim xs k) : xs.take k = dig (nv xs) := by
  have e : nv xs = nv (xs.take k) := ZeroFrom.val h.1
  rw [e]
  exact dig_of_wds (hw.take k) (trim_last hk h)
theorem trim_lim {xs : List Nat} {k : Nat} (hk : k ≤ xs.length) (hw : Lds xs) (h : Trim xs k) : xs.take k = lim (ln xs) := by
  have e : ln xs = ln (xs.take k) := LZeroFrom.val h.1
  rw [e]
  exact lim_of_lds (hw.take k) (trim_last hk h)
theorem wds_lds {xs : List Nat} (h : Wds xs) : Lds xs := fun x hx => Nat.lt_trans (h x hx) (by decide)

set_option maxRecDepth 100000 in
set_option maxHeartbeats 2000000 in
theorem low_any (A : Option Addr) (n c : Nat) (xs : List Nat) (w : World) (hx : RdE Lc 1 w (fun b => b < w.heap.size) A n xs) (hl : Lds xs) (hn : n ≤ 1000000000000) (hnc : n ≤ c) :
    Calls Tryz.prog 156 #[.slice A n c] w fun e w' => ∃ k, e = .returned (.slice A k c) ∧ k ≤ n ∧ Trim xs k ∧ w = w' := by
  have HX := Lib.hid hx
  have HL := Lib.hid hl
  clear hx hl
  go_enter Tryz.func156, Tryz.ntmps156
  go_wp2_with fail
  go_loop [3] (fun i => ∃ k : Nat, k ≤ n ∧ i = .int .i64 k ∧ (∀ (i x : Nat), k ≤ i → xs[i]? = some x → x = 0)) (fun i => (intOf i).toNat)
  case atStart => exact ⟨n, Nat.le_refl _, rfl, fun i x hi hx => by rw [List.getElem?_eq_none (by rw [HX.out.num]; exact hi)] at hx; cases hx⟩
  case round =>
    obtain ⟨k, hk, rfl, hv⟩ := hrel
    have HV := Lib.hid hv
    clear hv
    by_cases h0 : k = 0
    · subst h0
      go_wp2_with fail
      go_ret
      exact ⟨0, rfl, Nat.zero_le _, ⟨HV.out, fun x h => absurd h (by decide)⟩, rfl⟩
    · obtain ⟨j, rfl⟩ : ∃ j, k = j + 1 := ⟨k - 1, by omega⟩
      obtain ⟨x, hx⟩ := get_some HX.out.num (show j < n by omega)
      obtain ⟨b, o, rfl, hSb, hc⟩ := HX.out.elem Lc.clen hx (by omega)
      have q0 : w.cell? ⟨b, o + j, none⟩ = some (.int .u64 (x : Int)) := by have h := hc 0 _ rfl; rw [Nat.mul_one, Nat.add_zero] at h; exact h
      have hxl : x < 18446744073709551616 := HL.out.get hx
      have HXX := Lib.hid hx
      clear hx hc
      by_cases hz : x = 0
      · subst hz
        go_wp2_with fail
        go_round
        case rel =>
          refine ⟨j, by omega, by go_num, fun i x hi hx => ?_⟩
          rcases Nat.lt_or_eq_of_le hi with h | h
          · exact HV.out i x h hx
          · subst h; rw [HXX.out] at hx; cases hx; rfl
        case measure => simp [intOf]
      · have hzb : ((x : Int) == 0) = false := by simp; omega
        have HZ := Lib.hid hz
        clear hz
        go_wp2_with fail
        go_ret
        refine ⟨j + 1, rfl, by omega, ⟨HV.out, fun y _ hy => ?_⟩, rfl⟩
        rw [Nat.add_sub_cancel, HXX.out] at hy
        cases hy
        exact HZ.out
set_option maxRecDepth 100000 in
set_option maxHeartbeats 2000000 in
theorem natTrim_any (v : Value) (xs : List Nat) (w : World) (h : LAt w v xs) (hl : Lds xs) (hn : xs.length ≤ 1000000000000) :
    Calls Tryz.prog 151 #[v] w fun e w' => ∃ v', e = .returned v' ∧ LAt w' v' (lim (ln xs)) ∧ Below w.heap.size w w' := by
  obtain ⟨i0, hi0, hz0, hz1, hz2⟩ := info_parts' info_u64
  obtain ⟨A, c, rfl, hnc, hx⟩ := h
  obtain ⟨n, hnn⟩ : ∃ n, n = xs.length := ⟨_, rfl⟩
  rw [← hnn] at hx hnc hn ⊢
  have HX := Lib.hid hx
  have HL := Lib.hid hl
  clear hx hl hnn
  go_enter Tryz.func151, Tryz.ntmps151
  go_wp2_with fail
  go_loop [3] (fun i => ∃ k : Nat, k ≤ n ∧ i = .int .i64 k ∧ (∀ (i x : Nat), k ≤ i → xs[i]? = some x → x = 0)) (fun i => (intOf i).toNat)
  case atStart => exact ⟨n, Nat.le_refl _, rfl, fun i x hi hx => by rw [List.getElem?_eq_none (by rw [HX.out.num]; exact hi)] at hx; cases hx⟩
  case round =>
    obtain ⟨k, hk, rfl, hv⟩ := hrel
    have HV := Lib.hid hv
    clear hv
    have fin : ∀ (k : Nat), k ≤ n → Trim xs k → ∀ (v1 : Value) (w1 : World), w1.ownsRow w.heap.size 58 1 v1 (0 + k) ([] ++ (xs.take k).flatMap Lc) → LAt w1 v1 (lim (ln xs)) := by
      intro k hk ht v1 w1 hown
      rw [Nat.zero_add, List.nil_append] at hown
      obtain ⟨A', c', rfl, hc', _⟩ := own_slice hown
      have e : k = (lim (ln xs)).length := by rw [← trim_lim (by rw [HX.out.num]; exact hk) HL.out ht, List.length_take, HX.out.num]; omega
      have hr := (RdE.of_own Lc.clen (by omega) hown).imp (S' := fun b => b < w1.heap.size) (fun b h => h.2.1)
      rw [trim_lim (by rw [HX.out.num]; exact hk) HL.out ht] at hr
      rw [e] at hr hc' ⊢
      exact ⟨A', c', rfl, hc', hr⟩
    have FIN := Lib.hid fin
    clear fin
    by_cases h0 : k = 0
    · subst h0
      have HT : Hid (Trim xs 0) := Lib.hid ⟨HV.out, fun x h => absurd h (by decide)⟩
      have hr0 := Lib.hid ((HX.out.take Lc.clen (Nat.zero_le n)).rd)
      go_wp2_with (at_builtin; go_must (refine wpList_append_rd _ rfl _ _ _ rfl w.heap.size 58 i0 _ 1 8 Tryz.underlying76 hi0 hz0 hz1 hz2 rfl (by omega) (.slice none 0 0) 0 [] rfl (World.ownsRow_nil _ _ _ _) _ A 0 c ((xs.take 0).flatMap Lc) rfl hr0.out (lc_one _) (by simp only [maxLen]; omega) (by omega) (Nat.le_refl _) ?_); intro v1 w1 hown1 hg1 hat1)
      go_ret
      exact ⟨v1, rfl, FIN.out 0 hk HT.out v1 w1 hown1, below_of_grown hg1 (by simp [Value.ownBlock])⟩
    · obtain ⟨j, rfl⟩ : ∃ j, k = j + 1 := ⟨k - 1, by omega⟩
      obtain ⟨x, hx⟩ := get_some HX.out.num (show j < n by omega)
      obtain ⟨b, o, rfl, hSb, hc⟩ := HX.out.elem Lc.clen hx (by omega)
      have q0 : w.cell? ⟨b, o + j, none⟩ = some (.int .u64 (x : Int)) := by have h := hc 0 _ rfl; rw [Nat.mul_one, Nat.add_zero] at h; exact h
      have hxl : x < 18446744073709551616 := HL.out.get hx
      have HXX := Lib.hid hx
      clear hx hc
      by_cases hz : x = 0
      · subst hz
        go_wp2_with fail
        go_round
        case rel =>
          refine ⟨j, by omega, by go_num, fun i x hi hx => ?_⟩
          rcases Nat.lt_or_eq_of_le hi with h | h
          · exact HV.out i x h hx
          · subst h; rw [HXX.out] at hx; cases hx; rfl
        case measure => simp [intOf]
      · have hzb : ((x : Int) == 0) = false := by simp; omega
        have HT : Hid (Trim xs (j + 1)) := Lib.hid ⟨HV.out, fun y _ hy => by rw [Nat.add_sub_cancel, HXX.out] at hy; cases hy; exact hz⟩
        have hr0 := Lib.hid ((HX.out.take Lc.clen hk).rd)
        clear hz
        go_wp2_with (at_builtin; go_must (refine wpList_append_rd _ rfl _ _ _ rfl w.heap.size 58 i0 _ 1 8 Tryz.underlying76 hi0 hz0 hz1 hz2 rfl (by omega) (.slice none 0 0) 0 [] rfl (World.ownsRow_nil _ _ _ _) _ (some ⟨b, o, none⟩) (j + 1) c ((xs.take (j + 1)).flatMap Lc) rfl hr0.out (lc_one _) (by simp only [maxLen]; omega) (by omega) (Nat.le_refl _) ?_); intro v1 w1 hown1 hg1 hat1)
        go_ret
        exact ⟨v1, rfl, FIN.out _ hk HT.out v1 w1 hown1, below_of_grown hg1 (by simp [Value.ownBlock])⟩

set_option maxRecDepth 100000 in
set_option maxHeartbeats 2000000 in
theorem digit_any (A : Option Addr) (n c : Nat) (xs : List Nat) (i : Nat) (S : Nat → Prop) (w : World) (hx : RdE Lc 1 w S A n xs) (hi : i ≤ 1000000000000) (hn : n ≤ 1000000000000) :
    Calls Tryz.prog 158 #[.slice A n c, .int .i64 (i : Int)] w fun e w' => e = .returned (.int .u64 ((xs.getD i 0 : Nat) : Int)) ∧ w = w' := by
  by_cases h : i < n
  · obtain ⟨x, hxx⟩ := get_some hx.num h
    obtain ⟨b, o, rfl, hSb, hc⟩ := hx.elem Lc.clen hxx (by omega)
    have q0 : w.cell? ⟨b, o + i, none⟩ = some (.int .u64 (x : Int)) := by have h := hc 0 _ rfl; rw [Nat.mul_one, Nat.add_zero] at h; exact h
    have HE : Hid (xs.getD i 0 = x) := Lib.hid (by simp [List.getD, hxx])
    clear hx hxx hc
    go_enter Tryz.func158, Tryz.ntmps158
    go_wp2_with fail
    go_ret
    exact ⟨by rw [HE.out]; rfl, rfl⟩
  · have HE : Hid (xs.getD i 0 = 0) := Lib.hid (by simp [List.getD, List.getElem?_eq_none (show xs.length ≤ i by rw [hx.num]; omega)])
    clear hx
    go_enter Tryz.func158, Tryz.ntmps158
    go_wp2_with fail
    go_ret
    exact ⟨by rw [HE.out]; rfl, rfl⟩

set_option maxRecDepth 100000 in
set_option maxHeartbeats 2000000 in
theorem halves_any (v : Value) (xs : List Nat) (w : World) (h : LAt w v xs) (hl : Lds xs) (hn : xs.length ≤ 100000000000) :
    Calls Tryz.prog 134 #[v] w fun e w' => ∃ v', e = .returned v' ∧ LAt w' v' (dig (ln xs)) ∧ Below w.heap.size w w' := by
  obtain ⟨i0, hi0, hz0, hz1, hz2⟩ := info_parts' info_u64
  obtain ⟨A, c, rfl, hnc, hx⟩ := h
  obtain ⟨n, hnn⟩ : ∃ n, n = xs.length := ⟨_, rfl⟩
  rw [← hnn] at hx hnc hn ⊢
  have HX := Lib.hid hx
  have HL := Lib.hid hl
  clear hx hl
  have NN := Lib.hid hnn
  clear hnn
  go_enter Tryz.func134, Tryz.ntmps134
  go_wp2_with fail
  go_loopw [3, 4] (fun ov iv wr => ∃ k : Nat, k ≤ n ∧ iv = .int .i64 k ∧ wr.ownsRow w.heap.size 58 1 ov (2 * k) ((hv (xs.take k)).flatMap Lc) ∧ Below w.heap.size w wr) (fun _ iv _ => n - (intOf iv).toNat)
  case atStart => exact ⟨0, Nat.zero_le _, rfl, World.ownsRow_nil .., Below.refl _ _⟩
  case round =>
    obtain ⟨k, hk, rfl, hown, hbw⟩ := hrel
    by_cases hlt : k < n
    · obtain ⟨x, hx⟩ := get_some HX.out.num hlt
      obtain ⟨b, o, rfl, hSb, hc⟩ := HX.out.elem Lc.clen hx (by omega)
      have q0 : wr.cell? ⟨b, o + k, none⟩ = some (.int .u64 (x : Int)) := by have h := (hbw.cell (p := ⟨b, _, none⟩) hSb).trans (hc 0 _ rfl); rw [Nat.mul_one, Nat.add_zero] at h; exact h
      have hxl : x < 18446744073709551616 := HL.out.get hx
      have HXX := Lib.hid hx
      have HO := Lib.hid hown
      have HB := Lib.hid hbw
      clear hx hc hown hbw
      have n0 := cell_regrown q0
      go_wp2_with fail
      refine wp_region_early_below [0] [1, 2, 3, 4, 5, 6, 7, 8, 9, 10] 11 (by kernel_rfl) (by kernel_rfl) (fun _ _ d _ _ h => by cases d <;> exact h) ?_
      simp only [pick, early, List.filterMap_cons, List.filterMap_nil, List.getElem?_cons_succ, List.getElem?_cons_zero, List.size_toArray, List.getElem?_toArray]
      repeat (first | go_big_quiet_step (fail) | quiet_step (fail))
      refine wpQuiet_nil ?_
      intro wq hwq
      have hbq := below_class hwq
      clear hwq n0
      obtain ⟨A3, c3, rfl, hc3, _⟩ := own_slice HO.out
      have hoA := (own_below HO.out hbq).alloc (.cells #[Value.int .u64 ((x : Int) % 4294967296), Value.int .u64 ((x : Int) / 4294967296)] 58)
      have HOA := Lib.hid hoA
      have HBQ := Lib.hid (HB.out.trans (hbq.mono HB.out.size))
      clear hoA hbq
      go_wp2_with (at_builtin; go_must (refine wpList_append_rd _ rfl _ _ _ rfl w.heap.size 58 i0 _ 1 8 Tryz.underlying76 hi0 hz0 hz1 hz2 rfl (by omega) (.slice A3 (2 * k) c3) (2 * k) ((hv (xs.take k)).flatMap Lc) rfl HOA.out (fun _ => True) (some ⟨wq.heap.size, 0, none⟩) 2 2 [.int .u64 ((x : Int) % 4294967296), .int .u64 ((x : Int) / 4294967296)] rfl (rd_blk (blk_new ..) rfl trivial) (by simp [Value.oneCell']) (by simp only [maxLen]; omega) (by omega) (by have := HBQ.out.size; simp; omega) ?_); intro v2 w4 hown4 hg4 hat4)
      have hle : (hv (xs.take k)).flatMap Lc ++ [.int .u64 ((x : Int) % 4294967296), .int .u64 ((x : Int) / 4294967296)] = (hv (xs.take (k + 1))).flatMap Lc := by
        have e : xs.take (k + 1) = xs.take k ++ [x] := by
          obtain ⟨hl, e⟩ := List.getElem?_eq_some_iff.1 HXX.out
          rw [List.take_succ_eq_append_getElem hl, e]
        rw [e, hv_snoc, List.flatMap_append]
        rfl
      rw [hle] at hown4
      have HO4 := Lib.hid hown4
      have HB4 := Lib.hid ((HBQ.out.alloc HBQ.out.size _).grown hg4 (by have := HBQ.out.size; simp; omega) (fun g hg => (HOA.out.lt g hg).1))
      clear hown4 hg4 hle hat4
      first
      | (go_roundw
         case rel => exact ⟨k + 1, by omega, by go_num, HO4.out, HB4.out⟩
         case measure => simp [intOf]; omega)
      | refine ⟨⟨k + 1, by omega, by go_num, HO4.out, HB4.out⟩, by simp [intOf]; omega⟩
    · obtain rfl : n = k := by omega
      have HO := Lib.hid hown
      have HB := Lib.hid hbw
      obtain ⟨A3, c3, rfl, hc3, _⟩ := own_slice hown
      have e : xs.take n = xs := List.take_of_length_le (by rw [HX.out.num]; exact Nat.le_refl _)
      have hr := (RdE.of_own Lc.clen (by omega) hown).imp (S' := fun b => b < wr.heap.size) (fun b h => h.2.1)
      rw [e] at hr
      have HR := Lib.hid hr
      have hlw := hv_wds HL.out
      have HLW := Lib.hid hlw
      clear hown hbw hr e hlw
      go_wp2_with fail
      refine (low_any A3 (2 * n) c3 (hv xs) _ HR.out (wds_lds HLW.out) (by omega) hc3).mono ?_
      rintro e w' ⟨k, rfl, hk2, ht, rfl⟩
      have htk := trim_dig (by rw [HR.out.num]; exact hk2) HLW.out ht
      rw [nv_hv] at htk
      have e : k = (dig (ln xs)).length := by rw [← htk, List.length_take, HR.out.num]; omega
      have hr2 := HR.out.take Lc.clen hk2
      rw [htk] at hr2
      have HR2 := Lib.hid hr2
      have HE := Lib.hid e
      clear hr2 ht htk e
      go_wp2_with fail
      go_ret
      refine ⟨_, rfl, ⟨A3, c3, ?_, ?_, ?_⟩, HB.out⟩
      · rw [← HE.out]; rfl
      · rw [← HE.out]; omega
      · rw [← HE.out]; exact HR2.out

end Go.Proofs.YtkfhbnfoiicioaaGreatDoor

/- girderref00: limbs, NatOf, NatAdd: the walks -/
namespace Go.Proofs.YtkfhbnfoiicioaaGreatDoor
open Go.RowKit Go.Sort

theorem lb_append : ∀ (a b : List Nat), a.length % 2 = 0 → lb (a ++ b) = lb a ++ lb b
  | [], b, _ => rfl
  | [x], b, h => by simp at h
  | x :: y :: r, b, h => by
    have h2 : r.length % 2 = 0 := by simp only [List.length_cons] at h; omega
    show lb (x :: y :: (r ++ b)) = lb (x :: y :: r) ++ lb b
    rw [lb, lb, lb_append r b h2]
    rfl
theorem lb_two {xs : List Nat} {j x y : Nat} (hx : xs[2 * j]? = some x) (hy : xs[2 * j + 1]? = some y) : lb (xs.take (2 * (j + 1))) = lb (xs.take (2 * j)) ++ [x + W32 * y] := by
  obtain ⟨h1, e1⟩ := List.getElem?_eq_some_iff.1 hx
  obtain ⟨h2, e2⟩ := List.getElem?_eq_some_iff.1 hy
  have e : xs.take (2 * (j + 1)) = xs.take (2 * j) ++ [x, y] := by
    rw [show 2 * (j + 1) = 2 * j + 1 + 1 by omega, List.take_succ_eq_append_getElem h2, e2, List.take_succ_eq_append_getElem h1, e1, List.append_assoc]
    rfl
  rw [e, lb_append _ _ (by rw [List.length_take]; omega)]
  rfl
theorem lb_one {xs : List Nat} {j x : Nat} (hx : xs[2 * j]? = some x) (hl : xs.length = 2 * j + 1) : lb xs = lb (xs.take (2 * j)) ++ [x] := by
  obtain ⟨h1, e1⟩ := List.getElem?_eq_some_iff.1 hx
  have e : xs = xs.take (2 * j) ++ [x] := by
    have h := List.take_succ_eq_append_getElem h1
    rw [e1, List.take_of_length_le (by omega)] at h
    exact h
  have h2 := lb_append (xs.take (2 * j)) [x] (by rw [List.length_take]; omega)
  rw [← e] at h2
  exact h2
theorem own_lat {w : World} {base n : Nat} {v : Value} {xs : List Nat} (h : w.ownsRow base 58 1 v n (xs.flatMap Lc)) : LAt w v xs := by
  have hn := own_num Lc.clen (by omega) h
  obtain ⟨A, c, rfl, hc, _⟩ := own_slice h
  have hr := (RdE.of_own Lc.clen (by omega) h).imp (S' := fun b => b < w.heap.size) (fun b h => h.2.1)
  rw [← hn] at hr hc ⊢
  exact ⟨A, c, rfl, hc, hr⟩

set_option maxRecDepth 100000 in
set_option maxHeartbeats 4000000 in
theorem limbs_any (v : Value) (xs : List Nat) (w : World) (h : LAt w v xs) (hl : Wds xs) (hn : xs.length ≤ 100000000000) :
    Calls Tryz.prog 132 #[v] w fun e w' => ∃ v', e = .returned v' ∧ LAt w' v' (lim (nv xs)) ∧ Below w.heap.size w w' := by
  obtain ⟨i0, hi0, hz0, hz1, hz2⟩ := info_parts' info_u64
  obtain ⟨A, c, rfl, hnc, hx⟩ := h
  obtain ⟨n, hnn⟩ : ∃ n, n = xs.length := ⟨_, rfl⟩
  rw [← hnn] at hx hnc hn ⊢
  have HX := Lib.hid hx
  have HL := Lib.hid hl
  have NN := Lib.hid hnn
  clear hx hl hnn
  go_enter Tryz.func132, Tryz.ntmps132
  go_wp2_with fail
  go_loopw [3, 4] (fun ov iv wr => ∃ k : Nat, 2 * k ≤ n + 1 ∧ iv = .int .i64 ((2 * k : Nat) : Int) ∧ wr.ownsRow w.heap.size 58 1 ov k ((lb (xs.take (2 * k))).flatMap Lc) ∧ Below w.heap.size w wr) (fun _ iv _ => n + 2 - (intOf iv).toNat)
  case atStart => exact ⟨0, by omega, rfl, World.ownsRow_nil .., Below.refl _ _⟩
  case round =>
    obtain ⟨k, hk, rfl, hown, hbw⟩ := hrel
    obtain ⟨i, hi⟩ : ∃ i, i = 2 * k := ⟨_, rfl⟩
    rw [← hi] at hown hk ⊢
    have HI := Lib.hid hi
    clear hi
    by_cases hlt : i < n
    · obtain ⟨x, hx⟩ := get_some HX.out.num hlt
      obtain ⟨b, o, rfl, hSb, hc⟩ := HX.out.elem Lc.clen hx (by omega)
      have q0 : wr.cell? ⟨b, o + i, none⟩ = some (.int .u64 (x : Int)) := by have h := (hbw.cell (p := ⟨b, _, none⟩) hSb).trans (hc 0 _ rfl); rw [Nat.mul_one, Nat.add_zero] at h; exact h
      have hxl : x < 4294967296 := HL.out.get hx
      have HXX := Lib.hid hx
      have HO := Lib.hid hown
      have HB := Lib.hid hbw
      obtain ⟨A3, c3, rfl, hc3, _⟩ := own_slice hown
      have hkb : k ≤ 100000000000 := by have := HI.out; omega
      clear hx hc hown hbw
      by_cases hlt2 : i + 1 < n
      · obtain ⟨y, hy⟩ := get_some HX.out.num hlt2
        obtain ⟨b', o', e', _, hc'⟩ := HX.out.elem Lc.clen hy (by omega)
        cases e'
        have q1 : wr.cell? ⟨b, o + (i + 1), none⟩ = some (.int .u64 (y : Int)) := by have h := (HB.out.cell (p := ⟨b, _, none⟩) hSb).trans (hc' 0 _ rfl); rw [Nat.mul_one, Nat.add_zero] at h; exact h
        have hyl : y < 4294967296 := HL.out.get hy
        have HYY := Lib.hid hy
        obtain ⟨z, hz⟩ : ∃ z : Nat, z = x + 4294967296 * y := ⟨_, rfl⟩
        have hze : (x : Int) + 4294967296 * (y : Int) = (z : Int) := by omega
        have HZ := Lib.hid hz
        clear hy hc' hz
        have hoA := HO.out.alloc (.cells #[Value.int .u64 (z : Int)] 58)
        have HOA := Lib.hid hoA
        clear hoA
        go_wp2_with (at_builtin; go_must (refine wpList_append_rd _ rfl _ _ _ rfl w.heap.size 58 i0 _ 1 8 Tryz.underlying76 hi0 hz0 hz1 hz2 rfl (by omega) (.slice A3 k c3) k ((lb (xs.take i)).flatMap Lc) rfl HOA.out (fun _ => True) (some ⟨wr.heap.size, 0, none⟩) 1 1 [.int .u64 (z : Int)] rfl (rd_blk (blk_new ..) rfl trivial) (by simp [Value.oneCell']) (by simp only [maxLen]; omega) (by omega) (by have := HB.out.size; simp; omega) ?_); intro v2 w4 hown4 hg4 hat4)
        have hle : (lb (xs.take i)).flatMap Lc ++ [.int .u64 (z : Int)] = (lb (xs.take (2 * (k + 1)))).flatMap Lc := by
          have h1 := HXX.out
          have h2 := HYY.out
          rw [HI.out] at h1 h2 ⊢
          rw [lb_two h1 h2, List.flatMap_append, HZ.out]
          rfl
        rw [hle] at hown4
        have HO4 := Lib.hid hown4
        have HB4 := Lib.hid ((HB.out.alloc HB.out.size (.cells #[Value.int .u64 (z : Int)] 58)).grown hg4 (by have := HB.out.size; simp; omega) (fun g hg => (HOA.out.lt g hg).1))
        clear hown4 hg4 hle hat4
        go_wp2_with fail
        refine ⟨⟨k + 1, by have := HI.out; omega, ?_, HO4.out, HB4.out⟩, by simp [intOf]; omega⟩
        rw [HI.out]; go_num
      · have hnx : ¬ i + 1 < n := by omega
        have hoA := HO.out.alloc (.cells #[Value.int .u64 (x : Int)] 58)
        have HOA := Lib.hid hoA
        clear hoA
        go_wp2_with (at_builtin; go_must (refine wpList_append_rd _ rfl _ _ _ rfl w.heap.size 58 i0 _ 1 8 Tryz.underlying76 hi0 hz0 hz1 hz2 rfl (by omega) (.slice A3 k c3) k ((lb (xs.take i)).flatMap Lc) rfl HOA.out (fun _ => True) (some ⟨wr.heap.size, 0, none⟩) 1 1 [.int .u64 (x : Int)] rfl (rd_blk (blk_new ..) rfl trivial) (by simp [Value.oneCell']) (by simp only [maxLen]; omega) (by omega) (by have := HB.out.size; simp; omega) ?_); intro v2 w4 hown4 hg4 hat4)
        have hle : (lb (xs.take i)).flatMap Lc ++ [.int .u64 (x : Int)] = (lb (xs.take (2 * (k + 1)))).flatMap Lc := by
          have h1 := HXX.out
          have h3 := HX.out.num
          rw [HI.out] at h1 ⊢
          rw [List.take_of_length_le (i := 2 * (k + 1)) (by have := HI.out; omega), lb_one h1 (by have := HI.out; omega), List.flatMap_append]
          rfl
        rw [hle] at hown4
        have HO4 := Lib.hid hown4
        have HB4 := Lib.hid ((HB.out.alloc HB.out.size (.cells #[Value.int .u64 (x : Int)] 58)).grown hg4 (by have := HB.out.size; simp; omega) (fun g hg => (HOA.out.lt g hg).1))
        clear hown4 hg4 hle hat4
        go_wp2_with fail
        refine ⟨⟨k + 1, by have := HI.out; omega, ?_, HO4.out, HB4.out⟩, by simp [intOf]; omega⟩
        rw [HI.out]; go_num
    · have HB := Lib.hid hbw
      have e : xs.take i = xs := List.take_of_length_le (by rw [HX.out.num]; omega)
      rw [e] at hown
      have HLa := Lib.hid (own_lat hown)
      have hll : (lb xs).length ≤ 100000000000 := by
        have := own_num Lc.clen (by omega) hown
        have := HI.out
        omega
      have HLD := Lib.hid (lb_lds HL.out)
      clear hown hbw e
      go_wp2_with fail
      refine (natTrim_any _ (lb xs) _ HLa.out HLD.out (by omega)).mono ?_
      rintro e w1 ⟨v1, rfl, hv1, hb1⟩
      rw [ln_lb] at hv1
      have HV1 := Lib.hid hv1
      have HB1 := Lib.hid (HB.out.trans (hb1.mono HB.out.size))
      clear hv1 hb1
      go_wp2_with fail
      go_ret
      exact ⟨_, rfl, HV1.out, HB1.out⟩

set_option maxRecDepth 100000 in
set_option maxHeartbeats 2000000 in
theorem natOf_any (x : Nat) (w : World) (hx : x < 18446744073709551616) :
    Calls Tryz.prog 131 #[.int .u64 (x : Int)] w fun e w' => ∃ v', e = .returned v' ∧ LAt w' v' (lim x) ∧ Below w.heap.size w w' := by
  have hr : LAt (w.alloc (.cells #[.int .u64 (x : Int)] 58)) (.slice (some ⟨w.heap.size, 0, none⟩) 1 1) [x] :=
    ⟨some ⟨w.heap.size, 0, none⟩, 1, rfl, Nat.le_refl _, rde_blk (blk_new ..) rfl (by simp) rfl rfl⟩
  have HR := Lib.hid hr
  have HX := Lib.hid hx
  clear hr hx
  go_enter Tryz.func131, Tryz.ntmps131
  go_wp2_with fail
  refine (natTrim_any _ [x] _ HR.out (fun y hy => by simp at hy; subst hy; exact HX.out) (by simp)).mono ?_
  rintro e w1 ⟨v1, rfl, hv1, hb1⟩
  have e : ln [x] = x := by simp [ln]
  rw [e] at hv1
  have HV1 := Lib.hid hv1
  have HB1 := Lib.hid (below_then (below1 w _) hb1)
  clear hv1 hb1 e
  go_wp2_with fail
  go_ret
  exact ⟨_, rfl, HV1.out, HB1.out⟩

end Go.Proofs.YtkfhbnfoiicioaaGreatDoor

/- girderref00: short, times: the walks -/
namespace Go.Proofs.YtkfhbnfoiicioaaGreatDoor
open Go.RowKit Go.Sort

theorem getD_take {xs : List Nat} {k : Nat} : nv (xs.take (k + 1)) = nv (xs.take k) + W32 ^ k * xs.getD k 0 := by
  by_cases h : k < xs.length
  · have e := List.take_succ_eq_append_getElem h
    rw [e, nv_append, List.length_take, Nat.min_eq_left (Nat.le_of_lt h)]
    simp [nv, List.getD, List.getElem?_eq_getElem h]
  · rw [List.take_of_length_le (by omega), List.take_of_length_le (by omega)]
    simp [List.getD, List.getElem?_eq_none (show xs.length ≤ k by omega)]
theorem getD_wds {xs : List Nat} (h : Wds xs) (k : Nat) : xs.getD k 0 < 4294967296 := by
  simp only [List.getD]
  cases e : xs[k]? with
  | none => decide
  | some x => exact h.get e
theorem made_u64 (n : Nat) : (madeCells (Value.int .u64 0).cells (n * 1)).toList = (List.replicate n 0).flatMap Lc := made_flat Lc 1 Lc.clen (by omega) 0 n
theorem own_lc {w : World} {base e g n cap : Nat} {ys : List Nat} (h : w.ownsRow base e 1 (.slice (some ⟨g, 0, none⟩) n cap) n (ys.flatMap Lc)) {i o : Nat} (ho : ys[i]? = some o) : w.cell? ⟨g, i, none⟩ = some (.int .u64 (o : Int)) := by
  have h1 := own_elem Lc.clen h ho 0 _ rfl
  rw [Nat.mul_one, Nat.add_zero] at h1
  exact h1

theorem own_set_lc {w : World} {base e g n cap : Nat} {ys : List Nat} (h : w.ownsRow base e 1 (.slice (some ⟨g, 0, none⟩) n cap) n (ys.flatMap Lc)) {i : Nat} (hi : i < ys.length) (s : Nat) :
    (w.setCell ⟨g, i, none⟩ (.int .u64 (s : Int))).ownsRow base e 1 (.slice (some ⟨g, 0, none⟩) n cap) n ((ys.set i s).flatMap Lc) ∧ w.grownBy (w.setCell ⟨g, i, none⟩ (.int .u64 (s : Int))) (some g) := by
  have h1 := h.stored i (.int .u64 (s : Int))
  have h2 := putAll_flat (f := Lc) (size := 1) Lc.clen s ys i hi
  rw [Nat.mul_one] at h2
  rw [← h2]
  exact h1

end Go.Proofs.YtkfhbnfoiicioaaGreatDoor

/- girderref00: NatAdd: the walk -/
namespace Go.Proofs.YtkfhbnfoiicioaaGreatDoor
open Go.RowKit Go.Sort
end Go.Proofs.YtkfhbnfoiicioaaGreatDoor
