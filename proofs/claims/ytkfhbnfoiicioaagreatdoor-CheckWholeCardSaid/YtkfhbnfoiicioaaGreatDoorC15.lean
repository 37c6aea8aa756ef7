import Derived.Test.YtkfhbnfoiicioaaGreatDoorC14
/- round.settle: the walk (printed by a loop over its ways) -/
set_option linter.unusedSimpArgs false
set_option linter.unusedVariables false
namespace Go.Proofs.YtkfhbnfoiicioaaGreatDoor
open Go.RowKit Go.Sort

theorem maxF_cs (u : Nat) : absF 9218868437227405311 + (if sgbB u = true then 9223372036854775808 else 0) = maxF u := by
  unfold maxF
  cases sgbB u
  · rfl
  · rfl
set_option maxRecDepth 100000 in
set_option maxHeartbeats 4000000 in
theorem settle_any (u : Nat) (off m : Int) (w : World) (hu : u < 18446744073709551616) (hn : fnan u = false) (hm : m = 1 ∨ m = 2) : Calls Tryz.prog 58 #[.float .f64 u, .int .i64 off, .int .i8 m] w fun e w' => e = .returned (.float .f64 (setF u off m)) ∧ w = w' := by
  have I1 := Lib.hid (fun w => isinf_any u w hu)
  have I2 := Lib.hid (fun w => copysign_any 9218868437227405311 u w (by decide) hu)
  rw [maxF_cs] at I2
  have I3 := Lib.hid (fun up w => step_any u up w hu hn)
  obtain ⟨r, hr⟩ : ∃ r, r = setF u off m := ⟨_, rfl⟩
  rw [← hr]
  have HR := Lib.hid hr
  clear hr
  obtain ⟨g, hg⟩ : ∃ g, fgt u 0 = g := ⟨_, rfl⟩
  obtain ⟨h, hh⟩ : ∃ h, flt u 0 = h := ⟨_, rfl⟩
  obtain ⟨d1, hd1⟩ : ∃ d, decide (off < 0) = d := ⟨_, rfl⟩
  obtain ⟨d2, hd2⟩ : ∃ d, decide (0 < off) = d := ⟨_, rfl⟩
  obtain ⟨b, hb⟩ : ∃ b, infB u = b := ⟨_, rfl⟩
  rw [hb] at I1
  have HG := Lib.hid hg
  have HH := Lib.hid hh
  have HB := Lib.hid hb
  have HD1 := Lib.hid hd1
  have HD2 := Lib.hid hd2
  unfold fgt at hg
  unfold flt at hh
  clear hb hn
  rcases hm with rfl | rfl
  · cases b
    · cases d1 <;> cases d2
      · clear hg hh
        go_enter Tryz.func58, Tryz.ntmps58
        go_wp2_with fail
        refine (I1.out _).mono ?_
        rintro e w1 ⟨rfl, rfl⟩
        go_wp2_with fail
        go_ret
        exact ⟨by rw [HR.out]; unfold setF; rw [if_neg (by rw [HB.out]; decide)]; have q1 := of_decide_eq_false HD1.out; have q2 := of_decide_eq_false HD2.out; rw [if_neg (by omega)]; rfl, rfl⟩
      · clear hg hh
        go_enter Tryz.func58, Tryz.ntmps58
        go_wp2_with fail
        refine (I1.out _).mono ?_
        rintro e w1 ⟨rfl, rfl⟩
        go_wp2_with fail
        go_ret
        exact ⟨by rw [HR.out]; unfold setF; rw [if_neg (by rw [HB.out]; decide)]; have q1 := of_decide_eq_false HD1.out; have q2 := of_decide_eq_true HD2.out; rw [if_neg (by omega)]; rfl, rfl⟩
      · clear hg hh
        go_enter Tryz.func58, Tryz.ntmps58
        go_wp2_with fail
        refine (I1.out _).mono ?_
        rintro e w1 ⟨rfl, rfl⟩
        go_wp2_with fail
        refine (I3.out _ _).mono ?_
        rintro e w1 ⟨rfl, rfl⟩
        go_wp2_with fail
        go_ret
        exact ⟨by rw [HR.out]; unfold setF; rw [if_neg (by rw [HB.out]; decide)]; have q1 := of_decide_eq_true HD1.out; have q2 := of_decide_eq_false HD2.out; rw [if_pos (by omega), HD2.out]; rfl, rfl⟩
      · clear hg hh
        exfalso
        have q1 := of_decide_eq_true HD1.out
        have q2 := of_decide_eq_true HD2.out
        omega
    · cases g <;> cases h
      · clear hd1 hd2
        go_enter Tryz.func58, Tryz.ntmps58
        go_wp2_with fail
        refine (I1.out _).mono ?_
        rintro e w1 ⟨rfl, rfl⟩
        go_wp2_with fail
        go_ret
        exact ⟨by rw [HR.out]; unfold setF; rw [if_pos HB.out]; rw [HG.out, HH.out, if_neg (by decide)]; rfl, rfl⟩
      · clear hd1 hd2
        go_enter Tryz.func58, Tryz.ntmps58
        go_wp2_with fail
        refine (I1.out _).mono ?_
        rintro e w1 ⟨rfl, rfl⟩
        go_wp2_with fail
        go_ret
        exact ⟨by rw [HR.out]; unfold setF; rw [if_pos HB.out]; rw [HG.out, HH.out, if_neg (by decide)]; rfl, rfl⟩
      · clear hd1 hd2
        go_enter Tryz.func58, Tryz.ntmps58
        go_wp2_with fail
        refine (I1.out _).mono ?_
        rintro e w1 ⟨rfl, rfl⟩
        go_wp2_with fail
        refine (I2.out _).mono ?_
        rintro e w1 ⟨rfl, rfl⟩
        go_wp2_with fail
        go_ret
        exact ⟨by rw [HR.out]; unfold setF; rw [if_pos HB.out]; rw [HG.out, HH.out, if_pos (by decide)]; rfl, rfl⟩
      · clear hd1 hd2
        go_enter Tryz.func58, Tryz.ntmps58
        go_wp2_with fail
        refine (I1.out _).mono ?_
        rintro e w1 ⟨rfl, rfl⟩
        go_wp2_with fail
        refine (I2.out _).mono ?_
        rintro e w1 ⟨rfl, rfl⟩
        go_wp2_with fail
        go_ret
        exact ⟨by rw [HR.out]; unfold setF; rw [if_pos HB.out]; rw [HG.out, HH.out, if_pos (by decide)]; rfl, rfl⟩
  · cases b
    · cases d1 <;> cases d2
      · clear hg hh
        go_enter Tryz.func58, Tryz.ntmps58
        go_wp2_with fail
        refine (I1.out _).mono ?_
        rintro e w1 ⟨rfl, rfl⟩
        go_wp2_with fail
        go_ret
        exact ⟨by rw [HR.out]; unfold setF; rw [if_neg (by rw [HB.out]; decide)]; have q1 := of_decide_eq_false HD1.out; have q2 := of_decide_eq_false HD2.out; rw [if_neg (by omega)]; rfl, rfl⟩
      · clear hg hh
        go_enter Tryz.func58, Tryz.ntmps58
        go_wp2_with fail
        refine (I1.out _).mono ?_
        rintro e w1 ⟨rfl, rfl⟩
        go_wp2_with fail
        refine (I3.out _ _).mono ?_
        rintro e w1 ⟨rfl, rfl⟩
        go_wp2_with fail
        go_ret
        exact ⟨by rw [HR.out]; unfold setF; rw [if_neg (by rw [HB.out]; decide)]; have q1 := of_decide_eq_false HD1.out; have q2 := of_decide_eq_true HD2.out; rw [if_pos (by omega), HD2.out]; rfl, rfl⟩
      · clear hg hh
        go_enter Tryz.func58, Tryz.ntmps58
        go_wp2_with fail
        refine (I1.out _).mono ?_
        rintro e w1 ⟨rfl, rfl⟩
        go_wp2_with fail
        go_ret
        exact ⟨by rw [HR.out]; unfold setF; rw [if_neg (by rw [HB.out]; decide)]; have q1 := of_decide_eq_true HD1.out; have q2 := of_decide_eq_false HD2.out; rw [if_neg (by omega)]; rfl, rfl⟩
      · clear hg hh
        exfalso
        have q1 := of_decide_eq_true HD1.out
        have q2 := of_decide_eq_true HD2.out
        omega
    · cases g <;> cases h
      · clear hd1 hd2
        go_enter Tryz.func58, Tryz.ntmps58
        go_wp2_with fail
        refine (I1.out _).mono ?_
        rintro e w1 ⟨rfl, rfl⟩
        go_wp2_with fail
        go_ret
        exact ⟨by rw [HR.out]; unfold setF; rw [if_pos HB.out]; rw [HG.out, HH.out, if_neg (by decide)]; rfl, rfl⟩
      · clear hd1 hd2
        go_enter Tryz.func58, Tryz.ntmps58
        go_wp2_with fail
        refine (I1.out _).mono ?_
        rintro e w1 ⟨rfl, rfl⟩
        go_wp2_with fail
        refine (I2.out _).mono ?_
        rintro e w1 ⟨rfl, rfl⟩
        go_wp2_with fail
        go_ret
        exact ⟨by rw [HR.out]; unfold setF; rw [if_pos HB.out]; rw [HG.out, HH.out, if_pos (by decide)]; rfl, rfl⟩
      · clear hd1 hd2
        go_enter Tryz.func58, Tryz.ntmps58
        go_wp2_with fail
        refine (I1.out _).mono ?_
        rintro e w1 ⟨rfl, rfl⟩
        go_wp2_with fail
        go_ret
        exact ⟨by rw [HR.out]; unfold setF; rw [if_pos HB.out]; rw [HG.out, HH.out, if_neg (by decide)]; rfl, rfl⟩
      · clear hd1 hd2
        go_enter Tryz.func58, Tryz.ntmps58
        go_wp2_with fail
        refine (I1.out _).mono ?_
        rintro e w1 ⟨rfl, rfl⟩
        go_wp2_with fail
        refine (I2.out _).mono ?_
        rintro e w1 ⟨rfl, rfl⟩
        go_wp2_with fail
        go_ret
        exact ⟨by rw [HR.out]; unfold setF; rw [if_pos HB.out]; rw [HG.out, HH.out, if_pos (by decide)]; rfl, rfl⟩

end Go.Proofs.YtkfhbnfoiicioaaGreatDoor
