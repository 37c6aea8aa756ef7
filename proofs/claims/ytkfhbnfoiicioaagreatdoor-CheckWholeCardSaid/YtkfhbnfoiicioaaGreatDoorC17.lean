import Derived.Test.YtkfhbnfoiicioaaGreatDoorC16
/- round.Div where its rest is told by a fused product: the walk -/
set_option linter.unusedSimpArgs false
set_option linter.unusedVariables false
namespace Go.Proofs.YtkfhbnfoiicioaaGreatDoor
open Go.RowKit Go.Sort

theorem xor63 {u : Nat} (h : u < 2 ^ 63) : u ^^^ 2 ^ 63 = u + 2 ^ 63 := by
  refine Nat.eq_of_testBit_eq fun i => ?_
  rw [Nat.testBit_xor, Nat.testBit_two_pow, Nat.add_comm]
  by_cases hi : 63 = i
  · subst hi
    rw [Nat.testBit_two_pow_add_eq]
    simp
  · rw [decide_eq_false hi, Bool.xor_false]
    by_cases hlt : i < 63
    · rw [Nat.testBit_two_pow_add_gt hlt]
    · have h1 : 63 < i := by omega
      rw [Nat.testBit_lt_two_pow (Nat.lt_of_lt_of_le h (Nat.pow_le_pow_right (by decide) (by omega))), Nat.testBit_lt_two_pow]
      have : 2 ^ 64 ≤ 2 ^ i := Nat.pow_le_pow_right (by decide) (by omega)
      omega
theorem xor63' {u : Nat} (h : u < 2 ^ 64) (h2 : 2 ^ 63 ≤ u) : u ^^^ 2 ^ 63 = u - 2 ^ 63 := by
  have h3 := xor63 (u := u - 2 ^ 63) (by omega)
  have h4 : u - 2 ^ 63 + 2 ^ 63 = u := by omega
  rw [h4] at h3
  calc u ^^^ 2 ^ 63 = (u - 2 ^ 63) ^^^ 2 ^ 63 ^^^ 2 ^ 63 := by rw [h3]
    _ = u - 2 ^ 63 := by rw [Nat.xor_assoc, Nat.xor_self, Nat.xor_zero]
theorem run_neg {u : Nat} (hu : u < 18446744073709551616) (w : World) : (Op.unary UnOp.neg (.float .f64 u)).run Tryz.prog w = .ok (.float .f64 (negF u)) w := by
  have h : u ^^^ 2 ^ 63 = negF u := by
    unfold negF
    by_cases h1 : u < 9223372036854775808
    · rw [if_pos h1, xor63 h1]
    · rw [if_neg h1, xor63' hu (by omega)]
  rw [← h]
  rfl
def fmaF (x y z : Nat) : Nat := (FloatKind.f64.format.fma x y z).getD 0
/-- a quotient, rounded to either side; X: the sign of what is left, told exactly -/
def divF (a b : Nat) (m : Int) (q : Nat) (X : Int) : Nat :=
  if (finB a && finB b) = false ∨ feq a 0 = true ∨ feq b 0 = true then q
  else if (plB a && (plB b && plB q)) = true then setF q (sgF (fmaF (negF q) b a) * sgF b) m
  else if infB q = true then setF q 0 m
  else setF q (X * sgF b) m
theorem rd_three (w : World) (a b q : Nat) (t : TypeId) : RdE Fc 1 (w.alloc (.cells #[.float .f64 a, .float .f64 b, .float .f64 q] t)) (fun x => x < w.heap.size + 1) (some ⟨w.heap.size, 0, none⟩) 3 [a, b, q] := rde_blk (blk_new ..) rfl (by omega) rfl rfl
theorem three_lt {a b q : Nat} (ha : a < 18446744073709551616) (hb : b < 18446744073709551616) (hq : q < 18446744073709551616) : ∀ x ∈ [a, b, q], x < 18446744073709551616 := by
  intro x hx
  simp at hx
  rcases hx with rfl | rfl | rfl <;> assumption
theorem sgF_range (u : Nat) : sgF u = 1 ∨ sgF u = -1 ∨ sgF u = 0 := by
  unfold sgF
  split
  · exact .inl rfl
  · split
    · exact .inr (.inl rfl)
    · exact .inr (.inr rfl)
set_option maxRecDepth 100000 in
set_option maxHeartbeats 4000000 in
theorem div_easy (a b q : Nat) (m : Int) (X : Int) (w : World) (ha : a < 18446744073709551616) (hb : b < 18446744073709551616) (hq : q < 18446744073709551616) (hr : floatBits .quo .f64 a b = some q) (hn : fnan q = false) (hm : m = 1 ∨ m = 2)
    (hf : (plB a && (plB b && plB q)) = true → ∃ r, FloatKind.f64.format.fma (negF q) b a = some r)
    (he : (finB a && finB b) = false ∨ feq a 0 = true ∨ feq b 0 = true ∨ (plB a && (plB b && plB q)) = true ∨ infB q = true) :
    Calls Tryz.prog 36 #[.float .f64 a, .float .f64 b, .int .i8 m] w fun e w' => e = .returned (.float .f64 (divF a b m q X)) ∧ Below w.heap.size w w' := by
  have I1 := Lib.hid (fun w => way_any m w (by omega) (by omega))
  have I2 := Lib.hid (fun A n c S w hx hn => finite_any A n c [a, b] S w hx (two_lt ha hb) hn)
  have hl2 : [a, b].all finB = (finB a && finB b) := by simp
  rw [hl2] at I2
  have I3 := Lib.hid (fun A n c S w hx hn => plain_any A n c [a, b, q] S w hx (three_lt ha hb hq) hn)
  have hl3 : [a, b, q].all plB = (plB a && (plB b && plB q)) := by simp
  rw [hl3] at I3
  have I6 := Lib.hid (fun w => isinf_any q w hq)
  have I7 := Lib.hid (fun off w => settle_any q off m w hq hn hm)
  have I10 := Lib.hid sign_any
  have hrun := fun w => run_float_arith (P := Tryz.prog) (w := w) BinOp.quo 22 FloatKind.f64 a b q hr
  obtain ⟨w0, hw0⟩ : ∃ w0, w0 = w.alloc (.cells #[.float .f64 a, .float .f64 b] 22) := ⟨_, rfl⟩
  have hb0 : Below w.heap.size w w0 := by rw [hw0]; exact below1 ..
  have hx0 := rd_two w a b 22
  rw [← hw0] at hx0
  obtain ⟨w1, hw1⟩ : ∃ w1, w1 = w0.alloc (.cells #[.float .f64 a, .float .f64 b, .float .f64 q] 22) := ⟨_, rfl⟩
  have hb1 : Below w.heap.size w w1 := hb0.trans (by rw [hw1]; exact (below1 ..).mono hb0.size)
  have hx1 := rd_three w0 a b q 22
  rw [← hw1] at hx1
  have HX := Lib.hid hx0
  have HX1 := Lib.hid hx1
  have HB0 := Lib.hid hb0
  have HB1 := Lib.hid hb1
  have HW0 := Lib.hid hw0
  have HW1 := Lib.hid hw1
  obtain ⟨r, hrr⟩ : ∃ r, r = divF a b m q X := ⟨_, rfl⟩
  rw [← hrr]
  have HR := Lib.hid hrr
  obtain ⟨fb, hfb⟩ : ∃ fb, fb = (finB a && finB b) := ⟨_, rfl⟩
  rw [← hfb] at I2
  have HFB := Lib.hid hfb
  obtain ⟨pb, hpb⟩ : ∃ pb, pb = (plB a && (plB b && plB q)) := ⟨_, rfl⟩
  rw [← hpb] at I3
  have HPB := Lib.hid hpb
  rw [← hfb, ← hpb] at he
  rw [← hpb] at hf
  have HE := Lib.hid he
  have HF := Lib.hid hf
  clear hr hn hm hl2 hl3 hw0 hb0 hx0 hw1 hb1 hx1 hrr hfb hpb he hf
  cases fb
  · go_enter Tryz.func36, Tryz.ntmps36
    go_wp2_with fail
    refine (I1.out _).mono ?_
    rintro e w1 ⟨rfl, rfl⟩
    go_wp2_with fail
    rw [← HW0.out]
    refine (I2.out _ 2 2 _ w0 HX.out (by omega)).mono ?_
    rintro e w1 ⟨rfl, rfl⟩
    go_wp2_with fail
    go_ret
    exact ⟨by rw [HR.out]; unfold divF; rw [if_pos (.inl HFB.out.symm)]; rfl, HB0.out⟩
  · cases ha0 : feq a 0
    · have HA0 := Lib.hid ha0
      unfold feq at ha0
      cases hb0 : feq b 0
      · have HB00 := Lib.hid hb0
        unfold feq at hb0
        have hne : ¬ ((finB a && finB b) = false ∨ feq a 0 = true ∨ feq b 0 = true) := by
          rintro (h | h | h)
          · rw [← HFB.out] at h; cases h
          · rw [HA0.out] at h; cases h
          · rw [HB00.out] at h; cases h
        have HNE := Lib.hid hne
        clear hne
        cases pb
        · have hi : infB q = true := by
            rcases HE.out with h | h | h | h | h
            · cases h
            · rw [HA0.out] at h; cases h
            · rw [HB00.out] at h; cases h
            · cases h
            · exact h
          rw [hi] at I6
          have HI := Lib.hid hi
          clear hi
          go_enter Tryz.func36, Tryz.ntmps36
          go_wp2_with fail
          refine (I1.out _).mono ?_
          rintro e w2 ⟨rfl, rfl⟩
          go_wp2_with fail
          rw [← HW0.out]
          refine (I2.out _ 2 2 _ w0 HX.out (by omega)).mono ?_
          rintro e w2 ⟨rfl, rfl⟩
          go_wp2_with fail
          rw [← HW1.out]
          refine (I3.out _ 3 3 _ w1 HX1.out (by omega)).mono ?_
          rintro e w2 ⟨rfl, rfl⟩
          go_wp2_with fail
          refine (I6.out _).mono ?_
          rintro e w2 ⟨rfl, rfl⟩
          go_wp2_with fail
          refine (I7.out _ _).mono ?_
          rintro e w2 ⟨rfl, rfl⟩
          go_wp2_with fail
          go_ret
          exact ⟨by rw [HR.out]; unfold divF; rw [if_neg HNE.out, if_neg (by rw [← HPB.out]; decide), if_pos HI.out]; rfl, HB1.out⟩
        · obtain ⟨fr, hfr⟩ := HF.out rfl
          have hfd : fmaF (negF q) b a = fr := by unfold fmaF; rw [hfr]; rfl
          have HFD := Lib.hid hfd
          have hwr : wrap64 (sgF fr * sgF b) = sgF fr * sgF b := by
            have h1 := sgF_range fr
            have h2 := sgF_range b
            rcases h1 with h1 | h1 | h1 <;> rcases h2 with h2 | h2 | h2 <;> rw [h1, h2] <;> decide +kernel
          have hfma := fun w => run_fma hfr w
          have hneg := fun w => run_neg hq w
          clear hfr hfd
          go_enter Tryz.func36, Tryz.ntmps36
          go_wp2_with fail
          refine (I1.out _).mono ?_
          rintro e w2 ⟨rfl, rfl⟩
          go_wp2_with fail
          rw [← HW0.out]
          refine (I2.out _ 2 2 _ w0 HX.out (by omega)).mono ?_
          rintro e w2 ⟨rfl, rfl⟩
          go_wp2_with fail
          rw [← HW1.out]
          refine (I3.out _ 3 3 _ w1 HX1.out (by omega)).mono ?_
          rintro e w2 ⟨rfl, rfl⟩
          go_wp2_with fail
          refine (I10.out _ _).mono ?_
          rintro e w2 ⟨rfl, rfl⟩
          go_wp2_with fail
          refine (I10.out _ _).mono ?_
          rintro e w2 ⟨rfl, rfl⟩
          go_wp2_with fail
          refine (I7.out _ _).mono ?_
          rintro e w2 ⟨rfl, rfl⟩
          go_wp2_with fail
          go_ret
          exact ⟨by rw [HR.out]; unfold divF; rw [if_neg HNE.out, if_pos (by rw [← HPB.out]), HFD.out]; rfl, HB1.out⟩
      · have HB00 := Lib.hid hb0
        unfold feq at hb0
        go_enter Tryz.func36, Tryz.ntmps36
        go_wp2_with fail
        refine (I1.out _).mono ?_
        rintro e w2 ⟨rfl, rfl⟩
        go_wp2_with fail
        rw [← HW0.out]
        refine (I2.out _ 2 2 _ w0 HX.out (by omega)).mono ?_
        rintro e w2 ⟨rfl, rfl⟩
        go_wp2_with fail
        go_ret
        exact ⟨by rw [HR.out]; unfold divF; rw [if_pos (.inr (.inr HB00.out))]; rfl, HB0.out⟩
    · have HA0 := Lib.hid ha0
      unfold feq at ha0
      go_enter Tryz.func36, Tryz.ntmps36
      go_wp2_with fail
      refine (I1.out _).mono ?_
      rintro e w2 ⟨rfl, rfl⟩
      go_wp2_with fail
      rw [← HW0.out]
      refine (I2.out _ 2 2 _ w0 HX.out (by omega)).mono ?_
      rintro e w2 ⟨rfl, rfl⟩
      go_wp2_with fail
      go_ret
      exact ⟨by rw [HR.out]; unfold divF; rw [if_pos (.inr (.inl HA0.out))]; rfl, HB0.out⟩

end Go.Proofs.YtkfhbnfoiicioaaGreatDoor
