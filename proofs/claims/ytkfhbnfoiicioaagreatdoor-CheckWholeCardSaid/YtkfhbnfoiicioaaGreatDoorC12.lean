import Derived.Test.YtkfhbnfoiicioaaGreatDoorC11
import Derived.Test.YtkfhbnfoiicioaaGreatDoorVR
/- what round's functions ask of a float: the walks -/
set_option linter.unusedSimpArgs false
set_option linter.unusedVariables false
namespace Go.Proofs.YtkfhbnfoiicioaaGreatDoor
open Go.RowKit Go.Sort

theorem fk_vr {g : Nat} (h : g < 9218868437227405312) : fk g = (Vr g : Int) := by
  have e1 : Ieee.double.signWeight = 9223372036854775808 := by decide
  have e2 : Ieee.double.binade = 4503599627370496 := by decide
  have e3 : Ieee.double.infRung = 9218868437227405312 := by decide
  have e4 : Ieee.double.leastPlace = -1074 := by decide
  have e5 : (2 : Nat) ^ 52 = 4503599627370496 := by decide
  have hs : (g / 9223372036854775808 % 2 == 1) = false := by
    have : g / 9223372036854775808 = 0 := by omega
    rw [this]; rfl
  have hm : g % 9223372036854775808 = g := by omega
  have hr : Ieee.double.read g = (if g < 4503599627370496 then .number false g (-1074) else .number false (4503599627370496 + g % 4503599627370496) (-1074 + ((g / 4503599627370496 - 1 : Nat) : Int))) := by
    unfold Ieee.Format.read
    simp only [e1, e2, e3, e4, hs, hm]
    by_cases h1 : g < 4503599627370496
    · rw [if_pos h1, if_pos h1]
    · rw [if_neg h1, if_neg h1, if_pos h]
  unfold Vr
  rw [e5]
  by_cases h1 : g < 4503599627370496
  · rw [if_pos h1] at hr ⊢
    rw [fk_parts hr]
    unfold Ieee.signed
    simp
  · rw [if_neg h1] at hr ⊢
    rw [fk_parts hr]
    unfold Ieee.signed
    rw [Nat.shiftLeft_eq, show (-1074 + ((g / 4503599627370496 - 1 : Nat) : Int) + 1074).toNat = g / 4503599627370496 - 1 by omega]
    rfl
theorem isinf_key {u : Nat} : fgt (absF u) 9218868437227405311 = infB u := by
  have hmax : fk 9218868437227405311 = (Vr 9218868437227405311 : Int) := fk_vr (by decide)
  have nmax : fnan 9218868437227405311 = false := by decide
  have ha : absF u % 9223372036854775808 = absF u := by unfold absF; omega
  have hi : infB u = decide (absF u = 9218868437227405312) := rfl
  rw [hi]
  have i6 := fgt_iff (absF u) 9218868437227405311
  rw [nmax, hmax] at i6
  by_cases h1 : absF u < 9218868437227405312
  · rw [decide_eq_false (by omega)]
    cases h : fgt (absF u) 9218868437227405311
    · rfl
    · have h2 := (i6.1 h).2.2
      rw [fk_vr h1] at h2
      have := Vr_le (show absF u ≤ 9218868437227405311 by omega)
      omega
  · by_cases h2 : absF u = 9218868437227405312
    · rw [decide_eq_true h2, h2]
      decide +kernel
    · rw [decide_eq_false h2]
      cases h : fgt (absF u) 9218868437227405311
      · rfl
      · have h3 := num_le (i6.1 h).1
        omega
theorem isnan_any (u : Nat) (w : World) : Calls Tryz.prog 79 #[.float .f64 u] w fun e w' => e = .returned (.bool (fnan u)) ∧ w = w' := by
  have hself := feq_self u
  have o1 : (FloatKind.f64.format.order u u != some .eq) = fnan u := by
    unfold feq at hself
    rw [bne, hself, Bool.not_not]
  generalize fnan u = n at *
  clear hself
  go_enter Tryz.func79, Tryz.ntmps79
  go_wp2_with fail
  go_ret
  exact ⟨rfl, rfl⟩
theorem isinf_any (u : Nat) (w : World) (hu : u < 18446744073709551616) : Calls Tryz.prog 61 #[.float .f64 u, .int .i64 0] w fun e w' => e = .returned (.bool (infB u)) ∧ w = w' := by
  have I1 := Lib.hid (fun w => abs_any u w hu)
  have hk := isinf_key (u := u)
  unfold fgt at hk
  generalize infB u = b at *
  generalize absF u = g at *
  go_enter Tryz.func61, Tryz.ntmps61
  go_wp2_with fail
  refine (I1.out _).mono ?_
  rintro e w1 ⟨rfl, rfl⟩
  go_wp2_with fail
  go_ret
  exact ⟨rfl, rfl⟩
theorem copysign_any (x s : Nat) (w : World) (hx : x < 18446744073709551616) (hs : s < 18446744073709551616) : Calls Tryz.prog 80 #[.float .f64 x, .float .f64 s] w fun e w' => e = .returned (.float .f64 (absF x + (if sgbB s = true then 9223372036854775808 else 0))) ∧ w = w' := by
  have b1 := clr_sign hx
  have hg : absF x < 9223372036854775808 := by unfold absF; omega
  have b2 : bits BinOp.and IntKind.u64 (s : Int) 9223372036854775808 = ((if sgbB s = true then 9223372036854775808 else 0 : Nat) : Int) := by
    have h := bits_and_u64_nat s 9223372036854775808 hs (by decide)
    rw [show bits BinOp.and IntKind.u64 (s : Int) 9223372036854775808 = ((s &&& 9223372036854775808 : Nat) : Int) from h]
    congr 1
    have e63 : (9223372036854775808 : Nat) = 2 ^ 63 := by decide
    have hbit : s.testBit 63 = sgbB s := by
      rw [Nat.testBit_eq_decide_div_mod_eq]
      unfold sgbB
      by_cases h9 : 9223372036854775808 ≤ s
      · rw [decide_eq_true h9, decide_eq_true (by omega)]
      · rw [decide_eq_false h9, decide_eq_false (by omega)]
    rw [e63]
    refine Nat.eq_of_testBit_eq fun i => ?_
    rw [Nat.testBit_and, Nat.testBit_two_pow]
    by_cases hi : 63 = i
    · subst hi
      rw [hbit]
      cases sgbB s
      · simp
      · simp; decide
    · rw [decide_eq_false hi, Bool.and_false]
      cases sgbB s
      · simp
      · simp only [if_true]
        rw [Nat.testBit_two_pow, decide_eq_false hi]
  have b3 : ∀ k : Nat, (k = 0 ∨ k = 9223372036854775808) → bits BinOp.or IntKind.u64 ((absF x : Nat) : Int) (k : Int) = ((absF x + k : Nat) : Int) := by
    intro k hk
    have h := bits_or_u64_nat (absF x) k (by omega) (by omega)
    rw [show bits BinOp.or IntKind.u64 ((absF x : Nat) : Int) (k : Int) = ((absF x ||| k : Nat) : Int) from h]
    congr 1
    rcases hk with rfl | rfl
    · simp
    · have e63 : (9223372036854775808 : Nat) = 2 ^ 63 := by decide
      rw [Nat.or_comm, e63, Nat.add_comm]
      have := Nat.two_pow_add_eq_or_of_lt (i := 63) (b := absF x) (by rw [← e63]; exact hg) 1
      simpa using this.symm
  obtain ⟨k, hk⟩ : ∃ k : Nat, k = if sgbB s = true then 9223372036854775808 else 0 := ⟨_, rfl⟩
  rw [← hk] at b2 ⊢
  have hk2 : k = 0 ∨ k = 9223372036854775808 := by rw [hk]; split <;> simp
  have b4 := b3 k hk2
  generalize absF x = g at *
  clear hk hk2 b3
  go_enter Tryz.func80, Tryz.ntmps80
  go_wp2_with fail
  go_ret
  exact ⟨rfl, rfl⟩
theorem sign_any (u : Nat) (w : World) : Calls Tryz.prog 59 #[.float .f64 u] w fun e w' => e = .returned (.int .i64 (sgF u)) ∧ w = w' := by
  unfold sgF
  cases h1 : fgt u 0
  · cases h2 : flt u 0
    · unfold fgt at h1
      unfold flt at h2
      rw [if_neg (by decide), if_neg (by decide)]
      go_enter Tryz.func59, Tryz.ntmps59
      go_wp2_with fail
      go_ret
      exact ⟨rfl, rfl⟩
    · unfold fgt at h1
      unfold flt at h2
      rw [if_neg (by decide), if_pos rfl]
      go_enter Tryz.func59, Tryz.ntmps59
      go_wp2_with fail
      go_ret
      exact ⟨rfl, rfl⟩
  · unfold fgt at h1
    rw [if_pos rfl]
    go_enter Tryz.func59, Tryz.ntmps59
    go_wp2_with fail
    go_ret
    exact ⟨rfl, rfl⟩
theorem way_any (m : Int) (w : World) (h1 : 0 ≤ m) (h2 : m ≤ 3) : Calls Tryz.prog 55 #[.int .i8 m] w fun e w' => e = .returned (.int .i8 m) ∧ w = w' := by
  have d1 : decide (m < 0) = false := decide_eq_false (by omega)
  have d2 : decide (3 < m) = false := decide_eq_false (by omega)
  go_enter Tryz.func55, Tryz.ntmps55
  go_wp2_with fail
  go_ret
  exact ⟨rfl, rfl⟩
theorem none_any (m : Int) (w : World) : Calls Tryz.prog 66 #[.int .i8 m] w fun e w' => e = .returned (.float .f64 (noneF m)) ∧ w = w' := by
  have I1 := Lib.hid (fun w => copysign_any 0 13830554455654793216 w (by decide) (by decide))
  have e0 : absF 0 + (if sgbB 13830554455654793216 = true then 9223372036854775808 else 0) = 9223372036854775808 := by decide +kernel
  rw [e0] at I1
  unfold noneF
  by_cases h : m = 1
  · subst h
    rw [if_pos rfl]
    go_enter Tryz.func66, Tryz.ntmps66
    go_wp2_with fail
    refine (I1.out _).mono ?_
    rintro e w1 ⟨rfl, rfl⟩
    go_wp2_with fail
    go_ret
    exact ⟨rfl, rfl⟩
  · rw [if_neg h]
    have d0 : (m == 1) = false := by simp [h]
    clear h
    go_enter Tryz.func66, Tryz.ntmps66
    go_wp2_with fail
    go_ret
    exact ⟨rfl, rfl⟩

end Go.Proofs.YtkfhbnfoiicioaaGreatDoor
