import Derived.Test.YtkfhbnfoiicioaaGreatDoorC2
import Derived.Deep.Cut
import Derived.Deep.DeepCutAuto
/- bits.Order and what it calls: the walks -/
set_option linter.unusedSimpArgs false
set_option linter.unusedVariables false
namespace Go.Proofs.YtkfhbnfoiicioaaGreatDoor
open Go.RowKit Go.Sort

def sgn3 (x y : Int) : Int := if x < y then -1 else if y < x then 1 else 0
theorem isNaN64 (x : Int) (w : World) : Calls Tryz.prog 77 #[.int .i64 x] w fun e w' => e = .returned (.bool false) ∧ w = w' := by
  have e1 : (x != x) = false := by simp
  go_enter Tryz.func77, Tryz.ntmps77
  go_wp2_with fail
  go_ret
  exact ⟨rfl, rfl⟩
theorem isNaNint (x : Int) (w : World) : Calls Tryz.prog 78 #[.int .i64 x] w fun e w' => e = .returned (.bool false) ∧ w = w' := by
  have e1 : (x != x) = false := by simp
  go_enter Tryz.func78, Tryz.ntmps78
  go_wp2_with fail
  go_ret
  exact ⟨rfl, rfl⟩
theorem cmp64 (x y : Int) (w : World) : Calls Tryz.prog 51 #[.int .i64 x, .int .i64 y] w fun e w' => e = .returned (.int .i64 (sgn3 x y)) ∧ w = w' := by
  have I1 := Lib.hid isNaN64
  unfold sgn3
  by_cases h1 : x < y
  · rw [if_pos h1]
    have d1 := decide_eq_true h1
    clear h1
    go_enter Tryz.func51, Tryz.ntmps51
    go_wp2_with (go_at_call 77; refine (I1.out _ _).mono ?_; rintro e w' ⟨rfl, rfl⟩)
    go_ret
    exact ⟨rfl, rfl⟩
  · rw [if_neg h1]
    have d1 := decide_eq_false h1
    by_cases h2 : y < x
    · rw [if_pos h2]
      have d2 := decide_eq_true h2
      clear h1 h2
      go_enter Tryz.func51, Tryz.ntmps51
      go_wp2_with (go_at_call 77; refine (I1.out _ _).mono ?_; rintro e w' ⟨rfl, rfl⟩)
      go_ret
      exact ⟨rfl, rfl⟩
    · rw [if_neg h2]
      have d2 := decide_eq_false h2
      clear h1 h2
      go_enter Tryz.func51, Tryz.ntmps51
      go_wp2_with (go_at_call 77; refine (I1.out _ _).mono ?_; rintro e w' ⟨rfl, rfl⟩)
      go_ret
      exact ⟨rfl, rfl⟩
theorem cmpint (x y : Int) (w : World) : Calls Tryz.prog 52 #[.int .i64 x, .int .i64 y] w fun e w' => e = .returned (.int .i64 (sgn3 x y)) ∧ w = w' := by
  have I1 := Lib.hid isNaNint
  unfold sgn3
  by_cases h1 : x < y
  · rw [if_pos h1]
    have d1 := decide_eq_true h1
    clear h1
    go_enter Tryz.func52, Tryz.ntmps52
    go_wp2_with (go_at_call 78; refine (I1.out _ _).mono ?_; rintro e w' ⟨rfl, rfl⟩)
    go_ret
    exact ⟨rfl, rfl⟩
  · rw [if_neg h1]
    have d1 := decide_eq_false h1
    by_cases h2 : y < x
    · rw [if_pos h2]
      have d2 := decide_eq_true h2
      clear h1 h2
      go_enter Tryz.func52, Tryz.ntmps52
      go_wp2_with (go_at_call 78; refine (I1.out _ _).mono ?_; rintro e w' ⟨rfl, rfl⟩)
      go_ret
      exact ⟨rfl, rfl⟩
    · rw [if_neg h2]
      have d2 := decide_eq_false h2
      clear h1 h2
      go_enter Tryz.func52, Tryz.ntmps52
      go_wp2_with (go_at_call 78; refine (I1.out _ _).mono ?_; rintro e w' ⟨rfl, rfl⟩)
      go_ret
      exact ⟨rfl, rfl⟩
set_option maxRecDepth 100000 in
set_option maxHeartbeats 1000000 in
theorem or2 (b o c : Nat) (x y : Int) (w : World) (h0 : w.cell? ⟨b, o, none⟩ = some (.int .i64 x)) (h1 : w.cell? ⟨b, o + 1, none⟩ = some (.int .i64 y)) :
    Calls Tryz.prog 50 #[.slice (some ⟨b, o, none⟩) 2 c] w fun e w' => e = .returned (.int .i64 (if x = 0 then y else x)) ∧ w = w' := by
  obtain ⟨r, hr⟩ : ∃ r, r = if x = 0 then y else x := ⟨_, rfl⟩
  rw [← hr]
  have HR := Lib.hid hr
  clear hr
  go_enter Tryz.func50, Tryz.ntmps50
  go_wp2_with fail
  go_loop [8] (fun iv => ∃ k : Nat, k ≤ 2 ∧ iv = .int .i64 k ∧ (0 < k → x = 0) ∧ (1 < k → y = 0)) (fun iv => 2 - (intOf iv).toNat)
  case atStart => exact ⟨0, by omega, rfl, fun h => by omega, fun h => by omega⟩
  case round =>
    obtain ⟨k, hk, rfl, hx, hy⟩ := hrel
    have HX := Lib.hid hx
    have HY := Lib.hid hy
    clear hx hy
    obtain rfl | rfl | rfl : k = 0 ∨ k = 1 ∨ k = 2 := by omega
    · by_cases hz : x = 0
      · have d0 : (x != 0) = false := by simp [hz]
        have HZ := Lib.hid hz
        clear hz
        go_wp2_with fail
        go_round
        case rel => exact ⟨1, by omega, by go_num, fun _ => HZ.out, fun h => by omega⟩
        case measure => simp [intOf]
      · have d0 : (x != 0) = true := by simp [hz]
        have HZ := Lib.hid hz
        clear hz
        go_wp2_with fail
        go_ret
        exact ⟨by rw [HR.out, if_neg HZ.out]; rfl, rfl⟩
    · by_cases hz : y = 0
      · have d0 : (y != 0) = false := by simp [hz]
        have HZ := Lib.hid hz
        clear hz
        go_wp2_with fail
        go_round
        case rel => exact ⟨2, by omega, by go_num, fun _ => HX.out (by omega), fun _ => HZ.out⟩
        case measure => simp [intOf]
      · have d0 : (y != 0) = true := by simp [hz]
        clear hz
        go_wp2_with fail
        go_ret
        exact ⟨by rw [HR.out, if_pos (HX.out (by omega))]; rfl, rfl⟩
    · go_wp2_with fail
      go_ret
      exact ⟨by rw [HR.out, if_pos (HX.out (by omega)), HY.out (by omega)]; rfl, rfl⟩
theorem clr_sign {b : Nat} (hb : b < 18446744073709551616) : bits BinOp.andNot IntKind.u64 (b : Int) 9223372036854775808 = ((absF b : Nat) : Int) := by
  have h := u64_andNot_nat b 9223372036854775808 hb (by decide)
  rw [show (18446744073709551615 - 9223372036854775808 : Nat) = 2 ^ 63 - 1 by decide, Nat.and_two_pow_sub_one_eq_mod] at h
  exact h
set_option maxRecDepth 100000 in
set_option maxHeartbeats 1000000 in
theorem abs_any (b : Nat) (w : World) (hb : b < 18446744073709551616) : Calls Tryz.prog 31 #[.float .f64 b] w fun e w' => e = .returned (.float .f64 (absF b)) ∧ w = w' := by
  have hc := clr_sign hb
  go_enter Tryz.func31, Tryz.ntmps31
  go_wp2_with fail
  go_ret
  exact ⟨rfl, rfl⟩
theorem signbit_any (b : Nat) (w : World) (hb : b < 18446744073709551616) : Calls Tryz.prog 65 #[.float .f64 b] w fun e w' => e = .returned (.bool (sgbB b)) ∧ w = w' := by
  have hc : decide (wrap64 (b : Int) < 0) = sgbB b := by
    unfold sgbB wrap64
    by_cases h : 9223372036854775808 ≤ b
    · rw [decide_eq_true h, decide_eq_true (by omega)]
    · rw [decide_eq_false h, decide_eq_false (by omega)]
  generalize sgbB b = s at hc ⊢
  go_enter Tryz.func65, Tryz.ntmps65
  go_wp2_with fail
  go_ret
  exact ⟨rfl, rfl⟩
def placeI (u : Nat) : Int := if flt u 0 = true then -((absF u : Nat) : Int) else ((absF u : Nat) : Int)
set_option maxRecDepth 100000 in
set_option maxHeartbeats 1000000 in
theorem place_any (u : Nat) (w : World) (hu : u < 18446744073709551616) : Calls Tryz.prog 76 #[.float .f64 u] w fun e w' => e = .returned (.tuple #[.int .i64 (if fnan u = true then 0 else placeI u), .bool (!fnan u)]) ∧ w = w' := by
  have hself := feq_self u
  have I1 := Lib.hid abs_any
  have hg : absF u < 9223372036854775808 := by unfold absF; omega
  cases hn : fnan u
  · rw [if_neg (by decide)]
    have o1 : (FloatKind.f64.format.order u u != some .eq) = false := by rw [hn] at hself; unfold feq at hself; simp [bne, hself]
    have ew : wrap64 ((absF u : Nat) : Int) = ((absF u : Nat) : Int) := by unfold wrap64; omega
    have ew2 : wrap64 (-((absF u : Nat) : Int)) = -((absF u : Nat) : Int) := by unfold wrap64; omega
    unfold placeI
    cases hl : flt u 0
    · unfold flt at hl
      rw [if_neg (by decide)]
      clear hself hn
      go_enter Tryz.func76, Tryz.ntmps76
      go_wp2_with (go_at_call 31; refine (I1.out u _ hu).mono ?_; rintro e w' ⟨rfl, rfl⟩)
      go_ret2
      exact ⟨rfl, rfl⟩
    · unfold flt at hl
      rw [if_pos rfl]
      clear hself hn
      go_enter Tryz.func76, Tryz.ntmps76
      go_wp2_with (go_at_call 31; refine (I1.out u _ hu).mono ?_; rintro e w' ⟨rfl, rfl⟩)
      go_ret2
      exact ⟨rfl, rfl⟩
  · rw [if_pos rfl]
    have o1 : (FloatKind.f64.format.order u u != some .eq) = true := by rw [hn] at hself; unfold feq at hself; simp [bne, hself]
    clear hself hn
    go_enter Tryz.func76, Tryz.ntmps76
    go_wp2_with fail
    go_ret2
    exact ⟨rfl, rfl⟩

end Go.Proofs.YtkfhbnfoiicioaaGreatDoor
