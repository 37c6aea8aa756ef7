import Derived.Test.YtkfhbnfoiicioaaGreatDoorC12
/- round.finite, plain, step, settle: the walks -/
set_option linter.unusedSimpArgs false
set_option linter.unusedVariables false
namespace Go.Proofs.YtkfhbnfoiicioaaGreatDoor
open Go.RowKit Go.Sort

def Fc (u : Nat) : List Value := [.float .f64 u]
theorem Fc.clen (u : Nat) : (Fc u).length = 1 := rfl
theorem nan_inf (u : Nat) : (fnan u || infB u) = !finB u := by
  cases hn : fnan u
  · rw [Bool.false_or, fin_inf hn]
  · cases hf : finB u
    · rfl
    · rw [(fk_fin hf).1] at hn; cases hn
theorem take_all {p : Nat → Bool} {xs : List Nat} {k x : Nat} (h : (xs.take k).all p = true) (hx : xs[k]? = some x) (hp : p x = true) : (xs.take (k + 1)).all p = true := by
  obtain ⟨hl, e⟩ := List.getElem?_eq_some_iff.1 hx
  rw [List.take_succ_eq_append_getElem hl, List.all_append, h, e]
  simp [hp]
theorem all_not {p : Nat → Bool} {xs : List Nat} {k x : Nat} (hx : xs[k]? = some x) (hp : p x = false) : xs.all p = false := by
  rw [List.all_eq_false]
  exact ⟨x, List.mem_of_getElem? hx, by rw [hp]; decide⟩
set_option maxRecDepth 100000 in
set_option maxHeartbeats 2000000 in
theorem finite_any (A : Option Addr) (n c : Nat) (xs : List Nat) (S : Nat → Prop) (w : World) (hx : RdE Fc 1 w S A n xs) (hw : ∀ x ∈ xs, x < 18446744073709551616) (hn : n ≤ 1000000) :
    Calls Tryz.prog 56 #[.slice A n c] w fun e w' => e = .returned (.bool (xs.all finB)) ∧ w = w' := by
  obtain ⟨r, hr⟩ : ∃ r, r = xs.all finB := ⟨_, rfl⟩
  rw [← hr]
  have HR := Lib.hid hr
  have HX := Lib.hid hx
  have HW := Lib.hid hw
  clear hr hx hw
  go_enter Tryz.func56, Tryz.ntmps56
  go_wp2_with fail
  go_loop [7] (fun iv => ∃ k : Nat, k ≤ n ∧ iv = .int .i64 k ∧ (xs.take k).all finB = true) (fun iv => n - (intOf iv).toNat)
  case atStart => exact ⟨0, by omega, rfl, by simp⟩
  case round =>
    obtain ⟨k, hk, rfl, hall⟩ := hrel
    have HA := Lib.hid hall
    clear hall
    by_cases hlt : k < n
    · obtain ⟨x, ex⟩ := get_some HX.out.num hlt
      obtain ⟨b, o, rfl, hSb, hc⟩ := HX.out.elem Fc.clen ex (by omega)
      have q0 : w.cell? ⟨b, o + k, none⟩ = some (.float .f64 x) := by have h := hc 0 _ rfl; simpa using h
      have hxw := HW.out x (List.mem_of_getElem? ex)
      have I1 := Lib.hid (fun w => isnan_any x w)
      have I2 := Lib.hid (fun w => isinf_any x w hxw)
      have hni := nan_inf x
      have HEX := Lib.hid ex
      clear hc ex
      cases hf : finB x
      · rw [hf] at hni
        have HF := Lib.hid hf
        clear hf
        cases h1 : fnan x
        · rw [h1, Bool.false_or] at hni
          rw [h1] at I1
          rw [hni] at I2
          clear h1 hni
          go_wp2_with fail
          refine (I1.out _).mono ?_
          rintro e w1 ⟨rfl, rfl⟩
          go_wp2_with fail
          refine (I2.out _).mono ?_
          rintro e w1 ⟨rfl, rfl⟩
          go_wp2_with fail
          go_ret
          exact ⟨by rw [HR.out, all_not HEX.out HF.out]; rfl, rfl⟩
        · rw [h1] at I1
          clear h1 hni
          go_wp2_with fail
          refine (I1.out _).mono ?_
          rintro e w1 ⟨rfl, rfl⟩
          go_wp2_with fail
          go_ret
          exact ⟨by rw [HR.out, all_not HEX.out HF.out]; rfl, rfl⟩
      · have HF := Lib.hid hf
        rw [hf] at hni
        have hni2 := Bool.or_eq_false_iff.1 hni
        rw [hni2.1] at I1
        rw [hni2.2] at I2
        clear hf hni hni2
        go_wp2_with fail
        refine (I1.out _).mono ?_
        rintro e w1 ⟨rfl, rfl⟩
        go_wp2_with fail
        refine (I2.out _).mono ?_
        rintro e w1 ⟨rfl, rfl⟩
        go_wp2_with fail
        go_round
        case rel => exact ⟨k + 1, by omega, by go_num, take_all HA.out HEX.out HF.out⟩
        case measure => simp [intOf]; omega
    · obtain rfl : k = n := by omega
      go_wp2_with fail
      go_ret
      refine ⟨?_, rfl⟩
      have h := HA.out
      rw [List.take_of_length_le (by rw [HX.out.num]; exact Nat.le_refl _)] at h
      rw [HR.out, h]
      rfl
def expo (u : Nat) : Nat := u / 4503599627370496 % 2048
def plB (u : Nat) : Bool := !(decide (expo u < 200) || decide (1900 < expo u))
theorem shr52_any {u : Nat} (hu : u < 18446744073709551616) : bits BinOp.and IntKind.u64 ((u : Int) / 4503599627370496) 2047 = ((expo u : Nat) : Int) := by
  have h := bits_and_u64_nat (u / 2 ^ 52) 2047 (by omega) (by decide)
  rw [show (2047 : Nat) = 2 ^ 11 - 1 by decide, Nat.and_two_pow_sub_one_eq_mod] at h
  exact h
set_option maxRecDepth 100000 in
set_option maxHeartbeats 2000000 in
theorem plain_any (A : Option Addr) (n c : Nat) (xs : List Nat) (S : Nat → Prop) (w : World) (hx : RdE Fc 1 w S A n xs) (hw : ∀ x ∈ xs, x < 18446744073709551616) (hn : n ≤ 1000000) :
    Calls Tryz.prog 57 #[.slice A n c] w fun e w' => e = .returned (.bool (xs.all plB)) ∧ w = w' := by
  obtain ⟨r, hr⟩ : ∃ r, r = xs.all plB := ⟨_, rfl⟩
  rw [← hr]
  have HR := Lib.hid hr
  have HX := Lib.hid hx
  have HW := Lib.hid hw
  clear hr hx hw
  go_enter Tryz.func57, Tryz.ntmps57
  go_wp2_with fail
  go_loop [8] (fun iv => ∃ k : Nat, k ≤ n ∧ iv = .int .i64 k ∧ (xs.take k).all plB = true) (fun iv => n - (intOf iv).toNat)
  case atStart => exact ⟨0, by omega, rfl, by simp⟩
  case round =>
    obtain ⟨k, hk, rfl, hall⟩ := hrel
    have HA := Lib.hid hall
    clear hall
    by_cases hlt : k < n
    · obtain ⟨x, ex⟩ := get_some HX.out.num hlt
      obtain ⟨b, o, rfl, hSb, hc⟩ := HX.out.elem Fc.clen ex (by omega)
      have q0 : w.cell? ⟨b, o + k, none⟩ = some (.float .f64 x) := by have h := hc 0 _ rfl; simpa using h
      have hxw := HW.out x (List.mem_of_getElem? ex)
      have hs := shr52_any hxw
      have HEX := Lib.hid ex
      have hp : plB x = !(decide ((expo x : Int) < 200) || decide ((1900 : Int) < (expo x : Int))) := by
        unfold plB
        congr 1
        congr 1
        · exact decide_eq_decide.2 (by omega)
        · exact decide_eq_decide.2 (by omega)
      clear hc ex
      obtain ⟨p, hpp⟩ : ∃ p, p = plB x := ⟨_, rfl⟩
      rw [← hpp] at hp
      have HPP := Lib.hid hpp
      clear hpp
      generalize (expo x : Int) = E at hs hp
      cases h1 : decide (E < 200)
      · cases h2 : decide ((1900 : Int) < E)
        · have hpt : plB x = true := by rw [← HPP.out, hp, h1, h2]; rfl
          have HPT := Lib.hid hpt
          clear hpt hp
          go_wp2_with fail
          go_round
          case rel => exact ⟨k + 1, by omega, by go_num, take_all HA.out HEX.out HPT.out⟩
          case measure => simp [intOf]; omega
        · have hpt : plB x = false := by rw [← HPP.out, hp, h1, h2]; rfl
          have HPT := Lib.hid hpt
          clear hpt hp
          go_wp2_with fail
          go_ret
          exact ⟨by rw [HR.out, all_not HEX.out HPT.out]; rfl, rfl⟩
      · have hpt : plB x = false := by rw [← HPP.out, hp, h1]; rfl
        have HPT := Lib.hid hpt
        clear hpt hp
        go_wp2_with fail
        go_ret
        exact ⟨by rw [HR.out, all_not HEX.out HPT.out]; rfl, rfl⟩
    · obtain rfl : k = n := by omega
      go_wp2_with fail
      go_ret
      refine ⟨?_, rfl⟩
      have h := HA.out
      rw [List.take_of_length_le (by rw [HX.out.num]; exact Nat.le_refl _)] at h
      rw [HR.out, h]
      rfl

end Go.Proofs.YtkfhbnfoiicioaaGreatDoor
