import Derived.Test.YtkfhbnfoiicioaaGreatDoorX07
import Derived.Deep.Cut
import Derived.Deep.DeepCutAuto
set_option linter.unusedSimpArgs false
set_option linter.unusedVariables false
/- round.finite, plain, step, settle: the walks -/
namespace Go.Proofs.YtkfhbnfoiicioaaGreatDoor
open Go.RowKit Go.Sort

def Fc (u : Nat) : List Value := [.float .f64 u]
theorem Fc.clen (u : Nat) : (Fc u).length = 1 := rfl
theorem nan_inf (u : Nat) : (fnan u || infB u) = !finB u := by
  cases hn : fnan u
  · rw [Bool.false_or, fin_inf hn]
  · cases hf : finB u
    · rfl
    · rw [(fk_fin hf).1] at hn; cases hn
theorem take_all {p : Nat → Bool} {xs : List Nat} {k x : Nat} (h : (xs.take k).all p = true) (hx : xs[k]? = some x) (hp : p x = true) : (xs.take (k + 1)).all p = true := by
  obtain ⟨hl, e⟩ := List.getElem?_eq_some_iff.1 hx
  rw [List.take_succ_eq_append_getElem hl, List.all_append, h, e]
  simp [hp]
theorem all_not {p : Nat → Bool} {xs : List Nat} {k x : Nat} (hx : xs[k]? = some x) (hp : p x = false) : xs.all p = false := by
  rw [List.all_eq_false]
  exact ⟨x, List.mem_of_getElem? hx, by rw [hp]; decide⟩
set_option maxRecDepth 100000 in
set_option maxHeartbeats 2000000 in
theorem finite_any (A : Option Addr) (n c : Nat) (xs : List Nat) (S : Nat → Prop) (w : World) (hx : RdE Fc 1 w S A n xs) (hw : ∀ x ∈ xs, x < 18446744073709551616) (hn : n ≤ 1000000) :
    Calls Tryz.prog 56 #[.slice A n c] w fun e w' => e = .returned (.bool (xs.all finB)) ∧ w = w' := by
  obtain ⟨r, hr⟩ : ∃ r, r = xs.all finB := ⟨_, rfl⟩
  rw [← hr]
  have HR := Lib.hid hr
  have HX := Lib.hid hx
  have HW := Lib.hid hw
  clear hr hx hw
  go_enter Tryz.func56, Tryz.ntmps56
  go_wp2_with fail
  go_loop [7] (fun iv => ∃ k : Nat, k ≤ n ∧ iv = .int .i64 k ∧ (xs.take k).all finB = true) (fun iv => n - (intOf iv).toNat)
  case atStart => exact ⟨0, by omega, rfl, by simp⟩
  case round =>
    obtain ⟨k, hk, rfl, hall⟩ := hrel
    have HA := Lib.hid hall
    clear hall
    by_cases hlt : k < n
    · obtain ⟨x, ex⟩ := get_some HX.out.num hlt
      obtain ⟨b, o, rfl, hSb, hc⟩ := HX.out.elem Fc.clen ex (by omega)
      have q0 : w.cell? ⟨b, o + k, none⟩ = some (.float .f64 x) := by have h := hc 0 _ rfl; simpa using h
      have hxw := HW.out x (List.mem_of_getElem? ex)
      have I1 := Lib.hid (fun w => isnan_any x w)
      have I2 := Lib.hid (fun w => isinf_any x w hxw)
      have hni := nan_inf x
      have HEX := Lib.hid ex
      clear hc ex
      cases hf : finB x
      · rw [hf] at hni
        have HF := Lib.hid hf
        clear hf
        cases h1 : fnan x
        · rw [h1, Bool.false_or] at hni
          rw [h1] at I1
          rw [hni] at I2
          clear h1 hni
          go_wp2_with fail
          refine (I1.out _).mono ?_
          rintro e w1 ⟨rfl, rfl⟩
          go_wp2_with fail
          refine (I2.out _).mono ?_
          rintro e w1 ⟨rfl, rfl⟩
          go_wp2_with fail
          go_ret
          exact ⟨by rw [HR.out, all_not HEX.out HF.out]; rfl, rfl⟩
        · rw [h1] at I1
          clear h1 hni
          go_wp2_with fail
          refine (I1.out _).mono ?_
          rintro e w1 ⟨rfl, rfl⟩
          go_wp2_with fail
          go_ret
          exact ⟨by rw [HR.out, all_not HEX.out HF.out]; rfl, rfl⟩
      · have HF := Lib.hid hf
        rw [hf] at hni
        have hni2 := Bool.or_eq_false_iff.1 hni
        rw [hni2.1] at I1
        rw [hni2.2] at I2
        clear hf hni hni2
        go_wp2_with fail
        refine (I1.out _).mono ?_
        rintro e w1 ⟨rfl, rfl⟩
        go_wp2_with fail
        refine (I2.out _).mono ?_
        rintro e w1 ⟨rfl, rfl⟩
        go_wp2_with fail
        go_round
        case rel => exact ⟨k + 1, by omega, by go_num, take_all HA.out HEX.out HF.out⟩
        case measure => simp [intOf]; omega
    · obtain rfl : k = n := by omega
      go_wp2_with fail
      go_ret
      refine ⟨?_, rfl⟩
      have h := HA.out
      rw [List.take_of_length_le (by rw [HX.out.num]; exact Nat.le_refl _)] at h
      rw [HR.out, h]
      rfl
def expo (u : Nat) : Nat := u / 4503599627370496 % 2048
def plB (u : Nat) : Bool := !(decide (expo u < 200) || decide (1900 < expo u))
theorem shr52_any {u : Nat} (hu : u < 18446744073709551616) : bits BinOp.and IntKind.u64 ((u : Int) / 4503599627370496) 2047 = ((expo u : Nat) : Int) := by
  have h := bits_and_u64_nat (u / 2 ^ 52) 2047 (by omega) (by decide)
  rw [show (2047 : Nat) = 2 ^ 11 - 1 by decide, Nat.and_two_pow_sub_one_eq_mod] at h
  exact h
set_option maxRecDepth 100000 in
set_option maxHeartbeats 2000000 in
theorem plain_any (A : Option Addr) (n c : Nat) (xs : List Nat) (S : Nat → Prop) (w : World) (hx : RdE Fc 1 w S A n xs) (hw : ∀ x ∈ xs, x < 18446744073709551616) (hn : n ≤ 1000000) :
    Calls Tryz.prog 57 #[.slice A n c] w fun e w' => e = .returned (.bool (xs.all plB)) ∧ w = w' := by
  obtain ⟨r, hr⟩ : ∃ r, r = xs.all plB := ⟨_, rfl⟩
  rw [← hr]
  have HR := Lib.hid hr
  have HX := Lib.hid hx
  have HW := Lib.hid hw
  clear hr hx hw
  go_enter Tryz.func57, Tryz.ntmps57
  go_wp2_with fail
  go_loop [8] (fun iv => ∃ k : Nat, k ≤ n ∧ iv = .int .i64 k ∧ (xs.take k).all plB = true) (fun iv => n - (intOf iv).toNat)
  case atStart => exact ⟨0, by omega, rfl, by simp⟩
  case round =>
    obtain ⟨k, hk, rfl, hall⟩ := hrel
    have HA := Lib.hid hall
    clear hall
    by_cases hlt : k < n
    · obtain ⟨x, ex⟩ := get_some HX.out.num hlt
      obtain ⟨b, o, rfl, hSb, hc⟩ := HX.out.elem Fc.clen ex (by omega)
      have q0 : w.cell? ⟨b, o + k, none⟩ = some (.float .f64 x) := by have h := hc 0 _ rfl; simpa using h
      have hxw := HW.out x (List.mem_of_getElem? ex)
      have hs := shr52_any hxw
      have HEX := Lib.hid ex
      have hp : plB x = !(decide ((expo x : Int) < 200) || decide ((1900 : Int) < (expo x : Int))) := by
        unfold plB
        congr 1
        congr 1
        · exact decide_eq_decide.2 (by omega)
        · exact decide_eq_decide.2 (by omega)
      clear hc ex
      obtain ⟨p, hpp⟩ : ∃ p, p = plB x := ⟨_, rfl⟩
      rw [← hpp] at hp
      have HPP := Lib.hid hpp
      clear hpp
      generalize (expo x : Int) = E at hs hp
      cases h1 : decide (E < 200)
      · cases h2 : decide ((1900 : Int) < E)
        · have hpt : plB x = true := by rw [← HPP.out, hp, h1, h2]; rfl
          have HPT := Lib.hid hpt
          clear hpt hp
          go_wp2_with fail
          go_round
          case rel => exact ⟨k + 1, by omega, by go_num, take_all HA.out HEX.out HPT.out⟩
          case measure => simp [intOf]; omega
        · have hpt : plB x = false := by rw [← HPP.out, hp, h1, h2]; rfl
          have HPT := Lib.hid hpt
          clear hpt hp
          go_wp2_with fail
          go_ret
          exact ⟨by rw [HR.out, all_not HEX.out HPT.out]; rfl, rfl⟩
      · have hpt : plB x = false := by rw [← HPP.out, hp, h1]; rfl
        have HPT := Lib.hid hpt
        clear hpt hp
        go_wp2_with fail
        go_ret
        exact ⟨by rw [HR.out, all_not HEX.out HPT.out]; rfl, rfl⟩
    · obtain rfl : k = n := by omega
      go_wp2_with fail
      go_ret
      refine ⟨?_, rfl⟩
      have h := HA.out
      rw [List.take_of_length_le (by rw [HX.out.num]; exact Nat.le_refl _)] at h
      rw [HR.out, h]
      rfl

end Go.Proofs.YtkfhbnfoiicioaaGreatDoor

/- math.normalize, Frexp and Ldexp as bits.Split uses them: the walks -/
namespace Go.Proofs.YtkfhbnfoiicioaaGreatDoor
open Ieee Go.RowKit Go.Sort

theorem pos_num {g : Nat} (h : g < 9218868437227405312) : fnan g = false ∧ infB g = false ∧ (0 < g → feq g 0 = false) ∧ (4503599627370496 ≤ g → flt g 4503599627370496 = false) ∧ (g < 4503599627370496 → flt g 4503599627370496 = true) := by
  have hf : finB g = true := by unfold finB; exact decide_eq_true (by omega)
  have hn := (fk_fin hf).1
  have hk := fk_vr h
  have hn2 : fnan 4503599627370496 = false := by decide +kernel
  have hk2 : fk 4503599627370496 = (Vr 4503599627370496 : Int) := fk_vr (by decide)
  refine ⟨hn, ?_, fun h0 => ?_, fun h1 => ?_, fun h1 => ?_⟩
  · unfold infB; exact decide_eq_false (by omega)
  · have e := feq_iff g 0
    have hz := fk_zero
    cases hq : feq g 0
    · rfl
    · obtain ⟨_, _, h3⟩ := e.1 hq
      rw [hk, hz.2] at h3
      have h4 : Vr 0 < Vr g := Vr_lt h0
      rw [Vr_zero] at h4
      omega
  · cases hq : flt g 4503599627370496
    · rfl
    · obtain ⟨_, _, h3⟩ := (flt_iff ..).1 hq
      rw [hk, hk2] at h3
      have := Vr_le h1
      omega
  · refine (flt_iff ..).2 ⟨hn, hn2, ?_⟩
    rw [hk, hk2]
    have := Vr_lt h1
    omega
theorem rung_glue {L K : Nat} (h : 4503599627370496 ≤ K) : L * 2 ^ 52 + K = (L + 1) * 4503599627370496 + (K - 4503599627370496) := by omega
/-- what is below the normal ones, times 2^52 -/
theorem sub_up {g : Nat} (h0 : 0 < g) (h : g < 4503599627370496) : FloatKind.f64.format.mul g 4841369599423283200 = some ((g.log2 + 1) * 4503599627370496 + (g * 2 ^ (52 - g.log2) - 4503599627370496)) := by
  have hl : g.log2 ≤ 52 := log_lt (by omega) (by omega)
  have hb := kept_bounds (f := g) (by omega) (by omega)
  show double.mul g 4841369599423283200 = _
  unfold Format.mul
  have r1 : double.read g = .number false g (-1074) := by
    have h1 := read_word false g (-1074) (by omega) (by omega) (.inl rfl) (by
      have e3 : double.infRung = 9218868437227405312 := by decide
      rw [e3]; simp; omega)
    have e : double.word false (((-1074 : Int) + 1074).toNat * 2 ^ 52 + g) = g := by simp [Format.word]
    rwa [e] at h1
  have r2 : double.read 4841369599423283200 = .number false (2 ^ 52) 0 := by decide
  rw [r1, r2]
  simp only [Datum.product, Option.map_some, Format.write]
  obtain ⟨K, hK⟩ : ∃ K, K = g * 2 ^ (52 - g.log2) := ⟨_, rfl⟩
  have e1 : g * 2 ^ 52 = K * 2 ^ g.log2 := by rw [hK, Nat.mul_assoc, ← Nat.pow_add]; congr 2; omega
  have e2 : (-1074 : Int) + 0 = ((g.log2 : Int) - 1074) - (g.log2 : Nat) := by omega
  rw [← hK] at hb
  have hL := lastP_of (K := K) (q := (g.log2 : Int) - 1074) hb.2 (by omega) (by omega) (.inr hb.1)
  have hR := rungOf_of (K := K) (q := (g.log2 : Int) - 1074) hb.2 (by omega) (by omega) (.inr hb.1)
  have e3 : double.infRung = 9218868437227405312 := by decide
  have h5 := nearest_exact false K ((g.log2 : Int) - 1074) g.log2 (by omega) (by rw [hL]; exact Int.le_refl _) (by rw [hR, e3]; omega)
  have e6 : (false != false) = false := rfl
  rw [← hK]
  refine congrArg some ?_
  rw [e1, e2, show (false ^^ false) = false from rfl, h5, hR]
  have e7 : ((g.log2 : Int) - 1074 + 1074).toNat = g.log2 := by omega
  have e8 : double.word false (g.log2 * 2 ^ 52 + K) = g.log2 * 2 ^ 52 + K := rfl
  rw [e7, e8]
  exact rung_glue hb.1

set_option maxRecDepth 100000 in
set_option maxHeartbeats 4000000 in
theorem normalize_sub (g r : Nat) (w : World) (h0 : 0 < g) (h : g < 4503599627370496) (hr : FloatKind.f64.format.mul g 4841369599423283200 = some r) :
    Calls Tryz.prog 157 #[.float .f64 g] w fun e w' => e = .returned (.tuple #[.float .f64 r, .int .i64 (-52)]) ∧ w = w' := by
  have o1 : (FloatKind.f64.format.order g 4503599627370496 == some Ordering.lt) = true := (pos_num (g := g) (by omega)).2.2.2.2 h
  have b4 := fun w => run_float_arith (P := Tryz.prog) (w := w) BinOp.mul 22 FloatKind.f64 g 4841369599423283200 _ hr
  go_enter Tryz.func157, Tryz.ntmps157
  go_wp2_with fail
  refine (abs_f g w (by omega)).mono ?_
  rw [Nat.mod_eq_of_lt (show g < 9223372036854775808 by omega)]
  rintro e w' ⟨rfl, rfl⟩
  go_wp2_with fail
  go_ret2
  exact ⟨rfl, rfl⟩
theorem exp_bits {y E : Nat} (hy : y < 9223372036854775808) (hE : y / 4503599627370496 = E) : bits BinOp.and IntKind.u64 ((y : Int) / 4503599627370496) 2047 = (E : Int) := by
  have h := shr52_any (u := y) (by omega)
  rw [h]
  unfold expo
  rw [hE, Nat.mod_eq_of_lt (by omega)]

set_option maxRecDepth 100000 in
set_option maxHeartbeats 4000000 in
theorem frexp_w (g y E a : Nat) (x : Int) (w : World) (h0 : 0 < g) (h : g < 9218868437227405312) (hy : y < 9223372036854775808) (hE : y / 4503599627370496 = E) (ha : y % 4503599627370496 = a) (hx : -100 ≤ x) (hx2 : x ≤ 100)
    (hN : ∀ w, Calls Tryz.prog 157 #[.float .f64 g] w fun e w' => e = .returned (.tuple #[.float .f64 y, .int .i64 x]) ∧ w = w') :
    Calls Tryz.prog 141 #[.float .f64 g] w fun e w' => e = .returned (.tuple #[.float .f64 (1022 * 4503599627370496 + a), .int .i64 (x + (E - 1023 + 1))]) ∧ w = w' := by
  have hd := run_f64bits
  have hd2 := run_f64from
  obtain ⟨p1, p2, p3, _⟩ := pos_num h
  have o1 : (FloatKind.f64.format.order g 0 == some Ordering.eq) = false := p3 h0
  have I1 := Lib.hid (fun w => isinf_any g w (by omega))
  have I2 := Lib.hid (fun w => isnan_any g w)
  rw [p2] at I1
  rw [p1] at I2
  have HN := Lib.hid hN
  have b1 := exp_bits hy hE
  have b2 : bits BinOp.andNot IntKind.u64 (y : Int) 9218868437227405312 = (a : Int) := by rw [andNot_exp hy, ha]
  have ha52 : a < 4503599627370496 := by omega
  have b3 : bits BinOp.or IntKind.u64 (a : Int) 4602678819172646912 = ((1022 * 4503599627370496 + a : Nat) : Int) := or_exp ha52 (P := 1022) (by omega)
  have hE2 : E ≤ 2047 := by omega
  have w1 : IntKind.i64.wrap (E : Int) = (E : Int) := IntWalk.i64_in _ (by omega)
  obtain ⟨R, hR⟩ : ∃ R, R = 1022 * 4503599627370496 + a := ⟨_, rfl⟩
  rw [← hR] at b3 ⊢
  have eR : ((R : Nat) : Int).toNat = R := Int.toNat_natCast R
  clear hN hE ha p1 p2 p3 ha52 hR hy
  go_enter Tryz.func141, Tryz.ntmps141
  go_wp2_with fail
  refine (I1.out w).mono ?_
  rintro e w' ⟨rfl, rfl⟩
  go_wp2_with fail
  refine (I2.out w).mono ?_
  rintro e w' ⟨rfl, rfl⟩
  go_wp2_with fail
  refine (HN.out w).mono ?_
  rintro e w' ⟨rfl, rfl⟩
  go_wp2_with fail
  go_ret2
  exact ⟨rfl, rfl⟩

set_option maxRecDepth 100000 in
set_option maxHeartbeats 4000000 in
theorem Frexp_w (g F : Nat) (x : Int) (w : World) (hF : ∀ w, Calls Tryz.prog 141 #[.float .f64 g] w fun e w' => e = .returned (.tuple #[.float .f64 F, .int .i64 x]) ∧ w = w') :
    Calls Tryz.prog 117 #[.float .f64 g] w fun e w' => e = .returned (.tuple #[.float .f64 F, .int .i64 x]) ∧ w = w' := by
  have HF := Lib.hid hF
  clear hF
  go_enter Tryz.func117, Tryz.ntmps117
  go_wp2_with fail
  refine (HF.out w).mono ?_
  rintro e w' ⟨rfl, rfl⟩
  go_wp2_with fail
  go_ret2
  exact ⟨rfl, rfl⟩

set_option maxRecDepth 100000 in
set_option maxHeartbeats 4000000 in
theorem ldexp_half (a : Nat) (w : World) (ha : a < 4503599627370496) :
    Calls Tryz.prog 143 #[.float .f64 (1022 * 4503599627370496 + a), .int .i64 53] w fun e w' => e = .returned (.float .f64 (1075 * 4503599627370496 + a)) ∧ w = w' := by
  have hd := run_f64bits
  have hd2 := run_f64from
  obtain ⟨V, hV⟩ : ∃ V, V = 1022 * 4503599627370496 + a := ⟨_, rfl⟩
  obtain ⟨R, hR⟩ : ∃ R, R = 1075 * 4503599627370496 + a := ⟨_, rfl⟩
  have v0 : V < 9218868437227405312 := by omega
  have v1 : V < 9223372036854775808 := by omega
  obtain ⟨p1, p2, p3, p4, _⟩ := pos_num v0
  have o1 : (FloatKind.f64.format.order V 0 == some Ordering.eq) = false := p3 (by omega)
  have o2 : (FloatKind.f64.format.order V 4503599627370496 == some Ordering.lt) = false := p4 (by omega)
  have I1 := Lib.hid (fun w => isinf_any V w (by omega))
  have I2 := Lib.hid (fun w => isnan_any V w)
  rw [p2] at I1
  rw [p1] at I2
  have HN := Lib.hid (fun w => normalize_w V w v1 o2)
  have b0 : bits BinOp.and IntKind.i64 ((V : Int) / 4503599627370496) 2047 = ((1022 : Nat) : Int) := by
    rw [show (V : Int) / 4503599627370496 = ((1022 : Nat) : Int) by omega]
    exact and_exp (by omega)
  have b2 : bits BinOp.andNot IntKind.u64 (V : Int) 9218868437227405312 = (a : Int) := by rw [andNot_exp v1]; congr 1; omega
  have b3 : bits BinOp.or IntKind.u64 (a : Int) 4841369599423283200 = ((1075 * 4503599627370496 + a : Nat) : Int) := or_exp ha (P := 1075) (by omega)
  have e3 : double.infRung = 9218868437227405312 := by decide
  have hm : FloatKind.f64.format.mul 4607182418800017408 R = some R := by
    have h := mul_one (4503599627370496 + a) 0 (by omega) (by omega) (by omega) (.inr (by omega)) (by rw [e3]; omega)
    have e : ((0 : Int) + 1074).toNat * 2 ^ 52 + (4503599627370496 + a) = R := by rw [hR]; omega
    rw [e] at h
    exact h
  rw [← hR] at b3
  have b4 := fun w => run_float_arith (P := Tryz.prog) (w := w) BinOp.mul 22 FloatKind.f64 4607182418800017408 R _ hm
  rw [← hV, ← hR]
  clear hV hR p1 p2 p3 p4 ha hm v0 o2
  go_enter Tryz.func143, Tryz.ntmps143
  go_wp2_with fail
  refine (I1.out w).mono ?_
  rintro e w' ⟨rfl, rfl⟩
  go_wp2_with fail
  refine (I2.out w).mono ?_
  rintro e w' ⟨rfl, rfl⟩
  go_wp2_with fail
  refine (HN.out w).mono ?_
  rintro e w' ⟨rfl, rfl⟩
  go_wp2_with fail
  go_ret
  exact ⟨rfl, rfl⟩

set_option maxRecDepth 100000 in
set_option maxHeartbeats 4000000 in
theorem Ldexp_half (a : Nat) (w : World) (ha : a < 4503599627370496) :
    Calls Tryz.prog 118 #[.float .f64 (1022 * 4503599627370496 + a), .int .i64 53] w fun e w' => e = .returned (.float .f64 (1075 * 4503599627370496 + a)) ∧ w = w' := by
  have HC := Lib.hid (ldexp_half a w ha)
  generalize 1022 * 4503599627370496 + a = V at HC ⊢
  generalize 1075 * 4503599627370496 + a = R at HC ⊢
  clear ha
  go_enter Tryz.func118, Tryz.ntmps118
  go_wp2_with fail
  refine HC.out.mono ?_
  rintro e w' ⟨rfl, rfl⟩
  go_wp2_with fail
  go_ret
  exact ⟨rfl, rfl⟩
/-- a float of 2^52 to 2^53 as a whole number -/
theorem whole_u64 {a : Nat} (ha : a < 4503599627370496) : floatToIntVal .f64 (1075 * 4503599627370496 + a) .u64 = some ((4503599627370496 + a : Nat) : Int) := by
  have e3 : double.infRung = 9218868437227405312 := by decide
  have h := read_word false (4503599627370496 + a) 0 (by omega) (by omega) (.inr (by omega)) (by rw [e3]; omega)
  have e : double.word false (((0 : Int) + 1074).toNat * 2 ^ 52 + (4503599627370496 + a)) = 1075 * 4503599627370496 + a := by
    show ((0 : Int) + 1074).toNat * 2 ^ 52 + (4503599627370496 + a) = _
    omega
  rw [e] at h
  have h2 : FloatKind.f64.decode (1075 * 4503599627370496 + a) = .number false (4503599627370496 + a) 0 := h
  unfold floatToIntVal
  rw [h2]
  have h5 : (Datum.number false (4503599627370496 + a) 0).toInt .zero = some ((4503599627370496 + a : Nat) : Int) := by
    simp [Datum.toInt, Datum.integral, Toward.cut, signed]
  rw [h5]
  have h6 : IntKind.u64.min ≤ ((4503599627370496 + a : Nat) : Int) ∧ ((4503599627370496 + a : Nat) : Int) ≤ IntKind.u64.max := by
    have e1 : IntKind.u64.min = 0 := by decide
    have e2 : IntKind.u64.max = 18446744073709551615 := by decide
    rw [e1, e2]
    omega
  show (if IntKind.u64.min ≤ ((4503599627370496 + a : Nat) : Int) ∧ ((4503599627370496 + a : Nat) : Int) ≤ IntKind.u64.max then some ((4503599627370496 + a : Nat) : Int) else none) = _
  rw [if_pos h6]

end Go.Proofs.YtkfhbnfoiicioaaGreatDoor

/- bits.Kind, Split of a number that is not 0: the walks -/
namespace Go.Proofs.YtkfhbnfoiicioaaGreatDoor
open Ieee Go.RowKit Go.Sort

set_option maxRecDepth 100000 in
set_option maxHeartbeats 4000000 in
theorem kind_fin (u g : Nat) (w : World) (hu : u < 18446744073709551616) (hg : g = u % 9223372036854775808) (h0 : 0 < g) (h : g < 9218868437227405312) :
    Calls Tryz.prog 116 #[.float .f64 u] w fun e w' => (∃ k : Nat, e = .returned (.int .i64 k) ∧ k ≤ 2) ∧ w = w' := by
  have hf : finB u = true := by unfold finB; exact decide_eq_true (by omega)
  have hn : fnan u = false := (fk_fin hf).1
  have hi : infB u = false := by unfold infB; exact decide_eq_false (by omega)
  have o1 : (FloatKind.f64.format.order u u != some Ordering.eq) = false := by
    have h1 := feq_self u
    rw [hn] at h1
    unfold feq at h1
    rw [bne, h1]
    rfl
  have I1 := Lib.hid (fun w => isinf_any u w hu)
  rw [hi] at I1
  have A1 := Lib.hid (fun w => abs_f u w hu)
  rw [← hg] at A1
  obtain ⟨p1, p2, p3, p4, p5⟩ := pos_num h
  have hk := fk_vr h
  have hk2 : fk 4503599627370496 = (Vr 4503599627370496 : Int) := fk_vr (by decide)
  have hn2 : fnan 4503599627370496 = false := by decide +kernel
  have hz := fk_zero
  by_cases hs : 4503599627370496 ≤ g
  · have o2 : (FloatKind.f64.format.order g 4503599627370496 == some .gt || FloatKind.f64.format.order g 4503599627370496 == some .eq) = true := by
      rcases Nat.lt_or_eq_of_le hs with h1 | h1
      · have : fgt g 4503599627370496 = true := (fgt_iff ..).2 ⟨p1, hn2, by rw [hk, hk2]; have := Vr_lt h1; omega⟩
        unfold fgt at this
        rw [this]; rfl
      · have : feq g 4503599627370496 = true := (feq_iff ..).2 ⟨p1, hn2, by rw [← h1]⟩
        unfold feq at this
        rw [this, Bool.or_true]
    clear hg hf hn hi p1 p2 p3 p4 p5 hk hk2 hn2 hz
    go_enter Tryz.func116, Tryz.ntmps116
    go_wp2_with fail
    refine (A1.out w).mono ?_
    rintro e w' ⟨rfl, rfl⟩
    go_wp2_with fail
    refine (I1.out w).mono ?_
    rintro e w' ⟨rfl, rfl⟩
    go_wp2_with fail
    go_ret
    exact ⟨⟨2, rfl, by omega⟩, rfl⟩
  · have o2 : (FloatKind.f64.format.order g 4503599627370496 == some .gt || FloatKind.f64.format.order g 4503599627370496 == some .eq) = false := by
      have h1 : Vr g < Vr 4503599627370496 := Vr_lt (by omega)
      have e1 : fgt g 4503599627370496 = false := by
        cases hq : fgt g 4503599627370496
        · rfl
        · have := ((fgt_iff ..).1 hq).2.2; rw [hk, hk2] at this; omega
      have e2 : feq g 4503599627370496 = false := by
        cases hq : feq g 4503599627370496
        · rfl
        · have := ((feq_iff ..).1 hq).2.2; rw [hk, hk2] at this; omega
      unfold fgt at e1
      unfold feq at e2
      rw [e1, e2]; rfl
    have o3 : (FloatKind.f64.format.order g 0 == some .gt) = true := by
      refine (fgt_iff g 0).2 ⟨p1, hz.1, ?_⟩
      rw [hk, hz.2]
      have h4 : Vr 0 < Vr g := Vr_lt h0
      rw [Vr_zero] at h4
      omega
    clear hg hf hn hi p1 p2 p3 p4 p5 hk hk2 hn2 hz
    go_enter Tryz.func116, Tryz.ntmps116
    go_wp2_with fail
    refine (A1.out w).mono ?_
    rintro e w' ⟨rfl, rfl⟩
    go_wp2_with fail
    refine (I1.out w).mono ?_
    rintro e w' ⟨rfl, rfl⟩
    go_wp2_with fail
    go_ret
    exact ⟨⟨1, rfl, by omega⟩, rfl⟩

theorem ctz_parts {x : Nat} (h0 : x ≠ 0) (h : x < 2 ^ 64) : x / 2 ^ Lib.ctz 64 x % 2 = 1 ∧ x / 2 ^ Lib.ctz 64 x * 2 ^ Lib.ctz 64 x = x ∧ Lib.ctz 64 x < 64 := by
  obtain ⟨m, hm, hk⟩ := Lib.ctzFrom_spec 64 x (by omega) h
  have e : Lib.ctz 64 x = Lib.ctzFrom 64 x := by simp [Lib.ctz, h0]
  rw [e]
  obtain ⟨k, hk'⟩ : ∃ k, k = Lib.ctzFrom 64 x := ⟨_, rfl⟩
  rw [← hk'] at hm hk ⊢
  have hp : 0 < 2 ^ k := Nat.pow_pos (by decide)
  have e2 : x / 2 ^ k = 2 * m + 1 := by rw [hm]; exact Nat.mul_div_cancel_left _ hp
  rw [e2]
  refine ⟨by omega, ?_, hk⟩
  rw [hm, Nat.mul_comm]
/-- what Frexp tells -/
structure FrexpOf (g a : Nat) (x : Int) : Prop where
  lt : a < 4503599627370496
  lo : -1200 ≤ x
  hi : x ≤ 1100
  val : ∀ n f : Nat, 4503599627370496 + a = f * 2 ^ n → f % 2 = 1 → -1074 ≤ x - 53 + n ∧ x - 53 + n ≤ 1023 ∧ Vr g = f * 2 ^ (x - 53 + n + 1074).toNat
  call : ∀ w, Calls Tryz.prog 117 #[.float .f64 g] w fun e w' => e = .returned (.tuple #[.float .f64 (1022 * 4503599627370496 + a), .int .i64 x]) ∧ w = w'
theorem pow_odd {f n m k : Nat} (h : f * 2 ^ n = m * 2 ^ k) (ho : f % 2 = 1) : k ≤ n := by
  by_cases hk : k ≤ n
  · exact hk
  · exfalso
    obtain ⟨d, rfl⟩ : ∃ d, k = n + (d + 1) := ⟨k - n - 1, by omega⟩
    rw [Nat.pow_add, ← Nat.mul_assoc, Nat.mul_right_comm] at h
    have h2 := Nat.eq_of_mul_eq_mul_right (Nat.pow_pos (by decide)) h
    rw [h2, Nat.pow_succ, ← Nat.mul_assoc, Nat.mul_mod_left] at ho
    cases ho
theorem frexp_fin (g : Nat) (h0 : 0 < g) (h : g < 9218868437227405312) : ∃ a x, FrexpOf g a x := by
  by_cases hs : g < 4503599627370496
  · have hl : g.log2 ≤ 52 := log_lt (by omega) (by omega)
    have hb := kept_bounds (f := g) (by omega) (by omega)
    have hsub := sub_up h0 hs
    obtain ⟨L, hL⟩ : ∃ L, L = g.log2 := ⟨_, rfl⟩
    obtain ⟨K, hK⟩ : ∃ K, K = g * 2 ^ (52 - L) := ⟨_, rfl⟩
    rw [← hL] at hl hb hsub
    rw [← hK] at hb hsub
    have hVg : Vr g = g := by unfold Vr; rw [if_pos hs]
    refine ⟨K - 4503599627370496, -52 + (((L + 1 : Nat) : Int) - 1023 + 1), ⟨by omega, by omega, by omega, fun n f hf ho => ?_, ?_⟩⟩
    · have e : 4503599627370496 + (K - 4503599627370496) = K := by omega
      rw [e, hK] at hf
      have hn := pow_odd hf.symm ho
      obtain ⟨d, rfl⟩ : ∃ d, n = (52 - L) + d := ⟨n - (52 - L), by omega⟩
      rw [Nat.pow_add, Nat.mul_comm (2 ^ (52 - L)) (2 ^ d), ← Nat.mul_assoc] at hf
      have h2 := Nat.eq_of_mul_eq_mul_right (Nat.pow_pos (by decide)) hf
      have e2 : (-52 + (((L + 1 : Nat) : Int) - 1023 + 1) - 53 + ((52 - L + d : Nat) : Int) + 1074).toNat = d := by omega
      have hd : 2 ^ d ≤ g := by
        rw [h2]
        have hf1 : 1 ≤ f := by omega
        calc 2 ^ d = 1 * 2 ^ d := by rw [Nat.one_mul]
          _ ≤ f * 2 ^ d := Nat.mul_le_mul_right _ hf1
      have hd2 : d < 52 := (Nat.pow_lt_pow_iff_right (a := 2) (by decide)).1 (Nat.lt_of_le_of_lt hd hs)
      refine ⟨by omega, by omega, ?_⟩
      rw [e2, hVg]
      exact h2
    · intro w
      exact Frexp_w g _ _ w fun w => frexp_w g ((L + 1) * 4503599627370496 + (K - 4503599627370496)) (L + 1) (K - 4503599627370496) (-52) w h0 h (by omega) (by omega) (by omega) (by omega) (by omega) fun w => normalize_sub g _ w h0 hs hsub
  · have hE : g / 4503599627370496 ≤ 2046 := by omega
    have hE1 : 1 ≤ g / 4503599627370496 := by omega
    obtain ⟨E, hEE⟩ : ∃ E, E = g / 4503599627370496 := ⟨_, rfl⟩
    obtain ⟨a, ha⟩ : ∃ a, a = g % 4503599627370496 := ⟨_, rfl⟩
    have hV : Vr g = (4503599627370496 + a) * 2 ^ (E - 1) := by unfold Vr; rw [if_neg hs, ha, hEE]
    refine ⟨a, 0 + ((E : Int) - 1023 + 1), ⟨by omega, by omega, by omega, fun n f hf ho => ?_, ?_⟩⟩
    · have hn : 2 ^ n < 2 ^ 53 := by
        have hf1 : 1 ≤ f := by omega
        have h1 : 2 ^ n ≤ f * 2 ^ n := by
          calc 2 ^ n = 1 * 2 ^ n := by rw [Nat.one_mul]
            _ ≤ f * 2 ^ n := Nat.mul_le_mul_right _ hf1
        rw [← hf] at h1
        omega
      have hn2 : n < 53 := (Nat.pow_lt_pow_iff_right (a := 2) (by decide)).1 hn
      have e2 : (0 + ((E : Int) - 1023 + 1) - 53 + (n : Int) + 1074).toNat = n + (E - 1) := by omega
      refine ⟨by omega, by omega, ?_⟩
      rw [e2, hV, hf, Nat.pow_add, Nat.mul_assoc]
    · intro w
      exact Frexp_w g _ _ w fun w => frexp_w g g E a 0 w h0 h (by omega) hEE.symm ha.symm (by omega) (by omega) fun w => normalize_w g w (by omega) ((pos_num h).2.2.2.1 (by omega))

set_option maxRecDepth 100000 in
set_option maxHeartbeats 8000000 in
theorem split_fin (u g : Nat) (w : World) (hu : u < 18446744073709551616) (hg : g = u % 9223372036854775808) (h0 : 0 < g) (h : g < 9218868437227405312) (hL : Laid w) :
    Calls Tryz.prog 97 #[.float .f64 u] w fun e w' => ∃ (f : Nat) (x : Int), e = .returned (.tuple #[.agg #[.bool (sgbB u), .int .u64 (f : Int), .int .i64 x], .bool true]) ∧ f % 2 = 1 ∧ f < 9007199254740992 ∧ -1074 ≤ x ∧ x ≤ 1023 ∧ Vr g = f * 2 ^ (x + 1074).toNat ∧ Below w.heap.size w w' := by
  have I1 := Lib.hid (fun w => kind_fin u g w hu hg h0 h)
  have I2 := Lib.hid (fun w => signbit_any u w hu)
  have A1 := Lib.hid (fun w => abs_f u w hu)
  rw [← hg] at A1
  have hf : finB u = true := by unfold finB; exact decide_eq_true (by omega)
  have hz : (FloatKind.f64.format.order u 0 == some Ordering.eq) = false := by
    have h1 := feq_zero hu
    have h2 : feq u 0 = false := by rw [h1]; exact decide_eq_false (by omega)
    exact h2
  obtain ⟨a, x, hF⟩ := frexp_fin g h0 h
  have I3 := Lib.hid hF.call
  have I4 := Lib.hid (fun w => Ldexp_half a w hF.lt)
  have hc := fun w => run_convert_float_int (P := Tryz.prog) (w := w) 22 58 .f64 .u64 (1075 * 4503599627370496 + a) _ (by kernel_rfl) (by kernel_rfl) (whole_u64 hF.lt)
  obtain ⟨M, hM⟩ : ∃ M, M = 4503599627370496 + a := ⟨_, rfl⟩
  have hlt := hF.lt
  have hM0 : M ≠ 0 := by omega
  have hM1 : M < 18446744073709551616 := by omega
  have hML : M < 9007199254740992 := by omega
  have hx1 := hF.lo
  have hx2 := hF.hi
  rw [← hM] at hc
  have I5 := Lib.hid (fun w hL => tz64 M w hM1 hM0 hL)
  obtain ⟨c1, c2, c3⟩ := ctz_parts hM0 (by omega)
  obtain ⟨n, hn⟩ : ∃ n, n = Lib.ctz 64 M := ⟨_, rfl⟩
  rw [← hn] at c1 c2 c3 I5
  obtain ⟨f, hff⟩ : ∃ f, f = M / 2 ^ n := ⟨_, rfl⟩
  rw [← hff] at c1 c2
  have hv := hF.val n f (by rw [← hM]; exact c2.symm) c1
  have hfl : f ≤ M := by rw [hff]; exact Nat.div_le_self ..
  have HV := Lib.hid hv
  have HFF := Lib.hid hff
  have HC1 := Lib.hid c1
  have hsh : IntKind.u64.wrap ((M : Int) / ((2 ^ n : Nat) : Int)) = (f : Int) := by rw [IntKind.wrap_u64, hff]; omega
  generalize 1022 * 4503599627370496 + a = F1 at I3 I4
  generalize 1075 * 4503599627370496 + a = F2 at I4 hc
  have HL := Lib.hid hL
  clear hg hf hF hM hlt hM0 hn c1 c2 hff hv hL
  go_enter Tryz.func97, Tryz.ntmps97
  go_wp2_with fail
  refine (I1.out _).mono ?_
  rintro e w1 ⟨⟨k, rfl, hk⟩, rfl⟩
  have hk2 : decide ((2 : Int) < (k : Int)) = false := decide_eq_false (by omega)
  go_wp2_with fail
  refine (I2.out _).mono ?_
  rintro e w1 ⟨rfl, rfl⟩
  go_wp2_with fail
  refine (A1.out _).mono ?_
  rintro e w1 ⟨rfl, rfl⟩
  go_wp2_with fail
  refine (I3.out _).mono ?_
  rintro e w1 ⟨rfl, rfl⟩
  go_wp2_with fail
  refine (I4.out _).mono ?_
  rintro e w1 ⟨rfl, rfl⟩
  go_wp2_with fail
  refine (I5.out _ (HL.out.below (below2 ..))).mono ?_
  rintro e w1 ⟨rfl, rfl⟩
  go_wp2_with fail
  have e0 : (M : Int) / 2 ^ n = (f : Int) := by rw [HFF.out]; simp
  simp only [e0]
  refine bodyPost_ret (v := .tuple #[.agg #[.bool (sgbB u), .int .u64 (f : Int), .int .i64 (x - 53 + n)], .bool true]) (by simp [results, Tryz.results97, go_sem]; done) rfl ?_
  exact ⟨f, x - 53 + n, rfl, HC1.out, by omega, HV.out.1, HV.out.2.1, HV.out.2.2, below2 ..⟩

end Go.Proofs.YtkfhbnfoiicioaaGreatDoor

/- math.Copysign; math.Ldexp, bits.Join of any parts: the walks -/
namespace Go.Proofs.YtkfhbnfoiicioaaGreatDoor
open Go.RowKit Go.Sort
end Go.Proofs.YtkfhbnfoiicioaaGreatDoor

/- dyad.Round of what was made right; ratio.Round of any right ratio -/
namespace Go.Proofs.YtkfhbnfoiicioaaGreatDoor
open Go.RowKit Go.Sort
theorem right_lim (neg : Bool) {m : Nat} {x : Int} (ho : m % 2 = 1) (hl : blen m ≤ 16384) (h1 : -65536 ≤ x) (h2 : x ≤ 65536) : RightD ⟨neg, lim m, x⟩ := by
  have h0 : m ≠ 0 := by omega
  have hb := blen_pos h0
  refine ⟨⟨?_, ?_⟩, ?_, ?_, h1, h2⟩
  · show 0 < (lim m).length
    rw [lim_len]; omega
  · show (lim m).length ≤ 256
    rw [lim_len]; omega
  · intro y hy
    have hne := lim_pos h0
    have h := (lim_isLim m).2 hne
    have e : (lim m)[(lim m).length - 1]? = some ((lim m).getLast hne) := by
      rw [List.getLast_eq_getElem]
      exact List.getElem?_eq_getElem _
    have hy' : (lim m)[(lim m).length - 1]? = some y := hy
    rw [e] at hy'
    injection hy' with hy'
    rw [← hy']; exact h
  · intro y hy
    have hy' : (lim m)[0]? = some y := hy
    rw [lim_succ h0] at hy'
    injection hy' with hy'
    rw [← hy']
    unfold W64; omega
end Go.Proofs.YtkfhbnfoiicioaaGreatDoor

/- dyad.Of, both, Mul, Sign and round.of, times: the walks -/
namespace Go.Proofs.YtkfhbnfoiicioaaGreatDoor
open Ieee Go.RowKit Go.Sort

theorem dy_limbs {w w' : World} {g : Nat} {b0 s : Bool} {A d1 : Option Addr} {n c n1 c1 : Nat} {m x : Int} (k0 : w.cell? ⟨g, 0, none⟩ = some (.bool b0)) (k1 : w.cell? ⟨g, 1, none⟩ = some (.slice A n c)) (k2 : w.cell? ⟨g, 2, none⟩ = some (.int .i64 m))
    (hw : w' = ((w.setCell ⟨g, 0, none⟩ (.bool s)).setCell ⟨g, 1, none⟩ (.slice d1 n1 c1)).setCell ⟨g, 2, none⟩ (.int .i64 x)) {S : Nat → Prop} {B : Option Addr} {k : Nat} {xs : List Nat} (hr : RdE Lc 1 w S B k xs) : RdE Lc 1 w' S B k xs :=
  ⟨rd_keep_cells hr.rd fun b o v hv hc => by
    obtain ⟨y, _, hy⟩ := List.mem_flatMap.1 hv
    simp [Lc] at hy
    subst hy
    subst hw
    by_cases e : b = g
    · subst e
      have e0 : o ≠ 0 := fun h => by subst h; rw [k0] at hc; cases hc
      have e1 : o ≠ 1 := fun h => by subst h; rw [k1] at hc; cases hc
      have e2 : o ≠ 2 := fun h => by subst h; rw [k2] at hc; cases hc
      simp [go_sem, e0, e1, e2, hc]
    · refine (World.cell?_of_block (a := ⟨b, o, none⟩) ?_).trans hc
      rw [Below.heap_setCell _ _ _ _ e, Below.heap_setCell _ _ _ _ e, Below.heap_setCell _ _ _ _ e], hr.num⟩
/-- a dyad is written into a cell -/
theorem dy_out {W : World} {g n c : Nat} {b0 : Bool} {A : Option Addr} {m : Int} {t : TypeId} (hb : W.heap[g]? = some (.cells #[.bool b0, .slice A n c, .int .i64 m] t (0, 0))) {d : DV} {A2 : Option Addr} {n2 c2 : Nat} (hd : DAt W (.agg #[.bool d.neg, .slice A2 n2 c2, .int .i64 d.exp]) d) :
    ∀ w', w' = ((W.setCell ⟨g, 0, none⟩ (.bool d.neg)).setCell ⟨g, 1, none⟩ (.slice A2 n2 c2)).setCell ⟨g, 2, none⟩ (.int .i64 d.exp) →
      DAt w' (.agg #[.bool d.neg, .slice A2 n2 c2, .int .i64 d.exp]) d ∧ (∀ B, B ≤ g → Below B W w') ∧ w'.cell? ⟨g, 0, none⟩ = some (.bool d.neg) ∧ w'.cell? ⟨g, 1, none⟩ = some (.slice A2 n2 c2) ∧ w'.cell? ⟨g, 2, none⟩ = some (.int .i64 d.exp) := by
  intro w' hw
  obtain ⟨kc, _⟩ := blk_cells hb
  have kc0 := kc 0
  have kc1 := kc 1
  have kc2 := kc 2
  simp only [List.getElem?_toArray, List.getElem?_cons_zero, List.getElem?_cons_succ] at kc0 kc1 kc2
  obtain ⟨hb6, hk6, hs6, q0, q1, q2⟩ := dy_set kc0 kc1 kc2 _ _ _ _ _ _ hw
  obtain ⟨A3, n3, c3, e3, hr3, hl3⟩ := hd
  simp only [Value.agg.injEq, Array.mk.injEq, List.cons.injEq, Value.slice.injEq, and_true, true_and] at e3
  obtain ⟨rfl, rfl, rfl⟩ := e3
  exact ⟨⟨A2, n2, c2, rfl, (dy_limbs kc0 kc1 kc2 hw hr3).imp (fun d h => by rw [hs6]; exact h), hl3⟩, hb6, q0, q1, q2⟩
theorem DAt.below {w w' : World} {v : Value} {d : DV} (h : DAt w v d) (hb : Below w.heap.size w w') : DAt w' v d := by
  obtain ⟨A, n, c, e, hr, hl⟩ := h
  exact ⟨A, n, c, e, (hr.keep (Keeps.below hb (fun b h => h))).imp (fun d h => Nat.lt_of_lt_of_le h hb.size), hl⟩
/-- the float u, not 0, is (f times 2^x) -/
structure FD (u f : Nat) (x : Int) : Prop where
  odd : f % 2 = 1
  lt : f < 9007199254740992
  lo : -1074 ≤ x
  hi : x ≤ 1023
  val : Vr (u % 9223372036854775808) = f * 2 ^ (x + 1074).toNat
theorem FD.right {u f : Nat} {x : Int} (h : FD u f x) (s : Bool) : RightD ⟨s, [f], x⟩ := by
  have h1 := h.odd
  have h2 := h.lo
  have h3 := h.hi
  exact ⟨⟨by simp, by simp⟩, by intro y hy; simp at hy; omega, by intro y hy; simp at hy; omega, by simp only; omega, by simp only; omega⟩

set_option maxRecDepth 100000 in
set_option maxHeartbeats 8000000 in
theorem of_dyad (u : Nat) (w : World) (hu : u < 18446744073709551616) (h0 : 0 < u % 9223372036854775808) (h : u % 9223372036854775808 < 9218868437227405312) (hL : Laid w) :
    Calls Tryz.prog 83 #[.float .f64 u] w fun e w' => ∃ (v : Value) (f : Nat) (x : Int), e = .returned (.tuple #[v, .int .i64 0]) ∧ FD u f x ∧ DAt w' v ⟨sgbB u, [f], x⟩ ∧ Below w.heap.size w w' := by
  obtain ⟨w0, hw0⟩ : ∃ w0, w0 = w.alloc (.cells #[.bool false, .slice none 0 0, .int .i64 0] 78) := ⟨_, rfl⟩
  have g0 : w0.heap[w.heap.size]? = some (.cells #[.bool false, .slice none 0 0, .int .i64 0] 78 (0, 0)) := by rw [hw0]; exact blk_new ..
  have hb0 : Below w.heap.size w w0 := by rw [hw0]; exact below1 ..
  have z0 : w0.heap.size = w.heap.size + 1 := by rw [hw0]; simp
  have I1 := Lib.hid (split_fin u _ w0 hu rfl h0 h (hL.below hb0))
  have HW0 := Lib.hid hw0
  have HG0 := Lib.hid g0
  have HB0 := Lib.hid hb0
  obtain ⟨s, hs⟩ : ∃ s, s = sgbB u := ⟨_, rfl⟩
  rw [← hs] at I1 ⊢
  clear hL h0 h hw0 g0 hb0 hs
  go_enter Tryz.func83, Tryz.ntmps83
  go_wp2_with fail
  rw [← HW0.out]
  refine I1.out.mono ?_
  rintro e w1 ⟨f, x, rfl, f1, f2, f3, f4, f5, hb1⟩
  have hz1 := hb1.size
  have hfd : FD u f x := ⟨f1, f2, f3, f4, f5⟩
  have HFD := Lib.hid hfd
  have hf0 : ((f : Int) == 0) = false := by simp; omega
  go_upto_region 6 with fail
  obtain ⟨w2, hw2⟩ : ∃ w2, w2 = w1.alloc (.cells #[.bool s, .int .u64 (f : Int), .int .i64 x] 110) := ⟨_, rfl⟩
  have g2 : w2.heap[w1.heap.size]? = some (.cells #[.bool s, .int .u64 (f : Int), .int .i64 x] 110 (0, 0)) := by rw [hw2]; exact blk_new ..
  have b2 : Below w1.heap.size w1 w2 := by rw [hw2]; exact below1 ..
  have z2 : w2.heap.size = w1.heap.size + 1 := by rw [hw2]; simp
  have g2o : w2.heap[w.heap.size]? = some (.cells #[.bool false, .slice none 0 0, .int .i64 0] 78 (0, 0)) := (b2.block _ (by omega)).trans ((hb1.block _ (by omega)).trans HG0.out)
  rw [← hw2]
  obtain ⟨pc, _⟩ := blk_cells g2
  have p0 := pc 0
  have p1 := pc 1
  have p2 := pc 2
  simp only [List.getElem?_toArray, List.getElem?_cons_zero, List.getElem?_cons_succ] at p0 p1 p2
  obtain ⟨W, hW⟩ : ∃ W, W = w2.alloc (.cells #[.int .u64 (f : Int)] 58) := ⟨_, rfl⟩
  have gW : W.heap[w.heap.size]? = some (.cells #[.bool false, .slice none 0 0, .int .i64 0] 78 (0, 0)) := by rw [hW]; exact blk_old g2o _
  have hBW : Below w.heap.size w W := HB0.out.trans ((hb1.mono (by omega)).trans ((b2.mono (by omega)).trans (by rw [hW]; exact (below1 ..).mono (by omega))))
  have hd : DAt W (.agg #[.bool s, .slice (some ⟨w2.heap.size, 0, none⟩) 1 1, .int .i64 x]) ⟨s, [f], x⟩ := by
    refine ⟨_, 1, 1, rfl, ?_, fun y hy => ?_⟩
    · rw [hW]
      exact rde_blk (blk_new ..) rfl (by simp) rfl rfl
    · have e : W64 = 18446744073709551616 := rfl
      simp at hy
      rw [hy, e]
      omega
  obtain ⟨kc, kf⟩ := blk_cells gW
  have kf0 := kf 0
  have kf1 := kf 1
  have kf2 := kf 2
  have HG := Lib.hid gW
  have HBW := Lib.hid hBW
  have HD := Lib.hid hd
  have HW := Lib.hid hW
  have kc0 := kc 0
  have kc1 := kc 1
  have kc2 := kc 2
  simp only [List.getElem?_toArray, List.getElem?_cons_zero, List.getElem?_cons_succ] at kc0 kc1 kc2
  rw [hW] at kf0 kf1 kf2 kc0 kc1 kc2
  have p2' : (w2.alloc (.cells #[.int .u64 (f : Int)] 58)).cell? ⟨w1.heap.size, 2, none⟩ = some (.int .i64 x) := bat (below1 ..) p2
  clear f1 f2 f3 f4 f5 hb1 hfd gW hBW hd kc kf hW z0 z2 g2 g2o b2 pc hw2
  go_wp2_with fail
  rw [← HW.out]
  obtain ⟨w6, hw6⟩ : ∃ w6, w6 = ((W.setCell ⟨w.heap.size, 0, none⟩ (.bool s)).setCell ⟨w.heap.size, 1, none⟩ (.slice (some ⟨w2.heap.size, 0, none⟩) 1 1)).setCell ⟨w.heap.size, 2, none⟩ (.int .i64 x) := ⟨_, rfl⟩
  obtain ⟨hD6, hB6, q0, q1, q2⟩ := dy_out (d := ⟨s, [f], x⟩) HG.out HD.out w6 hw6
  simp only at hD6 q0 q1 q2
  have hb6 := HBW.out.trans (hB6 w.heap.size (Nat.le_refl _))
  rw [← hw6]
  (try simp only [Exit.inBlock, Exit.then])
  refine bodyPost_ret (v := .tuple #[.agg #[.bool s, .slice (some ⟨w2.heap.size, 0, none⟩) 1 1, .int .i64 x], .int .i64 0]) (by simp [results, Tryz.results83, go_sem, q0, q1, q2]; done) rfl ?_
  exact ⟨_, f, x, rfl, HFD.out, hD6, hb6⟩

set_option maxRecDepth 100000 in
set_option maxHeartbeats 8000000 in
theorem of_round (u : Nat) (w : World) (hu : u < 18446744073709551616) (h0 : 0 < u % 9223372036854775808) (h : u % 9223372036854775808 < 9218868437227405312) (hL : Laid w) :
    Calls Tryz.prog 63 #[.float .f64 u] w fun e w' => ∃ (v : Value) (f : Nat) (x : Int), e = .returned v ∧ FD u f x ∧ DAt w' v ⟨sgbB u, [f], x⟩ ∧ Below w.heap.size w w' := by
  obtain ⟨w0, hw0⟩ : ∃ w0, w0 = w.alloc (.cells #[.bool false, .slice none 0 0, .int .i64 0] 78) := ⟨_, rfl⟩
  have g0 : w0.heap[w.heap.size]? = some (.cells #[.bool false, .slice none 0 0, .int .i64 0] 78 (0, 0)) := by rw [hw0]; exact blk_new ..
  have hb0 : Below w.heap.size w w0 := by rw [hw0]; exact below1 ..
  have z0 : w0.heap.size = w.heap.size + 1 := by rw [hw0]; simp
  have I1 := Lib.hid (of_dyad u w0 hu h0 h (hL.below hb0))
  have HW0 := Lib.hid hw0
  have HG0 := Lib.hid g0
  have HB0 := Lib.hid hb0
  obtain ⟨s, hs⟩ : ∃ s, s = sgbB u := ⟨_, rfl⟩
  rw [← hs] at I1 ⊢
  clear hL h0 h hw0 g0 hb0 hs
  go_enter Tryz.func63, Tryz.ntmps63
  go_wp2_with fail
  rw [← HW0.out]
  refine I1.out.mono ?_
  rintro e w1 ⟨v, f, x, rfl, hfd, hd1, hb1⟩
  have hz1 := hb1.size
  have HFD := Lib.hid hfd
  have HD1 := Lib.hid hd1
  obtain ⟨A2, n2, c2, rfl, _, _⟩ := hd1
  obtain ⟨W, hW⟩ : ∃ W, W = w1.alloc (.cells #[.bool s, .slice A2 n2 c2, .int .i64 x] 78) := ⟨_, rfl⟩
  have gW : W.heap[w.heap.size]? = some (.cells #[.bool false, .slice none 0 0, .int .i64 0] 78 (0, 0)) := by rw [hW]; exact blk_old ((hb1.block _ (by omega)).trans HG0.out) _
  have hBW : Below w.heap.size w W := HB0.out.trans ((hb1.mono (by omega)).trans (by rw [hW]; exact (below1 ..).mono (by omega)))
  have hd : DAt W (.agg #[.bool s, .slice A2 n2 c2, .int .i64 x]) ⟨s, [f], x⟩ := by rw [hW]; exact HD1.out.below (below1 ..)
  obtain ⟨kc, kf⟩ := blk_cells gW
  have kf0 := kf 0
  have kf1 := kf 1
  have kf2 := kf 2
  have HG := Lib.hid gW
  have HBW := Lib.hid hBW
  have HD := Lib.hid hd
  have HW := Lib.hid hW
  have kc0 := kc 0
  have kc1 := kc 1
  have kc2 := kc 2
  simp only [List.getElem?_toArray, List.getElem?_cons_zero, List.getElem?_cons_succ] at kc0 kc1 kc2
  rw [hW] at kf0 kf1 kf2 kc0 kc1 kc2
  clear hb1 hfd gW hBW hd kc kf hW z0
  go_wp2_with fail
  rw [← HW.out]
  obtain ⟨w6, hw6⟩ : ∃ w6, w6 = ((W.setCell ⟨w.heap.size, 0, none⟩ (.bool s)).setCell ⟨w.heap.size, 1, none⟩ (.slice A2 n2 c2)).setCell ⟨w.heap.size, 2, none⟩ (.int .i64 x) := ⟨_, rfl⟩
  obtain ⟨hD6, hB6, q0, q1, q2⟩ := dy_out (d := ⟨s, [f], x⟩) HG.out HD.out w6 hw6
  simp only at hD6 q0 q1 q2
  have hb6 := HBW.out.trans (hB6 w.heap.size (Nat.le_refl _))
  rw [← hw6]
  (try simp only [Exit.inBlock, Exit.then])
  refine bodyPost_ret (v := .agg #[.bool s, .slice A2 n2 c2, .int .i64 x]) (by simp [results, Tryz.results63, go_sem, q0, q1, q2]; done) rfl ?_
  exact ⟨_, f, x, rfl, HFD.out, hD6, hb6⟩

end Go.Proofs.YtkfhbnfoiicioaaGreatDoor

/- the dyad of nought: bits.Kind, Split, dyad.Of, Right, round.of of nought: the walks -/
namespace Go.Proofs.YtkfhbnfoiicioaaGreatDoor
open Ieee Go.RowKit Go.Sort

theorem cells3 {w : World} {g : Nat} {x y z : Value} {t : TypeId} (h : w.heap[g]? = some (.cells #[x, y, z] t (0, 0))) : w.cell? ⟨g, 0, none⟩ = some x ∧ w.cell? ⟨g, 1, none⟩ = some y ∧ w.cell? ⟨g, 2, none⟩ = some z ∧ w.frozen? ⟨g, 0, none⟩ = false ∧ w.frozen? ⟨g, 1, none⟩ = false ∧ w.frozen? ⟨g, 2, none⟩ = false := by
  obtain ⟨kc, kf⟩ := blk_cells h
  have kc0 := kc 0
  have kc1 := kc 1
  have kc2 := kc 2
  simp only [List.getElem?_toArray, List.getElem?_cons_zero, List.getElem?_cons_succ] at kc0 kc1 kc2
  exact ⟨kc0, kc1, kc2, kf 0, kf 1, kf 2⟩

def zD : DV := ⟨false, [], 0⟩
theorem zD_at (w : World) : DAt w (.agg #[.bool false, .slice none 0 0, .int .i64 0]) zD :=
  ⟨none, 0, 0, rfl, RdE.nil .., fun _ h => by simp [zD] at h⟩
/-- a right dyad, or nought -/
def RZ (d : DV) : Prop := RightD d ∨ d = zD
theorem zero_two {u : Nat} (hu : u < 18446744073709551616) (h0 : u % 9223372036854775808 = 0) : u = 0 ∨ u = 9223372036854775808 := by omega

set_option maxRecDepth 100000 in
set_option maxHeartbeats 4000000 in
theorem kind_zero (u : Nat) (w : World) (hu : u < 18446744073709551616) (h0 : u % 9223372036854775808 = 0) :
    Calls Tryz.prog 116 #[.float .f64 u] w fun e w' => e = .returned (.int .i64 0) ∧ w = w' := by
  have I1 := Lib.hid (fun w => isinf_any u w hu)
  have A1 := Lib.hid (fun w => abs_f u w hu)
  rw [h0] at A1
  have hi : infB u = false := by unfold infB; exact decide_eq_false (by omega)
  rw [hi] at I1
  have o1 : (FloatKind.f64.format.order u u != some Ordering.eq) = false := by
    rcases zero_two hu h0 with rfl | rfl <;> decide +kernel
  clear h0 hi
  go_enter Tryz.func116, Tryz.ntmps116
  go_wp2_with fail
  refine (A1.out w).mono ?_
  rintro e w' ⟨rfl, rfl⟩
  go_wp2_with fail
  refine (I1.out w).mono ?_
  rintro e w' ⟨rfl, rfl⟩
  go_wp2_with fail
  go_ret
  exact ⟨rfl, rfl⟩

set_option maxRecDepth 100000 in
set_option maxHeartbeats 8000000 in
theorem split_zero (u : Nat) (w : World) (hu : u < 18446744073709551616) (h0 : u % 9223372036854775808 = 0) :
    Calls Tryz.prog 97 #[.float .f64 u] w fun e w' => e = .returned (.tuple #[.agg #[.bool (sgbB u), .int .u64 0, .int .i64 0], .bool true]) ∧ Below w.heap.size w w' := by
  have I1 := Lib.hid (fun w => kind_zero u w hu h0)
  have I2 := Lib.hid (fun w => signbit_any u w hu)
  have hz : (FloatKind.f64.format.order u 0 == some Ordering.eq) = true := by
    rcases zero_two hu h0 with rfl | rfl <;> decide +kernel
  clear h0
  go_enter Tryz.func97, Tryz.ntmps97
  go_wp2_with fail
  refine (I1.out _).mono ?_
  rintro e w1 ⟨rfl, rfl⟩
  go_wp2_with fail
  refine (I2.out _).mono ?_
  rintro e w1 ⟨rfl, rfl⟩
  go_wp2_with fail
  refine bodyPost_ret (v := .tuple #[.agg #[.bool (sgbB u), .int .u64 0, .int .i64 0], .bool true]) (by simp [results, Tryz.results97, go_sem]; done) rfl ?_
  exact ⟨rfl, below2 ..⟩

set_option maxRecDepth 100000 in
set_option maxHeartbeats 8000000 in
theorem of_zero (u : Nat) (w : World) (hu : u < 18446744073709551616) (h0 : u % 9223372036854775808 = 0) :
    Calls Tryz.prog 83 #[.float .f64 u] w fun e w' => e = .returned (.tuple #[.agg #[.bool false, .slice none 0 0, .int .i64 0], .int .i64 0]) ∧ Below w.heap.size w w' := by
  obtain ⟨w0, hw0⟩ : ∃ w0, w0 = w.alloc (.cells #[.bool false, .slice none 0 0, .int .i64 0] 78) := ⟨_, rfl⟩
  have g0 : w0.heap[w.heap.size]? = some (.cells #[.bool false, .slice none 0 0, .int .i64 0] 78 (0, 0)) := by rw [hw0]; exact blk_new ..
  have hb0 : Below w.heap.size w w0 := by rw [hw0]; exact below1 ..
  have z0 : w0.heap.size = w.heap.size + 1 := by rw [hw0]; simp
  have I1 := Lib.hid (split_zero u w0 hu h0)
  have HW0 := Lib.hid hw0
  have HG0 := Lib.hid g0
  have HB0 := Lib.hid hb0
  have HZ0 := Lib.hid z0
  obtain ⟨s, hs⟩ : ∃ s, s = sgbB u := ⟨_, rfl⟩
  rw [← hs] at I1
  clear h0 hw0 g0 hb0 hs z0
  go_enter Tryz.func83, Tryz.ntmps83
  go_wp2_with fail
  rw [← HW0.out]
  refine I1.out.mono ?_
  rintro e w1 ⟨rfl, hb1⟩
  go_upto_region 4 with fail
  obtain ⟨w2, hw2⟩ : ∃ w2, w2 = w1.alloc (.cells #[.bool s, .int .u64 0, .int .i64 0] 110) := ⟨_, rfl⟩
  have b2 : Below w1.heap.size w1 w2 := by rw [hw2]; exact below1 ..
  have HG := Lib.hid ((b2.block _ (by have := HZ0.out; have := hb1.size; omega)).trans ((hb1.block _ (by have := HZ0.out; omega)).trans HG0.out))
  have HB := Lib.hid (HB0.out.trans ((hb1.trans (b2.mono hb1.size)).mono HB0.out.size))
  obtain ⟨k0, k1, k2, f0, f1, f2⟩ := cells3 HG.out
  obtain ⟨p0, p1, p2, _⟩ := cells3 (show w2.heap[w1.heap.size]? = some (.cells #[.bool s, .int .u64 0, .int .i64 0] 110 (0, 0)) by rw [hw2]; exact blk_new ..)
  rw [← hw2]
  clear hb1 b2 hw2
  go_wp2_with fail
  obtain ⟨w6, hw6⟩ : ∃ w6, w6 = ((w2.setCell ⟨w.heap.size, 0, none⟩ (.bool false)).setCell ⟨w.heap.size, 1, none⟩ (.slice none 0 0)).setCell ⟨w.heap.size, 2, none⟩ (.int .i64 0) := ⟨_, rfl⟩
  obtain ⟨hD6, hB6, q0, q1, q2⟩ := dy_out (d := zD) HG.out (zD_at _) w6 hw6
  simp only [zD] at q0 q1 q2
  have hb6 := HB.out.trans (hB6 w.heap.size (Nat.le_refl _))
  rw [← hw6]
  (try simp only [Exit.inBlock, Exit.then])
  refine bodyPost_ret (v := .tuple #[.agg #[.bool false, .slice none 0 0, .int .i64 0], .int .i64 0]) (by simp [results, Tryz.results83, go_sem, q0, q1, q2]; done) rfl ?_
  exact ⟨rfl, hb6⟩

set_option maxRecDepth 100000 in
set_option maxHeartbeats 8000000 in
theorem round_zero (u : Nat) (w : World) (hu : u < 18446744073709551616) (h0 : u % 9223372036854775808 = 0) :
    Calls Tryz.prog 63 #[.float .f64 u] w fun e w' => ∃ v, e = .returned v ∧ DAt w' v zD ∧ Below w.heap.size w w' := by
  obtain ⟨w0, hw0⟩ : ∃ w0, w0 = w.alloc (.cells #[.bool false, .slice none 0 0, .int .i64 0] 78) := ⟨_, rfl⟩
  have g0 : w0.heap[w.heap.size]? = some (.cells #[.bool false, .slice none 0 0, .int .i64 0] 78 (0, 0)) := by rw [hw0]; exact blk_new ..
  have hb0 : Below w.heap.size w w0 := by rw [hw0]; exact below1 ..
  have z0 : w0.heap.size = w.heap.size + 1 := by rw [hw0]; simp
  have I1 := Lib.hid (of_zero u w0 hu h0)
  have HW0 := Lib.hid hw0
  have HG0 := Lib.hid g0
  have HB0 := Lib.hid hb0
  clear h0 hw0 g0 hb0
  go_enter Tryz.func63, Tryz.ntmps63
  go_wp2_with fail
  rw [← HW0.out]
  refine I1.out.mono ?_
  rintro e w1 ⟨rfl, hb1⟩
  have hz1 := hb1.size
  obtain ⟨W, hW⟩ : ∃ W, W = w1.alloc (.cells #[.bool false, .slice none 0 0, .int .i64 0] 78) := ⟨_, rfl⟩
  have gW : W.heap[w.heap.size]? = some (.cells #[.bool false, .slice none 0 0, .int .i64 0] 78 (0, 0)) := by rw [hW]; exact blk_old ((hb1.block _ (by omega)).trans HG0.out) _
  have hBW : Below w.heap.size w W := HB0.out.trans ((hb1.mono (by omega)).trans (by rw [hW]; exact (below1 ..).mono (by omega)))
  have kk := cells3 gW
  have HG := Lib.hid gW
  have HBW := Lib.hid hBW
  have HW := Lib.hid hW
  rw [hW] at kk
  obtain ⟨kc0, kc1, kc2, kf0, kf1, kf2⟩ := kk
  clear hb1 gW hBW hW z0
  go_wp2_with fail
  rw [← HW.out]
  obtain ⟨w6, hw6⟩ : ∃ w6, w6 = ((W.setCell ⟨w.heap.size, 0, none⟩ (.bool false)).setCell ⟨w.heap.size, 1, none⟩ (.slice none 0 0)).setCell ⟨w.heap.size, 2, none⟩ (.int .i64 0) := ⟨_, rfl⟩
  obtain ⟨hD6, hB6, q0, q1, q2⟩ := dy_out (d := zD) HG.out (zD_at _) w6 hw6
  simp only [zD] at q0 q1 q2
  have hb6 := HBW.out.trans (hB6 w.heap.size (Nat.le_refl _))
  rw [← hw6]
  (try simp only [Exit.inBlock, Exit.then])
  refine bodyPost_ret (v := .agg #[.bool false, .slice none 0 0, .int .i64 0]) (by simp [results, Tryz.results63, go_sem, q0, q1, q2]; done) rfl ?_
  exact ⟨_, rfl, hD6, hb6⟩

set_option maxRecDepth 100000 in
set_option maxHeartbeats 4000000 in
theorem right_z (v : Value) (d : DV) (w : World) (hd : DAt w v d) (hr : RZ d) :
    Calls Tryz.prog 108 #[v] w fun e w' => e = .returned (.bool true) ∧ Below w.heap.size w w' := by
  rcases hr with hr | rfl
  · exact right_dyad v d w hd hr
  · obtain ⟨A, n, c, rfl, hx, _⟩ := hd
    have hn : (n : Int) = 0 := by have := hx.num; simp [zD] at this; omega
    obtain rfl : n = 0 := by omega
    simp only [zD]
    clear hx hn
    go_enter Tryz.func108, Tryz.ntmps108
    go_wp2_with fail
    go_ret
    exact ⟨rfl, below1 ..⟩

set_option maxRecDepth 100000 in
set_option maxHeartbeats 4000000 in
theorem sign_zero (v : Value) (w : World) (h : DAt w v zD) :
    Calls Tryz.prog 92 #[v] w fun e w' => e = .returned (.tuple #[.int .i64 0, .int .i64 0]) ∧ Below w.heap.size w w' := by
  have H1 := Lib.hid h
  obtain ⟨A, n, c, rfl, hx, _⟩ := h
  obtain rfl : n = 0 := by have := hx.num; simp [zD] at this; omega
  simp only [zD] at H1 ⊢
  clear hx
  obtain ⟨w0, hw0⟩ : ∃ w0, w0 = w.alloc (.cells #[.bool false, .slice A 0 c, .int .i64 0] 78) := ⟨_, rfl⟩
  have g1 : w0.heap[w.heap.size]? = some (.cells #[.bool false, .slice A 0 c, .int .i64 0] 78 (0, 0)) := by rw [hw0]; exact blk_new ..
  have hb0 : Below w.heap.size w w0 := by rw [hw0]; exact below1 ..
  have z0 : w.heap.size < w0.heap.size := by rw [hw0]; simp
  have HB0 := Lib.hid hb0
  have HW := Lib.hid hw0
  have HG := Lib.hid g1
  have HZ := Lib.hid z0
  clear hw0 hb0 g1 z0
  go_enter Tryz.func92, Tryz.ntmps92
  go_wp2_with fail
  rw [← HW.out]
  refine (right_z _ zD w0 (H1.out.below HB0.out) (.inr rfl)).mono ?_
  rintro e w1 ⟨rfl, hb1⟩
  obtain ⟨k0, k1, k2, _⟩ := cells3 ((hb1.block _ HZ.out).trans HG.out)
  have HB1 := Lib.hid (HB0.out.trans (hb1.mono HB0.out.size))
  clear hb1
  go_wp2_with fail
  go_ret2
  exact ⟨rfl, HB1.out⟩

end Go.Proofs.YtkfhbnfoiicioaaGreatDoor

/- dyad.both, Mul, Sign and round.times: the walks -/
namespace Go.Proofs.YtkfhbnfoiicioaaGreatDoor
open Ieee Go.RowKit Go.Sort

set_option maxRecDepth 100000 in
set_option maxHeartbeats 4000000 in
theorem both_dyad (v1 v2 : Value) (d1 d2 : DV) (w : World) (h1 : DAt w v1 d1) (h2 : DAt w v2 d2) (r1 : RZ d1) (r2 : RZ d2) :
    Calls Tryz.prog 98 #[v1, v2] w fun e w' => e = .returned (.bool true) ∧ Below w.heap.size w w' := by
  have H1 := Lib.hid h1
  have H2 := Lib.hid h2
  obtain ⟨A1, n1, c1, rfl, _, _⟩ := h1
  obtain ⟨A2, n2, c2, rfl, _, _⟩ := h2
  obtain ⟨s1, m1, x1⟩ := d1
  obtain ⟨s2, m2, x2⟩ := d2
  simp only at *
  have R1 := Lib.hid r1
  have R2 := Lib.hid r2
  clear r1 r2
  go_enter Tryz.func98, Tryz.ntmps98
  go_upto_region 1 with fail
  obtain ⟨w0, hw0⟩ : ∃ w0, w0 = (w.alloc (.cells #[.bool s1, .slice A1 n1 c1, .int .i64 x1] 78)).alloc (.cells #[.bool s2, .slice A2 n2 c2, .int .i64 x2] 78) := ⟨_, rfl⟩
  have g1 : w0.heap[w.heap.size]? = some (.cells #[.bool s1, .slice A1 n1 c1, .int .i64 x1] 78 (0, 0)) := by rw [hw0]; exact blk_old (blk_new ..) _
  have g2 : w0.heap[w.heap.size + 1]? = some (.cells #[.bool s2, .slice A2 n2 c2, .int .i64 x2] 78 (0, 0)) := by rw [hw0]; have h := blk_new (w.alloc (.cells #[.bool s1, .slice A1 n1 c1, .int .i64 x1] 78)) #[.bool s2, .slice A2 n2 c2, .int .i64 x2] 78; rwa [World.size_alloc] at h
  have hb0 : Below w.heap.size w w0 := by rw [hw0]; exact below2 ..
  have z0 : w0.heap.size = w.heap.size + 2 := by rw [hw0]; simp
  rw [← hw0]
  have HB0 := Lib.hid hb0
  have HG2 := Lib.hid g2
  have HZ := Lib.hid z0
  obtain ⟨k0, k1, k2, _⟩ := cells3 g1
  clear hw0 hb0 g1 g2 z0
  go_wp2_with fail
  refine (right_z _ _ w0 (H1.out.below HB0.out) R1.out).mono ?_
  rintro e w1 ⟨rfl, hb1⟩
  obtain ⟨j0, j1, j2, _⟩ := cells3 ((hb1.block _ (by have := HZ.out; omega)).trans HG2.out)
  have HB1 := Lib.hid (HB0.out.trans (hb1.mono HB0.out.size))
  clear hb1 k0 k1 k2
  go_wp2_with fail
  refine (right_z _ _ w1 (H2.out.below HB1.out) R2.out).mono ?_
  rintro e w2 ⟨rfl, hb2⟩
  have HB2 := Lib.hid (HB1.out.trans (hb2.mono HB1.out.size))
  clear hb2
  go_wp2_with fail
  go_ret
  exact ⟨rfl, HB2.out⟩

def sgD (d : DV) : Int := if d.neg then -1 else 1
set_option maxRecDepth 100000 in
set_option maxHeartbeats 4000000 in
theorem sign_dyad (v : Value) (d : DV) (w : World) (h : DAt w v d) (r : RightD d) :
    Calls Tryz.prog 92 #[v] w fun e w' => e = .returned (.tuple #[.int .i64 (sgD d), .int .i64 0]) ∧ Below w.heap.size w w' := by
  have H1 := Lib.hid h
  have hl := r.len.1
  obtain ⟨A, n, c, rfl, hx, _⟩ := h
  obtain ⟨s, m, x⟩ := d
  simp only at *
  have hn : ((n : Int) == 0) = false := by have := hx.num; simp; omega
  have R1 := Lib.hid r
  clear r hx hl
  obtain ⟨w0, hw0⟩ : ∃ w0, w0 = w.alloc (.cells #[.bool s, .slice A n c, .int .i64 x] 78) := ⟨_, rfl⟩
  have g1 : w0.heap[w.heap.size]? = some (.cells #[.bool s, .slice A n c, .int .i64 x] 78 (0, 0)) := by rw [hw0]; exact blk_new ..
  have hb0 : Below w.heap.size w w0 := by rw [hw0]; exact below1 ..
  have z0 : w.heap.size < w0.heap.size := by rw [hw0]; simp
  have HB0 := Lib.hid hb0
  have HW := Lib.hid hw0
  have HG := Lib.hid g1
  have HZ := Lib.hid z0
  clear hw0 hb0 g1 z0
  cases s
  · go_enter Tryz.func92, Tryz.ntmps92
    go_wp2_with fail
    rw [← HW.out]
    refine (right_dyad _ _ w0 (H1.out.below HB0.out) R1.out).mono ?_
    rintro e w1 ⟨rfl, hb1⟩
    obtain ⟨k0, k1, k2, _⟩ := cells3 ((hb1.block _ HZ.out).trans HG.out)
    have HB1 := Lib.hid (HB0.out.trans (hb1.mono HB0.out.size))
    clear hb1
    go_wp2_with fail
    go_ret2
    exact ⟨rfl, HB1.out⟩
  · go_enter Tryz.func92, Tryz.ntmps92
    go_wp2_with fail
    rw [← HW.out]
    refine (right_dyad _ _ w0 (H1.out.below HB0.out) R1.out).mono ?_
    rintro e w1 ⟨rfl, hb1⟩
    obtain ⟨k0, k1, k2, _⟩ := cells3 ((hb1.block _ HZ.out).trans HG.out)
    have HB1 := Lib.hid (HB0.out.trans (hb1.mono HB0.out.size))
    clear hb1
    go_wp2_with fail
    go_ret2
    exact ⟨rfl, HB1.out⟩

theorem top_len {w : World} {v : Value} {d : DV} (h : DAt w v d) (hl : d.mag.length ≤ 70) : (dig d.top.natAbs).length ≤ 2 * d.mag.length := by
  obtain ⟨_, _, _, _, _, hls⟩ := h
  have e : d.top.natAbs = ln d.mag := by unfold DV.top; split <;> omega
  rw [e]
  exact dig_ln_len hls

end Go.Proofs.YtkfhbnfoiicioaaGreatDoor
