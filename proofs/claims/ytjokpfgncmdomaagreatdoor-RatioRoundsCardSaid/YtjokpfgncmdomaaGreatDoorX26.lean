import Derived.Test.YtjokpfgncmdomaaGreatDoorX25
import Derived.Deep.Cut
import Derived.Deep.DeepCutAuto
set_option linter.unusedSimpArgs false
set_option linter.unusedVariables false
/- girderref02.up, huge, float; girderref01.Join of what these ask: the walks (printed by gen_h16.py) -/
namespace Go.Proofs.YtjokpfgncmdomaaGreatDoor
open Go.RowKit Go.Sort

set_option maxRecDepth 100000 in
set_option maxHeartbeats 4000000 in
theorem up_ref (m : Int) (neg : Bool) (half : Int) (odd : Bool) (w : World) :
    Calls Tryz.prog 160 #[.int .i8 m, .bool neg, .int .i64 half, .bool odd] w fun e w' => e = .returned (.bool (awayB m neg half odd)) ∧ w = w' := by
  by_cases h1 : m = 1
  · subst h1
    go_enter Tryz.func160, Tryz.ntmps160
    go_wp2_with fail
    go_ret
    exact ⟨rfl, rfl⟩
  · have e1 : (m == 1) = false := by simp [h1]
    by_cases h2 : m = 2
    · subst h2
      go_enter Tryz.func160, Tryz.ntmps160
      go_wp2_with fail
      go_ret
      exact ⟨rfl, rfl⟩
    · have e2 : (m == 2) = false := by simp [h2]
      by_cases h3 : m = 3
      · subst h3
        go_enter Tryz.func160, Tryz.ntmps160
        go_wp2_with fail
        go_ret
        exact ⟨rfl, rfl⟩
      · have e3 : (m == 3) = false := by simp [h3]
        have HA := Lib.hid (show awayB m neg half odd = (decide (0 < half) || (decide (half = 0) && odd)) by unfold awayB; rw [if_neg h1, if_neg h2, if_neg h3])
        clear h1 h2 h3
        by_cases h4 : 0 < half
        · have HR := Lib.hid (show awayB m neg half odd = true by rw [HA.out]; simp [h4])
          have e4 : decide (0 < half) = true := by simp [h4]
          clear h4
          go_enter Tryz.func160, Tryz.ntmps160
          go_wp2_with fail
          go_ret
          exact ⟨by rw [HR.out]; rfl, rfl⟩
        · have e4 : decide (0 < half) = false := by simp; omega
          by_cases h5 : half = 0
          · have HR := Lib.hid (show awayB m neg half odd = odd by rw [HA.out]; simp [h4, h5])
            have e5 : (half == 0) = true := by simp [h5]
            clear h4 h5
            go_enter Tryz.func160, Tryz.ntmps160
            go_wp2_with fail
            go_ret
            exact ⟨by rw [HR.out]; rfl, rfl⟩
          · have HR := Lib.hid (show awayB m neg half odd = false by rw [HA.out]; simp [h5]; omega)
            have e5 : (half == 0) = false := by simp [h5]
            clear h4 h5
            go_enter Tryz.func160, Tryz.ntmps160
            go_wp2_with fail
            go_ret
            exact ⟨by rw [HR.out]; rfl, rfl⟩


set_option maxRecDepth 100000 in
set_option maxHeartbeats 8000000 in
theorem joinR_zero (neg : Bool) (w : World) : Calls Tryz.prog 175 #[.agg #[.bool neg, .int .u64 0, .int .i64 0]] w fun e w' => e = .returned (.tuple #[.float .f64 (sw neg 0), .bool true]) ∧ Below w.heap.size w w' := by
  have hd2 := run_f64from
  have hb := below1 w (.cells #[.bool neg, .int .u64 0, .int .i64 0] 141)
  have k0 := new_cell w #[.bool neg, .int .u64 0, .int .i64 0] 141 0 _ rfl
  have HB := Lib.hid hb
  clear hb
  cases neg
  · go_enter Tryz.func175, Tryz.ntmps175
    go_wp2_with fail
    go_quiet (fail)
    go_wp2_with fail
    go_loopw [4, 5] (fun fv ev wr => fv = .int .u64 0 ∧ ev = .int .i64 0 ∧ Below w.heap.size w wr ∧ wr.cell? ⟨w.heap.size, 0, none⟩ = some (.bool false)) (fun _ _ _ => 0)
    case atStart => exact ⟨rfl, rfl, below_drewN HB.out _, k0⟩
    case round =>
      obtain ⟨rfl, rfl, hbw, hc⟩ := hrel
      have HBW := Lib.hid hbw
      clear hbw
      go_wp2_with fail
      go_ret2
      exact ⟨rfl, HBW.out⟩
  · go_enter Tryz.func175, Tryz.ntmps175
    go_wp2_with fail
    go_quiet (fail)
    go_wp2_with fail
    go_loopw [4, 5] (fun fv ev wr => fv = .int .u64 0 ∧ ev = .int .i64 0 ∧ Below w.heap.size w wr ∧ wr.cell? ⟨w.heap.size, 0, none⟩ = some (.bool true)) (fun _ _ _ => 0)
    case atStart => exact ⟨rfl, rfl, below_drewN HB.out _, k0⟩
    case round =>
      obtain ⟨rfl, rfl, hbw, hc⟩ := hrel
      have HBW := Lib.hid hbw
      clear hbw
      go_wp2_with fail
      go_ret2
      exact ⟨rfl, HBW.out⟩

set_option maxRecDepth 100000 in
set_option maxHeartbeats 8000000 in
/-- Join of an odd number times a power of two that is a float: g is its rung -/
theorem joinR_odd (neg : Bool) (t K F g : Nat) (E : Int) (w : World) (ht : t % 2 = 1) (hF : F = t * 2 ^ K) (hFl : F < 9007199254740992) (hE : -1074 ≤ E) (hn : E = -1074 ∨ 4503599627370496 ≤ F) (hE2 : E ≤ 971) (hK : K ≤ 52) (hg : (g : Int) = (E + 1074) * 4503599627370496 + F) :
    Calls Tryz.prog 175 #[.agg #[.bool neg, .int .u64 (t : Int), .int .i64 (E + K)]] w fun e w' => e = .returned (.tuple #[.float .f64 (sw neg g), .bool true]) ∧ Below w.heap.size w w' := by
  have hd2 := run_f64from
  have htF : t ≤ F := by rw [hF]; exact Nat.le_mul_of_pos_right _ (Nat.pow_pos (by decide))
  have ht0 : 0 < t := by omega
  obtain ⟨x, hx⟩ : ∃ x, x = E + K := ⟨_, rfl⟩
  have c1 : decide ((9007199254740992 : Int) ≤ (t : Int)) = false := by simp; omega
  have c2 : decide (x < -1074) = false := by simp; omega
  have c3 : decide ((1023 : Int) < x) = false := by simp; omega
  have c4 : ((t : Int) == 0) = false := by simp; omega
  have c5 : ((t : Int) % 2 == 0) = false := by simp; omega
  have hm : (t : Int) % 2 = 1 := by omega
  have hxe := hx
  rw [← hx]
  have hb := below1 w (.cells #[.bool neg, .int .u64 (t : Int), .int .i64 x] 141)
  have k0 := new_cell w #[.bool neg, .int .u64 (t : Int), .int .i64 x] 141 0 _ rfl
  have HB := Lib.hid hb
  have HF := Lib.hid hF
  have HX := Lib.hid hx
  have htl : t < 9007199254740992 := by omega
  have hxl : -1074 ≤ x ∧ x ≤ 1023 := by omega
  clear hb hF hx hxe ht
  cases neg
  · go_enter Tryz.func175, Tryz.ntmps175
    go_wp2_with fail
    go_quiet (fail)
    go_wp2_with fail
    go_loopw [4, 5] (fun fv ev wr => ∃ i : Nat, i ≤ K ∧ fv = .int .u64 ((t * 2 ^ i : Nat) : Int) ∧ ev = .int .i64 (E + K - i) ∧ Below w.heap.size w wr ∧ wr.cell? ⟨w.heap.size, 0, none⟩ = some (.bool false)) (fun _ ev _ => (intOf ev + 2000).toNat)
    case atStart => exact ⟨0, Nat.zero_le _, by simp, by rw [HX.out]; congr 1; omega, below_drewN HB.out _, k0⟩
    case round =>
      obtain ⟨i, hi, rfl, rfl, hbw, hc⟩ := hrel
      have HBW := Lib.hid hbw
      obtain ⟨f, hf⟩ : ∃ f, f = t * 2 ^ i := ⟨_, rfl⟩
      rw [← hf]
      have hf0 : 0 < f := by rw [hf]; exact Nat.mul_pos (by omega) (Nat.pow_pos (by decide))
      have hfF : f * 2 ^ (K - i) = F := by rw [hf, HF.out, Nat.mul_assoc, ← Nat.pow_add]; congr 2; omega
      have n0 : ((f : Int) != 0) = true := by simp; omega
      obtain ⟨e, he⟩ : ∃ e, e = E + K - i := ⟨_, rfl⟩
      rw [← he]
      by_cases hlt : i < K
      · have h1 : f < 4503599627370496 := by
          have h2 : f * 2 ≤ F := by
            rw [← hfF]
            exact Nat.mul_le_mul_left _ (show 2 ^ 1 ≤ 2 ^ (K - i) from Nat.pow_le_pow_right (by decide) (by omega))
          omega
        have d1 : decide ((f : Int) < 4503599627370496) = true := by simp; omega
        have d2 : decide ((-1074 : Int) < e) = true := by simp; omega
        have he2 : -1074 < e ∧ e ≤ 1024 := by omega
        have h2f : 2 * f = t * 2 ^ (i + 1) := by rw [hf, Nat.pow_succ]; ac_rfl
        have HE := Lib.hid he
        have H2F := Lib.hid h2f
        clear hf hfF hbw he h2f
        go_wp2_with fail
        refine ⟨⟨i + 1, by omega, ?_, ?_, HBW.out, hc⟩, by simp [intOf]; omega⟩
        · rw [← H2F.out]; go_num
        · have h9 : e - 1 = E + K - ((i + 1 : Nat) : Int) := by have := HE.out; omega
          rw [h9]
      · obtain rfl : i = K := by omega
        obtain rfl : f = F := by rw [← hfF, Nat.sub_self, Nat.pow_zero, Nat.mul_one]
        have heE : e = E := by omega
        subst heE
        have HG := Lib.hid hg
        by_cases hbig : 4503599627370496 ≤ f
        · have d1 : decide ((f : Int) < 4503599627370496) = false := by simp; omega
          have d3 : decide ((4503599627370496 : Int) ≤ (f : Int)) = true := by simp; omega
          have d4 : decide ((971 : Int) < e) = false := by simp; omega
          obtain ⟨p, hp⟩ : ∃ p : Nat, p = (e + 1075).toNat := ⟨_, rfl⟩
          have hpe : e + 1075 = (p : Int) := by omega
          have hp2 : p ≤ 2046 := by omega
          have hgs : (f : Int) - 4503599627370496 + (p : Int) * 4503599627370496 = (g : Int) := by omega
          have hgl : g < 9218868437227405312 := by omega
          clear hf hfF hbw he hg hp HG
          go_wp2_with fail
          go_ret2
          refine ⟨?_, HBW.out⟩
          first | rfl | (rw [HGF.out]; rfl)
        · have d1 : decide ((f : Int) < 4503599627370496) = true := by simp; omega
          have d3 : decide ((4503599627370496 : Int) ≤ (f : Int)) = false := by simp; omega
          have hee : e = -1074 := by omega
          subst hee
          have hgf : g = f := by omega
          have HGF := Lib.hid hgf
          clear hf hfF hbw he hg HG hgf
          go_wp2_with fail
          go_ret2
          refine ⟨?_, HBW.out⟩
          first | rfl | (rw [HGF.out]; rfl)
  · go_enter Tryz.func175, Tryz.ntmps175
    go_wp2_with fail
    go_quiet (fail)
    go_wp2_with fail
    go_loopw [4, 5] (fun fv ev wr => ∃ i : Nat, i ≤ K ∧ fv = .int .u64 ((t * 2 ^ i : Nat) : Int) ∧ ev = .int .i64 (E + K - i) ∧ Below w.heap.size w wr ∧ wr.cell? ⟨w.heap.size, 0, none⟩ = some (.bool true)) (fun _ ev _ => (intOf ev + 2000).toNat)
    case atStart => exact ⟨0, Nat.zero_le _, by simp, by rw [HX.out]; congr 1; omega, below_drewN HB.out _, k0⟩
    case round =>
      obtain ⟨i, hi, rfl, rfl, hbw, hc⟩ := hrel
      have HBW := Lib.hid hbw
      obtain ⟨f, hf⟩ : ∃ f, f = t * 2 ^ i := ⟨_, rfl⟩
      rw [← hf]
      have hf0 : 0 < f := by rw [hf]; exact Nat.mul_pos (by omega) (Nat.pow_pos (by decide))
      have hfF : f * 2 ^ (K - i) = F := by rw [hf, HF.out, Nat.mul_assoc, ← Nat.pow_add]; congr 2; omega
      have n0 : ((f : Int) != 0) = true := by simp; omega
      obtain ⟨e, he⟩ : ∃ e, e = E + K - i := ⟨_, rfl⟩
      rw [← he]
      by_cases hlt : i < K
      · have h1 : f < 4503599627370496 := by
          have h2 : f * 2 ≤ F := by
            rw [← hfF]
            exact Nat.mul_le_mul_left _ (show 2 ^ 1 ≤ 2 ^ (K - i) from Nat.pow_le_pow_right (by decide) (by omega))
          omega
        have d1 : decide ((f : Int) < 4503599627370496) = true := by simp; omega
        have d2 : decide ((-1074 : Int) < e) = true := by simp; omega
        have he2 : -1074 < e ∧ e ≤ 1024 := by omega
        have h2f : 2 * f = t * 2 ^ (i + 1) := by rw [hf, Nat.pow_succ]; ac_rfl
        have HE := Lib.hid he
        have H2F := Lib.hid h2f
        clear hf hfF hbw he h2f
        go_wp2_with fail
        refine ⟨⟨i + 1, by omega, ?_, ?_, HBW.out, hc⟩, by simp [intOf]; omega⟩
        · rw [← H2F.out]; go_num
        · have h9 : e - 1 = E + K - ((i + 1 : Nat) : Int) := by have := HE.out; omega
          rw [h9]
      · obtain rfl : i = K := by omega
        obtain rfl : f = F := by rw [← hfF, Nat.sub_self, Nat.pow_zero, Nat.mul_one]
        have heE : e = E := by omega
        subst heE
        have HG := Lib.hid hg
        by_cases hbig : 4503599627370496 ≤ f
        · have d1 : decide ((f : Int) < 4503599627370496) = false := by simp; omega
          have d3 : decide ((4503599627370496 : Int) ≤ (f : Int)) = true := by simp; omega
          have d4 : decide ((971 : Int) < e) = false := by simp; omega
          obtain ⟨p, hp⟩ : ∃ p : Nat, p = (e + 1075).toNat := ⟨_, rfl⟩
          have hpe : e + 1075 = (p : Int) := by omega
          have hp2 : p ≤ 2046 := by omega
          have hgs : (f : Int) - 4503599627370496 + (p : Int) * 4503599627370496 = (g : Int) := by omega
          have hgl : g < 9218868437227405312 := by omega
          clear hf hfF hbw he hg hp HG
          go_wp2_with fail
          go_ret2
          refine ⟨?_, HBW.out⟩
          first | rfl | (rw [HGF.out]; rfl)
        · have d1 : decide ((f : Int) < 4503599627370496) = true := by simp; omega
          have d3 : decide ((4503599627370496 : Int) ≤ (f : Int)) = false := by simp; omega
          have hee : e = -1074 := by omega
          subst hee
          have hgf : g = f := by omega
          have HGF := Lib.hid hgf
          clear hf hfF hbw he hg HG hgf
          go_wp2_with fail
          go_ret2
          refine ⟨?_, HBW.out⟩
          first | rfl | (rw [HGF.out]; rfl)

end Go.Proofs.YtjokpfgncmdomaaGreatDoor

/- girderref02.huge, float: the walks -/
namespace Go.Proofs.YtjokpfgncmdomaaGreatDoor
open Go.RowKit Go.Sort

/-- the rung of a size times a power of two -/
def rungS (size : Nat) (last : Int) : Nat := (last + 1074).toNat * 2 ^ 52 + size
theorem div_inf : floatBits .quo .f64 4607182418800017408 0 = some 9218868437227405312 := by decide +kernel
theorem div_ninf : floatBits .quo .f64 13830554455654793216 0 = some 18442240474082181120 := by decide +kernel

set_option maxRecDepth 100000 in
set_option maxHeartbeats 8000000 in
theorem hugeR_any (md : Int) (neg : Bool) (w : World) : Calls Tryz.prog 161 #[.int .i8 md, .bool neg] w fun e w' => e = .returned (.float .f64 (if mostB md neg = true then sw neg 9218868437227405311 else sw neg 9218868437227405312)) ∧ Below w.heap.size w w' := by
  obtain ⟨x, hx⟩ : ∃ x, x = if mostB md neg = true then sw neg 9218868437227405311 else sw neg 9218868437227405312 := ⟨_, rfl⟩
  rw [← hx]
  have hq1 := fun w => run_float_arith (P := Tryz.prog) (w := w) BinOp.quo 29 FloatKind.f64 4607182418800017408 0 _ div_inf
  have hq2 := fun w => run_float_arith (P := Tryz.prog) (w := w) BinOp.quo 29 FloatKind.f64 13830554455654793216 0 _ div_ninf
  have hj := fun w => joinR_odd neg 9007199254740991 0 9007199254740991 9218868437227405311 971 w (by decide) (by decide) (by decide) (by decide) (by decide) (by decide) (by decide) (by decide)
  have HJ := Lib.hid hj
  have HX := Lib.hid hx
  clear hx hj
  cases neg
  · by_cases h3 : md = 3
    · subst h3
      go_enter Tryz.func161, Tryz.ntmps161
      go_wp2_with fail
      refine (HJ.out w).mono ?_
      rintro e w1 ⟨rfl, hb1⟩
      have HB1 := Lib.hid hb1
      clear hb1
      go_wp2_with fail
      go_ret
      exact ⟨by rw [HX.out]; rfl, HB1.out⟩
    · have e3 : (md == 3) = false := by simp [h3]
      by_cases h1 : md = 1
      · subst h1
        go_enter Tryz.func161, Tryz.ntmps161
        go_wp2_with fail
        refine (HJ.out w).mono ?_
        rintro e w1 ⟨rfl, hb1⟩
        have HB1 := Lib.hid hb1
        clear hb1
        go_wp2_with fail
        go_ret
        exact ⟨by rw [HX.out]; rfl, HB1.out⟩
      · have e1 : (md == 1) = false := by simp [h1]
        have HX2 : Hid (x = 9218868437227405312) := Lib.hid (by rw [HX.out]; unfold mostB; rw [e3, e1]; simp [sw])
        by_cases h2 : md = 2
        · subst h2
          clear h3 h1
          go_enter Tryz.func161, Tryz.ntmps161
          go_wp2_with fail
          refine (HJ.out w).mono ?_
          rintro e w1 ⟨rfl, hb1⟩
          have HB1 := Lib.hid hb1
          clear hb1
          go_wp2_with fail
          go_ret
          exact ⟨by rw [HX2.out]; rfl, HB1.out⟩
        · have e2 : (md == 2) = false := by simp [h2]
          clear h3 h1 h2
          go_enter Tryz.func161, Tryz.ntmps161
          go_wp2_with fail
          refine (HJ.out w).mono ?_
          rintro e w1 ⟨rfl, hb1⟩
          have HB1 := Lib.hid hb1
          clear hb1
          go_wp2_with fail
          go_ret
          exact ⟨by rw [HX2.out]; rfl, HB1.out⟩
  · by_cases h3 : md = 3
    · subst h3
      go_enter Tryz.func161, Tryz.ntmps161
      go_wp2_with fail
      refine (HJ.out w).mono ?_
      rintro e w1 ⟨rfl, hb1⟩
      have HB1 := Lib.hid hb1
      clear hb1
      go_wp2_with fail
      go_ret
      exact ⟨by rw [HX.out]; rfl, HB1.out⟩
    · have e3 : (md == 3) = false := by simp [h3]
      by_cases h2 : md = 2
      · subst h2
        go_enter Tryz.func161, Tryz.ntmps161
        go_wp2_with fail
        refine (HJ.out w).mono ?_
        rintro e w1 ⟨rfl, hb1⟩
        have HB1 := Lib.hid hb1
        clear hb1
        go_wp2_with fail
        go_ret
        exact ⟨by rw [HX.out]; rfl, HB1.out⟩
      · have e2 : (md == 2) = false := by simp [h2]
        have HX2 : Hid (x = 18442240474082181120) := Lib.hid (by rw [HX.out]; unfold mostB; rw [e3, e2]; simp [sw])
        by_cases h1 : md = 1
        · subst h1
          clear h3 h2
          go_enter Tryz.func161, Tryz.ntmps161
          go_wp2_with fail
          refine (HJ.out w).mono ?_
          rintro e w1 ⟨rfl, hb1⟩
          have HB1 := Lib.hid hb1
          clear hb1
          go_wp2_with fail
          go_ret
          exact ⟨by rw [HX2.out]; rfl, HB1.out⟩
        · have e1 : (md == 1) = false := by simp [h1]
          clear h3 h1 h2
          go_enter Tryz.func161, Tryz.ntmps161
          go_wp2_with fail
          refine (HJ.out w).mono ?_
          rintro e w1 ⟨rfl, hb1⟩
          have HB1 := Lib.hid hb1
          clear hb1
          go_wp2_with fail
          go_ret
          exact ⟨by rw [HX2.out]; rfl, HB1.out⟩

set_option maxRecDepth 100000 in
set_option maxHeartbeats 8000000 in
theorem floatR_any (neg : Bool) (size : Nat) (last : Int) (w : World) (hs : size ≤ 2 ^ 53) (hl : -1074 ≤ last) (hl2 : last ≤ 971) (hn : last = -1074 ∨ 2 ^ 52 ≤ size) (hf : rungS size last < 2047 * 2 ^ 52) :
    Calls Tryz.prog 162 #[.bool neg, .int .u64 (size : Int), .int .i64 last] w fun e w' => e = .returned (.float .f64 (sw neg (rungS size last))) ∧ Below w.heap.size w w' := by
  by_cases h0 : size = 0
  · subst h0
    have hlast : last = -1074 := by rcases hn with h | h <;> omega
    have HR : Hid (rungS 0 last = 0) := Lib.hid (by subst hlast; rfl)
    rw [HR.out]
    have HJ := Lib.hid (joinR_zero neg)
    clear hn hf hlast
    go_enter Tryz.func162, Tryz.ntmps162
    go_wp2_with fail
    go_loopw [1, 2] (fun sv ev wr => sv = .int .u64 0 ∧ ev = .int .i64 0 ∧ Below w.heap.size w wr) (fun _ _ _ => 0)
    case atStart => exact ⟨rfl, rfl, Below.refl _ _⟩
    case round =>
      obtain ⟨rfl, rfl, hbw⟩ := hrel
      have HBW := Lib.hid hbw
      clear hbw
      go_wp2_with fail
      refine (HJ.out wr).mono ?_
      rintro e w1 ⟨rfl, hb1⟩
      have HB1 := Lib.hid (HBW.out.trans (hb1.mono HBW.out.size))
      clear hb1
      go_wp2_with fail
      go_ret
      exact ⟨rfl, HB1.out⟩
  · obtain ⟨ho, hd, hc64⟩ := ctz_parts h0 (show size < 2 ^ 64 by omega)
    obtain ⟨k, hk⟩ : ∃ k, k = Lib.ctz 64 size := ⟨_, rfl⟩
    obtain ⟨t, ht⟩ : ∃ t, t = size / 2 ^ k := ⟨_, rfl⟩
    rw [← hk] at ho hd hc64
    rw [← ht] at ho hd
    -- K doublings give F at E
    have hnorm : ∃ (K F : Nat) (E : Int), E + K = last + k ∧ F = t * 2 ^ K ∧ F < 9007199254740992 ∧ -1074 ≤ E ∧ (E = -1074 ∨ 4503599627370496 ≤ F) ∧ E ≤ 971 ∧ K ≤ 52 ∧ ((rungS size last : Nat) : Int) = (E + 1074) * 4503599627370496 + F := by
      have hr : ((rungS size last : Nat) : Int) = (last + 1074) * 4503599627370496 + size := by
        unfold rungS
        have : ((last + 1074).toNat : Int) = last + 1074 := by omega
        rw [Int.natCast_add, Int.natCast_mul, this]; rfl
      have hrl : ((rungS size last : Nat) : Int) < 9218868437227405312 := by
        have : 2047 * 2 ^ 52 = 9218868437227405312 := by decide
        omega
      have ht1 : 1 ≤ t := by omega
      have hk53 : 2 ^ k ≤ size := by rw [← hd]; exact Nat.le_mul_of_pos_left _ (by omega)
      by_cases h53 : size < 2 ^ 53
      · have hk52 : k ≤ 52 := by
          by_cases h : k ≤ 52
          · exact h
          · have := Nat.pow_le_pow_right (show 0 < 2 by decide) (show 53 ≤ k by omega); omega
        refine ⟨k, size, last, rfl, hd.symm, by omega, hl, ?_, hl2, hk52, hr⟩
        rcases hn with h | h
        · exact .inl h
        · right; omega
      · have e53 : size = 2 ^ 53 := by omega
        have hk53' : k = 53 ∧ t = 1 := by
          have h1 : t * 2 ^ k = 2 ^ 53 := by rw [hd, e53]
          have hkl : k ≤ 53 := by
            by_cases h : k ≤ 53
            · exact h
            · have := Nat.pow_le_pow_right (show 0 < 2 by decide) (show 54 ≤ k by omega); omega
          have h2 : t * 2 ^ k = 2 ^ (53 - k) * 2 ^ k := by rw [h1, ← Nat.pow_add]; congr 1; omega
          have h3 : t = 2 ^ (53 - k) := Nat.eq_of_mul_eq_mul_right (Nat.pow_pos (by decide)) h2
          by_cases h4 : k = 53
          · subst h4; exact ⟨rfl, h3⟩
          · obtain ⟨m, hm⟩ : ∃ m, 53 - k = m + 1 := ⟨52 - k, by omega⟩
            rw [hm, Nat.pow_succ] at h3
            omega
        refine ⟨52, 2 ^ 52, last + 1, by omega, by rw [hk53'.2, Nat.one_mul], by decide, by omega, .inr (by decide), ?_, by decide, ?_⟩
        · rw [hr, e53] at hrl; omega
        · rw [hr, e53]; omega
    obtain ⟨K, F, E, hEK, hF, hFl, hE, hEn, hE2, hK, hg⟩ := hnorm
    have HJ := Lib.hid (fun w => joinR_odd neg t K F (rungS size last) E w ho hF hFl hE hEn hE2 hK hg)
    rw [hEK] at HJ
    obtain ⟨g, hgg⟩ : ∃ g, g = rungS size last := ⟨_, rfl⟩
    rw [← hgg] at HJ ⊢
    have HD := Lib.hid hd
    have HO := Lib.hid ho
    have hs0 : 0 < size := by omega
    have z0 : ((size : Int) == 0) = false := by simp; omega
    clear hg hEK hF hFl hE hEn hE2 hK hgg hd ho ht hk hf hn h0
    go_enter Tryz.func162, Tryz.ntmps162
    go_wp2_with fail
    go_loopw [1, 2] (fun sv ev wr => ∃ (i s : Nat), i ≤ k ∧ sv = .int .u64 (s : Int) ∧ s = t * 2 ^ (k - i) ∧ s ≤ 9007199254740992 ∧ ev = .int .i64 (last + i) ∧ Below w.heap.size w wr) (fun sv _ _ => (intOf sv).toNat)
    case atStart => exact ⟨0, size, Nat.zero_le _, rfl, HD.out.symm, by omega, by congr 1; omega, Below.refl _ _⟩
    case round =>
      obtain ⟨i, s, hi, rfl, hst, hsl, rfl, hbw⟩ := hrel
      have HBW := Lib.hid hbw
      have htp : 0 < t := by have := HO.out; omega
      have hsp : 0 < s := by rw [hst]; exact Nat.mul_pos htp (Nat.pow_pos (by decide))
      have d1 : decide (0 < (s : Int)) = true := by simp; omega
      have ho2 := HO.out
      by_cases hlt : i < k
      · have h2 : s = 2 * (t * 2 ^ (k - (i + 1))) := by
          rw [hst, show k - i = k - (i + 1) + 1 by omega, Nat.pow_succ]; ac_rfl
        have d2 : ((s : Int) % 2 == 0) = true := by simp; omega
        have hm0 : (s : Int) % 2 = 0 := by omega
        have hh : s / 2 = t * 2 ^ (k - (i + 1)) := by omega
        have HH := Lib.hid hh
        clear h2 hst hbw hh ho2
        go_wp2_with fail
        refine ⟨⟨i + 1, s / 2, by omega, rfl, HH.out, by omega, ?_, HBW.out⟩, by simp [intOf]; omega⟩
        have h9 : last + (i : Int) + 1 = last + ((i + 1 : Nat) : Int) := by omega
        rw [h9]
      · obtain rfl : i = k := by omega
        have hst2 : s = t := by rw [hst, Nat.sub_self, Nat.pow_zero, Nat.mul_one]
        subst hst2
        have hm1 : (s : Int) % 2 = 1 := by omega
        clear hst hbw ho2
        go_wp2_with fail
        refine (HJ.out wr).mono ?_
        rintro e w1 ⟨rfl, hb1⟩
        have HB1 := Lib.hid (HBW.out.trans (hb1.mono HBW.out.size))
        clear hb1
        go_wp2_with fail
        go_ret
        exact ⟨rfl, HB1.out⟩

end Go.Proofs.YtjokpfgncmdomaaGreatDoor

/- girderref02: Zero, top and Rounded of a number: the walks -/
namespace Go.Proofs.YtjokpfgncmdomaaGreatDoor
open Go.RowKit Go.Sort

theorem bz {N : Nat} : ((blen N : Int) == 0) = decide (N = 0) := by
  by_cases h : N = 0
  · subst h; rfl
  · have := blen_pos h
    have h2 : blen N ≠ 0 := by omega
    simp [h, h2]
/-- a number of girderref02 -/
def NAt (w : World) (v : Value) (s : Bool) (xs : List Nat) (e : Int) : Prop := ∃ A n c, v = .agg #[.bool s, .slice A n c, .int .i64 e] ∧ LAt w (.slice A n c) xs

set_option maxRecDepth 100000 in
set_option maxHeartbeats 4000000 in
theorem zeroN_any (v : Value) (s : Bool) (xs : List Nat) (e : Int) (w : World) (h : NAt w v s xs e) (hl : Lds xs) (hn : xs.length ≤ 10000000000) :
    Calls Tryz.prog 157 #[v] w fun r w' => r = .returned (.bool (decide (ln xs = 0))) ∧ Below w.heap.size w w' := by
  obtain ⟨A, n, c, rfl, hx⟩ := h
  have HX := Lib.hid hx
  have HL := Lib.hid hl
  obtain ⟨z, hz⟩ : ∃ z, z = decide (ln xs = 0) := ⟨_, rfl⟩
  have hb := bz (N := ln xs)
  rw [← hz] at hb ⊢
  clear hx hl hz
  go_enter Tryz.func157, Tryz.ntmps157
  go_wp2_with fail
  refine (natBits_any _ xs _ (HX.out.below (below1 ..)) HL.out hn).mono ?_
  rintro e w1 ⟨rfl, hb1⟩
  have HB1 := Lib.hid (below_then (below1 w _) hb1)
  clear hb1
  go_wp2_with fail
  go_ret
  exact ⟨rfl, HB1.out⟩
set_option maxRecDepth 100000 in
set_option maxHeartbeats 4000000 in
theorem topN_any (v : Value) (s : Bool) (xs : List Nat) (e : Int) (w : World) (h : NAt w v s xs e) (hl : Lds xs) (hn : xs.length ≤ 1000000000) (he : -1000000000 ≤ e) (he2 : e ≤ 1000000000) :
    Calls Tryz.prog 158 #[v] w fun r w' => r = .returned (.int .i64 (e + blen (ln xs))) ∧ Below w.heap.size w w' := by
  obtain ⟨A, n, c, rfl, hx⟩ := h
  have HX := Lib.hid hx
  have HL := Lib.hid hl
  obtain ⟨b, hb⟩ : ∃ b, b = blen (ln xs) := ⟨_, rfl⟩
  have hbl : b ≤ 100000000000 := by
    rw [hb]
    have h1 := ln_lt hl
    rw [W64_pow] at h1
    have := blen_le_of_lt h1
    omega
  rw [← hb]
  have HBB := Lib.hid hb
  have hbx := below1 w (.cells #[.bool s, .slice A n c, .int .i64 e] 102)
  have k1 := new_cell w #[.bool s, .slice A n c, .int .i64 e] 102 1 _ rfl
  have k2 := new_cell w #[.bool s, .slice A n c, .int .i64 e] 102 2 _ rfl
  obtain ⟨w0, hw0⟩ : ∃ w0, w0 = w.alloc (.cells #[.bool s, .slice A n c, .int .i64 e] 102) := ⟨_, rfl⟩
  rw [← hw0] at hbx k1 k2
  have HB0 := Lib.hid hbx
  have HW0 := Lib.hid hw0
  have hwr : IntKind.i64.wrap (e + (b : Int)) = e + b := IntWalk.i64_in _ (by omega)
  clear hx hl hb hbx hw0
  go_enter Tryz.func158, Tryz.ntmps158
  go_wp2_with fail
  rw [← HW0.out]
  refine wp_region_held_drew (S := (fun w' => w'.cell? ⟨w.heap.size, 1, none⟩ = some (.slice A n c) ∧ w'.cell? ⟨w.heap.size, 2, none⟩ = some (.int .i64 e))) (by kernel_rfl) ?_ (fun hHeld => ?_)
  · first | exact True.intro | ((try dsimp only); go_keep)
  clear k1 k2
  refine tkH (i := 0) (v := ?_) rfl (by kernel_rfl) (Or.inl ⟨by kernel_rfl, ?_⟩) (by assumption) ?_
  rotate_left 1
  · (intro w hSw; (try dsimp only at hSw); go_simp; try with_reducible rfl)
  try simp only [lyA, lyB, lyC, Act.put, lyD, lyE, lyF]
  refine tkH (i := 1) (v := ?_) rfl (by kernel_rfl) (Or.inl ⟨by kernel_rfl, ?_⟩) (by assumption) ?_
  rotate_left 1
  · (intro w hSw; (try dsimp only at hSw); go_simp; try with_reducible rfl)
  try simp only [lyA, lyB, lyC, Act.put, lyD, lyE, lyF]
  refine tkH (i := 2) (v := ?_) rfl (by kernel_rfl) (Or.inl ⟨by kernel_rfl, ?_⟩) (by assumption) ?_
  rotate_left 1
  · (intro w hSw; (try dsimp only at hSw); go_simp; try with_reducible rfl)
  try simp only [lyA, lyB, lyC, Act.put, lyD, lyE, lyF]
  refine tkH (i := 3) (v := ?_) rfl (by kernel_rfl) (Or.inl ⟨by kernel_rfl, ?_⟩) (by assumption) ?_
  rotate_left 1
  · (intro w hSw; (try dsimp only at hSw); go_simp; try with_reducible rfl)
  try simp only [lyA, lyB, lyC, Act.put, lyD, lyE, lyF]
  refine wpAnyH_ready (rs := [4]) (by kernel_rfl) (by simp) ?_
  refine AllReadyH.cons rfl (fun K hK => ?_) AllReadyH.nil
  go_simp
  (refine (natBits_any _ xs w0.drew (HX.out.below HB0.out.drew) HL.out (by omega)).mono ?_; rw [← HBB.out]; rintro e w4 ⟨rfl, hb4⟩; have hHeld := And.intro (bat hb4 hHeld.1) (bat hb4 hHeld.2); have HB4 := Lib.hid (HB0.out.drew.trans (hb4.mono HB0.out.size)); clear hb4)
  try go_wp2_with fail
  refine hK.out _ _ ?_ (fun hHeld => ?_)
  · first | exact True.intro | ((try dsimp only); go_keep)
  clear hK K
  try simp only [lyA, lyB, lyC, Act.put, lyD, lyE, lyF]
  refine tkH (i := 5) (v := ?_) rfl (by kernel_rfl) (Or.inl ⟨by kernel_rfl, ?_⟩) (by assumption) ?_
  rotate_left 1
  · (intro w hSw; (try dsimp only at hSw); go_simp; try with_reducible rfl)
  try simp only [lyA, lyB, lyC, Act.put, lyD, lyE, lyF]
  refine wpAnyH_ready (rs := [6]) (by kernel_rfl) (by simp) ?_
  refine AllReadyH.cons rfl (fun K hK => ?_) AllReadyH.nil
  go_simp
  refine hK.out _ _ ?_ (fun hHeld => ?_)
  · first | exact True.intro | ((try dsimp only); go_keep)
  clear hK K
  try simp only [lyA, lyB, lyC, Act.put, lyD, lyE, lyF]
  refine wpAnyH_done (by kernel_rfl) ?_ _
  go_wp2_with fail
  go_ret
  exact ⟨rfl, HB4.out⟩

end Go.Proofs.YtjokpfgncmdomaaGreatDoor

/- girderref02.Rounded of a number that has places behind the last one: the walk -/
namespace Go.Proofs.YtjokpfgncmdomaaGreatDoor
open Go.RowKit Go.Sort

theorem half_cmp {M c : Nat} (hc : 1 ≤ c) (hl : M % 2 ^ c ≠ 0) :
    cmpN (M % 2 ^ c) (2 ^ (c - 1)) = if M / 2 ^ (c - 1) % 2 = 1 then (if M % 2 ^ (c - 1) = 0 then 0 else 1) else -1 := by
  obtain ⟨d, rfl⟩ : ∃ d, c = d + 1 := ⟨c - 1, by omega⟩
  rw [Nat.add_sub_cancel]
  have hp : 0 < 2 ^ d := Nat.pow_pos (by decide)
  have e : M % 2 ^ (d + 1) = M % 2 ^ d + 2 ^ d * (M / 2 ^ d % 2) := by rw [Nat.pow_succ, Nat.mod_mul]
  have hr := Nat.mod_lt M hp
  rw [e]
  unfold cmpN
  by_cases h : M / 2 ^ d % 2 = 1
  · rw [if_pos h, h, Nat.mul_one]
    by_cases h0 : M % 2 ^ d = 0
    · rw [if_pos h0, h0, Nat.zero_add, if_neg (Nat.lt_irrefl _), if_neg (Nat.lt_irrefl _)]
    · rw [if_neg h0, if_neg (by omega), if_pos (by omega)]
  · have h0 : M / 2 ^ d % 2 = 0 := by omega
    rw [if_neg h, h0, Nat.mul_zero, Nat.add_zero, if_pos hr]
theorem lim_head {q : Nat} (h : q ≠ 0) : (lim q)[0]? = some (q % W64) := by
  rw [lim_succ h]; rfl
theorem odd_limb {q : Nat} : q % W64 % 2 = q % 2 := by
  show q % 18446744073709551616 % 2 = q % 2
  omega
theorem lim_len_ln {xs : List Nat} {q k : Nat} (h : Lds xs) (hq : q ≤ ln xs) (hn : xs.length ≤ k) : (lim q).length ≤ k :=
  Nat.le_trans (lim_len_le (Nat.lt_of_le_of_lt hq (ln_lt h))) hn
theorem lim_cell {w : World} {A : Option Addr} {n c q : Nat} (h : LAt w (.slice A n c) (lim q)) (hq : q ≠ 0) (hb : (lim q).length ≤ 1000000000000) : ∃ (b o k g : Nat), A = some ⟨b, o, none⟩ ∧ n = k + 1 ∧ n ≤ c ∧ k < 1000000000000 ∧ w.cell? ⟨b, o, none⟩ = some (.int .u64 (g : Int)) ∧ b < w.heap.size ∧ g < 18446744073709551616 ∧ ((g : Int) % 2 == 1) = decide (q % 2 = 1) ∧ (q < W64 → g = q) := by
  obtain ⟨A', n', c', e, hn, hc, hr⟩ := h.parts
  injection e with e1 e2 e3
  subst e1 e2 e3
  have hh := lim_head hq
  have hl := hr.num
  have hpos : 0 < n := by
    rcases Nat.eq_zero_or_pos n with h0 | h0
    · rw [h0] at hn
      exact absurd (lim_len_zero.1 hn.symm) hq
    · exact h0
  obtain ⟨b, o, rfl, hSb, hcc⟩ := hr.elem Lc.clen hh (by omega)
  have q0 := hcc 0 _ rfl
  refine ⟨b, o, n - 1, q % W64, rfl, by omega, hc, by omega, ?_, hSb, Nat.mod_lt _ (by decide), ?_, fun h => Nat.mod_eq_of_lt h⟩
  · exact q0
  · have h2 := odd_limb (q := q)
    by_cases h1 : q % 2 = 1
    · rw [decide_eq_true h1]
      have : (((q % W64 : Nat) : Int)) % 2 = 1 := by omega
      rw [this]; rfl
    · rw [decide_eq_false h1]
      have : (((q % W64 : Nat) : Int)) % 2 = 0 := by omega
      rw [this]; rfl
/-- too great for a float? -/
theorem big_iff {size : Nat} {last : Int} (hs : size ≤ 2 ^ 53) (hl : -1074 ≤ last) (hn : last = -1074 ∨ 2 ^ 52 ≤ size) : (1024 < (blen size : Int) + last) ↔ ¬ rungS size last < 2047 * 2 ^ 52 := by
  have hp : (last + 1074).toNat = last + 1074 := by omega
  have e : ((rungS size last : Nat) : Int) = (last + 1074) * 4503599627370496 + size := by
    unfold rungS
    rw [Int.natCast_add, Int.natCast_mul, hp]; rfl
  have hb54 : blen size ≤ 54 := blen_le_of_lt (by omega)
  constructor
  · intro h h2
    have h53 : 53 ≤ blen size ∨ blen size ≤ 52 := by omega
    rcases hn with h3 | h3
    · omega
    · have hb53 : 53 ≤ blen size := by
        by_cases h4 : 53 ≤ blen size
        · exact h4
        · have := blen_lt (N := size)
          have := Nat.pow_le_pow_right (show 0 < 2 by decide) (show blen size ≤ 52 by omega)
          omega
      by_cases h5 : blen size = 54
      · have h6 := blen_le (N := size) (by omega)
        rw [h5] at h6
        omega
      · omega
  · intro h
    by_cases h2 : 1024 < (blen size : Int) + last
    · exact h2
    · exfalso
      apply h
      rcases hn with h3 | h3
      · omega
      · have hb53 : 53 ≤ blen size := by
          by_cases h4 : 53 ≤ blen size
          · exact h4
          · have := blen_lt (N := size)
            have := Nat.pow_le_pow_right (show 0 < 2 by decide) (show blen size ≤ 52 by omega)
            omega
        by_cases h5 : blen size = 54
        · omega
        · have := blen_lt (N := size)
          rw [show blen size = 53 by omega] at this
          omega

theorem last_le {size : Nat} {last : Int} (hn : last = -1074 ∨ 2 ^ 52 ≤ size) (h : ¬ 1024 < (blen size : Int) + last) : last ≤ 971 := by
  rcases hn with h3 | h3
  · omega
  · have hb53 : 53 ≤ blen size := by
      by_cases h4 : 53 ≤ blen size
      · exact h4
      · have := blen_lt (N := size)
        have := Nat.pow_le_pow_right (show 0 < 2 by decide) (show blen size ≤ 52 by omega)
        omega
    omega

set_option maxRecDepth 100000 in
set_option maxHeartbeats 32000000 in
theorem roundedR_any (v : Value) (s : Bool) (xs : List Nat) (e L md : Int) (M c : Nat) (w : World) (h : NAt w v s xs e) (hl : Lds xs) (hn : xs.length ≤ 1000000) (he : -100000000 ≤ e) (he2 : e ≤ 100000000) (hMx : M = ln xs) (hM : M ≠ 0) (hL : L = lastR M e) (hc : L - e = (c : Int)) (hc1 : 1 ≤ c) :
    Calls Tryz.prog 120 #[v, .int .i8 md] w fun r w' => r = .returned (.float .f64 (fbits s (sizeR M c md s) L md)) ∧ Below w.heap.size w w' := by
  obtain ⟨A, n, cp, rfl, hx⟩ := h
  obtain ⟨b, hb⟩ : ∃ b, b = blen M := ⟨_, rfl⟩
  have hbl : b ≤ 64000000 := by
    rw [hb, hMx]
    have h1 := ln_lt hl
    rw [W64_pow] at h1
    have := blen_le_of_lt h1
    omega
  have hLm : L = max ((b : Int) + e - 53) (-1074) := by rw [hL, hb]; rfl
  have hcb : c ≤ 200000000 := by omega
  -- the size
  obtain ⟨Z, hZ⟩ : ∃ Z, Z = sizeR M c md s := ⟨_, rfl⟩
  have hzb := size_bounds M c md s
  rw [← hZ] at hzb
  have hp : 0 < 2 ^ c := Nat.pow_pos (by decide)
  have hq53 : M / 2 ^ c < 2 ^ 53 := by
    refine Nat.div_lt_of_lt_mul ?_
    rw [← Nat.pow_add]
    refine Nat.lt_of_lt_of_le (blen_lt (N := M)) (Nat.pow_le_pow_right (by decide) ?_)
    rw [← hb]; omega
  have hq52 : L = -1074 ∨ 2 ^ 52 ≤ M / 2 ^ c := by
    by_cases h : L = -1074
    · exact .inl h
    · right
      rw [Nat.le_div_iff_mul_le hp, ← Nat.pow_add]
      refine Nat.le_trans (Nat.pow_le_pow_right (by decide) ?_) (blen_le hM)
      rw [← hb]; omega
  have hZ53 : Z ≤ 2 ^ 53 := by omega
  have hZ52 : L = -1074 ∨ 2 ^ 52 ≤ Z := hq52.imp id (fun h => by omega)
  have hbig := big_iff hZ53 (show -1074 ≤ L by omega) hZ52
  rw [← hZ]
  obtain ⟨R, hR⟩ : ∃ R, R = fbits s Z L md := ⟨_, rfl⟩
  rw [← hR]
  have HX := Lib.hid hx
  have HL := Lib.hid hl
  have HMX := Lib.hid hMx
  have HM := Lib.hid hM
  have HBB := Lib.hid hb
  have HZ := Lib.hid hZ
  have HQ53 := Lib.hid hq53
  have HZ53 := Lib.hid hZ53
  have HZ52 := Lib.hid hZ52
  have HBIG := Lib.hid hbig
  have HR := Lib.hid hR
  have HLM := Lib.hid hLm
  obtain ⟨w0, hw0⟩ : ∃ w0, w0 = w.alloc (.cells #[.bool s, .slice A n cp, .int .i64 e] 102) := ⟨_, rfl⟩
  have hb0 : Below w.heap.size w w0 := by rw [hw0]; exact below1 ..
  have g1 : w0.heap[w.heap.size]? = some (.cells #[.bool s, .slice A n cp, .int .i64 e] 102 (0, 0)) := by rw [hw0]; exact blk_new ..
  have z0 : w.heap.size < w0.heap.size := by rw [hw0]; simp
  have k1 := (blk_cells g1).1
  have k10 := k1 0
  have k11 := k1 1
  have k12 := k1 2
  simp only [List.getElem?_toArray, List.getElem?_cons_zero, List.getElem?_cons_succ] at k10 k11 k12
  have HK := Lib.hid (And.intro k10 (And.intro k11 k12))
  have HB0 := Lib.hid hb0
  have HNA : Hid (∀ w', Below w0.heap.size w0 w' → NAt w' (.agg #[.bool s, .slice A n cp, .int .i64 e]) s xs e) := Lib.hid (fun w' hb' => ⟨A, n, cp, rfl, (hx.below hb0).below hb'⟩)
  have HW0 := Lib.hid hw0
  have hL1 : -1074 ≤ L ∧ L ≤ 200000000 := by omega
  rw [hw0] at k10 k11 k12
  clear hx hl hMx hM hL hb hZ hzb hp hq53 hq52 hZ53 hZ52 hbig hR hw0 hb0 g1 k1 hLm
  have hge : decide (L ≤ e) = false := decide_eq_false (by omega)
  have hw1 : IntKind.i64.wrap ((e + (b : Int)) - 53) = (e + (b : Int)) - 53 := IntWalk.i64_in _ (by omega)
  have hw2 : IntKind.i64.wrap (L - e) = (c : Int) := by rw [hc]; exact IntWalk.i64_in _ (by omega)
  have hw3 : IntKind.i64.wrap ((c : Int) - 1) = ((c - 1 : Nat) : Int) := by rw [show (c : Int) - 1 = ((c - 1 : Nat) : Int) by omega]; exact IntWalk.i64_in _ (by omega)
  have HW1 := Lib.hid hw1
  have HW2 := Lib.hid hw2
  have HW3 := Lib.hid hw3
  have HGE := Lib.hid hge
  have HC1 := Lib.hid hc1
  have HCB := Lib.hid hcb
  have HL1 := Lib.hid hL1
  clear hw1 hw2 hw3 hge hc hc1 hcb hL1
  go_enter Tryz.func120, Tryz.ntmps120
  go_upto_region 3 with fail
  rw [← HW0.out]
  refine (zeroN_any _ s xs e w0 (HNA.out w0 (Below.refl _ _)) HL.out (by omega)).mono ?_
  rintro r w1 ⟨rfl, hb1⟩
  have hz0 : decide (ln xs = 0) = false := by rw [← HMX.out]; exact decide_eq_false HM.out
  rw [hz0]
  have HB1 := Lib.hid hb1
  obtain ⟨k10, k11, k12⟩ := HK.out
  have c0 := bat hb1 k10
  have c1 := bat hb1 k11
  have c2 := bat hb1 k12
  clear hb1 hz0
  go_upto_region 3 with fail
  go_cut [5] (fun lv wx => lv = .int .i64 L ∧ Below w0.heap.size w0 wx)
  case first =>
    go_wp2_with fail
    refine (topN_any _ s xs e w1 (HNA.out w1 HB1.out) HL.out (by omega) (by omega) (by omega)).mono ?_
    rintro r w2 ⟨rfl, hb2⟩
    rw [← HMX.out, ← HBB.out]
    have HB2 := Lib.hid (HB1.out.trans (hb2.mono HB1.out.size))
    have hw1 := HW1.out
    clear hb2 k10 k11 k12 c0 c1 c2
    go_wp2_with fail
    all_goals
      go_meet
      refine ⟨congrArg (Value.int IntKind.i64) ?_, HB2.out⟩
      have := HLM.out
      omega
  case rest =>
    obtain ⟨rfl, hb2⟩ := hcut
    have HB2 := Lib.hid hb2
    clear c0 c1 c2
    have c0 := bat hb2 k10
    have c1 := bat hb2 k11
    have c2 := bat hb2 k12
    have hge := HGE.out
    clear k10 k11 k12 hb2
    go_upto_if 23 with fail
    go_cut [6] (fun sv wx => LAt wx sv (lim Z) ∧ Below w0.heap.size w0 wx)
    case first =>
      have hw2 := HW2.out
      have zz2 := HB2.out.size
      obtain ⟨q3, hq3⟩ : ∃ q3, q3 = M / 2 ^ c := ⟨_, rfl⟩
      obtain ⟨q4, hq4⟩ : ∃ q4, q4 = M / 2 ^ (c - 1) := ⟨_, rfl⟩
      obtain ⟨l3, hl3⟩ : ∃ l3, l3 = lostB M c := ⟨_, rfl⟩
      obtain ⟨l4, hl4⟩ : ∃ l4, l4 = lostB M (c - 1) := ⟨_, rfl⟩
      have hlen3 : (lim q3).length ≤ 1000000 := lim_len_ln HL.out (by rw [hq3, HMX.out]; exact Nat.div_le_self _ _) hn
      have hlen4 : (lim q4).length ≤ 1000000 := lim_len_ln HL.out (by rw [hq4, HMX.out]; exact Nat.div_le_self _ _) hn
      have HQ3 := Lib.hid hq3
      have HQ4 := Lib.hid hq4
      have HL3 := Lib.hid hl3
      have HL4 := Lib.hid hl4
      have HLEN3 := Lib.hid hlen3
      have HLEN4 := Lib.hid hlen4
      clear hq3 hq4 hl3 hl4 hlen3 hlen4
      go_wp2_with fail
      refine (natDown_any _ xs c wc (HX.out.below (HB0.out.trans (HB2.out.mono HB0.out.size))) HL.out (by omega) (by have := HCB.out; omega)).mono ?_
      rintro r w3 ⟨v3, rfl, h3, hb3⟩
      rw [← HMX.out, ← HL3.out]
      rw [← HMX.out, ← HQ3.out] at h3
      have HB3 := Lib.hid (HB2.out.trans (hb3.mono HB2.out.size))
      have H3 := Lib.hid h3
      obtain ⟨A3, n3, c3, rfl, hn3, hc3, hr3⟩ := h3.parts
      have d0 := bat hb3 c0
      have d1 := bat hb3 c1
      have d2 := bat hb3 c2
      clear h3 hb3 hr3 hc3 hn3 c0 c1 c2
      cases l3
      · have HZ3 : Hid (Z = q3) := Lib.hid (by
          rw [HZ.out, HQ3.out]
          unfold sizeR
          rw [if_neg]
          intro h
          have := HL3.out
          unfold lostB at this
          have h2 := of_decide_eq_false this.symm
          omega)
        go_wp2_with fail
        go_meet
        exact ⟨by rw [HZ3.out]; exact H3.out, HB3.out⟩
      · have hw3 := HW3.out
        go_wp2_with fail
        refine (natDown_any _ xs (c - 1) w3 (HX.out.below (HB0.out.trans (HB3.out.mono HB0.out.size))) HL.out (by omega) (by have := HCB.out; omega)).mono ?_
        rintro r w4 ⟨v4, rfl, h4, hb4⟩
        rw [← HMX.out, ← HL4.out]
        rw [← HMX.out, ← HQ4.out] at h4
        have HB4 := Lib.hid (HB3.out.trans (hb4.mono HB3.out.size))
        have H4 := Lib.hid h4
        have H34 := Lib.hid (H3.out.below hb4)
        obtain ⟨A4, n4, c4, rfl, hn4, hc4, hr4⟩ := h4.parts
        have c0 := bat hb4 d0
        have c1 := bat hb4 d1
        have c2 := bat hb4 d2
        have HN4 := Lib.hid hn4
        clear h4 hb4 hr4 hc4 hn4 d0 d1 d2
        go_upto_region 13 with fail
        obtain ⟨ob, hob⟩ : ∃ ob, ob = decide (q4 % 2 = 1) := ⟨_, rfl⟩
        go_cut [61] (fun bv wx => bv = .bool ob ∧ wx = w4)
        case first =>
          by_cases h0 : q4 = 0
          · subst h0
            have hn0 : n4 = 0 := by rw [HN4.out]; rfl
            subst hn0
            have e0 : ob = false := by rw [hob]; rfl
            subst e0
            clear hob
            go_wp2_with fail
            go_meet
            exact ⟨rfl, rfl⟩
          · obtain ⟨bb, oo, kk, g, rfl, rfl, hkc, hk1, hg, hbw, hgl, hgo, hgq⟩ := lim_cell H4.out h0 (by have := HLEN4.out; omega)
            rw [← hob] at hgo
            clear hob hgq
            go_wp2_with fail
            go_meet
            exact ⟨by simp [hgo], rfl⟩
        case rest =>
          obtain ⟨rfl, rfl⟩ := hcut
          obtain ⟨hf, hhf⟩ : ∃ hf : Int, hf = if ob = true then (if l4 = true then 1 else 0) else -1 := ⟨_, rfl⟩
          have HOB := Lib.hid hob
          clear hob
          go_upto_if 61 with fail
          go_cut [12] (fun hv wx => hv = .int .i64 hf ∧ wx = wc)
          case first =>
            cases ob
            · go_wp2_with fail
              go_meet
              exact ⟨by rw [hhf]; rfl, rfl⟩
            · cases l4
              · go_wp2_with fail
                go_meet
                exact ⟨by rw [hhf]; rfl, rfl⟩
              · go_wp2_with fail
                go_meet
                exact ⟨by rw [hhf]; rfl, rfl⟩
          case rest =>
            obtain ⟨rfl, rfl⟩ := hcut
            have HHF := Lib.hid hhf
            clear hhf
            go_upto_region 17 with fail
            obtain ⟨od, hod⟩ : ∃ od, od = decide (q3 % 2 = 1) := ⟨_, rfl⟩
            go_cut [77] (fun bv wx => bv = .bool (awayB md s hf od) ∧ wx = wc.drew)
            case first =>
              by_cases h0 : q3 = 0
              · subst h0
                have e0 : od = false := by rw [hod]; rfl
                have hn0 : n3 = 0 := by
                  obtain ⟨A5, n5, c5, e5, hn5, -⟩ := H3.out.parts
                  injection e5 with e5 e6 e7
                  rw [e6, hn5]; rfl
                subst hn0
                subst e0
                clear hod
                refine wp_region_held_drew (S := (fun w' => w'.cell? ⟨w.heap.size, 0, none⟩ = some (.bool s))) (by kernel_rfl) ?_ (fun hHeld => ?_)
                · first | exact True.intro | ((try dsimp only); go_keep)
                clear c0 c1 c2
                refine tkH (i := 0) (v := ?_) rfl (by kernel_rfl) (Or.inl ⟨by kernel_rfl, ?_⟩) (by assumption) ?_
                rotate_left 1
                · (intro w hSw; (try dsimp only at hSw); go_simp; try with_reducible rfl)
                try simp only [lyA, lyB, lyC, Act.put, lyD, lyE, lyF]
                refine tkH (i := 1) (v := ?_) rfl (by kernel_rfl) (Or.inl ⟨by kernel_rfl, ?_⟩) (by assumption) ?_
                rotate_left 1
                · (intro w hSw; (try dsimp only at hSw); go_simp; try with_reducible rfl)
                try simp only [lyA, lyB, lyC, Act.put, lyD, lyE, lyF]
                refine tkH (i := 2) (v := ?_) rfl (by kernel_rfl) (Or.inl ⟨by kernel_rfl, ?_⟩) (by assumption) ?_
                rotate_left 1
                · (intro w hSw; (try dsimp only at hSw); go_simp; try with_reducible rfl)
                try simp only [lyA, lyB, lyC, Act.put, lyD, lyE, lyF]
                refine tkH (i := 3) (v := ?_) rfl (by kernel_rfl) (Or.inl ⟨by kernel_rfl, ?_⟩) (by assumption) ?_
                rotate_left 1
                · (intro w hSw; (try dsimp only at hSw); go_simp; try with_reducible rfl)
                try simp only [lyA, lyB, lyC, Act.put, lyD, lyE, lyF]
                refine tkH (i := 4) (v := ?_) rfl (by kernel_rfl) (Or.inl ⟨by kernel_rfl, ?_⟩) (by assumption) ?_
                rotate_left 1
                · (intro w hSw; (try dsimp only at hSw); go_simp; try with_reducible rfl)
                try simp only [lyA, lyB, lyC, Act.put, lyD, lyE, lyF]
                refine tkH (i := 5) (v := ?_) rfl (by kernel_rfl) (Or.inl ⟨by kernel_rfl, ?_⟩) (by assumption) ?_
                rotate_left 1
                · (intro w hSw; (try dsimp only at hSw); go_simp; try with_reducible rfl)
                try simp only [lyA, lyB, lyC, Act.put, lyD, lyE, lyF]
                refine tkH (i := 6) (v := ?_) rfl (by kernel_rfl) (Or.inl ⟨by kernel_rfl, ?_⟩) (by assumption) ?_
                rotate_left 1
                · (intro w hSw; (try dsimp only at hSw); go_simp; try with_reducible rfl)
                try simp only [lyA, lyB, lyC, Act.put, lyD, lyE, lyF]
                refine tkH (i := 7) (v := ?_) rfl (by kernel_rfl) (Or.inl ⟨by kernel_rfl, ?_⟩) (by assumption) ?_
                rotate_left 1
                · (intro w hSw; (try dsimp only at hSw); go_simp; try with_reducible rfl)
                try simp only [lyA, lyB, lyC, Act.put, lyD, lyE, lyF]
                refine tkH (i := 8) (v := undef) rfl (by kernel_rfl) (Or.inr ⟨by kernel_rfl, rfl⟩) (by assumption) ?_
                try simp only [lyA, lyB, lyC, Act.put, lyD, lyE, lyF]
                refine tkH (i := 9) (v := undef) rfl (by kernel_rfl) (Or.inr ⟨by kernel_rfl, rfl⟩) (by assumption) ?_
                try simp only [lyA, lyB, lyC, Act.put, lyD, lyE, lyF]
                refine tkH (i := 10) (v := undef) rfl (by kernel_rfl) (Or.inr ⟨by kernel_rfl, rfl⟩) (by assumption) ?_
                try simp only [lyA, lyB, lyC, Act.put, lyD, lyE, lyF]
                refine tkH (i := 11) (v := undef) rfl (by kernel_rfl) (Or.inr ⟨by kernel_rfl, rfl⟩) (by assumption) ?_
                try simp only [lyA, lyB, lyC, Act.put, lyD, lyE, lyF]
                refine tkH (i := 12) (v := undef) rfl (by kernel_rfl) (Or.inr ⟨by kernel_rfl, rfl⟩) (by assumption) ?_
                try simp only [lyA, lyB, lyC, Act.put, lyD, lyE, lyF]
                refine tkH (i := 13) (v := ?_) rfl (by kernel_rfl) (Or.inl ⟨by kernel_rfl, ?_⟩) (by assumption) ?_
                rotate_left 1
                · (intro w hSw; (try dsimp only at hSw); go_simp; try with_reducible rfl)
                try simp only [lyA, lyB, lyC, Act.put, lyD, lyE, lyF]
                refine wpAnyH_ready (rs := [14]) (by kernel_rfl) (by simp) ?_
                refine AllReadyH.cons rfl (fun K hK => ?_) AllReadyH.nil
                go_simp
                (refine (up_ref md s hf false _).mono ?_; rintro e w5 ⟨rfl, rfl⟩)
                try go_wp2_with fail
                refine hK.out _ _ ?_ (fun hHeld => ?_)
                · first | exact True.intro | ((try dsimp only); go_keep)
                clear hK K
                try simp only [lyA, lyB, lyC, Act.put, lyD, lyE, lyF]
                refine wpAnyH_done (by kernel_rfl) ?_ _
                go_wp2_with fail
                go_meet
                exact ⟨rfl, rfl⟩
              · obtain ⟨bb, oo, kk, g, rfl, rfl, hkc, hk1, hg, hbw, hgl, hgo, hgq⟩ := lim_cell H34.out h0 (by have := HLEN3.out; omega)
                rw [← hod] at hgo
                have hgt : ((g : Int).tmod 2 == 1) = od := by rw [Int.tmod_eq_emod_of_nonneg (by omega)]; exact hgo
                clear hod hgq
                refine wp_region_held_drew (S := (fun w' => w'.cell? ⟨w.heap.size, 0, none⟩ = some (.bool s) ∧ w'.cell? ⟨bb, oo, none⟩ = some (.int .u64 (g : Int)))) (by kernel_rfl) ?_ (fun hHeld => ?_)
                · first | exact True.intro | ((try dsimp only); go_keep)
                clear c0 c1 c2 hg
                refine tkH (i := 0) (v := ?_) rfl (by kernel_rfl) (Or.inl ⟨by kernel_rfl, ?_⟩) (by assumption) ?_
                rotate_left 1
                · (intro w hSw; (try dsimp only at hSw); go_simp; try with_reducible rfl)
                try simp only [lyA, lyB, lyC, Act.put, lyD, lyE, lyF]
                refine tkH (i := 1) (v := ?_) rfl (by kernel_rfl) (Or.inl ⟨by kernel_rfl, ?_⟩) (by assumption) ?_
                rotate_left 1
                · (intro w hSw; (try dsimp only at hSw); go_simp; try with_reducible rfl)
                try simp only [lyA, lyB, lyC, Act.put, lyD, lyE, lyF]
                refine tkH (i := 2) (v := ?_) rfl (by kernel_rfl) (Or.inl ⟨by kernel_rfl, ?_⟩) (by assumption) ?_
                rotate_left 1
                · (intro w hSw; (try dsimp only at hSw); go_simp; try with_reducible rfl)
                try simp only [lyA, lyB, lyC, Act.put, lyD, lyE, lyF]
                refine tkH (i := 3) (v := ?_) rfl (by kernel_rfl) (Or.inl ⟨by kernel_rfl, ?_⟩) (by assumption) ?_
                rotate_left 1
                · (intro w hSw; (try dsimp only at hSw); go_simp; try with_reducible rfl)
                try simp only [lyA, lyB, lyC, Act.put, lyD, lyE, lyF]
                refine tkH (i := 4) (v := ?_) rfl (by kernel_rfl) (Or.inl ⟨by kernel_rfl, ?_⟩) (by assumption) ?_
                rotate_left 1
                · (intro w hSw; (try dsimp only at hSw); go_simp; try with_reducible rfl)
                try simp only [lyA, lyB, lyC, Act.put, lyD, lyE, lyF]
                refine tkH (i := 5) (v := ?_) rfl (by kernel_rfl) (Or.inl ⟨by kernel_rfl, ?_⟩) (by assumption) ?_
                rotate_left 1
                · (intro w hSw; (try dsimp only at hSw); go_simp; try with_reducible rfl)
                try simp only [lyA, lyB, lyC, Act.put, lyD, lyE, lyF]
                refine tkH (i := 6) (v := ?_) rfl (by kernel_rfl) (Or.inl ⟨by kernel_rfl, ?_⟩) (by assumption) ?_
                rotate_left 1
                · (intro w hSw; (try dsimp only at hSw); go_simp; try with_reducible rfl)
                try simp only [lyA, lyB, lyC, Act.put, lyD, lyE, lyF]
                refine tkH (i := 7) (v := ?_) rfl (by kernel_rfl) (Or.inl ⟨by kernel_rfl, ?_⟩) (by assumption) ?_
                rotate_left 1
                · (intro w hSw; (try dsimp only at hSw); go_simp; try with_reducible rfl)
                try simp only [lyA, lyB, lyC, Act.put, lyD, lyE, lyF]
                refine tkH (i := 8) (v := ?_) rfl (by kernel_rfl) (Or.inl ⟨by kernel_rfl, ?_⟩) (by assumption) ?_
                rotate_left 1
                · (intro w hSw; (try dsimp only at hSw); go_simp; try with_reducible rfl)
                try simp only [lyA, lyB, lyC, Act.put, lyD, lyE, lyF]
                refine tkH (i := 9) (v := ?_) rfl (by kernel_rfl) (Or.inl ⟨by kernel_rfl, ?_⟩) (by assumption) ?_
                rotate_left 1
                · (intro w hSw; (try dsimp only at hSw); go_simp; try with_reducible rfl)
                try simp only [lyA, lyB, lyC, Act.put, lyD, lyE, lyF]
                refine tkH (i := 10) (v := ?_) rfl (by kernel_rfl) (Or.inl ⟨by kernel_rfl, ?_⟩) (by assumption) ?_
                rotate_left 1
                · (intro w hSw; (try dsimp only at hSw); go_simp; try with_reducible rfl)
                try simp only [lyA, lyB, lyC, Act.put, lyD, lyE, lyF]
                refine tkH (i := 11) (v := ?_) rfl (by kernel_rfl) (Or.inl ⟨by kernel_rfl, ?_⟩) (by assumption) ?_
                rotate_left 1
                · (intro w hSw; (try dsimp only at hSw); go_simp; try with_reducible rfl)
                try simp only [lyA, lyB, lyC, Act.put, lyD, lyE, lyF]
                refine tkH (i := 12) (v := ?_) rfl (by kernel_rfl) (Or.inl ⟨by kernel_rfl, ?_⟩) (by assumption) ?_
                rotate_left 1
                · (intro w hSw; (try dsimp only at hSw); go_simp; try with_reducible rfl)
                try simp only [lyA, lyB, lyC, Act.put, lyD, lyE, lyF]
                refine tkH (i := 13) (v := ?_) rfl (by kernel_rfl) (Or.inl ⟨by kernel_rfl, ?_⟩) (by assumption) ?_
                rotate_left 1
                · (intro w hSw; (try dsimp only at hSw); go_simp; try with_reducible rfl)
                try simp only [lyA, lyB, lyC, Act.put, lyD, lyE, lyF]
                refine wpAnyH_ready (rs := [14]) (by kernel_rfl) (by simp) ?_
                refine AllReadyH.cons rfl (fun K hK => ?_) AllReadyH.nil
                go_simp
                (refine (up_ref md s hf od _).mono ?_; rintro e w5 ⟨rfl, rfl⟩)
                try go_wp2_with fail
                refine hK.out _ _ ?_ (fun hHeld => ?_)
                · first | exact True.intro | ((try dsimp only); go_keep)
                clear hK K
                try simp only [lyA, lyB, lyC, Act.put, lyD, lyE, lyF]
                refine wpAnyH_done (by kernel_rfl) ?_ _
                go_wp2_with fail
                go_meet
                exact ⟨rfl, rfl⟩
            case rest =>
              obtain ⟨rfl, rfl⟩ := hcut
              have hb5 := HB4.out.drew
              obtain ⟨up, hup⟩ : ∃ up, up = awayB md s hf od := ⟨_, rfl⟩
              have HZ3 : Hid (Z = if up = true then q3 + 1 else q3) := Lib.hid (by
                have h3 := HL3.out
                unfold lostB at h3
                have h3' := of_decide_eq_true h3.symm
                have h4 : hf = cmpN (M % 2 ^ c) (2 ^ (c - 1)) := by
                  rw [half_cmp HC1.out h3', HHF.out, HOB.out, HL4.out, ← HQ4.out]
                  unfold lostB
                  by_cases h5 : q4 % 2 = 1
                  · rw [if_pos h5, if_pos (decide_eq_true h5)]
                    by_cases h6 : M % 2 ^ (c - 1) = 0
                    · rw [if_pos h6, if_neg]
                      intro h7
                      exact of_decide_eq_true h7 h6
                    · rw [if_neg h6, if_pos (decide_eq_true h6)]
                  · rw [if_neg h5, if_neg]
                    intro h7
                    exact h5 (of_decide_eq_true h7)
                rw [HZ.out]
                unfold sizeR
                rw [← HQ3.out, ← h4, ← hod, ← hup]
                by_cases h8 : up = true
                · rw [if_pos h8, if_pos ⟨by omega, h8⟩]
                · rw [if_neg h8, if_neg (fun h => h8 h.2)])
              rw [← hup]
              have H3c := Lib.hid H34.out.drawn
              have HB5 := Lib.hid hb5
              have zz5 := hb5.size
              clear hb5 hup hod
              cases up
              · go_wp2_with fail
                go_meet
                exact ⟨by rw [HZ3.out]; exact H3c.out, HB5.out⟩
              · go_wp2_with fail
                refine (natOf_any 1 _ (by omega)).mono ?_
                rintro r w6 ⟨v6, rfl, h6, hb6⟩
                have H6 := Lib.hid h6
                have H36 := Lib.hid (H3c.out.below hb6)
                have HB6 := Lib.hid (HB5.out.trans (hb6.mono HB5.out.size))
                clear h6 hb6
                go_wp2_with fail
                refine (natAdd_any _ v6 _ _ w6 H36.out H6.out (lim_lds _) (lim_lds _) (by have := HLEN3.out; omega) (by decide)).mono ?_
                rintro r w7 ⟨v7, rfl, h7, hb7⟩
                have H7 := Lib.hid h7
                have HB7 := Lib.hid (HB6.out.trans (hb7.mono HB6.out.size))
                clear h7 hb7
                go_wp2_with fail
                go_meet
                refine ⟨?_, HB7.out⟩
                have h8 := H7.out
                rw [ln_dig, ln_dig] at h8
                rw [HZ3.out]
                exact h8
    case rest =>
      obtain ⟨hz, hbz⟩ := hcut
      have H3 := Lib.hid hz
      have HBZ := Lib.hid hbz
      obtain ⟨A3, n3, c3, rfl, hn3, hc3, hr3⟩ := hz.parts
      have zzz := hbz.size
      have d0 := bat (hbz.mono (Nat.le_refl _)) (HK.out.1)
      have hlz : (lim Z).length ≤ 1 := lim_len_le (by rw [Nat.pow_one]; exact Nat.lt_of_le_of_lt HZ53.out (by decide))
      have HLZ := Lib.hid hlz
      have HN3 := Lib.hid hn3
      clear hz hbz hr3 hn3 hlz c0 c1 c2
      go_wp2_with fail
      refine (natBits_any _ _ wc H3.out (lim_lds _) (by have := HLZ.out; omega)).mono ?_
      rintro r w8 ⟨rfl, hb8⟩
      rw [ln_dig]
      have HB8 := Lib.hid (HBZ.out.trans (hb8.mono HBZ.out.size))
      have H38 := Lib.hid (H3.out.below hb8)
      have e0 := bat hb8 d0
      clear d0
      obtain ⟨bl, hbl⟩ : ∃ bl, bl = blen Z := ⟨_, rfl⟩
      have hb54 : bl ≤ 54 := by rw [hbl]; exact blen_le_of_lt (Nat.lt_of_le_of_lt HZ53.out (by decide))
      have hL1 := HL1.out
      have hw8 : IntKind.i64.wrap ((bl : Int) + L) = (bl : Int) + L := IntWalk.i64_in _ (by omega)
      rw [← hbl]
      have HBL := Lib.hid hbl
      clear hbl hb8
      by_cases hbig : 1024 < (bl : Int) + L
      · have hnr : ¬ rungS Z L < 2047 * 2 ^ 52 := by rw [HBL.out] at hbig; exact HBIG.out.1 hbig
        have HRR : Hid (R = if mostB md s = true then sw s 9218868437227405311 else sw s 9218868437227405312) := Lib.hid (by rw [HR.out]; unfold fbits; exact if_neg hnr)
        have HU : Hid (∀ w, Calls Tryz.prog 161 #[.int .i8 md, .bool s] w fun e w' => e = .returned (.float .f64 R) ∧ Below w.heap.size w w') := Lib.hid (fun w => by rw [HRR.out]; exact hugeR_any md s w)
        clear hnr HRR
        go_wp2_with fail
        refine (HU.out w8).mono ?_
        rintro r w9 ⟨rfl, hb9⟩
        have HB9 := Lib.hid (HB8.out.trans (hb9.mono HB8.out.size))
        clear hb9
        go_wp2_with fail
        go_ret
        exact ⟨rfl, HB0.out.trans (HB9.out.mono HB0.out.size)⟩
      · have hyr : rungS Z L < 2047 * 2 ^ 52 := by
          by_cases h : rungS Z L < 2047 * 2 ^ 52
          · exact h
          · rw [HBL.out] at hbig; exact absurd (HBIG.out.2 h) hbig
        have h971 : L ≤ 971 := last_le HZ52.out (by rw [← HBL.out]; exact hbig)
        have HRR : Hid (R = sw s (rungS Z L)) := Lib.hid (by rw [HR.out]; unfold fbits; exact if_pos hyr)
        have HF := Lib.hid (fun w => floatR_any s Z L w HZ53.out (by omega) h971 HZ52.out hyr)
        clear hyr h971
        by_cases h0 : Z = 0
        · have hn0 : n3 = 0 := by rw [HN3.out, h0]; rfl
          subst hn0
          have HF0 : Hid (∀ w, Calls Tryz.prog 162 #[.bool s, .int .u64 0, .int .i64 L] w fun e w' => e = .returned (.float .f64 (sw s (rungS Z L))) ∧ Below w.heap.size w w') := Lib.hid (fun w => by have h := HF.out w; rw [show ((Z : Nat) : Int) = 0 by omega] at h; exact h)
          clear h0
          go_wp2_with fail
          refine (HF0.out w8).mono ?_
          rintro r w9 ⟨rfl, hb9⟩
          have HB9 := Lib.hid (HB8.out.trans (hb9.mono HB8.out.size))
          clear hb9
          go_wp2_with fail
          go_ret
          exact ⟨by rw [HRR.out]; rfl, HB0.out.trans (HB9.out.mono HB0.out.size)⟩
        · obtain ⟨bb, oo, kk, g, rfl, rfl, hkc, hk1, hg, hbw, hgl, hgo, hgq⟩ := lim_cell H38.out h0 (by have := HLZ.out; omega)
          obtain rfl : g = Z := hgq (Nat.lt_of_le_of_lt HZ53.out (by decide))
          clear hgo hgq h0
          go_wp2_with fail
          refine (HF.out w8).mono ?_
          rintro r w9 ⟨rfl, hb9⟩
          have HB9 := Lib.hid (HB8.out.trans (hb9.mono HB8.out.size))
          clear hb9
          go_wp2_with fail
          go_ret
          exact ⟨by rw [HRR.out]; rfl, HB0.out.trans (HB9.out.mono HB0.out.size)⟩

end Go.Proofs.YtjokpfgncmdomaaGreatDoor
