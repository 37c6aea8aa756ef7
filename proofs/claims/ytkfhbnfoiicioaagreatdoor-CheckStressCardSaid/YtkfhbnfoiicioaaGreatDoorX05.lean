import Derived.Test.YtkfhbnfoiicioaaGreatDoorX04
import Derived.Laws.BitsAllLaws
set_option linter.unusedSimpArgs false
set_option linter.unusedVariables false
/- bignum: bit, TrailingZeroBits, SetBit: the walks -/
namespace Go.Proofs.YtkfhbnfoiicioaaGreatDoor
open Go.RowKit Go.Sort

theorem dig_word {N k x : Nat} (h : (dig N)[k]? = some x) : x = N / W32 ^ k % W32 := by
  have h1 := nv_split (dig N) k
  obtain ⟨hl, e⟩ := List.getElem?_eq_some_iff.1 h
  have h2 : (dig N).drop k = x :: (dig N).drop (k + 1) := by rw [List.drop_eq_getElem_cons hl, e]
  have h3 : nv ((dig N).drop k) = x + W32 * nv ((dig N).drop (k + 1)) := by rw [h2]; rfl
  have h4 := nv_take_lt (dig_wds N) k
  have h5 : N / W32 ^ k = nv ((dig N).drop k) := by
    have h6 : N = nv ((dig N).take k) + W32 ^ k * nv ((dig N).drop k) := (nv_dig N).symm.trans h1
    generalize nv ((dig N).take k) = u at h4 h6
    generalize nv ((dig N).drop k) = v at h6 ⊢
    rw [h6, Nat.add_mul_div_left _ _ (w_pos k), Nat.div_eq_of_lt h4, Nat.zero_add]
  rw [h5, h3, Nat.add_mul_mod_self_left, Nat.mod_eq_of_lt ((dig_wds N).get h)]
theorem bit_word {N k s : Nat} (hs : s < 32) : N / W32 ^ k % W32 / 2 ^ s % 2 = N / 2 ^ (k * 32 + s) % 2 := by
  have e : W32 = 2 ^ s * 2 ^ (32 - s) := by rw [← Nat.pow_add, show s + (32 - s) = 32 by omega]
  rw [Nat.pow_add, ← Nat.div_div_eq_div_mul, Nat.mul_comm k 32, ← W32_pow]
  generalize N / W32 ^ k = y
  rw [e, Nat.mod_mul_right_div_self, show (32 - s) = (31 - s) + 1 by omega, Nat.pow_succ, Nat.mul_comm (2 ^ (31 - s)) 2, Nat.mod_mul_right_mod]

theorem and_one {x s : Nat} (hx : x < 18446744073709551616) : bits BinOp.and IntKind.u64 (IntKind.u64.wrap ((x : Int) / 2 ^ s)) 1 = ((x / 2 ^ s % 2 : Nat) : Int) := by
  have e : (x : Int) / 2 ^ s = ((x / 2 ^ s : Nat) : Int) := by simp
  have h : x / 2 ^ s < 18446744073709551616 := Nat.lt_of_le_of_lt (Nat.div_le_self _ _) hx
  rw [e]
  generalize x / 2 ^ s = y at h
  rw [IntKind.wrap_u64, Int.emod_eq_of_lt (by omega) (by omega)]
  have h2 := bits_and_u64_nat y 1 h (by decide)
  rw [Nat.and_one_is_mod] at h2
  exact h2
set_option maxRecDepth 100000 in
set_option maxHeartbeats 4000000 in
theorem bit_any (A : Option Addr) (n c N h s : Nat) (S : Nat → Prop) (w : World) (hx : RdE Wc 1 w S A n (dig N)) (hn : n ≤ 10000000000) (hh : h ≤ 10000000000) (hs : s < 32) :
    Calls Tryz.prog 144 #[.slice A n c, .int .i64 ((h * 32 + s : Nat) : Int)] w fun e w' => e = .returned (.int .u64 ((N / 2 ^ (h * 32 + s) % 2 : Nat) : Int)) ∧ w = w' := by
  have HX := Lib.hid hx
  clear hx
  have e1 : ((h * 32 + s : Nat) : Int).tdiv 32 = (h : Int) := by rw [Int.tdiv_eq_ediv_of_nonneg (by omega)]; omega
  have e1' : ((h * 32 + s : Nat) : Int) / 32 = (h : Int) := by omega
  have e2 : ((h * 32 + s : Nat) : Int) % 32 = (s : Int) := by omega
  obtain ⟨M, hM⟩ : ∃ M : Nat, M = h * 32 + s := ⟨_, rfl⟩
  rw [← hM] at e1 e1' e2 ⊢
  have HM := Lib.hid hM
  have lM : M ≤ 400000000000 := by omega
  clear hM
  by_cases hlt : h < n
  · obtain ⟨x, ex⟩ := get_some HX.out.num hlt
    obtain ⟨b1, o1, rfl, hb1, hc⟩ := HX.out.elem (f := Wc) (size := 1) (fun _ => rfl) ex (by omega)
    have q1 : w.cell? ⟨b1, o1 + h, none⟩ = some (.int .u32 (x : Int)) := by have h := hc 0 _ rfl; rwa [Nat.mul_one, Nat.add_zero] at h
    have HV := Lib.hid (show x / 2 ^ s % 2 = N / 2 ^ M % 2 by rw [dig_word ex, bit_word hs, HM.out])
    have HB := Lib.hid (and_one (x := x) (s := s) (Nat.lt_of_lt_of_le (dig_wds N |>.get ex) (by decide)))
    clear hc ex hb1
    go_enter Tryz.func144, Tryz.ntmps144
    go_wp2_with fail
    go_ret
    refine ⟨?_, rfl⟩
    show Ending.returned (.int .u64 (bits BinOp.and IntKind.u64 (IntKind.u64.wrap ((x : Int) / 2 ^ s)) 1)) = _
    rw [HB.out, HV.out]
  · have HZ : Hid (N / 2 ^ M % 2 = 0) := Lib.hid (by
      have h1 := lt_dig_len N
      rw [HX.out.num, W32_pow] at h1
      have h2 : 2 ^ (32 * n) ≤ 2 ^ M := Nat.pow_le_pow_right (by decide) (by rw [HM.out]; omega)
      rw [Nat.div_eq_of_lt (by omega)])
    go_enter Tryz.func144, Tryz.ntmps144
    go_wp2_with fail
    go_ret
    exact ⟨by rw [HZ.out]; rfl, rfl⟩

theorem bit_at (A : Option Addr) (n c N M : Nat) (S : Nat → Prop) (w : World) (hx : RdE Wc 1 w S A n (dig N)) (hn : n ≤ 10000000000) (hh : M ≤ 10000000000) :
    Calls Tryz.prog 144 #[.slice A n c, .int .i64 (M : Int)] w fun e w' => e = .returned (.int .u64 ((N / 2 ^ M % 2 : Nat) : Int)) ∧ w = w' := by
  have h := bit_any A n c N (M / 32) (M % 32) S w hx hn (by omega) (by omega)
  rwa [Nat.div_add_mod' M 32] at h

/-- k noughts stand at the low end, then a one -/
def LowB (N k : Nat) : Prop := N / 2 ^ k % 2 = 1 ∧ N % 2 ^ k = 0
theorem low_lt {N k : Nat} (h0 : N ≠ 0) (h : N % 2 ^ k = 0) : k < blen N := by
  have h1 : 2 ^ k ≤ N := Nat.le_of_dvd (by omega) (Nat.dvd_of_mod_eq_zero h)
  apply Nat.lt_of_not_le
  intro h2
  have h3 := blen_lt (N := N)
  have h4 := Nat.pow_le_pow_right (show 0 < 2 by decide) h2
  omega
theorem low_step {N k : Nat} (h : N % 2 ^ k = 0) (h1 : N / 2 ^ k % 2 = 0) : N % 2 ^ (k + 1) = 0 := by
  rw [Nat.pow_succ, Nat.mod_mul, h, h1, Nat.mul_zero]

set_option maxRecDepth 100000 in
set_option maxHeartbeats 4000000 in
theorem tz_int (b o : Nat) (x : Int) (w : World) (hx : IntAt w b o x) (hx0 : x ≠ 0) (hl : (dig x.natAbs).length ≤ 1000000) :
    Calls Tryz.prog 121 #[.pointer (some ⟨b, o, none⟩)] w fun e w' => (∃ k : Nat, e = .returned (.int .u64 (k : Int)) ∧ LowB x.natAbs k) ∧ w = w' := by
  obtain ⟨A, n, c, s, HN, HS, h0, h1, hc, HR⟩ := hx.open
  rw [← HN.out] at hl
  have HR' : Hid (RdE Wc 1 w (fun d => d < w.heap.size) A n (dig x.natAbs)) := Lib.hid (HR.out.keep (fun _ _ => rfl))
  have hN0 : x.natAbs ≠ 0 := by omega
  obtain ⟨N, hN⟩ : ∃ N, N = x.natAbs := ⟨_, rfl⟩
  rw [← hN] at HR' HN hN0 ⊢
  have hn0 : 0 < n := by rw [HN.out]; exact List.length_pos_iff.2 (dig_pos hN0)
  have hBL : blen N ≤ 32 * n := blen_le_of_lt (by rw [← W32_pow, HN.out]; exact lt_dig_len N)
  have HN0 := Lib.hid hN0
  have HBL := Lib.hid hBL
  have e0 : ((n : Int) == 0) = false := by simp; omega
  clear hx HR hN hN0 hBL h0 hx0
  go_enter Tryz.func121, Tryz.ntmps121
  go_wp2_with fail
  go_loopw [3] (fun i wr => ∃ k : Nat, i = .int .u64 k ∧ w = wr ∧ N % 2 ^ k = 0) (fun i _ => blen N - (intOf i).toNat)
  case atStart => exact ⟨0, rfl, rfl, Nat.mod_one _⟩
  case round =>
    obtain ⟨k, rfl, rfl, hs⟩ := hrel
    have hk := low_lt HN0.out hs
    have HS := Lib.hid hs
    have lk : k ≤ 32000000 := by have := HBL.out; omega
    have ew : IntKind.i64.wrap (k : Int) = (k : Int) := IntWalk.i64_in _ (by omega)
    clear hs
    go_wp2_with fail
    refine (bit_at A n c N k _ w HR'.out (by omega) (by omega)).mono ?_
    rintro e w' ⟨rfl, rfl⟩
    rcases Nat.mod_two_eq_zero_or_one (N / 2 ^ k) with hb | hb
    · have HB := Lib.hid hb
      rw [hb]
      clear hb
      go_wp2_with fail
      go_roundw
      case rel => exact ⟨k + 1, by go_num, trivial, low_step HS.out HB.out⟩
      case measure => simp [intOf]; omega
    · have HB := Lib.hid hb
      rw [hb]
      clear hb
      go_wp2_with fail
      go_ret
      exact ⟨⟨k, rfl, HB.out, HS.out⟩, rfl⟩

end Go.Proofs.YtkfhbnfoiicioaaGreatDoor

/- dyad.whole: the walk -/
namespace Go.Proofs.YtkfhbnfoiicioaaGreatDoor
open Go.RowKit Go.Sort

/-- a dyad as it lies in a struct: sign, limbs, power -/
structure DV where
  neg : Bool
  mag : List Nat
  exp : Int
  deriving DecidableEq
/-- its whole number -/
def DV.top (d : DV) : Int := if d.neg then -(ln d.mag : Int) else (ln d.mag : Int)
/-- the value v, in the world w, is the dyad d -/
def DAt (w : World) (v : Value) (d : DV) : Prop := ∃ A n c, v = .agg #[.bool d.neg, .slice A n c, .int .i64 d.exp] ∧ RdE Lc 1 w (fun b => b < w.heap.size) A n d.mag ∧ Lds d.mag
theorem ln_drop {ls : List Nat} {j x : Nat} (h : ls[j]? = some x) : ln (ls.drop j) = x + W64 * ln (ls.drop (j + 1)) := by
  obtain ⟨hl, e⟩ := List.getElem?_eq_some_iff.1 h
  rw [List.drop_eq_getElem_cons hl, e]
  rfl
theorem or_low {V x : Nat} (hx : x < W64) : (V * 2 ^ 64) ||| x = x + W64 * V := by
  have h := Nat.two_pow_add_eq_or_of_lt (i := 64) (b := x) hx V
  rw [Nat.mul_comm V, ← h, Nat.add_comm]
theorem dig_ln_drop {ls : List Nat} (h : Lds ls) (j : Nat) : (dig (ln (ls.drop j))).length ≤ 2 * ls.length := Nat.le_trans (dig_ln_len (h.drop j)) (by rw [List.length_drop]; omega)

theorem or_lenA {V : Nat} (h : (dig V).length ≤ 200000) : (dig ((V : Int) * 2 ^ 64).natAbs).length ≤ 10000000 := by
  have e : ((V : Int) * 2 ^ 64).natAbs = V * 2 ^ 64 := by omega
  rw [e]
  have := mul_len V (2 ^ 64)
  have h3 : (dig (2 ^ 64)).length ≤ 3 := dig_len_le (by decide)
  omega
theorem or_lenB {x : Nat} (h : x < W64) : (dig (x : Int).natAbs).length ≤ 10000000 := by
  rw [Int.natAbs_natCast]
  exact Nat.le_trans (dig_len_small (show x < 18446744073709551616 from h)) (by decide)
set_option maxRecDepth 100000 in
set_option maxHeartbeats 4000000 in
theorem whole_dyad (v : Value) (d : DV) (w : World) (hd : DAt w v d) (hl : d.mag.length ≤ 100000) :
    Calls Tryz.prog 94 #[v] w fun e w' => ∃ g, e = .returned (.pointer (some ⟨g, 0, none⟩)) ∧ w.heap.size ≤ g ∧ g < w'.heap.size ∧ IntAt w' g 0 d.top ∧ Below w.heap.size w w' := by
  obtain ⟨A, n, c, rfl, hx, hls⟩ := hd
  obtain ⟨s, xs, ex⟩ := d
  simp only at hx hls hl
  have en := hx.num
  have hn : n ≤ 100000 := by omega
  have HX := Lib.hid hx
  have HL := Lib.hid hls
  have EN := Lib.hid en
  clear hx hls en hl
  have k0 := new_cell w #[.bool s, .slice A n c, .int .i64 ex] 78 0 _ rfl
  have k1 := new_cell w #[.bool s, .slice A n c, .int .i64 ex] 78 1 _ rfl
  have K := Lib.hid (And.intro k0 k1)
  clear k0 k1
  go_enter Tryz.func94, Tryz.ntmps94
  go_wp2_with fail
  go_loopw [9] (fun iv wr => ∃ k : Nat, k ≤ n ∧ iv = .int .i64 k ∧ Below w.heap.size w wr ∧ wr.cell? ⟨w.heap.size, 0, none⟩ = some (.bool s) ∧ wr.cell? ⟨w.heap.size, 1, none⟩ = some (.slice A n c) ∧ IntAt wr (w.heap.size + 1) 0 (ln (xs.drop (n - k)) : Int)) (fun iv _ => n - (intOf iv).toNat)
  case atStart =>
    refine ⟨0, Nat.zero_le _, rfl, below2 .., bat (below1 ..) K.out.1, bat (below1 ..) K.out.2, ?_⟩
    rw [List.drop_of_length_le (by rw [EN.out]; omega)]
    have h := new_intAt (w.alloc (.cells #[.bool s, .slice A n c, .int .i64 ex] 78))
    rwa [World.size_alloc] at h
  case round =>
    obtain ⟨k, hk, rfl, hb, c0, c1, hi⟩ := hrel
    have HB := Lib.hid hb
    have HI := Lib.hid hi
    have C0 := Lib.hid c0
    have hm := hi.lt
    obtain ⟨V, hV⟩ : ∃ V, V = ln (xs.drop (n - k)) := ⟨_, rfl⟩
    rw [← hV] at HI
    have HV := Lib.hid hV
    have hVl : (dig V).length ≤ 200000 := by rw [hV]; exact Nat.le_trans (dig_ln_drop HL.out _) (by rw [EN.out]; omega)
    have HVL := Lib.hid hVl
    clear hb hi hV hVl c0
    by_cases hlt : k < n
    · have hlt' : (k : Int) < (n : Int) := by omega
      go_wp2_with fail
      refine (lsh_int _ 0 _ 0 (V : Int) (V : Int) 64 wr HI.out HI.out (by rw [Int.natAbs_natCast]; have := HVL.out; omega) (by omega)).mono ?_
      rintro e w1 ⟨rfl, hi1, hu1⟩
      obtain ⟨j, hj⟩ : ∃ j, j = n - 1 - k := ⟨_, rfl⟩
      have hji : (n : Int) - 1 - (k : Int) = (j : Int) := by omega
      obtain ⟨x, hx⟩ := get_some EN.out (show j < n by omega)
      have lx := HL.out.get hx
      have lx' : x < 18446744073709551616 := lx
      obtain ⟨bb, oo, rfl, hbb, hcc⟩ := HX.out.elem (f := Lc) (size := 1) (fun _ => rfl) hx (by omega)
      have q0 : w.cell? ⟨bb, oo + j, none⟩ = some (.int .u64 (x : Int)) := by have h := hcc 0 _ rfl; rwa [Nat.mul_one, Nat.add_zero] at h
      have hb1 : Below w.heap.size w w1 := HB.out.trans (hu1.below (by omega) HB.out.size)
      have z1 := hb1.size
      have hb2 := below1 w1 newI
      have q1 := bat hb2 (hu1.cellOf c1 (fun e => absurd e (by omega)))
      have q2 := bat hb2 (bat hb1 q0)
      have c0' := hu1.cellOf C0.out (fun e => absurd e (by omega))
      have HI1 := Lib.hid hi1
      have HB1 := Lib.hid hb1
      have C01 := Lib.hid c0'
      have C11 := Lib.hid (hu1.cellOf c1 (fun e => absurd e (by omega)))
      have HJ := Lib.hid hj
      have HXJ := Lib.hid hx
      have hm1 := hi1.lt
      have hwm : w.heap.size < w1.heap.size := by have := World.block_lt_of_cell? w1 ⟨w.heap.size, 0, none⟩ c0'; exact this
      clear hi1 hu1 hj hx hcc q0 c1 hb1 c0' hb2
      go_wp2_with fail
      refine (setU_int _ 0 0 x _ (new_intAt w1) lx').mono ?_
      rintro e w2 ⟨rfl, hi2, hu2⟩
      have hb2 := newB hu2
      have HI2 := Lib.hid hi2
      have HB2 := Lib.hid hb2
      have HV2 := Lib.hid (HI1.out.below hb2)
      have C02 := Lib.hid (bat hb2 C01.out)
      have C12 := Lib.hid (bat hb2 C11.out)
      have z2 := hb2.size
      clear hi2 hu2 hb2 q1 q2
      go_wp2_with fail
      refine (or_int _ 0 _ 0 _ 0 ((V : Int) * 2 ^ 64) ((V : Int) * 2 ^ 64) (x : Int) w2 HV2.out HV2.out HI2.out (by omega) (by omega) (or_lenA HVL.out) (or_lenB lx)).mono ?_
      rintro e w3 ⟨rfl, hi3, hu3⟩
      have HI3 := Lib.hid hi3
      have hb3 : Below w.heap.size w w3 := (HB1.out.trans (HB2.out.mono HB1.out.size)).trans (hu3.below (by omega) (by omega))
      have HB3 := Lib.hid hb3
      have C03 := Lib.hid (hu3.cellOf C02.out (fun e => absurd e (by omega)))
      have C13 := Lib.hid (hu3.cellOf C12.out (fun e => absurd e (by omega)))
      clear hi3 hu3 hb3
      go_wp2_with fail
      go_roundw
      case rel =>
        refine ⟨k + 1, by omega, by go_num, HB3.out, C03.out, C13.out, ?_⟩
        have h := HI3.out
        have e : ((V : Int) * 2 ^ 64).natAbs = V * 2 ^ 64 := by omega
        rw [e, Int.natAbs_natCast, or_low lx, HV.out] at h
        have hj := HJ.out
        have hd := ln_drop HXJ.out
        rw [show j + 1 = n - k by omega] at hd
        rw [show n - (k + 1) = j by omega, hd]
        exact h
      case measure => simp [intOf]; omega
    · obtain rfl : n = k := by omega
      have c0 := C0.out
      have hV' : V = ln xs := by rw [HV.out, Nat.sub_self]; rfl
      have HV' := Lib.hid hV'
      clear hV'
      cases s
      · go_wp2_with fail
        go_ret
        refine ⟨_, rfl, by omega, hm, ?_, HB.out⟩
        show IntAt _ _ 0 (ln xs : Int)
        rw [← HV'.out]
        exact HI.out
      · go_wp2_with fail
        refine (neg_int _ 0 _ 0 (V : Int) (V : Int) _ HI.out HI.out (by rw [Int.natAbs_natCast]; have := HVL.out; omega)).mono ?_
        rintro e w5 ⟨rfl, hi5, hu5⟩
        have HI5 := Lib.hid hi5
        have HB5 := Lib.hid (HB.out.trans (hu5.below (by omega) HB.out.size))
        have hm5 := hi5.lt
        clear hi5 hu5
        go_wp2_with fail
        go_ret
        refine ⟨_, rfl, by omega, hm5, ?_, HB5.out⟩
        show IntAt _ _ 0 (-(ln xs : Int))
        rw [← HV'.out]
        exact HI5.out

end Go.Proofs.YtkfhbnfoiicioaaGreatDoor

/- receivers that are objects, whatever they hold: give, of, And, Rsh (turned from I2, I10, I11, T2 by wip/Dy/gen_u5a; the answer's data is told apart) -/
namespace Go.Proofs.YtkfhbnfoiicioaaGreatDoor
open Go.RowKit Go.Sort

/-- an Int's two cells, whatever they hold -/
def IObj (w : World) (b o : Nat) : Prop := ∃ (s : Bool) (A : Option Addr) (n c : Nat), w.cell? ⟨b, o, none⟩ = some (.bool s) ∧ w.cell? ⟨b, o + 1, none⟩ = some (.slice A n c) ∧ w.frozen? ⟨b, o, none⟩ = false ∧ w.frozen? ⟨b, o + 1, none⟩ = false
theorem IntAt.iobj {w : World} {b o : Nat} {z : Int} (h : IntAt w b o z) : IObj w b o := by
  obtain ⟨A, c, h1, _, _⟩ := h.abs
  exact ⟨_, _, _, _, h.neg, h1, h.fz, h.fz1⟩
theorem IObj.lt {w : World} {b o : Nat} (h : IObj w b o) : b < w.heap.size := by
  obtain ⟨s, _, _, _, h0, _⟩ := h
  exact World.block_lt_of_cell? w ⟨b, o, none⟩ h0
theorem IObj.below {w w' : World} {b o : Nat} (h : IObj w b o) (hb : Below w.heap.size w w') : IObj w' b o := by
  have hlt := h.lt
  obtain ⟨s, A, n, c, h0, h1, f0, f1⟩ := h
  exact ⟨s, A, n, c, bat hb h0, bat hb h1, bfz hb hlt f0, bfz hb hlt f1⟩
theorem IObj.upd {w w' : World} {b o b' o' : Nat} (h : IObj w b' o') (hu : Upd w w' b o) (hne : b' ≠ b) : IObj w' b' o' := by
  have hlt := h.lt
  obtain ⟨s, A, n, c, h0, h1, f0, f1⟩ := h
  exact ⟨s, A, n, c, hu.cellOf h0 (fun e => absurd e hne), hu.cellOf h1 (fun e => absurd e hne), by rw [hu.frozenOf hlt]; exact f0, by rw [hu.frozenOf hlt]; exact f1⟩
theorem IObj.grown {w w' : World} {b o : Nat} {row : Option Nat} (h : IObj w b o) (hg : w.grownBy w' row) (hne : some b ≠ row) : IObj w' b o := by
  have hlt := h.lt
  obtain ⟨s, A, n, c, h0, h1, f0, f1⟩ := h
  have hk := hg.block b hlt hne
  exact ⟨s, A, n, c, (World.cell?_of_block (a := ⟨b, o, none⟩) hk).trans h0, (World.cell?_of_block (a := ⟨b, o + 1, none⟩) hk).trans h1, (World.frozen?_of_block (a := ⟨b, o, none⟩) hk).trans f0, (World.frozen?_of_block (a := ⟨b, o + 1, none⟩) hk).trans f1⟩
/-- an Int of which the words lie in blocks of S -/
def IntS (S : Nat → Prop) (w : World) (b o : Nat) (z : Int) : Prop := IntAt w b o z ∧ ∃ A n c, w.cell? ⟨b, o + 1, none⟩ = some (.slice A n c) ∧ RdE Wc 1 w S A n (dig z.natAbs)
theorem IntS.imp {S S' : Nat → Prop} {w : World} {b o : Nat} {z : Int} (h : IntS S w b o z) (hS : ∀ d, S d → S' d) : IntS S' w b o z := by
  obtain ⟨h0, A, n, c, h1, h2⟩ := h
  exact ⟨h0, A, n, c, h1, h2.imp hS⟩
theorem IntAt.toS {w : World} {b o : Nat} {z : Int} (h : IntAt w b o z) : IntS (fun d => d < w.heap.size) w b o z := by
  obtain ⟨A, c, h1, _, h2⟩ := h.abs
  exact ⟨h, A, _, c, h1, h2⟩
theorem IntS.upd {S : Nat → Prop} {w w' : World} {b o b' o' : Nat} {z : Int} (h : IntS S w b' o' z) (hu : Upd w w' b o) (hne : b' ≠ b) : IntS S w' b' o' z := by
  obtain ⟨h0, A, n, c, h1, h2⟩ := h
  exact ⟨h0.upd hu (fun e => absurd e hne), A, n, c, hu.cellOf h1 (fun e => absurd e hne), hu.words h2⟩
theorem IntS.below {S : Nat → Prop} {w w' : World} {b o : Nat} {z : Int} (h : IntS S w b o z) (hb : Below w.heap.size w w') (hS : ∀ d, S d → d < w.heap.size) : IntS S w' b o z := by
  obtain ⟨h0, A, n, c, h1, h2⟩ := h
  exact ⟨h0.below hb, A, n, c, bat hb h1, h2.keep (Keeps.below hb hS)⟩
theorem IntS.grown {S : Nat → Prop} {w w' : World} {b o : Nat} {z : Int} {row : Option Nat} (h : IntS S w b o z) (hg : w.grownBy w' row) (hne : some b ≠ row) (hS : ∀ d, S d → d < w.heap.size ∧ some d ≠ row) : IntS S w' b o z := by
  obtain ⟨h0, A, n, c, h1, h2⟩ := h
  have hlt := h0.lt
  have hk := hg.block b hlt hne
  have h1' := (World.cell?_of_block (a := ⟨b, o + 1, none⟩) hk).trans h1
  obtain ⟨A0, c0, k1, k2, k3⟩ := h0.abs
  rw [h1] at k1
  simp only [Option.some.injEq, Value.slice.injEq] at k1
  obtain ⟨rfl, rfl, rfl⟩ := k1
  have h2' := h2.keep (Keeps.grown hg hS)
  exact ⟨⟨(World.cell?_of_block (a := ⟨b, o, none⟩) hk).trans h0.neg, ⟨A, c, h1', k2, h2'.imp fun d hd => Nat.lt_of_lt_of_le (hS d hd).1 hg.size⟩, (World.frozen?_of_block (a := ⟨b, o, none⟩) hk).trans h0.fz, (World.frozen?_of_block (a := ⟨b, o + 1, none⟩) hk).trans h0.fz1⟩, A, _, c, h1', h2'⟩

theorem give_obj (b o : Nat) (z : Int) (neg : Bool) (A : Option Addr) (n c : Nat) (w : World) (hz : IObj w b o) (hn : n = (dig z.natAbs).length) (hc : n ≤ c) (hr : RdE Wc 1 w (fun d => d < w.heap.size) A n (dig z.natAbs))
    (hs : (neg && decide (0 < n)) = decide (z < 0)) :
    Calls Tryz.prog 113 #[.pointer (some ⟨b, o, none⟩), .bool neg, .slice A n c] w fun e w' => e = .returned (.pointer (some ⟨b, o, none⟩)) ∧ IntAt w' b o z ∧ w'.cell? ⟨b, o + 1, none⟩ = some (.slice A n c) ∧ Upd w w' b o := by
  obtain ⟨s0, A0, n0, c0, h0, h1, hff⟩ := hz
  obtain ⟨hf, hf1⟩ := hff
  have HR := Lib.hid hr
  have HS := Lib.hid hs
  have HN := Lib.hid hn
  clear hr hs hn
  have H2 := fun u => Lib.hid (two_set u A n c h0 h1)
  cases neg
  · go_enter Tryz.func113, Tryz.ntmps113
    go_wp2_with fail
    go_ret
    obtain ⟨hu, k0, k1⟩ := (H2 false).out
    refine ⟨rfl, IntAt.of_cells k0 k1 ?_ HN.out hc ((hu.words HR.out).imp fun d hd => Nat.lt_of_lt_of_le hd hu.size) (by rw [hu.fz]; exact hf) (by rw [hu.fz]; exact hf1), k1, hu⟩
    have := HS.out
    simpa using this
  · by_cases hp : 0 < n
    · have hp' : decide ((0 : Int) < (n : Int)) = true := by simp; omega
      go_enter Tryz.func113, Tryz.ntmps113
      go_wp2_with fail
      go_ret
      obtain ⟨hu, k0, k1⟩ := (H2 true).out
      refine ⟨rfl, IntAt.of_cells k0 k1 ?_ HN.out hc ((hu.words HR.out).imp fun d hd => Nat.lt_of_lt_of_le hd hu.size) (by rw [hu.fz]; exact hf) (by rw [hu.fz]; exact hf1), k1, hu⟩
      have := HS.out
      simpa [hp] using this
    · have hp' : decide ((0 : Int) < (n : Int)) = false := by simp; omega
      go_enter Tryz.func113, Tryz.ntmps113
      go_wp2_with fail
      go_ret
      obtain ⟨hu, k0, k1⟩ := (H2 false).out
      refine ⟨rfl, IntAt.of_cells k0 k1 ?_ HN.out hc ((hu.words HR.out).imp fun d hd => Nat.lt_of_lt_of_le hd hu.size) (by rw [hu.fz]; exact hf) (by rw [hu.fz]; exact hf1), k1, hu⟩
      have := HS.out
      simpa [hp] using this


set_option maxRecDepth 100000 in
set_option maxHeartbeats 2000000 in
theorem of_obj (b o n B g : Nat) (xs : List Nat) (w : World) (hz : IObj w b o) (ho : w.ownsRow B 139 1 (.slice (some ⟨g, 0, none⟩) (n + 1) (n + 1)) (n + 1) (xs.flatMap Wc)) (hw : Wds xs) (ht : xs[n]? = some 0) (hn : n ≤ 100000000) :
    Calls Tryz.prog 136 #[.pointer (some ⟨b, o, none⟩), .slice (some ⟨g, 0, none⟩) (n + 1) (n + 1)] w fun e w' => e = .returned (.pointer (some ⟨b, o, none⟩)) ∧ IntAt w' b o (nv xs : Int) ∧ Upd w w' b o := by
  have q0 := own_wc ho ht
  have HZ := Lib.hid hz
  have HO := Lib.hid ho
  have HW := Lib.hid hw
  clear hz ho hw ht
  go_enter Tryz.func136, Tryz.ntmps136
  go_wp2_with fail
  refine (trim_own B g (n + 1) (n + 1) xs _ HO.out HW.out (by omega) (Nat.le_refl _)).mono ?_
  rintro e w1 ⟨rfl, hl1, hr1, hb1⟩
  have HR1 := Lib.hid hr1
  have HB1 := Lib.hid hb1
  clear hr1 hb1
  go_wp2_with fail
  refine (give_obj _ _ (nv xs : Int) false _ _ _ w1 (HZ.out.below HB1.out) rfl hl1 (HR1.out.imp fun d hd => hd.2) (by simp)).mono ?_
  rintro e w2 ⟨rfl, hi2, _, hu2⟩
  have HI2 := Lib.hid hi2
  have HU2 := Lib.hid hu2
  clear hi2 hu2
  go_wp2_with fail
  go_ret
  exact ⟨rfl, HI2.out, Upd.after HB1.out HU2.out HZ.out.lt⟩


set_option maxRecDepth 100000 in
set_option maxHeartbeats 4000000 in
theorem and_obj (b o b1 o1 b2 o2 : Nat) (x y : Int) (w : World) (hz : IObj w b o) (hx : IntAt w b1 o1 x) (hy : IntAt w b2 o2 y) (hx0 : 0 ≤ x) (hy0 : 0 ≤ y) (hl : (dig x.natAbs).length ≤ 10000000) (hl' : (dig y.natAbs).length ≤ 10000000) :
    Calls Tryz.prog 146 #[.pointer (some ⟨b, o, none⟩), .pointer (some ⟨b1, o1, none⟩), .pointer (some ⟨b2, o2, none⟩)] w fun e w' => e = .returned (.pointer (some ⟨b, o, none⟩)) ∧ IntAt w' b o ((x.natAbs &&& y.natAbs : Nat) : Int) ∧ Upd w w' b o := by
  have HX := Lib.hid hx
  have HY := Lib.hid hy
  have HZ := Lib.hid hz
  have hblt := hz.lt
  obtain ⟨A, n, c, s, HN, HS, h0, h1, hc, HR⟩ := hx.open
  rw [← HN.out] at hl
  obtain ⟨A', n', c', s', HN', HS', h0', h1', hc', HR'⟩ := hy.open
  rw [← HN'.out] at hl'
  clear hx hy hz
  rcases Nat.lt_trichotomy n n' with hc1 | hc1 | hc1
  · have hw1 : IntKind.i64.wrap ((n' : Int) + 1) = (n' : Int) + 1 := IntWalk.i64_in _ (by omega)
    go_enter Tryz.func146, Tryz.ntmps146
    go_wp2_with fail
    go_quiet (fail)
    clear hw1
    go_wp2_with fail
    refine (low_int b1 o1 (n' + 1) x _ (HX.out.below (below_drewN (Below.refl _ _) nq)) hx0 (by rw [← HN.out]; omega) (by omega)).mono ?_
    rintro e w1 ⟨rfl, ho1, hb1⟩
    have z1 := hb1.size
    have hs1 : w.heap.size < w1.heap.size := (ho1.lt w.heap.size rfl).2
    have HO1 := Lib.hid ho1
    have HB1 : Hid (Below w.heap.size w w1) := Lib.hid ((below_drewN (Below.refl w.heap.size w) nq).trans hb1)
    clear ho1 hb1
    go_wp2_with fail
    refine (low_int b2 o2 (n' + 1) y _ (HY.out.below HB1.out) hy0 (by rw [← HN'.out]; omega) (by omega)).mono ?_
    rintro e w2 ⟨rfl, ho2, hb2⟩
    have z2 := hb2.size
    have HO2 := Lib.hid ho2
    have HO1b := Lib.hid (own_below HO1.out hb2)
    have HB2 : Hid (Below w.heap.size w w2) := Lib.hid (below_then HB1.out hb2)
    clear ho2 hb2
    obtain ⟨xs, hxs⟩ : ∃ xs, xs = padded x.natAbs (n' + 1) := ⟨_, rfl⟩
    obtain ⟨ys, hys⟩ : ∃ ys, ys = padded y.natAbs (n' + 1) := ⟨_, rfl⟩
    have hxl : xs.length = n' + 1 := by rw [hxs]; exact padded_len (by rw [← HN.out]; omega)
    have hyl : ys.length = n' + 1 := by rw [hys]; exact padded_len (by rw [← HN'.out]; omega)
    have hxw : Wds xs := by rw [hxs]; exact padded_wds _ _
    have hyw : Wds ys := by rw [hys]; exact padded_wds _ _
    have hxn : nv xs = x.natAbs := by rw [hxs]; exact padded_nv _ _
    have hyn : nv ys = y.natAbs := by rw [hys]; exact padded_nv _ _
    have hxz : ∀ v, xs[n']? = some v → v = 0 := fun v h => by rw [hxs] at h; exact padded_zero (by rw [← HN.out]; omega) h
    have hyz : ∀ v, ys[n']? = some v → v = 0 := fun v h => by rw [hys] at h; exact padded_zero (by rw [← HN'.out]; omega) h
    have HO1c : Hid (w2.ownsRow w.heap.size 139 1 (.slice (some ⟨w.heap.size, 0, none⟩) (n' + 1) (n' + 1)) (n' + 1) (xs.flatMap Wc)) := Lib.hid (by rw [hxs]; exact HO1b.out)
    have HO2c : Hid (w2.ownsRow w1.heap.size 139 1 (.slice (some ⟨w1.heap.size, 0, none⟩) (n' + 1) (n' + 1)) (n' + 1) (ys.flatMap Wc)) := Lib.hid (by rw [hys]; exact HO2.out)
    have HXW := Lib.hid hxw
    have HYW := Lib.hid hyw
    have HXN := Lib.hid hxn
    have HYN := Lib.hid hyn
    have HXZ := Lib.hid hxz
    have HYZ := Lib.hid hyz
    clear hxs hys hxw hyw hxn hyn hxz hyz HO1 HO2 HO1b
    go_wp2_with fail
    go_loopw [10] (fun iv wr => ∃ (k : Nat) (zs : List Nat), k ≤ n' + 1 ∧ iv = .int .i64 k ∧ zs.length = n' + 1 ∧ Wds zs ∧ (∀ (j p q r : Nat), xs[j]? = some p → ys[j]? = some q → zs[j]? = some r → r = if j < k then p &&& q else p) ∧ wr.ownsRow w.heap.size 139 1 (.slice (some ⟨w.heap.size, 0, none⟩) (n' + 1) (n' + 1)) (n' + 1) (zs.flatMap Wc) ∧ wr.ownsRow w1.heap.size 139 1 (.slice (some ⟨w1.heap.size, 0, none⟩) (n' + 1) (n' + 1)) (n' + 1) (ys.flatMap Wc) ∧ Below w.heap.size w wr) (fun iv _ => n' + 1 - (intOf iv).toNat)
    case atStart => exact ⟨0, xs, Nat.zero_le _, rfl, hxl, HXW.out, fun j p q r h1 _ h3 => by rw [h1] at h3; injection h3 with h3; rw [← h3]; simp, HO1c.out, HO2c.out, HB2.out⟩
    case round =>
      obtain ⟨k, zs, hk, rfl, hzl, hzw, hrel', hou, hov, hbw⟩ := hrel
      have HOU := Lib.hid hou
      have HOV := Lib.hid hov
      have HBW := Lib.hid hbw
      have HZW := Lib.hid hzw
      have HREL := Lib.hid hrel'
      clear hou hov hbw hzw hrel'
      by_cases hlt : k < n' + 1
      · have hlt' : (k : Int) < (n' : Int) + 1 := by omega
        have g1 : (0 : Int) ≤ (k : Int) := by omega
        obtain ⟨p, hp⟩ := get_some hxl hlt
        obtain ⟨q, hq⟩ := get_some hyl hlt
        obtain ⟨r, hr⟩ := get_some hzl hlt
        obtain rfl : r = p := by have h := HREL.out k p q r hp hq hr; simpa using h
        have lp := hw0 HZW.out hr
        have lq := hw0 HYW.out hq
        have q1 := own_wc HOU.out hr
        have q2 := own_wc HOV.out hq
        have hf := HOU.out.frozenAt k
        have hbits : bits .and .u32 (r : Int) (q : Int) = ((r &&& q : Nat) : Int) := (bits_nat .u32 32 (by decide) wraps_u32 r q lp lq).1
        have hlr : r &&& q < W32 := Nat.lt_of_le_of_lt Nat.and_le_left lp
        have HP := Lib.hid hp
        have HQ := Lib.hid hq
        have HR9 := Lib.hid hr
        clear hp hq hr
        go_wp2_with fail
        refine wp_region_G (S := (fun w' => w'.cell? ⟨w.heap.size, k, none⟩ = some (.int .u32 (r : Int)) ∧ w'.cell? ⟨w1.heap.size, k, none⟩ = some (.int .u32 (q : Int)))) 10 (by kernel_rfl) ?_ (fun hHeld => ?_)
        · first | exact True.intro | ((try dsimp only); go_keep)
        refine tkG (i := 0) (v := ?_) rfl (by kernel_rfl) (Or.inl ⟨by kernel_rfl, ?_⟩) (by assumption) ?_
        rotate_left 1
        · (intro w hSw; (try dsimp only at hSw); go_simp; try with_reducible rfl)
        try simp only [lyA, lyB, lyC, Act.put, lyD, lyE, lyF]
        refine tkG (i := 1) (v := ?_) rfl (by kernel_rfl) (Or.inl ⟨by kernel_rfl, ?_⟩) (by assumption) ?_
        rotate_left 1
        · (intro w hSw; (try dsimp only at hSw); go_simp; try with_reducible rfl)
        try simp only [lyA, lyB, lyC, Act.put, lyD, lyE, lyF]
        refine tkG (i := 2) (v := ?_) rfl (by kernel_rfl) (Or.inl ⟨by kernel_rfl, ?_⟩) (by assumption) ?_
        rotate_left 1
        · (intro w hSw; (try dsimp only at hSw); go_simp; try with_reducible rfl)
        try simp only [lyA, lyB, lyC, Act.put, lyD, lyE, lyF]
        refine tkG (i := 3) (v := ?_) rfl (by kernel_rfl) (Or.inl ⟨by kernel_rfl, ?_⟩) (by assumption) ?_
        rotate_left 1
        · (intro w hSw; (try dsimp only at hSw); go_simp; try with_reducible rfl)
        try simp only [lyA, lyB, lyC, Act.put, lyD, lyE, lyF]
        refine tkG (i := 4) (v := ?_) rfl (by kernel_rfl) (Or.inl ⟨by kernel_rfl, ?_⟩) (by assumption) ?_
        rotate_left 1
        · (intro w hSw; (try dsimp only at hSw); go_simp; try with_reducible rfl)
        try simp only [lyA, lyB, lyC, Act.put, lyD, lyE, lyF]
        refine tkG (i := 5) (v := ?_) rfl (by kernel_rfl) (Or.inl ⟨by kernel_rfl, ?_⟩) (by assumption) ?_
        rotate_left 1
        · (intro w hSw; (try dsimp only at hSw); go_simp; try with_reducible rfl)
        try simp only [lyA, lyB, lyC, Act.put, lyD, lyE, lyF]
        refine tkG (i := 6) (v := ?_) rfl (by kernel_rfl) (Or.inl ⟨by kernel_rfl, ?_⟩) (by assumption) ?_
        rotate_left 1
        · (intro w hSw; (try dsimp only at hSw); go_simp; try with_reducible rfl)
        try simp only [lyA, lyB, lyC, Act.put, lyD, lyE, lyF]
        refine tkG (i := 7) (v := ?_) rfl (by kernel_rfl) (Or.inl ⟨by kernel_rfl, ?_⟩) (by assumption) ?_
        rotate_left 1
        · (intro w hSw; (try dsimp only at hSw); go_simp; try with_reducible rfl)
        try simp only [lyA, lyB, lyC, Act.put, lyD, lyE, lyF]
        refine tkG (i := 8) (v := ?_) rfl (by kernel_rfl) (Or.inl ⟨by kernel_rfl, ?_⟩) (by assumption) ?_
        rotate_left 1
        · (intro w hSw; (try dsimp only at hSw); go_simp; try with_reducible rfl)
        try simp only [lyA, lyB, lyC, Act.put, lyD, lyE, lyF]
        refine tkG (i := 9) (v := ?_) rfl (by kernel_rfl) (Or.inl ⟨by kernel_rfl, ?_⟩) (by assumption) ?_
        rotate_left 1
        · (intro w hSw; (try dsimp only at hSw); go_simp; try with_reducible rfl)
        try simp only [lyA, lyB, lyC, Act.put, lyD, lyE, lyF]
        refine wpAnyG_one (i := 10) (by kernel_rfl) rfl (fun K hK => ?_)
        go_simp
        refine hK.out _ _ ?_ (fun hHeld => ?_)
        · exact .inr (by kernel_rfl)
        clear hK K
        try simp only [lyA, lyB, lyC, Act.put, lyD, lyE, lyF]
        refine wpAnyG_done (by kernel_rfl) ?_ _
        go_wp2_with fail
        have ho1 := own_set_wc (own_drewN HOU.out 1) (i := k) (by omega) (r &&& q)
        have hv1 := (own_drewN HOV.out 1).kept ho1.2 (.inr (by simp only [Value.ownBlock]; intro e; injection e with e; omega))
        have hb1 := (below_drewN HBW.out 1).grown ho1.2 (Nat.le_of_lt (HOU.out.lt w.heap.size rfl).2) (fun g hg => by injection hg with hg; omega)
        exact ⟨⟨k + 1, zs.set k (r &&& q), by omega, by go_num, by simp [hzl], wds_set HZW.out hlr, zip_step (f := fun p q => p &&& q) HREL.out HP.out HQ.out rfl, ho1.1, hv1, hb1⟩, by simp [intOf]; omega⟩
      · obtain rfl : n' + 1 = k := by omega
        have hzip : zs = List.zipWith (· &&& ·) xs ys := get_zip_and hxl hyl hzl fun i p q r h1 h2 h3 => by
          have h := HREL.out i p q r h1 h2 h3
          rw [if_pos (by have := (List.getElem?_eq_some_iff.1 h1).1; omega)] at h
          exact h
        have hval : nv zs = x.natAbs &&& y.natAbs := by rw [hzip, nv_and xs ys (by omega) HXW.out HYW.out, HXN.out, HYN.out]
        obtain ⟨p, hp⟩ := get_some hxl (show n' < n' + 1 by omega)
        obtain ⟨q, hq⟩ := get_some hyl (show n' < n' + 1 by omega)
        obtain ⟨r, hr⟩ := get_some hzl (show n' < n' + 1 by omega)
        have hr0 : r = 0 := by
          have h := HREL.out n' p q r hp hq hr
          rw [HXZ.out p hp, HYZ.out q hq] at h
          simpa using h
        subst hr0
        have HVAL := Lib.hid hval
        have HR9 := Lib.hid hr
        clear hzip hval hp hq hr
        go_wp2_with fail
        refine (of_obj b o n' w.heap.size w.heap.size zs _ (HZ.out.below (HBW.out)) HOU.out HZW.out HR9.out (by omega)).mono ?_
        rintro e w5 ⟨rfl, hi5, hu5⟩
        rw [HVAL.out] at hi5
        have HI5 := Lib.hid hi5
        have HU5 := Lib.hid hu5
        clear hi5 hu5
        go_wp2_with fail
        go_ret
        exact ⟨rfl, HI5.out, Upd.after HBW.out HU5.out hblt⟩
  · subst hc1
    have hw1 : IntKind.i64.wrap ((n : Int) + 1) = (n : Int) + 1 := IntWalk.i64_in _ (by omega)
    go_enter Tryz.func146, Tryz.ntmps146
    go_wp2_with fail
    go_quiet (fail)
    clear hw1
    go_wp2_with fail
    refine (low_int b1 o1 (n + 1) x _ (HX.out.below (below_drewN (Below.refl _ _) nq)) hx0 (by rw [← HN.out]; omega) (by omega)).mono ?_
    rintro e w1 ⟨rfl, ho1, hb1⟩
    have z1 := hb1.size
    have hs1 : w.heap.size < w1.heap.size := (ho1.lt w.heap.size rfl).2
    have HO1 := Lib.hid ho1
    have HB1 : Hid (Below w.heap.size w w1) := Lib.hid ((below_drewN (Below.refl w.heap.size w) nq).trans hb1)
    clear ho1 hb1
    go_wp2_with fail
    refine (low_int b2 o2 (n + 1) y _ (HY.out.below HB1.out) hy0 (by rw [← HN'.out]; omega) (by omega)).mono ?_
    rintro e w2 ⟨rfl, ho2, hb2⟩
    have z2 := hb2.size
    have HO2 := Lib.hid ho2
    have HO1b := Lib.hid (own_below HO1.out hb2)
    have HB2 : Hid (Below w.heap.size w w2) := Lib.hid (below_then HB1.out hb2)
    clear ho2 hb2
    obtain ⟨xs, hxs⟩ : ∃ xs, xs = padded x.natAbs (n + 1) := ⟨_, rfl⟩
    obtain ⟨ys, hys⟩ : ∃ ys, ys = padded y.natAbs (n + 1) := ⟨_, rfl⟩
    have hxl : xs.length = n + 1 := by rw [hxs]; exact padded_len (by rw [← HN.out]; omega)
    have hyl : ys.length = n + 1 := by rw [hys]; exact padded_len (by rw [← HN'.out]; omega)
    have hxw : Wds xs := by rw [hxs]; exact padded_wds _ _
    have hyw : Wds ys := by rw [hys]; exact padded_wds _ _
    have hxn : nv xs = x.natAbs := by rw [hxs]; exact padded_nv _ _
    have hyn : nv ys = y.natAbs := by rw [hys]; exact padded_nv _ _
    have hxz : ∀ v, xs[n]? = some v → v = 0 := fun v h => by rw [hxs] at h; exact padded_zero (by rw [← HN.out]; omega) h
    have hyz : ∀ v, ys[n]? = some v → v = 0 := fun v h => by rw [hys] at h; exact padded_zero (by rw [← HN'.out]; omega) h
    have HO1c : Hid (w2.ownsRow w.heap.size 139 1 (.slice (some ⟨w.heap.size, 0, none⟩) (n + 1) (n + 1)) (n + 1) (xs.flatMap Wc)) := Lib.hid (by rw [hxs]; exact HO1b.out)
    have HO2c : Hid (w2.ownsRow w1.heap.size 139 1 (.slice (some ⟨w1.heap.size, 0, none⟩) (n + 1) (n + 1)) (n + 1) (ys.flatMap Wc)) := Lib.hid (by rw [hys]; exact HO2.out)
    have HXW := Lib.hid hxw
    have HYW := Lib.hid hyw
    have HXN := Lib.hid hxn
    have HYN := Lib.hid hyn
    have HXZ := Lib.hid hxz
    have HYZ := Lib.hid hyz
    clear hxs hys hxw hyw hxn hyn hxz hyz HO1 HO2 HO1b
    go_wp2_with fail
    go_loopw [10] (fun iv wr => ∃ (k : Nat) (zs : List Nat), k ≤ n + 1 ∧ iv = .int .i64 k ∧ zs.length = n + 1 ∧ Wds zs ∧ (∀ (j p q r : Nat), xs[j]? = some p → ys[j]? = some q → zs[j]? = some r → r = if j < k then p &&& q else p) ∧ wr.ownsRow w.heap.size 139 1 (.slice (some ⟨w.heap.size, 0, none⟩) (n + 1) (n + 1)) (n + 1) (zs.flatMap Wc) ∧ wr.ownsRow w1.heap.size 139 1 (.slice (some ⟨w1.heap.size, 0, none⟩) (n + 1) (n + 1)) (n + 1) (ys.flatMap Wc) ∧ Below w.heap.size w wr) (fun iv _ => n + 1 - (intOf iv).toNat)
    case atStart => exact ⟨0, xs, Nat.zero_le _, rfl, hxl, HXW.out, fun j p q r h1 _ h3 => by rw [h1] at h3; injection h3 with h3; rw [← h3]; simp, HO1c.out, HO2c.out, HB2.out⟩
    case round =>
      obtain ⟨k, zs, hk, rfl, hzl, hzw, hrel', hou, hov, hbw⟩ := hrel
      have HOU := Lib.hid hou
      have HOV := Lib.hid hov
      have HBW := Lib.hid hbw
      have HZW := Lib.hid hzw
      have HREL := Lib.hid hrel'
      clear hou hov hbw hzw hrel'
      by_cases hlt : k < n + 1
      · have hlt' : (k : Int) < (n : Int) + 1 := by omega
        have g1 : (0 : Int) ≤ (k : Int) := by omega
        obtain ⟨p, hp⟩ := get_some hxl hlt
        obtain ⟨q, hq⟩ := get_some hyl hlt
        obtain ⟨r, hr⟩ := get_some hzl hlt
        obtain rfl : r = p := by have h := HREL.out k p q r hp hq hr; simpa using h
        have lp := hw0 HZW.out hr
        have lq := hw0 HYW.out hq
        have q1 := own_wc HOU.out hr
        have q2 := own_wc HOV.out hq
        have hf := HOU.out.frozenAt k
        have hbits : bits .and .u32 (r : Int) (q : Int) = ((r &&& q : Nat) : Int) := (bits_nat .u32 32 (by decide) wraps_u32 r q lp lq).1
        have hlr : r &&& q < W32 := Nat.lt_of_le_of_lt Nat.and_le_left lp
        have HP := Lib.hid hp
        have HQ := Lib.hid hq
        have HR9 := Lib.hid hr
        clear hp hq hr
        go_wp2_with fail
        refine wp_region_G (S := (fun w' => w'.cell? ⟨w.heap.size, k, none⟩ = some (.int .u32 (r : Int)) ∧ w'.cell? ⟨w1.heap.size, k, none⟩ = some (.int .u32 (q : Int)))) 10 (by kernel_rfl) ?_ (fun hHeld => ?_)
        · first | exact True.intro | ((try dsimp only); go_keep)
        refine tkG (i := 0) (v := ?_) rfl (by kernel_rfl) (Or.inl ⟨by kernel_rfl, ?_⟩) (by assumption) ?_
        rotate_left 1
        · (intro w hSw; (try dsimp only at hSw); go_simp; try with_reducible rfl)
        try simp only [lyA, lyB, lyC, Act.put, lyD, lyE, lyF]
        refine tkG (i := 1) (v := ?_) rfl (by kernel_rfl) (Or.inl ⟨by kernel_rfl, ?_⟩) (by assumption) ?_
        rotate_left 1
        · (intro w hSw; (try dsimp only at hSw); go_simp; try with_reducible rfl)
        try simp only [lyA, lyB, lyC, Act.put, lyD, lyE, lyF]
        refine tkG (i := 2) (v := ?_) rfl (by kernel_rfl) (Or.inl ⟨by kernel_rfl, ?_⟩) (by assumption) ?_
        rotate_left 1
        · (intro w hSw; (try dsimp only at hSw); go_simp; try with_reducible rfl)
        try simp only [lyA, lyB, lyC, Act.put, lyD, lyE, lyF]
        refine tkG (i := 3) (v := ?_) rfl (by kernel_rfl) (Or.inl ⟨by kernel_rfl, ?_⟩) (by assumption) ?_
        rotate_left 1
        · (intro w hSw; (try dsimp only at hSw); go_simp; try with_reducible rfl)
        try simp only [lyA, lyB, lyC, Act.put, lyD, lyE, lyF]
        refine tkG (i := 4) (v := ?_) rfl (by kernel_rfl) (Or.inl ⟨by kernel_rfl, ?_⟩) (by assumption) ?_
        rotate_left 1
        · (intro w hSw; (try dsimp only at hSw); go_simp; try with_reducible rfl)
        try simp only [lyA, lyB, lyC, Act.put, lyD, lyE, lyF]
        refine tkG (i := 5) (v := ?_) rfl (by kernel_rfl) (Or.inl ⟨by kernel_rfl, ?_⟩) (by assumption) ?_
        rotate_left 1
        · (intro w hSw; (try dsimp only at hSw); go_simp; try with_reducible rfl)
        try simp only [lyA, lyB, lyC, Act.put, lyD, lyE, lyF]
        refine tkG (i := 6) (v := ?_) rfl (by kernel_rfl) (Or.inl ⟨by kernel_rfl, ?_⟩) (by assumption) ?_
        rotate_left 1
        · (intro w hSw; (try dsimp only at hSw); go_simp; try with_reducible rfl)
        try simp only [lyA, lyB, lyC, Act.put, lyD, lyE, lyF]
        refine tkG (i := 7) (v := ?_) rfl (by kernel_rfl) (Or.inl ⟨by kernel_rfl, ?_⟩) (by assumption) ?_
        rotate_left 1
        · (intro w hSw; (try dsimp only at hSw); go_simp; try with_reducible rfl)
        try simp only [lyA, lyB, lyC, Act.put, lyD, lyE, lyF]
        refine tkG (i := 8) (v := ?_) rfl (by kernel_rfl) (Or.inl ⟨by kernel_rfl, ?_⟩) (by assumption) ?_
        rotate_left 1
        · (intro w hSw; (try dsimp only at hSw); go_simp; try with_reducible rfl)
        try simp only [lyA, lyB, lyC, Act.put, lyD, lyE, lyF]
        refine tkG (i := 9) (v := ?_) rfl (by kernel_rfl) (Or.inl ⟨by kernel_rfl, ?_⟩) (by assumption) ?_
        rotate_left 1
        · (intro w hSw; (try dsimp only at hSw); go_simp; try with_reducible rfl)
        try simp only [lyA, lyB, lyC, Act.put, lyD, lyE, lyF]
        refine wpAnyG_one (i := 10) (by kernel_rfl) rfl (fun K hK => ?_)
        go_simp
        refine hK.out _ _ ?_ (fun hHeld => ?_)
        · exact .inr (by kernel_rfl)
        clear hK K
        try simp only [lyA, lyB, lyC, Act.put, lyD, lyE, lyF]
        refine wpAnyG_done (by kernel_rfl) ?_ _
        go_wp2_with fail
        have ho1 := own_set_wc (own_drewN HOU.out 1) (i := k) (by omega) (r &&& q)
        have hv1 := (own_drewN HOV.out 1).kept ho1.2 (.inr (by simp only [Value.ownBlock]; intro e; injection e with e; omega))
        have hb1 := (below_drewN HBW.out 1).grown ho1.2 (Nat.le_of_lt (HOU.out.lt w.heap.size rfl).2) (fun g hg => by injection hg with hg; omega)
        exact ⟨⟨k + 1, zs.set k (r &&& q), by omega, by go_num, by simp [hzl], wds_set HZW.out hlr, zip_step (f := fun p q => p &&& q) HREL.out HP.out HQ.out rfl, ho1.1, hv1, hb1⟩, by simp [intOf]; omega⟩
      · obtain rfl : n + 1 = k := by omega
        have hzip : zs = List.zipWith (· &&& ·) xs ys := get_zip_and hxl hyl hzl fun i p q r h1 h2 h3 => by
          have h := HREL.out i p q r h1 h2 h3
          rw [if_pos (by have := (List.getElem?_eq_some_iff.1 h1).1; omega)] at h
          exact h
        have hval : nv zs = x.natAbs &&& y.natAbs := by rw [hzip, nv_and xs ys (by omega) HXW.out HYW.out, HXN.out, HYN.out]
        obtain ⟨p, hp⟩ := get_some hxl (show n < n + 1 by omega)
        obtain ⟨q, hq⟩ := get_some hyl (show n < n + 1 by omega)
        obtain ⟨r, hr⟩ := get_some hzl (show n < n + 1 by omega)
        have hr0 : r = 0 := by
          have h := HREL.out n p q r hp hq hr
          rw [HXZ.out p hp, HYZ.out q hq] at h
          simpa using h
        subst hr0
        have HVAL := Lib.hid hval
        have HR9 := Lib.hid hr
        clear hzip hval hp hq hr
        go_wp2_with fail
        refine (of_obj b o n w.heap.size w.heap.size zs _ (HZ.out.below (HBW.out)) HOU.out HZW.out HR9.out (by omega)).mono ?_
        rintro e w5 ⟨rfl, hi5, hu5⟩
        rw [HVAL.out] at hi5
        have HI5 := Lib.hid hi5
        have HU5 := Lib.hid hu5
        clear hi5 hu5
        go_wp2_with fail
        go_ret
        exact ⟨rfl, HI5.out, Upd.after HBW.out HU5.out hblt⟩
  · have hw1 : IntKind.i64.wrap ((n : Int) + 1) = (n : Int) + 1 := IntWalk.i64_in _ (by omega)
    go_enter Tryz.func146, Tryz.ntmps146
    go_wp2_with fail
    go_quiet (fail)
    clear hw1
    go_wp2_with fail
    refine (low_int b1 o1 (n + 1) x _ (HX.out.below (below_drewN (Below.refl _ _) nq)) hx0 (by rw [← HN.out]; omega) (by omega)).mono ?_
    rintro e w1 ⟨rfl, ho1, hb1⟩
    have z1 := hb1.size
    have hs1 : w.heap.size < w1.heap.size := (ho1.lt w.heap.size rfl).2
    have HO1 := Lib.hid ho1
    have HB1 : Hid (Below w.heap.size w w1) := Lib.hid ((below_drewN (Below.refl w.heap.size w) nq).trans hb1)
    clear ho1 hb1
    go_wp2_with fail
    refine (low_int b2 o2 (n + 1) y _ (HY.out.below HB1.out) hy0 (by rw [← HN'.out]; omega) (by omega)).mono ?_
    rintro e w2 ⟨rfl, ho2, hb2⟩
    have z2 := hb2.size
    have HO2 := Lib.hid ho2
    have HO1b := Lib.hid (own_below HO1.out hb2)
    have HB2 : Hid (Below w.heap.size w w2) := Lib.hid (below_then HB1.out hb2)
    clear ho2 hb2
    obtain ⟨xs, hxs⟩ : ∃ xs, xs = padded x.natAbs (n + 1) := ⟨_, rfl⟩
    obtain ⟨ys, hys⟩ : ∃ ys, ys = padded y.natAbs (n + 1) := ⟨_, rfl⟩
    have hxl : xs.length = n + 1 := by rw [hxs]; exact padded_len (by rw [← HN.out]; omega)
    have hyl : ys.length = n + 1 := by rw [hys]; exact padded_len (by rw [← HN'.out]; omega)
    have hxw : Wds xs := by rw [hxs]; exact padded_wds _ _
    have hyw : Wds ys := by rw [hys]; exact padded_wds _ _
    have hxn : nv xs = x.natAbs := by rw [hxs]; exact padded_nv _ _
    have hyn : nv ys = y.natAbs := by rw [hys]; exact padded_nv _ _
    have hxz : ∀ v, xs[n]? = some v → v = 0 := fun v h => by rw [hxs] at h; exact padded_zero (by rw [← HN.out]; omega) h
    have hyz : ∀ v, ys[n]? = some v → v = 0 := fun v h => by rw [hys] at h; exact padded_zero (by rw [← HN'.out]; omega) h
    have HO1c : Hid (w2.ownsRow w.heap.size 139 1 (.slice (some ⟨w.heap.size, 0, none⟩) (n + 1) (n + 1)) (n + 1) (xs.flatMap Wc)) := Lib.hid (by rw [hxs]; exact HO1b.out)
    have HO2c : Hid (w2.ownsRow w1.heap.size 139 1 (.slice (some ⟨w1.heap.size, 0, none⟩) (n + 1) (n + 1)) (n + 1) (ys.flatMap Wc)) := Lib.hid (by rw [hys]; exact HO2.out)
    have HXW := Lib.hid hxw
    have HYW := Lib.hid hyw
    have HXN := Lib.hid hxn
    have HYN := Lib.hid hyn
    have HXZ := Lib.hid hxz
    have HYZ := Lib.hid hyz
    clear hxs hys hxw hyw hxn hyn hxz hyz HO1 HO2 HO1b
    go_wp2_with fail
    go_loopw [10] (fun iv wr => ∃ (k : Nat) (zs : List Nat), k ≤ n + 1 ∧ iv = .int .i64 k ∧ zs.length = n + 1 ∧ Wds zs ∧ (∀ (j p q r : Nat), xs[j]? = some p → ys[j]? = some q → zs[j]? = some r → r = if j < k then p &&& q else p) ∧ wr.ownsRow w.heap.size 139 1 (.slice (some ⟨w.heap.size, 0, none⟩) (n + 1) (n + 1)) (n + 1) (zs.flatMap Wc) ∧ wr.ownsRow w1.heap.size 139 1 (.slice (some ⟨w1.heap.size, 0, none⟩) (n + 1) (n + 1)) (n + 1) (ys.flatMap Wc) ∧ Below w.heap.size w wr) (fun iv _ => n + 1 - (intOf iv).toNat)
    case atStart => exact ⟨0, xs, Nat.zero_le _, rfl, hxl, HXW.out, fun j p q r h1 _ h3 => by rw [h1] at h3; injection h3 with h3; rw [← h3]; simp, HO1c.out, HO2c.out, HB2.out⟩
    case round =>
      obtain ⟨k, zs, hk, rfl, hzl, hzw, hrel', hou, hov, hbw⟩ := hrel
      have HOU := Lib.hid hou
      have HOV := Lib.hid hov
      have HBW := Lib.hid hbw
      have HZW := Lib.hid hzw
      have HREL := Lib.hid hrel'
      clear hou hov hbw hzw hrel'
      by_cases hlt : k < n + 1
      · have hlt' : (k : Int) < (n : Int) + 1 := by omega
        have g1 : (0 : Int) ≤ (k : Int) := by omega
        obtain ⟨p, hp⟩ := get_some hxl hlt
        obtain ⟨q, hq⟩ := get_some hyl hlt
        obtain ⟨r, hr⟩ := get_some hzl hlt
        obtain rfl : r = p := by have h := HREL.out k p q r hp hq hr; simpa using h
        have lp := hw0 HZW.out hr
        have lq := hw0 HYW.out hq
        have q1 := own_wc HOU.out hr
        have q2 := own_wc HOV.out hq
        have hf := HOU.out.frozenAt k
        have hbits : bits .and .u32 (r : Int) (q : Int) = ((r &&& q : Nat) : Int) := (bits_nat .u32 32 (by decide) wraps_u32 r q lp lq).1
        have hlr : r &&& q < W32 := Nat.lt_of_le_of_lt Nat.and_le_left lp
        have HP := Lib.hid hp
        have HQ := Lib.hid hq
        have HR9 := Lib.hid hr
        clear hp hq hr
        go_wp2_with fail
        refine wp_region_G (S := (fun w' => w'.cell? ⟨w.heap.size, k, none⟩ = some (.int .u32 (r : Int)) ∧ w'.cell? ⟨w1.heap.size, k, none⟩ = some (.int .u32 (q : Int)))) 10 (by kernel_rfl) ?_ (fun hHeld => ?_)
        · first | exact True.intro | ((try dsimp only); go_keep)
        refine tkG (i := 0) (v := ?_) rfl (by kernel_rfl) (Or.inl ⟨by kernel_rfl, ?_⟩) (by assumption) ?_
        rotate_left 1
        · (intro w hSw; (try dsimp only at hSw); go_simp; try with_reducible rfl)
        try simp only [lyA, lyB, lyC, Act.put, lyD, lyE, lyF]
        refine tkG (i := 1) (v := ?_) rfl (by kernel_rfl) (Or.inl ⟨by kernel_rfl, ?_⟩) (by assumption) ?_
        rotate_left 1
        · (intro w hSw; (try dsimp only at hSw); go_simp; try with_reducible rfl)
        try simp only [lyA, lyB, lyC, Act.put, lyD, lyE, lyF]
        refine tkG (i := 2) (v := ?_) rfl (by kernel_rfl) (Or.inl ⟨by kernel_rfl, ?_⟩) (by assumption) ?_
        rotate_left 1
        · (intro w hSw; (try dsimp only at hSw); go_simp; try with_reducible rfl)
        try simp only [lyA, lyB, lyC, Act.put, lyD, lyE, lyF]
        refine tkG (i := 3) (v := ?_) rfl (by kernel_rfl) (Or.inl ⟨by kernel_rfl, ?_⟩) (by assumption) ?_
        rotate_left 1
        · (intro w hSw; (try dsimp only at hSw); go_simp; try with_reducible rfl)
        try simp only [lyA, lyB, lyC, Act.put, lyD, lyE, lyF]
        refine tkG (i := 4) (v := ?_) rfl (by kernel_rfl) (Or.inl ⟨by kernel_rfl, ?_⟩) (by assumption) ?_
        rotate_left 1
        · (intro w hSw; (try dsimp only at hSw); go_simp; try with_reducible rfl)
        try simp only [lyA, lyB, lyC, Act.put, lyD, lyE, lyF]
        refine tkG (i := 5) (v := ?_) rfl (by kernel_rfl) (Or.inl ⟨by kernel_rfl, ?_⟩) (by assumption) ?_
        rotate_left 1
        · (intro w hSw; (try dsimp only at hSw); go_simp; try with_reducible rfl)
        try simp only [lyA, lyB, lyC, Act.put, lyD, lyE, lyF]
        refine tkG (i := 6) (v := ?_) rfl (by kernel_rfl) (Or.inl ⟨by kernel_rfl, ?_⟩) (by assumption) ?_
        rotate_left 1
        · (intro w hSw; (try dsimp only at hSw); go_simp; try with_reducible rfl)
        try simp only [lyA, lyB, lyC, Act.put, lyD, lyE, lyF]
        refine tkG (i := 7) (v := ?_) rfl (by kernel_rfl) (Or.inl ⟨by kernel_rfl, ?_⟩) (by assumption) ?_
        rotate_left 1
        · (intro w hSw; (try dsimp only at hSw); go_simp; try with_reducible rfl)
        try simp only [lyA, lyB, lyC, Act.put, lyD, lyE, lyF]
        refine tkG (i := 8) (v := ?_) rfl (by kernel_rfl) (Or.inl ⟨by kernel_rfl, ?_⟩) (by assumption) ?_
        rotate_left 1
        · (intro w hSw; (try dsimp only at hSw); go_simp; try with_reducible rfl)
        try simp only [lyA, lyB, lyC, Act.put, lyD, lyE, lyF]
        refine tkG (i := 9) (v := ?_) rfl (by kernel_rfl) (Or.inl ⟨by kernel_rfl, ?_⟩) (by assumption) ?_
        rotate_left 1
        · (intro w hSw; (try dsimp only at hSw); go_simp; try with_reducible rfl)
        try simp only [lyA, lyB, lyC, Act.put, lyD, lyE, lyF]
        refine wpAnyG_one (i := 10) (by kernel_rfl) rfl (fun K hK => ?_)
        go_simp
        refine hK.out _ _ ?_ (fun hHeld => ?_)
        · exact .inr (by kernel_rfl)
        clear hK K
        try simp only [lyA, lyB, lyC, Act.put, lyD, lyE, lyF]
        refine wpAnyG_done (by kernel_rfl) ?_ _
        go_wp2_with fail
        have ho1 := own_set_wc (own_drewN HOU.out 1) (i := k) (by omega) (r &&& q)
        have hv1 := (own_drewN HOV.out 1).kept ho1.2 (.inr (by simp only [Value.ownBlock]; intro e; injection e with e; omega))
        have hb1 := (below_drewN HBW.out 1).grown ho1.2 (Nat.le_of_lt (HOU.out.lt w.heap.size rfl).2) (fun g hg => by injection hg with hg; omega)
        exact ⟨⟨k + 1, zs.set k (r &&& q), by omega, by go_num, by simp [hzl], wds_set HZW.out hlr, zip_step (f := fun p q => p &&& q) HREL.out HP.out HQ.out rfl, ho1.1, hv1, hb1⟩, by simp [intOf]; omega⟩
      · obtain rfl : n + 1 = k := by omega
        have hzip : zs = List.zipWith (· &&& ·) xs ys := get_zip_and hxl hyl hzl fun i p q r h1 h2 h3 => by
          have h := HREL.out i p q r h1 h2 h3
          rw [if_pos (by have := (List.getElem?_eq_some_iff.1 h1).1; omega)] at h
          exact h
        have hval : nv zs = x.natAbs &&& y.natAbs := by rw [hzip, nv_and xs ys (by omega) HXW.out HYW.out, HXN.out, HYN.out]
        obtain ⟨p, hp⟩ := get_some hxl (show n < n + 1 by omega)
        obtain ⟨q, hq⟩ := get_some hyl (show n < n + 1 by omega)
        obtain ⟨r, hr⟩ := get_some hzl (show n < n + 1 by omega)
        have hr0 : r = 0 := by
          have h := HREL.out n p q r hp hq hr
          rw [HXZ.out p hp, HYZ.out q hq] at h
          simpa using h
        subst hr0
        have HVAL := Lib.hid hval
        have HR9 := Lib.hid hr
        clear hzip hval hp hq hr
        go_wp2_with fail
        refine (of_obj b o n w.heap.size w.heap.size zs _ (HZ.out.below (HBW.out)) HOU.out HZW.out HR9.out (by omega)).mono ?_
        rintro e w5 ⟨rfl, hi5, hu5⟩
        rw [HVAL.out] at hi5
        have HI5 := Lib.hid hi5
        have HU5 := Lib.hid hu5
        clear hi5 hu5
        go_wp2_with fail
        go_ret
        exact ⟨rfl, HI5.out, Upd.after HBW.out HU5.out hblt⟩


set_option maxRecDepth 100000 in
set_option maxHeartbeats 2000000 in
theorem rsh_obj (b o b1 o1 : Nat) (x k : Nat) (w : World) (hz : IObj w b o) (hx : IntAt w b1 o1 (x : Int)) (hl : (dig x).length ≤ 10000000) (hk : k ≤ 100000000) :
    Calls Tryz.prog 124 #[.pointer (some ⟨b, o, none⟩), .pointer (some ⟨b1, o1, none⟩), .int .u64 (k : Int)] w fun e w' => e = .returned (.pointer (some ⟨b, o, none⟩)) ∧ IntS (fun d => w.heap.size ≤ d ∧ d < w'.heap.size) w' b o ((x / 2 ^ k : Nat) : Int) ∧ Upd w w' b o := by
  obtain ⟨A, n, c, s, HN, HS, h0, h1, hc, HR⟩ := hx.open
  rw [Int.natAbs_natCast] at HN HR
  rw [← HN.out] at hl
  have HZ := Lib.hid hz
  obtain rfl : s = false := by rw [HS.out]; simp
  clear hz hx
  have hR : RdE Wc 1 w (fun d => d < w.heap.size) A n (dig x) := HR.out.keep (fun _ _ => rfl)
  have HR' := Lib.hid hR
  obtain ⟨y, hy⟩ : ∃ y, y = x / 2 ^ k := ⟨_, rfl⟩
  rw [← hy]
  have HY := Lib.hid hy
  clear hR hy
  go_enter Tryz.func124, Tryz.ntmps124
  go_wp2_with fail
  refine (right_k _ _ _ x k _ _ HR'.out (fun b hb => hb) (by omega) hk).mono ?_
  rw [← HY.out]
  rintro e w1 ⟨A1, c1, rfl, hc1, hr1, hb1⟩
  have HR1 := Lib.hid hr1
  have HB1 := Lib.hid hb1
  clear hr1 hb1
  go_wp2_with fail
  refine (give_obj _ _ (y : Int) false A1 _ c1 w1 (HZ.out.below HB1.out) rfl hc1 (HR1.out.imp fun d hd => hd.2) (by simp)).mono ?_
  rintro e w2 ⟨rfl, hi2, hc2, hu2⟩
  have HC2 := Lib.hid hc2
  have HI2 := Lib.hid hi2
  have HU2 := Lib.hid hu2
  clear hi2 hu2 hc2
  go_wp2_with fail
  go_ret
  exact ⟨rfl, ⟨HI2.out, A1, _, c1, HC2.out, by rw [Int.natAbs_natCast]; exact (HU2.out.words HR1.out).imp fun d hd => ⟨hd.1, Nat.lt_of_lt_of_le hd.2 HU2.out.size⟩⟩, Upd.after HB1.out HU2.out HZ.out.lt⟩


end Go.Proofs.YtkfhbnfoiicioaaGreatDoor
