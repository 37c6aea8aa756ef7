import Derived.Test.YtjokpfgncmdomaaGreatDoorX15
import Derived.Lib.BitFns
import Derived.Lib.TrailingZeros
import Derived.Laws.Bits64b
import Derived.Laws.BitsAllLaws
set_option linter.unusedSimpArgs false
set_option linter.unusedVariables false
/- math/bits.Len64, TrailingZeros64: the walks (the lines of Len64 and TrailingZeros64 are the shelf's, turned to this program) -/
namespace Go.Proofs.YtjokpfgncmdomaaGreatDoor
open Go.RowKit Go.Sort

theorem bitLen_blen : ∀ (f x : Nat), x < 2 ^ f → f ≤ 64 → Lib.bitLen x = blen x
  | 0, x, h, _ => by
    obtain rfl : x = 0 := by simp at h; exact h
    rfl
  | f + 1, x, h, hf => by
    by_cases h0 : x = 0
    · subst h0; rfl
    · rw [Lib.bitLen_half x h0 (Nat.lt_of_lt_of_le h (Nat.pow_le_pow_right (by decide) hf)), blen_half h0, bitLen_blen f (x / 2) (by rw [Nat.pow_succ] at h; omega) (by omega)]
      omega

theorem len8_nat (i : Int) (h0 : 0 ≤ i) (h1 : i ≤ 255) (hp : i.toNat < Lib.len8tab.size) : ((Lib.len8tab[i.toNat]'hp).toNat : Int) = (Lib.bitLen i.toNat : Int) := by
  rw [← Lib.len8_of i h0 h1]
  unfold Lib.len8
  rw [getElem?_pos Lib.len8tab i.toNat hp]
  rfl
theorem len8_fin {i : Int} {c X : Nat} (hp : i.toNat < Lib.len8tab.size) (h0 : 0 ≤ i) (h1 : i ≤ 255) (hc : c ≤ 56) (hb : Lib.bitLen X = c + Lib.bitLen i.toNat) : wrap64 ((c : Int) + wrap64 ((Lib.len8tab[i.toNat]'hp).toNat : Int)) = (Lib.bitLen X : Int) := by
  rw [len8_nat i h0 h1 hp, hb]
  have l := Lib.bitLen_le8' i h0 h1
  unfold wrap64
  omega
set_option maxRecDepth 100000 in
set_option maxHeartbeats 4000000 in
theorem len64_any (x : Int) (w : World) (h0 : 0 ≤ x) (h1 : x ≤ 18446744073709551615) :
    Calls Tryz.prog 147 #[.int .u64 x] w fun e w' => e = .returned (.int .i64 (Lib.bitLen x.toNat)) ∧ w = w' := by
  have hsz := Lib.len8tab_size
  go_enter Tryz.func147, Tryz.ntmps147
  go_wp2
  all_goals first | (rename_i h; exfalso; apply h; rw [hsz]; clear hsz; omega) | skip
  all_goals (go_ret; refine ⟨congrArg Ending.returned (congrArg (Value.int IntKind.i64) ?_), rfl⟩)
  · exact len8_fin (c := 56) _ (by clear hsz; omega) (by clear hsz; omega) (by omega) (by rw [show (x / 4294967296 / 65536 / 256).toNat = x.toNat / 72057594037927936 by clear hsz; omega]; exact Lib.bitLen_shift56 x.toNat (by clear hsz; omega) (by clear hsz; omega))
  · exact len8_fin (c := 48) _ (by clear hsz; omega) (by clear hsz; omega) (by omega) (by rw [show (x / 4294967296 / 65536).toNat = x.toNat / 281474976710656 by clear hsz; omega]; exact Lib.bitLen_shift48 x.toNat (by clear hsz; omega) (by clear hsz; omega))
  · exact len8_fin (c := 40) _ (by clear hsz; omega) (by clear hsz; omega) (by omega) (by rw [show (x / 4294967296 / 256).toNat = x.toNat / 1099511627776 by clear hsz; omega]; exact Lib.bitLen_shift40 x.toNat (by clear hsz; omega) (by clear hsz; omega))
  · exact len8_fin (c := 32) _ (by clear hsz; omega) (by clear hsz; omega) (by omega) (by rw [show (x / 4294967296).toNat = x.toNat / 4294967296 by clear hsz; omega]; exact Lib.bitLen_shift32 x.toNat (by clear hsz; omega) (by clear hsz; omega))
  · exact len8_fin (c := 24) _ (by clear hsz; omega) (by clear hsz; omega) (by omega) (by rw [show (x / 65536 / 256).toNat = x.toNat / 16777216 by clear hsz; omega]; exact Lib.bitLen_shift24 x.toNat (by clear hsz; omega) (by clear hsz; omega))
  · exact len8_fin (c := 16) _ (by clear hsz; omega) (by clear hsz; omega) (by omega) (by rw [show (x / 65536).toNat = x.toNat / 65536 by clear hsz; omega]; exact Lib.bitLen_shift16 x.toNat (by clear hsz; omega) (by clear hsz; omega))
  · exact len8_fin (c := 8) _ (by clear hsz; omega) (by clear hsz; omega) (by omega) (by rw [show (x / 256).toNat = x.toNat / 256 by clear hsz; omega]; exact Lib.bitLen_shift8 x.toNat (by clear hsz; omega) (by clear hsz; omega))
  · have e := len8_fin (i := x) (c := 0) (X := x.toNat) (by rw [hsz]; clear hsz; omega) (by clear hsz; omega) (by clear hsz; omega) (by omega) (by omega)
    rw [Int.natCast_zero, Int.zero_add] at e
    exact e
theorem len64 (x : Nat) (w : World) (h : x < W64) :
    Calls Tryz.prog 147 #[.int .u64 (x : Int)] w fun e w' => e = .returned (.int .i64 (blen x)) ∧ w = w' := by
  have h' : x < 18446744073709551616 := h
  refine (len64_any (x : Int) w (by omega) (by omega)).mono fun e w' he => ?_
  rw [Int.toNat_natCast, bitLen_blen 64 x h (by omega)] at he
  exact he

/-- the variable math/bits.deBruijn64tab, as its initialiser lays it -/
def Laid (w : World) : Prop := ∀ j, j < Lib.deBruijn64tab.length → w.cell? ⟨1, j, none⟩ = some (.int .u8 (Lib.deBruijn64tab.getD j 0))
theorem Laid.below {w w' : World} (h : Laid w) (hb : Below w.heap.size w w') : Laid w' := fun j hj => bat hb (h j hj)
theorem tz64_key (x a : Nat) (hx : x < 18446744073709551616) (hlow : x &&& (18446744073709551616 - x) = a) (hx0 : x ≠ 0) :
    IntKind.u64.wrap (bits BinOp.and IntKind.u64 (x : Int) (IntKind.u64.wrap (-(x : Int))) * 285870213051353865) / 288230376151711744 = ((a * 285870213051353865 % 18446744073709551616 / 288230376151711744 : Nat) : Int) := by
  have e1 : IntKind.u64.wrap (-(x : Int)) = ((18446744073709551616 - x : Nat) : Int) := by rw [IntKind.wrap_u64]; omega
  rw [e1, bits_and_u64_nat x _ hx (by omega), hlow, IntKind.wrap_u64]
  omega

set_option maxRecDepth 100000 in
set_option maxHeartbeats 4000000 in
theorem tz64_core (x k idx : Nat) (w : World) (hx0 : ((x : Int) == 0) = false)
    (key : IntKind.u64.wrap (bits BinOp.and IntKind.u64 (x : Int) (IntKind.u64.wrap (-(x : Int))) * 285870213051353865) / 288230376151711744 = (idx : Int))
    (hi : idx < 64) (hk : k < 64) (hcell : w.cell? ⟨1, idx, none⟩ = some (.int .u8 k)) :
    Calls Tryz.prog 149 #[.int .u64 (x : Int)] w fun e w' => e = .returned (.int .i64 k) ∧ w' = w := by
  go_enter Tryz.func149, Tryz.ntmps149
  go_wp2_with (simp only [key])
  go_ret
  exact ⟨rfl, rfl⟩
theorem tz64 (x : Nat) (w : World) (hx : x < 18446744073709551616) (hx0 : x ≠ 0) (hL : Laid w) :
    Calls Tryz.prog 149 #[.int .u64 (x : Int)] w fun e w' => e = .returned (.int .i64 (Lib.ctz 64 x)) ∧ w' = w := by
  obtain ⟨hlow, hk⟩ := Lib.lowest_bit 64 x hx0 hx
  obtain ⟨hi, htab⟩ := Lib.deBruijn64_at _ hk
  have hcell := hL _ hi
  rw [htab] at hcell
  exact tz64_core x _ _ w (by simp; omega) (tz64_key x _ hx hlow hx0) hi hk hcell

end Go.Proofs.YtjokpfgncmdomaaGreatDoor

/- bignum: bit, TrailingZeroBits, SetBit: the walks -/
namespace Go.Proofs.YtjokpfgncmdomaaGreatDoor
open Go.RowKit Go.Sort

theorem dig_word {N k x : Nat} (h : (dig N)[k]? = some x) : x = N / W32 ^ k % W32 := by
  have h1 := nv_split (dig N) k
  obtain ⟨hl, e⟩ := List.getElem?_eq_some_iff.1 h
  have h2 : (dig N).drop k = x :: (dig N).drop (k + 1) := by rw [List.drop_eq_getElem_cons hl, e]
  have h3 : nv ((dig N).drop k) = x + W32 * nv ((dig N).drop (k + 1)) := by rw [h2]; rfl
  have h4 := nv_take_lt (dig_wds N) k
  have h5 : N / W32 ^ k = nv ((dig N).drop k) := by
    have h6 : N = nv ((dig N).take k) + W32 ^ k * nv ((dig N).drop k) := (nv_dig N).symm.trans h1
    generalize nv ((dig N).take k) = u at h4 h6
    generalize nv ((dig N).drop k) = v at h6 ⊢
    rw [h6, Nat.add_mul_div_left _ _ (w_pos k), Nat.div_eq_of_lt h4, Nat.zero_add]
  rw [h5, h3, Nat.add_mul_mod_self_left, Nat.mod_eq_of_lt ((dig_wds N).get h)]
theorem bit_word {N k s : Nat} (hs : s < 32) : N / W32 ^ k % W32 / 2 ^ s % 2 = N / 2 ^ (k * 32 + s) % 2 := by
  have e : W32 = 2 ^ s * 2 ^ (32 - s) := by rw [← Nat.pow_add, show s + (32 - s) = 32 by omega]
  rw [Nat.pow_add, ← Nat.div_div_eq_div_mul, Nat.mul_comm k 32, ← W32_pow]
  generalize N / W32 ^ k = y
  rw [e, Nat.mod_mul_right_div_self, show (32 - s) = (31 - s) + 1 by omega, Nat.pow_succ, Nat.mul_comm (2 ^ (31 - s)) 2, Nat.mod_mul_right_mod]

theorem and_one {x s : Nat} (hx : x < 18446744073709551616) : bits BinOp.and IntKind.u64 (IntKind.u64.wrap ((x : Int) / 2 ^ s)) 1 = ((x / 2 ^ s % 2 : Nat) : Int) := by
  have e : (x : Int) / 2 ^ s = ((x / 2 ^ s : Nat) : Int) := by simp
  have h : x / 2 ^ s < 18446744073709551616 := Nat.lt_of_le_of_lt (Nat.div_le_self _ _) hx
  rw [e]
  generalize x / 2 ^ s = y at h
  rw [IntKind.wrap_u64, Int.emod_eq_of_lt (by omega) (by omega)]
  have h2 := bits_and_u64_nat y 1 h (by decide)
  rw [Nat.and_one_is_mod] at h2
  exact h2
set_option maxRecDepth 100000 in
set_option maxHeartbeats 4000000 in
theorem bit_any (A : Option Addr) (n c N h s : Nat) (S : Nat → Prop) (w : World) (hx : RdE Wc 1 w S A n (dig N)) (hn : n ≤ 10000000000) (hh : h ≤ 10000000000) (hs : s < 32) :
    Calls Tryz.prog 168 #[.slice A n c, .int .i64 ((h * 32 + s : Nat) : Int)] w fun e w' => e = .returned (.int .u64 ((N / 2 ^ (h * 32 + s) % 2 : Nat) : Int)) ∧ w = w' := by
  have HX := Lib.hid hx
  clear hx
  have e1 : ((h * 32 + s : Nat) : Int).tdiv 32 = (h : Int) := by rw [Int.tdiv_eq_ediv_of_nonneg (by omega)]; omega
  have e1' : ((h * 32 + s : Nat) : Int) / 32 = (h : Int) := by omega
  have e2 : ((h * 32 + s : Nat) : Int) % 32 = (s : Int) := by omega
  obtain ⟨M, hM⟩ : ∃ M : Nat, M = h * 32 + s := ⟨_, rfl⟩
  rw [← hM] at e1 e1' e2 ⊢
  have HM := Lib.hid hM
  have lM : M ≤ 400000000000 := by omega
  clear hM
  by_cases hlt : h < n
  · obtain ⟨x, ex⟩ := get_some HX.out.num hlt
    obtain ⟨b1, o1, rfl, hb1, hc⟩ := HX.out.elem (f := Wc) (size := 1) (fun _ => rfl) ex (by omega)
    have q1 : w.cell? ⟨b1, o1 + h, none⟩ = some (.int .u32 (x : Int)) := by have h := hc 0 _ rfl; rwa [Nat.mul_one, Nat.add_zero] at h
    have HV := Lib.hid (show x / 2 ^ s % 2 = N / 2 ^ M % 2 by rw [dig_word ex, bit_word hs, HM.out])
    have HB := Lib.hid (and_one (x := x) (s := s) (Nat.lt_of_lt_of_le (dig_wds N |>.get ex) (by decide)))
    clear hc ex hb1
    go_enter Tryz.func168, Tryz.ntmps168
    go_wp2_with fail
    go_ret
    refine ⟨?_, rfl⟩
    show Ending.returned (.int .u64 (bits BinOp.and IntKind.u64 (IntKind.u64.wrap ((x : Int) / 2 ^ s)) 1)) = _
    rw [HB.out, HV.out]
  · have HZ : Hid (N / 2 ^ M % 2 = 0) := Lib.hid (by
      have h1 := lt_dig_len N
      rw [HX.out.num, W32_pow] at h1
      have h2 : 2 ^ (32 * n) ≤ 2 ^ M := Nat.pow_le_pow_right (by decide) (by rw [HM.out]; omega)
      rw [Nat.div_eq_of_lt (by omega)])
    go_enter Tryz.func168, Tryz.ntmps168
    go_wp2_with fail
    go_ret
    exact ⟨by rw [HZ.out]; rfl, rfl⟩

theorem bit_at (A : Option Addr) (n c N M : Nat) (S : Nat → Prop) (w : World) (hx : RdE Wc 1 w S A n (dig N)) (hn : n ≤ 10000000000) (hh : M ≤ 10000000000) :
    Calls Tryz.prog 168 #[.slice A n c, .int .i64 (M : Int)] w fun e w' => e = .returned (.int .u64 ((N / 2 ^ M % 2 : Nat) : Int)) ∧ w = w' := by
  have h := bit_any A n c N (M / 32) (M % 32) S w hx hn (by omega) (by omega)
  rwa [Nat.div_add_mod' M 32] at h

/-- k noughts stand at the low end, then a one -/
def LowB (N k : Nat) : Prop := N / 2 ^ k % 2 = 1 ∧ N % 2 ^ k = 0
theorem low_lt {N k : Nat} (h0 : N ≠ 0) (h : N % 2 ^ k = 0) : k < blen N := by
  have h1 : 2 ^ k ≤ N := Nat.le_of_dvd (by omega) (Nat.dvd_of_mod_eq_zero h)
  apply Nat.lt_of_not_le
  intro h2
  have h3 := blen_lt (N := N)
  have h4 := Nat.pow_le_pow_right (show 0 < 2 by decide) h2
  omega
theorem low_step {N k : Nat} (h : N % 2 ^ k = 0) (h1 : N / 2 ^ k % 2 = 0) : N % 2 ^ (k + 1) = 0 := by
  rw [Nat.pow_succ, Nat.mod_mul, h, h1, Nat.mul_zero]

set_option maxRecDepth 100000 in
set_option maxHeartbeats 4000000 in
theorem tz_int (b o : Nat) (x : Int) (w : World) (hx : IntAt w b o x) (hx0 : x ≠ 0) (hl : (dig x.natAbs).length ≤ 1000000) :
    Calls Tryz.prog 143 #[.pointer (some ⟨b, o, none⟩)] w fun e w' => (∃ k : Nat, e = .returned (.int .u64 (k : Int)) ∧ LowB x.natAbs k) ∧ w = w' := by
  obtain ⟨A, n, c, s, HN, HS, h0, h1, hc, HR⟩ := hx.open
  rw [← HN.out] at hl
  have HR' : Hid (RdE Wc 1 w (fun d => d < w.heap.size) A n (dig x.natAbs)) := Lib.hid (HR.out.keep (fun _ _ => rfl))
  have hN0 : x.natAbs ≠ 0 := by omega
  obtain ⟨N, hN⟩ : ∃ N, N = x.natAbs := ⟨_, rfl⟩
  rw [← hN] at HR' HN hN0 ⊢
  have hn0 : 0 < n := by rw [HN.out]; exact List.length_pos_iff.2 (dig_pos hN0)
  have hBL : blen N ≤ 32 * n := blen_le_of_lt (by rw [← W32_pow, HN.out]; exact lt_dig_len N)
  have HN0 := Lib.hid hN0
  have HBL := Lib.hid hBL
  have e0 : ((n : Int) == 0) = false := by simp; omega
  clear hx HR hN hN0 hBL h0 hx0
  go_enter Tryz.func143, Tryz.ntmps143
  go_wp2_with fail
  go_loopw [3] (fun i wr => ∃ k : Nat, i = .int .u64 k ∧ w = wr ∧ N % 2 ^ k = 0) (fun i _ => blen N - (intOf i).toNat)
  case atStart => exact ⟨0, rfl, rfl, Nat.mod_one _⟩
  case round =>
    obtain ⟨k, rfl, rfl, hs⟩ := hrel
    have hk := low_lt HN0.out hs
    have HS := Lib.hid hs
    have lk : k ≤ 32000000 := by have := HBL.out; omega
    have ew : IntKind.i64.wrap (k : Int) = (k : Int) := IntWalk.i64_in _ (by omega)
    clear hs
    go_wp2_with fail
    refine (bit_at A n c N k _ w HR'.out (by omega) (by omega)).mono ?_
    rintro e w' ⟨rfl, rfl⟩
    rcases Nat.mod_two_eq_zero_or_one (N / 2 ^ k) with hb | hb
    · have HB := Lib.hid hb
      rw [hb]
      clear hb
      go_wp2_with fail
      go_roundw
      case rel => exact ⟨k + 1, by go_num, trivial, low_step HS.out HB.out⟩
      case measure => simp [intOf]; omega
    · have HB := Lib.hid hb
      rw [hb]
      clear hb
      go_wp2_with fail
      go_ret
      exact ⟨⟨k, rfl, HB.out, HS.out⟩, rfl⟩

end Go.Proofs.YtjokpfgncmdomaaGreatDoor

/- bignum: SetBit of the lowest bit: the walk -/
namespace Go.Proofs.YtjokpfgncmdomaaGreatDoor
open Go.RowKit Go.Sort

theorem even_bit {x : Nat} (hx : x < 4294967296) (h : x % 2 = 0) : bits BinOp.andNot IntKind.u32 (x : Int) 1 = (x : Int) ∧ bits BinOp.or IntKind.u32 (x : Int) 1 = ((x + 1 : Nat) : Int) := by
  have h1 := u32_andNot_nat x 1 hx (by decide)
  have h2 := u32_or_nat x 1 hx (by decide)
  have e1 : x &&& (4294967295 - 1) = x := by
    apply Nat.eq_of_testBit_eq
    intro i
    rw [Nat.testBit_and]
    cases i with
    | zero => simp [Nat.testBit_zero, h]
    | succ i =>
      rw [show 4294967295 - 1 = 2 * (2 ^ 31 - 1) by decide, Nat.testBit_succ, Nat.testBit_succ, Nat.mul_div_cancel_left _ (by decide), Nat.testBit_two_pow_sub_one]
      by_cases hi : i < 31
      · simp [hi]
      · have : (x / 2).testBit i = false := Nat.testBit_lt_two_pow (Nat.lt_of_lt_of_le (show x / 2 < 2 ^ 31 by omega) (Nat.pow_le_pow_right (by decide) (by omega)))
        simp [this]
  have e2 : x ||| 1 = x + 1 := by
    have := Nat.two_pow_add_eq_or_of_lt (i := 1) (b := 1) (by decide) (x / 2)
    rw [show 2 ^ 1 * (x / 2) = x by omega] at this
    exact this.symm
  rw [e1] at h1
  rw [e2] at h2
  exact ⟨h1, h2⟩

set_option maxRecDepth 100000 in
set_option maxHeartbeats 4000000 in
theorem setBit0_int (b o : Nat) (x : Int) (w : World) (hx : IntAt w b o x) (hx0 : 0 ≤ x) (he : x % 2 = 0) (hl : (dig x.natAbs).length ≤ 1000000) (hl2 : 2 ≤ (dig x.natAbs).length) :
    Calls Tryz.prog 52 #[.pointer (some ⟨b, o, none⟩), .pointer (some ⟨b, o, none⟩), .int .i64 0, .int .u64 1] w fun e w' => e = .returned (.pointer (some ⟨b, o, none⟩)) ∧ IntAt w' b o (x + 1) ∧ Upd w w' b o := by
  have HX := Lib.hid hx
  have hblt := hx.lt
  obtain ⟨A, n, c, s, HN, HS, h0, h1, hc, HR⟩ := hx.open
  rw [← HN.out] at hl
  rw [← HN.out] at hl2
  have em : max (n : Int) 1 = (n : Int) := by omega
  clear hx HR h0
  go_enter Tryz.func52, Tryz.ntmps52
  go_wp2_with fail
  refine (low_int b o (n + 1) x _ HX.out hx0 (by rw [← HN.out]; omega) (by omega)).mono ?_
  rintro e w1 ⟨rfl, ho1, hb1⟩
  have z1 := hb1.size
  obtain ⟨xs, hxs⟩ : ∃ xs, xs = padded x.natAbs (n + 1) := ⟨_, rfl⟩
  have hxl : xs.length = n + 1 := by rw [hxs]; exact padded_len (by rw [← HN.out]; omega)
  have hxw : Wds xs := by rw [hxs]; exact padded_wds _ _
  have hxn : nv xs = x.natAbs := by rw [hxs]; exact padded_nv _ _
  have hxz : xs[n]? = some 0 := by
    obtain ⟨v, hv⟩ := get_some hxl (show n < n + 1 by omega)
    rw [hv]
    rw [hxs] at hv
    rw [padded_zero (by rw [← HN.out]; omega) hv]
  rw [← hxs] at ho1
  obtain ⟨p, hp⟩ := get_some hxl (show 0 < n + 1 by omega)
  have lp := hxw.get hp
  have ep : p % 2 = 0 := by
    obtain ⟨q, r, hqr⟩ : ∃ q r, xs = q :: r := by cases xs with | nil => simp at hxl | cons q r => exact ⟨q, r, rfl⟩
    rw [hqr] at hp hxn
    simp at hp
    subst hp
    have e : nv (q :: r) = q + W32 * nv r := rfl
    rw [e] at hxn
    have hW : W32 = 2 * 2147483648 := rfl
    rw [hW, Nat.mul_assoc] at hxn
    omega
  obtain ⟨b1, b2⟩ := even_bit lp ep
  have b3 : bits BinOp.and IntKind.u64 1 1 = 1 := by decide
  have q1 := own_wc ho1 hp
  have hf := ho1.frozenAt 0
  have HP := Lib.hid hp
  clear hp
  have HO1 := Lib.hid ho1
  have HB1 := Lib.hid hb1
  clear hxs ho1 hb1
  go_wp2_with fail
  have hw9 := hxw
  have ho2 := own_set_wc HO1.out (i := 0) (by omega) p
  have ho3 := own_set_wc ho2.1 (i := 0) (by simp [hxl]) (p + 1)
  have hb3 := (HB1.out.grown ho2.2 (Nat.le_of_lt (HO1.out.lt w.heap.size rfl).2) (fun g hg => by injection hg with hg; omega)).grown ho3.2 (by rw [World.size_setCell]; exact Nat.le_of_lt (HO1.out.lt w.heap.size rfl).2) (fun g hg => by injection hg with hg; omega)
  have hval : nv ((xs.set 0 p).set 0 (p + 1)) = x.natAbs + 1 := by
    obtain ⟨q, r, hqr⟩ : ∃ q r, xs = q :: r := by cases xs with | nil => simp at hxl | cons q r => exact ⟨q, r, rfl⟩
    have hp := HP.out
    rw [hqr] at hp hxn
    simp at hp
    subst hp
    rw [hqr]
    show q + 1 + W32 * nv r = _
    have e : nv (q :: r) = q + W32 * nv r := rfl
    rw [e] at hxn
    omega
  refine (of_int b o n w.heap.size w.heap.size x ((xs.set 0 p).set 0 (p + 1)) _ (HX.out.below hb3) ho3.1 (wds_set (wds_set hxw lp) (by have h : W32 = 4294967296 := rfl; rw [h] at lp ⊢; omega)) (by rw [List.getElem?_set_ne (by omega), List.getElem?_set_ne (by omega)]; exact hxz) (by omega)).mono ?_
  rintro e w5 ⟨rfl, hi5, hu5⟩
  rw [hval] at hi5
  have HI5 := Lib.hid hi5
  have HU5 := Lib.hid (Upd.after hb3 hu5 hblt)
  clear hi5 hu5 hb3 ho2 ho3
  go_wp2_with fail
  go_ret
  refine ⟨rfl, ?_, HU5.out⟩
  have h := HI5.out
  rwa [show ((x.natAbs + 1 : Nat) : Int) = x + 1 by omega] at h

end Go.Proofs.YtjokpfgncmdomaaGreatDoor

/- dyad.whole: the walk -/
namespace Go.Proofs.YtjokpfgncmdomaaGreatDoor
open Go.RowKit Go.Sort

/-- a dyad as it lies in a struct: sign, limbs, power -/
structure DV where
  neg : Bool
  mag : List Nat
  exp : Int
  deriving DecidableEq
/-- its whole number -/
def DV.top (d : DV) : Int := if d.neg then -(ln d.mag : Int) else (ln d.mag : Int)
/-- the value v, in the world w, is the dyad d -/
def DAt (w : World) (v : Value) (d : DV) : Prop := ∃ A n c, v = .agg #[.bool d.neg, .slice A n c, .int .i64 d.exp] ∧ RdE Lc 1 w (fun b => b < w.heap.size) A n d.mag ∧ Lds d.mag
theorem DAt.below {w w' : World} {v : Value} {d : DV} (h : DAt w v d) (hb : Below w.heap.size w w') : DAt w' v d := by
  obtain ⟨A, n, c, e, h1, h2⟩ := h
  exact ⟨A, n, c, e, h1.belowL hb, h2⟩
theorem ln_drop {ls : List Nat} {j x : Nat} (h : ls[j]? = some x) : ln (ls.drop j) = x + W64 * ln (ls.drop (j + 1)) := by
  obtain ⟨hl, e⟩ := List.getElem?_eq_some_iff.1 h
  rw [List.drop_eq_getElem_cons hl, e]
  rfl
theorem or_low {V x : Nat} (hx : x < W64) : (V * 2 ^ 64) ||| x = x + W64 * V := by
  have h := Nat.two_pow_add_eq_or_of_lt (i := 64) (b := x) hx V
  rw [Nat.mul_comm V, ← h, Nat.add_comm]
theorem dig_ln_drop {ls : List Nat} (h : Lds ls) (j : Nat) : (dig (ln (ls.drop j))).length ≤ 2 * ls.length := Nat.le_trans (dig_ln_len (h.drop j)) (by rw [List.length_drop]; omega)

theorem or_lenA {V : Nat} (h : (dig V).length ≤ 200000) : (dig ((V : Int) * 2 ^ 64).natAbs).length ≤ 10000000 := by
  have e : ((V : Int) * 2 ^ 64).natAbs = V * 2 ^ 64 := by omega
  rw [e]
  have := mul_len V (2 ^ 64)
  have h3 : (dig (2 ^ 64)).length ≤ 3 := dig_len_le (by decide)
  omega
theorem or_lenB {x : Nat} (h : x < W64) : (dig (x : Int).natAbs).length ≤ 10000000 := by
  rw [Int.natAbs_natCast]
  exact Nat.le_trans (dig_len_small (show x < 18446744073709551616 from h)) (by decide)
set_option maxRecDepth 100000 in
set_option maxHeartbeats 4000000 in
theorem whole_dyad (v : Value) (d : DV) (w : World) (hd : DAt w v d) (hl : d.mag.length ≤ 100000) :
    Calls Tryz.prog 105 #[v] w fun e w' => ∃ g, e = .returned (.pointer (some ⟨g, 0, none⟩)) ∧ w.heap.size ≤ g ∧ g < w'.heap.size ∧ IntAt w' g 0 d.top ∧ Below w.heap.size w w' := by
  obtain ⟨A, n, c, rfl, hx, hls⟩ := hd
  obtain ⟨s, xs, ex⟩ := d
  simp only at hx hls hl
  have en := hx.num
  have hn : n ≤ 100000 := by omega
  have HX := Lib.hid hx
  have HL := Lib.hid hls
  have EN := Lib.hid en
  clear hx hls en hl
  have k0 := new_cell w #[.bool s, .slice A n c, .int .i64 ex] 46 0 _ rfl
  have k1 := new_cell w #[.bool s, .slice A n c, .int .i64 ex] 46 1 _ rfl
  have K := Lib.hid (And.intro k0 k1)
  clear k0 k1
  go_enter Tryz.func105, Tryz.ntmps105
  go_wp2_with fail
  go_loopw [9] (fun iv wr => ∃ k : Nat, k ≤ n ∧ iv = .int .i64 k ∧ Below w.heap.size w wr ∧ wr.cell? ⟨w.heap.size, 0, none⟩ = some (.bool s) ∧ wr.cell? ⟨w.heap.size, 1, none⟩ = some (.slice A n c) ∧ IntAt wr (w.heap.size + 1) 0 (ln (xs.drop (n - k)) : Int)) (fun iv _ => n - (intOf iv).toNat)
  case atStart =>
    refine ⟨0, Nat.zero_le _, rfl, below2 .., bat (below1 ..) K.out.1, bat (below1 ..) K.out.2, ?_⟩
    rw [List.drop_of_length_le (by rw [EN.out]; omega)]
    have h := new_intAt (w.alloc (.cells #[.bool s, .slice A n c, .int .i64 ex] 46))
    rwa [World.size_alloc] at h
  case round =>
    obtain ⟨k, hk, rfl, hb, c0, c1, hi⟩ := hrel
    have HB := Lib.hid hb
    have HI := Lib.hid hi
    have C0 := Lib.hid c0
    have hm := hi.lt
    obtain ⟨V, hV⟩ : ∃ V, V = ln (xs.drop (n - k)) := ⟨_, rfl⟩
    rw [← hV] at HI
    have HV := Lib.hid hV
    have hVl : (dig V).length ≤ 200000 := by rw [hV]; exact Nat.le_trans (dig_ln_drop HL.out _) (by rw [EN.out]; omega)
    have HVL := Lib.hid hVl
    clear hb hi hV hVl c0
    by_cases hlt : k < n
    · have hlt' : (k : Int) < (n : Int) := by omega
      go_wp2_with fail
      refine (lsh_int _ 0 _ 0 (V : Int) (V : Int) 64 wr HI.out HI.out (by rw [Int.natAbs_natCast]; have := HVL.out; omega) (by omega)).mono ?_
      rintro e w1 ⟨rfl, hi1, hu1⟩
      obtain ⟨j, hj⟩ : ∃ j, j = n - 1 - k := ⟨_, rfl⟩
      have hji : (n : Int) - 1 - (k : Int) = (j : Int) := by omega
      obtain ⟨x, hx⟩ := get_some EN.out (show j < n by omega)
      have lx := HL.out.get hx
      have lx' : x < 18446744073709551616 := lx
      obtain ⟨bb, oo, rfl, hbb, hcc⟩ := HX.out.elem (f := Lc) (size := 1) (fun _ => rfl) hx (by omega)
      have q0 : w.cell? ⟨bb, oo + j, none⟩ = some (.int .u64 (x : Int)) := by have h := hcc 0 _ rfl; rwa [Nat.mul_one, Nat.add_zero] at h
      have hb1 : Below w.heap.size w w1 := HB.out.trans (hu1.below (by omega) HB.out.size)
      have z1 := hb1.size
      have hb2 := below1 w1 newI
      have q1 := bat hb2 (hu1.cellOf c1 (fun e => absurd e (by omega)))
      have q2 := bat hb2 (bat hb1 q0)
      have c0' := hu1.cellOf C0.out (fun e => absurd e (by omega))
      have HI1 := Lib.hid hi1
      have HB1 := Lib.hid hb1
      have C01 := Lib.hid c0'
      have C11 := Lib.hid (hu1.cellOf c1 (fun e => absurd e (by omega)))
      have HJ := Lib.hid hj
      have HXJ := Lib.hid hx
      have hm1 := hi1.lt
      have hwm : w.heap.size < w1.heap.size := by have := World.block_lt_of_cell? w1 ⟨w.heap.size, 0, none⟩ c0'; exact this
      clear hi1 hu1 hj hx hcc q0 c1 hb1 c0' hb2
      go_wp2_with fail
      refine (setU_int _ 0 0 x _ (new_intAt w1) lx').mono ?_
      rintro e w2 ⟨rfl, hi2, hu2⟩
      have hb2 := newB hu2
      have HI2 := Lib.hid hi2
      have HB2 := Lib.hid hb2
      have HV2 := Lib.hid (HI1.out.below hb2)
      have C02 := Lib.hid (bat hb2 C01.out)
      have C12 := Lib.hid (bat hb2 C11.out)
      have z2 := hb2.size
      clear hi2 hu2 hb2 q1 q2
      go_wp2_with fail
      refine (or_int _ 0 _ 0 _ 0 ((V : Int) * 2 ^ 64) ((V : Int) * 2 ^ 64) (x : Int) w2 HV2.out HV2.out HI2.out (by omega) (by omega) (or_lenA HVL.out) (or_lenB lx)).mono ?_
      rintro e w3 ⟨rfl, hi3, hu3⟩
      have HI3 := Lib.hid hi3
      have hb3 : Below w.heap.size w w3 := (HB1.out.trans (HB2.out.mono HB1.out.size)).trans (hu3.below (by omega) (by omega))
      have HB3 := Lib.hid hb3
      have C03 := Lib.hid (hu3.cellOf C02.out (fun e => absurd e (by omega)))
      have C13 := Lib.hid (hu3.cellOf C12.out (fun e => absurd e (by omega)))
      clear hi3 hu3 hb3
      go_wp2_with fail
      go_roundw
      case rel =>
        refine ⟨k + 1, by omega, by go_num, HB3.out, C03.out, C13.out, ?_⟩
        have h := HI3.out
        have e : ((V : Int) * 2 ^ 64).natAbs = V * 2 ^ 64 := by omega
        rw [e, Int.natAbs_natCast, or_low lx, HV.out] at h
        have hj := HJ.out
        have hd := ln_drop HXJ.out
        rw [show j + 1 = n - k by omega] at hd
        rw [show n - (k + 1) = j by omega, hd]
        exact h
      case measure => simp [intOf]; omega
    · obtain rfl : n = k := by omega
      have c0 := C0.out
      have hV' : V = ln xs := by rw [HV.out, Nat.sub_self]; rfl
      have HV' := Lib.hid hV'
      clear hV'
      cases s
      · go_wp2_with fail
        go_ret
        refine ⟨_, rfl, by omega, hm, ?_, HB.out⟩
        show IntAt _ _ 0 (ln xs : Int)
        rw [← HV'.out]
        exact HI.out
      · go_wp2_with fail
        refine (neg_int _ 0 _ 0 (V : Int) (V : Int) _ HI.out HI.out (by rw [Int.natAbs_natCast]; have := HVL.out; omega)).mono ?_
        rintro e w5 ⟨rfl, hi5, hu5⟩
        have HI5 := Lib.hid hi5
        have HB5 := Lib.hid (HB.out.trans (hu5.below (by omega) HB.out.size))
        have hm5 := hi5.lt
        clear hi5 hu5
        go_wp2_with fail
        go_ret
        refine ⟨_, rfl, by omega, hm5, ?_, HB5.out⟩
        show IntAt _ _ 0 (-(ln xs : Int))
        rw [← HV'.out]
        exact HI5.out

end Go.Proofs.YtjokpfgncmdomaaGreatDoor
