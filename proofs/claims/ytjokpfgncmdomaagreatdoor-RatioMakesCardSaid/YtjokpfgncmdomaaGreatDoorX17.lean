import Derived.Test.YtjokpfgncmdomaaGreatDoorX16
import Derived.Test.YtjokpfgncmdomaaGreatDoorCards
import Derived.Test.YtjokpfgncmdomaaGreatDoorTie
import Derived.SevenTiedAt
import Derived.LaidMore
import Derived.Stop.Joined
import Derived.Lib.LaidTab
import Derived.DataShut
import Derived.Laws.FloatArith
import Ieee.Arith
import Derived.Deep.CutBlock
set_option linter.unusedSimpArgs false
set_option linter.unusedVariables false
/- what a ratio reads as, opened; the laid table -/
namespace Go.Proofs.YtjokpfgncmdomaaGreatDoor
open Go.RowKit Go.Sort

theorem own : ownKnob Tryz.prog.godebug = none := by kernel_rfl
theorem laidOut : laidOutB Tryz.prog = true := by kernel_rfl
theorem opens_limb : Opens Tryz.prog 58 Lc (fun _ x => x < W64) := by
  intro H enc W base spare held n cs y hy _
  obtain ⟨m, rfl, _, hm⟩ := DataW.trod_int Tryz.underlying58 hy
  have h : (0 : Int) ≤ m ∧ m ≤ 18446744073709551615 := (Lit.wf_int_iff .u64 m).1 hm
  refine ⟨m.toNat, ?_, ?_⟩
  · show [Value.int .u64 m] = [.int .u64 (m.toNat : Int)]
    rw [Int.toNat_of_nonneg h.1]
  · show m.toNat < 18446744073709551616
    omega
theorem opens_limbs : Opens Tryz.prog 22 (fun x : SlV Nat => [Value.slice x.A x.xs.length x.c]) (OkSl Tryz.prog 58 Lc 1 fun _ x => x < W64) :=
  opens_slice Tryz.underlying22 (by kernel_rfl) (by omega) (fun _ => rfl) opens_limb
/-- a ratio's three cells -/
structure RatA where
  neg : Bool
  num : SlV Nat
  den : SlV Nat
def RatA.cells (x : RatA) : List Value := [.bool x.neg, .slice x.num.A x.num.xs.length x.num.c, .slice x.den.A x.den.xs.length x.den.c]
def RatA.Ok (W : World) (x : RatA) : Prop := OkSl Tryz.prog 58 Lc 1 (fun _ x => x < W64) W x.num ∧ OkSl Tryz.prog 58 Lc 1 (fun _ x => x < W64) W x.den
theorem opens_ratio : Opens Tryz.prog 24 RatA.cells RatA.Ok :=
  (opens_struct Tryz.underlying24 (by kernel_rfl) (opensF_cons (opens_bool Tryz.underlying4) rfl (opensF_cons opens_limbs (by kernel_rfl) (opensF_cons opens_limbs (by kernel_rfl) opensF_nil)))).map (fun x => ⟨x.1, x.2.1, x.2.2.1⟩) (fun _ => rfl) (fun _ _ h => ⟨h.2.1, h.2.2.1⟩)
theorem bytes_u64 : Tryz.prog.bytesOf 58 = 8 := by kernel_rfl
/-- the ratio of an input -/
def RatA.r (x : RatA) : RV := ⟨x.neg, x.num.xs, x.den.xs⟩
theorem RatA.at {W : World} {x : RatA} (h : RatA.Ok W x) : RAt W (.agg #[.bool x.neg, .slice x.num.A x.num.xs.length x.num.c, .slice x.den.A x.den.xs.length x.den.c]) x.r ∧ x.r.num.length ≤ 100000000000000 ∧ x.r.den.length ≤ 100000000000000 := by
  obtain ⟨⟨h1, h2, _, _, h5, _⟩, ⟨k1, k2, _, _, k5, _⟩⟩ := h
  rw [bytes_u64] at h5 k5
  have hr : reachBytes = 140737488351232 := rfl
  refine ⟨⟨_, _, _, _, _, _, rfl, h1, k1, fun a ha => h2 a ha, fun a ha => k2 a ha⟩, ?_, ?_⟩
  · show x.num.xs.length ≤ _
    omega
  · show x.den.xs.length ≤ _
    omega

theorem gTab : Tryz.prog.globalNamed "math/bits.deBruijn64tab" = some 1 := by kernel_rfl
theorem tTab : (Tryz.prog.globals[(1 : Nat)]?).map (·.type) = some 170 := by kernel_rfl
theorem laid_of {W : World} (h : laidMet Tryz.prog [("math/bits.deBruijn64tab", Rows.laid_math_bits_deBruijn64tab)] W) : Laid W := by
  have h2 := Lib.tabIs_of_head (k := .u8) (zs := List.map (fun n : Nat => (n : Int)) Lib.deBruijn64tab) (rest := []) gTab tTab Tryz.underlying170 Tryz.underlying5 (by kernel_rfl) (by kernel_rfl) h
  intro j hj
  have h3 := h2.cell gTab j (by simpa using hj)
  rw [h3]
  have e : (List.map (fun n : Nat => (n : Int)) Lib.deBruijn64tab).getD j 0 = ((Lib.deBruijn64tab.getD j 0 : Nat) : Int) := by
    simp [List.getD, List.getElem?_map, hj]
  rw [e]

end Go.Proofs.YtjokpfgncmdomaaGreatDoor

/-
  Floats by a whole number: each float (64 bits) that is a number stands for fk x times 2^-1074; the infinities lie beyond all of them.
-/
namespace Go.Proofs.YtjokpfgncmdomaaGreatDoor
open Ieee
end Go.Proofs.YtjokpfgncmdomaaGreatDoor

/- floats: what is written exactly; products with a power of two; whole numbers: plain -/
namespace Go.Proofs.YtjokpfgncmdomaaGreatDoor
open Go.RowKit Go.Sort Ieee
theorem or_parts {a E : Nat} (ha : a < 2 ^ 52) : a ||| (E * 2 ^ 52) = E * 2 ^ 52 + a := by
  have h := Nat.two_pow_add_eq_or_of_lt (i := 52) (b := a) ha E
  rw [Nat.or_comm, Nat.mul_comm E, ← h]

end Go.Proofs.YtjokpfgncmdomaaGreatDoor

/- math.Ldexp, bits.Join of any whole number below 2^53: the walks -/
namespace Go.Proofs.YtjokpfgncmdomaaGreatDoor
open Go.RowKit Go.Sort
theorem or_exp {a P : Nat} (ha : a < 4503599627370496) (hP : P < 2048) : bits BinOp.or IntKind.u64 (a : Int) ((P * 4503599627370496 : Nat) : Int) = ((P * 4503599627370496 + a : Nat) : Int) := by
  have h := bits_or_u64_nat a (P * 4503599627370496) (by omega) (by omega)
  rw [show a ||| P * 4503599627370496 = P * 4503599627370496 + a from or_parts (a := a) (E := P) ha] at h
  exact h
end Go.Proofs.YtjokpfgncmdomaaGreatDoor

/- math.Copysign; math.Ldexp, bits.Join of any parts: the walks -/
namespace Go.Proofs.YtjokpfgncmdomaaGreatDoor
open Go.RowKit Go.Sort

/-- a size's bits, with a sign -/
def sw (s : Bool) (V : Nat) : Nat := if s then V + 9223372036854775808 else V

end Go.Proofs.YtjokpfgncmdomaaGreatDoor

/- bits.Next of the greatest floats: the walks; a rung of its parts -/
namespace Go.Proofs.YtjokpfgncmdomaaGreatDoor
open Go.RowKit Go.Sort
end Go.Proofs.YtjokpfgncmdomaaGreatDoor

/- dyad.float of any size: the walk -/
namespace Go.Proofs.YtjokpfgncmdomaaGreatDoor
open Go.RowKit Go.Sort

/-- what is too great: is the greatest number told? -/
def mostB (md : Int) (neg : Bool) : Bool := md == 3 || (md == 1 && !neg) || (md == 2 && neg)
/-- the bits of a size times a power of two -/
def fbits (neg : Bool) (size : Nat) (last md : Int) : Nat :=
  if (last + 1074).toNat * 2 ^ 52 + size < 2047 * 2 ^ 52 then sw neg ((last + 1074).toNat * 2 ^ 52 + size) else if mostB md neg = true then sw neg 9218868437227405311 else sw neg 9218868437227405312

end Go.Proofs.YtjokpfgncmdomaaGreatDoor

/- dyad.Round: the walks of the other cases (printed by gen_u13.py out of U11.t) -/
namespace Go.Proofs.YtjokpfgncmdomaaGreatDoor
open Go.RowKit Go.Sort
end Go.Proofs.YtjokpfgncmdomaaGreatDoor

/- ratio.Round: the walks of the other cases (printed by gen_u14.py out of U12.t) -/
namespace Go.Proofs.YtjokpfgncmdomaaGreatDoor
open Go.RowKit Go.Sort
end Go.Proofs.YtjokpfgncmdomaaGreatDoor

/- dyad.Round of what was made right; ratio.Round of any right ratio -/
namespace Go.Proofs.YtjokpfgncmdomaaGreatDoor
open Go.RowKit Go.Sort
/-- the last place that is kept of M times 2^e -/
def lastR (M : Nat) (e : Int) : Int := max ((blen M : Int) + e - 53) (-1074)
/-- the places that are kept of N over D, and one that says whether anything is left -/
def rndB (N D : Nat) : Int := 70 + (blen D : Int) - blen N
def stk (Y E : Nat) : Nat := if Y % E = 0 then 2 * (Y / E) else 2 * (Y / E) + 1
def rndM (N D : Nat) : Nat := stk (N * 2 ^ (rndB N D).toNat) (D * 2 ^ (-rndB N D).toNat)
/-- N over D as a float -/
def rnd (neg : Bool) (N D : Nat) (md : Int) : Nat :=
  if N = 0 then 0 else fbits neg (sizeR (rndM N D) (lastR (rndM N D) (-rndB N D - 1) - (-rndB N D - 1)).toNat md neg) (lastR (rndM N D) (-rndB N D - 1)) md
end Go.Proofs.YtjokpfgncmdomaaGreatDoor

/- what is rounded: rungs and their values (plain) -/
namespace Go.Proofs.YtjokpfgncmdomaaGreatDoor

/-- the value of a rung of the floats above 0 (in units of the least one); rungs go on behind the greatest number -/
def Vr (g : Nat) : Nat := if g < 2 ^ 52 then g else (2 ^ 52 + g % 2 ^ 52) * 2 ^ (g / 2 ^ 52 - 1)
theorem Vr_parts {s j : Nat} (hs : s ≤ 2 ^ 53) (hn : j = 0 ∨ 2 ^ 52 ≤ s) : Vr (j * 2 ^ 52 + s) = s * 2 ^ j := by
  unfold Vr
  by_cases h : j * 2 ^ 52 + s < 2 ^ 52
  · rw [if_pos h]
    have : j = 0 := by omega
    subst this
    omega
  · rw [if_neg h]
    have h1 : 2 ^ 52 ≤ s := by omega
    by_cases h2 : s = 2 ^ 53
    · have e1 : (j * 2 ^ 52 + s) % 2 ^ 52 = 0 := by omega
      have e2 : (j * 2 ^ 52 + s) / 2 ^ 52 - 1 = j + 1 := by omega
      rw [e1, e2, h2, Nat.pow_succ]
      omega
    · have e1 : (j * 2 ^ 52 + s) % 2 ^ 52 = s - 2 ^ 52 := by omega
      have e2 : (j * 2 ^ 52 + s) / 2 ^ 52 - 1 = j := by omega
      rw [e1, e2, show 2 ^ 52 + (s - 2 ^ 52) = s by omega]
/-- each rung has its parts -/
theorem rung_has (g : Nat) : ∃ j s, g = j * 2 ^ 52 + s ∧ s < 2 ^ 53 ∧ (j = 0 ∨ 2 ^ 52 ≤ s) := by
  by_cases h : g < 2 ^ 52
  · exact ⟨0, g, by omega, by omega, .inl rfl⟩
  · exact ⟨g / 2 ^ 52 - 1, 2 ^ 52 + g % 2 ^ 52, by omega, by omega, .inr (by omega)⟩
end Go.Proofs.YtjokpfgncmdomaaGreatDoor

/- (*bignum.Rat).SetFloat64, ratio.Of: the walks (printed by gen_t20.py) -/
namespace Go.Proofs.YtjokpfgncmdomaaGreatDoor
open Go.RowKit Go.Sort

/-- the number of a rung -/
def fltQ (neg : Bool) (g : Nat) : Rat := Rat.divInt (if neg then -(Vr g : Int) else (Vr g : Int)) ((2 ^ 1074 : Nat) : Int)
theorem u64_shr52 {u : Nat} (hu : u < 18446744073709551616) : bits BinOp.and IntKind.u64 ((u : Int) / 4503599627370496) 2047 = ((u / 2 ^ 52 % 2048 : Nat) : Int) := by
  have h := bits_and_u64_nat (u / 2 ^ 52) 2047 (by omega) (by decide)
  rw [show (2047 : Nat) = 2 ^ 11 - 1 by decide, Nat.and_two_pow_sub_one_eq_mod] at h
  exact h
theorem u64_low52 {u : Nat} (hu : u < 18446744073709551616) : bits BinOp.and IntKind.u64 (u : Int) 4503599627370495 = ((u % 2 ^ 52 : Nat) : Int) := by
  have h := bits_and_u64_nat u 4503599627370495 hu (by decide)
  rw [show (4503599627370495 : Nat) = 2 ^ 52 - 1 by decide, Nat.and_two_pow_sub_one_eq_mod] at h
  exact h
theorem u64_hid52 {a : Nat} (ha : a < 2 ^ 52) : bits BinOp.or IntKind.u64 (a : Int) 4503599627370496 = ((2 ^ 52 + a : Nat) : Int) := by
  have h := or_exp (a := a) (P := 1) ha (by decide)
  rw [Nat.one_mul] at h
  exact h
theorem flt_parts (neg : Bool) {m e : Nat} {g : Nat} (hg : Vr g = m * 2 ^ (e - 1)) (he : 1 ≤ e) :
    (1075 ≤ e → Rat.divInt ((if neg then -(m : Int) else (m : Int)) * 2 ^ (e - 1075)) 1 = fltQ neg g) ∧ (e < 1075 → Rat.divInt (if neg then -(m : Int) else (m : Int)) (((2 ^ (1075 - e) : Nat)) : Int) = fltQ neg g) := by
  obtain ⟨n, hn⟩ : ∃ n : Nat, n = 1074 := ⟨_, rfl⟩
  have hp : ∀ k : Nat, (((2 ^ k : Nat)) : Int) ≠ 0 := fun k h => by have := Nat.pow_pos (n := k) (show 0 < 2 by decide); omega
  unfold fltQ
  rw [hg, ← hn]
  constructor
  · intro h
    rw [Rat.divInt_eq_divInt_iff (by decide) (hp n)]
    have e1 : (m * 2 ^ (e - 1) : Nat) = m * 2 ^ (e - 1075) * 2 ^ n := by rw [Nat.mul_assoc, ← Nat.pow_add]; congr 2; omega
    rw [e1, Int.mul_one]
    cases neg
    · simp only [if_false, Bool.false_eq_true, Int.natCast_mul, Int.natCast_pow]; rfl
    · simp only [if_true, Int.natCast_mul, Int.natCast_pow, Int.neg_mul]; rfl
  · intro h
    rw [Rat.divInt_eq_divInt_iff (hp _) (hp n)]
    have e1 : (m * 2 ^ (e - 1) : Nat) * 2 ^ (1075 - e) = m * 2 ^ n := by rw [Nat.mul_assoc, ← Nat.pow_add]; congr 2; omega
    have e2 : ((m * 2 ^ (e - 1) : Nat) : Int) * ((2 ^ (1075 - e) : Nat) : Int) = (m : Int) * ((2 ^ n : Nat) : Int) := by rw [← Int.natCast_mul, e1, Int.natCast_mul]
    cases neg
    · simp only [if_false, Bool.false_eq_true]
      exact e2.symm
    · simp only [if_true, Int.neg_mul]
      rw [e2]
theorem Vr_lt_inf {g : Nat} (h : g < 9218868437227405312) : Vr g < 2 ^ 2098 := by
  obtain ⟨j, s, rfl, h1, h2⟩ := rung_has g
  rw [Vr_parts (by omega) h2]
  have hj : j ≤ 2045 := by omega
  obtain ⟨a, ha⟩ : ∃ a : Nat, a = 2098 := ⟨_, rfl⟩
  rw [← ha]
  have h3 : s * 2 ^ j < 2 ^ 53 * 2 ^ j := Nat.mul_lt_mul_of_pos_right h1 (Nat.pow_pos (by decide))
  rw [← Nat.pow_add] at h3
  exact Nat.lt_of_lt_of_le h3 (Nat.pow_le_pow_right (by decide) (by omega))
theorem fits_flt (neg : Bool) {g : Nat} (h : g < 9218868437227405312) : fits (fltQ neg g) ∧ Sz 512 (fltQ neg g) := by
  obtain ⟨n, hn⟩ : ∃ n : Nat, n = 1074 := ⟨_, rfl⟩
  obtain ⟨a, ha⟩ : ∃ a : Nat, a = 2098 := ⟨_, rfl⟩
  have hV : Vr g < 2 ^ a := by rw [ha]; exact Vr_lt_inf h
  have hp : 0 < 2 ^ n := Nat.pow_pos (by decide)
  have hd := dsz (N := (if neg then -(Vr g : Int) else (Vr g : Int))) (D := ((2 ^ n : Nat) : Int)) (by omega)
  have e1 : (if neg then -(Vr g : Int) else (Vr g : Int)).natAbs = Vr g := by cases neg <;> simp
  rw [e1, Int.natAbs_natCast] at hd
  have hq : fltQ neg g = Rat.divInt (if neg then -(Vr g : Int) else (Vr g : Int)) ((2 ^ n : Nat) : Int) := by rw [hn]; rfl
  rw [← hq] at hd
  obtain ⟨k, hk⟩ : ∃ k : Nat, k = 33 := ⟨_, rfl⟩
  obtain ⟨l, hl⟩ : ∃ l : Nat, l = 66 := ⟨_, rfl⟩
  have w1 : 2 ^ a ≤ W64 ^ k := by rw [W64_pow]; exact Nat.pow_le_pow_right (by decide) (by omega)
  have w2 : 2 ^ n < W64 ^ k := by rw [W64_pow]; exact Nat.pow_lt_pow_right (by decide) (by omega)
  have w3 : 2 ^ a ≤ W32 ^ l := by rw [W32_pow]; exact Nat.pow_le_pow_right (by decide) (by omega)
  have w4 : 2 ^ n < W32 ^ l := by rw [W32_pow]; exact Nat.pow_lt_pow_right (by decide) (by omega)
  have f1 : (lim (fltQ neg g).num.natAbs).length ≤ k := lim_len_le (by omega)
  have f2 : (lim (fltQ neg g).den).length ≤ k := lim_len_le (by omega)
  have f3 : (dig (fltQ neg g).num.natAbs).length ≤ l := dig_len_le (by omega)
  have f4 : (dig (fltQ neg g).den).length ≤ l := dig_len_le (by omega)
  exact ⟨⟨by omega, by omega⟩, ⟨by omega, by omega⟩⟩

set_option maxRecDepth 100000 in
set_option maxHeartbeats 4000000 in
theorem setFloat_inf (b u : Nat) (w : World) (hu : u < 18446744073709551616) (hi : u / 2 ^ 52 % 2048 = 2047) :
    Calls Tryz.prog 84 #[.pointer (some ⟨b, 0, none⟩), .float .f64 u] w fun e w' => e = .returned (.pointer none) ∧ w = w' := by
  have hd := run_f64bits
  have b1 := u64_shr52 hu
  have b2 := u64_low52 hu
  rw [hi] at b1
  clear hi
  go_enter Tryz.func84, Tryz.ntmps84
  go_wp2_with fail
  go_ret
  exact ⟨rfl, rfl⟩
/-- the shape of SetFloat64's memory: new cells, then the receiver's -/
def FloatPost (b : Nat) (q : Rat) (w : World) (e : Ending) (w' : World) : Prop := e = .returned (.pointer (some ⟨b, 0, none⟩)) ∧ RatAt w' b q ∧ ∃ wm, Below w.heap.size w wm ∧ UpB wm w' b

set_option maxRecDepth 100000 in
set_option maxHeartbeats 4000000 in
theorem setFloat_zp (b u g : Nat) (w : World) (hz : RatObj w b) (hu : u < 18446744073709551616) (hg : g = u % 9223372036854775808) (he : u / 2 ^ 52 % 2048 = 0) (hs : u / 9223372036854775808 = 0) :
    Calls Tryz.prog 84 #[.pointer (some ⟨b, 0, none⟩), .float .f64 u] w (FloatPost b (fltQ false g) w) := by
  have hd := run_f64bits
  have b1 := u64_shr52 hu
  have b2 := u64_low52 hu
  have b3 := u64_hid52 (a := u % 2 ^ 52) (by omega)
  have b4 : (((u : Int) / 9223372036854775808) == 1) = false := by rw [show (u : Int) / 9223372036854775808 = 0 by omega]; rfl
  have HZ := Lib.hid hz
  have hblt : b < w.heap.size := by obtain ⟨_, _, h, _⟩ := hz; exact h.lt
  obtain ⟨E, hE⟩ : ∃ E, E = u / 2 ^ 52 % 2048 := ⟨_, rfl⟩
  obtain ⟨F, hF⟩ : ∃ F, F = u % 2 ^ 52 := ⟨_, rfl⟩
  rw [← hE] at b1 he
  rw [← hF] at b2 b3
  have hF2 : F < 2 ^ 52 := by omega
  obtain rfl : E = 0 := he
  have hgp : Vr g = F * 2 ^ (1 - 1) := by
    have h := Vr_parts (s := F) (j := 0) (by omega) (.inl rfl)
    rw [show g = 0 * 2 ^ 52 + F by omega]; exact h
  have hfl := flt_parts false hgp (Nat.le_refl _)
  obtain ⟨M, hM⟩ : ∃ M, M = F := ⟨_, rfl⟩
  rw [← hM] at hfl b2
  have HM : Hid (M < 18446744073709551616) := Lib.hid (by omega)
  have hq := hfl.2 (by omega)
  obtain ⟨k, hk⟩ : ∃ k, k = 1075 - 1 := ⟨_, rfl⟩
  rw [← hk] at hq
  have k2 : k ≤ 1100 := by omega
  have ew : IntKind.u64.wrap (k : Int) = (k : Int) := by rw [IntKind.wrap_u64]; omega
  have HK : Hid ((1074 : Int) = (k : Int)) := Lib.hid (by omega)
  simp only [if_false, Bool.false_eq_true] at hq
  have HQ := Lib.hid hq
  clear hfl hgp hE hF hM hg hu hs hq hk
  go_enter Tryz.func84, Tryz.ntmps84
  go_wp2_with fail
  refine (setU_int w.heap.size 0 0 M _ (new_intAt w) HM.out).mono ?_
  rintro e w1 ⟨rfl, hi1, hu1⟩
  have HI1 := Lib.hid hi1
  have HB1 := Lib.hid (newB hu1)
  have z1 := hi1.lt
  clear hi1 hu1
  go_wp2_with fail
  obtain ⟨w2, hw2⟩ : ∃ w2, w2 = w1 := ⟨_, rfl⟩
  rw [← hw2] at HI1 HB1 z1 ⊢
  have HI2 := HI1
  have HB2 := HB1
  have z2 := z1
  clear hw2 HI1 HB1 z1
  refine (newInt_int 1 w2 (by decide) (by decide)).mono ?_
  rintro e w3 ⟨d, rfl, hd1, hd2, hi3, hb3⟩
  have HI3 := Lib.hid hi3
  have HN3 := Lib.hid (HI2.out.below hb3)
  have HB3 := Lib.hid (HB2.out.trans (hb3.mono HB2.out.size))
  have z3 := hb3.size
  clear hi3 hb3
  go_wp2_with fail
  rw [HK.out]
  refine (lsh_int d 0 d 0 1 1 k w3 HI3.out HI3.out (by decide) (by omega)).mono ?_
  rintro e w4 ⟨rfl, hi4, hu4⟩
  have eP : (1 : Int) * 2 ^ k = ((2 ^ k : Nat) : Int) := by rw [Int.one_mul, Int.natCast_pow]; rfl
  rw [eP] at hi4
  have HD4 := Lib.hid hi4
  have HN4 := Lib.hid (HN3.out.upd hu4 (fun e => absurd e (by omega)))
  have HB4 := Lib.hid (HB3.out.trans (hu4.below (by omega) HB3.out.size))
  have lN : Hid ((dig ((M : Int)).natAbs).length ≤ 1000000) := Lib.hid (by
    have h4 := dig_len_small (x := M) (by have := HM.out; omega)
    have h5 : ((M : Int)).natAbs = M := by omega
    rw [h5]
    omega)
  clear hi4 hu4 eP
  go_wp2_with fail
  refine (setFrac_rat b w.heap.size 0 d 0 (M : Int) ((2 ^ k : Nat) : Int) w4 (HZ.out.below HB4.out) HN4.out HD4.out (fun h => by have := Nat.pow_pos (n := k) (show 0 < 2 by decide); omega) lN.out (by rw [Int.natAbs_natCast]; have := dig_pow k; omega)).mono ?_

  rintro e w5 ⟨rfl, hr5, hu5⟩
  rw [HQ.out] at hr5
  have HR5 := Lib.hid hr5
  have HU5 := Lib.hid hu5
  clear hr5 hu5
  go_wp2_with fail
  go_ret
  exact ⟨rfl, HR5.out, _, HB4.out, HU5.out⟩

set_option maxRecDepth 100000 in
set_option maxHeartbeats 4000000 in
theorem setFloat_zn (b u g : Nat) (w : World) (hz : RatObj w b) (hu : u < 18446744073709551616) (hg : g = u % 9223372036854775808) (he : u / 2 ^ 52 % 2048 = 0) (hs : u / 9223372036854775808 = 1) :
    Calls Tryz.prog 84 #[.pointer (some ⟨b, 0, none⟩), .float .f64 u] w (FloatPost b (fltQ true g) w) := by
  have hd := run_f64bits
  have b1 := u64_shr52 hu
  have b2 := u64_low52 hu
  have b3 := u64_hid52 (a := u % 2 ^ 52) (by omega)
  have b4 : (((u : Int) / 9223372036854775808) == 1) = true := by rw [show (u : Int) / 9223372036854775808 = 1 by omega]; rfl
  have HZ := Lib.hid hz
  have hblt : b < w.heap.size := by obtain ⟨_, _, h, _⟩ := hz; exact h.lt
  obtain ⟨E, hE⟩ : ∃ E, E = u / 2 ^ 52 % 2048 := ⟨_, rfl⟩
  obtain ⟨F, hF⟩ : ∃ F, F = u % 2 ^ 52 := ⟨_, rfl⟩
  rw [← hE] at b1 he
  rw [← hF] at b2 b3
  have hF2 : F < 2 ^ 52 := by omega
  obtain rfl : E = 0 := he
  have hgp : Vr g = F * 2 ^ (1 - 1) := by
    have h := Vr_parts (s := F) (j := 0) (by omega) (.inl rfl)
    rw [show g = 0 * 2 ^ 52 + F by omega]; exact h
  have hfl := flt_parts true hgp (Nat.le_refl _)
  obtain ⟨M, hM⟩ : ∃ M, M = F := ⟨_, rfl⟩
  rw [← hM] at hfl b2
  have HM : Hid (M < 18446744073709551616) := Lib.hid (by omega)
  have hq := hfl.2 (by omega)
  obtain ⟨k, hk⟩ : ∃ k, k = 1075 - 1 := ⟨_, rfl⟩
  rw [← hk] at hq
  have k2 : k ≤ 1100 := by omega
  have ew : IntKind.u64.wrap (k : Int) = (k : Int) := by rw [IntKind.wrap_u64]; omega
  have HK : Hid ((1074 : Int) = (k : Int)) := Lib.hid (by omega)
  simp only [if_true] at hq
  have HQ := Lib.hid hq
  clear hfl hgp hE hF hM hg hu hs hq hk
  go_enter Tryz.func84, Tryz.ntmps84
  go_wp2_with fail
  refine (setU_int w.heap.size 0 0 M _ (new_intAt w) HM.out).mono ?_
  rintro e w1 ⟨rfl, hi1, hu1⟩
  have HI1 := Lib.hid hi1
  have HB1 := Lib.hid (newB hu1)
  have z1 := hi1.lt
  clear hi1 hu1
  go_wp2_with fail
  refine (neg_int w.heap.size 0 w.heap.size 0 (M : Int) (M : Int) w1 HI1.out HI1.out (by have := dig_len_small (x := M) (by have := HM.out; omega); rw [Int.natAbs_natCast]; omega)).mono ?_
  rintro e w2 ⟨rfl, hi2, hu2⟩
  have HI2 := Lib.hid hi2
  have HB2 := Lib.hid (HB1.out.trans (hu2.below (Nat.le_refl _) HB1.out.size))
  have z2 := hi2.lt
  clear hi2 hu2
  go_wp2_with fail
  refine (newInt_int 1 w2 (by decide) (by decide)).mono ?_
  rintro e w3 ⟨d, rfl, hd1, hd2, hi3, hb3⟩
  have HI3 := Lib.hid hi3
  have HN3 := Lib.hid (HI2.out.below hb3)
  have HB3 := Lib.hid (HB2.out.trans (hb3.mono HB2.out.size))
  have z3 := hb3.size
  clear hi3 hb3
  go_wp2_with fail
  rw [HK.out]
  refine (lsh_int d 0 d 0 1 1 k w3 HI3.out HI3.out (by decide) (by omega)).mono ?_
  rintro e w4 ⟨rfl, hi4, hu4⟩
  have eP : (1 : Int) * 2 ^ k = ((2 ^ k : Nat) : Int) := by rw [Int.one_mul, Int.natCast_pow]; rfl
  rw [eP] at hi4
  have HD4 := Lib.hid hi4
  have HN4 := Lib.hid (HN3.out.upd hu4 (fun e => absurd e (by omega)))
  have HB4 := Lib.hid (HB3.out.trans (hu4.below (by omega) HB3.out.size))
  have lN : Hid ((dig ((-(M : Int))).natAbs).length ≤ 1000000) := Lib.hid (by
    have h4 := dig_len_small (x := M) (by have := HM.out; omega)
    have h5 : ((-(M : Int))).natAbs = M := by omega
    rw [h5]
    omega)
  clear hi4 hu4 eP
  go_wp2_with fail
  refine (setFrac_rat b w.heap.size 0 d 0 (-(M : Int)) ((2 ^ k : Nat) : Int) w4 (HZ.out.below HB4.out) HN4.out HD4.out (fun h => by have := Nat.pow_pos (n := k) (show 0 < 2 by decide); omega) lN.out (by rw [Int.natAbs_natCast]; have := dig_pow k; omega)).mono ?_

  rintro e w5 ⟨rfl, hr5, hu5⟩
  rw [HQ.out] at hr5
  have HR5 := Lib.hid hr5
  have HU5 := Lib.hid hu5
  clear hr5 hu5
  go_wp2_with fail
  go_ret
  exact ⟨rfl, HR5.out, _, HB4.out, HU5.out⟩

set_option maxRecDepth 100000 in
set_option maxHeartbeats 4000000 in
theorem setFloat_lp (b u g : Nat) (w : World) (hz : RatObj w b) (hu : u < 18446744073709551616) (hg : g = u % 9223372036854775808) (he : 0 < u / 2 ^ 52 % 2048 ∧ u / 2 ^ 52 % 2048 < 1075) (hs : u / 9223372036854775808 = 0) :
    Calls Tryz.prog 84 #[.pointer (some ⟨b, 0, none⟩), .float .f64 u] w (FloatPost b (fltQ false g) w) := by
  have hd := run_f64bits
  have b1 := u64_shr52 hu
  have b2 := u64_low52 hu
  have b3 := u64_hid52 (a := u % 2 ^ 52) (by omega)
  have b4 : (((u : Int) / 9223372036854775808) == 1) = false := by rw [show (u : Int) / 9223372036854775808 = 0 by omega]; rfl
  have HZ := Lib.hid hz
  have hblt : b < w.heap.size := by obtain ⟨_, _, h, _⟩ := hz; exact h.lt
  obtain ⟨E, hE⟩ : ∃ E, E = u / 2 ^ 52 % 2048 := ⟨_, rfl⟩
  obtain ⟨F, hF⟩ : ∃ F, F = u % 2 ^ 52 := ⟨_, rfl⟩
  rw [← hE] at b1 he
  rw [← hF] at b2 b3
  have hF2 : F < 2 ^ 52 := by omega
  have hgp : Vr g = (2 ^ 52 + F) * 2 ^ (E - 1) := by
    have h := Vr_parts (s := 2 ^ 52 + F) (j := E - 1) (by omega) (.inr (by omega))
    rw [show g = (E - 1) * 2 ^ 52 + (2 ^ 52 + F) by omega]; exact h
  have hfl := flt_parts false hgp (by omega)
  obtain ⟨M, hM⟩ : ∃ M, M = 2 ^ 52 + F := ⟨_, rfl⟩
  rw [← hM] at hfl b3
  have HM : Hid (M < 18446744073709551616) := Lib.hid (by omega)
  have e0 : ((E : Int) == 0) = false := by simp; omega
  have e1 : ((E : Int) == 2047) = false := by simp; omega
  have hq := hfl.2 (by omega)
  obtain ⟨k, hk⟩ : ∃ k, k = 1075 - E := ⟨_, rfl⟩
  rw [← hk] at hq
  have k2 : k ≤ 1100 := by omega
  have ew : IntKind.u64.wrap (k : Int) = (k : Int) := by rw [IntKind.wrap_u64]; omega
  have ek : (1075 : Int) - E = (k : Int) := by omega
  have el : decide ((1075 : Int) ≤ E) = false := by simp; omega
  simp only [if_false, Bool.false_eq_true] at hq
  have HQ := Lib.hid hq
  clear hfl hgp hE hF hM he hg hu hs hq hk
  go_enter Tryz.func84, Tryz.ntmps84
  go_wp2_with fail
  refine (setU_int w.heap.size 0 0 M _ (new_intAt w) HM.out).mono ?_
  rintro e w1 ⟨rfl, hi1, hu1⟩
  have HI1 := Lib.hid hi1
  have HB1 := Lib.hid (newB hu1)
  have z1 := hi1.lt
  clear hi1 hu1
  go_wp2_with fail
  obtain ⟨w2, hw2⟩ : ∃ w2, w2 = w1 := ⟨_, rfl⟩
  rw [← hw2] at HI1 HB1 z1 ⊢
  have HI2 := HI1
  have HB2 := HB1
  have z2 := z1
  clear hw2 HI1 HB1 z1
  refine (newInt_int 1 w2 (by decide) (by decide)).mono ?_
  rintro e w3 ⟨d, rfl, hd1, hd2, hi3, hb3⟩
  have HI3 := Lib.hid hi3
  have HN3 := Lib.hid (HI2.out.below hb3)
  have HB3 := Lib.hid (HB2.out.trans (hb3.mono HB2.out.size))
  have z3 := hb3.size
  clear hi3 hb3
  go_wp2_with fail
  refine (lsh_int d 0 d 0 1 1 k w3 HI3.out HI3.out (by decide) (by omega)).mono ?_
  rintro e w4 ⟨rfl, hi4, hu4⟩
  have eP : (1 : Int) * 2 ^ k = ((2 ^ k : Nat) : Int) := by rw [Int.one_mul, Int.natCast_pow]; rfl
  rw [eP] at hi4
  have HD4 := Lib.hid hi4
  have HN4 := Lib.hid (HN3.out.upd hu4 (fun e => absurd e (by omega)))
  have HB4 := Lib.hid (HB3.out.trans (hu4.below (by omega) HB3.out.size))
  have lN : Hid ((dig ((M : Int)).natAbs).length ≤ 1000000) := Lib.hid (by
    have h4 := dig_len_small (x := M) (by have := HM.out; omega)
    have h5 : ((M : Int)).natAbs = M := by omega
    rw [h5]
    omega)
  clear hi4 hu4 eP
  go_wp2_with fail
  refine (setFrac_rat b w.heap.size 0 d 0 (M : Int) ((2 ^ k : Nat) : Int) w4 (HZ.out.below HB4.out) HN4.out HD4.out (fun h => by have := Nat.pow_pos (n := k) (show 0 < 2 by decide); omega) lN.out (by rw [Int.natAbs_natCast]; have := dig_pow k; omega)).mono ?_

  rintro e w5 ⟨rfl, hr5, hu5⟩
  rw [HQ.out] at hr5
  have HR5 := Lib.hid hr5
  have HU5 := Lib.hid hu5
  clear hr5 hu5
  go_wp2_with fail
  go_ret
  exact ⟨rfl, HR5.out, _, HB4.out, HU5.out⟩

set_option maxRecDepth 100000 in
set_option maxHeartbeats 4000000 in
theorem setFloat_ln (b u g : Nat) (w : World) (hz : RatObj w b) (hu : u < 18446744073709551616) (hg : g = u % 9223372036854775808) (he : 0 < u / 2 ^ 52 % 2048 ∧ u / 2 ^ 52 % 2048 < 1075) (hs : u / 9223372036854775808 = 1) :
    Calls Tryz.prog 84 #[.pointer (some ⟨b, 0, none⟩), .float .f64 u] w (FloatPost b (fltQ true g) w) := by
  have hd := run_f64bits
  have b1 := u64_shr52 hu
  have b2 := u64_low52 hu
  have b3 := u64_hid52 (a := u % 2 ^ 52) (by omega)
  have b4 : (((u : Int) / 9223372036854775808) == 1) = true := by rw [show (u : Int) / 9223372036854775808 = 1 by omega]; rfl
  have HZ := Lib.hid hz
  have hblt : b < w.heap.size := by obtain ⟨_, _, h, _⟩ := hz; exact h.lt
  obtain ⟨E, hE⟩ : ∃ E, E = u / 2 ^ 52 % 2048 := ⟨_, rfl⟩
  obtain ⟨F, hF⟩ : ∃ F, F = u % 2 ^ 52 := ⟨_, rfl⟩
  rw [← hE] at b1 he
  rw [← hF] at b2 b3
  have hF2 : F < 2 ^ 52 := by omega
  have hgp : Vr g = (2 ^ 52 + F) * 2 ^ (E - 1) := by
    have h := Vr_parts (s := 2 ^ 52 + F) (j := E - 1) (by omega) (.inr (by omega))
    rw [show g = (E - 1) * 2 ^ 52 + (2 ^ 52 + F) by omega]; exact h
  have hfl := flt_parts true hgp (by omega)
  obtain ⟨M, hM⟩ : ∃ M, M = 2 ^ 52 + F := ⟨_, rfl⟩
  rw [← hM] at hfl b3
  have HM : Hid (M < 18446744073709551616) := Lib.hid (by omega)
  have e0 : ((E : Int) == 0) = false := by simp; omega
  have e1 : ((E : Int) == 2047) = false := by simp; omega
  have hq := hfl.2 (by omega)
  obtain ⟨k, hk⟩ : ∃ k, k = 1075 - E := ⟨_, rfl⟩
  rw [← hk] at hq
  have k2 : k ≤ 1100 := by omega
  have ew : IntKind.u64.wrap (k : Int) = (k : Int) := by rw [IntKind.wrap_u64]; omega
  have ek : (1075 : Int) - E = (k : Int) := by omega
  have el : decide ((1075 : Int) ≤ E) = false := by simp; omega
  simp only [if_true] at hq
  have HQ := Lib.hid hq
  clear hfl hgp hE hF hM he hg hu hs hq hk
  go_enter Tryz.func84, Tryz.ntmps84
  go_wp2_with fail
  refine (setU_int w.heap.size 0 0 M _ (new_intAt w) HM.out).mono ?_
  rintro e w1 ⟨rfl, hi1, hu1⟩
  have HI1 := Lib.hid hi1
  have HB1 := Lib.hid (newB hu1)
  have z1 := hi1.lt
  clear hi1 hu1
  go_wp2_with fail
  refine (neg_int w.heap.size 0 w.heap.size 0 (M : Int) (M : Int) w1 HI1.out HI1.out (by have := dig_len_small (x := M) (by have := HM.out; omega); rw [Int.natAbs_natCast]; omega)).mono ?_
  rintro e w2 ⟨rfl, hi2, hu2⟩
  have HI2 := Lib.hid hi2
  have HB2 := Lib.hid (HB1.out.trans (hu2.below (Nat.le_refl _) HB1.out.size))
  have z2 := hi2.lt
  clear hi2 hu2
  go_wp2_with fail
  refine (newInt_int 1 w2 (by decide) (by decide)).mono ?_
  rintro e w3 ⟨d, rfl, hd1, hd2, hi3, hb3⟩
  have HI3 := Lib.hid hi3
  have HN3 := Lib.hid (HI2.out.below hb3)
  have HB3 := Lib.hid (HB2.out.trans (hb3.mono HB2.out.size))
  have z3 := hb3.size
  clear hi3 hb3
  go_wp2_with fail
  refine (lsh_int d 0 d 0 1 1 k w3 HI3.out HI3.out (by decide) (by omega)).mono ?_
  rintro e w4 ⟨rfl, hi4, hu4⟩
  have eP : (1 : Int) * 2 ^ k = ((2 ^ k : Nat) : Int) := by rw [Int.one_mul, Int.natCast_pow]; rfl
  rw [eP] at hi4
  have HD4 := Lib.hid hi4
  have HN4 := Lib.hid (HN3.out.upd hu4 (fun e => absurd e (by omega)))
  have HB4 := Lib.hid (HB3.out.trans (hu4.below (by omega) HB3.out.size))
  have lN : Hid ((dig ((-(M : Int))).natAbs).length ≤ 1000000) := Lib.hid (by
    have h4 := dig_len_small (x := M) (by have := HM.out; omega)
    have h5 : ((-(M : Int))).natAbs = M := by omega
    rw [h5]
    omega)
  clear hi4 hu4 eP
  go_wp2_with fail
  refine (setFrac_rat b w.heap.size 0 d 0 (-(M : Int)) ((2 ^ k : Nat) : Int) w4 (HZ.out.below HB4.out) HN4.out HD4.out (fun h => by have := Nat.pow_pos (n := k) (show 0 < 2 by decide); omega) lN.out (by rw [Int.natAbs_natCast]; have := dig_pow k; omega)).mono ?_

  rintro e w5 ⟨rfl, hr5, hu5⟩
  rw [HQ.out] at hr5
  have HR5 := Lib.hid hr5
  have HU5 := Lib.hid hu5
  clear hr5 hu5
  go_wp2_with fail
  go_ret
  exact ⟨rfl, HR5.out, _, HB4.out, HU5.out⟩

set_option maxRecDepth 100000 in
set_option maxHeartbeats 4000000 in
theorem setFloat_hp (b u g : Nat) (w : World) (hz : RatObj w b) (hu : u < 18446744073709551616) (hg : g = u % 9223372036854775808) (he : 1075 ≤ u / 2 ^ 52 % 2048 ∧ u / 2 ^ 52 % 2048 < 2047) (hs : u / 9223372036854775808 = 0) :
    Calls Tryz.prog 84 #[.pointer (some ⟨b, 0, none⟩), .float .f64 u] w (FloatPost b (fltQ false g) w) := by
  have hd := run_f64bits
  have b1 := u64_shr52 hu
  have b2 := u64_low52 hu
  have b3 := u64_hid52 (a := u % 2 ^ 52) (by omega)
  have b4 : (((u : Int) / 9223372036854775808) == 1) = false := by rw [show (u : Int) / 9223372036854775808 = 0 by omega]; rfl
  have HZ := Lib.hid hz
  have hblt : b < w.heap.size := by obtain ⟨_, _, h, _⟩ := hz; exact h.lt
  obtain ⟨E, hE⟩ : ∃ E, E = u / 2 ^ 52 % 2048 := ⟨_, rfl⟩
  obtain ⟨F, hF⟩ : ∃ F, F = u % 2 ^ 52 := ⟨_, rfl⟩
  rw [← hE] at b1 he
  rw [← hF] at b2 b3
  have hF2 : F < 2 ^ 52 := by omega
  have hgp : Vr g = (2 ^ 52 + F) * 2 ^ (E - 1) := by
    have h := Vr_parts (s := 2 ^ 52 + F) (j := E - 1) (by omega) (.inr (by omega))
    rw [show g = (E - 1) * 2 ^ 52 + (2 ^ 52 + F) by omega]; exact h
  have hfl := flt_parts false hgp (by omega)
  obtain ⟨M, hM⟩ : ∃ M, M = 2 ^ 52 + F := ⟨_, rfl⟩
  rw [← hM] at hfl b3
  have HM : Hid (M < 18446744073709551616) := Lib.hid (by omega)
  have e0 : ((E : Int) == 0) = false := by simp; omega
  have e1 : ((E : Int) == 2047) = false := by simp; omega
  have hq := hfl.1 (by omega)
  obtain ⟨k, hk⟩ : ∃ k, k = E - 1075 := ⟨_, rfl⟩
  rw [← hk] at hq
  have ek : (E : Int) - 1075 = (k : Int) := by omega
  have k2 : k ≤ 1000 := by omega
  have ew : IntKind.u64.wrap (k : Int) = (k : Int) := by rw [IntKind.wrap_u64]; omega
  have el : decide ((1075 : Int) ≤ E) = true := by simp; omega

  simp only [if_false, Bool.false_eq_true] at hq
  have HQ := Lib.hid hq
  clear hfl hgp hE hF hM he hg hu hs hq hk
  go_enter Tryz.func84, Tryz.ntmps84
  go_wp2_with fail
  refine (setU_int w.heap.size 0 0 M _ (new_intAt w) HM.out).mono ?_
  rintro e w1 ⟨rfl, hi1, hu1⟩
  have HI1 := Lib.hid hi1
  have HB1 := Lib.hid (newB hu1)
  have z1 := hi1.lt
  clear hi1 hu1
  go_wp2_with fail
  obtain ⟨w2, hw2⟩ : ∃ w2, w2 = w1 := ⟨_, rfl⟩
  rw [← hw2] at HI1 HB1 z1 ⊢
  have HI2 := HI1
  have HB2 := HB1
  have z2 := z1
  clear hw2 HI1 HB1 z1
  refine (newInt_int 1 w2 (by decide) (by decide)).mono ?_
  rintro e w3 ⟨d, rfl, hd1, hd2, hi3, hb3⟩
  have HI3 := Lib.hid hi3
  have HN3 := Lib.hid (HI2.out.below hb3)
  have HB3 := Lib.hid (HB2.out.trans (hb3.mono HB2.out.size))
  have z3 := hb3.size
  clear hi3 hb3
  go_wp2_with fail
  refine (lsh_int w.heap.size 0 w.heap.size 0 (M : Int) (M : Int) k w3 HN3.out HN3.out (by have := dig_len_small (x := M) (by have := HM.out; omega); (first | rw [Int.natAbs_neg, Int.natAbs_natCast] | rw [Int.natAbs_natCast]); omega) (by omega)).mono ?_
  rintro e w4 ⟨rfl, hi4, hu4⟩
  have HN4 := Lib.hid hi4
  have HD4 := Lib.hid (HI3.out.upd hu4 (fun e => absurd e (by omega)))
  have HB4 := Lib.hid (HB3.out.trans (hu4.below (Nat.le_refl _) HB3.out.size))
  have lN : Hid ((dig ((M : Int) * 2 ^ k).natAbs).length ≤ 1000000) := Lib.hid (by
    rw [Int.natAbs_mul]
    have h1 := mul_len ((M : Int)).natAbs ((2 : Int) ^ k).natAbs
    have h2 : ((2 : Int) ^ k).natAbs = 2 ^ k := by rw [Int.natAbs_pow]; rfl
    rw [h2] at h1 ⊢
    have h3 := dig_pow k
    have h4 := dig_len_small (x := M) (by have := HM.out; omega)
    have h5 : ((M : Int)).natAbs = M := by omega
    rw [h5] at h1 ⊢
    omega)
  clear hi4 hu4
  go_wp2_with fail
  refine (setFrac_rat b w.heap.size 0 d 0 ((M : Int) * 2 ^ k) 1 w4 (HZ.out.below HB4.out) HN4.out HD4.out (by decide) lN.out (by decide)).mono ?_

  rintro e w5 ⟨rfl, hr5, hu5⟩
  rw [HQ.out] at hr5
  have HR5 := Lib.hid hr5
  have HU5 := Lib.hid hu5
  clear hr5 hu5
  go_wp2_with fail
  go_ret
  exact ⟨rfl, HR5.out, _, HB4.out, HU5.out⟩

set_option maxRecDepth 100000 in
set_option maxHeartbeats 4000000 in
theorem setFloat_hn (b u g : Nat) (w : World) (hz : RatObj w b) (hu : u < 18446744073709551616) (hg : g = u % 9223372036854775808) (he : 1075 ≤ u / 2 ^ 52 % 2048 ∧ u / 2 ^ 52 % 2048 < 2047) (hs : u / 9223372036854775808 = 1) :
    Calls Tryz.prog 84 #[.pointer (some ⟨b, 0, none⟩), .float .f64 u] w (FloatPost b (fltQ true g) w) := by
  have hd := run_f64bits
  have b1 := u64_shr52 hu
  have b2 := u64_low52 hu
  have b3 := u64_hid52 (a := u % 2 ^ 52) (by omega)
  have b4 : (((u : Int) / 9223372036854775808) == 1) = true := by rw [show (u : Int) / 9223372036854775808 = 1 by omega]; rfl
  have HZ := Lib.hid hz
  have hblt : b < w.heap.size := by obtain ⟨_, _, h, _⟩ := hz; exact h.lt
  obtain ⟨E, hE⟩ : ∃ E, E = u / 2 ^ 52 % 2048 := ⟨_, rfl⟩
  obtain ⟨F, hF⟩ : ∃ F, F = u % 2 ^ 52 := ⟨_, rfl⟩
  rw [← hE] at b1 he
  rw [← hF] at b2 b3
  have hF2 : F < 2 ^ 52 := by omega
  have hgp : Vr g = (2 ^ 52 + F) * 2 ^ (E - 1) := by
    have h := Vr_parts (s := 2 ^ 52 + F) (j := E - 1) (by omega) (.inr (by omega))
    rw [show g = (E - 1) * 2 ^ 52 + (2 ^ 52 + F) by omega]; exact h
  have hfl := flt_parts true hgp (by omega)
  obtain ⟨M, hM⟩ : ∃ M, M = 2 ^ 52 + F := ⟨_, rfl⟩
  rw [← hM] at hfl b3
  have HM : Hid (M < 18446744073709551616) := Lib.hid (by omega)
  have e0 : ((E : Int) == 0) = false := by simp; omega
  have e1 : ((E : Int) == 2047) = false := by simp; omega
  have hq := hfl.1 (by omega)
  obtain ⟨k, hk⟩ : ∃ k, k = E - 1075 := ⟨_, rfl⟩
  rw [← hk] at hq
  have ek : (E : Int) - 1075 = (k : Int) := by omega
  have k2 : k ≤ 1000 := by omega
  have ew : IntKind.u64.wrap (k : Int) = (k : Int) := by rw [IntKind.wrap_u64]; omega
  have el : decide ((1075 : Int) ≤ E) = true := by simp; omega

  simp only [if_true] at hq
  have HQ := Lib.hid hq
  clear hfl hgp hE hF hM he hg hu hs hq hk
  go_enter Tryz.func84, Tryz.ntmps84
  go_wp2_with fail
  refine (setU_int w.heap.size 0 0 M _ (new_intAt w) HM.out).mono ?_
  rintro e w1 ⟨rfl, hi1, hu1⟩
  have HI1 := Lib.hid hi1
  have HB1 := Lib.hid (newB hu1)
  have z1 := hi1.lt
  clear hi1 hu1
  go_wp2_with fail
  refine (neg_int w.heap.size 0 w.heap.size 0 (M : Int) (M : Int) w1 HI1.out HI1.out (by have := dig_len_small (x := M) (by have := HM.out; omega); rw [Int.natAbs_natCast]; omega)).mono ?_
  rintro e w2 ⟨rfl, hi2, hu2⟩
  have HI2 := Lib.hid hi2
  have HB2 := Lib.hid (HB1.out.trans (hu2.below (Nat.le_refl _) HB1.out.size))
  have z2 := hi2.lt
  clear hi2 hu2
  go_wp2_with fail
  refine (newInt_int 1 w2 (by decide) (by decide)).mono ?_
  rintro e w3 ⟨d, rfl, hd1, hd2, hi3, hb3⟩
  have HI3 := Lib.hid hi3
  have HN3 := Lib.hid (HI2.out.below hb3)
  have HB3 := Lib.hid (HB2.out.trans (hb3.mono HB2.out.size))
  have z3 := hb3.size
  clear hi3 hb3
  go_wp2_with fail
  refine (lsh_int w.heap.size 0 w.heap.size 0 (-(M : Int)) (-(M : Int)) k w3 HN3.out HN3.out (by have := dig_len_small (x := M) (by have := HM.out; omega); (first | rw [Int.natAbs_neg, Int.natAbs_natCast] | rw [Int.natAbs_natCast]); omega) (by omega)).mono ?_
  rintro e w4 ⟨rfl, hi4, hu4⟩
  have HN4 := Lib.hid hi4
  have HD4 := Lib.hid (HI3.out.upd hu4 (fun e => absurd e (by omega)))
  have HB4 := Lib.hid (HB3.out.trans (hu4.below (Nat.le_refl _) HB3.out.size))
  have lN : Hid ((dig ((-(M : Int)) * 2 ^ k).natAbs).length ≤ 1000000) := Lib.hid (by
    rw [Int.natAbs_mul]
    have h1 := mul_len ((-(M : Int))).natAbs ((2 : Int) ^ k).natAbs
    have h2 : ((2 : Int) ^ k).natAbs = 2 ^ k := by rw [Int.natAbs_pow]; rfl
    rw [h2] at h1 ⊢
    have h3 := dig_pow k
    have h4 := dig_len_small (x := M) (by have := HM.out; omega)
    have h5 : ((-(M : Int))).natAbs = M := by omega
    rw [h5] at h1 ⊢
    omega)
  clear hi4 hu4
  go_wp2_with fail
  refine (setFrac_rat b w.heap.size 0 d 0 ((-(M : Int)) * 2 ^ k) 1 w4 (HZ.out.below HB4.out) HN4.out HD4.out (by decide) lN.out (by decide)).mono ?_

  rintro e w5 ⟨rfl, hr5, hu5⟩
  rw [HQ.out] at hr5
  have HR5 := Lib.hid hr5
  have HU5 := Lib.hid hu5
  clear hr5 hu5
  go_wp2_with fail
  go_ret
  exact ⟨rfl, HR5.out, _, HB4.out, HU5.out⟩

theorem setFloat_rat (b u : Nat) (w : World) (hz : RatObj w b) (hu : u < 18446744073709551616) (hf : u % 9223372036854775808 < 9218868437227405312) :
    Calls Tryz.prog 84 #[.pointer (some ⟨b, 0, none⟩), .float .f64 u] w (FloatPost b (fltQ (decide (9223372036854775808 ≤ u)) (u % 9223372036854775808)) w) := by
  by_cases hs : 9223372036854775808 ≤ u
  · have hs' : u / 9223372036854775808 = 1 := by omega
    rw [show decide (9223372036854775808 ≤ u) = true by simp [hs]]
    by_cases h0 : u / 2 ^ 52 % 2048 = 0
    · exact setFloat_zn b u _ w hz hu rfl h0 hs'
    · by_cases h1 : u / 2 ^ 52 % 2048 < 1075
      · exact setFloat_ln b u _ w hz hu rfl ⟨by omega, h1⟩ hs'
      · exact setFloat_hn b u _ w hz hu rfl ⟨by omega, by omega⟩ hs'
  · have hs' : u / 9223372036854775808 = 0 := by omega
    rw [show decide (9223372036854775808 ≤ u) = false by simp; omega]
    by_cases h0 : u / 2 ^ 52 % 2048 = 0
    · exact setFloat_zp b u _ w hz hu rfl h0 hs'
    · by_cases h1 : u / 2 ^ 52 % 2048 < 1075
      · exact setFloat_lp b u _ w hz hu rfl ⟨by omega, h1⟩ hs'
      · exact setFloat_hp b u _ w hz hu rfl ⟨by omega, by omega⟩ hs'

end Go.Proofs.YtjokpfgncmdomaaGreatDoor

/- ratio.Of, Round of right ones: the walks -/
namespace Go.Proofs.YtjokpfgncmdomaaGreatDoor
open Go.RowKit Go.Sort

set_option maxRecDepth 100000 in
set_option maxHeartbeats 4000000 in
theorem of_inf (u : Nat) (w : World) (hu : u < 18446744073709551616) (hi : u / 2 ^ 52 % 2048 = 2047) :
    Calls Tryz.prog 32 #[.float .f64 u] w (Fail 5 w) := by
  have HU := Lib.hid hu
  have HI := Lib.hid hi
  clear hu hi
  go_enter Tryz.func32, Tryz.ntmps32
  go_wp2_with fail
  refine (setFloat_inf (w.heap.size + 1) u _ HU.out HI.out).mono ?_
  rintro e w1 ⟨rfl, hw1⟩
  have hblk : w1.heap[w.heap.size]? = some (.cells #[.bool false, .slice none 0 0, .slice none 0 0] 24 (0, 0)) := by
    rw [← hw1]
    exact ((below1 (w.alloc (.cells #[.bool false, .slice none 0 0, .slice none 0 0] 24)) newR).block w.heap.size (by simp)).trans (blk_new w _ _)
  have HB1 : Hid (Below w.heap.size w w1) := Lib.hid (by
    rw [← hw1]
    exact (below1 w (.cells #[.bool false, .slice none 0 0, .slice none 0 0] 24)).trans ((below1 (w.alloc (.cells #[.bool false, .slice none 0 0, .slice none 0 0] 24)) newR).mono (by simp)))
  have zx : w.heap.size + 1 ≤ w1.heap.size := by rw [← hw1]; simp
  clear hw1
  obtain ⟨kc, kf⟩ := blk_cells hblk
  have kc0 := kc 0
  have kc1 := kc 1
  have kc2 := kc 2
  have kf0 := kf 0
  have kf1 := kf 1
  have kf2 := kf 2
  simp only [List.getElem?_toArray, List.getElem?_cons_zero, List.getElem?_cons_succ] at kc0 kc1 kc2
  obtain ⟨w6, hw6⟩ : ∃ w6, w6 = ((w1.setCell ⟨w.heap.size, 0, none⟩ (.bool false)).setCell ⟨w.heap.size, 1, none⟩ (.slice none 0 0)).setCell ⟨w.heap.size, 2, none⟩ (.slice none 0 0) := ⟨_, rfl⟩
  obtain ⟨hu6, q0, q1, q2⟩ := rat_set kc0 kc1 kc2 _ _ _ _ _ _ _ _ hw6
  have HW6 := Lib.hid hw6
  have HU6 := Lib.hid hu6
  have Q0 := Lib.hid q0
  have Q1 := Lib.hid q1
  have Q2 := Lib.hid q2
  clear kc kf hblk hw6 hu6 q0 q1 q2
  go_wp2_with fail
  rw [← HW6.out]
  have q0 := Q0.out
  have q1 := Q1.out
  have q2 := Q2.out
  (try simp only [Exit.inBlock, Exit.then])
  refine bodyPost_ret (v := .tuple #[.agg #[.bool false, .slice none 0 0, .slice none 0 0], .int .i64 5]) (by simp [results, Tryz.results32, go_sem, q0, q1, q2]; done) rfl ?_
  exact ⟨_, rfl, noR_at _ _ _, HB1.out.trans (HU6.out.below (by omega) (by omega))⟩

set_option maxRecDepth 100000 in
set_option maxHeartbeats 4000000 in
theorem of_flt (u : Nat) (w : World) (hu : u < 18446744073709551616) (hf : u % 9223372036854775808 < 9218868437227405312) :
    Calls Tryz.prog 32 #[.float .f64 u] w fun e w' => ∃ v, e = .returned (.tuple #[v, .int .i64 0]) ∧ At w' v (fltQ (decide (9223372036854775808 ≤ u)) (u % 9223372036854775808)) ∧ Below w.heap.size w w' := by
  have HU := Lib.hid hu
  have HFT := Lib.hid hf
  obtain ⟨q, hq⟩ : ∃ q, q = fltQ (decide (9223372036854775808 ≤ u)) (u % 9223372036854775808) := ⟨_, rfl⟩
  have hfs := fits_flt (decide (9223372036854775808 ≤ u)) hf
  have HS := Lib.hid (fun b w hz => setFloat_rat b u w hz hu hf)
  rw [← hq] at hfs HS ⊢
  have HF := Lib.hid hfs.1
  have SX := Lib.hid hfs.2
  clear hu hf hfs hq
  go_enter Tryz.func32, Tryz.ntmps32
  go_wp2_with fail
  refine (HS.out (w.heap.size + 1) _ (by have h := new_rat (w.alloc (.cells #[.bool false, .slice none 0 0, .slice none 0 0] 24)); rwa [World.size_alloc] at h)).mono ?_
  rintro e w1 ⟨rfl, hr1, wm, hbm, hum⟩
  have hblk : w1.heap[w.heap.size]? = some (.cells #[.bool false, .slice none 0 0, .slice none 0 0] 24 (0, 0)) := by
    rw [hum.blk w.heap.size (by have := hbm.size; simp at this; omega) (by omega), hbm.block w.heap.size (by simp; omega)]
    exact ((below1 (w.alloc (.cells #[.bool false, .slice none 0 0, .slice none 0 0] 24)) newR).block w.heap.size (by simp)).trans (blk_new w _ _)
  have HR1 := Lib.hid hr1
  have zm : w.heap.size + 2 ≤ wm.heap.size := by have := hbm.size; simp at this; omega
  have HB1 := Lib.hid (((below1 w (.cells #[.bool false, .slice none 0 0, .slice none 0 0] 24)).trans (((below1 (w.alloc (.cells #[.bool false, .slice none 0 0, .slice none 0 0] 24)) newR).mono (by simp)).trans (hbm.mono (by simp; omega)))).trans (hum.below (by omega) (by omega)))
  have zx : w.heap.size + 1 ≤ w1.heap.size := by have := hum.size; omega
  clear hr1 hum hbm
  go_wp2_with fail
  refine (told_ratio (w.heap.size + 1) q w1 HR1.out (by have := SX.out.1; omega) (by have := SX.out.2; omega)).mono ?_
  rintro e w3 ht
  obtain ⟨v2, rfl, hv2, hb2⟩ := told_at ht HF.out
  have HV2 := Lib.hid hv2
  obtain ⟨tn, B, m, d, B', m', d', rfl⟩ : ∃ s A n c A' n' c', v2 = .agg #[.bool s, .slice A n c, .slice A' n' c'] := by obtain ⟨⟨A, n, c, A', n', c', h, _⟩, _⟩ := hv2; exact ⟨_, _, _, _, _, _, _, h⟩
  have hblk2 : w3.heap[w.heap.size]? = some (.cells #[.bool false, .slice none 0 0, .slice none 0 0] 24 (0, 0)) := (hb2.block w.heap.size (by omega)).trans hblk
  have zz : w.heap.size + 1 ≤ w3.heap.size := by have := hb2.size; omega
  have HB3 := Lib.hid (HB1.out.trans (hb2.mono HB1.out.size))
  clear hb2 hblk hv2 ht
  obtain ⟨kc, kf⟩ := blk_cells hblk2
  have kc0 := kc 0
  have kc1 := kc 1
  have kc2 := kc 2
  have kf0 := kf 0
  have kf1 := kf 1
  have kf2 := kf 2
  simp only [List.getElem?_toArray, List.getElem?_cons_zero, List.getElem?_cons_succ] at kc0 kc1 kc2
  obtain ⟨w6, hw6⟩ : ∃ w6, w6 = ((w3.setCell ⟨w.heap.size, 0, none⟩ (.bool tn)).setCell ⟨w.heap.size, 1, none⟩ (.slice B m d)).setCell ⟨w.heap.size, 2, none⟩ (.slice B' m' d') := ⟨_, rfl⟩
  obtain ⟨hu6, q0, q1, q2⟩ := rat_set kc0 kc1 kc2 _ _ _ _ _ _ _ _ hw6
  have HW6 := Lib.hid hw6
  have HU6 := Lib.hid hu6
  have Q0 := Lib.hid q0
  have Q1 := Lib.hid q1
  have Q2 := Lib.hid q2
  clear kc kf hblk2 hw6 hu6 q0 q1 q2
  go_wp2_with fail
  rw [← HW6.out]
  have q0 := Q0.out
  have q1 := Q1.out
  have q2 := Q2.out
  (try simp only [Exit.inBlock, Exit.then])
  refine bodyPost_ret (v := .tuple #[.agg #[.bool tn, .slice B m d, .slice B' m' d'], .int .i64 0]) (by simp [results, Tryz.results32, go_sem, q0, q1, q2]; done) rfl ?_
  exact ⟨_, rfl, ⟨HV2.out.1.upb HU6.out, HV2.out.2⟩, HB3.out.trans (HU6.out.below (by omega) (by omega))⟩

/-- a number as a float -/
def rndQ (q : Rat) (md : Int) : Nat := rnd (decide (q.num < 0)) q.num.natAbs q.den md
end Go.Proofs.YtjokpfgncmdomaaGreatDoor

/- floats of rungs: their order; what the four ways of rounding tell (plain) -/
namespace Go.Proofs.YtjokpfgncmdomaaGreatDoor
open Ieee
/-- a number's size, in units of the least float -/
def unitsQ (q : Rat) : Nat := q.num.natAbs * 2 ^ 1074
/-- the two floats about a number, by size, and the nearer one -/
structure SideF (q : Rat) (neg : Bool) (lo hi n : Nat) : Prop where
  d1 : rndQ q 1 = sw neg (if neg then hi else lo)
  d2 : rndQ q 2 = sw neg (if neg then lo else hi)
  d3 : rndQ q 3 = sw neg lo
  d0 : rndQ q 0 = sw neg n
  nn : n = lo ∨ n = hi
  step : hi = lo ∨ hi = lo + 1
  lo_lt : lo < 9218868437227405312
  hi_le : hi ≤ 9218868437227405312
  sgn : neg = decide (q.num < 0)
  low : Vr lo * q.den ≤ unitsQ q
  high : hi < 9218868437227405312 → unitsQ q ≤ Vr hi * q.den
  exact : hi = lo → unitsQ q = Vr lo * q.den
  strict : hi ≠ lo → Vr lo * q.den < unitsQ q
  strictH : hi ≠ lo → hi < 9218868437227405312 → unitsQ q < Vr hi * q.den
  nearL : hi ≠ lo → hi < 9218868437227405312 → 2 * unitsQ q < (Vr lo + Vr hi) * q.den → n = lo
  nearH : hi ≠ lo → hi < 9218868437227405312 → (Vr lo + Vr hi) * q.den < 2 * unitsQ q → n = hi
end Go.Proofs.YtjokpfgncmdomaaGreatDoor

/- held together: an order: plain -/
namespace Go.Proofs.YtjokpfgncmdomaaGreatDoor
open Go.RowKit Go.Sort
end Go.Proofs.YtjokpfgncmdomaaGreatDoor

/- math.Nextafter upwards: the walk; girderlaw07.below, above, exact: the walks -/
namespace Go.Proofs.YtjokpfgncmdomaaGreatDoor
open Go.RowKit Go.Sort
end Go.Proofs.YtjokpfgncmdomaaGreatDoor

/- girderlaw07.nearer: the walk (printed by gen_y2.py) -/
namespace Go.Proofs.YtjokpfgncmdomaaGreatDoor
open Go.RowKit Go.Sort
end Go.Proofs.YtjokpfgncmdomaaGreatDoor

/- floats about a number, rounded back: plain -/
namespace Go.Proofs.YtjokpfgncmdomaaGreatDoor
open Go.RowKit Go.Sort
end Go.Proofs.YtjokpfgncmdomaaGreatDoor

/- x - x; Of of any float (printed by gen_y4.py) -/
namespace Go.Proofs.YtjokpfgncmdomaaGreatDoor
open Go.RowKit Go.Sort Ieee

theorem read_nan0 (s m : Nat) (hs : s < 2) (hm : m < 4503599627370495) : ∃ neg fr, Ieee.double.read (s * 9223372036854775808 + 9218868437227405312 + 1 + m) = .nan neg fr := by
  refine ⟨(s * 9223372036854775808 + 9218868437227405312 + 1 + m) / 9223372036854775808 % 2 == 1, (s * 9223372036854775808 + 9218868437227405312 + 1 + m) % 9223372036854775808 - 9218868437227405312, ?_⟩
  have e1 : Ieee.double.signWeight = 9223372036854775808 := by decide
  have e2 : Ieee.double.binade = 4503599627370496 := by decide
  have e3 : Ieee.double.infRung = 9218868437227405312 := by decide
  unfold Ieee.Format.read
  simp only [e1, e2, e3]
  rw [if_neg (by omega), if_neg (by omega), if_neg (by omega)]
theorem run_sub_nan0 {P : Program} (w : World) (t : TypeId) (x y : Nat) (h : FloatKind.f64.format.sub x y = none) :
    ∃ b, (binOp .sub t (.float .f64 x) (.float .f64 y)).run P w = .ok (.float .f64 b) w.drew ∧ ∀ z, FloatKind.f64.format.order b z = none := by
  refine ⟨Question.cut (.nanBits .f64 x y) (w.tape w.drawn (.nanBits .f64 x y)), by simp only [binOp]; simp [Op.floatArith, h, choose, Sem.run, Question.forced], ?_⟩
  intro z
  generalize w.tape w.drawn (.nanBits .f64 x y) = n
  obtain ⟨neg, fr, e⟩ := read_nan0 (n % 2) (n / 2 % 4503599627370495) (by omega) (by omega)
  have e' : Ieee.double.read (Question.cut (.nanBits .f64 x y) n) = .nan neg fr := e
  unfold Ieee.Format.order
  show Ieee.Datum.order (Ieee.double.read _) _ = _
  rw [e']
  rfl
/-- is a word a number's -/
def finB (u : Nat) : Bool := decide (u % 9223372036854775808 < 9218868437227405312)
theorem sub_self_fin {u : Nat} (h : finB u = true) : floatBits .sub .f64 u u = some 0 := by
  have h : u % 9223372036854775808 < 9218868437227405312 := of_decide_eq_true h
  have e1 : Ieee.double.signWeight = 9223372036854775808 := by decide
  have e2 : Ieee.double.binade = 4503599627370496 := by decide
  have e3 : Ieee.double.infRung = 9218868437227405312 := by decide
  have hr : ∃ s m e, Ieee.double.read u = .number s m e := by
    unfold Ieee.Format.read
    simp only [e1, e2, e3]
    split
    · exact ⟨_, _, _, rfl⟩
    · first | exact ⟨_, _, _, rfl⟩ | (rw [if_pos (by omega)]; exact ⟨_, _, _, rfl⟩)
  obtain ⟨s, m, e, hr⟩ := hr
  show ((Ieee.double.read u).sum (Ieee.double.read u).opposite).map Ieee.double.write = some 0
  rw [hr]
  have hz : ∀ a, signed s m a + signed (!s) m a = 0 := fun a => by unfold signed; cases s <;> simp <;> omega
  show some (Ieee.double.write (.number (if signed s m (e - min e e).toNat + signed (!s) m (e - min e e).toNat = 0 then s && !s else decide (signed s m (e - min e e).toNat + signed (!s) m (e - min e e).toNat < 0)) (signed s m (e - min e e).toNat + signed (!s) m (e - min e e).toNat).natAbs (min e e))) = some 0
  rw [hz]
  simp only [if_true, Int.natAbs_zero, Bool.and_not_self]
  unfold Ieee.Format.write Ieee.Format.nearest
  simp
  rfl
theorem sub_self_nan {u : Nat} (h : finB u = false) : FloatKind.f64.format.sub u u = none := by
  have h : ¬ u % 9223372036854775808 < 9218868437227405312 := of_decide_eq_false h
  have e1 : Ieee.double.signWeight = 9223372036854775808 := by decide
  have e2 : Ieee.double.binade = 4503599627370496 := by decide
  have e3 : Ieee.double.infRung = 9218868437227405312 := by decide
  have hr : (∃ s, Ieee.double.read u = .infinity s) ∨ ∃ s m, Ieee.double.read u = .nan s m := by
    unfold Ieee.Format.read
    simp only [e1, e2, e3]
    rw [if_neg (by omega), if_neg h]
    split
    · exact .inl ⟨_, rfl⟩
    · exact .inr ⟨_, _, rfl⟩
  show ((Ieee.double.read u).sum (Ieee.double.read u).opposite).map Ieee.double.write = none
  rcases hr with ⟨s, hr⟩ | ⟨s, m, hr⟩
  · rw [hr]
    show ((if s = !s then _ else none).map _) = none
    cases s <;> rfl
  · rw [hr]; rfl
/-- x - x, whatever x is -/
theorem sub_self (t : TypeId) (u : Nat) (w : World) : ∃ b n, (binOp .sub t (.float .f64 u) (.float .f64 u)).run Tryz.prog w = .ok (.float .f64 b) (w.drewN n) ∧ (FloatKind.f64.format.order b 0 == some Ordering.eq) = finB u := by
  cases h : finB u
  · obtain ⟨b, h1, h2⟩ := run_sub_nan0 (P := Tryz.prog) w t u u (sub_self_nan h)
    exact ⟨b, 1, h1, by rw [h2]; rfl⟩
  · exact ⟨0, 0, run_float_arith w .sub t .f64 u u 0 (sub_self_fin h), by decide +kernel⟩
end Go.Proofs.YtjokpfgncmdomaaGreatDoor

/- girderlaw07.RatioSides: the walk (printed by gen_y4.py) -/
namespace Go.Proofs.YtjokpfgncmdomaaGreatDoor
open Go.RowKit Go.Sort Ieee
end Go.Proofs.YtjokpfgncmdomaaGreatDoor
