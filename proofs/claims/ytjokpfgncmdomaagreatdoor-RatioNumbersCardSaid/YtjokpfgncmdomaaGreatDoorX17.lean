import Derived.Test.YtjokpfgncmdomaaGreatDoorX16
import Ieee.Arith
set_option linter.unusedSimpArgs false
set_option linter.unusedVariables false
/- floats: what is written exactly; products with a power of two; whole numbers: plain -/
namespace Go.Proofs.YtjokpfgncmdomaaGreatDoor
open Go.RowKit Go.Sort Ieee

theorem log2_mul_pow {m : Nat} (hm : m ≠ 0) : ∀ k : Nat, (m * 2 ^ k).log2 = m.log2 + k
  | 0 => by simp
  | k + 1 => by
    rw [Nat.pow_succ, ← Nat.mul_assoc, Nat.mul_comm _ 2, Nat.log2_two_mul (Nat.mul_ne_zero hm (Nat.ne_of_gt (Nat.pow_pos (by decide)))), log2_mul_pow hm k]
    omega
theorem cut_none (s : Bool) (n : Nat) : Toward.even.cut s n 0 = n := by
  unfold Toward.cut
  simp [Nat.mod_one]
theorem cut_exact (s : Bool) (a d : Nat) (ha : a ≠ 0) : Toward.even.cut s (a * 2 ^ d) d = a := by
  unfold Toward.cut
  have h1 : min d ((a * 2 ^ d).log2 + 2) = d := by rw [log2_mul_pow ha]; omega
  have hp : 0 < 2 ^ d := Nat.pow_pos (by decide)
  simp only [h1, Nat.one_shiftLeft]
  rw [Nat.mul_div_cancel _ hp, Nat.mul_mod_left]
  have : ¬ 2 ^ d < 0 := by omega
  simp [Nat.ne_of_gt hp]
/-- the last place of a number that is kept -/
def lastP (m : Nat) (p : Int) : Int := max (p + (m.log2 : Int) - 52) (-1074)
def rungOf (m : Nat) (p : Int) : Nat := (lastP m p + 1074).toNat * 2 ^ 52 + m * 2 ^ (p - lastP m p).toNat
theorem nearest_exact (s : Bool) (m : Nat) (p : Int) (k : Nat) (hm : m ≠ 0) (hp : lastP m p ≤ p) (hf : rungOf m p ≤ double.infRung) : double.nearest s (m * 2 ^ k) (p - k) = double.word s (rungOf m p) := by
  have hmk : m * 2 ^ k ≠ 0 := Nat.mul_ne_zero hm (Nat.ne_of_gt (Nat.pow_pos (by decide)))
  unfold Format.nearest
  rw [if_neg hmk, log2_mul_pow hm]
  have hl : double.leastPlace = -1074 := by decide
  have hfb : (double.fractionBits : Int) = 52 := by decide
  have e1 : max (p - (k : Int) + ((m.log2 + k : Nat) : Int) - (double.fractionBits : Int)) (-1074) = lastP m p := by
    rw [hfb]; unfold lastP; congr 1; omega
  simp only [hl]
  simp only [e1]
  have hb : double.binade = 2 ^ 52 := by decide
  rw [hb]
  obtain ⟨q, hq⟩ : ∃ q, q = lastP m p := ⟨_, rfl⟩
  have hr : rungOf m p = (q + 1074).toNat * 2 ^ 52 + m * 2 ^ (p - q).toNat := by unfold rungOf; rw [← hq]
  rw [← hq] at hp ⊢
  have e2 : (q - -1074) = q + 1074 := by omega
  rw [e2]
  have hk : Toward.even.cut s ((m * 2 ^ k) <<< (p - (k : Int) - q).toNat) (q - (p - (k : Int))).toNat = m * 2 ^ (p - q).toNat := by
    by_cases h : q ≤ p - k
    · have h0 : (q - (p - (k : Int))).toNat = 0 := by omega
      rw [h0, cut_none, Nat.shiftLeft_eq, Nat.mul_assoc, ← Nat.pow_add]
      congr 2
      omega
    · have h0 : (p - (k : Int) - q).toNat = 0 := by omega
      rw [h0, Nat.shiftLeft_zero]
      have h1 : k = (p - q).toNat + (q - (p - (k : Int))).toNat := by omega
      have h2 : m * 2 ^ k = (m * 2 ^ (p - q).toNat) * 2 ^ (q - (p - (k : Int))).toNat := by
        rw [Nat.mul_assoc, ← Nat.pow_add, ← h1]
      rw [h2]
      exact cut_exact s _ _ (Nat.mul_ne_zero hm (Nat.ne_of_gt (Nat.pow_pos (by decide))))
  rw [hk, ← hr, Nat.min_eq_left hf]
theorem read_word (s : Bool) (K : Nat) (q : Int) (hK : K < 2 ^ 53) (hq : -1074 ≤ q) (hn : q = -1074 ∨ 2 ^ 52 ≤ K) (hf : (q + 1074).toNat * 2 ^ 52 + K < double.infRung) :
    double.read (double.word s ((q + 1074).toNat * 2 ^ 52 + K)) = .number s K q := by
  have hi : double.infRung = 2047 * 2 ^ 52 := by decide
  have hb : double.binade = 2 ^ 52 := by decide
  have hs : double.signWeight = 2 ^ 63 := by decide
  have hl : double.leastPlace = -1074 := by decide
  rw [hi] at hf
  obtain ⟨r, hr⟩ : ∃ r, r = (q + 1074).toNat * 2 ^ 52 + K := ⟨_, rfl⟩
  rw [← hr] at hf ⊢
  have e1 : double.word s r / double.signWeight % 2 = if s then 1 else 0 := by
    unfold Format.word; rw [hs]; cases s <;> simp <;> omega
  have e2 : double.word s r % double.signWeight = r := by
    unfold Format.word; rw [hs]; cases s <;> simp <;> omega
  unfold Format.read
  simp only [e1, e2, hb, hi, hl]
  have e3 : ((if s = true then 1 else 0) == 1) = s := by cases s <;> rfl
  rw [e3]
  by_cases h : r < 2 ^ 52
  · rw [if_pos h]
    have h0 : q = -1074 := by omega
    have h1 : r = K := by omega
    rw [h1, h0]
  · rw [if_neg h, if_pos hf]
    have h2 : 2 ^ 52 ≤ K := by omega
    congr 1 <;> omega
theorem lastP_of {K : Nat} {q : Int} (hK : K < 2 ^ 53) (h0 : K ≠ 0) (hq : -1074 ≤ q) (hn : q = -1074 ∨ 2 ^ 52 ≤ K) : lastP K q = q := by
  unfold lastP
  have h1 : K.log2 < 53 := (Nat.log2_lt h0).2 hK
  rcases hn with h | h
  · omega
  · have h2 : ¬ K.log2 < 52 := fun h3 => by have := (Nat.log2_lt h0).1 h3; omega
    omega
theorem rungOf_of {K : Nat} {q : Int} (hK : K < 2 ^ 53) (h0 : K ≠ 0) (hq : -1074 ≤ q) (hn : q = -1074 ∨ 2 ^ 52 ≤ K) : rungOf K q = (q + 1074).toNat * 2 ^ 52 + K := by
  unfold rungOf
  rw [lastP_of hK h0 hq hn]
  simp
theorem mul_unit (u : Nat) (a : Int) (hu : double.read u = .number false (2 ^ 52) a) (K : Nat) (q : Int) (hK : K < 2 ^ 53) (hq : -1074 ≤ q) (hn : q = -1074 ∨ 2 ^ 52 ≤ K) (hf : (q + 1074).toNat * 2 ^ 52 + K < double.infRung) :
    double.mul u ((q + 1074).toNat * 2 ^ 52 + K) = some (double.nearest false (K * 2 ^ 52) (q + a)) := by
  unfold Format.mul
  have h := read_word false K q hK hq hn hf
  have e : double.word false ((q + 1074).toNat * 2 ^ 52 + K) = (q + 1074).toNat * 2 ^ 52 + K := rfl
  rw [e] at h
  rw [hu, h]
  simp only [Datum.product, Option.map_some, Format.write]
  rw [Nat.mul_comm, Int.add_comm]
  rfl
theorem mul_one (K : Nat) (q : Int) (h0 : K ≠ 0) (hK : K < 2 ^ 53) (hq : -1074 ≤ q) (hn : q = -1074 ∨ 2 ^ 52 ≤ K) (hf : (q + 1074).toNat * 2 ^ 52 + K < double.infRung) :
    double.mul 4607182418800017408 ((q + 1074).toNat * 2 ^ 52 + K) = some ((q + 1074).toNat * 2 ^ 52 + K) := by
  rw [mul_unit 4607182418800017408 (-52) (by decide) K q hK hq hn hf]
  have h := nearest_exact false K q 52 h0 (by rw [lastP_of hK h0 hq hn]; exact Int.le_refl _) (by rw [rungOf_of hK h0 hq hn]; omega)
  rw [rungOf_of hK h0 hq hn] at h
  have e : q + -52 = q - ((52 : Nat) : Int) := rfl
  rw [e, h]
  rfl

theorem order_num (a b : Nat) (i j : Int) : Datum.order (.number false a i) (.number false b j) = some (compare ((a <<< (i - min i j).toNat : Nat) : Int) ((b <<< (j - min i j).toNat : Nat) : Int)) := rfl
theorem icmp_lt {a b : Int} (h : a < b) : compare a b = .lt := by
  show compareOfLessAndEq a b = .lt
  unfold compareOfLessAndEq; rw [if_pos h]
theorem icmp_gt {a b : Int} (h : b < a) : compare a b = .gt := by
  show compareOfLessAndEq a b = .gt
  unfold compareOfLessAndEq; rw [if_neg (by omega), if_neg (by omega)]
theorem icmp_eq (a : Int) : compare a a = .eq := by
  show compareOfLessAndEq a a = .eq
  unfold compareOfLessAndEq; rw [if_neg (by omega), if_pos rfl]
/-- a whole number below 2^53, as a float -/
theorem log_lt {f : Nat} (h0 : f ≠ 0) (h : f < 2 ^ 53) : f.log2 ≤ 52 := by
  have := (Nat.log2_lt h0).2 h
  omega
theorem kept_bounds {f : Nat} (h0 : f ≠ 0) (h : f < 2 ^ 53) : 2 ^ 52 ≤ f * 2 ^ (52 - f.log2) ∧ f * 2 ^ (52 - f.log2) < 2 ^ 53 := by
  have hl := log_lt h0 h
  have h1 : 2 ^ f.log2 ≤ f := Nat.log2_self_le h0
  have h2 : f < 2 ^ (f.log2 + 1) := Nat.lt_log2_self
  have hp : 0 < 2 ^ (52 - f.log2) := Nat.pow_pos (by decide)
  constructor
  · have e : 2 ^ 52 = 2 ^ f.log2 * 2 ^ (52 - f.log2) := by rw [← Nat.pow_add]; congr 1; omega
    rw [e]; exact Nat.mul_le_mul_right _ h1
  · have e : 2 ^ 53 = 2 ^ (f.log2 + 1) * 2 ^ (52 - f.log2) := by rw [← Nat.pow_add]; congr 1; omega
    rw [e]; exact Nat.mul_lt_mul_of_pos_right h2 hp
theorem rung_whole {f : Nat} (h0 : f ≠ 0) (h : f < 2 ^ 53) : rungOf f 0 = (f.log2 + 1022) * 2 ^ 52 + f * 2 ^ (52 - f.log2) := by
  have hl := log_lt h0 h
  have e : lastP f 0 = (f.log2 : Int) - 52 := by unfold lastP; omega
  unfold rungOf
  rw [e]
  congr 2
  · congr 1; omega
  · congr 1; omega
theorem read_whole {f : Nat} (h0 : f ≠ 0) (h : f < 2 ^ 53) : double.read (rungOf f 0) = .number false (f * 2 ^ (52 - f.log2)) ((f.log2 : Int) - 52) := by
  have hl := log_lt h0 h
  have hk := kept_bounds h0 h
  have hi : double.infRung = 2047 * 2 ^ 52 := by decide
  have e : rungOf f 0 = ((((f.log2 : Int) - 52) + 1074).toNat) * 2 ^ 52 + f * 2 ^ (52 - f.log2) := by
    rw [rung_whole h0 h]
    congr 2
    omega
  rw [e]
  exact read_word false _ _ hk.2 (by omega) (.inr hk.1) (by rw [hi]; omega)
theorem whole_ne_zero {f : Nat} (h0 : f ≠ 0) (h : f < 2 ^ 53) : (double.order (rungOf f 0) 0 == some Ordering.eq) = false := by
  have hk := kept_bounds h0 h
  have e : double.read 0 = .number false 0 (-1074) := by decide
  unfold Format.order
  rw [read_whole h0 h, e, order_num, icmp_gt]
  · rfl
  · have : 0 < (f * 2 ^ (52 - f.log2)) <<< ((f.log2 : Int) - 52 - min ((f.log2 : Int) - 52) (-1074)).toNat := by
      rw [Nat.shiftLeft_eq]; exact Nat.mul_pos (by omega) (Nat.pow_pos (by decide))
    rw [Nat.zero_shiftLeft]
    exact Int.ofNat_lt.2 this
theorem whole_eq {f : Nat} (h0 : f ≠ 0) (h : f < 2 ^ 53) : (double.order (rungOf f 0) (rungOf f 0) == some Ordering.eq) = true := by
  unfold Format.order
  rw [read_whole h0 h, order_num, icmp_eq]
  rfl
theorem whole_le_max {f : Nat} (h0 : f ≠ 0) (h : f < 2 ^ 53) : (double.order (rungOf f 0) 9218868437227405311 == some Ordering.gt) = false := by
  have hk := kept_bounds h0 h
  have hl := log_lt h0 h
  have e : double.read 9218868437227405311 = .number false (2 ^ 53 - 1) 971 := by decide
  unfold Format.order
  rw [read_whole h0 h, e, order_num, icmp_lt]
  · rfl
  · have e1 : ((f.log2 : Int) - 52 - min ((f.log2 : Int) - 52) 971).toNat = 0 := by omega
    have e2 : (971 - min ((f.log2 : Int) - 52) 971).toNat = 1023 - f.log2 := by omega
    rw [e1, e2, Nat.shiftLeft_zero, Nat.shiftLeft_eq]
    refine Int.ofNat_lt.2 (Nat.lt_of_lt_of_le hk.2 ?_)
    have h2 : 2 ^ 1 ≤ 2 ^ (1023 - f.log2) := Nat.pow_le_pow_right (by decide) (by omega)
    have h3 := Nat.mul_le_mul_left (2 ^ 53 - 1) h2
    exact Nat.le_trans (by decide) h3
theorem whole_normal {f : Nat} (h0 : f ≠ 0) (h : f < 2 ^ 53) : (double.order (rungOf f 0) 4503599627370496 == some Ordering.lt) = false := by
  have hk := kept_bounds h0 h
  have hl := log_lt h0 h
  have e : double.read 4503599627370496 = .number false (2 ^ 52) (-1074) := by decide
  unfold Format.order
  rw [read_whole h0 h, e, order_num, icmp_gt]
  · rfl
  · have e1 : ((f.log2 : Int) - 52 - min ((f.log2 : Int) - 52) (-1074)).toNat = f.log2 + 1022 := by omega
    have e2 : (-1074 - min ((f.log2 : Int) - 52) (-1074)).toNat = 0 := by omega
    rw [e1, e2, Nat.shiftLeft_zero, Nat.shiftLeft_eq]
    refine Int.ofNat_lt.2 ?_
    have h2 : 2 ^ 1 ≤ 2 ^ (f.log2 + 1022) := Nat.pow_le_pow_right (by decide) (by omega)
    have h3 := Nat.mul_le_mul hk.1 h2
    exact Nat.lt_of_lt_of_le (by decide) h3
theorem and_mask {x : Nat} (hx : x < 2 ^ 63) : x &&& (18446744073709551615 - 9218868437227405312) = x % 2 ^ 52 := by
  apply Nat.eq_of_testBit_eq
  intro i
  rw [Nat.testBit_and, Nat.testBit_mod_two_pow, show (18446744073709551615 - 9218868437227405312 : Nat) = 2 ^ 63 + (2 ^ 52 - 1) by decide]
  have h2 := Nat.two_pow_add_eq_or_of_lt (i := 63) (b := 2 ^ 52 - 1) (by decide) 1
  rw [Nat.mul_one] at h2
  rw [h2, Nat.testBit_or, Nat.testBit_two_pow_sub_one, Nat.testBit_two_pow]
  by_cases h63 : i = 63
  · subst h63
    have : x.testBit 63 = false := Nat.testBit_lt_two_pow hx
    simp [this]
  · have h3 : ¬ 63 = i := fun e => h63 e.symm
    simp [h3, Bool.and_comm]
theorem or_parts {a E : Nat} (ha : a < 2 ^ 52) : a ||| (E * 2 ^ 52) = E * 2 ^ 52 + a := by
  have h := Nat.two_pow_add_eq_or_of_lt (i := 52) (b := a) ha E
  rw [Nat.or_comm, Nat.mul_comm E, ← h]

theorem rung_whole_lt {f : Nat} (h0 : f ≠ 0) (h : f < 2 ^ 53) : rungOf f 0 < 9223372036854775808 := by
  have hk := kept_bounds h0 h
  have hl := log_lt h0 h
  rw [rung_whole h0 h]
  omega
theorem whole_shift {f : Nat} (h0 : f ≠ 0) (h : f < 2 ^ 53) : rungOf f 0 / 2 ^ 52 = f.log2 + 1023 ∧ rungOf f 0 % 2 ^ 52 = f * 2 ^ (52 - f.log2) - 2 ^ 52 := by
  have hk := kept_bounds h0 h
  rw [rung_whole h0 h]
  constructor <;> omega
/-- where a float's exponent is not too small -/
theorem rung_normal {f : Nat} {e : Int} (h0 : f ≠ 0) (h : f < 2 ^ 53) (he : -1022 ≤ e + f.log2) : rungOf f e = (e + f.log2 + 1022).toNat * 2 ^ 52 + f * 2 ^ (52 - f.log2) := by
  have hl := log_lt h0 h
  have e1 : lastP f e = e + (f.log2 : Int) - 52 := by unfold lastP; omega
  unfold rungOf
  rw [e1]
  congr 2
  · congr 1; omega
  · congr 1; omega
theorem ldexp_normal {f : Nat} {e : Int} (h0 : f ≠ 0) (h : f < 2 ^ 53) (he : -1022 ≤ e + f.log2) (he2 : e + f.log2 ≤ 1023) :
    double.mul 4607182418800017408 ((e + f.log2 + 1023).toNat * 2 ^ 52 + (f * 2 ^ (52 - f.log2) - 2 ^ 52)) = some (rungOf f e) := by
  have hk := kept_bounds h0 h
  have hi : double.infRung = 2047 * 2 ^ 52 := by decide
  have e1 : (e + f.log2 + 1023).toNat * 2 ^ 52 + (f * 2 ^ (52 - f.log2) - 2 ^ 52) = (((e + f.log2 - 52) + 1074).toNat) * 2 ^ 52 + f * 2 ^ (52 - f.log2) := by omega
  rw [e1, mul_one _ _ (by omega) hk.2 (by omega) (.inr hk.1) (by rw [hi]; omega), rung_normal h0 h he]
  have e3 : (e + f.log2 - 52 + 1074).toNat = (e + f.log2 + 1022).toNat := by omega
  rw [e3]
theorem ldexp_small {f : Nat} {e : Int} (h0 : f ≠ 0) (h : f < 2 ^ 53) (he : -1074 ≤ e) (he2 : e + f.log2 < -1022) :
    double.mul 4368491638549381120 ((e + f.log2 + 53 + 1023).toNat * 2 ^ 52 + (f * 2 ^ (52 - f.log2) - 2 ^ 52)) = some (rungOf f e) := by
  have hk := kept_bounds h0 h
  have hl := log_lt h0 h
  have hi : double.infRung = 2047 * 2 ^ 52 := by decide
  have e1 : (e + f.log2 + 53 + 1023).toNat * 2 ^ 52 + (f * 2 ^ (52 - f.log2) - 2 ^ 52) = (((e + f.log2 + 1) + 1074).toNat) * 2 ^ 52 + f * 2 ^ (52 - f.log2) := by omega
  rw [e1, mul_unit 4368491638549381120 (-105) (by decide) _ _ hk.2 (by omega) (.inr hk.1) (by rw [hi]; omega)]
  have e2 : lastP f e = -1074 := by unfold lastP; omega
  have hr : rungOf f e ≤ double.infRung := by
    rw [hi]
    unfold rungOf
    rw [e2]
    have h3 : f * 2 ^ (e - -1074).toNat < 2 ^ 52 := by
      have h4 : f < 2 ^ (f.log2 + 1) := Nat.lt_log2_self
      have h5 : 2 ^ (f.log2 + 1) * 2 ^ (e - -1074).toNat ≤ 2 ^ 52 := by
        rw [← Nat.pow_add]; exact Nat.pow_le_pow_right (by decide) (by omega)
      exact Nat.lt_of_lt_of_le (Nat.mul_lt_mul_of_pos_right h4 (Nat.pow_pos (by decide))) h5
    omega
  have hx := nearest_exact false f e (104 - f.log2) h0 (by rw [e2]; exact he) hr
  have e3 : f * 2 ^ (52 - f.log2) * 2 ^ 52 = f * 2 ^ (104 - f.log2) := by
    rw [Nat.mul_assoc, ← Nat.pow_add, show 52 - f.log2 + 52 = 104 - f.log2 by omega]
  have e4 : e + (f.log2 : Int) + 1 + -105 = e - ((104 - f.log2 : Nat) : Int) := by omega
  rw [e3, e4, hx]
  rfl
theorem nearest_whole {f : Nat} (h0 : f ≠ 0) (h : f < 2 ^ 53) : double.nearest false f 0 = rungOf f 0 := by
  have hk := kept_bounds h0 h
  have hl := log_lt h0 h
  have hi : double.infRung = 2047 * 2 ^ 52 := by decide
  have hx := nearest_exact false f 0 0 h0 (by unfold lastP; omega) (by rw [hi, rung_whole h0 h]; omega)
  simp at hx
  rw [hx]
  rfl

end Go.Proofs.YtjokpfgncmdomaaGreatDoor

/- math.Ldexp, bits.Join of any whole number below 2^53: the walks -/
namespace Go.Proofs.YtjokpfgncmdomaaGreatDoor
open Go.RowKit Go.Sort

theorem andNot_exp {x : Nat} (hx : x < 9223372036854775808) : bits BinOp.andNot IntKind.u64 (x : Int) 9218868437227405312 = ((x % 4503599627370496 : Nat) : Int) := by
  have h := u64_andNot_nat x 9218868437227405312 (by omega) (by decide)
  rw [and_mask hx] at h
  exact h
theorem or_exp {a P : Nat} (ha : a < 4503599627370496) (hP : P < 2048) : bits BinOp.or IntKind.u64 (a : Int) ((P * 4503599627370496 : Nat) : Int) = ((P * 4503599627370496 + a : Nat) : Int) := by
  have h := bits_or_u64_nat a (P * 4503599627370496) (by omega) (by omega)
  rw [show a ||| P * 4503599627370496 = P * 4503599627370496 + a from or_parts (a := a) (E := P) ha] at h
  exact h
theorem and_exp {k : Nat} (hk : k < 2048) : bits BinOp.and IntKind.i64 (k : Int) 2047 = (k : Int) := by
  have h1 : (BitVec.ofInt 64 (k : Int)).toNat = k := by
    rw [BitVec.ofInt_natCast, BitVec.toNat_ofNat]; exact Nat.mod_eq_of_lt (by omega)
  show IntKind.i64.wrap ((BitVec.ofInt 64 (k : Int) &&& BitVec.ofInt 64 2047).toNat : Int) = _
  rw [BitVec.toNat_and, h1, show (BitVec.ofInt 64 2047).toNat = 2 ^ 11 - 1 by decide, Nat.and_two_pow_sub_one_eq_mod, Nat.mod_eq_of_lt (show k < 2 ^ 11 by omega), IntKind.wrap_i64]
  omega

set_option maxRecDepth 100000 in
set_option maxHeartbeats 4000000 in
theorem isInf_w (V : Nat) (w : World) (hV : V < 9223372036854775808) (o1 : (FloatKind.f64.format.order V 9218868437227405311 == some Ordering.gt) = false) :
    Calls Tryz.prog 180 #[.float .f64 V, .int .i64 0] w fun e w' => e = .returned (.bool false) ∧ w = w' := by
  go_enter Tryz.func180, Tryz.ntmps180
  go_wp2_with fail
  refine (abs_f V w (by omega)).mono ?_
  rw [Nat.mod_eq_of_lt hV]
  rintro e w' ⟨rfl, rfl⟩
  go_wp2_with fail
  go_ret
  exact ⟨rfl, rfl⟩
set_option maxRecDepth 100000 in
set_option maxHeartbeats 4000000 in
theorem isNaN_w (V : Nat) (w : World) (o1 : (FloatKind.f64.format.order V V != some Ordering.eq) = false) :
    Calls Tryz.prog 94 #[.float .f64 V] w fun e w' => e = .returned (.bool false) ∧ w = w' := by
  go_enter Tryz.func94, Tryz.ntmps94
  go_wp2_with fail
  go_ret
  exact ⟨rfl, rfl⟩
set_option maxRecDepth 100000 in
set_option maxHeartbeats 4000000 in
theorem normalize_w (V : Nat) (w : World) (hV : V < 9223372036854775808) (o1 : (FloatKind.f64.format.order V 4503599627370496 == some Ordering.lt) = false) :
    Calls Tryz.prog 181 #[.float .f64 V] w fun e w' => e = .returned (.tuple #[.float .f64 V, .int .i64 0]) ∧ w = w' := by
  go_enter Tryz.func181, Tryz.ntmps181
  go_wp2_with fail
  refine (abs_f V w (by omega)).mono ?_
  rw [Nat.mod_eq_of_lt hV]
  rintro e w' ⟨rfl, rfl⟩
  go_wp2_with fail
  go_ret2
  exact ⟨rfl, rfl⟩

set_option maxRecDepth 100000 in
set_option maxHeartbeats 4000000 in
theorem ldexp_w (f : Nat) (e : Int) (w : World) (h0 : f ≠ 0) (h : f < 2 ^ 53) (he : -1074 ≤ e) (he2 : e + f.log2 ≤ 1023) :
    Calls Tryz.prog 178 #[.float .f64 (rungOf f 0), .int .i64 e] w fun x w' => x = .returned (.float .f64 (rungOf f e)) ∧ w = w' := by
  have hd := run_f64bits
  have hd2 := run_f64from
  obtain ⟨V, hV⟩ : ∃ V, V = rungOf f 0 := ⟨_, rfl⟩
  obtain ⟨K, hK⟩ : ∃ K, K = f.log2 := ⟨_, rfl⟩
  obtain ⟨a, ha⟩ : ∃ a, a = f * 2 ^ (52 - f.log2) - 2 ^ 52 := ⟨_, rfl⟩
  obtain ⟨R, hR⟩ : ∃ R, R = rungOf f e := ⟨_, rfl⟩
  have hK52 : K ≤ 52 := by rw [hK]; exact log_lt h0 h
  have ha52 : a < 4503599627370496 := by have := kept_bounds h0 h; rw [ha]; omega
  have v1 : V < 9223372036854775808 := by rw [hV]; exact rung_whole_lt h0 h
  have v2 : V / 4503599627370496 = K + 1023 := by rw [hV, hK]; exact (whole_shift h0 h).1
  have v3 : V % 4503599627370496 = a := by rw [hV, ha]; exact (whole_shift h0 h).2
  have o1 : (FloatKind.f64.format.order V 0 == some Ordering.eq) = false := by rw [hV]; exact whole_ne_zero h0 h
  have HINF := Lib.hid (isInf_w V w v1 (by rw [hV]; exact whole_le_max h0 h))
  have HNAN := Lib.hid (isNaN_w V w (by rw [hV]; have := whole_eq h0 h; show (!(Ieee.double.order _ _ == _)) = false; rw [this]; rfl))
  have HNRM := Lib.hid (normalize_w V w v1 (by rw [hV]; exact whole_normal h0 h))
  have b1 : bits BinOp.and IntKind.i64 ((V : Int) / 4503599627370496) 2047 = ((K + 1023 : Nat) : Int) := by
    rw [show (V : Int) / 4503599627370496 = ((K + 1023 : Nat) : Int) by omega]
    exact and_exp (by omega)
  have b2 : bits BinOp.andNot IntKind.u64 (V : Int) 9218868437227405312 = (a : Int) := by rw [andNot_exp v1, v3]
  rw [← hV, ← hR]
  have HLN : Hid (-1022 ≤ e + K → FloatKind.f64.format.mul 4607182418800017408 ((e + K + 1023).toNat * 4503599627370496 + a) = some R) := Lib.hid (fun h1 => by
    rw [hR, ha, hK]
    rw [hK] at h1
    exact ldexp_normal h0 h h1 he2)
  have HLS : Hid (e + K < -1022 → FloatKind.f64.format.mul 4368491638549381120 ((e + K + 53 + 1023).toNat * 4503599627370496 + a) = some R) := Lib.hid (fun h1 => by
    rw [hR, ha, hK]
    rw [hK] at h1
    exact ldexp_small h0 h he h1)
  rw [← hK] at he2
  clear hV hK ha hR v2 v3
  by_cases hn : -1022 ≤ e + K
  · have hm := HLN.out hn
    have b3 : bits BinOp.or IntKind.u64 (a : Int) ((e + K + 1023) * 4503599627370496) = (((e + K + 1023).toNat * 4503599627370496 + a : Nat) : Int) := by
      rw [← or_exp ha52 (P := (e + K + 1023).toNat) (by omega)]
      congr 1
      omega
    obtain ⟨N, hN⟩ : ∃ N, N = (e + K + 1023).toNat * 4503599627370496 + a := ⟨_, rfl⟩
    rw [← hN] at hm b3
    clear hN
    have b4 := fun w => run_float_arith (P := Tryz.prog) (w := w) BinOp.mul 29 FloatKind.f64 4607182418800017408 N _ hm
    go_enter Tryz.func178, Tryz.ntmps178
    go_wp2_with fail
    refine HINF.out.mono ?_
    rintro e w' ⟨rfl, rfl⟩
    go_wp2_with fail
    refine HNAN.out.mono ?_
    rintro e w' ⟨rfl, rfl⟩
    go_wp2_with fail
    refine HNRM.out.mono ?_
    rintro e w' ⟨rfl, rfl⟩
    go_wp2_with fail
    go_ret
    exact ⟨rfl, rfl⟩
  · have hm := HLS.out (by omega)
    have b3 : bits BinOp.or IntKind.u64 (a : Int) ((e + K + 53 + 1023) * 4503599627370496) = (((e + K + 53 + 1023).toNat * 4503599627370496 + a : Nat) : Int) := by
      rw [← or_exp ha52 (P := (e + K + 53 + 1023).toNat) (by omega)]
      congr 1
      omega
    obtain ⟨N, hN⟩ : ∃ N, N = (e + K + 53 + 1023).toNat * 4503599627370496 + a := ⟨_, rfl⟩
    rw [← hN] at hm b3
    clear hN
    have b4 := fun w => run_float_arith (P := Tryz.prog) (w := w) BinOp.mul 29 FloatKind.f64 4368491638549381120 N _ hm
    go_enter Tryz.func178, Tryz.ntmps178
    go_wp2_with fail
    refine HINF.out.mono ?_
    rintro e w' ⟨rfl, rfl⟩
    go_wp2_with fail
    refine HNAN.out.mono ?_
    rintro e w' ⟨rfl, rfl⟩
    go_wp2_with fail
    refine HNRM.out.mono ?_
    rintro e w' ⟨rfl, rfl⟩
    go_wp2_with fail
    go_ret
    exact ⟨rfl, rfl⟩

end Go.Proofs.YtjokpfgncmdomaaGreatDoor

/- math.Copysign; math.Ldexp, bits.Join of any parts: the walks -/
namespace Go.Proofs.YtjokpfgncmdomaaGreatDoor
open Go.RowKit Go.Sort

/-- a size's bits, with a sign -/
def sw (s : Bool) (V : Nat) : Nat := if s then V + 9223372036854775808 else V

set_option maxRecDepth 100000 in
set_option maxHeartbeats 4000000 in
theorem copysign_w (V : Nat) (w : World) (hV : V < 9223372036854775808) :
    Calls Tryz.prog 45 #[.float .f64 V, .float .f64 13830554455654793216] w fun e w' => e = .returned (.float .f64 (sw true V)) ∧ w = w' := by
  have hd := run_f64bits
  have hd2 := run_f64from
  have b1 : bits BinOp.andNot IntKind.u64 (V : Int) 9223372036854775808 = (V : Int) := by rw [clear_sign (by omega), Nat.mod_eq_of_lt hV]
  have b2 : bits BinOp.and IntKind.u64 13830554455654793216 9223372036854775808 = 9223372036854775808 := by decide +kernel
  have b3 : bits BinOp.or IntKind.u64 (V : Int) 9223372036854775808 = ((V + 9223372036854775808 : Nat) : Int) := by
    have h := bits_or_u64_nat V (2 ^ 63) (by omega) (by decide)
    have h2 := Nat.two_pow_add_eq_or_of_lt (i := 63) (b := V) hV 1
    rw [Nat.mul_one, Nat.or_comm] at h2
    rw [← h2, Nat.add_comm] at h
    exact h
  obtain ⟨N, hN⟩ : ∃ N, N = V + 9223372036854775808 := ⟨_, rfl⟩
  rw [← hN] at b3
  have HN : Hid (sw true V = N) := Lib.hid (by rw [hN]; rfl)
  rw [HN.out]
  clear hN
  go_enter Tryz.func45, Tryz.ntmps45
  go_wp2_with fail
  go_ret
  exact ⟨rfl, rfl⟩

set_option maxRecDepth 100000 in
set_option maxHeartbeats 4000000 in
theorem ldexp_zero (w : World) : Calls Tryz.prog 178 #[.float .f64 0, .int .i64 0] w fun x w' => x = .returned (.float .f64 0) ∧ w = w' := by
  have o1 : (FloatKind.f64.format.order 0 0 == some Ordering.eq) = true := by decide +kernel
  go_enter Tryz.func178, Tryz.ntmps178
  go_wp2_with fail
  go_ret
  exact ⟨rfl, rfl⟩
set_option maxRecDepth 100000 in
set_option maxHeartbeats 4000000 in
theorem Ldexp_zero (w : World) : Calls Tryz.prog 169 #[.float .f64 0, .int .i64 0] w fun x w' => x = .returned (.float .f64 0) ∧ w = w' := by
  go_enter Tryz.func169, Tryz.ntmps169
  go_wp2_with fail
  refine (ldexp_zero w).mono ?_
  rintro e w' ⟨rfl, rfl⟩
  go_wp2_with fail
  go_ret
  exact ⟨rfl, rfl⟩
set_option maxRecDepth 100000 in
set_option maxHeartbeats 4000000 in
theorem Ldexp_w (f : Nat) (e : Int) (w : World) (h0 : f ≠ 0) (h : f < 2 ^ 53) (he : -1074 ≤ e) (he2 : e + f.log2 ≤ 1023) :
    Calls Tryz.prog 169 #[.float .f64 (rungOf f 0), .int .i64 e] w fun x w' => x = .returned (.float .f64 (rungOf f e)) ∧ w = w' := by
  have HC := Lib.hid (ldexp_w f e w h0 h he he2)
  generalize rungOf f 0 = V at HC ⊢
  generalize rungOf f e = R at HC ⊢
  have x2 : e ≤ 1023 := by omega
  clear he2 h h0
  go_enter Tryz.func169, Tryz.ntmps169
  go_wp2_with fail
  refine HC.out.mono ?_
  rintro e w' ⟨rfl, rfl⟩
  go_wp2_with fail
  go_ret
  exact ⟨rfl, rfl⟩

theorem rungOf_lt {f : Nat} {e : Int} (h0 : f ≠ 0) (h : f < 2 ^ 53) (he : -1074 ≤ e) (he2 : e + f.log2 ≤ 1023) : rungOf f e < 9218868437227405312 := by
  have hl := log_lt h0 h
  have hk := kept_bounds h0 h
  by_cases hn : -1022 ≤ e + f.log2
  · rw [rung_normal h0 h hn]
    omega
  · have e2 : lastP f e = -1074 := by unfold lastP; omega
    unfold rungOf
    rw [e2]
    have h3 : f * 2 ^ (e - -1074).toNat < 2 ^ 52 := by
      have h4 : f < 2 ^ (f.log2 + 1) := Nat.lt_log2_self
      have h5 : 2 ^ (f.log2 + 1) * 2 ^ (e - -1074).toNat ≤ 2 ^ 52 := by
        rw [← Nat.pow_add]; exact Nat.pow_le_pow_right (by decide) (by omega)
      exact Nat.lt_of_lt_of_le (Nat.mul_lt_mul_of_pos_right h4 (Nat.pow_pos (by decide))) h5
    omega

set_option maxRecDepth 100000 in
set_option maxHeartbeats 4000000 in
theorem join_zero (s : Bool) (w : World) : Calls Tryz.prog 150 #[.agg #[.bool s, .int .u64 0, .int .i64 0]] w fun e w' => e = .returned (.tuple #[.float .f64 (sw s 0), .bool true]) ∧ Below w.heap.size w w' := by
  have c1 : floatOfInt FloatKind.f64 0 = 0 := by decide +kernel
  cases s
  · go_enter Tryz.func150, Tryz.ntmps150
    go_wp2_with fail
    refine (len64 0 _ (by decide)).mono ?_
    rintro e w' ⟨rfl, rfl⟩
    rw [show blen 0 = 0 by decide +kernel]
    go_wp2_with fail
    refine (Ldexp_zero _).mono ?_
    rintro e w' ⟨rfl, rfl⟩
    go_wp2_with fail
    go_ret2
    exact ⟨rfl, below1 ..⟩
  · go_enter Tryz.func150, Tryz.ntmps150
    go_wp2_with fail
    refine (len64 0 _ (by decide)).mono ?_
    rintro e w' ⟨rfl, rfl⟩
    rw [show blen 0 = 0 by decide +kernel]
    go_wp2_with fail
    refine (Ldexp_zero _).mono ?_
    rintro e w' ⟨rfl, rfl⟩
    go_wp2_with fail
    refine (copysign_w 0 _ (by decide)).mono ?_
    rintro e w' ⟨rfl, rfl⟩
    go_wp2_with fail
    go_ret2
    exact ⟨rfl, below1 ..⟩
set_option maxRecDepth 100000 in
set_option maxHeartbeats 4000000 in
theorem join_odd (s : Bool) (f : Nat) (e : Int) (w : World) (h : f < 2 ^ 53) (ho : f % 2 = 1) (he : -1074 ≤ e) (he2 : e + blen f ≤ 1024) :
    Calls Tryz.prog 150 #[.agg #[.bool s, .int .u64 (f : Int), .int .i64 e]] w fun x w' => x = .returned (.tuple #[.float .f64 (sw s (rungOf f e)), .bool true]) ∧ Below w.heap.size w w' := by
  have h0 : f ≠ 0 := by omega
  have hbl : blen f = f.log2 + 1 := by unfold blen; rw [if_neg h0]
  have hl := log_lt h0 h
  have c1 : floatOfInt FloatKind.f64 (f : Int) = rungOf f 0 := by
    rw [← nearest_whole h0 h]
    rfl
  have HL := Lib.hid (fun w => Ldexp_w f e w h0 h he (by omega))
  have HLT := Lib.hid (rungOf_lt h0 h he (by omega))
  have HBL := Lib.hid (fun w => len64 f w (by unfold W64; omega))
  obtain ⟨b, hb⟩ : ∃ b, b = blen f := ⟨_, rfl⟩
  rw [← hb] at HBL he2 hbl
  have hb1 : 1 ≤ b := by omega
  have hb2 : b ≤ 53 := by omega
  clear hb hbl hl
  generalize rungOf f 0 = V at HL c1 ⊢
  generalize rungOf f e = R at HL HLT ⊢
  have f0 : ((f : Int) == 0) = false := by simp; omega
  have f1 : ((f : Int) != 0) = true := by simp; omega
  have f2 : ((f : Int) % 2 == 0) = false := by simp; omega
  clear h0 ho h
  cases s
  · go_enter Tryz.func150, Tryz.ntmps150
    go_wp2_with fail
    refine (HBL.out _).mono ?_
    rintro e w' ⟨rfl, rfl⟩
    go_wp2_with fail
    refine (HL.out _).mono ?_
    rintro e w' ⟨rfl, rfl⟩
    go_wp2_with fail
    go_ret2
    exact ⟨rfl, below1 ..⟩
  · go_enter Tryz.func150, Tryz.ntmps150
    go_wp2_with fail
    refine (HBL.out _).mono ?_
    rintro e w' ⟨rfl, rfl⟩
    go_wp2_with fail
    refine (HL.out _).mono ?_
    rintro e w' ⟨rfl, rfl⟩
    go_wp2_with fail
    refine (copysign_w R _ (by have := HLT.out; omega)).mono ?_
    rintro e w' ⟨rfl, rfl⟩
    go_wp2_with fail
    go_ret2
    exact ⟨rfl, below1 ..⟩

end Go.Proofs.YtjokpfgncmdomaaGreatDoor

/- bits.Next of the greatest floats: the walks; a rung of its parts -/
namespace Go.Proofs.YtjokpfgncmdomaaGreatDoor
open Go.RowKit Go.Sort

theorem rung_parts {size k : Nat} {last : Int} (h0 : size ≠ 0) (h : size ≤ 2 ^ 53) (hd : size / 2 ^ k * 2 ^ k = size) (hk : size / 2 ^ k < 2 ^ 53) (hl : -1074 ≤ last) (hn : last = -1074 ∨ 2 ^ 52 ≤ size) :
    rungOf (size / 2 ^ k) (last + k) = (last + 1074).toNat * 2 ^ 52 + size := by
  obtain ⟨f, hf⟩ : ∃ f, f = size / 2 ^ k := ⟨_, rfl⟩
  rw [← hf] at hd hk ⊢
  have f0 : f ≠ 0 := fun e => by rw [e] at hd; omega
  have hlog : size.log2 = f.log2 + k := by rw [← hd]; exact log2_mul_pow f0 k
  by_cases h53 : size < 2 ^ 53
  · have h1 := log_lt h0 h53
    have hq : lastP f (last + k) = last := by
      unfold lastP
      rcases hn with e | e
      · omega
      · have : ¬ size.log2 < 52 := fun h3 => by have := (Nat.log2_lt h0).1 h3; omega
        omega
    unfold rungOf
    rw [hq, show (last + (k : Int) - last).toNat = k by omega, hd]
  · have e53 : size = 2 ^ 53 := by omega
    have h1 : size.log2 = 53 := by rw [e53]; exact Nat.log2_two_pow
    have hk1 : 1 ≤ k := by
      rcases Nat.eq_zero_or_pos k with e | e
      · rw [e] at hd; omega
      · exact e
    have hq : lastP f (last + k) = last + 1 := by unfold lastP; omega
    unfold rungOf
    rw [hq, show (last + (k : Int) - (last + 1)).toNat = k - 1 by omega]
    have h2 : f * 2 ^ (k - 1) = 2 ^ 52 := by
      have h3 : f * 2 ^ (k - 1) * 2 = 2 ^ 53 := by rw [Nat.mul_assoc, ← Nat.pow_succ, show (k - 1).succ = k by omega, hd, e53]
      omega
    rw [h2, e53]
    omega

set_option maxRecDepth 100000 in
set_option maxHeartbeats 4000000 in
theorem next_max (w : World) : Calls Tryz.prog 151 #[.float .f64 9218868437227405311, .bool true] w fun e w' => e = .returned (.float .f64 9218868437227405312) ∧ Below w.heap.size w w' := by
  have hd := run_f64bits
  have hd2 := run_f64from
  have hP : Calls Tryz.prog 170 #[.float .f64 9218868437227405311] w fun e w' => e = .returned (.tuple #[.int .i64 9218868437227405311, .bool true]) ∧ w = w' := by
    have o1 : (FloatKind.f64.format.order 9218868437227405311 9218868437227405311 != some Ordering.eq) = false := by decide +kernel
    have o2 : (FloatKind.f64.format.order 9218868437227405311 0 == some Ordering.lt) = false := by decide +kernel
    go_enter Tryz.func170, Tryz.ntmps170
    go_wp2_with fail
    refine (abs_f 9218868437227405311 w (by decide)).mono ?_
    rintro e w' ⟨rfl, rfl⟩
    go_wp2_with fail
    go_ret2
    exact ⟨rfl, rfl⟩
  have hA : Calls Tryz.prog 171 #[.int .i64 9218868437227405312] w fun e w' => e = .returned (.tuple #[.float .f64 9218868437227405312, .bool true]) ∧ w = w' := by
    go_enter Tryz.func171, Tryz.ntmps171
    go_wp2_with fail
    go_ret2
    exact ⟨rfl, rfl⟩
  have HP := Lib.hid hP
  have HA := Lib.hid hA
  clear hP hA
  go_enter Tryz.func151, Tryz.ntmps151
  go_wp2_with fail
  refine HP.out.mono ?_
  rintro e w' ⟨rfl, rfl⟩
  go_wp2_with fail
  refine HA.out.mono ?_
  rintro e w' ⟨rfl, rfl⟩
  go_wp2_with fail
  go_ret
  exact ⟨rfl, .refl _ _⟩
set_option maxRecDepth 100000 in
set_option maxHeartbeats 4000000 in
theorem next_min (w : World) : Calls Tryz.prog 151 #[.float .f64 18442240474082181119, .bool false] w fun e w' => e = .returned (.float .f64 18442240474082181120) ∧ Below w.heap.size w w' := by
  have hd := run_f64bits
  have hd2 := run_f64from
  have hP : Calls Tryz.prog 170 #[.float .f64 18442240474082181119] w fun e w' => e = .returned (.tuple #[.int .i64 (-9218868437227405311), .bool true]) ∧ w = w' := by
    have o1 : (FloatKind.f64.format.order 18442240474082181119 18442240474082181119 != some Ordering.eq) = false := by decide +kernel
    have o2 : (FloatKind.f64.format.order 18442240474082181119 0 == some Ordering.lt) = true := by decide +kernel
    go_enter Tryz.func170, Tryz.ntmps170
    go_wp2_with fail
    refine (abs_f 18442240474082181119 w (by decide)).mono ?_
    rintro e w' ⟨rfl, rfl⟩
    go_wp2_with fail
    go_ret2
    exact ⟨rfl, rfl⟩
  have hA : Calls Tryz.prog 171 #[.int .i64 (-9218868437227405312)] w fun e w' => e = .returned (.tuple #[.float .f64 18442240474082181120, .bool true]) ∧ w = w' := by
    have b5 : ∀ w, (Op.unary .neg (.float .f64 9218868437227405312)).run Tryz.prog w = .ok (.float .f64 18442240474082181120) w := fun w => by
      show (pure (Value.float .f64 (Op.negFloat .f64 9218868437227405312)) : Sem Value).run Tryz.prog w = _
      rw [show Op.negFloat .f64 9218868437227405312 = 18442240474082181120 by decide +kernel]
      rfl
    go_enter Tryz.func171, Tryz.ntmps171
    go_wp2_with fail
    go_ret2
    exact ⟨rfl, rfl⟩
  have HP := Lib.hid hP
  have HA := Lib.hid hA
  clear hP hA
  go_enter Tryz.func151, Tryz.ntmps151
  go_wp2_with fail
  refine HP.out.mono ?_
  rintro e w' ⟨rfl, rfl⟩
  go_wp2_with fail
  refine HA.out.mono ?_
  rintro e w' ⟨rfl, rfl⟩
  go_wp2_with fail
  go_ret
  exact ⟨rfl, .refl _ _⟩

end Go.Proofs.YtjokpfgncmdomaaGreatDoor

/- dyad.float of any size: the walk -/
namespace Go.Proofs.YtjokpfgncmdomaaGreatDoor
open Go.RowKit Go.Sort

/-- what is too great: is the greatest number told? -/
def mostB (md : Int) (neg : Bool) : Bool := md == 3 || (md == 1 && !neg) || (md == 2 && neg)
/-- the bits of a size times a power of two -/
def fbits (neg : Bool) (size : Nat) (last md : Int) : Nat :=
  if (last + 1074).toNat * 2 ^ 52 + size < 2047 * 2 ^ 52 then sw neg ((last + 1074).toNat * 2 ^ 52 + size) else if mostB md neg = true then sw neg 9218868437227405311 else sw neg 9218868437227405312

theorem ctz_parts {x : Nat} (h0 : x ≠ 0) (h : x < 2 ^ 64) : x / 2 ^ Lib.ctz 64 x % 2 = 1 ∧ x / 2 ^ Lib.ctz 64 x * 2 ^ Lib.ctz 64 x = x ∧ Lib.ctz 64 x < 64 := by
  obtain ⟨m, hm, hk⟩ := Lib.ctzFrom_spec 64 x (by omega) h
  have e : Lib.ctz 64 x = Lib.ctzFrom 64 x := by simp [Lib.ctz, h0]
  rw [e]
  obtain ⟨k, hk'⟩ : ∃ k, k = Lib.ctzFrom 64 x := ⟨_, rfl⟩
  rw [← hk'] at hm hk ⊢
  have e2 : x / 2 ^ k = 2 * m + 1 := by
    rw [hm, Nat.mul_comm]; exact Nat.mul_div_cancel _ (Nat.pow_pos (by decide))
  rw [e2]
  exact ⟨by omega, by rw [hm]; exact Nat.mul_comm _ _, hk⟩

set_option maxRecDepth 100000 in
set_option maxHeartbeats 4000000 in
theorem float_zero (neg : Bool) (md : Int) (w : World) :
    Calls Tryz.prog 114 #[.bool neg, .int .u64 0, .int .i64 (-1074), .int .i8 md] w fun e w' => e = .returned (.float .f64 (sw neg 0)) ∧ Below w.heap.size w w' := by
  go_enter Tryz.func114, Tryz.ntmps114
  go_wp2_with fail
  have k0 := new_cell w #[.bool neg, .int .u64 0, .int .i64 0] 141 0 _ rfl
  have k1 := new_cell w #[.bool neg, .int .u64 0, .int .i64 0] 141 1 _ rfl
  have k2 := new_cell w #[.bool neg, .int .u64 0, .int .i64 0] 141 2 _ rfl
  have hb := below1 w (.cells #[.bool neg, .int .u64 0, .int .i64 0] 141)
  generalize w.alloc (.cells #[.bool neg, .int .u64 0, .int .i64 0] 141) = w1 at k0 k1 k2 hb ⊢
  have HB := Lib.hid hb
  clear hb
  refine wp_region_G (S := (fun w' => w'.cell? ⟨w.heap.size, 0, none⟩ = some (.bool neg) ∧ w'.cell? ⟨w.heap.size, 1, none⟩ = some (.int .u64 0) ∧ w'.cell? ⟨w.heap.size, 2, none⟩ = some (.int .i64 0))) 6 (by kernel_rfl) ?_ (fun hHeld => ?_)
  · first | exact True.intro | ((try dsimp only); go_keep)
  refine tkG (i := 0) (v := ?_) rfl (by kernel_rfl) (Or.inl ⟨by kernel_rfl, ?_⟩) (by assumption) ?_
  rotate_left 1
  · (intro w hSw; (try dsimp only at hSw); go_simp; try with_reducible rfl)
  try simp only [lyA, lyB, lyC, Act.put, lyD, lyE, lyF]
  refine tkG (i := 1) (v := ?_) rfl (by kernel_rfl) (Or.inl ⟨by kernel_rfl, ?_⟩) (by assumption) ?_
  rotate_left 1
  · (intro w hSw; (try dsimp only at hSw); go_simp; try with_reducible rfl)
  try simp only [lyA, lyB, lyC, Act.put, lyD, lyE, lyF]
  refine tkG (i := 3) (v := ?_) rfl (by kernel_rfl) (Or.inl ⟨by kernel_rfl, ?_⟩) (by assumption) ?_
  rotate_left 1
  · (intro w hSw; (try dsimp only at hSw); go_simp; try with_reducible rfl)
  try simp only [lyA, lyB, lyC, Act.put, lyD, lyE, lyF]
  refine tkG (i := 4) (v := ?_) rfl (by kernel_rfl) (Or.inl ⟨by kernel_rfl, ?_⟩) (by assumption) ?_
  rotate_left 1
  · (intro w hSw; (try dsimp only at hSw); go_simp; try with_reducible rfl)
  try simp only [lyA, lyB, lyC, Act.put, lyD, lyE, lyF]
  refine wpAnyG_one (i := 2) (by kernel_rfl) rfl (fun K hK => ?_)
  go_simp
  (refine (len64 0 _ (by decide)).mono ?_; rintro e w2 ⟨rfl, rfl⟩; rw [show blen 0 = 0 by decide +kernel])
  try go_wp2_with fail
  refine (fun hHeld => hK.out _ _ (.inl hHeld) (fun _ => ?_)) ?_
  rotate_left 1
  · first | exact True.intro | ((try dsimp only); go_keep)
  clear hK K
  try simp only [lyA, lyB, lyC, Act.put, lyD, lyE, lyF]
  refine wpAnyG_one (i := 5) (by kernel_rfl) rfl (fun K hK => ?_)
  go_simp
  refine (fun hHeld => hK.out _ _ (.inl hHeld) (fun _ => ?_)) ?_
  rotate_left 1
  · first | exact True.intro | ((try dsimp only); go_keep)
  clear hK K
  try simp only [lyA, lyB, lyC, Act.put, lyD, lyE, lyF]
  refine wpAnyG_one (i := 6) (by kernel_rfl) rfl (fun K hK => ?_)
  go_simp
  refine hK.out _ _ ?_ (fun hHeld => ?_)
  · exact .inr (by kernel_rfl)
  clear hK K
  try simp only [lyA, lyB, lyC, Act.put, lyD, lyE, lyF]
  refine wpAnyG_done (by kernel_rfl) ?_ _
  go_wp2_with fail
  refine (join_zero neg _).mono ?_
  rintro e w3 ⟨rfl, hb3⟩
  have HB3 := Lib.hid (HB.out.trans (((Below.refl w1.heap.size w1).drew.trans hb3).mono HB.out.size))
  clear hb3
  go_wp2_with fail
  go_ret
  exact ⟨rfl, HB3.out⟩

set_option maxRecDepth 100000 in
set_option maxHeartbeats 4000000 in
theorem float_fits (neg : Bool) (size : Nat) (last md : Int) (w : World) (hL : Laid w) (h0 : size ≠ 0) (hs : size ≤ 2 ^ 53) (hl : -1074 ≤ last) (hl2 : last ≤ 1000000000) (hn : last = -1074 ∨ 2 ^ 52 ≤ size) :
    Calls Tryz.prog 114 #[.bool neg, .int .u64 (size : Int), .int .i64 last, .int .i8 md] w fun e w' => e = .returned (.float .f64 (fbits neg size last md)) ∧ Below w.heap.size w w' := by
  obtain ⟨c1, c2, c3⟩ := ctz_parts h0 (by omega)
  have HT := Lib.hid (fun w hw => tz64 size w (by omega) h0 hw)
  obtain ⟨k, hk⟩ : ∃ k, k = Lib.ctz 64 size := ⟨_, rfl⟩
  rw [← hk] at c1 c2 c3 HT
  obtain ⟨f, hf⟩ : ∃ f, f = size / 2 ^ k := ⟨_, rfl⟩
  rw [← hf] at c1 c2
  have f0 : f ≠ 0 := by omega
  have f53 : f < 2 ^ 53 := by
    have h1 : f ≤ size := by rw [hf]; exact Nat.div_le_self _ _
    have h2 : f ≠ 2 ^ 53 := fun e => by rw [e] at c1; omega
    omega
  have hlog : size.log2 = f.log2 + k := by rw [← c2]; exact log2_mul_pow f0 k
  have hb1 : blen f = f.log2 + 1 := by unfold blen; rw [if_neg f0]
  have hsz : size.log2 ≤ 53 := by
    have : size.log2 < 54 := (Nat.log2_lt h0).2 (by omega)
    omega
  have hrp := rung_parts h0 hs (k := k) (by rw [← hf]; exact c2) (by rw [← hf]; exact f53) hl hn
  rw [← hf] at hrp
  -- the two tests for what is too great agree
  have hg : ((last + 1074).toNat * 2 ^ 52 + size < 2047 * 2 ^ 52) ↔ (blen f : Int) + (last + k) ≤ 1024 := by
    rw [hb1]
    rcases hn with e | e
    · rw [e]; constructor <;> intro _ <;> omega
    · have l1 : ¬ size.log2 < 52 := fun h3 => by have := (Nat.log2_lt h0).1 h3; omega
      by_cases h53 : size < 2 ^ 53
      · have := log_lt h0 h53
        constructor <;> intro _ <;> omega
      · have e53 : size = 2 ^ 53 := by omega
        have : size.log2 = 53 := by rw [e53]; exact Nat.log2_two_pow
        constructor <;> intro _ <;> omega
  have HLD := Lib.hid hL
  have HJM : Hid (∀ w, Calls Tryz.prog 150 #[.agg #[.bool neg, .int .u64 9007199254740991, .int .i64 971]] w fun x w' => x = .returned (.tuple #[.float .f64 (sw neg 9218868437227405311), .bool true]) ∧ Below w.heap.size w w') := Lib.hid (fun w => by
    have h := join_odd neg 9007199254740991 971 w (by decide) (by decide) (by decide) (by decide +kernel)
    rw [show rungOf 9007199254740991 971 = 9218868437227405311 by decide +kernel] at h
    exact h)
  have HLEN := Lib.hid (fun w => len64 f w (by unfold W64; omega))
  have HJ := Lib.hid (fun h w => join_odd neg f (last + k) w f53 c1 (by omega) h)
  have hbb : blen f ≤ 53 := by have := log_lt f0 f53; omega
  obtain ⟨b, hb'⟩ : ∃ b, b = blen f := ⟨_, rfl⟩
  rw [← hb'] at HLEN HJ hg hbb
  have sdiv : (size : Int) / 2 ^ k = (f : Int) := by rw [hf]; exact (Int.natCast_ediv ..).symm ▸ rfl
  have s0 : decide (0 < size) = true := by simp; omega
  have k63 : k ≤ 63 := by omega
  have w0 : IntKind.i64.wrap ((b : Int) + (last + k)) = (b : Int) + (last + k) := by rw [IntKind.wrap_i64]; omega
  have HF2 : Hid (f % 2 = 1) := Lib.hid c1
  rw [hrp] at HJ
  have HFB : Hid (fbits neg size last md = if (b : Int) + (last + k) ≤ 1024 then sw neg ((last + 1074).toNat * 2 ^ 52 + size) else if mostB md neg = true then sw neg 9218868437227405311 else sw neg 9218868437227405312) := Lib.hid (by
    unfold fbits
    by_cases h1 : (b : Int) + (last + k) ≤ 1024
    · rw [if_pos h1, if_pos (hg.2 h1)]
    · rw [if_neg h1, if_neg (fun h2 => h1 (hg.1 h2))])
  clear hg hrp hf hb1 hlog hsz c1 c2 c3 hs h0 hb' hk f0 f53 hL hn
  by_cases ht : (b : Int) + (last + k) ≤ 1024
  · have hR := HFB.out
    rw [if_pos ht] at hR
    have HR := Lib.hid hR
    have HJ2 := Lib.hid (HJ.out (by omega))
    rw [HR.out]
    generalize sw neg ((last + 1074).toNat * 2 ^ 52 + size) = R at HJ2
    clear hR HFB HR HJ
    have t0 : decide (1024 < (b : Int) + (last + k)) = false := by simp; omega
    go_enter Tryz.func114, Tryz.ntmps114
    go_wp2_with fail
    refine (HT.out _ (HLD.out.below (below1 ..))).mono ?_
    rintro e w' ⟨rfl, rfl⟩
    go_wp2_with fail
    have k0 := new_cell w #[.bool neg, .int .u64 (f : Int), .int .i64 (last + k)] 141 0 _ rfl
    have k1 := new_cell w #[.bool neg, .int .u64 (f : Int), .int .i64 (last + k)] 141 1 _ rfl
    have k2 := new_cell w #[.bool neg, .int .u64 (f : Int), .int .i64 (last + k)] 141 2 _ rfl
    have hb := below1 w (.cells #[.bool neg, .int .u64 (f : Int), .int .i64 (last + k)] 141)
    generalize w.alloc (.cells #[.bool neg, .int .u64 (f : Int), .int .i64 (last + k)] 141) = w1 at k0 k1 k2 hb ⊢
    have HB := Lib.hid hb
    clear hb
    refine wp_region_G (S := (fun w' => w'.cell? ⟨w.heap.size, 0, none⟩ = some (.bool neg) ∧ w'.cell? ⟨w.heap.size, 1, none⟩ = some (.int .u64 (f : Int)) ∧ w'.cell? ⟨w.heap.size, 2, none⟩ = some (.int .i64 (last + k)))) 6 (by kernel_rfl) ?_ (fun hHeld => ?_)
    · first | exact True.intro | ((try dsimp only); go_keep)
    refine tkG (i := 0) (v := ?_) rfl (by kernel_rfl) (Or.inl ⟨by kernel_rfl, ?_⟩) (by assumption) ?_
    rotate_left 1
    · (intro w hSw; (try dsimp only at hSw); go_simp; try with_reducible rfl)
    try simp only [lyA, lyB, lyC, Act.put, lyD, lyE, lyF]
    refine tkG (i := 1) (v := ?_) rfl (by kernel_rfl) (Or.inl ⟨by kernel_rfl, ?_⟩) (by assumption) ?_
    rotate_left 1
    · (intro w hSw; (try dsimp only at hSw); go_simp; try with_reducible rfl)
    try simp only [lyA, lyB, lyC, Act.put, lyD, lyE, lyF]
    refine tkG (i := 3) (v := ?_) rfl (by kernel_rfl) (Or.inl ⟨by kernel_rfl, ?_⟩) (by assumption) ?_
    rotate_left 1
    · (intro w hSw; (try dsimp only at hSw); go_simp; try with_reducible rfl)
    try simp only [lyA, lyB, lyC, Act.put, lyD, lyE, lyF]
    refine tkG (i := 4) (v := ?_) rfl (by kernel_rfl) (Or.inl ⟨by kernel_rfl, ?_⟩) (by assumption) ?_
    rotate_left 1
    · (intro w hSw; (try dsimp only at hSw); go_simp; try with_reducible rfl)
    try simp only [lyA, lyB, lyC, Act.put, lyD, lyE, lyF]
    refine wpAnyG_one (i := 2) (by kernel_rfl) rfl (fun K hK => ?_)
    go_simp
    (refine (HLEN.out _).mono ?_; rintro e w2 ⟨rfl, rfl⟩)
    try go_wp2_with fail
    refine (fun hHeld => hK.out _ _ (.inl hHeld) (fun _ => ?_)) ?_
    rotate_left 1
    · first | exact True.intro | ((try dsimp only); go_keep)
    clear hK K
    try simp only [lyA, lyB, lyC, Act.put, lyD, lyE, lyF]
    refine wpAnyG_one (i := 5) (by kernel_rfl) rfl (fun K hK => ?_)
    go_simp
    refine (fun hHeld => hK.out _ _ (.inl hHeld) (fun _ => ?_)) ?_
    rotate_left 1
    · first | exact True.intro | ((try dsimp only); go_keep)
    clear hK K
    try simp only [lyA, lyB, lyC, Act.put, lyD, lyE, lyF]
    refine wpAnyG_one (i := 6) (by kernel_rfl) rfl (fun K hK => ?_)
    go_simp
    refine hK.out _ _ ?_ (fun hHeld => ?_)
    · exact .inr (by kernel_rfl)
    clear hK K
    try simp only [lyA, lyB, lyC, Act.put, lyD, lyE, lyF]
    refine wpAnyG_done (by kernel_rfl) ?_ _
    go_wp2_with fail
    refine (HJ2.out _).mono ?_
    rintro e w3 ⟨rfl, hb3⟩
    have HB3 := Lib.hid (HB.out.trans (((Below.refl w1.heap.size w1).drew.trans hb3).mono HB.out.size))
    clear hb3
    go_wp2_with fail
    go_ret
    exact ⟨rfl, HB3.out⟩
  · have hR := HFB.out
    rw [if_neg ht] at hR
    have HR := Lib.hid hR
    clear hR HFB HJ
    have t0 : decide (1024 < (b : Int) + (last + k)) = true := by simp; omega
    go_enter Tryz.func114, Tryz.ntmps114
    go_wp2_with fail
    refine (HT.out _ (HLD.out.below (below1 ..))).mono ?_
    rintro e w' ⟨rfl, rfl⟩
    go_wp2_with fail
    have z1 := World.frozen?_alloc_new w #[.bool neg, .int .u64 (f : Int), .int .i64 (last + k)] 141 1
    have z2 := World.frozen?_alloc_new w #[.bool neg, .int .u64 (f : Int), .int .i64 (last + k)] 141 2
    have k0 := new_cell w #[.bool neg, .int .u64 (f : Int), .int .i64 (last + k)] 141 0 _ rfl
    have k1 := new_cell w #[.bool neg, .int .u64 (f : Int), .int .i64 (last + k)] 141 1 _ rfl
    have k2 := new_cell w #[.bool neg, .int .u64 (f : Int), .int .i64 (last + k)] 141 2 _ rfl
    have hb := below1 w (.cells #[.bool neg, .int .u64 (f : Int), .int .i64 (last + k)] 141)
    generalize w.alloc (.cells #[.bool neg, .int .u64 (f : Int), .int .i64 (last + k)] 141) = w1 at z1 z2 k0 k1 k2 hb ⊢
    have HB := Lib.hid hb
    clear hb
    refine wp_region_G (S := (fun w' => w'.cell? ⟨w.heap.size, 0, none⟩ = some (.bool neg) ∧ w'.cell? ⟨w.heap.size, 1, none⟩ = some (.int .u64 (f : Int)) ∧ w'.cell? ⟨w.heap.size, 2, none⟩ = some (.int .i64 (last + k)))) 6 (by kernel_rfl) ?_ (fun hHeld => ?_)
    · first | exact True.intro | ((try dsimp only); go_keep)
    refine tkG (i := 0) (v := ?_) rfl (by kernel_rfl) (Or.inl ⟨by kernel_rfl, ?_⟩) (by assumption) ?_
    rotate_left 1
    · (intro w hSw; (try dsimp only at hSw); go_simp; try with_reducible rfl)
    try simp only [lyA, lyB, lyC, Act.put, lyD, lyE, lyF]
    refine tkG (i := 1) (v := ?_) rfl (by kernel_rfl) (Or.inl ⟨by kernel_rfl, ?_⟩) (by assumption) ?_
    rotate_left 1
    · (intro w hSw; (try dsimp only at hSw); go_simp; try with_reducible rfl)
    try simp only [lyA, lyB, lyC, Act.put, lyD, lyE, lyF]
    refine tkG (i := 3) (v := ?_) rfl (by kernel_rfl) (Or.inl ⟨by kernel_rfl, ?_⟩) (by assumption) ?_
    rotate_left 1
    · (intro w hSw; (try dsimp only at hSw); go_simp; try with_reducible rfl)
    try simp only [lyA, lyB, lyC, Act.put, lyD, lyE, lyF]
    refine tkG (i := 4) (v := ?_) rfl (by kernel_rfl) (Or.inl ⟨by kernel_rfl, ?_⟩) (by assumption) ?_
    rotate_left 1
    · (intro w hSw; (try dsimp only at hSw); go_simp; try with_reducible rfl)
    try simp only [lyA, lyB, lyC, Act.put, lyD, lyE, lyF]
    refine wpAnyG_one (i := 2) (by kernel_rfl) rfl (fun K hK => ?_)
    go_simp
    (refine (HLEN.out _).mono ?_; rintro e w2 ⟨rfl, rfl⟩)
    try go_wp2_with fail
    refine (fun hHeld => hK.out _ _ (.inl hHeld) (fun _ => ?_)) ?_
    rotate_left 1
    · first | exact True.intro | ((try dsimp only); go_keep)
    clear hK K
    try simp only [lyA, lyB, lyC, Act.put, lyD, lyE, lyF]
    refine wpAnyG_one (i := 5) (by kernel_rfl) rfl (fun K hK => ?_)
    go_simp
    refine (fun hHeld => hK.out _ _ (.inl hHeld) (fun _ => ?_)) ?_
    rotate_left 1
    · first | exact True.intro | ((try dsimp only); go_keep)
    clear hK K
    try simp only [lyA, lyB, lyC, Act.put, lyD, lyE, lyF]
    refine wpAnyG_one (i := 6) (by kernel_rfl) rfl (fun K hK => ?_)
    go_simp
    refine hK.out _ _ ?_ (fun hHeld => ?_)
    · exact .inr (by kernel_rfl)
    clear hK K
    try simp only [lyA, lyB, lyC, Act.put, lyD, lyE, lyF]
    refine wpAnyG_done (by kernel_rfl) ?_ _
    go_wp2_with fail
    have HB2 := Lib.hid (((HB.out.setCell (p := ⟨w.heap.size, 1, none⟩) (Nat.le_refl _) (.int .u64 9007199254740991)).setCell (p := ⟨w.heap.size, 2, none⟩) (Nat.le_refl _) (.int .i64 971)).drew)
    refine (HJM.out _).mono ?_
    rintro e w3 ⟨rfl, hb3⟩
    have HB3 := Lib.hid (HB2.out.trans (hb3.mono HB2.out.size))
    clear hb3 z1 z2 k0 k1 k2 t0 w0 s0
    cases neg
    · rcases hm3 : (md == 3) with _ | _
      · rcases hm1 : (md == 1) with _ | _
        · rcases hm2 : (md == 2) with _ | _
          · have HR2 : Hid (fbits false size last md = 9218868437227405312) := Lib.hid (by rw [HR.out]; simp [mostB, sw, hm3, hm1, hm2])
            simp only [sw, if_true, if_false, Bool.false_eq_true]
            go_wp2_with fail
            refine (next_max _).mono ?_
            rintro e w4 ⟨rfl, hb4⟩
            have HB4 := Lib.hid (HB3.out.trans (hb4.mono HB3.out.size))
            clear hb4
            go_wp2_with fail
            go_ret
            exact ⟨by rw [HR2.out]; rfl, HB4.out⟩
          · have HR2 : Hid (fbits false size last md = 9218868437227405312) := Lib.hid (by rw [HR.out]; simp [mostB, sw, hm3, hm1, hm2])
            simp only [sw, if_true, if_false, Bool.false_eq_true]
            go_wp2_with fail
            refine (next_max _).mono ?_
            rintro e w4 ⟨rfl, hb4⟩
            have HB4 := Lib.hid (HB3.out.trans (hb4.mono HB3.out.size))
            clear hb4
            go_wp2_with fail
            go_ret
            exact ⟨by rw [HR2.out]; rfl, HB4.out⟩
        · have HR2 : Hid (fbits false size last md = 9218868437227405311) := Lib.hid (by rw [HR.out]; simp [mostB, sw, hm3, hm1])
          simp only [sw, if_true, if_false, Bool.false_eq_true]
          go_wp2_with fail
          go_ret
          exact ⟨by rw [HR2.out]; rfl, HB3.out⟩
      · have HR2 : Hid (fbits false size last md = 9218868437227405311) := Lib.hid (by rw [HR.out]; simp [mostB, sw, hm3])
        simp only [sw, if_true, if_false, Bool.false_eq_true]
        go_wp2_with fail
        go_ret
        exact ⟨by rw [HR2.out]; rfl, HB3.out⟩
    · rcases hm3 : (md == 3) with _ | _
      · rcases hm1 : (md == 1) with _ | _
        · rcases hm2 : (md == 2) with _ | _
          · have HR2 : Hid (fbits true size last md = 18442240474082181120) := Lib.hid (by rw [HR.out]; simp [mostB, sw, hm3, hm1, hm2])
            simp only [sw, if_true, if_false, Bool.false_eq_true]
            go_wp2_with fail
            refine (next_min _).mono ?_
            rintro e w4 ⟨rfl, hb4⟩
            have HB4 := Lib.hid (HB3.out.trans (hb4.mono HB3.out.size))
            clear hb4
            go_wp2_with fail
            go_ret
            exact ⟨by rw [HR2.out]; rfl, HB4.out⟩
          · have HR2 : Hid (fbits true size last md = 18442240474082181119) := Lib.hid (by rw [HR.out]; simp [mostB, sw, hm3, hm1, hm2])
            simp only [sw, if_true, if_false, Bool.false_eq_true]
            go_wp2_with fail
            go_ret
            exact ⟨by rw [HR2.out]; rfl, HB3.out⟩
        · rcases hm2 : (md == 2) with _ | _
          · have HR2 : Hid (fbits true size last md = 18442240474082181120) := Lib.hid (by rw [HR.out]; simp [mostB, sw, hm3, hm1, hm2])
            simp only [sw, if_true, if_false, Bool.false_eq_true]
            go_wp2_with fail
            refine (next_min _).mono ?_
            rintro e w4 ⟨rfl, hb4⟩
            have HB4 := Lib.hid (HB3.out.trans (hb4.mono HB3.out.size))
            clear hb4
            go_wp2_with fail
            go_ret
            exact ⟨by rw [HR2.out]; rfl, HB4.out⟩
          · have HR2 : Hid (fbits true size last md = 18442240474082181119) := Lib.hid (by rw [HR.out]; simp [mostB, sw, hm3, hm1, hm2])
            simp only [sw, if_true, if_false, Bool.false_eq_true]
            go_wp2_with fail
            go_ret
            exact ⟨by rw [HR2.out]; rfl, HB3.out⟩
      · have HR2 : Hid (fbits true size last md = 18442240474082181119) := Lib.hid (by rw [HR.out]; simp [mostB, sw, hm3])
        simp only [sw, if_true, if_false, Bool.false_eq_true]
        go_wp2_with fail
        go_ret
        exact ⟨by rw [HR2.out]; rfl, HB3.out⟩

theorem float_any (neg : Bool) (size : Nat) (last md : Int) (hs : size ≤ 2 ^ 53) (hl : -1074 ≤ last) (hl2 : last ≤ 1000000000) (hn : last = -1074 ∨ 2 ^ 52 ≤ size) : FloatC neg size last md (fbits neg size last md) := by
  intro w hL
  by_cases h0 : size = 0
  · subst h0
    obtain rfl : last = -1074 := by omega
    have e : fbits neg 0 (-1074) md = sw neg 0 := by unfold fbits; rw [if_pos (by decide)]; rfl
    rw [e]
    exact float_zero neg md w
  · exact float_fits neg size last md w hL h0 hs hl hl2 hn

end Go.Proofs.YtjokpfgncmdomaaGreatDoor
