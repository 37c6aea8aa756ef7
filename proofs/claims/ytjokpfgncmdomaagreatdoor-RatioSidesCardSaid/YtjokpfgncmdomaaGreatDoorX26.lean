import Derived.Test.YtjokpfgncmdomaaGreatDoorX25
import Derived.Deep.CutBlock
set_option linter.unusedSimpArgs false
set_option linter.unusedVariables false
/- floats about a number, rounded back: plain -/
namespace Go.Proofs.YtjokpfgncmdomaaGreatDoor
open Go.RowKit Go.Sort

theorem imul_le {a b c : Int} (hc : 0 < c) : a * c ≤ b * c ↔ a ≤ b := ⟨fun h => Int.le_of_mul_le_mul_right h hc, fun h => Int.mul_le_mul_of_nonneg_right h (by omega)⟩
theorem dv_le {a D : Int} (hD : 0 < D) (q : Rat) : Rat.divInt a D ≤ q ↔ a * (q.den : Int) ≤ q.num * D := by
  obtain ⟨F, hF⟩ : ∃ F, F = Rat.divInt a D := ⟨_, rfl⟩
  have h0 : (F.den : Int) ≠ 0 := den_ne F
  have h1 : F.num * D = a * F.den := by
    have h : Rat.divInt F.num F.den = Rat.divInt a D := by rw [Rat.num_divInt_den, hF]
    exact (Rat.divInt_eq_divInt_iff h0 (by omega)).1 h
  have hp : (0 : Int) < F.den := by have := F.den_nz; omega
  rw [← hF, Rat.le_iff]
  have e1 : F.num * (q.den : Int) * D = a * q.den * F.den := by rw [Int.mul_right_comm, h1, Int.mul_right_comm]
  have e2 : q.num * (F.den : Int) * D = q.num * D * F.den := by rw [Int.mul_right_comm]
  rw [← imul_le hD, e1, e2, imul_le hp]
theorem dv_ge {a D : Int} (hD : 0 < D) (q : Rat) : q ≤ Rat.divInt a D ↔ q.num * D ≤ a * (q.den : Int) := by
  obtain ⟨F, hF⟩ : ∃ F, F = Rat.divInt a D := ⟨_, rfl⟩
  have h0 : (F.den : Int) ≠ 0 := den_ne F
  have h1 : F.num * D = a * F.den := by
    have h : Rat.divInt F.num F.den = Rat.divInt a D := by rw [Rat.num_divInt_den, hF]
    exact (Rat.divInt_eq_divInt_iff h0 (by omega)).1 h
  have hp : (0 : Int) < F.den := by have := F.den_nz; omega
  rw [← hF, Rat.le_iff]
  have e1 : F.num * (q.den : Int) * D = a * q.den * F.den := by rw [Int.mul_right_comm, h1, Int.mul_right_comm]
  have e2 : q.num * (F.den : Int) * D = q.num * D * F.den := by rw [Int.mul_right_comm]
  rw [← imul_le hD, e1, e2, imul_le hp]
/-- a rung's value, with its sign -/
def sV (s : Bool) (g : Nat) : Int := if s then -(Vr g : Int) else (Vr g : Int)
theorem fltQ_K : ∃ n : Nat, n = 1074 ∧ (∀ s g, fltQ s g = Rat.divInt (sV s g) ((2 ^ n : Nat) : Int)) ∧ (∀ q, unitsQ q = q.num.natAbs * 2 ^ n) ∧ (0 : Int) < ((2 ^ n : Nat) : Int) := by
  refine ⟨1074, rfl, fun s g => rfl, fun q => by rw [unitsQ], ?_⟩
  have := Nat.pow_pos (n := 1074) (show 0 < 2 by decide)
  omega
/-- where a float lies -/
theorem flt_side (q : Rat) : ∃ (K : Int) (X : Int), 0 < K ∧ X = q.num * K ∧ ((0 ≤ q.num → X = (unitsQ q : Int)) ∧ (q.num ≤ 0 → X = -(unitsQ q : Int))) ∧ (∀ s g, fltQ s g ≤ q ↔ sV s g * (q.den : Int) ≤ X) ∧ (∀ s g, q ≤ fltQ s g ↔ X ≤ sV s g * (q.den : Int)) ∧
    (∀ s g t h, (fltQ s g + fltQ t h ≤ q + q ↔ (sV s g + sV t h) * (q.den : Int) ≤ 2 * X) ∧ (q + q ≤ fltQ s g + fltQ t h ↔ 2 * X ≤ (sV s g + sV t h) * (q.den : Int))) := by
  obtain ⟨n, _, hf, hu, hK⟩ := fltQ_K
  obtain ⟨K, hKe⟩ : ∃ K : Nat, K = 2 ^ n := ⟨_, rfl⟩
  rw [← hKe] at hK
  simp only [← hKe] at hf hu
  refine ⟨(K : Int), q.num * K, hK, rfl, ⟨fun h => ?_, fun h => ?_⟩, fun s g => ?_, fun s g => ?_, fun s g t h => ?_⟩
  · rw [hu, Int.natCast_mul]; congr 1; omega
  · rw [hu, Int.natCast_mul, ← Int.neg_mul]; congr 1; omega
  · rw [hf]; exact dv_le hK q
  · rw [hf]; exact dv_ge hK q
  · rw [hf, hf]
    obtain ⟨z, hz⟩ : ∃ z, z = Rat.divInt (sV s g + sV t h) (2 * K) := ⟨_, rfl⟩
    have h2 : (0 : Int) < 2 * K := by omega
    have e : Rat.divInt (sV s g) K + Rat.divInt (sV t h) K = z + z := by
      rw [hz, Rat.divInt_add_divInt _ _ (by omega) (by omega), Rat.divInt_add_divInt _ _ (by omega) (by omega), Rat.divInt_eq_divInt_iff (Int.mul_ne_zero (by omega) (by omega)) (Int.mul_ne_zero (by omega) (by omega))]
      grind
    have a1 := dv_le (a := sV s g + sV t h) h2 q
    have a2 := dv_ge (a := sV s g + sV t h) h2 q
    rw [← hz] at a1 a2
    have e3 : q.num * (2 * (K : Int)) = 2 * (q.num * K) := by rw [Int.mul_left_comm]
    rw [e3] at a1 a2
    rw [e, ← a1, ← a2]
    constructor
    · constructor <;> intro h <;> grind
    · constructor <;> intro h <;> grind
theorem side_below {q : Rat} {neg : Bool} {lo hi n : Nat} (S : SideF q neg lo hi n) : belowB neg (if neg then hi else lo) q = true := by
  obtain ⟨K, X, hK, hX, ⟨hp, hn⟩, hle, hge, _⟩ := flt_side q
  have hs := S.sgn
  have h1 := S.low
  have h2 := S.high
  have h3 := S.lo_lt
  unfold belowB
  cases neg
  · simp only [Bool.false_eq_true, if_false, if_pos h3, decide_eq_true_eq]
    have h0 : ¬ q.num < 0 := by simpa using hs.symm
    rw [hle, hp (by omega)]
    show (Vr lo : Int) * _ ≤ _
    exact_mod_cast h1
  · simp only [if_true]
    have h0 : q.num < 0 := by simpa using hs.symm
    by_cases h : hi < 9218868437227405312
    · rw [if_pos h, decide_eq_true_eq, hle, hn (by omega)]
      show -(Vr hi : Int) * _ ≤ _
      have := h2 h
      rw [Int.neg_mul]
      have : (unitsQ q : Int) ≤ (Vr hi : Int) * (q.den : Int) := by exact_mod_cast this
      omega
    · rw [if_neg h]
theorem side_above {q : Rat} {neg : Bool} {lo hi n : Nat} (S : SideF q neg lo hi n) : aboveB neg (if neg then lo else hi) q = true := by
  obtain ⟨K, X, hK, hX, ⟨hp, hn⟩, hle, hge, _⟩ := flt_side q
  have hs := S.sgn
  have h1 := S.low
  have h2 := S.high
  have h3 := S.lo_lt
  unfold aboveB
  cases neg
  · simp only [Bool.false_eq_true, if_false]
    have h0 : ¬ q.num < 0 := by simpa using hs.symm
    by_cases h : hi < 9218868437227405312
    · rw [if_pos h, decide_eq_true_eq, hge, hp (by omega)]
      show _ ≤ (Vr hi : Int) * _
      exact_mod_cast h2 h
    · rw [if_neg h]; rfl
  · simp only [if_true, if_pos h3, decide_eq_true_eq]
    have h0 : q.num < 0 := by simpa using hs.symm
    rw [hge, hn (by omega)]
    show _ ≤ -(Vr lo : Int) * _
    rw [Int.neg_mul]
    have : (Vr lo : Int) * (q.den : Int) ≤ (unitsQ q : Int) := by exact_mod_cast h1
    omega
theorem side_sgn {q : Rat} {neg : Bool} {lo hi n : Nat} (S : SideF q neg lo hi n) : (0 ≤ sgnI q.num → neg = false) ∧ (sgnI q.num ≤ 0 → neg = true ∨ hi = lo) := by
  have hs := S.sgn
  unfold sgnI
  constructor
  · intro h
    by_cases h0 : q.num < 0
    · rw [if_pos h0] at h; omega
    · rw [hs]; simp [h0]
  · intro h
    by_cases h0 : q.num < 0
    · left; rw [hs]; simp [h0]
    · rw [if_neg h0] at h
      by_cases h1 : q.num = 0
      · right
        by_cases h2 : hi = lo
        · exact h2
        · have := S.strict h2
          rw [units_zero h1] at this
          omega
      · rw [if_neg h1] at h; omega
/-- the nearer one, as the law asks it -/
theorem side_near {q : Rat} {neg : Bool} {lo hi n : Nat} (S : SideF q neg lo hi n) (hne : hi ≠ lo) (hfin : hi < 9218868437227405312) :
    (cmpQ (q + q) (fltQ neg (if neg then hi else lo) + fltQ neg (if neg then lo else hi)) < 0 → n = if neg then hi else lo) ∧ (0 < cmpQ (q + q) (fltQ neg (if neg then hi else lo) + fltQ neg (if neg then lo else hi)) → n = if neg then lo else hi) := by
  obtain ⟨K, X, hK, hX, ⟨hp, hn⟩, _, _, hsum⟩ := flt_side q
  have hs := S.sgn
  have nL := S.nearL hne hfin
  have nH := S.nearH hne hfin
  have c1 : ∀ x y : Rat, cmpQ x y < 0 ↔ ¬ y ≤ x := fun x y => by rw [← cmpQ_ge x y]; omega
  have c2 : ∀ x y : Rat, 0 < cmpQ x y ↔ ¬ x ≤ y := fun x y => by rw [← cmpQ_le x y]; omega
  cases neg
  · have h0 : ¬ q.num < 0 := by simpa using hs.symm
    simp only [Bool.false_eq_true, if_false]
    have hh := hsum false lo false hi
    rw [c1, c2, hh.1, hh.2, hp (by omega)]
    have e : (sV false lo + sV false hi) * (q.den : Int) = (((Vr lo + Vr hi) * q.den : Nat) : Int) := by rw [Int.natCast_mul, Int.natCast_add]; rfl
    rw [e]
    exact ⟨fun h => nL (by omega), fun h => nH (by omega)⟩
  · have h0 : q.num < 0 := by simpa using hs.symm
    simp only [if_true]
    have hh := hsum true hi true lo
    rw [c1, c2, hh.1, hh.2, hn (by omega)]
    have e : (sV true hi + sV true lo) * (q.den : Int) = -(((Vr lo + Vr hi) * q.den : Nat) : Int) := by
      rw [Int.natCast_mul, Int.natCast_add, ← Int.neg_mul, Int.neg_add, Int.add_comm]; rfl
    rw [e]
    exact ⟨fun h => nH (by omega), fun h => nL (by omega)⟩
theorem fits_sum (s t : Bool) {g h : Nat} (hg : g < 9218868437227405312) (hh : h < 9218868437227405312) : fits (fltQ s g + fltQ t h) := by
  obtain ⟨n, hn⟩ : ∃ n : Nat, n = 1074 := ⟨_, rfl⟩
  obtain ⟨a, ha⟩ : ∃ a : Nat, a = 2098 := ⟨_, rfl⟩
  have hV : Vr g < 2 ^ a := by rw [ha]; exact Vr_lt_inf hg
  have hW : Vr h < 2 ^ a := by rw [ha]; exact Vr_lt_inf hh
  have hp : 0 < 2 ^ n := Nat.pow_pos (by decide)
  obtain ⟨K, hK⟩ : ∃ K : Nat, K = 2 ^ n := ⟨_, rfl⟩
  have e : fltQ s g + fltQ t h = Rat.divInt (sV s g + sV t h) (K : Int) := by
    have e1 : ∀ s g, fltQ s g = Rat.divInt (sV s g) (K : Int) := fun s g => by rw [hK, hn]; rfl
    rw [e1, e1, Rat.divInt_add_divInt _ _ (by omega) (by omega), Rat.divInt_eq_divInt_iff (Int.mul_ne_zero (by omega) (by omega)) (by omega)]
    grind
  have hd := dsz (N := sV s g + sV t h) (D := (K : Int)) (by omega)
  rw [← e] at hd
  have h1 : (sV s g + sV t h).natAbs ≤ Vr g + Vr h := by unfold sV; cases s <;> cases t <;> simp <;> omega
  rw [Int.natAbs_natCast] at hd
  obtain ⟨k, hk⟩ : ∃ k : Nat, k = 33 := ⟨_, rfl⟩
  have w1 : 2 * 2 ^ a ≤ W64 ^ k := by rw [W64_pow, ← Nat.pow_succ']; exact Nat.pow_le_pow_right (by decide) (by omega)
  have w2 : 2 ^ n < W64 ^ k := by rw [W64_pow]; exact Nat.pow_lt_pow_right (by decide) (by omega)
  have f1 : (lim (fltQ s g + fltQ t h).num.natAbs).length ≤ k := lim_len_le (by omega)
  have f2 : (lim (fltQ s g + fltQ t h).den).length ≤ k := lim_len_le (by omega)
  exact ⟨by omega, by omega⟩
/-- a float, rounded back -/
theorem rnd_back (s : Bool) {g : Nat} (hg : g < 9218868437227405312) {md : Int} (h0 : 0 ≤ md) (h3 : md ≤ 3) : ∃ t, rndQ (fltQ s g) md = sw t g ∧ sr t g = sr s g := by
  obtain ⟨neg, lo, hi, n, S⟩ := side_has (fltQ s g)
  obtain ⟨K, X, hK, hX, ⟨hp, hn⟩, hle, hge, _⟩ := flt_side (fltQ s g)
  have hq1 := (hle s g).1 (by grind)
  have hq2 := (hge s g).1 (by grind)
  have hd : 0 < (fltQ s g).den := Nat.pos_of_ne_zero (fltQ s g).den_nz
  generalize fltQ s g = q at *
  have hu : unitsQ q = Vr g * q.den := by
    have e : X = sV s g * (q.den : Int) := by omega
    by_cases h : 0 ≤ q.num
    · have e1 := hp h
      have hz : (0 : Int) ≤ (unitsQ q : Int) := by omega
      cases s
      · have : (unitsQ q : Int) = (Vr g : Int) * q.den := by rw [← e1, e]; rfl
        exact_mod_cast this
      · have e2 : (unitsQ q : Int) = -(((Vr g * q.den : Nat)) : Int) := by rw [← e1, e, Int.natCast_mul, ← Int.neg_mul]; rfl
        omega
    · have e1 := hn (by omega)
      cases s
      · have e2 : (unitsQ q : Int) = -(((Vr g * q.den : Nat)) : Int) := by
          have : -(unitsQ q : Int) = (((Vr g * q.den : Nat)) : Int) := by rw [← e1, e, Int.natCast_mul]; rfl
          omega
        omega
      · have : -(unitsQ q : Int) = -(((Vr g * q.den : Nat)) : Int) := by rw [← e1, e, Int.natCast_mul, ← Int.neg_mul]; rfl
        omega
  have hVl : Vr lo ≤ Vr g := by
    have := S.low
    rw [hu] at this
    exact Nat.le_of_mul_le_mul_right this hd
  have hlg : lo ≤ g := by
    by_cases h : lo ≤ g
    · exact h
    · have := Vr_lt (a := g) (b := lo) (by omega); omega
  have hsame : hi = lo := by
    by_cases h : hi = lo
    · exact h
    · have h1 := S.strict h
      rw [hu] at h1
      have h2 : Vr lo < Vr g := Nat.lt_of_mul_lt_mul_right h1
      have hlt : lo < g := by
        rcases Nat.lt_or_eq_of_le hlg with h3 | h3
        · exact h3
        · rw [h3] at h2; omega
      have hst := S.step
      have h4 := S.strictH h (by omega)
      rw [hu] at h4
      have h5 := Nat.lt_of_mul_lt_mul_right h4
      have h6 := Vr_le (a := hi) (b := g) (by omega)
      omega
  have he := S.exact hsame
  rw [hu] at he
  have hv : Vr g = Vr lo := Nat.eq_of_mul_eq_mul_right hd he
  have hlo : lo = g := by
    rcases Nat.lt_or_eq_of_le hlg with h | h
    · have := Vr_lt h; omega
    · exact h
  have hnn : n = g := by have := S.nn; omega
  have hh : hi = g := by omega
  refine ⟨neg, ?_, ?_⟩
  · have d1 := S.d1
    have d2 := S.d2
    have d3 := S.d3
    have d0 := S.d0
    rw [hh, hlo, ite_self] at d1 d2
    rw [hlo] at d3
    rw [hnn] at d0
    have hc : md = 0 ∨ md = 1 ∨ md = 2 ∨ md = 3 := by omega
    rcases hc with rfl | rfl | rfl | rfl
    · exact d0
    · exact d1
    · exact d2
    · exact d3
  · by_cases hz : g = 0
    · subst hz; unfold sr; cases neg <;> cases s <;> rfl
    · have hVg : 0 < Vr g := by have := Vr_lt (a := 0) (b := g) (by omega); omega
      have e : X = sV s g * (q.den : Int) := by omega
      have hun : 0 < unitsQ q := by rw [hu]; exact Nat.mul_pos hVg hd
      have hs := S.sgn
      have e3 : (((Vr g * q.den : Nat)) : Int) = (unitsQ q : Int) := by rw [hu]
      have : neg = s := by
        rw [hs]
        cases s
        · simp
          by_cases h : 0 ≤ q.num
          · exact Rat.num_nonneg.1 h
          · have e1 := hn (by omega)
            have : -(unitsQ q : Int) = (((Vr g * q.den : Nat)) : Int) := by rw [← e1, e, Int.natCast_mul]; rfl
            omega
        · simp
          by_cases h : q.num < 0
          · exact h
          · have e1 := hp (by omega)
            have : (unitsQ q : Int) = -(((Vr g * q.den : Nat)) : Int) := by rw [← e1, e, Int.natCast_mul, ← Int.neg_mul]; rfl
            omega
      rw [this]

end Go.Proofs.YtjokpfgncmdomaaGreatDoor

/- x - x; Of of any float (printed by gen_y4.py) -/
namespace Go.Proofs.YtjokpfgncmdomaaGreatDoor
open Go.RowKit Go.Sort Ieee

theorem read_nan0 (s m : Nat) (hs : s < 2) (hm : m < 4503599627370495) : ∃ neg fr, Ieee.double.read (s * 9223372036854775808 + 9218868437227405312 + 1 + m) = .nan neg fr := by
  refine ⟨(s * 9223372036854775808 + 9218868437227405312 + 1 + m) / 9223372036854775808 % 2 == 1, (s * 9223372036854775808 + 9218868437227405312 + 1 + m) % 9223372036854775808 - 9218868437227405312, ?_⟩
  have e1 : Ieee.double.signWeight = 9223372036854775808 := by decide
  have e2 : Ieee.double.binade = 4503599627370496 := by decide
  have e3 : Ieee.double.infRung = 9218868437227405312 := by decide
  unfold Ieee.Format.read
  simp only [e1, e2, e3]
  rw [if_neg (by omega), if_neg (by omega), if_neg (by omega)]
theorem run_sub_nan0 {P : Program} (w : World) (t : TypeId) (x y : Nat) (h : FloatKind.f64.format.sub x y = none) :
    ∃ b, (binOp .sub t (.float .f64 x) (.float .f64 y)).run P w = .ok (.float .f64 b) w.drew ∧ ∀ z, FloatKind.f64.format.order b z = none := by
  refine ⟨Question.cut (.nanBits .f64 x y) (w.tape w.drawn (.nanBits .f64 x y)), by simp only [binOp]; simp [Op.floatArith, h, choose, Sem.run, Question.forced], ?_⟩
  intro z
  generalize w.tape w.drawn (.nanBits .f64 x y) = n
  obtain ⟨neg, fr, e⟩ := read_nan0 (n % 2) (n / 2 % 4503599627370495) (by omega) (by omega)
  have e' : Ieee.double.read (Question.cut (.nanBits .f64 x y) n) = .nan neg fr := e
  unfold Ieee.Format.order
  show Ieee.Datum.order (Ieee.double.read _) _ = _
  rw [e']
  rfl
/-- is a word a number's -/
def finB (u : Nat) : Bool := decide (u % 9223372036854775808 < 9218868437227405312)
theorem sub_self_fin {u : Nat} (h : finB u = true) : floatBits .sub .f64 u u = some 0 := by
  have h : u % 9223372036854775808 < 9218868437227405312 := of_decide_eq_true h
  have e1 : Ieee.double.signWeight = 9223372036854775808 := by decide
  have e2 : Ieee.double.binade = 4503599627370496 := by decide
  have e3 : Ieee.double.infRung = 9218868437227405312 := by decide
  have hr : ∃ s m e, Ieee.double.read u = .number s m e := by
    unfold Ieee.Format.read
    simp only [e1, e2, e3]
    split
    · exact ⟨_, _, _, rfl⟩
    · first | exact ⟨_, _, _, rfl⟩ | (rw [if_pos (by omega)]; exact ⟨_, _, _, rfl⟩)
  obtain ⟨s, m, e, hr⟩ := hr
  show ((Ieee.double.read u).sum (Ieee.double.read u).opposite).map Ieee.double.write = some 0
  rw [hr]
  have hz : ∀ a, signed s m a + signed (!s) m a = 0 := fun a => by unfold signed; cases s <;> simp <;> omega
  show some (Ieee.double.write (.number (if signed s m (e - min e e).toNat + signed (!s) m (e - min e e).toNat = 0 then s && !s else decide (signed s m (e - min e e).toNat + signed (!s) m (e - min e e).toNat < 0)) (signed s m (e - min e e).toNat + signed (!s) m (e - min e e).toNat).natAbs (min e e))) = some 0
  rw [hz]
  simp only [if_true, Int.natAbs_zero, Bool.and_not_self]
  unfold Ieee.Format.write Ieee.Format.nearest
  simp
  rfl
theorem sub_self_nan {u : Nat} (h : finB u = false) : FloatKind.f64.format.sub u u = none := by
  have h : ¬ u % 9223372036854775808 < 9218868437227405312 := of_decide_eq_false h
  have e1 : Ieee.double.signWeight = 9223372036854775808 := by decide
  have e2 : Ieee.double.binade = 4503599627370496 := by decide
  have e3 : Ieee.double.infRung = 9218868437227405312 := by decide
  have hr : (∃ s, Ieee.double.read u = .infinity s) ∨ ∃ s m, Ieee.double.read u = .nan s m := by
    unfold Ieee.Format.read
    simp only [e1, e2, e3]
    rw [if_neg (by omega), if_neg h]
    split
    · exact .inl ⟨_, rfl⟩
    · exact .inr ⟨_, _, rfl⟩
  show ((Ieee.double.read u).sum (Ieee.double.read u).opposite).map Ieee.double.write = none
  rcases hr with ⟨s, hr⟩ | ⟨s, m, hr⟩
  · rw [hr]
    show ((if s = !s then _ else none).map _) = none
    cases s <;> rfl
  · rw [hr]; rfl
/-- x - x, whatever x is -/
theorem sub_self (t : TypeId) (u : Nat) (w : World) : ∃ b n, (binOp .sub t (.float .f64 u) (.float .f64 u)).run Tryz.prog w = .ok (.float .f64 b) (w.drewN n) ∧ (FloatKind.f64.format.order b 0 == some Ordering.eq) = finB u := by
  cases h : finB u
  · obtain ⟨b, h1, h2⟩ := run_sub_nan0 (P := Tryz.prog) w t u u (sub_self_nan h)
    exact ⟨b, 1, h1, by rw [h2]; rfl⟩
  · exact ⟨0, 0, run_float_arith w .sub t .f64 u u 0 (sub_self_fin h), by decide +kernel⟩
/-- Of, whatever it is of -/
theorem of_any (u : Nat) (w : World) (hu : u < 18446744073709551616) : Calls Tryz.prog 32 #[.float .f64 u] w fun e w' => ∃ v k r, e = .returned (.tuple #[v, .int .i64 k]) ∧ RAt w' v r ∧ Below w.heap.size w w' ∧ (k == 0) = finB u ∧ (finB u = true → At w' v (fltQ (decide (9223372036854775808 ≤ u)) (u % 9223372036854775808))) := by
  cases h : finB u
  · by_cases h2 : u / 2 ^ 52 % 2048 = 2047
    · refine (of_inf u w hu h2).mono ?_
      rintro e w' ⟨v, rfl, hv, hb⟩
      exact ⟨v, 5, _, rfl, hv, hb, rfl, fun h => by cases h⟩
    · have h : ¬ u % 9223372036854775808 < 9218868437227405312 := of_decide_eq_false h
      omega
  · refine (of_flt u w hu (of_decide_eq_true h)).mono ?_
    rintro e w' ⟨v, rfl, hv, hb⟩
    exact ⟨v, 0, _, rfl, hv.1, hb, rfl, fun _ => hv⟩


end Go.Proofs.YtjokpfgncmdomaaGreatDoor

/- girderlaw07.RatioSides: the walk (printed by gen_y4.py) -/
namespace Go.Proofs.YtjokpfgncmdomaaGreatDoor
open Go.RowKit Go.Sort Ieee

set_option maxRecDepth 100000 in
set_option maxHeartbeats 32000000 in
theorem sides_law (v : Value) (a : RV) (u : Nat) (w : World) (ha : RAt w v a) (hu : u < 18446744073709551616) (l1 : a.num.length ≤ 100000000000000) (l2 : a.den.length ≤ 100000000000000) (hw : Laid w) :
    Calls Tryz.prog 7 #[v, .float .f64 u] w fun e w' => e = .returned (.bool true) ∧ Below w.heap.size w w' := by
  have HA := Lib.hid ha
  have HW := Lib.hid hw
  have HU := Lib.hid hu
  have ea : ∃ s A n d A' n' d', v = .agg #[.bool s, .slice A n d, .slice A' n' d'] ∧ n = a.num.length ∧ n' = a.den.length := by obtain ⟨A, n, c, A', n', c', h, h1, h2, _⟩ := ha; exact ⟨_, _, _, _, _, _, _, h, h1.num.symm, h2.num.symm⟩
  obtain ⟨s1, A1, n1, d1, A1', n1', d1', rfl, x1, x2⟩ := ea
  rw [← x1] at l1
  rw [← x2] at l2
  have X1 := Lib.hid x1
  have X2 := Lib.hid x2
  obtain ⟨w0, hw0⟩ : ∃ w0, w0 = w.alloc (.cells #[.bool s1, .slice A1 n1 d1, .slice A1' n1' d1'] 24) := ⟨_, rfl⟩
  have hb0 : Below w.heap.size w w0 := by rw [hw0]; exact below1 ..
  have HB0 := Lib.hid hb0
  have zs0 : w0.heap.size = w.heap.size + 1 := by rw [hw0]; simp
  have BX0 : Hid (BoxAt w0 w.heap.size s1 A1 n1 d1 A1' n1' d1' a) := Lib.hid (by rw [hw0]; exact BoxAt.new ha _)
  have G : Hid (w0.heap[w.heap.size]? = some (.cells #[.bool s1, .slice A1 n1 d1, .slice A1' n1' d1'] 24 (0, 0))) := Lib.hid (by rw [hw0]; exact blk_new w _ _)
  have HW0 := Lib.hid hw0
  clear ha hw hu x1 x2 hw0 hb0
  by_cases hs : 80 < n1 + n1'
  · have e0 : decide ((80 : Int) < (n1 : Int) + n1') = true := by simp; omega
    clear hs
    go_enter Tryz.func7, Tryz.ntmps7
    go_wp2_with fail
    rw [← HW0.out]
    refine (awake_law w0 (HW.out.below HB0.out)).mono ?_
    rintro e w1 ⟨rfl, hb1⟩
    have HB1 := Lib.hid (HB0.out.trans (hb1.mono HB0.out.size))
    clear hb1
    go_wp2_with fail
    go_ret
    exact ⟨rfl, HB1.out⟩
  · have e0 : decide ((80 : Int) < (n1 : Int) + n1') = false := by simp; omega
    have HS := Lib.hid hs
    clear hs
    go_enter Tryz.func7, Tryz.ntmps7
    go_wp2_with fail
    rw [← HW0.out]
    refine (of_any u w0 HU.out).mono ?_
    rintro e w1 ⟨v1, ek, ra, rfl, hv1, hb1, hk1, hf1⟩
    obtain ⟨s2, A2, n2, d2, A2', n2', d2', rfl⟩ := hv1.shape
    obtain ⟨bf, hbf⟩ : ∃ bf, bf = finB u := ⟨_, rfl⟩
    rw [← hbf] at hk1 hf1
    obtain ⟨w2, hw2⟩ : ∃ w2, w2 = w1.alloc (.cells #[.bool s2, .slice A2 n2 d2, .slice A2' n2' d2'] 24) := ⟨_, rfl⟩
    have hb2 : Below w1.heap.size w1 w2 := by rw [hw2]; exact below1 ..
    have BXF : Hid (BoxAt w2 w1.heap.size s2 A2 n2 d2 A2' n2' d2' ra) := Lib.hid (by rw [hw2]; exact BoxAt.new hv1 _)
    have HF1 := Lib.hid fun h => (hf1 h).below hb2
    have BX0b := Lib.hid ((BX0.out.below hb1).below hb2)
    have HB2 := Lib.hid ((HB0.out.trans (hb1.mono HB0.out.size)).trans (hb2.mono (Nat.le_trans HB0.out.size hb1.size)))
    have HBw0 : Hid (Below w0.heap.size w0 w2) := Lib.hid (hb1.trans (hb2.mono hb1.size))
    obtain ⟨sb, sn, hrun, hsb⟩ := sub_self 29 u w2
    rw [← hbf] at hsb
    have HBF := Lib.hid hbf
    have HW2 := Lib.hid hw2
    have hbb : (bf != bf) = false := by simp
    rw [hw2] at hrun
    clear hv1 hb1 hb2 hf1 hbf hw2 BX0
    go_upto_block 0 with fail
    rw [← HW2.out]
    have HB3 := Lib.hid (below_drewN HB2.out sn)
    have HBw3 := Lib.hid (below_drewN HBw0.out sn)
    have BXF3 : Hid (BoxAt (w2.drewN sn) w1.heap.size s2 A2 n2 d2 A2' n2' d2' ra) := Lib.hid (BXF.out.below (below_drewN (Below.refl _ _) sn))
    have HF3 := Lib.hid fun h => (HF1.out h).below (below_drewN (Below.refl _ _) sn)
    obtain ⟨w3, hw3⟩ : ∃ w3, w3 = w2.drewN sn := ⟨_, rfl⟩
    rw [← hw3] at HB3 HBw3 BXF3 HF3 ⊢
    have HK1 := Lib.hid hk1
    clear hrun hsb hbb hw3 HB2 HBw0 BXF HF1 BX0b HW2
    go_cut [] from 41 to 61 (fun wx => Below w3.heap.size w3 wx)
    case first =>
      cases bf
      · have hk1 := HK1.out
        go_wp2_with fail
        go_loopw [7] (fun mv wr => Below w3.heap.size w3 wr) (fun _ _ => 0)
        case atStart => exact Below.refl _ _
        case round =>
          go_wp2_with fail
          go_meet
          exact hrel
      · have hk1 := HK1.out
        go_wp2_with fail
        go_loopw [7] (fun mv wr => ∃ k : Nat, k ≤ 4 ∧ mv = .int .i8 k ∧ Below w3.heap.size w3 wr) (fun mv _ => 4 - (intOf mv).toNat)
        case atStart => exact ⟨0, by omega, rfl, Below.refl _ _⟩
        case round =>
          obtain ⟨k, hk, rfl, hb⟩ := hrel
          have HBr := Lib.hid hb
          have BXr := Lib.hid (BXF3.out.below hb)
          clear hb
          by_cases hk4 : k < 4
          · obtain ⟨y0, y1, y2⟩ := BXr.out.1
            have d4 : decide ((k : Int) ≤ 3) = true := by simp; omega
            go_wp2_with fail
            have hat := (HF3.out (by first | rfl | trivial)).below HBr.out
            refine (roundQ _ _ k wr hat (HW.out.below ((HB3.out.trans (HBr.out.mono HB3.out.size))))).mono ?_
            rintro e w4 ⟨rfl, hb4⟩
            have hfin := of_decide_eq_true HBF.out.symm
            obtain ⟨t, ht1, ht2⟩ := rnd_back (decide (9223372036854775808 ≤ u)) hfin (md := (k : Int)) (by omega) (by omega)
            have huw : u = sw (decide (9223372036854775808 ≤ u)) (u % 9223372036854775808) := by
              have := HU.out
              unfold sw
              by_cases h : 9223372036854775808 ≤ u
              · simp [h]; omega
              · simp [h]; omega
            have o1 : (FloatKind.f64.format.order (rndQ (fltQ (decide (9223372036854775808 ≤ u)) (u % 9223372036854775808)) k) u != some Ordering.eq) = false := by
              have h := ne_sw (s := t) (t := decide (9223372036854775808 ≤ u)) (Nat.le_of_lt hfin) (Nat.le_of_lt hfin)
              rw [← ht1, ← huw, decide_eq_true ht2] at h
              exact h
            obtain ⟨Y, hY⟩ : ∃ Y, Y = rndQ (fltQ (decide (9223372036854775808 ≤ u)) (u % 9223372036854775808)) k := ⟨_, rfl⟩
            rw [← hY] at o1 ⊢
            have HBn := Lib.hid (HBr.out.trans (hb4.mono HBr.out.size))
            have e1 : IntKind.i8.wrap ((k : Int) + 1) = ((k + 1 : Nat) : Int) := by rw [IntWalk.i8_in _ (by omega)]; omega
            clear hat hb4 ht1 ht2 huw hY hfin y0 y1 y2
            go_wp2_with fail
            refine ⟨⟨k + 1, by omega, ?_, HBn.out⟩, ?_⟩
            · first | rfl | (congr 1; try omega)
            · first | omega | (simp [intOf]; omega)
          · have d4 : decide ((k : Int) ≤ 3) = false := by simp; omega
            go_wp2_with fail
            go_meet
            exact HBr.out
    case rest =>
      obtain ⟨wx, hwx⟩ : ∃ wx, wx = wc := ⟨_, rfl⟩
      have HBc : Hid (Below w0.heap.size w0 wc) := Lib.hid (HBw3.out.trans (hcut.mono HBw3.out.size))
      have HBW := Lib.hid (HB3.out.trans (hcut.mono HB3.out.size))
      clear hcut hwx
      have g0 := (HBc.out.block w.heap.size (by omega)).trans G.out
      have hb0 := HB0.out
      have kc := (blk_cells g0).1
      have kc0 := kc 0
      have kc1 := kc 1
      have kc2 := kc 2
      simp only [List.getElem?_toArray, List.getElem?_cons_zero, List.getElem?_cons_succ] at kc0 kc1 kc2
      clear kc g0 hb0
      go_wp2_with fail
      have hs := HS.out
      refine (known_law _ a wc (HA.out.below HBW.out) (by have := X1.out; omega) (by have := X2.out; omega)).mono ?_
      rintro e w5 ⟨v5, q, rfl, hv5, hb5⟩
      clear hs
      obtain ⟨tn, B, m, d, B', m', d', rfl⟩ := at_shape hv5
      have hblk := (hb5.block w.heap.size (by have := HBc.out.size; omega)).trans ((HBc.out.block w.heap.size (by omega)).trans G.out)
      have HB5 := Lib.hid (HBW.out.trans (hb5.mono HBW.out.size))
      have z5 : w.heap.size + 1 ≤ w5.heap.size := by have := HBc.out.size; have := hb5.size; omega
      obtain ⟨kc, kf⟩ := blk_cells hblk
      have kc0 := kc 0
      have kc1 := kc 1
      have kc2 := kc 2
      have kf0 := kf 0
      have kf1 := kf 1
      have kf2 := kf 2
      simp only [List.getElem?_toArray, List.getElem?_cons_zero, List.getElem?_cons_succ] at kc0 kc1 kc2
      obtain ⟨w6, hw6⟩ : ∃ w6, w6 = ((w5.setCell ⟨w.heap.size, 0, none⟩ (.bool tn)).setCell ⟨w.heap.size, 1, none⟩ (.slice B m d)).setCell ⟨w.heap.size, 2, none⟩ (.slice B' m' d') := ⟨_, rfl⟩
      obtain ⟨hu6, q0, q1, q2⟩ := rat_set kc0 kc1 kc2 _ _ _ _ _ _ _ _ hw6
      have BXR : Hid (BoxAt w6 w.heap.size tn B m d B' m' d' (rv q)) := Lib.hid ⟨⟨q0, q1, q2⟩, hv5.1.upb hu6⟩
      have FQ := Lib.hid hv5.2
      have HB6 := Lib.hid (HB5.out.trans (hu6.below (by omega) (by omega)))
      rw [hw6] at q0 q1 q2
      have HW6 := Lib.hid hw6
      clear hblk kc hv5 hb5 hu6 hw6
      obtain ⟨neg, lo, hi, nn, hS⟩ := side_has q
      have SB := Lib.hid (side_below hS)
      have SA := Lib.hid (side_above hS)
      have SG := Lib.hid (side_sgn hS)
      have SN := Lib.hid (side_near hS)
      obtain ⟨D, hD⟩ : ∃ D, D = sw neg (if neg then hi else lo) := ⟨_, rfl⟩
      obtain ⟨U, hU⟩ : ∃ U, U = sw neg (if neg then lo else hi) := ⟨_, rfl⟩
      obtain ⟨Z, hZ⟩ : ∃ Z, Z = sw neg lo := ⟨_, rfl⟩
      obtain ⟨N, hN⟩ : ∃ N, N = sw neg nn := ⟨_, rfl⟩
      have R1 := Lib.hid hS.d1
      have R2 := Lib.hid hS.d2
      have R3 := Lib.hid hS.d3
      have R0 := Lib.hid hS.d0
      rw [← hD] at R1
      rw [← hU] at R2
      rw [← hZ] at R3
      rw [← hN] at R0
      have HSS := Lib.hid hS
      have HD := Lib.hid hD
      have HUU := Lib.hid hU
      have HZ := Lib.hid hZ
      have HN := Lib.hid hN
      clear hS hD hU hZ hN
      go_wp2_with fail
      rw [← HW6.out]
      clear q0 q1 q2 kf kf0 kf1 kf2 kc0 kc1 kc2
      refine (roundQ _ _ 1 w6 ⟨BXR.out.2, FQ.out⟩ (HW.out.below HB6.out)).mono ?_
      rintro e w1 ⟨rfl, hb2⟩
      have BX3 := Lib.hid (BXR.out.below hb2)
      clear BXR
      have HB4 := Lib.hid (HB6.out.trans (hb2.mono HB6.out.size))
      clear hb2
      rw [R1.out]
      obtain ⟨x5, x6, x7⟩ := BX3.out.1
      go_wp2_with fail
      clear x5 x6 x7
      refine (roundQ _ _ 2 w1 ⟨BX3.out.2, FQ.out⟩ (HW.out.below HB4.out)).mono ?_
      rintro e w8 ⟨rfl, hb9⟩
      have BX10 := Lib.hid (BX3.out.below hb9)
      clear BX3
      have HB11 := Lib.hid (HB4.out.trans (hb9.mono HB4.out.size))
      clear hb9
      rw [R2.out]
      obtain ⟨x12, x13, x14⟩ := BX10.out.1
      go_wp2_with fail
      clear x12 x13 x14
      refine (roundQ _ _ 0 w8 ⟨BX10.out.2, FQ.out⟩ (HW.out.below HB11.out)).mono ?_
      rintro e w15 ⟨rfl, hb16⟩
      have BX17 := Lib.hid (BX10.out.below hb16)
      clear BX10
      have HB18 := Lib.hid (HB11.out.trans (hb16.mono HB11.out.size))
      clear hb16
      rw [R0.out]
      obtain ⟨x19, x20, x21⟩ := BX17.out.1
      go_wp2_with fail
      clear x19 x20 x21
      refine (roundQ _ _ 3 w15 ⟨BX17.out.2, FQ.out⟩ (HW.out.below HB18.out)).mono ?_
      rintro e w22 ⟨rfl, hb23⟩
      have BX24 := Lib.hid (BX17.out.below hb23)
      clear BX17
      have HB25 := Lib.hid (HB18.out.trans (hb23.mono HB18.out.size))
      clear hb23
      rw [R3.out]
      obtain ⟨x26, x27, x28⟩ := BX24.out.1
      go_wp2_with fail
      clear x26 x27 x28
      refine (signQ _ _ w22 ⟨BX24.out.2, FQ.out⟩).mono ?_
      rintro e w29 ⟨rfl, hb30⟩
      have BX31 := Lib.hid (BX24.out.below hb30)
      clear BX24
      have HB32 := Lib.hid (HB25.out.trans (hb30.mono HB25.out.size))
      clear hb30
      obtain ⟨k, hk⟩ : ∃ k, k = sgnI q.num := ⟨_, rfl⟩
      rw [← hk]
      have KS : Hid ((0 ≤ k → neg = false) ∧ (k ≤ 0 → neg = true ∨ hi = lo)) := Lib.hid (by rw [hk]; exact SG.out)
      clear hk
      have hl1 := HSS.out.lo_lt
      have hl2 := HSS.out.hi_le
      have HL := Lib.hid (And.intro hl1 hl2)
      clear hl1 hl2
      by_cases hsame : hi = lo
      · have hnn : nn = lo := by have := HSS.out.nn; omega
        have HDs : Hid (D = sw neg lo) := Lib.hid (by rw [HD.out, hsame, ite_self])
        have EB : Hid (belowB neg lo q = true) := Lib.hid (by have h := SB.out; rwa [hsame, ite_self] at h)
        have EA : Hid (aboveB neg lo q = true) := Lib.hid (by have h := SA.out; rwa [hsame, ite_self] at h)
        obtain rfl : D = U := by rw [HUU.out, HDs.out, hsame, ite_self]
        obtain rfl : D = Z := by rw [HZ.out, HDs.out]
        obtain rfl : D = N := by rw [HN.out, HDs.out, hnn]
        have o1 : (FloatKind.f64.format.order D D == some Ordering.eq) = true := by
          have := HL.out
          rw [HDs.out, eq_sw (by omega) (by omega)]; simp
        have o2 : (FloatKind.f64.format.order D D != some Ordering.eq) = false := by
          have := HL.out
          rw [HDs.out, ne_sw (by omega) (by omega)]; simp
        have NR : Hid (∀ (v : Value) (w : World), At w v q → Calls Tryz.prog 43 #[.float .f64 D, .float .f64 D, .float .f64 D, v] w fun e w' => e = .returned (.bool true) ∧ Below w.heap.size w w') := Lib.hid (fun v w h => nearer_same D D D v q w h o1 o1)
        rcases Int.lt_trichotomy k 0 with h | h | h
        · have b1 : decide (0 ≤ k) = false := by simp; omega
          have b2 : decide (k ≤ 0) = true := by simp; omega
          clear h hsame
          obtain ⟨x33, x34, x35⟩ := BX31.out.1
          go_wp2_with fail
          clear x33 x34 x35
          have hbl := below_law neg (if neg then hi else lo) _ q w29 (by have := HL.out; first | omega | (split <;> omega)) ⟨BX31.out.2, FQ.out⟩
          rw [← HD.out, SB.out] at hbl
          refine hbl.mono ?_
          clear hbl
          rintro e w36 ⟨rfl, hb37⟩
          have BX38 := Lib.hid (BX31.out.below hb37)
          clear BX31
          have HB39 := Lib.hid (HB32.out.trans (hb37.mono HB32.out.size))
          clear hb37
          obtain ⟨x40, x41, x42⟩ := BX38.out.1
          go_wp2_with fail
          clear x40 x41 x42
          have hbl := above_law neg (if neg then lo else hi) _ q w36 (by have := HL.out; first | omega | (split <;> omega)) ⟨BX38.out.2, FQ.out⟩
          rw [← HUU.out, SA.out] at hbl
          refine hbl.mono ?_
          clear hbl
          rintro e w43 ⟨rfl, hb44⟩
          have BX45 := Lib.hid (BX38.out.below hb44)
          clear BX38
          have HB46 := Lib.hid (HB39.out.trans (hb44.mono HB39.out.size))
          clear hb44
          obtain ⟨x47, x48, x49⟩ := BX45.out.1
          go_wp2_with fail
          clear x47 x48 x49
          have hbl := exact_law neg lo _ q w43 (by have := HL.out; omega) ⟨BX45.out.2, FQ.out⟩ EB.out EA.out
          rw [← HDs.out] at hbl
          refine hbl.mono ?_
          clear hbl
          rintro e w50 ⟨rfl, hb51⟩
          have BX52 := Lib.hid (BX45.out.below hb51)
          clear BX45
          have HB53 := Lib.hid (HB46.out.trans (hb51.mono HB46.out.size))
          clear hb51
          obtain ⟨x54, x55, x56⟩ := BX52.out.1
          go_wp2_with fail
          clear x54 x55 x56
          refine (NR.out _ w50 ⟨BX52.out.2, FQ.out⟩).mono ?_
          rintro e w57 ⟨rfl, hb58⟩
          have BX59 := Lib.hid (BX52.out.below hb58)
          clear BX52
          have HB60 := Lib.hid (HB53.out.trans (hb58.mono HB53.out.size))
          clear hb58
          go_wp2_with fail
          refine (awake_law w57 (HW.out.below HB60.out)).mono ?_
          rintro e w61 ⟨rfl, hb62⟩
          have HB63 := Lib.hid (HB60.out.trans (hb62.mono HB60.out.size))
          clear hb62
          go_wp2_with fail
          go_ret
          exact ⟨rfl, HB63.out⟩
        · subst h
          clear hsame
          obtain ⟨x64, x65, x66⟩ := BX31.out.1
          go_wp2_with fail
          clear x64 x65 x66
          have hbl := below_law neg (if neg then hi else lo) _ q w29 (by have := HL.out; first | omega | (split <;> omega)) ⟨BX31.out.2, FQ.out⟩
          rw [← HD.out, SB.out] at hbl
          refine hbl.mono ?_
          clear hbl
          rintro e w67 ⟨rfl, hb68⟩
          have BX69 := Lib.hid (BX31.out.below hb68)
          clear BX31
          have HB70 := Lib.hid (HB32.out.trans (hb68.mono HB32.out.size))
          clear hb68
          obtain ⟨x71, x72, x73⟩ := BX69.out.1
          go_wp2_with fail
          clear x71 x72 x73
          have hbl := above_law neg (if neg then lo else hi) _ q w67 (by have := HL.out; first | omega | (split <;> omega)) ⟨BX69.out.2, FQ.out⟩
          rw [← HUU.out, SA.out] at hbl
          refine hbl.mono ?_
          clear hbl
          rintro e w74 ⟨rfl, hb75⟩
          have BX76 := Lib.hid (BX69.out.below hb75)
          clear BX69
          have HB77 := Lib.hid (HB70.out.trans (hb75.mono HB70.out.size))
          clear hb75
          obtain ⟨x78, x79, x80⟩ := BX76.out.1
          go_wp2_with fail
          clear x78 x79 x80
          have hbl := exact_law neg lo _ q w74 (by have := HL.out; omega) ⟨BX76.out.2, FQ.out⟩ EB.out EA.out
          rw [← HDs.out] at hbl
          refine hbl.mono ?_
          clear hbl
          rintro e w81 ⟨rfl, hb82⟩
          have BX83 := Lib.hid (BX76.out.below hb82)
          clear BX76
          have HB84 := Lib.hid (HB77.out.trans (hb82.mono HB77.out.size))
          clear hb82
          obtain ⟨x85, x86, x87⟩ := BX83.out.1
          go_wp2_with fail
          clear x85 x86 x87
          refine (NR.out _ w81 ⟨BX83.out.2, FQ.out⟩).mono ?_
          rintro e w88 ⟨rfl, hb89⟩
          have BX90 := Lib.hid (BX83.out.below hb89)
          clear BX83
          have HB91 := Lib.hid (HB84.out.trans (hb89.mono HB84.out.size))
          clear hb89
          go_wp2_with fail
          refine (awake_law w88 (HW.out.below HB91.out)).mono ?_
          rintro e w92 ⟨rfl, hb93⟩
          have HB94 := Lib.hid (HB91.out.trans (hb93.mono HB91.out.size))
          clear hb93
          go_wp2_with fail
          go_ret
          exact ⟨rfl, HB94.out⟩
        · have b1 : decide (0 ≤ k) = true := by simp; omega
          have b2 : decide (k ≤ 0) = false := by simp; omega
          clear h hsame
          obtain ⟨x95, x96, x97⟩ := BX31.out.1
          go_wp2_with fail
          clear x95 x96 x97
          have hbl := below_law neg (if neg then hi else lo) _ q w29 (by have := HL.out; first | omega | (split <;> omega)) ⟨BX31.out.2, FQ.out⟩
          rw [← HD.out, SB.out] at hbl
          refine hbl.mono ?_
          clear hbl
          rintro e w98 ⟨rfl, hb99⟩
          have BX100 := Lib.hid (BX31.out.below hb99)
          clear BX31
          have HB101 := Lib.hid (HB32.out.trans (hb99.mono HB32.out.size))
          clear hb99
          obtain ⟨x102, x103, x104⟩ := BX100.out.1
          go_wp2_with fail
          clear x102 x103 x104
          have hbl := above_law neg (if neg then lo else hi) _ q w98 (by have := HL.out; first | omega | (split <;> omega)) ⟨BX100.out.2, FQ.out⟩
          rw [← HUU.out, SA.out] at hbl
          refine hbl.mono ?_
          clear hbl
          rintro e w105 ⟨rfl, hb106⟩
          have BX107 := Lib.hid (BX100.out.below hb106)
          clear BX100
          have HB108 := Lib.hid (HB101.out.trans (hb106.mono HB101.out.size))
          clear hb106
          obtain ⟨x109, x110, x111⟩ := BX107.out.1
          go_wp2_with fail
          clear x109 x110 x111
          have hbl := exact_law neg lo _ q w105 (by have := HL.out; omega) ⟨BX107.out.2, FQ.out⟩ EB.out EA.out
          rw [← HDs.out] at hbl
          refine hbl.mono ?_
          clear hbl
          rintro e w112 ⟨rfl, hb113⟩
          have BX114 := Lib.hid (BX107.out.below hb113)
          clear BX107
          have HB115 := Lib.hid (HB108.out.trans (hb113.mono HB108.out.size))
          clear hb113
          obtain ⟨x116, x117, x118⟩ := BX114.out.1
          go_wp2_with fail
          clear x116 x117 x118
          refine (NR.out _ w112 ⟨BX114.out.2, FQ.out⟩).mono ?_
          rintro e w119 ⟨rfl, hb120⟩
          have BX121 := Lib.hid (BX114.out.below hb120)
          clear BX114
          have HB122 := Lib.hid (HB115.out.trans (hb120.mono HB115.out.size))
          clear hb120
          go_wp2_with fail
          refine (awake_law w119 (HW.out.below HB122.out)).mono ?_
          rintro e w123 ⟨rfl, hb124⟩
          have HB125 := Lib.hid (HB122.out.trans (hb124.mono HB122.out.size))
          clear hb124
          go_wp2_with fail
          go_ret
          exact ⟨rfl, HB125.out⟩
      · have hup : hi = lo + 1 := by have := HSS.out.step; omega
        have hk0 : k ≠ 0 := by
          intro h
          have h1 := KS.out.1 (by omega)
          have h2 := KS.out.2 (by omega)
          rw [h1] at h2
          simp [hsame] at h2
        have HNE := Lib.hid hsame
        have HUP := Lib.hid hup
        have HK0 := Lib.hid hk0
        clear hsame hup hk0
        cases neg
        · have HDx : Hid (D = sw false lo) := Lib.hid (by rw [HD.out]; rfl)
          have HUx : Hid (U = sw false hi) := Lib.hid (by rw [HUU.out]; rfl)
          have SBx : Hid (belowB false lo q = true) := Lib.hid SB.out
          have SAx : Hid (aboveB false hi q = true) := Lib.hid SA.out
          have hkk : 0 < k := Int.not_le.1 fun h4 => by have h5 := KS.out.2 h4; have h3 := HNE.out; simp [h3] at h5
          have b1 : decide (0 ≤ k) = true := by simp; omega
          have b2 : decide (k ≤ 0) = false := by simp; omega
          have odu : (FloatKind.f64.format.order D U != some Ordering.eq) = true := by
            have := HL.out; have := HUP.out
            rw [HDx.out, HUx.out, ne_sw (by omega) (by omega), decide_eq_false (fun h => by simp only [srf, srt] at h; omega)]; rfl
          have ode : (FloatKind.f64.format.order D U == some Ordering.eq) = false := by
            have := HL.out; have := HUP.out
            rw [HDx.out, HUx.out, eq_sw (by omega) (by omega), decide_eq_false (fun h => by simp only [srf, srt] at h; omega)]
          have oud : (FloatKind.f64.format.order U D != some Ordering.eq) = true := by
            have := HL.out; have := HUP.out
            rw [HDx.out, HUx.out, ne_sw (by omega) (by omega), decide_eq_false (fun h => by simp only [srf, srt] at h; omega)]; rfl
          have oude : (FloatKind.f64.format.order U D == some Ordering.eq) = false := by
            have := HL.out; have := HUP.out
            rw [HDx.out, HUx.out, eq_sw (by omega) (by omega), decide_eq_false (fun h => by simp only [srf, srt] at h; omega)]
          have odd : (FloatKind.f64.format.order D D != some Ordering.eq) = false := by
            have := HL.out
            rw [HDx.out, ne_sw (by omega) (by omega)]; simp
          have odde : (FloatKind.f64.format.order D D == some Ordering.eq) = true := by
            have := HL.out
            rw [HDx.out, eq_sw (by omega) (by omega)]; simp
          have ouu : (FloatKind.f64.format.order U U != some Ordering.eq) = false := by
            have := HL.out
            rw [HUx.out, ne_sw (by omega) (by omega)]; simp
          have NX : Hid (∀ w : World, Calls Tryz.prog 40 #[.float .f64 D, .float .f64 9218868437227405312] w fun e w' => e = .returned (.float .f64 U) ∧ w = w') := Lib.hid (fun w => by
            rw [HDx.out, HUx.out, HUP.out]
            exact nextafter_up lo w HL.out.1)
          obtain rfl : D = Z := by rw [HZ.out, HDx.out]
          clear hkk
          rcases HSS.out.nn with hn | hn
          · obtain rfl : D = N := by rw [HN.out, hn, HDx.out]
            have HNN := Lib.hid hn
            clear hn
            have NR : Hid (∀ (v : Value) (w : World), At w v q → Calls Tryz.prog 43 #[.float .f64 D, .float .f64 D, .float .f64 U, v] w fun e w' => e = .returned (.bool true) ∧ Below w.heap.size w w') := Lib.hid (fun v w h => by
              by_cases hfin : hi < 9218868437227405312
              · have hn2 := SN.out HNE.out hfin
                have hh := HNN.out
                have hne := HNE.out
                refine nearer_fin _ D U true (fltQ false lo) (fltQ false hi) v q w h ode odde (by rw [HDx.out]; exact ofC_sw (by have := HL.out; omega)) (by rw [HUx.out]; exact ofC_sw (by have := HL.out; omega)) (fits_sum _ _ (by have := HL.out; omega) (by have := HL.out; omega)) (fun hc => ?_) (fun hc => ?_)
                · have h6 := hn2.1 hc
                  simp only [Bool.false_eq_true, if_true, if_false] at h6
                  first | rfl | omega
                · have h6 := hn2.2 hc
                  simp only [Bool.false_eq_true, if_true, if_false] at h6
                  first | rfl | omega
              · have he : hi = 9218868437227405312 := by have := HL.out; omega
                exact nearer_infU _ D U (fltQ false lo) v q w h ode (fun w => by rw [HUx.out, he]; exact ofF_sw w) (by rw [HDx.out]; exact ofC_sw HL.out.1))
            skip
            obtain ⟨x126, x127, x128⟩ := BX31.out.1
            go_wp2_with fail
            clear x126 x127 x128
            have hbl := below_law false lo _ q w29 (by have := HL.out; first | omega | (split <;> omega)) ⟨BX31.out.2, FQ.out⟩
            rw [← HDx.out, SBx.out] at hbl
            refine hbl.mono ?_
            clear hbl
            rintro e w129 ⟨rfl, hb130⟩
            have BX131 := Lib.hid (BX31.out.below hb130)
            clear BX31
            have HB132 := Lib.hid (HB32.out.trans (hb130.mono HB32.out.size))
            clear hb130
            obtain ⟨x133, x134, x135⟩ := BX131.out.1
            go_wp2_with fail
            clear x133 x134 x135
            have hbl := above_law false hi _ q w129 (by have := HL.out; first | omega | (split <;> omega)) ⟨BX131.out.2, FQ.out⟩
            rw [← HUx.out, SAx.out] at hbl
            refine hbl.mono ?_
            clear hbl
            rintro e w136 ⟨rfl, hb137⟩
            have BX138 := Lib.hid (BX131.out.below hb137)
            clear BX131
            have HB139 := Lib.hid (HB132.out.trans (hb137.mono HB132.out.size))
            clear hb137
            obtain ⟨x140, x141, x142⟩ := BX138.out.1
            go_wp2_with fail
            clear x140 x141 x142
            refine (inf_call w136).mono ?_
            rintro e w99 ⟨rfl, rfl⟩
            go_wp2_with fail
            refine (NX.out w136).mono ?_
            rintro e w99 ⟨rfl, rfl⟩
            obtain ⟨x143, x144, x145⟩ := BX138.out.1
            go_wp2_with fail
            clear x143 x144 x145
            refine (NR.out _ w136 ⟨BX138.out.2, FQ.out⟩).mono ?_
            rintro e w146 ⟨rfl, hb147⟩
            have BX148 := Lib.hid (BX138.out.below hb147)
            clear BX138
            have HB149 := Lib.hid (HB139.out.trans (hb147.mono HB139.out.size))
            clear hb147
            go_wp2_with fail
            refine (awake_law w146 (HW.out.below HB149.out)).mono ?_
            rintro e w150 ⟨rfl, hb151⟩
            have HB152 := Lib.hid (HB149.out.trans (hb151.mono HB149.out.size))
            clear hb151
            go_wp2_with fail
            go_ret
            exact ⟨rfl, HB152.out⟩
          · obtain rfl : U = N := by rw [HN.out, hn, HUx.out]
            have HNN := Lib.hid hn
            clear hn
            have NR : Hid (∀ (v : Value) (w : World), At w v q → Calls Tryz.prog 43 #[.float .f64 U, .float .f64 D, .float .f64 U, v] w fun e w' => e = .returned (.bool true) ∧ Below w.heap.size w w') := Lib.hid (fun v w h => by
              by_cases hfin : hi < 9218868437227405312
              · have hn2 := SN.out HNE.out hfin
                have hh := HNN.out
                have hne := HNE.out
                refine nearer_fin _ D U false (fltQ false lo) (fltQ false hi) v q w h ode oude (by rw [HDx.out]; exact ofC_sw (by have := HL.out; omega)) (by rw [HUx.out]; exact ofC_sw (by have := HL.out; omega)) (fits_sum _ _ (by have := HL.out; omega) (by have := HL.out; omega)) (fun hc => ?_) (fun hc => ?_)
                · have h6 := hn2.1 hc
                  simp only [Bool.false_eq_true, if_true, if_false] at h6
                  first | rfl | omega
                · have h6 := hn2.2 hc
                  simp only [Bool.false_eq_true, if_true, if_false] at h6
                  first | rfl | omega
              · have he : hi = 9218868437227405312 := by have := HL.out; omega
                exact nearer_infU _ D U (fltQ false lo) v q w h ode (fun w => by rw [HUx.out, he]; exact ofF_sw w) (by rw [HDx.out]; exact ofC_sw HL.out.1))
            skip
            obtain ⟨x153, x154, x155⟩ := BX31.out.1
            go_wp2_with fail
            clear x153 x154 x155
            have hbl := below_law false lo _ q w29 (by have := HL.out; first | omega | (split <;> omega)) ⟨BX31.out.2, FQ.out⟩
            rw [← HDx.out, SBx.out] at hbl
            refine hbl.mono ?_
            clear hbl
            rintro e w156 ⟨rfl, hb157⟩
            have BX158 := Lib.hid (BX31.out.below hb157)
            clear BX31
            have HB159 := Lib.hid (HB32.out.trans (hb157.mono HB32.out.size))
            clear hb157
            obtain ⟨x160, x161, x162⟩ := BX158.out.1
            go_wp2_with fail
            clear x160 x161 x162
            have hbl := above_law false hi _ q w156 (by have := HL.out; first | omega | (split <;> omega)) ⟨BX158.out.2, FQ.out⟩
            rw [← HUx.out, SAx.out] at hbl
            refine hbl.mono ?_
            clear hbl
            rintro e w163 ⟨rfl, hb164⟩
            have BX165 := Lib.hid (BX158.out.below hb164)
            clear BX158
            have HB166 := Lib.hid (HB159.out.trans (hb164.mono HB159.out.size))
            clear hb164
            obtain ⟨x167, x168, x169⟩ := BX165.out.1
            go_wp2_with fail
            clear x167 x168 x169
            refine (inf_call w163).mono ?_
            rintro e w99 ⟨rfl, rfl⟩
            go_wp2_with fail
            refine (NX.out w163).mono ?_
            rintro e w99 ⟨rfl, rfl⟩
            obtain ⟨x170, x171, x172⟩ := BX165.out.1
            go_wp2_with fail
            clear x170 x171 x172
            refine (NR.out _ w163 ⟨BX165.out.2, FQ.out⟩).mono ?_
            rintro e w173 ⟨rfl, hb174⟩
            have BX175 := Lib.hid (BX165.out.below hb174)
            clear BX165
            have HB176 := Lib.hid (HB166.out.trans (hb174.mono HB166.out.size))
            clear hb174
            go_wp2_with fail
            refine (awake_law w173 (HW.out.below HB176.out)).mono ?_
            rintro e w177 ⟨rfl, hb178⟩
            have HB179 := Lib.hid (HB176.out.trans (hb178.mono HB176.out.size))
            clear hb178
            go_wp2_with fail
            go_ret
            exact ⟨rfl, HB179.out⟩
        · have HDx : Hid (D = sw true hi) := Lib.hid (by rw [HD.out]; rfl)
          have HUx : Hid (U = sw true lo) := Lib.hid (by rw [HUU.out]; rfl)
          have SBx : Hid (belowB true hi q = true) := Lib.hid SB.out
          have SAx : Hid (aboveB true lo q = true) := Lib.hid SA.out
          have hkk : k < 0 := Int.not_le.1 fun h4 => by have h5 := KS.out.1 h4; simp at h5
          have b1 : decide (0 ≤ k) = false := by simp; omega
          have b2 : decide (k ≤ 0) = true := by simp; omega
          have odu : (FloatKind.f64.format.order D U != some Ordering.eq) = true := by
            have := HL.out; have := HUP.out
            rw [HDx.out, HUx.out, ne_sw (by omega) (by omega), decide_eq_false (fun h => by simp only [srf, srt] at h; omega)]; rfl
          have ode : (FloatKind.f64.format.order D U == some Ordering.eq) = false := by
            have := HL.out; have := HUP.out
            rw [HDx.out, HUx.out, eq_sw (by omega) (by omega), decide_eq_false (fun h => by simp only [srf, srt] at h; omega)]
          have oud : (FloatKind.f64.format.order U D != some Ordering.eq) = true := by
            have := HL.out; have := HUP.out
            rw [HDx.out, HUx.out, ne_sw (by omega) (by omega), decide_eq_false (fun h => by simp only [srf, srt] at h; omega)]; rfl
          have oude : (FloatKind.f64.format.order U D == some Ordering.eq) = false := by
            have := HL.out; have := HUP.out
            rw [HDx.out, HUx.out, eq_sw (by omega) (by omega), decide_eq_false (fun h => by simp only [srf, srt] at h; omega)]
          have odd : (FloatKind.f64.format.order D D != some Ordering.eq) = false := by
            have := HL.out
            rw [HDx.out, ne_sw (by omega) (by omega)]; simp
          have odde : (FloatKind.f64.format.order D D == some Ordering.eq) = true := by
            have := HL.out
            rw [HDx.out, eq_sw (by omega) (by omega)]; simp
          have ouu : (FloatKind.f64.format.order U U != some Ordering.eq) = false := by
            have := HL.out
            rw [HUx.out, ne_sw (by omega) (by omega)]; simp
          have NX : Hid (∀ w : World, Calls Tryz.prog 40 #[.float .f64 D, .float .f64 9218868437227405312] w fun e w' => e = .returned (.float .f64 U) ∧ w = w') := Lib.hid (fun w => by
            rw [HDx.out, HUx.out, HUP.out]
            exact nextafter_neg lo w HL.out.1)
          obtain rfl : U = Z := by rw [HZ.out, HUx.out]
          clear hkk
          rcases HSS.out.nn with hn | hn
          · obtain rfl : U = N := by rw [HN.out, hn, HUx.out]
            have HNN := Lib.hid hn
            clear hn
            have NR : Hid (∀ (v : Value) (w : World), At w v q → Calls Tryz.prog 43 #[.float .f64 U, .float .f64 D, .float .f64 U, v] w fun e w' => e = .returned (.bool true) ∧ Below w.heap.size w w') := Lib.hid (fun v w h => by
              by_cases hfin : hi < 9218868437227405312
              · have hn2 := SN.out HNE.out hfin
                have hh := HNN.out
                have hne := HNE.out
                refine nearer_fin _ D U false (fltQ true hi) (fltQ true lo) v q w h ode oude (by rw [HDx.out]; exact ofC_sw (by have := HL.out; omega)) (by rw [HUx.out]; exact ofC_sw (by have := HL.out; omega)) (fits_sum _ _ (by have := HL.out; omega) (by have := HL.out; omega)) (fun hc => ?_) (fun hc => ?_)
                · have h6 := hn2.1 hc
                  simp only [Bool.false_eq_true, if_true, if_false] at h6
                  first | rfl | omega
                · have h6 := hn2.2 hc
                  simp only [Bool.false_eq_true, if_true, if_false] at h6
                  first | rfl | omega
              · have he : hi = 9218868437227405312 := by have := HL.out; omega
                exact nearer_infD _ D U (fltQ true lo) v q w h ode (fun w => by rw [HDx.out, he]; exact ofF_sw w) (by rw [HUx.out]; exact ofC_sw HL.out.1))
            skip
            obtain ⟨x180, x181, x182⟩ := BX31.out.1
            go_wp2_with fail
            clear x180 x181 x182
            have hbl := below_law true hi _ q w29 (by have := HL.out; first | omega | (split <;> omega)) ⟨BX31.out.2, FQ.out⟩
            rw [← HDx.out, SBx.out] at hbl
            refine hbl.mono ?_
            clear hbl
            rintro e w183 ⟨rfl, hb184⟩
            have BX185 := Lib.hid (BX31.out.below hb184)
            clear BX31
            have HB186 := Lib.hid (HB32.out.trans (hb184.mono HB32.out.size))
            clear hb184
            obtain ⟨x187, x188, x189⟩ := BX185.out.1
            go_wp2_with fail
            clear x187 x188 x189
            have hbl := above_law true lo _ q w183 (by have := HL.out; first | omega | (split <;> omega)) ⟨BX185.out.2, FQ.out⟩
            rw [← HUx.out, SAx.out] at hbl
            refine hbl.mono ?_
            clear hbl
            rintro e w190 ⟨rfl, hb191⟩
            have BX192 := Lib.hid (BX185.out.below hb191)
            clear BX185
            have HB193 := Lib.hid (HB186.out.trans (hb191.mono HB186.out.size))
            clear hb191
            obtain ⟨x194, x195, x196⟩ := BX192.out.1
            go_wp2_with fail
            clear x194 x195 x196
            refine (inf_call w190).mono ?_
            rintro e w99 ⟨rfl, rfl⟩
            go_wp2_with fail
            refine (NX.out w190).mono ?_
            rintro e w99 ⟨rfl, rfl⟩
            obtain ⟨x197, x198, x199⟩ := BX192.out.1
            go_wp2_with fail
            clear x197 x198 x199
            refine (NR.out _ w190 ⟨BX192.out.2, FQ.out⟩).mono ?_
            rintro e w200 ⟨rfl, hb201⟩
            have BX202 := Lib.hid (BX192.out.below hb201)
            clear BX192
            have HB203 := Lib.hid (HB193.out.trans (hb201.mono HB193.out.size))
            clear hb201
            go_wp2_with fail
            refine (awake_law w200 (HW.out.below HB203.out)).mono ?_
            rintro e w204 ⟨rfl, hb205⟩
            have HB206 := Lib.hid (HB203.out.trans (hb205.mono HB203.out.size))
            clear hb205
            go_wp2_with fail
            go_ret
            exact ⟨rfl, HB206.out⟩
          · obtain rfl : D = N := by rw [HN.out, hn, HDx.out]
            have HNN := Lib.hid hn
            clear hn
            have NR : Hid (∀ (v : Value) (w : World), At w v q → Calls Tryz.prog 43 #[.float .f64 D, .float .f64 D, .float .f64 U, v] w fun e w' => e = .returned (.bool true) ∧ Below w.heap.size w w') := Lib.hid (fun v w h => by
              by_cases hfin : hi < 9218868437227405312
              · have hn2 := SN.out HNE.out hfin
                have hh := HNN.out
                have hne := HNE.out
                refine nearer_fin _ D U true (fltQ true hi) (fltQ true lo) v q w h ode odde (by rw [HDx.out]; exact ofC_sw (by have := HL.out; omega)) (by rw [HUx.out]; exact ofC_sw (by have := HL.out; omega)) (fits_sum _ _ (by have := HL.out; omega) (by have := HL.out; omega)) (fun hc => ?_) (fun hc => ?_)
                · have h6 := hn2.1 hc
                  simp only [Bool.false_eq_true, if_true, if_false] at h6
                  first | rfl | omega
                · have h6 := hn2.2 hc
                  simp only [Bool.false_eq_true, if_true, if_false] at h6
                  first | rfl | omega
              · have he : hi = 9218868437227405312 := by have := HL.out; omega
                exact nearer_infD _ D U (fltQ true lo) v q w h ode (fun w => by rw [HDx.out, he]; exact ofF_sw w) (by rw [HUx.out]; exact ofC_sw HL.out.1))
            skip
            obtain ⟨x207, x208, x209⟩ := BX31.out.1
            go_wp2_with fail
            clear x207 x208 x209
            have hbl := below_law true hi _ q w29 (by have := HL.out; first | omega | (split <;> omega)) ⟨BX31.out.2, FQ.out⟩
            rw [← HDx.out, SBx.out] at hbl
            refine hbl.mono ?_
            clear hbl
            rintro e w210 ⟨rfl, hb211⟩
            have BX212 := Lib.hid (BX31.out.below hb211)
            clear BX31
            have HB213 := Lib.hid (HB32.out.trans (hb211.mono HB32.out.size))
            clear hb211
            obtain ⟨x214, x215, x216⟩ := BX212.out.1
            go_wp2_with fail
            clear x214 x215 x216
            have hbl := above_law true lo _ q w210 (by have := HL.out; first | omega | (split <;> omega)) ⟨BX212.out.2, FQ.out⟩
            rw [← HUx.out, SAx.out] at hbl
            refine hbl.mono ?_
            clear hbl
            rintro e w217 ⟨rfl, hb218⟩
            have BX219 := Lib.hid (BX212.out.below hb218)
            clear BX212
            have HB220 := Lib.hid (HB213.out.trans (hb218.mono HB213.out.size))
            clear hb218
            obtain ⟨x221, x222, x223⟩ := BX219.out.1
            go_wp2_with fail
            clear x221 x222 x223
            refine (inf_call w217).mono ?_
            rintro e w99 ⟨rfl, rfl⟩
            go_wp2_with fail
            refine (NX.out w217).mono ?_
            rintro e w99 ⟨rfl, rfl⟩
            obtain ⟨x224, x225, x226⟩ := BX219.out.1
            go_wp2_with fail
            clear x224 x225 x226
            refine (NR.out _ w217 ⟨BX219.out.2, FQ.out⟩).mono ?_
            rintro e w227 ⟨rfl, hb228⟩
            have BX229 := Lib.hid (BX219.out.below hb228)
            clear BX219
            have HB230 := Lib.hid (HB220.out.trans (hb228.mono HB220.out.size))
            clear hb228
            go_wp2_with fail
            refine (awake_law w227 (HW.out.below HB230.out)).mono ?_
            rintro e w231 ⟨rfl, hb232⟩
            have HB233 := Lib.hid (HB230.out.trans (hb232.mono HB230.out.size))
            clear hb232
            go_wp2_with fail
            go_ret
            exact ⟨rfl, HB233.out⟩

end Go.Proofs.YtjokpfgncmdomaaGreatDoor
