import Derived.Test.YtjokpfgncmdomaaGreatDoorX19
import Derived.Deep.CutBlock
set_option linter.unusedSimpArgs false
set_option linter.unusedVariables false
/- dyad.Round of what was made right; ratio.Round of any right ratio -/
namespace Go.Proofs.YtjokpfgncmdomaaGreatDoor
open Go.RowKit Go.Sort

theorem blen_mul_pow {m : Nat} (hm : m ≠ 0) (k : Nat) : blen (m * 2 ^ k) = blen m + k := by
  have h := blen_join (k := k) (x := m) (r := 0) hm (Nat.pow_pos (by decide))
  rw [Nat.zero_add, Nat.mul_comm] at h
  omega
theorem right_lim (neg : Bool) {m : Nat} {x : Int} (ho : m % 2 = 1) (hl : blen m ≤ 16384) (h1 : -65536 ≤ x) (h2 : x ≤ 65536) : RightD ⟨neg, lim m, x⟩ := by
  have h0 : m ≠ 0 := by omega
  have hb := blen_pos h0
  refine ⟨⟨?_, ?_⟩, ?_, ?_, h1, h2⟩
  · show 0 < (lim m).length
    rw [lim_len]; omega
  · show (lim m).length ≤ 256
    rw [lim_len]; omega
  · intro y hy
    have hne := lim_pos h0
    have h := (lim_isLim m).2 hne
    have e : (lim m)[(lim m).length - 1]? = some ((lim m).getLast hne) := by
      rw [List.getLast_eq_getElem]
      exact List.getElem?_eq_getElem _
    have hy' : (lim m)[(lim m).length - 1]? = some y := hy
    rw [e] at hy'
    injection hy' with hy'
    rw [← hy']; exact h
  · intro y hy
    have hy' : (lim m)[0]? = some y := hy
    rw [lim_succ h0] at hy'
    injection hy' with hy'
    rw [← hy']
    unfold W64; omega
theorem cmpN_mul {t : Nat} (ht : 0 < t) (a b : Nat) : cmpN (a * t) (b * t) = cmpN a b := by
  unfold cmpN
  by_cases h1 : a < b
  · rw [if_pos h1, if_pos (Nat.mul_lt_mul_of_pos_right h1 ht)]
  · rw [if_neg h1, if_neg (fun h => h1 (Nat.lt_of_mul_lt_mul_right h))]
    by_cases h2 : b < a
    · rw [if_pos h2, if_pos (Nat.mul_lt_mul_of_pos_right h2 ht)]
    · rw [if_neg h2, if_neg (fun h => h2 (Nat.lt_of_mul_lt_mul_right h))]
theorem size_shift {m k c : Nat} (md : Int) (neg : Bool) (h : k < c) : sizeR (m * 2 ^ k) c md neg = sizeR m (c - k) md neg := by
  have hp : 0 < 2 ^ k := Nat.pow_pos (by decide)
  have e1 : 2 ^ c = 2 ^ (c - k) * 2 ^ k := by rw [← Nat.pow_add]; congr 1; omega
  have e2 : 2 ^ (c - 1) = 2 ^ (c - k - 1) * 2 ^ k := by rw [← Nat.pow_add]; congr 1; omega
  unfold sizeR
  rw [e1, e2, Nat.mul_div_mul_right _ _ hp, Nat.mul_mod_mul_right, cmpN_mul hp]
  have e3 : (0 < m % 2 ^ (c - k) * 2 ^ k) ↔ (0 < m % 2 ^ (c - k)) :=
    ⟨fun h3 => Nat.pos_of_ne_zero fun h4 => by rw [h4] at h3; omega, fun h3 => Nat.mul_pos h3 hp⟩
  simp only [e3]
theorem size_fit {m k c : Nat} (md : Int) (neg : Bool) (h : c ≤ k) : sizeR (m * 2 ^ k) c md neg = m * 2 ^ (k - c) := by
  have hp : 0 < 2 ^ c := Nat.pow_pos (by decide)
  have e1 : m * 2 ^ k = m * 2 ^ (k - c) * 2 ^ c := by rw [Nat.mul_assoc, ← Nat.pow_add]; congr 2; omega
  unfold sizeR
  rw [e1, Nat.mul_mod_left, Nat.mul_div_cancel _ hp, if_neg (fun h => absurd h.1 (by omega))]
theorem size_bounds (M c : Nat) (md : Int) (neg : Bool) : M / 2 ^ c ≤ sizeR M c md neg ∧ sizeR M c md neg ≤ M / 2 ^ c + 1 := by
  unfold sizeR
  split <;> omega
/-- the last place that is kept of M times 2^e -/
def lastR (M : Nat) (e : Int) : Int := max ((blen M : Int) + e - 53) (-1074)
theorem round_made {M : Nat} {neg : Bool} {e : Int} (md : Int) {d : DV} {c : Nat} (hM : M ≠ 0) (hd : NormD (if neg then -(M : Int) else (M : Int)) e d) (hl : blen M ≤ 16384) (he : -40000 ≤ e) (he2 : e ≤ 40000) (hc0 : 1 ≤ c) (hc : lastR M e - e = (c : Int)) :
    RoundC d md (fbits neg (sizeR M c md neg) (lastR M e) md) := by
  have hz : (if neg then -(M : Int) else (M : Int)) ≠ 0 := by cases neg <;> simp <;> omega
  have hab : (if neg then -(M : Int) else (M : Int)).natAbs = M := by cases neg <;> simp
  have hng : decide ((if neg then -(M : Int) else (M : Int)) < 0) = neg := by cases neg <;> simp <;> omega
  rcases hd with ⟨h, _⟩ | ⟨_, k, hk, rfl⟩
  · exact absurd h hz
  rw [hab] at hk ⊢
  rw [hng]
  obtain ⟨m, hm⟩ : ∃ m, m = M / 2 ^ k := ⟨_, rfl⟩
  have hMm : M = m * 2 ^ k := by
    have h1 := Nat.div_add_mod M (2 ^ k)
    rw [hk.2, Nat.add_zero, Nat.mul_comm, ← hm] at h1
    exact h1.symm
  have ho : m % 2 = 1 := by rw [hm]; exact hk.1
  have m0 : m ≠ 0 := by omega
  rw [← hm]
  have hbl : blen M = blen m + k := by rw [hMm]; exact blen_mul_pow m0 k
  have hb1 := blen_pos m0
  have hln : ln (lim m) = m := ln_dig m
  obtain ⟨L, hL⟩ : ∃ L, L = lastR M e := ⟨_, rfl⟩
  rw [← hL] at hc ⊢
  have hL' : L = max ((blen M : Int) + e - 53) (-1074) := hL
  -- the float's contract
  have hp : 0 < 2 ^ c := Nat.pow_pos (by decide)
  have hq53 : M / 2 ^ c < 2 ^ 53 := by
    refine Nat.div_lt_of_lt_mul ?_
    rw [← Nat.pow_add]
    exact Nat.lt_of_lt_of_le blen_lt (Nat.pow_le_pow_right (by decide) (by omega))
  have hq52 : L = -1074 ∨ 2 ^ 52 ≤ M / 2 ^ c := by
    by_cases h : L = -1074
    · exact .inl h
    · right
      rw [Nat.le_div_iff_mul_le hp, ← Nat.pow_add]
      exact Nat.le_trans (Nat.pow_le_pow_right (by decide) (by omega)) (blen_le hM)
  have hsb := size_bounds M c md neg
  have hF : FloatC neg (sizeR M c md neg) L md (fbits neg (sizeR M c md neg) L md) :=
    float_any neg _ L md (by omega) (by omega) (by omega) (hq52.imp id (fun h => by omega))
  generalize fbits neg (sizeR M c md neg) L md = x at hF ⊢
  intro v w hv hw
  have hR : RightD ⟨neg, lim m, e + k⟩ := right_lim neg ho (by omega) (by omega) (by omega)
  by_cases hck : k < c
  · have hs : sizeR M c md neg = sizeR (ln (lim m)) (c - k) md neg := by rw [hMm, hln]; exact size_shift md neg hck
    rw [hs] at hF
    rcases Int.lt_trichotomy ((blen M : Int) + e - 53) (-1074) with h | h | h
    · have : L = -1074 := by omega
      rw [this] at hF
      exact round_low v ⟨neg, lim m, e + k⟩ md x (c - k) w hv hR hw (by show e + k + (blen (ln (lim m)) : Int) - 53 < -1074; rw [hln]; omega) (by show -1074 - (e + k) = _; omega) (by omega) hF
    · have : L = -1074 := by omega
      rw [this] at hF
      exact round_tie v ⟨neg, lim m, e + k⟩ md x (c - k) w hv hR hw (by show e + k + (blen (ln (lim m)) : Int) - 53 = -1074; rw [hln]; omega) (by show -1074 - (e + k) = _; omega) (by omega) hF
    · exact round_cut v ⟨neg, lim m, e + k⟩ md x (c - k) L w hv hR hw (by show L = e + k + (blen (ln (lim m)) : Int) - 53; rw [hln]; omega) (by omega) (by show L - (e + k) = _; omega) (by omega) hF
  · have hs : sizeR M c md neg = ln (lim m) * 2 ^ (k - c) := by rw [hMm, hln]; exact size_fit md neg (by omega)
    rw [hs] at hF
    rcases Int.lt_trichotomy ((blen M : Int) + e - 53) (-1074) with h | h | h
    · have : L = -1074 := by omega
      rw [this] at hF
      exact round_fit_low v ⟨neg, lim m, e + k⟩ md x (k - c) w hv hR hw (by show e + k + (blen (ln (lim m)) : Int) - 53 < -1074; rw [hln]; omega) (by show e + k - -1074 = _; omega) hF
    · have : L = -1074 := by omega
      rw [this] at hF
      exact round_fit_tie v ⟨neg, lim m, e + k⟩ md x (k - c) w hv hR hw (by show e + k + (blen (ln (lim m)) : Int) - 53 = -1074; rw [hln]; omega) (by show e + k - -1074 = _; omega) hF
    · exact round_fit v ⟨neg, lim m, e + k⟩ md x (k - c) L w hv hR hw (by show L = e + k + (blen (ln (lim m)) : Int) - 53; rw [hln]; omega) (by omega) (by show e + k - L = _; omega) hF

/-- the places that are kept of N over D, and one that says whether anything is left -/
def rndB (N D : Nat) : Int := 70 + (blen D : Int) - blen N
def stk (Y E : Nat) : Nat := if Y % E = 0 then 2 * (Y / E) else 2 * (Y / E) + 1
def rndM (N D : Nat) : Nat := stk (N * 2 ^ (rndB N D).toNat) (D * 2 ^ (-rndB N D).toNat)
/-- N over D as a float -/
def rnd (neg : Bool) (N D : Nat) (md : Int) : Nat :=
  if N = 0 then 0 else fbits neg (sizeR (rndM N D) (lastR (rndM N D) (-rndB N D - 1) - (-rndB N D - 1)).toNat md neg) (lastR (rndM N D) (-rndB N D - 1)) md
theorem quot_bounds {N D : Nat} (hN : N ≠ 0) (hD : D ≠ 0) {Y E : Nat} (hY : Y = N * 2 ^ (rndB N D).toNat) (hE : E = D * 2 ^ (-rndB N D).toNat) : 2 ^ 69 ≤ Y / E ∧ Y / E < 2 ^ 71 := by
  have hE0 : 0 < E := by rw [hE]; exact Nat.mul_pos (Nat.pos_of_ne_zero hD) (Nat.pow_pos (by decide))
  have n1 := blen_le hN
  have n2 := blen_lt (N := N)
  have d1 := blen_le hD
  have d2 := blen_lt (N := D)
  have bN := blen_pos hN
  have bD := blen_pos hD
  obtain ⟨B, hB⟩ : ∃ B, B = (rndB N D).toNat := ⟨_, rfl⟩
  obtain ⟨C, hC⟩ : ∃ C, C = (-rndB N D).toNat := ⟨_, rfl⟩
  rw [← hB] at hY
  rw [← hC] at hE
  have hx : blen N + B = 70 + blen D + C := by unfold rndB at hB hC; omega
  constructor
  · rw [Nat.le_div_iff_mul_le hE0, hY, hE]
    have h1 : 2 ^ 69 * (D * 2 ^ C) ≤ 2 ^ 69 * (2 ^ blen D * 2 ^ C) := Nat.mul_le_mul_left _ (Nat.mul_le_mul_right _ (Nat.le_of_lt d2))
    have h2 : 2 ^ (blen N - 1) * 2 ^ B ≤ N * 2 ^ B := Nat.mul_le_mul_right _ n1
    have h3 : 2 ^ 69 * (2 ^ blen D * 2 ^ C) = 2 ^ (blen N - 1) * 2 ^ B := by
      rw [← Nat.pow_add, ← Nat.pow_add, ← Nat.pow_add]; congr 1; omega
    omega
  · rw [Nat.div_lt_iff_lt_mul hE0, hY, hE]
    have h1 : 2 ^ 71 * (2 ^ (blen D - 1) * 2 ^ C) ≤ 2 ^ 71 * (D * 2 ^ C) := Nat.mul_le_mul_left _ (Nat.mul_le_mul_right _ d1)
    have h2 : N * 2 ^ B < 2 ^ blen N * 2 ^ B := Nat.mul_lt_mul_of_pos_right n2 (Nat.pow_pos (by decide))
    have h3 : 2 ^ 71 * (2 ^ (blen D - 1) * 2 ^ C) = 2 ^ blen N * 2 ^ B := by
      rw [← Nat.pow_add, ← Nat.pow_add, ← Nat.pow_add]; congr 1; omega
    omega
theorem rndM_bounds {N D : Nat} (hN : N ≠ 0) (hD : D ≠ 0) : 2 ^ 70 ≤ rndM N D ∧ rndM N D < 2 ^ 72 := by
  have h := quot_bounds hN hD rfl rfl
  unfold rndM stk
  generalize N * 2 ^ (rndB N D).toNat / (D * 2 ^ (-rndB N D).toNat) = Q at h ⊢
  split <;> omega
theorem lim_short {M : Nat} (h : M < 2 ^ 72) : (lim M).length ≤ 70 := lim_len_le (Nat.lt_of_lt_of_le h (by unfold W64; decide +kernel))
theorem dig_long {M : Nat} (h : 2 ^ 70 ≤ M) : 2 ≤ (dig M).length := by
  have h1 := lt_dig_len M
  by_cases h2 : 2 ≤ (dig M).length
  · exact h2
  · have h3 : W32 ^ (dig M).length ≤ W32 ^ 1 := Nat.pow_le_pow_right (by decide) (by omega)
    have : W32 ^ 1 ≤ 2 ^ 70 := by unfold W32; decide
    omega
theorem right_zeroN {s : Bool} {ns ds : List Nat} (h : rightB ⟨s, ns, ds⟩ = true) (hl : Lds ns) (h0 : ln ns = 0) : s = false ∧ ns = [] ∧ ds = [1] := by
  unfold rightB at h
  simp only at h
  by_cases h1 : ns.length = 0
  · rw [if_pos h1] at h
    have e1 := List.eq_nil_of_length_eq_zero h1
    simp at h
    exact ⟨h.1, e1, h.2⟩
  · rw [if_neg h1] at h
    simp only [Bool.and_eq_true] at h
    exact absurd h0 (topB_ne h.1.1 hl)
theorem round_right (v : Value) (r : RV) (md : Int) (w : World) (hr : RAt w v r) (hright : rightB r = true) (hw : Laid w) :
    Calls Tryz.prog 11 #[v, .int .i8 md] w fun e w' => e = .returned (.tuple #[.float .f64 (rnd r.neg (ln r.num) (ln r.den) md), .int .i64 0]) ∧ Below w.heap.size w w' := by
  obtain ⟨s, ns, ds⟩ := r
  have hr' := hr
  obtain ⟨A, n, c, A', n', c', rfl, hx, hy, hxl, hyl⟩ := hr'
  simp only at hx hy hxl hyl ⊢
  have hl := right_len hright
  have hD := right_den hright hyl
  simp only at hl hD
  have bN : blen (ln ns) ≤ 16384 := blen_of_dig (k := 512) (Nat.le_trans (dig_ln_len hxl) (by omega))
  have bD : blen (ln ds) ≤ 16384 := blen_of_dig (k := 512) (Nat.le_trans (dig_ln_len hyl) (by omega))
  by_cases hN : ln ns = 0
  · have hz := right_zeroN hright hxl hN
    obtain ⟨rfl, rfl, rfl⟩ := hz
    have e : rnd false (ln []) (ln [1]) md = 0 := by unfold rnd; exact if_pos (show ln [] = 0 from rfl)
    rw [e]
    refine round_ratio_z _ ⟨false, [], [1]⟩ md 0 71 w hr hright hw (by decide) (by decide) (by decide) (by decide) ?_
    intro d hd
    rcases hd with ⟨_, rfl⟩ | ⟨h, _⟩
    · exact fun v w hv _ => round_zero v md w hv
    · exact absurd (by decide) h
  · have hM := rndM_bounds hN hD
    have hq := quot_bounds hN hD rfl rfl
    have hbl : blen (rndM (ln ns) (ln ds)) = 71 ∨ blen (rndM (ln ns) (ln ds)) = 72 := by
      have h1 : blen (rndM (ln ns) (ln ds)) ≤ 72 := blen_le_of_lt hM.2
      have h2 := blen_lt (N := rndM (ln ns) (ln ds))
      by_cases h3 : blen (rndM (ln ns) (ln ds)) ≤ 70
      · have := Nat.pow_le_pow_right (show 0 < 2 by decide) h3
        omega
      · omega
    have hx : rnd s (ln ns) (ln ds) md = fbits s (sizeR (rndM (ln ns) (ln ds)) (lastR (rndM (ln ns) (ln ds)) (-rndB (ln ns) (ln ds) - 1) - (-rndB (ln ns) (ln ds) - 1)).toNat md s) (lastR (rndM (ln ns) (ln ds)) (-rndB (ln ns) (ln ds) - 1)) md := by
      unfold rnd; rw [if_neg hN]
    have key : ∀ d, NormD (if s then -(rndM (ln ns) (ln ds) : Int) else (rndM (ln ns) (ln ds) : Int)) (-rndB (ln ns) (ln ds) - 1) d → RoundC d md (rnd s (ln ns) (ln ds) md) := by
      intro d hd
      rw [hx]
      have hB : -17000 ≤ rndB (ln ns) (ln ds) ∧ rndB (ln ns) (ln ds) ≤ 17000 := by unfold rndB; omega
      refine round_made md (by omega) hd (by omega) (by omega) (by omega) ?_ ?_
      · unfold lastR; omega
      · unfold lastR; omega
    have hlim := lim_short hM.2
    have hB0 : rndB (ln ns) (ln ds) = 70 + (blen (ln ds) : Int) - blen (ln ns) := rfl
    have hMdef : rndM (ln ns) (ln ds) = stk (ln ns * 2 ^ (rndB (ln ns) (ln ds)).toNat) (ln ds * 2 ^ (-rndB (ln ns) (ln ds)).toNat) := rfl
    generalize rnd s (ln ns) (ln ds) md = x at key ⊢
    generalize rndM (ln ns) (ln ds) = M at hM key hlim hMdef
    by_cases hB : 0 ≤ rndB (ln ns) (ln ds)
    · obtain ⟨B, hB'⟩ : ∃ B : Nat, rndB (ln ns) (ln ds) = (B : Int) := ⟨(rndB (ln ns) (ln ds)).toNat, by omega⟩
      rw [hB'] at key hMdef hB0 hq
      rw [show (-(B : Int)).toNat = 0 by omega, Int.toNat_natCast, Nat.pow_zero, Nat.mul_one] at hMdef hq
      unfold stk at hMdef
      by_cases hR : ln ns * 2 ^ B % ln ds = 0
      · rw [if_pos hR] at hMdef
        subst hMdef
        exact round_ratio_z _ ⟨s, ns, ds⟩ md x B w hr hright hw hB0.symm (by omega) hlim hR key
      · rw [if_neg hR] at hMdef
        subst hMdef
        exact round_ratio _ ⟨s, ns, ds⟩ md x B w hr hright hw hB0.symm (by omega) hlim hR (dig_long (by show 2 ^ 70 ≤ 2 * (ln ns * 2 ^ B / ln ds); omega)) key
    · obtain ⟨B, hB'⟩ : ∃ B : Nat, rndB (ln ns) (ln ds) = -(B : Int) := ⟨(-rndB (ln ns) (ln ds)).toNat, by omega⟩
      rw [hB'] at key hMdef hB0 hq
      rw [Int.neg_neg] at key hMdef hq
      rw [show (-(B : Int)).toNat = 0 by omega, Int.toNat_natCast, Nat.pow_zero, Nat.mul_one] at hMdef hq
      unfold stk at hMdef
      by_cases hR : ln ns % (ln ds * 2 ^ B) = 0
      · rw [if_pos hR] at hMdef
        subst hMdef
        exact round_ratio_nz _ ⟨s, ns, ds⟩ md x B w hr hright hw hB0.symm (by omega) (by omega) hlim hR key
      · rw [if_neg hR] at hMdef
        subst hMdef
        exact round_ratio_n _ ⟨s, ns, ds⟩ md x B w hr hright hw hB0.symm (by omega) (by omega) hlim hR (dig_long (by show 2 ^ 70 ≤ 2 * (ln ns / (ln ds * 2 ^ B)); omega)) key

end Go.Proofs.YtjokpfgncmdomaaGreatDoor

/- what is rounded: rungs and their values (plain) -/
namespace Go.Proofs.YtjokpfgncmdomaaGreatDoor

/-- the value of a rung of the floats above 0 (in units of the least one); rungs go on behind the greatest number -/
def Vr (g : Nat) : Nat := if g < 2 ^ 52 then g else (2 ^ 52 + g % 2 ^ 52) * 2 ^ (g / 2 ^ 52 - 1)
theorem Vr_parts {s j : Nat} (hs : s ≤ 2 ^ 53) (hn : j = 0 ∨ 2 ^ 52 ≤ s) : Vr (j * 2 ^ 52 + s) = s * 2 ^ j := by
  unfold Vr
  by_cases h : j * 2 ^ 52 + s < 2 ^ 52
  · rw [if_pos h]
    have : j = 0 := by omega
    subst this
    omega
  · rw [if_neg h]
    have h1 : 2 ^ 52 ≤ s := by omega
    by_cases h2 : s = 2 ^ 53
    · have e1 : (j * 2 ^ 52 + s) % 2 ^ 52 = 0 := by omega
      have e2 : (j * 2 ^ 52 + s) / 2 ^ 52 - 1 = j + 1 := by omega
      rw [e1, e2, h2, Nat.pow_succ]
      omega
    · have e1 : (j * 2 ^ 52 + s) % 2 ^ 52 = s - 2 ^ 52 := by omega
      have e2 : (j * 2 ^ 52 + s) / 2 ^ 52 - 1 = j := by omega
      rw [e1, e2, show 2 ^ 52 + (s - 2 ^ 52) = s by omega]
/-- each rung has its parts -/
theorem rung_has (g : Nat) : ∃ j s, g = j * 2 ^ 52 + s ∧ s < 2 ^ 53 ∧ (j = 0 ∨ 2 ^ 52 ≤ s) := by
  by_cases h : g < 2 ^ 52
  · exact ⟨0, g, by omega, by omega, .inl rfl⟩
  · exact ⟨g / 2 ^ 52 - 1, 2 ^ 52 + g % 2 ^ 52, by omega, by omega, .inr (by omega)⟩
theorem Vr_succ (g : Nat) : Vr g < Vr (g + 1) := by
  obtain ⟨j, s, rfl, h1, h2⟩ := rung_has g
  rw [Vr_parts (by omega) h2, Nat.add_assoc, Vr_parts (by omega) (by omega)]
  exact Nat.mul_lt_mul_of_pos_right (by omega) (Nat.pow_pos (by decide))
theorem Vr_lt {a b : Nat} (h : a < b) : Vr a < Vr b := by
  induction b with
  | zero => omega
  | succ b ih =>
    rcases Nat.lt_or_eq_of_le (Nat.le_of_lt_succ h) with h1 | h1
    · exact Nat.lt_trans (ih h1) (Vr_succ b)
    · rw [h1]; exact Vr_succ b
theorem Vr_le {a b : Nat} (h : a ≤ b) : Vr a ≤ Vr b := by
  rcases Nat.lt_or_eq_of_le h with h1 | h1
  · exact Nat.le_of_lt (Vr_lt h1)
  · rw [h1]; exact Nat.le_refl _
theorem cmpN_iff {a b c d : Nat} (h : cmpN a b = cmpN c d) : (a < b ↔ c < d) ∧ (b < a ↔ d < c) := by
  unfold cmpN at h
  by_cases h1 : a < b <;> by_cases h2 : b < a <;> by_cases h3 : c < d <;> by_cases h4 : d < c <;> simp [h1, h2, h3, h4] at h ⊢ <;> omega
theorem cmpN_of {a b c d : Nat} (h1 : a < b ↔ c < d) (h2 : b < a ↔ d < c) : cmpN a b = cmpN c d := by
  unfold cmpN
  simp only [h1, h2]
theorem cmp_scale (N D t a b c p j : Nat) (h : b + c + p = j + a) : cmpN (N * 2 ^ a) (t * 2 ^ b * (D * 2 ^ c)) = cmpN (N * 2 ^ p) (t * 2 ^ j * D) := by
  rw [← cmpN_mul (Nat.pow_pos (by decide) : 0 < 2 ^ p) (N * 2 ^ a), ← cmpN_mul (Nat.pow_pos (by decide) : 0 < 2 ^ a) (N * 2 ^ p)]
  have e1 : N * 2 ^ a * 2 ^ p = N * 2 ^ p * 2 ^ a := by rw [Nat.mul_right_comm]
  have e2 : t * 2 ^ b * (D * 2 ^ c) * 2 ^ p = t * 2 ^ j * D * 2 ^ a := by
    have e3 : t * 2 ^ b * (D * 2 ^ c) * 2 ^ p = t * D * 2 ^ (b + c + p) := by
      rw [Nat.pow_add, Nat.pow_add]; ac_rfl
    have e4 : t * 2 ^ j * D * 2 ^ a = t * D * 2 ^ (j + a) := by
      rw [Nat.pow_add]; ac_rfl
    rw [e3, e4, h]
  rw [e1, e2]
/-- what is told of a rung -/
def outR (neg : Bool) (md : Int) (g : Nat) : Nat := if g < 2047 * 2 ^ 52 then sw neg g else if mostB md neg = true then sw neg 9218868437227405311 else sw neg 9218868437227405312
theorem two_pow_step (n : Nat) : 2 ^ (n + 1) = 2 * 2 ^ n := Nat.pow_succ'
theorem out_if (neg : Bool) (md : Int) (a q : Nat) (P : Prop) [Decidable P] : outR neg md (a + if P then q + 1 else q) = outR neg md (if P then a + q + 1 else a + q) := by
  by_cases h : P
  · rw [if_pos h, if_pos h, Nat.add_assoc]
  · rw [if_neg h, if_neg h]
theorem stk_cmp {E : Nat} (hE : 0 < E) (Y K : Nat) : cmpN (stk Y E) (2 * K) = cmpN Y (K * E) := by
  have h := Nat.div_add_mod Y E
  have hm := Nat.mod_lt Y hE
  obtain ⟨Q, hQ⟩ : ∃ Q, Q = Y / E := ⟨_, rfl⟩
  obtain ⟨R, hR⟩ : ∃ R, R = Y % E := ⟨_, rfl⟩
  unfold stk
  rw [← hQ, ← hR] at h ⊢
  rw [← hR] at hm
  have e : Q * E = E * Q := Nat.mul_comm _ _
  apply cmpN_of
  · constructor
    · intro h1
      have h2 : Q + 1 ≤ K := by split at h1 <;> omega
      have h3 := Nat.mul_le_mul_right E h2
      rw [Nat.succ_mul] at h3
      omega
    · intro h1
      have h2 : Q < K := by
        by_cases h3 : Q < K
        · exact h3
        · have := Nat.mul_le_mul_right E (Nat.le_of_not_lt h3); omega
      split <;> omega
  · constructor
    · intro h1
      split at h1
      · have h2 : K + 1 ≤ Q := by omega
        have h3 := Nat.mul_le_mul_right E h2
        rw [Nat.succ_mul] at h3
        omega
      · have h2 : K ≤ Q := by omega
        have h3 := Nat.mul_le_mul_right E h2
        omega
    · intro h1
      have h2 : K ≤ Q := by
        by_cases h3 : K ≤ Q
        · exact h3
        · have h4 : Q + 1 ≤ K := by omega
          have h5 := Nat.mul_le_mul_right E h4
          rw [Nat.succ_mul] at h5; omega
      split
      · rename_i h3
        rcases Nat.lt_or_eq_of_le h2 with h4 | h4
        · omega
        · rw [h4] at h1; omega
      · omega

/-- the rung that is chosen of g and the next one -/
def upR (neg : Bool) (md : Int) (X D g : Nat) : Nat := if Vr g * D < X ∧ awayB md neg (cmpN (2 * X) ((Vr g + Vr (g + 1)) * D)) (decide (g % 2 = 1)) = true then g + 1 else g
theorem rnd_spec (neg : Bool) (md : Int) {N D : Nat} (hN : N ≠ 0) (hD : D ≠ 0) :
    ∃ g, Vr g * D ≤ N * 2 ^ 1074 ∧ N * 2 ^ 1074 < Vr (g + 1) * D ∧ rnd neg N D md = outR neg md (upR neg md (N * 2 ^ 1074) D g) := by
  obtain ⟨X, hX⟩ : ∃ X, X = N * 2 ^ 1074 := ⟨_, rfl⟩
  rw [← hX]
  obtain ⟨n, hn⟩ : ∃ n : Nat, n = 1074 := ⟨_, rfl⟩
  rw [← hn] at hX
  have hM := rndM_bounds hN hD
  obtain ⟨Bp, hBp⟩ : ∃ x, x = (rndB N D).toNat := ⟨_, rfl⟩
  obtain ⟨Bn, hBn⟩ : ∃ x, x = (-rndB N D).toNat := ⟨_, rfl⟩
  have hMd : rndM N D = stk (N * 2 ^ Bp) (D * 2 ^ Bn) := by rw [hBp, hBn]; rfl
  have hE : 0 < D * 2 ^ Bn := Nat.mul_pos (Nat.pos_of_ne_zero hD) (Nat.pow_pos (by decide))
  obtain ⟨M, hMM⟩ : ∃ M, M = rndM N D := ⟨_, rfl⟩
  obtain ⟨L, hL⟩ : ∃ L, L = lastR M (-rndB N D - 1) := ⟨_, rfl⟩
  obtain ⟨c, hc⟩ : ∃ c, c = (L - (-rndB N D - 1)).toNat := ⟨_, rfl⟩
  have hx : rnd neg N D md = fbits neg (sizeR M c md neg) L md := by
    unfold rnd; rw [if_neg hN, ← hMM, ← hL, ← hc]
  rw [← hMM] at hM hMd
  have hbl : 71 ≤ blen M := by
    have h2 := blen_lt (N := M)
    by_cases h3 : blen M ≤ 70
    · have := Nat.pow_le_pow_right (show 0 < 2 by decide) h3
      omega
    · omega
  have hL' : L = max ((blen M : Int) + (-rndB N D - 1) - 53) (-1074) := hL
  have hc18 : 18 ≤ c := by omega
  have hp : 0 < 2 ^ c := Nat.pow_pos (by decide)
  have hq53 : M / 2 ^ c < 2 ^ 53 := by
    refine Nat.div_lt_of_lt_mul ?_
    rw [← Nat.pow_add]
    exact Nat.lt_of_lt_of_le blen_lt (Nat.pow_le_pow_right (by decide) (by omega))
  obtain ⟨j, hj⟩ : ∃ j, j = (L + 1074).toNat := ⟨_, rfl⟩
  have hq52 : j = 0 ∨ 2 ^ 52 ≤ M / 2 ^ c := by
    by_cases h : j = 0
    · exact .inl h
    · right
      rw [Nat.le_div_iff_mul_le hp, ← Nat.pow_add]
      exact Nat.le_trans (Nat.pow_le_pow_right (by decide) (by omega)) (blen_le (by omega))
  obtain ⟨q, hq⟩ : ∃ q, q = M / 2 ^ c := ⟨_, rfl⟩
  obtain ⟨r, hr⟩ : ∃ r, r = M % 2 ^ c := ⟨_, rfl⟩
  have hMq : M = q * 2 ^ c + r := by rw [hq, hr, Nat.mul_comm]; exact (Nat.div_add_mod M (2 ^ c)).symm
  have hr2 : r < 2 ^ c := by rw [hr]; exact Nat.mod_lt _ hp
  rw [← hq] at hq53 hq52
  have v1 : Vr (j * 2 ^ 52 + q) = q * 2 ^ j := Vr_parts (by omega) hq52
  have v2 : Vr (j * 2 ^ 52 + q + 1) = (q + 1) * 2 ^ j := by rw [Nat.add_assoc]; exact Vr_parts (by omega) (by omega)
  have ec : 2 ^ c = 2 * 2 ^ (c - 1) := by rw [← Nat.pow_succ']; congr 1; omega
  have ec2 : 2 ^ (c - 1) = 2 * 2 ^ (c - 2) := by rw [← Nat.pow_succ']; congr 1; omega
  have key : ∀ s, cmpN M (s * 2 ^ c) = cmpN X (s * 2 ^ j * D) := by
    intro s
    rw [hMd, ec, show s * (2 * 2 ^ (c - 1)) = 2 * (s * 2 ^ (c - 1)) by ac_rfl, stk_cmp hE]
    rw [hX]
    exact cmp_scale N D s Bp (c - 1) Bn n j (by omega)
  have key2 : ∀ t, cmpN M (t * 2 ^ (c - 1)) = cmpN (2 * X) (t * 2 ^ j * D) := by
    intro t
    rw [hMd, ec2, show t * (2 * 2 ^ (c - 2)) = 2 * (t * 2 ^ (c - 2)) by ac_rfl, stk_cmp hE]
    rw [hX, Nat.mul_left_comm 2 N, ← two_pow_step n]
    exact cmp_scale N D t Bp (c - 2) Bn (n + 1) j (by omega)
  clear hX
  refine ⟨j * 2 ^ 52 + q, ?_, ?_, ?_⟩
  · rw [v1]
    have h := (cmpN_iff (key q)).1
    exact Nat.le_of_not_lt fun h1 => by have := h.2 h1; omega
  · rw [v2]
    have h := (cmpN_iff (key (q + 1))).1
    exact h.1 (by rw [Nat.succ_mul]; omega)
  · rw [hx]
    have hs : sizeR M c md neg = if Vr (j * 2 ^ 52 + q) * D < X ∧ awayB md neg (cmpN (2 * X) ((Vr (j * 2 ^ 52 + q) + Vr (j * 2 ^ 52 + q + 1)) * D)) (decide ((j * 2 ^ 52 + q) % 2 = 1)) = true then q + 1 else q := by
      unfold sizeR
      rw [← hq, ← hr]
      have e1 : (0 < r) ↔ (Vr (j * 2 ^ 52 + q) * D < X) := by
        rw [v1, ← (cmpN_iff (key q)).2, hMq]
        omega
      have e2 : cmpN r (2 ^ (c - 1)) = cmpN (2 * X) ((Vr (j * 2 ^ 52 + q) + Vr (j * 2 ^ 52 + q + 1)) * D) := by
        rw [v1, v2, show q * 2 ^ j + (q + 1) * 2 ^ j = (2 * q + 1) * 2 ^ j by rw [← Nat.add_mul]; congr 1; omega, ← key2]
        have e3 : (2 * q + 1) * 2 ^ (c - 1) = q * 2 ^ c + 2 ^ (c - 1) := by rw [ec, Nat.succ_mul]; congr 1; ac_rfl
        rw [e3, hMq]
        exact cmpN_of (by omega) (by omega)
      have e3 : (j * 2 ^ 52 + q) % 2 = q % 2 := by omega
      rw [e2, e3]
      simp only [e1]
    have hg : ∀ s, fbits neg s L md = outR neg md (j * 2 ^ 52 + s) := by
      intro s; unfold fbits outR; rw [hj]
    rw [hg, hs]
    exact out_if neg md _ q _
theorem floor_uniq {X D g h : Nat} (h1 : Vr g * D ≤ X) (h2 : X < Vr (g + 1) * D) (h3 : Vr h * D ≤ X) (h4 : X < Vr (h + 1) * D) : g = h := by
  rcases Nat.lt_trichotomy g h with h5 | h5 | h5
  · have := Nat.mul_le_mul_right D (Vr_le (show g + 1 ≤ h by omega)); omega
  · exact h5
  · have := Nat.mul_le_mul_right D (Vr_le (show h + 1 ≤ g by omega)); omega

end Go.Proofs.YtjokpfgncmdomaaGreatDoor

/- (*bignum.Rat).SetFloat64, ratio.Of: the walks (printed by gen_t20.py) -/
namespace Go.Proofs.YtjokpfgncmdomaaGreatDoor
open Go.RowKit Go.Sort
end Go.Proofs.YtjokpfgncmdomaaGreatDoor

/- ratio.Of, Round of right ones: the walks -/
namespace Go.Proofs.YtjokpfgncmdomaaGreatDoor
open Go.RowKit Go.Sort
/-- a number as a float -/
def rndQ (q : Rat) (md : Int) : Nat := rnd (decide (q.num < 0)) q.num.natAbs q.den md
end Go.Proofs.YtjokpfgncmdomaaGreatDoor

/- floats of rungs: their order; what the four ways of rounding tell (plain) -/
namespace Go.Proofs.YtjokpfgncmdomaaGreatDoor
open Ieee
/-- a number's size, in units of the least float -/
def unitsQ (q : Rat) : Nat := q.num.natAbs * 2 ^ 1074
/-- the two floats about a number, by size, and the nearer one -/
structure SideF (q : Rat) (neg : Bool) (lo hi n : Nat) : Prop where
  d1 : rndQ q 1 = sw neg (if neg then hi else lo)
  d2 : rndQ q 2 = sw neg (if neg then lo else hi)
  d3 : rndQ q 3 = sw neg lo
  d0 : rndQ q 0 = sw neg n
  nn : n = lo ∨ n = hi
  step : hi = lo ∨ hi = lo + 1
  lo_lt : lo < 9218868437227405312
  hi_le : hi ≤ 9218868437227405312
  sgn : neg = decide (q.num < 0)
  low : Vr lo * q.den ≤ unitsQ q
  high : hi < 9218868437227405312 → unitsQ q ≤ Vr hi * q.den
  exact : hi = lo → unitsQ q = Vr lo * q.den
  strict : hi ≠ lo → Vr lo * q.den < unitsQ q
  strictH : hi ≠ lo → hi < 9218868437227405312 → unitsQ q < Vr hi * q.den
  nearL : hi ≠ lo → hi < 9218868437227405312 → 2 * unitsQ q < (Vr lo + Vr hi) * q.den → n = lo
  nearH : hi ≠ lo → hi < 9218868437227405312 → (Vr lo + Vr hi) * q.den < 2 * unitsQ q → n = hi
end Go.Proofs.YtjokpfgncmdomaaGreatDoor

/- held together: an order: plain -/
namespace Go.Proofs.YtjokpfgncmdomaaGreatDoor
open Go.RowKit Go.Sort
end Go.Proofs.YtjokpfgncmdomaaGreatDoor

/- math.Nextafter upwards: the walk; girderlaw07.below, above, exact: the walks -/
namespace Go.Proofs.YtjokpfgncmdomaaGreatDoor
open Go.RowKit Go.Sort
end Go.Proofs.YtjokpfgncmdomaaGreatDoor

/- girderlaw07.nearer: the walk (printed by gen_y2.py) -/
namespace Go.Proofs.YtjokpfgncmdomaaGreatDoor
open Go.RowKit Go.Sort
end Go.Proofs.YtjokpfgncmdomaaGreatDoor

/- floats about a number, rounded back: plain -/
namespace Go.Proofs.YtjokpfgncmdomaaGreatDoor
open Go.RowKit Go.Sort
end Go.Proofs.YtjokpfgncmdomaaGreatDoor

/- x - x; Of of any float (printed by gen_y4.py) -/
namespace Go.Proofs.YtjokpfgncmdomaaGreatDoor
open Go.RowKit Go.Sort Ieee
end Go.Proofs.YtjokpfgncmdomaaGreatDoor

/- girderlaw07.RatioSides: the walk (printed by gen_y4.py) -/
namespace Go.Proofs.YtjokpfgncmdomaaGreatDoor
open Go.RowKit Go.Sort Ieee
end Go.Proofs.YtjokpfgncmdomaaGreatDoor

/- girderref02: low, NatTrim, digit, halves, limbs, NatOf: the walks -/
namespace Go.Proofs.YtjokpfgncmdomaaGreatDoor
open Go.RowKit Go.Sort

/-- a list of limbs (or of digits of 32 bits in cells of 64) -/
def LAt (w : World) (v : Value) (xs : List Nat) : Prop := ∃ A c, v = .slice A xs.length c ∧ xs.length ≤ c ∧ RdE Lc 1 w (fun b => b < w.heap.size) A xs.length xs
theorem LAt.below {w w' : World} {v : Value} {xs : List Nat} (h : LAt w v xs) (hb : Below w.heap.size w w') : LAt w' v xs := by
  obtain ⟨A, c, e, hc, hr⟩ := h
  exact ⟨A, c, e, hc, (hr.keep (Keeps.below hb (fun b hb => hb))).imp fun b h => Nat.lt_of_lt_of_le h hb.size⟩
theorem dig_len2 {ls : List Nat} (h : Lds ls) : (dig (ln ls)).length ≤ 2 * ls.length := dig_len_le (by
  have h1 := ln_lt h
  rw [W64_pow] at h1
  rw [W32_pow]
  refine Nat.lt_of_lt_of_le h1 (Nat.pow_le_pow_right (by decide) (by omega)))
theorem LAt.nil (w : World) (A : Option Addr) (c : Nat) : LAt w (.slice A 0 c) [] := ⟨A, c, rfl, Nat.zero_le _, RdE.nil ..⟩
theorem LAt.drawn {w : World} {v : Value} {xs : List Nat} (h : LAt w v xs) : LAt w.drew v xs := h.below ((Below.refl _ _).drew)
/-- the first k are something, what is behind is not -/
def Trim (xs : List Nat) (k : Nat) : Prop := (∀ (i x : Nat), k ≤ i → xs[i]? = some x → x = 0) ∧ (∀ x : Nat, 0 < k → xs[k - 1]? = some x → x ≠ 0)
theorem trim_last {xs : List Nat} {k : Nat} (hk : k ≤ xs.length) (h : Trim xs k) : ∀ hn : xs.take k ≠ [], (xs.take k).getLast hn ≠ 0 := by
  intro hn
  have hk0 : 0 < k := by
    rcases Nat.eq_zero_or_pos k with h0 | h0
    · subst h0; simp at hn
    · exact h0
  have e : (xs.take k)[k - 1]? = some ((xs.take k).getLast hn) := by
    rw [List.getLast_eq_getElem]
    have : (xs.take k).length = k := by rw [List.length_take]; omega
    have h2 := List.getElem?_eq_getElem (l := xs.take k) (i := (xs.take k).length - 1) (by omega)
    rw [← h2, this]
  rw [List.getElem?_take_of_lt (by omega)] at e
  exact h.2 _ hk0 e
theorem trim_dig {xs : List Nat} {k : Nat} (hk : k ≤ xs.length) (hw : Wds xs) (h : Trim xs k) : xs.take k = dig (nv xs) := by
  have e : nv xs = nv (xs.take k) := ZeroFrom.val h.1
  rw [e]
  exact dig_of_wds (hw.take k) (trim_last hk h)
theorem trim_lim {xs : List Nat} {k : Nat} (hk : k ≤ xs.length) (hw : Lds xs) (h : Trim xs k) : xs.take k = lim (ln xs) := by
  have e : ln xs = ln (xs.take k) := LZeroFrom.val h.1
  rw [e]
  exact lim_of_lds (hw.take k) (trim_last hk h)
theorem wds_lds {xs : List Nat} (h : Wds xs) : Lds xs := fun x hx => Nat.lt_trans (h x hx) (by decide)

set_option maxRecDepth 100000 in
set_option maxHeartbeats 2000000 in
theorem low_any (A : Option Addr) (n c : Nat) (xs : List Nat) (w : World) (hx : RdE Lc 1 w (fun b => b < w.heap.size) A n xs) (hl : Lds xs) (hn : n ≤ 1000000000000) (hnc : n ≤ c) :
    Calls Tryz.prog 172 #[.slice A n c] w fun e w' => ∃ k, e = .returned (.slice A k c) ∧ k ≤ n ∧ Trim xs k ∧ w = w' := by
  have HX := Lib.hid hx
  have HL := Lib.hid hl
  clear hx hl
  go_enter Tryz.func172, Tryz.ntmps172
  go_wp2_with fail
  go_loop [3] (fun i => ∃ k : Nat, k ≤ n ∧ i = .int .i64 k ∧ (∀ (i x : Nat), k ≤ i → xs[i]? = some x → x = 0)) (fun i => (intOf i).toNat)
  case atStart => exact ⟨n, Nat.le_refl _, rfl, fun i x hi hx => by rw [List.getElem?_eq_none (by rw [HX.out.num]; exact hi)] at hx; cases hx⟩
  case round =>
    obtain ⟨k, hk, rfl, hv⟩ := hrel
    have HV := Lib.hid hv
    clear hv
    by_cases h0 : k = 0
    · subst h0
      go_wp2_with fail
      go_ret
      exact ⟨0, rfl, Nat.zero_le _, ⟨HV.out, fun x h => absurd h (by decide)⟩, rfl⟩
    · obtain ⟨j, rfl⟩ : ∃ j, k = j + 1 := ⟨k - 1, by omega⟩
      obtain ⟨x, hx⟩ := get_some HX.out.num (show j < n by omega)
      obtain ⟨b, o, rfl, hSb, hc⟩ := HX.out.elem Lc.clen hx (by omega)
      have q0 : w.cell? ⟨b, o + j, none⟩ = some (.int .u64 (x : Int)) := by have h := hc 0 _ rfl; rw [Nat.mul_one, Nat.add_zero] at h; exact h
      have hxl : x < 18446744073709551616 := HL.out.get hx
      have HXX := Lib.hid hx
      clear hx hc
      by_cases hz : x = 0
      · subst hz
        go_wp2_with fail
        go_round
        case rel =>
          refine ⟨j, by omega, by go_num, fun i x hi hx => ?_⟩
          rcases Nat.lt_or_eq_of_le hi with h | h
          · exact HV.out i x h hx
          · subst h; rw [HXX.out] at hx; cases hx; rfl
        case measure => simp [intOf]
      · have hzb : ((x : Int) == 0) = false := by simp; omega
        have HZ := Lib.hid hz
        clear hz
        go_wp2_with fail
        go_ret
        refine ⟨j + 1, rfl, by omega, ⟨HV.out, fun y _ hy => ?_⟩, rfl⟩
        rw [Nat.add_sub_cancel, HXX.out] at hy
        cases hy
        exact HZ.out
set_option maxRecDepth 100000 in
set_option maxHeartbeats 2000000 in
theorem natTrim_any (v : Value) (xs : List Nat) (w : World) (h : LAt w v xs) (hl : Lds xs) (hn : xs.length ≤ 1000000000000) :
    Calls Tryz.prog 74 #[v] w fun e w' => ∃ v', e = .returned v' ∧ LAt w' v' (lim (ln xs)) ∧ Below w.heap.size w w' := by
  obtain ⟨i0, hi0, hz0, hz1, hz2⟩ := info_parts' info_u64
  obtain ⟨A, c, rfl, hnc, hx⟩ := h
  obtain ⟨n, hnn⟩ : ∃ n, n = xs.length := ⟨_, rfl⟩
  rw [← hnn] at hx hnc hn ⊢
  have HX := Lib.hid hx
  have HL := Lib.hid hl
  clear hx hl hnn
  go_enter Tryz.func74, Tryz.ntmps74
  go_wp2_with fail
  go_loop [3] (fun i => ∃ k : Nat, k ≤ n ∧ i = .int .i64 k ∧ (∀ (i x : Nat), k ≤ i → xs[i]? = some x → x = 0)) (fun i => (intOf i).toNat)
  case atStart => exact ⟨n, Nat.le_refl _, rfl, fun i x hi hx => by rw [List.getElem?_eq_none (by rw [HX.out.num]; exact hi)] at hx; cases hx⟩
  case round =>
    obtain ⟨k, hk, rfl, hv⟩ := hrel
    have HV := Lib.hid hv
    clear hv
    have fin : ∀ (k : Nat), k ≤ n → Trim xs k → ∀ (v1 : Value) (w1 : World), w1.ownsRow w.heap.size 58 1 v1 (0 + k) ([] ++ (xs.take k).flatMap Lc) → LAt w1 v1 (lim (ln xs)) := by
      intro k hk ht v1 w1 hown
      rw [Nat.zero_add, List.nil_append] at hown
      obtain ⟨A', c', rfl, hc', _⟩ := own_slice hown
      have e : k = (lim (ln xs)).length := by rw [← trim_lim (by rw [HX.out.num]; exact hk) HL.out ht, List.length_take, HX.out.num]; omega
      have hr := (RdE.of_own Lc.clen (by omega) hown).imp (S' := fun b => b < w1.heap.size) (fun b h => h.2.1)
      rw [trim_lim (by rw [HX.out.num]; exact hk) HL.out ht] at hr
      rw [e] at hr hc' ⊢
      exact ⟨A', c', rfl, hc', hr⟩
    have FIN := Lib.hid fin
    clear fin
    by_cases h0 : k = 0
    · subst h0
      have HT : Hid (Trim xs 0) := Lib.hid ⟨HV.out, fun x h => absurd h (by decide)⟩
      have hr0 := Lib.hid ((HX.out.take Lc.clen (Nat.zero_le n)).rd)
      go_wp2_with (at_builtin; go_must (refine wpList_append_rd _ rfl _ _ _ rfl w.heap.size 58 i0 _ 1 8 Tryz.underlying22 hi0 hz0 hz1 hz2 rfl (by omega) (.slice none 0 0) 0 [] rfl (World.ownsRow_nil _ _ _ _) _ A 0 c ((xs.take 0).flatMap Lc) rfl hr0.out (lc_one _) (by simp only [maxLen]; omega) (by omega) (Nat.le_refl _) ?_); intro v1 w1 hown1 hg1 hat1)
      go_ret
      exact ⟨v1, rfl, FIN.out 0 hk HT.out v1 w1 hown1, below_of_grown hg1 (by simp [Value.ownBlock])⟩
    · obtain ⟨j, rfl⟩ : ∃ j, k = j + 1 := ⟨k - 1, by omega⟩
      obtain ⟨x, hx⟩ := get_some HX.out.num (show j < n by omega)
      obtain ⟨b, o, rfl, hSb, hc⟩ := HX.out.elem Lc.clen hx (by omega)
      have q0 : w.cell? ⟨b, o + j, none⟩ = some (.int .u64 (x : Int)) := by have h := hc 0 _ rfl; rw [Nat.mul_one, Nat.add_zero] at h; exact h
      have hxl : x < 18446744073709551616 := HL.out.get hx
      have HXX := Lib.hid hx
      clear hx hc
      by_cases hz : x = 0
      · subst hz
        go_wp2_with fail
        go_round
        case rel =>
          refine ⟨j, by omega, by go_num, fun i x hi hx => ?_⟩
          rcases Nat.lt_or_eq_of_le hi with h | h
          · exact HV.out i x h hx
          · subst h; rw [HXX.out] at hx; cases hx; rfl
        case measure => simp [intOf]
      · have hzb : ((x : Int) == 0) = false := by simp; omega
        have HT : Hid (Trim xs (j + 1)) := Lib.hid ⟨HV.out, fun y _ hy => by rw [Nat.add_sub_cancel, HXX.out] at hy; cases hy; exact hz⟩
        have hr0 := Lib.hid ((HX.out.take Lc.clen hk).rd)
        clear hz
        go_wp2_with (at_builtin; go_must (refine wpList_append_rd _ rfl _ _ _ rfl w.heap.size 58 i0 _ 1 8 Tryz.underlying22 hi0 hz0 hz1 hz2 rfl (by omega) (.slice none 0 0) 0 [] rfl (World.ownsRow_nil _ _ _ _) _ (some ⟨b, o, none⟩) (j + 1) c ((xs.take (j + 1)).flatMap Lc) rfl hr0.out (lc_one _) (by simp only [maxLen]; omega) (by omega) (Nat.le_refl _) ?_); intro v1 w1 hown1 hg1 hat1)
        go_ret
        exact ⟨v1, rfl, FIN.out _ hk HT.out v1 w1 hown1, below_of_grown hg1 (by simp [Value.ownBlock])⟩

set_option maxRecDepth 100000 in
set_option maxHeartbeats 2000000 in
theorem digit_any (A : Option Addr) (n c : Nat) (xs : List Nat) (i : Nat) (S : Nat → Prop) (w : World) (hx : RdE Lc 1 w S A n xs) (hi : i ≤ 1000000000000) (hn : n ≤ 1000000000000) :
    Calls Tryz.prog 156 #[.slice A n c, .int .i64 (i : Int)] w fun e w' => e = .returned (.int .u64 ((xs.getD i 0 : Nat) : Int)) ∧ w = w' := by
  by_cases h : i < n
  · obtain ⟨x, hxx⟩ := get_some hx.num h
    obtain ⟨b, o, rfl, hSb, hc⟩ := hx.elem Lc.clen hxx (by omega)
    have q0 : w.cell? ⟨b, o + i, none⟩ = some (.int .u64 (x : Int)) := by have h := hc 0 _ rfl; rw [Nat.mul_one, Nat.add_zero] at h; exact h
    have HE : Hid (xs.getD i 0 = x) := Lib.hid (by simp [List.getD, hxx])
    clear hx hxx hc
    go_enter Tryz.func156, Tryz.ntmps156
    go_wp2_with fail
    go_ret
    exact ⟨by rw [HE.out]; rfl, rfl⟩
  · have HE : Hid (xs.getD i 0 = 0) := Lib.hid (by simp [List.getD, List.getElem?_eq_none (show xs.length ≤ i by rw [hx.num]; omega)])
    clear hx
    go_enter Tryz.func156, Tryz.ntmps156
    go_wp2_with fail
    go_ret
    exact ⟨by rw [HE.out]; rfl, rfl⟩

set_option maxRecDepth 100000 in
set_option maxHeartbeats 2000000 in
theorem halves_any (v : Value) (xs : List Nat) (w : World) (h : LAt w v xs) (hl : Lds xs) (hn : xs.length ≤ 100000000000) :
    Calls Tryz.prog 152 #[v] w fun e w' => ∃ v', e = .returned v' ∧ LAt w' v' (dig (ln xs)) ∧ Below w.heap.size w w' := by
  obtain ⟨i0, hi0, hz0, hz1, hz2⟩ := info_parts' info_u64
  obtain ⟨A, c, rfl, hnc, hx⟩ := h
  obtain ⟨n, hnn⟩ : ∃ n, n = xs.length := ⟨_, rfl⟩
  rw [← hnn] at hx hnc hn ⊢
  have HX := Lib.hid hx
  have HL := Lib.hid hl
  clear hx hl
  have NN := Lib.hid hnn
  clear hnn
  go_enter Tryz.func152, Tryz.ntmps152
  go_wp2_with fail
  go_loopw [3, 4] (fun ov iv wr => ∃ k : Nat, k ≤ n ∧ iv = .int .i64 k ∧ wr.ownsRow w.heap.size 58 1 ov (2 * k) ((hv (xs.take k)).flatMap Lc) ∧ Below w.heap.size w wr) (fun _ iv _ => n - (intOf iv).toNat)
  case atStart => exact ⟨0, Nat.zero_le _, rfl, World.ownsRow_nil .., Below.refl _ _⟩
  case round =>
    obtain ⟨k, hk, rfl, hown, hbw⟩ := hrel
    by_cases hlt : k < n
    · obtain ⟨x, hx⟩ := get_some HX.out.num hlt
      obtain ⟨b, o, rfl, hSb, hc⟩ := HX.out.elem Lc.clen hx (by omega)
      have q0 : wr.cell? ⟨b, o + k, none⟩ = some (.int .u64 (x : Int)) := by have h := (hbw.cell (p := ⟨b, _, none⟩) hSb).trans (hc 0 _ rfl); rw [Nat.mul_one, Nat.add_zero] at h; exact h
      have hxl : x < 18446744073709551616 := HL.out.get hx
      have HXX := Lib.hid hx
      have HO := Lib.hid hown
      have HB := Lib.hid hbw
      clear hx hc hown hbw
      have n0 := cell_regrown q0
      go_wp2_with fail
      refine wp_region_early_below [0] [1, 2, 3, 4, 5, 6, 7, 8, 9, 10] 11 (by kernel_rfl) (by kernel_rfl) (fun _ _ d _ _ h => by cases d <;> exact h) ?_
      simp only [pick, early, List.filterMap_cons, List.filterMap_nil, List.getElem?_cons_succ, List.getElem?_cons_zero, List.size_toArray, List.getElem?_toArray]
      repeat (first | go_big_quiet_step (fail) | quiet_step (fail))
      refine wpQuiet_nil ?_
      intro wq hwq
      have hbq := below_class hwq
      clear hwq n0
      obtain ⟨A3, c3, rfl, hc3, _⟩ := own_slice HO.out
      have hoA := (own_below HO.out hbq).alloc (.cells #[Value.int .u64 ((x : Int) % 4294967296), Value.int .u64 ((x : Int) / 4294967296)] 58)
      have HOA := Lib.hid hoA
      have HBQ := Lib.hid (HB.out.trans (hbq.mono HB.out.size))
      clear hoA hbq
      go_wp2_with (at_builtin; go_must (refine wpList_append_rd _ rfl _ _ _ rfl w.heap.size 58 i0 _ 1 8 Tryz.underlying22 hi0 hz0 hz1 hz2 rfl (by omega) (.slice A3 (2 * k) c3) (2 * k) ((hv (xs.take k)).flatMap Lc) rfl HOA.out (fun _ => True) (some ⟨wq.heap.size, 0, none⟩) 2 2 [.int .u64 ((x : Int) % 4294967296), .int .u64 ((x : Int) / 4294967296)] rfl (rd_blk (blk_new ..) rfl trivial) (by simp [Value.oneCell']) (by simp only [maxLen]; omega) (by omega) (by have := HBQ.out.size; simp; omega) ?_); intro v2 w4 hown4 hg4 hat4)
      have hle : (hv (xs.take k)).flatMap Lc ++ [.int .u64 ((x : Int) % 4294967296), .int .u64 ((x : Int) / 4294967296)] = (hv (xs.take (k + 1))).flatMap Lc := by
        have e : xs.take (k + 1) = xs.take k ++ [x] := by
          obtain ⟨hl, e⟩ := List.getElem?_eq_some_iff.1 HXX.out
          rw [List.take_succ_eq_append_getElem hl, e]
        rw [e, hv_snoc, List.flatMap_append]
        rfl
      rw [hle] at hown4
      have HO4 := Lib.hid hown4
      have HB4 := Lib.hid ((HBQ.out.alloc HBQ.out.size _).grown hg4 (by have := HBQ.out.size; simp; omega) (fun g hg => (HOA.out.lt g hg).1))
      clear hown4 hg4 hle hat4
      first
      | (go_roundw
         case rel => exact ⟨k + 1, by omega, by go_num, HO4.out, HB4.out⟩
         case measure => simp [intOf]; omega)
      | refine ⟨⟨k + 1, by omega, by go_num, HO4.out, HB4.out⟩, by simp [intOf]; omega⟩
    · obtain rfl : n = k := by omega
      have HO := Lib.hid hown
      have HB := Lib.hid hbw
      obtain ⟨A3, c3, rfl, hc3, _⟩ := own_slice hown
      have e : xs.take n = xs := List.take_of_length_le (by rw [HX.out.num]; exact Nat.le_refl _)
      have hr := (RdE.of_own Lc.clen (by omega) hown).imp (S' := fun b => b < wr.heap.size) (fun b h => h.2.1)
      rw [e] at hr
      have HR := Lib.hid hr
      have hlw := hv_wds HL.out
      have HLW := Lib.hid hlw
      clear hown hbw hr e hlw
      go_wp2_with fail
      refine (low_any A3 (2 * n) c3 (hv xs) _ HR.out (wds_lds HLW.out) (by omega) hc3).mono ?_
      rintro e w' ⟨k, rfl, hk2, ht, rfl⟩
      have htk := trim_dig (by rw [HR.out.num]; exact hk2) HLW.out ht
      rw [nv_hv] at htk
      have e : k = (dig (ln xs)).length := by rw [← htk, List.length_take, HR.out.num]; omega
      have hr2 := HR.out.take Lc.clen hk2
      rw [htk] at hr2
      have HR2 := Lib.hid hr2
      have HE := Lib.hid e
      clear hr2 ht htk e
      go_wp2_with fail
      go_ret
      refine ⟨_, rfl, ⟨A3, c3, ?_, ?_, ?_⟩, HB.out⟩
      · rw [← HE.out]; rfl
      · rw [← HE.out]; omega
      · rw [← HE.out]; exact HR2.out

end Go.Proofs.YtjokpfgncmdomaaGreatDoor

/- girderref02: limbs, NatOf, NatAdd: the walks -/
namespace Go.Proofs.YtjokpfgncmdomaaGreatDoor
open Go.RowKit Go.Sort

theorem lb_append : ∀ (a b : List Nat), a.length % 2 = 0 → lb (a ++ b) = lb a ++ lb b
  | [], b, _ => rfl
  | [x], b, h => by simp at h
  | x :: y :: r, b, h => by
    have h2 : r.length % 2 = 0 := by simp only [List.length_cons] at h; omega
    show lb (x :: y :: (r ++ b)) = lb (x :: y :: r) ++ lb b
    rw [lb, lb, lb_append r b h2]
    rfl
theorem lb_two {xs : List Nat} {j x y : Nat} (hx : xs[2 * j]? = some x) (hy : xs[2 * j + 1]? = some y) : lb (xs.take (2 * (j + 1))) = lb (xs.take (2 * j)) ++ [x + W32 * y] := by
  obtain ⟨h1, e1⟩ := List.getElem?_eq_some_iff.1 hx
  obtain ⟨h2, e2⟩ := List.getElem?_eq_some_iff.1 hy
  have e : xs.take (2 * (j + 1)) = xs.take (2 * j) ++ [x, y] := by
    rw [show 2 * (j + 1) = 2 * j + 1 + 1 by omega, List.take_succ_eq_append_getElem h2, e2, List.take_succ_eq_append_getElem h1, e1, List.append_assoc]
    rfl
  rw [e, lb_append _ _ (by rw [List.length_take]; omega)]
  rfl
theorem lb_one {xs : List Nat} {j x : Nat} (hx : xs[2 * j]? = some x) (hl : xs.length = 2 * j + 1) : lb xs = lb (xs.take (2 * j)) ++ [x] := by
  obtain ⟨h1, e1⟩ := List.getElem?_eq_some_iff.1 hx
  have e : xs = xs.take (2 * j) ++ [x] := by
    have h := List.take_succ_eq_append_getElem h1
    rw [e1, List.take_of_length_le (by omega)] at h
    exact h
  have h2 := lb_append (xs.take (2 * j)) [x] (by rw [List.length_take]; omega)
  rw [← e] at h2
  exact h2
theorem own_lat {w : World} {base n : Nat} {v : Value} {xs : List Nat} (h : w.ownsRow base 58 1 v n (xs.flatMap Lc)) : LAt w v xs := by
  have hn := own_num Lc.clen (by omega) h
  obtain ⟨A, c, rfl, hc, _⟩ := own_slice h
  have hr := (RdE.of_own Lc.clen (by omega) h).imp (S' := fun b => b < w.heap.size) (fun b h => h.2.1)
  rw [← hn] at hr hc ⊢
  exact ⟨A, c, rfl, hc, hr⟩

set_option maxRecDepth 100000 in
set_option maxHeartbeats 4000000 in
theorem limbs_any (v : Value) (xs : List Nat) (w : World) (h : LAt w v xs) (hl : Wds xs) (hn : xs.length ≤ 100000000000) :
    Calls Tryz.prog 153 #[v] w fun e w' => ∃ v', e = .returned v' ∧ LAt w' v' (lim (nv xs)) ∧ Below w.heap.size w w' := by
  obtain ⟨i0, hi0, hz0, hz1, hz2⟩ := info_parts' info_u64
  obtain ⟨A, c, rfl, hnc, hx⟩ := h
  obtain ⟨n, hnn⟩ : ∃ n, n = xs.length := ⟨_, rfl⟩
  rw [← hnn] at hx hnc hn ⊢
  have HX := Lib.hid hx
  have HL := Lib.hid hl
  have NN := Lib.hid hnn
  clear hx hl hnn
  go_enter Tryz.func153, Tryz.ntmps153
  go_wp2_with fail
  go_loopw [3, 4] (fun ov iv wr => ∃ k : Nat, 2 * k ≤ n + 1 ∧ iv = .int .i64 ((2 * k : Nat) : Int) ∧ wr.ownsRow w.heap.size 58 1 ov k ((lb (xs.take (2 * k))).flatMap Lc) ∧ Below w.heap.size w wr) (fun _ iv _ => n + 2 - (intOf iv).toNat)
  case atStart => exact ⟨0, by omega, rfl, World.ownsRow_nil .., Below.refl _ _⟩
  case round =>
    obtain ⟨k, hk, rfl, hown, hbw⟩ := hrel
    obtain ⟨i, hi⟩ : ∃ i, i = 2 * k := ⟨_, rfl⟩
    rw [← hi] at hown hk ⊢
    have HI := Lib.hid hi
    clear hi
    by_cases hlt : i < n
    · obtain ⟨x, hx⟩ := get_some HX.out.num hlt
      obtain ⟨b, o, rfl, hSb, hc⟩ := HX.out.elem Lc.clen hx (by omega)
      have q0 : wr.cell? ⟨b, o + i, none⟩ = some (.int .u64 (x : Int)) := by have h := (hbw.cell (p := ⟨b, _, none⟩) hSb).trans (hc 0 _ rfl); rw [Nat.mul_one, Nat.add_zero] at h; exact h
      have hxl : x < 4294967296 := HL.out.get hx
      have HXX := Lib.hid hx
      have HO := Lib.hid hown
      have HB := Lib.hid hbw
      obtain ⟨A3, c3, rfl, hc3, _⟩ := own_slice hown
      have hkb : k ≤ 100000000000 := by have := HI.out; omega
      clear hx hc hown hbw
      by_cases hlt2 : i + 1 < n
      · obtain ⟨y, hy⟩ := get_some HX.out.num hlt2
        obtain ⟨b', o', e', _, hc'⟩ := HX.out.elem Lc.clen hy (by omega)
        cases e'
        have q1 : wr.cell? ⟨b, o + (i + 1), none⟩ = some (.int .u64 (y : Int)) := by have h := (HB.out.cell (p := ⟨b, _, none⟩) hSb).trans (hc' 0 _ rfl); rw [Nat.mul_one, Nat.add_zero] at h; exact h
        have hyl : y < 4294967296 := HL.out.get hy
        have HYY := Lib.hid hy
        obtain ⟨z, hz⟩ : ∃ z : Nat, z = x + 4294967296 * y := ⟨_, rfl⟩
        have hze : (x : Int) + 4294967296 * (y : Int) = (z : Int) := by omega
        have HZ := Lib.hid hz
        clear hy hc' hz
        have hoA := HO.out.alloc (.cells #[Value.int .u64 (z : Int)] 58)
        have HOA := Lib.hid hoA
        clear hoA
        go_wp2_with (at_builtin; go_must (refine wpList_append_rd _ rfl _ _ _ rfl w.heap.size 58 i0 _ 1 8 Tryz.underlying22 hi0 hz0 hz1 hz2 rfl (by omega) (.slice A3 k c3) k ((lb (xs.take i)).flatMap Lc) rfl HOA.out (fun _ => True) (some ⟨wr.heap.size, 0, none⟩) 1 1 [.int .u64 (z : Int)] rfl (rd_blk (blk_new ..) rfl trivial) (by simp [Value.oneCell']) (by simp only [maxLen]; omega) (by omega) (by have := HB.out.size; simp; omega) ?_); intro v2 w4 hown4 hg4 hat4)
        have hle : (lb (xs.take i)).flatMap Lc ++ [.int .u64 (z : Int)] = (lb (xs.take (2 * (k + 1)))).flatMap Lc := by
          have h1 := HXX.out
          have h2 := HYY.out
          rw [HI.out] at h1 h2 ⊢
          rw [lb_two h1 h2, List.flatMap_append, HZ.out]
          rfl
        rw [hle] at hown4
        have HO4 := Lib.hid hown4
        have HB4 := Lib.hid ((HB.out.alloc HB.out.size (.cells #[Value.int .u64 (z : Int)] 58)).grown hg4 (by have := HB.out.size; simp; omega) (fun g hg => (HOA.out.lt g hg).1))
        clear hown4 hg4 hle hat4
        go_wp2_with fail
        refine ⟨⟨k + 1, by have := HI.out; omega, ?_, HO4.out, HB4.out⟩, by simp [intOf]; omega⟩
        rw [HI.out]; go_num
      · have hnx : ¬ i + 1 < n := by omega
        have hoA := HO.out.alloc (.cells #[Value.int .u64 (x : Int)] 58)
        have HOA := Lib.hid hoA
        clear hoA
        go_wp2_with (at_builtin; go_must (refine wpList_append_rd _ rfl _ _ _ rfl w.heap.size 58 i0 _ 1 8 Tryz.underlying22 hi0 hz0 hz1 hz2 rfl (by omega) (.slice A3 k c3) k ((lb (xs.take i)).flatMap Lc) rfl HOA.out (fun _ => True) (some ⟨wr.heap.size, 0, none⟩) 1 1 [.int .u64 (x : Int)] rfl (rd_blk (blk_new ..) rfl trivial) (by simp [Value.oneCell']) (by simp only [maxLen]; omega) (by omega) (by have := HB.out.size; simp; omega) ?_); intro v2 w4 hown4 hg4 hat4)
        have hle : (lb (xs.take i)).flatMap Lc ++ [.int .u64 (x : Int)] = (lb (xs.take (2 * (k + 1)))).flatMap Lc := by
          have h1 := HXX.out
          have h3 := HX.out.num
          rw [HI.out] at h1 ⊢
          rw [List.take_of_length_le (i := 2 * (k + 1)) (by have := HI.out; omega), lb_one h1 (by have := HI.out; omega), List.flatMap_append]
          rfl
        rw [hle] at hown4
        have HO4 := Lib.hid hown4
        have HB4 := Lib.hid ((HB.out.alloc HB.out.size (.cells #[Value.int .u64 (x : Int)] 58)).grown hg4 (by have := HB.out.size; simp; omega) (fun g hg => (HOA.out.lt g hg).1))
        clear hown4 hg4 hle hat4
        go_wp2_with fail
        refine ⟨⟨k + 1, by have := HI.out; omega, ?_, HO4.out, HB4.out⟩, by simp [intOf]; omega⟩
        rw [HI.out]; go_num
    · have HB := Lib.hid hbw
      have e : xs.take i = xs := List.take_of_length_le (by rw [HX.out.num]; omega)
      rw [e] at hown
      have HLa := Lib.hid (own_lat hown)
      have hll : (lb xs).length ≤ 100000000000 := by
        have := own_num Lc.clen (by omega) hown
        have := HI.out
        omega
      have HLD := Lib.hid (lb_lds HL.out)
      clear hown hbw e
      go_wp2_with fail
      refine (natTrim_any _ (lb xs) _ HLa.out HLD.out (by omega)).mono ?_
      rintro e w1 ⟨v1, rfl, hv1, hb1⟩
      rw [ln_lb] at hv1
      have HV1 := Lib.hid hv1
      have HB1 := Lib.hid (HB.out.trans (hb1.mono HB.out.size))
      clear hv1 hb1
      go_wp2_with fail
      go_ret
      exact ⟨_, rfl, HV1.out, HB1.out⟩

set_option maxRecDepth 100000 in
set_option maxHeartbeats 2000000 in
theorem natOf_any (x : Nat) (w : World) (hx : x < 18446744073709551616) :
    Calls Tryz.prog 124 #[.int .u64 (x : Int)] w fun e w' => ∃ v', e = .returned v' ∧ LAt w' v' (lim x) ∧ Below w.heap.size w w' := by
  have hr : LAt (w.alloc (.cells #[.int .u64 (x : Int)] 58)) (.slice (some ⟨w.heap.size, 0, none⟩) 1 1) [x] :=
    ⟨some ⟨w.heap.size, 0, none⟩, 1, rfl, Nat.le_refl _, rde_blk (blk_new ..) rfl (by simp) rfl rfl⟩
  have HR := Lib.hid hr
  have HX := Lib.hid hx
  clear hr hx
  go_enter Tryz.func124, Tryz.ntmps124
  go_wp2_with fail
  refine (natTrim_any _ [x] _ HR.out (fun y hy => by simp at hy; subst hy; exact HX.out) (by simp)).mono ?_
  rintro e w1 ⟨v1, rfl, hv1, hb1⟩
  have e : ln [x] = x := by simp [ln]
  rw [e] at hv1
  have HV1 := Lib.hid hv1
  have HB1 := Lib.hid (below_then (below1 w _) hb1)
  clear hv1 hb1 e
  go_wp2_with fail
  go_ret
  exact ⟨_, rfl, HV1.out, HB1.out⟩

end Go.Proofs.YtjokpfgncmdomaaGreatDoor
