import Derived.Test.YtjokpfgncmdomaaGreatDoorX23
set_option linter.unusedSimpArgs false
set_option linter.unusedVariables false
/- dyad.Round of what was made right; ratio.Round of any right ratio -/
namespace Go.Proofs.YtjokpfgncmdomaaGreatDoor
open Go.RowKit Go.Sort

theorem blen_mul_pow {m : Nat} (hm : m ≠ 0) (k : Nat) : blen (m * 2 ^ k) = blen m + k := by
  have h := blen_join (k := k) (x := m) (r := 0) hm (Nat.pow_pos (by decide))
  rw [Nat.zero_add, Nat.mul_comm] at h
  omega
theorem right_lim (neg : Bool) {m : Nat} {x : Int} (ho : m % 2 = 1) (hl : blen m ≤ 16384) (h1 : -65536 ≤ x) (h2 : x ≤ 65536) : RightD ⟨neg, lim m, x⟩ := by
  have h0 : m ≠ 0 := by omega
  have hb := blen_pos h0
  refine ⟨⟨?_, ?_⟩, ?_, ?_, h1, h2⟩
  · show 0 < (lim m).length
    rw [lim_len]; omega
  · show (lim m).length ≤ 256
    rw [lim_len]; omega
  · intro y hy
    have hne := lim_pos h0
    have h := (lim_isLim m).2 hne
    have e : (lim m)[(lim m).length - 1]? = some ((lim m).getLast hne) := by
      rw [List.getLast_eq_getElem]
      exact List.getElem?_eq_getElem _
    have hy' : (lim m)[(lim m).length - 1]? = some y := hy
    rw [e] at hy'
    injection hy' with hy'
    rw [← hy']; exact h
  · intro y hy
    have hy' : (lim m)[0]? = some y := hy
    rw [lim_succ h0] at hy'
    injection hy' with hy'
    rw [← hy']
    unfold W64; omega
theorem cmpN_mul {t : Nat} (ht : 0 < t) (a b : Nat) : cmpN (a * t) (b * t) = cmpN a b := by
  unfold cmpN
  by_cases h1 : a < b
  · rw [if_pos h1, if_pos (Nat.mul_lt_mul_of_pos_right h1 ht)]
  · rw [if_neg h1, if_neg (fun h => h1 (Nat.lt_of_mul_lt_mul_right h))]
    by_cases h2 : b < a
    · rw [if_pos h2, if_pos (Nat.mul_lt_mul_of_pos_right h2 ht)]
    · rw [if_neg h2, if_neg (fun h => h2 (Nat.lt_of_mul_lt_mul_right h))]
theorem size_shift {m k c : Nat} (md : Int) (neg : Bool) (h : k < c) : sizeR (m * 2 ^ k) c md neg = sizeR m (c - k) md neg := by
  have hp : 0 < 2 ^ k := Nat.pow_pos (by decide)
  have e1 : 2 ^ c = 2 ^ (c - k) * 2 ^ k := by rw [← Nat.pow_add]; congr 1; omega
  have e2 : 2 ^ (c - 1) = 2 ^ (c - k - 1) * 2 ^ k := by rw [← Nat.pow_add]; congr 1; omega
  unfold sizeR
  rw [e1, e2, Nat.mul_div_mul_right _ _ hp, Nat.mul_mod_mul_right, cmpN_mul hp]
  have e3 : (0 < m % 2 ^ (c - k) * 2 ^ k) ↔ (0 < m % 2 ^ (c - k)) :=
    ⟨fun h3 => Nat.pos_of_ne_zero fun h4 => by rw [h4] at h3; omega, fun h3 => Nat.mul_pos h3 hp⟩
  simp only [e3]
theorem size_fit {m k c : Nat} (md : Int) (neg : Bool) (h : c ≤ k) : sizeR (m * 2 ^ k) c md neg = m * 2 ^ (k - c) := by
  have hp : 0 < 2 ^ c := Nat.pow_pos (by decide)
  have e1 : m * 2 ^ k = m * 2 ^ (k - c) * 2 ^ c := by rw [Nat.mul_assoc, ← Nat.pow_add]; congr 2; omega
  unfold sizeR
  rw [e1, Nat.mul_mod_left, Nat.mul_div_cancel _ hp, if_neg (fun h => absurd h.1 (by omega))]
theorem size_bounds (M c : Nat) (md : Int) (neg : Bool) : M / 2 ^ c ≤ sizeR M c md neg ∧ sizeR M c md neg ≤ M / 2 ^ c + 1 := by
  unfold sizeR
  split <;> omega
/-- the last place that is kept of M times 2^e -/
def lastR (M : Nat) (e : Int) : Int := max ((blen M : Int) + e - 53) (-1074)
theorem round_made {M : Nat} {neg : Bool} {e : Int} (md : Int) {d : DV} {c : Nat} (hM : M ≠ 0) (hd : NormD (if neg then -(M : Int) else (M : Int)) e d) (hl : blen M ≤ 16384) (he : -40000 ≤ e) (he2 : e ≤ 40000) (hc0 : 1 ≤ c) (hc : lastR M e - e = (c : Int)) :
    RoundC d md (fbits neg (sizeR M c md neg) (lastR M e) md) := by
  have hz : (if neg then -(M : Int) else (M : Int)) ≠ 0 := by cases neg <;> simp <;> omega
  have hab : (if neg then -(M : Int) else (M : Int)).natAbs = M := by cases neg <;> simp
  have hng : decide ((if neg then -(M : Int) else (M : Int)) < 0) = neg := by cases neg <;> simp <;> omega
  rcases hd with ⟨h, _⟩ | ⟨_, k, hk, rfl⟩
  · exact absurd h hz
  rw [hab] at hk ⊢
  rw [hng]
  obtain ⟨m, hm⟩ : ∃ m, m = M / 2 ^ k := ⟨_, rfl⟩
  have hMm : M = m * 2 ^ k := by
    have h1 := Nat.div_add_mod M (2 ^ k)
    rw [hk.2, Nat.add_zero, Nat.mul_comm, ← hm] at h1
    exact h1.symm
  have ho : m % 2 = 1 := by rw [hm]; exact hk.1
  have m0 : m ≠ 0 := by omega
  rw [← hm]
  have hbl : blen M = blen m + k := by rw [hMm]; exact blen_mul_pow m0 k
  have hb1 := blen_pos m0
  have hln : ln (lim m) = m := ln_dig m
  obtain ⟨L, hL⟩ : ∃ L, L = lastR M e := ⟨_, rfl⟩
  rw [← hL] at hc ⊢
  have hL' : L = max ((blen M : Int) + e - 53) (-1074) := hL
  -- the float's contract
  have hp : 0 < 2 ^ c := Nat.pow_pos (by decide)
  have hq53 : M / 2 ^ c < 2 ^ 53 := by
    refine Nat.div_lt_of_lt_mul ?_
    rw [← Nat.pow_add]
    exact Nat.lt_of_lt_of_le blen_lt (Nat.pow_le_pow_right (by decide) (by omega))
  have hq52 : L = -1074 ∨ 2 ^ 52 ≤ M / 2 ^ c := by
    by_cases h : L = -1074
    · exact .inl h
    · right
      rw [Nat.le_div_iff_mul_le hp, ← Nat.pow_add]
      exact Nat.le_trans (Nat.pow_le_pow_right (by decide) (by omega)) (blen_le hM)
  have hsb := size_bounds M c md neg
  have hF : FloatC neg (sizeR M c md neg) L md (fbits neg (sizeR M c md neg) L md) :=
    float_any neg _ L md (by omega) (by omega) (by omega) (hq52.imp id (fun h => by omega))
  generalize fbits neg (sizeR M c md neg) L md = x at hF ⊢
  intro v w hv hw
  have hR : RightD ⟨neg, lim m, e + k⟩ := right_lim neg ho (by omega) (by omega) (by omega)
  by_cases hck : k < c
  · have hs : sizeR M c md neg = sizeR (ln (lim m)) (c - k) md neg := by rw [hMm, hln]; exact size_shift md neg hck
    rw [hs] at hF
    rcases Int.lt_trichotomy ((blen M : Int) + e - 53) (-1074) with h | h | h
    · have : L = -1074 := by omega
      rw [this] at hF
      exact round_low v ⟨neg, lim m, e + k⟩ md x (c - k) w hv hR hw (by show e + k + (blen (ln (lim m)) : Int) - 53 < -1074; rw [hln]; omega) (by show -1074 - (e + k) = _; omega) (by omega) hF
    · have : L = -1074 := by omega
      rw [this] at hF
      exact round_tie v ⟨neg, lim m, e + k⟩ md x (c - k) w hv hR hw (by show e + k + (blen (ln (lim m)) : Int) - 53 = -1074; rw [hln]; omega) (by show -1074 - (e + k) = _; omega) (by omega) hF
    · exact round_cut v ⟨neg, lim m, e + k⟩ md x (c - k) L w hv hR hw (by show L = e + k + (blen (ln (lim m)) : Int) - 53; rw [hln]; omega) (by omega) (by show L - (e + k) = _; omega) (by omega) hF
  · have hs : sizeR M c md neg = ln (lim m) * 2 ^ (k - c) := by rw [hMm, hln]; exact size_fit md neg (by omega)
    rw [hs] at hF
    rcases Int.lt_trichotomy ((blen M : Int) + e - 53) (-1074) with h | h | h
    · have : L = -1074 := by omega
      rw [this] at hF
      exact round_fit_low v ⟨neg, lim m, e + k⟩ md x (k - c) w hv hR hw (by show e + k + (blen (ln (lim m)) : Int) - 53 < -1074; rw [hln]; omega) (by show e + k - -1074 = _; omega) hF
    · have : L = -1074 := by omega
      rw [this] at hF
      exact round_fit_tie v ⟨neg, lim m, e + k⟩ md x (k - c) w hv hR hw (by show e + k + (blen (ln (lim m)) : Int) - 53 = -1074; rw [hln]; omega) (by show e + k - -1074 = _; omega) hF
    · exact round_fit v ⟨neg, lim m, e + k⟩ md x (k - c) L w hv hR hw (by show L = e + k + (blen (ln (lim m)) : Int) - 53; rw [hln]; omega) (by omega) (by show e + k - L = _; omega) hF

/-- the places that are kept of N over D, and one that says whether anything is left -/
def rndB (N D : Nat) : Int := 70 + (blen D : Int) - blen N
def stk (Y E : Nat) : Nat := if Y % E = 0 then 2 * (Y / E) else 2 * (Y / E) + 1
def rndM (N D : Nat) : Nat := stk (N * 2 ^ (rndB N D).toNat) (D * 2 ^ (-rndB N D).toNat)
/-- N over D as a float -/
def rnd (neg : Bool) (N D : Nat) (md : Int) : Nat :=
  if N = 0 then 0 else fbits neg (sizeR (rndM N D) (lastR (rndM N D) (-rndB N D - 1) - (-rndB N D - 1)).toNat md neg) (lastR (rndM N D) (-rndB N D - 1)) md
theorem quot_bounds {N D : Nat} (hN : N ≠ 0) (hD : D ≠ 0) {Y E : Nat} (hY : Y = N * 2 ^ (rndB N D).toNat) (hE : E = D * 2 ^ (-rndB N D).toNat) : 2 ^ 69 ≤ Y / E ∧ Y / E < 2 ^ 71 := by
  have hE0 : 0 < E := by rw [hE]; exact Nat.mul_pos (Nat.pos_of_ne_zero hD) (Nat.pow_pos (by decide))
  have n1 := blen_le hN
  have n2 := blen_lt (N := N)
  have d1 := blen_le hD
  have d2 := blen_lt (N := D)
  have bN := blen_pos hN
  have bD := blen_pos hD
  obtain ⟨B, hB⟩ : ∃ B, B = (rndB N D).toNat := ⟨_, rfl⟩
  obtain ⟨C, hC⟩ : ∃ C, C = (-rndB N D).toNat := ⟨_, rfl⟩
  rw [← hB] at hY
  rw [← hC] at hE
  have hx : blen N + B = 70 + blen D + C := by unfold rndB at hB hC; omega
  constructor
  · rw [Nat.le_div_iff_mul_le hE0, hY, hE]
    have h1 : 2 ^ 69 * (D * 2 ^ C) ≤ 2 ^ 69 * (2 ^ blen D * 2 ^ C) := Nat.mul_le_mul_left _ (Nat.mul_le_mul_right _ (Nat.le_of_lt d2))
    have h2 : 2 ^ (blen N - 1) * 2 ^ B ≤ N * 2 ^ B := Nat.mul_le_mul_right _ n1
    have h3 : 2 ^ 69 * (2 ^ blen D * 2 ^ C) = 2 ^ (blen N - 1) * 2 ^ B := by
      rw [← Nat.pow_add, ← Nat.pow_add, ← Nat.pow_add]; congr 1; omega
    omega
  · rw [Nat.div_lt_iff_lt_mul hE0, hY, hE]
    have h1 : 2 ^ 71 * (2 ^ (blen D - 1) * 2 ^ C) ≤ 2 ^ 71 * (D * 2 ^ C) := Nat.mul_le_mul_left _ (Nat.mul_le_mul_right _ d1)
    have h2 : N * 2 ^ B < 2 ^ blen N * 2 ^ B := Nat.mul_lt_mul_of_pos_right n2 (Nat.pow_pos (by decide))
    have h3 : 2 ^ 71 * (2 ^ (blen D - 1) * 2 ^ C) = 2 ^ blen N * 2 ^ B := by
      rw [← Nat.pow_add, ← Nat.pow_add, ← Nat.pow_add]; congr 1; omega
    omega
theorem rndM_bounds {N D : Nat} (hN : N ≠ 0) (hD : D ≠ 0) : 2 ^ 70 ≤ rndM N D ∧ rndM N D < 2 ^ 72 := by
  have h := quot_bounds hN hD rfl rfl
  unfold rndM stk
  generalize N * 2 ^ (rndB N D).toNat / (D * 2 ^ (-rndB N D).toNat) = Q at h ⊢
  split <;> omega
theorem lim_short {M : Nat} (h : M < 2 ^ 72) : (lim M).length ≤ 70 := lim_len_le (Nat.lt_of_lt_of_le h (by unfold W64; decide +kernel))
theorem dig_long {M : Nat} (h : 2 ^ 70 ≤ M) : 2 ≤ (dig M).length := by
  have h1 := lt_dig_len M
  by_cases h2 : 2 ≤ (dig M).length
  · exact h2
  · have h3 : W32 ^ (dig M).length ≤ W32 ^ 1 := Nat.pow_le_pow_right (by decide) (by omega)
    have : W32 ^ 1 ≤ 2 ^ 70 := by unfold W32; decide
    omega
theorem right_zeroN {s : Bool} {ns ds : List Nat} (h : rightB ⟨s, ns, ds⟩ = true) (hl : Lds ns) (h0 : ln ns = 0) : s = false ∧ ns = [] ∧ ds = [1] := by
  unfold rightB at h
  simp only at h
  by_cases h1 : ns.length = 0
  · rw [if_pos h1] at h
    have e1 := List.eq_nil_of_length_eq_zero h1
    simp at h
    exact ⟨h.1, e1, h.2⟩
  · rw [if_neg h1] at h
    simp only [Bool.and_eq_true] at h
    exact absurd h0 (topB_ne h.1.1 hl)
theorem round_right (v : Value) (r : RV) (md : Int) (w : World) (hr : RAt w v r) (hright : rightB r = true) (hw : Laid w) :
    Calls Tryz.prog 11 #[v, .int .i8 md] w fun e w' => e = .returned (.tuple #[.float .f64 (rnd r.neg (ln r.num) (ln r.den) md), .int .i64 0]) ∧ Below w.heap.size w w' := by
  obtain ⟨s, ns, ds⟩ := r
  have hr' := hr
  obtain ⟨A, n, c, A', n', c', rfl, hx, hy, hxl, hyl⟩ := hr'
  simp only at hx hy hxl hyl ⊢
  have hl := right_len hright
  have hD := right_den hright hyl
  simp only at hl hD
  have bN : blen (ln ns) ≤ 16384 := blen_of_dig (k := 512) (Nat.le_trans (dig_ln_len hxl) (by omega))
  have bD : blen (ln ds) ≤ 16384 := blen_of_dig (k := 512) (Nat.le_trans (dig_ln_len hyl) (by omega))
  by_cases hN : ln ns = 0
  · have hz := right_zeroN hright hxl hN
    obtain ⟨rfl, rfl, rfl⟩ := hz
    have e : rnd false (ln []) (ln [1]) md = 0 := by unfold rnd; exact if_pos (show ln [] = 0 from rfl)
    rw [e]
    refine round_ratio_z _ ⟨false, [], [1]⟩ md 0 71 w hr hright hw (by decide) (by decide) (by decide) (by decide) ?_
    intro d hd
    rcases hd with ⟨_, rfl⟩ | ⟨h, _⟩
    · exact fun v w hv _ => round_zero v md w hv
    · exact absurd (by decide) h
  · have hM := rndM_bounds hN hD
    have hq := quot_bounds hN hD rfl rfl
    have hbl : blen (rndM (ln ns) (ln ds)) = 71 ∨ blen (rndM (ln ns) (ln ds)) = 72 := by
      have h1 : blen (rndM (ln ns) (ln ds)) ≤ 72 := blen_le_of_lt hM.2
      have h2 := blen_lt (N := rndM (ln ns) (ln ds))
      by_cases h3 : blen (rndM (ln ns) (ln ds)) ≤ 70
      · have := Nat.pow_le_pow_right (show 0 < 2 by decide) h3
        omega
      · omega
    have hx : rnd s (ln ns) (ln ds) md = fbits s (sizeR (rndM (ln ns) (ln ds)) (lastR (rndM (ln ns) (ln ds)) (-rndB (ln ns) (ln ds) - 1) - (-rndB (ln ns) (ln ds) - 1)).toNat md s) (lastR (rndM (ln ns) (ln ds)) (-rndB (ln ns) (ln ds) - 1)) md := by
      unfold rnd; rw [if_neg hN]
    have key : ∀ d, NormD (if s then -(rndM (ln ns) (ln ds) : Int) else (rndM (ln ns) (ln ds) : Int)) (-rndB (ln ns) (ln ds) - 1) d → RoundC d md (rnd s (ln ns) (ln ds) md) := by
      intro d hd
      rw [hx]
      have hB : -17000 ≤ rndB (ln ns) (ln ds) ∧ rndB (ln ns) (ln ds) ≤ 17000 := by unfold rndB; omega
      refine round_made md (by omega) hd (by omega) (by omega) (by omega) ?_ ?_
      · unfold lastR; omega
      · unfold lastR; omega
    have hlim := lim_short hM.2
    have hB0 : rndB (ln ns) (ln ds) = 70 + (blen (ln ds) : Int) - blen (ln ns) := rfl
    have hMdef : rndM (ln ns) (ln ds) = stk (ln ns * 2 ^ (rndB (ln ns) (ln ds)).toNat) (ln ds * 2 ^ (-rndB (ln ns) (ln ds)).toNat) := rfl
    generalize rnd s (ln ns) (ln ds) md = x at key ⊢
    generalize rndM (ln ns) (ln ds) = M at hM key hlim hMdef
    by_cases hB : 0 ≤ rndB (ln ns) (ln ds)
    · obtain ⟨B, hB'⟩ : ∃ B : Nat, rndB (ln ns) (ln ds) = (B : Int) := ⟨(rndB (ln ns) (ln ds)).toNat, by omega⟩
      rw [hB'] at key hMdef hB0 hq
      rw [show (-(B : Int)).toNat = 0 by omega, Int.toNat_natCast, Nat.pow_zero, Nat.mul_one] at hMdef hq
      unfold stk at hMdef
      by_cases hR : ln ns * 2 ^ B % ln ds = 0
      · rw [if_pos hR] at hMdef
        subst hMdef
        exact round_ratio_z _ ⟨s, ns, ds⟩ md x B w hr hright hw hB0.symm (by omega) hlim hR key
      · rw [if_neg hR] at hMdef
        subst hMdef
        exact round_ratio _ ⟨s, ns, ds⟩ md x B w hr hright hw hB0.symm (by omega) hlim hR (dig_long (by show 2 ^ 70 ≤ 2 * (ln ns * 2 ^ B / ln ds); omega)) key
    · obtain ⟨B, hB'⟩ : ∃ B : Nat, rndB (ln ns) (ln ds) = -(B : Int) := ⟨(-rndB (ln ns) (ln ds)).toNat, by omega⟩
      rw [hB'] at key hMdef hB0 hq
      rw [Int.neg_neg] at key hMdef hq
      rw [show (-(B : Int)).toNat = 0 by omega, Int.toNat_natCast, Nat.pow_zero, Nat.mul_one] at hMdef hq
      unfold stk at hMdef
      by_cases hR : ln ns % (ln ds * 2 ^ B) = 0
      · rw [if_pos hR] at hMdef
        subst hMdef
        exact round_ratio_nz _ ⟨s, ns, ds⟩ md x B w hr hright hw hB0.symm (by omega) (by omega) hlim hR key
      · rw [if_neg hR] at hMdef
        subst hMdef
        exact round_ratio_n _ ⟨s, ns, ds⟩ md x B w hr hright hw hB0.symm (by omega) (by omega) hlim hR (dig_long (by show 2 ^ 70 ≤ 2 * (ln ns / (ln ds * 2 ^ B)); omega)) key

end Go.Proofs.YtjokpfgncmdomaaGreatDoor

/- what is rounded: rungs and their values (plain) -/
namespace Go.Proofs.YtjokpfgncmdomaaGreatDoor

/-- the value of a rung of the floats above 0 (in units of the least one); rungs go on behind the greatest number -/
def Vr (g : Nat) : Nat := if g < 2 ^ 52 then g else (2 ^ 52 + g % 2 ^ 52) * 2 ^ (g / 2 ^ 52 - 1)
theorem Vr_parts {s j : Nat} (hs : s ≤ 2 ^ 53) (hn : j = 0 ∨ 2 ^ 52 ≤ s) : Vr (j * 2 ^ 52 + s) = s * 2 ^ j := by
  unfold Vr
  by_cases h : j * 2 ^ 52 + s < 2 ^ 52
  · rw [if_pos h]
    have : j = 0 := by omega
    subst this
    omega
  · rw [if_neg h]
    have h1 : 2 ^ 52 ≤ s := by omega
    by_cases h2 : s = 2 ^ 53
    · have e1 : (j * 2 ^ 52 + s) % 2 ^ 52 = 0 := by omega
      have e2 : (j * 2 ^ 52 + s) / 2 ^ 52 - 1 = j + 1 := by omega
      rw [e1, e2, h2, Nat.pow_succ]
      omega
    · have e1 : (j * 2 ^ 52 + s) % 2 ^ 52 = s - 2 ^ 52 := by omega
      have e2 : (j * 2 ^ 52 + s) / 2 ^ 52 - 1 = j := by omega
      rw [e1, e2, show 2 ^ 52 + (s - 2 ^ 52) = s by omega]
/-- each rung has its parts -/
theorem rung_has (g : Nat) : ∃ j s, g = j * 2 ^ 52 + s ∧ s < 2 ^ 53 ∧ (j = 0 ∨ 2 ^ 52 ≤ s) := by
  by_cases h : g < 2 ^ 52
  · exact ⟨0, g, by omega, by omega, .inl rfl⟩
  · exact ⟨g / 2 ^ 52 - 1, 2 ^ 52 + g % 2 ^ 52, by omega, by omega, .inr (by omega)⟩
theorem Vr_succ (g : Nat) : Vr g < Vr (g + 1) := by
  obtain ⟨j, s, rfl, h1, h2⟩ := rung_has g
  rw [Vr_parts (by omega) h2, Nat.add_assoc, Vr_parts (by omega) (by omega)]
  exact Nat.mul_lt_mul_of_pos_right (by omega) (Nat.pow_pos (by decide))
theorem Vr_lt {a b : Nat} (h : a < b) : Vr a < Vr b := by
  induction b with
  | zero => omega
  | succ b ih =>
    rcases Nat.lt_or_eq_of_le (Nat.le_of_lt_succ h) with h1 | h1
    · exact Nat.lt_trans (ih h1) (Vr_succ b)
    · rw [h1]; exact Vr_succ b
theorem Vr_le {a b : Nat} (h : a ≤ b) : Vr a ≤ Vr b := by
  rcases Nat.lt_or_eq_of_le h with h1 | h1
  · exact Nat.le_of_lt (Vr_lt h1)
  · rw [h1]; exact Nat.le_refl _
theorem Vr_zero : Vr 0 = 0 := rfl

theorem cmpN_iff {a b c d : Nat} (h : cmpN a b = cmpN c d) : (a < b ↔ c < d) ∧ (b < a ↔ d < c) := by
  unfold cmpN at h
  by_cases h1 : a < b <;> by_cases h2 : b < a <;> by_cases h3 : c < d <;> by_cases h4 : d < c <;> simp [h1, h2, h3, h4] at h ⊢ <;> omega
theorem cmpN_of {a b c d : Nat} (h1 : a < b ↔ c < d) (h2 : b < a ↔ d < c) : cmpN a b = cmpN c d := by
  unfold cmpN
  simp only [h1, h2]
theorem cmp_scale (N D t a b c p j : Nat) (h : b + c + p = j + a) : cmpN (N * 2 ^ a) (t * 2 ^ b * (D * 2 ^ c)) = cmpN (N * 2 ^ p) (t * 2 ^ j * D) := by
  rw [← cmpN_mul (Nat.pow_pos (by decide) : 0 < 2 ^ p) (N * 2 ^ a), ← cmpN_mul (Nat.pow_pos (by decide) : 0 < 2 ^ a) (N * 2 ^ p)]
  have e1 : N * 2 ^ a * 2 ^ p = N * 2 ^ p * 2 ^ a := by rw [Nat.mul_right_comm]
  have e2 : t * 2 ^ b * (D * 2 ^ c) * 2 ^ p = t * 2 ^ j * D * 2 ^ a := by
    have e3 : t * 2 ^ b * (D * 2 ^ c) * 2 ^ p = t * D * 2 ^ (b + c + p) := by
      rw [Nat.pow_add, Nat.pow_add]; ac_rfl
    have e4 : t * 2 ^ j * D * 2 ^ a = t * D * 2 ^ (j + a) := by
      rw [Nat.pow_add]; ac_rfl
    rw [e3, e4, h]
  rw [e1, e2]
/-- what is told of a rung -/
def outR (neg : Bool) (md : Int) (g : Nat) : Nat := if g < 2047 * 2 ^ 52 then sw neg g else if mostB md neg = true then sw neg 9218868437227405311 else sw neg 9218868437227405312
theorem two_pow_step (n : Nat) : 2 ^ (n + 1) = 2 * 2 ^ n := Nat.pow_succ'
theorem out_if (neg : Bool) (md : Int) (a q : Nat) (P : Prop) [Decidable P] : outR neg md (a + if P then q + 1 else q) = outR neg md (if P then a + q + 1 else a + q) := by
  by_cases h : P
  · rw [if_pos h, if_pos h, Nat.add_assoc]
  · rw [if_neg h, if_neg h]
theorem stk_cmp {E : Nat} (hE : 0 < E) (Y K : Nat) : cmpN (stk Y E) (2 * K) = cmpN Y (K * E) := by
  have h := Nat.div_add_mod Y E
  have hm := Nat.mod_lt Y hE
  obtain ⟨Q, hQ⟩ : ∃ Q, Q = Y / E := ⟨_, rfl⟩
  obtain ⟨R, hR⟩ : ∃ R, R = Y % E := ⟨_, rfl⟩
  unfold stk
  rw [← hQ, ← hR] at h ⊢
  rw [← hR] at hm
  have e : Q * E = E * Q := Nat.mul_comm _ _
  apply cmpN_of
  · constructor
    · intro h1
      have h2 : Q + 1 ≤ K := by split at h1 <;> omega
      have h3 := Nat.mul_le_mul_right E h2
      rw [Nat.succ_mul] at h3
      omega
    · intro h1
      have h2 : Q < K := by
        by_cases h3 : Q < K
        · exact h3
        · have := Nat.mul_le_mul_right E (Nat.le_of_not_lt h3); omega
      split <;> omega
  · constructor
    · intro h1
      split at h1
      · have h2 : K + 1 ≤ Q := by omega
        have h3 := Nat.mul_le_mul_right E h2
        rw [Nat.succ_mul] at h3
        omega
      · have h2 : K ≤ Q := by omega
        have h3 := Nat.mul_le_mul_right E h2
        omega
    · intro h1
      have h2 : K ≤ Q := by
        by_cases h3 : K ≤ Q
        · exact h3
        · have h4 : Q + 1 ≤ K := by omega
          have h5 := Nat.mul_le_mul_right E h4
          rw [Nat.succ_mul] at h5; omega
      split
      · rename_i h3
        rcases Nat.lt_or_eq_of_le h2 with h4 | h4
        · omega
        · rw [h4] at h1; omega
      · omega

/-- the rung that is chosen of g and the next one -/
def upR (neg : Bool) (md : Int) (X D g : Nat) : Nat := if Vr g * D < X ∧ awayB md neg (cmpN (2 * X) ((Vr g + Vr (g + 1)) * D)) (decide (g % 2 = 1)) = true then g + 1 else g
theorem rnd_spec (neg : Bool) (md : Int) {N D : Nat} (hN : N ≠ 0) (hD : D ≠ 0) :
    ∃ g, Vr g * D ≤ N * 2 ^ 1074 ∧ N * 2 ^ 1074 < Vr (g + 1) * D ∧ rnd neg N D md = outR neg md (upR neg md (N * 2 ^ 1074) D g) := by
  obtain ⟨X, hX⟩ : ∃ X, X = N * 2 ^ 1074 := ⟨_, rfl⟩
  rw [← hX]
  obtain ⟨n, hn⟩ : ∃ n : Nat, n = 1074 := ⟨_, rfl⟩
  rw [← hn] at hX
  have hM := rndM_bounds hN hD
  obtain ⟨Bp, hBp⟩ : ∃ x, x = (rndB N D).toNat := ⟨_, rfl⟩
  obtain ⟨Bn, hBn⟩ : ∃ x, x = (-rndB N D).toNat := ⟨_, rfl⟩
  have hMd : rndM N D = stk (N * 2 ^ Bp) (D * 2 ^ Bn) := by rw [hBp, hBn]; rfl
  have hE : 0 < D * 2 ^ Bn := Nat.mul_pos (Nat.pos_of_ne_zero hD) (Nat.pow_pos (by decide))
  obtain ⟨M, hMM⟩ : ∃ M, M = rndM N D := ⟨_, rfl⟩
  obtain ⟨L, hL⟩ : ∃ L, L = lastR M (-rndB N D - 1) := ⟨_, rfl⟩
  obtain ⟨c, hc⟩ : ∃ c, c = (L - (-rndB N D - 1)).toNat := ⟨_, rfl⟩
  have hx : rnd neg N D md = fbits neg (sizeR M c md neg) L md := by
    unfold rnd; rw [if_neg hN, ← hMM, ← hL, ← hc]
  rw [← hMM] at hM hMd
  have hbl : 71 ≤ blen M := by
    have h2 := blen_lt (N := M)
    by_cases h3 : blen M ≤ 70
    · have := Nat.pow_le_pow_right (show 0 < 2 by decide) h3
      omega
    · omega
  have hL' : L = max ((blen M : Int) + (-rndB N D - 1) - 53) (-1074) := hL
  have hc18 : 18 ≤ c := by omega
  have hp : 0 < 2 ^ c := Nat.pow_pos (by decide)
  have hq53 : M / 2 ^ c < 2 ^ 53 := by
    refine Nat.div_lt_of_lt_mul ?_
    rw [← Nat.pow_add]
    exact Nat.lt_of_lt_of_le blen_lt (Nat.pow_le_pow_right (by decide) (by omega))
  obtain ⟨j, hj⟩ : ∃ j, j = (L + 1074).toNat := ⟨_, rfl⟩
  have hq52 : j = 0 ∨ 2 ^ 52 ≤ M / 2 ^ c := by
    by_cases h : j = 0
    · exact .inl h
    · right
      rw [Nat.le_div_iff_mul_le hp, ← Nat.pow_add]
      exact Nat.le_trans (Nat.pow_le_pow_right (by decide) (by omega)) (blen_le (by omega))
  obtain ⟨q, hq⟩ : ∃ q, q = M / 2 ^ c := ⟨_, rfl⟩
  obtain ⟨r, hr⟩ : ∃ r, r = M % 2 ^ c := ⟨_, rfl⟩
  have hMq : M = q * 2 ^ c + r := by rw [hq, hr, Nat.mul_comm]; exact (Nat.div_add_mod M (2 ^ c)).symm
  have hr2 : r < 2 ^ c := by rw [hr]; exact Nat.mod_lt _ hp
  rw [← hq] at hq53 hq52
  have v1 : Vr (j * 2 ^ 52 + q) = q * 2 ^ j := Vr_parts (by omega) hq52
  have v2 : Vr (j * 2 ^ 52 + q + 1) = (q + 1) * 2 ^ j := by rw [Nat.add_assoc]; exact Vr_parts (by omega) (by omega)
  have ec : 2 ^ c = 2 * 2 ^ (c - 1) := by rw [← Nat.pow_succ']; congr 1; omega
  have ec2 : 2 ^ (c - 1) = 2 * 2 ^ (c - 2) := by rw [← Nat.pow_succ']; congr 1; omega
  have key : ∀ s, cmpN M (s * 2 ^ c) = cmpN X (s * 2 ^ j * D) := by
    intro s
    rw [hMd, ec, show s * (2 * 2 ^ (c - 1)) = 2 * (s * 2 ^ (c - 1)) by ac_rfl, stk_cmp hE]
    rw [hX]
    exact cmp_scale N D s Bp (c - 1) Bn n j (by omega)
  have key2 : ∀ t, cmpN M (t * 2 ^ (c - 1)) = cmpN (2 * X) (t * 2 ^ j * D) := by
    intro t
    rw [hMd, ec2, show t * (2 * 2 ^ (c - 2)) = 2 * (t * 2 ^ (c - 2)) by ac_rfl, stk_cmp hE]
    rw [hX, Nat.mul_left_comm 2 N, ← two_pow_step n]
    exact cmp_scale N D t Bp (c - 2) Bn (n + 1) j (by omega)
  clear hX
  refine ⟨j * 2 ^ 52 + q, ?_, ?_, ?_⟩
  · rw [v1]
    have h := (cmpN_iff (key q)).1
    exact Nat.le_of_not_lt fun h1 => by have := h.2 h1; omega
  · rw [v2]
    have h := (cmpN_iff (key (q + 1))).1
    exact h.1 (by rw [Nat.succ_mul]; omega)
  · rw [hx]
    have hs : sizeR M c md neg = if Vr (j * 2 ^ 52 + q) * D < X ∧ awayB md neg (cmpN (2 * X) ((Vr (j * 2 ^ 52 + q) + Vr (j * 2 ^ 52 + q + 1)) * D)) (decide ((j * 2 ^ 52 + q) % 2 = 1)) = true then q + 1 else q := by
      unfold sizeR
      rw [← hq, ← hr]
      have e1 : (0 < r) ↔ (Vr (j * 2 ^ 52 + q) * D < X) := by
        rw [v1, ← (cmpN_iff (key q)).2, hMq]
        omega
      have e2 : cmpN r (2 ^ (c - 1)) = cmpN (2 * X) ((Vr (j * 2 ^ 52 + q) + Vr (j * 2 ^ 52 + q + 1)) * D) := by
        rw [v1, v2, show q * 2 ^ j + (q + 1) * 2 ^ j = (2 * q + 1) * 2 ^ j by rw [← Nat.add_mul]; congr 1; omega, ← key2]
        have e3 : (2 * q + 1) * 2 ^ (c - 1) = q * 2 ^ c + 2 ^ (c - 1) := by rw [ec, Nat.succ_mul]; congr 1; ac_rfl
        rw [e3, hMq]
        exact cmpN_of (by omega) (by omega)
      have e3 : (j * 2 ^ 52 + q) % 2 = q % 2 := by omega
      rw [e2, e3]
      simp only [e1]
    have hg : ∀ s, fbits neg s L md = outR neg md (j * 2 ^ 52 + s) := by
      intro s; unfold fbits outR; rw [hj]
    rw [hg, hs]
    exact out_if neg md _ q _
theorem floor_uniq {X D g h : Nat} (h1 : Vr g * D ≤ X) (h2 : X < Vr (g + 1) * D) (h3 : Vr h * D ≤ X) (h4 : X < Vr (h + 1) * D) : g = h := by
  rcases Nat.lt_trichotomy g h with h5 | h5 | h5
  · have := Nat.mul_le_mul_right D (Vr_le (show g + 1 ≤ h by omega)); omega
  · exact h5
  · have := Nat.mul_le_mul_right D (Vr_le (show h + 1 ≤ g by omega)); omega

end Go.Proofs.YtjokpfgncmdomaaGreatDoor

/- (*bignum.Rat).SetFloat64, ratio.Of: the walks (printed by gen_t20.py) -/
namespace Go.Proofs.YtjokpfgncmdomaaGreatDoor
open Go.RowKit Go.Sort

/-- the number of a rung -/
def fltQ (neg : Bool) (g : Nat) : Rat := Rat.divInt (if neg then -(Vr g : Int) else (Vr g : Int)) ((2 ^ 1074 : Nat) : Int)
theorem u64_shr52 {u : Nat} (hu : u < 18446744073709551616) : bits BinOp.and IntKind.u64 ((u : Int) / 4503599627370496) 2047 = ((u / 2 ^ 52 % 2048 : Nat) : Int) := by
  have h := bits_and_u64_nat (u / 2 ^ 52) 2047 (by omega) (by decide)
  rw [show (2047 : Nat) = 2 ^ 11 - 1 by decide, Nat.and_two_pow_sub_one_eq_mod] at h
  exact h
theorem u64_low52 {u : Nat} (hu : u < 18446744073709551616) : bits BinOp.and IntKind.u64 (u : Int) 4503599627370495 = ((u % 2 ^ 52 : Nat) : Int) := by
  have h := bits_and_u64_nat u 4503599627370495 hu (by decide)
  rw [show (4503599627370495 : Nat) = 2 ^ 52 - 1 by decide, Nat.and_two_pow_sub_one_eq_mod] at h
  exact h
theorem u64_hid52 {a : Nat} (ha : a < 2 ^ 52) : bits BinOp.or IntKind.u64 (a : Int) 4503599627370496 = ((2 ^ 52 + a : Nat) : Int) := by
  have h := or_exp (a := a) (P := 1) ha (by decide)
  rw [Nat.one_mul] at h
  exact h
theorem flt_parts (neg : Bool) {m e : Nat} {g : Nat} (hg : Vr g = m * 2 ^ (e - 1)) (he : 1 ≤ e) :
    (1075 ≤ e → Rat.divInt ((if neg then -(m : Int) else (m : Int)) * 2 ^ (e - 1075)) 1 = fltQ neg g) ∧ (e < 1075 → Rat.divInt (if neg then -(m : Int) else (m : Int)) (((2 ^ (1075 - e) : Nat)) : Int) = fltQ neg g) := by
  obtain ⟨n, hn⟩ : ∃ n : Nat, n = 1074 := ⟨_, rfl⟩
  have hp : ∀ k : Nat, (((2 ^ k : Nat)) : Int) ≠ 0 := fun k h => by have := Nat.pow_pos (n := k) (show 0 < 2 by decide); omega
  unfold fltQ
  rw [hg, ← hn]
  constructor
  · intro h
    rw [Rat.divInt_eq_divInt_iff (by decide) (hp n)]
    have e1 : (m * 2 ^ (e - 1) : Nat) = m * 2 ^ (e - 1075) * 2 ^ n := by rw [Nat.mul_assoc, ← Nat.pow_add]; congr 2; omega
    rw [e1, Int.mul_one]
    cases neg
    · simp only [if_false, Bool.false_eq_true, Int.natCast_mul, Int.natCast_pow]; rfl
    · simp only [if_true, Int.natCast_mul, Int.natCast_pow, Int.neg_mul]; rfl
  · intro h
    rw [Rat.divInt_eq_divInt_iff (hp _) (hp n)]
    have e1 : (m * 2 ^ (e - 1) : Nat) * 2 ^ (1075 - e) = m * 2 ^ n := by rw [Nat.mul_assoc, ← Nat.pow_add]; congr 2; omega
    have e2 : ((m * 2 ^ (e - 1) : Nat) : Int) * ((2 ^ (1075 - e) : Nat) : Int) = (m : Int) * ((2 ^ n : Nat) : Int) := by rw [← Int.natCast_mul, e1, Int.natCast_mul]
    cases neg
    · simp only [if_false, Bool.false_eq_true]
      exact e2.symm
    · simp only [if_true, Int.neg_mul]
      rw [e2]
theorem Vr_lt_inf {g : Nat} (h : g < 9218868437227405312) : Vr g < 2 ^ 2098 := by
  obtain ⟨j, s, rfl, h1, h2⟩ := rung_has g
  rw [Vr_parts (by omega) h2]
  have hj : j ≤ 2045 := by omega
  obtain ⟨a, ha⟩ : ∃ a : Nat, a = 2098 := ⟨_, rfl⟩
  rw [← ha]
  have h3 : s * 2 ^ j < 2 ^ 53 * 2 ^ j := Nat.mul_lt_mul_of_pos_right h1 (Nat.pow_pos (by decide))
  rw [← Nat.pow_add] at h3
  exact Nat.lt_of_lt_of_le h3 (Nat.pow_le_pow_right (by decide) (by omega))
theorem fits_flt (neg : Bool) {g : Nat} (h : g < 9218868437227405312) : fits (fltQ neg g) ∧ Sz 512 (fltQ neg g) := by
  obtain ⟨n, hn⟩ : ∃ n : Nat, n = 1074 := ⟨_, rfl⟩
  obtain ⟨a, ha⟩ : ∃ a : Nat, a = 2098 := ⟨_, rfl⟩
  have hV : Vr g < 2 ^ a := by rw [ha]; exact Vr_lt_inf h
  have hp : 0 < 2 ^ n := Nat.pow_pos (by decide)
  have hd := dsz (N := (if neg then -(Vr g : Int) else (Vr g : Int))) (D := ((2 ^ n : Nat) : Int)) (by omega)
  have e1 : (if neg then -(Vr g : Int) else (Vr g : Int)).natAbs = Vr g := by cases neg <;> simp
  rw [e1, Int.natAbs_natCast] at hd
  have hq : fltQ neg g = Rat.divInt (if neg then -(Vr g : Int) else (Vr g : Int)) ((2 ^ n : Nat) : Int) := by rw [hn]; rfl
  rw [← hq] at hd
  obtain ⟨k, hk⟩ : ∃ k : Nat, k = 33 := ⟨_, rfl⟩
  obtain ⟨l, hl⟩ : ∃ l : Nat, l = 66 := ⟨_, rfl⟩
  have w1 : 2 ^ a ≤ W64 ^ k := by rw [W64_pow]; exact Nat.pow_le_pow_right (by decide) (by omega)
  have w2 : 2 ^ n < W64 ^ k := by rw [W64_pow]; exact Nat.pow_lt_pow_right (by decide) (by omega)
  have w3 : 2 ^ a ≤ W32 ^ l := by rw [W32_pow]; exact Nat.pow_le_pow_right (by decide) (by omega)
  have w4 : 2 ^ n < W32 ^ l := by rw [W32_pow]; exact Nat.pow_lt_pow_right (by decide) (by omega)
  have f1 : (lim (fltQ neg g).num.natAbs).length ≤ k := lim_len_le (by omega)
  have f2 : (lim (fltQ neg g).den).length ≤ k := lim_len_le (by omega)
  have f3 : (dig (fltQ neg g).num.natAbs).length ≤ l := dig_len_le (by omega)
  have f4 : (dig (fltQ neg g).den).length ≤ l := dig_len_le (by omega)
  exact ⟨⟨by omega, by omega⟩, ⟨by omega, by omega⟩⟩

set_option maxRecDepth 100000 in
set_option maxHeartbeats 4000000 in
theorem setFloat_inf (b u : Nat) (w : World) (hu : u < 18446744073709551616) (hi : u / 2 ^ 52 % 2048 = 2047) :
    Calls Tryz.prog 84 #[.pointer (some ⟨b, 0, none⟩), .float .f64 u] w fun e w' => e = .returned (.pointer none) ∧ w = w' := by
  have hd := run_f64bits
  have b1 := u64_shr52 hu
  have b2 := u64_low52 hu
  rw [hi] at b1
  clear hi
  go_enter Tryz.func84, Tryz.ntmps84
  go_wp2_with fail
  go_ret
  exact ⟨rfl, rfl⟩
/-- the shape of SetFloat64's memory: new cells, then the receiver's -/
def FloatPost (b : Nat) (q : Rat) (w : World) (e : Ending) (w' : World) : Prop := e = .returned (.pointer (some ⟨b, 0, none⟩)) ∧ RatAt w' b q ∧ ∃ wm, Below w.heap.size w wm ∧ UpB wm w' b

set_option maxRecDepth 100000 in
set_option maxHeartbeats 4000000 in
theorem setFloat_zp (b u g : Nat) (w : World) (hz : RatObj w b) (hu : u < 18446744073709551616) (hg : g = u % 9223372036854775808) (he : u / 2 ^ 52 % 2048 = 0) (hs : u / 9223372036854775808 = 0) :
    Calls Tryz.prog 84 #[.pointer (some ⟨b, 0, none⟩), .float .f64 u] w (FloatPost b (fltQ false g) w) := by
  have hd := run_f64bits
  have b1 := u64_shr52 hu
  have b2 := u64_low52 hu
  have b3 := u64_hid52 (a := u % 2 ^ 52) (by omega)
  have b4 : (((u : Int) / 9223372036854775808) == 1) = false := by rw [show (u : Int) / 9223372036854775808 = 0 by omega]; rfl
  have HZ := Lib.hid hz
  have hblt : b < w.heap.size := by obtain ⟨_, _, h, _⟩ := hz; exact h.lt
  obtain ⟨E, hE⟩ : ∃ E, E = u / 2 ^ 52 % 2048 := ⟨_, rfl⟩
  obtain ⟨F, hF⟩ : ∃ F, F = u % 2 ^ 52 := ⟨_, rfl⟩
  rw [← hE] at b1 he
  rw [← hF] at b2 b3
  have hF2 : F < 2 ^ 52 := by omega
  obtain rfl : E = 0 := he
  have hgp : Vr g = F * 2 ^ (1 - 1) := by
    have h := Vr_parts (s := F) (j := 0) (by omega) (.inl rfl)
    rw [show g = 0 * 2 ^ 52 + F by omega]; exact h
  have hfl := flt_parts false hgp (Nat.le_refl _)
  obtain ⟨M, hM⟩ : ∃ M, M = F := ⟨_, rfl⟩
  rw [← hM] at hfl b2
  have HM : Hid (M < 18446744073709551616) := Lib.hid (by omega)
  have hq := hfl.2 (by omega)
  obtain ⟨k, hk⟩ : ∃ k, k = 1075 - 1 := ⟨_, rfl⟩
  rw [← hk] at hq
  have k2 : k ≤ 1100 := by omega
  have ew : IntKind.u64.wrap (k : Int) = (k : Int) := by rw [IntKind.wrap_u64]; omega
  have HK : Hid ((1074 : Int) = (k : Int)) := Lib.hid (by omega)
  simp only [if_false, Bool.false_eq_true] at hq
  have HQ := Lib.hid hq
  clear hfl hgp hE hF hM hg hu hs hq hk
  go_enter Tryz.func84, Tryz.ntmps84
  go_wp2_with fail
  refine (setU_int w.heap.size 0 0 M _ (new_intAt w) HM.out).mono ?_
  rintro e w1 ⟨rfl, hi1, hu1⟩
  have HI1 := Lib.hid hi1
  have HB1 := Lib.hid (newB hu1)
  have z1 := hi1.lt
  clear hi1 hu1
  go_wp2_with fail
  obtain ⟨w2, hw2⟩ : ∃ w2, w2 = w1 := ⟨_, rfl⟩
  rw [← hw2] at HI1 HB1 z1 ⊢
  have HI2 := HI1
  have HB2 := HB1
  have z2 := z1
  clear hw2 HI1 HB1 z1
  refine (newInt_int 1 w2 (by decide) (by decide)).mono ?_
  rintro e w3 ⟨d, rfl, hd1, hd2, hi3, hb3⟩
  have HI3 := Lib.hid hi3
  have HN3 := Lib.hid (HI2.out.below hb3)
  have HB3 := Lib.hid (HB2.out.trans (hb3.mono HB2.out.size))
  have z3 := hb3.size
  clear hi3 hb3
  go_wp2_with fail
  rw [HK.out]
  refine (lsh_int d 0 d 0 1 1 k w3 HI3.out HI3.out (by decide) (by omega)).mono ?_
  rintro e w4 ⟨rfl, hi4, hu4⟩
  have eP : (1 : Int) * 2 ^ k = ((2 ^ k : Nat) : Int) := by rw [Int.one_mul, Int.natCast_pow]; rfl
  rw [eP] at hi4
  have HD4 := Lib.hid hi4
  have HN4 := Lib.hid (HN3.out.upd hu4 (fun e => absurd e (by omega)))
  have HB4 := Lib.hid (HB3.out.trans (hu4.below (by omega) HB3.out.size))
  have lN : Hid ((dig ((M : Int)).natAbs).length ≤ 1000000) := Lib.hid (by
    have h4 := dig_len_small (x := M) (by have := HM.out; omega)
    have h5 : ((M : Int)).natAbs = M := by omega
    rw [h5]
    omega)
  clear hi4 hu4 eP
  go_wp2_with fail
  refine (setFrac_rat b w.heap.size 0 d 0 (M : Int) ((2 ^ k : Nat) : Int) w4 (HZ.out.below HB4.out) HN4.out HD4.out (fun h => by have := Nat.pow_pos (n := k) (show 0 < 2 by decide); omega) lN.out (by rw [Int.natAbs_natCast]; have := dig_pow k; omega)).mono ?_

  rintro e w5 ⟨rfl, hr5, hu5⟩
  rw [HQ.out] at hr5
  have HR5 := Lib.hid hr5
  have HU5 := Lib.hid hu5
  clear hr5 hu5
  go_wp2_with fail
  go_ret
  exact ⟨rfl, HR5.out, _, HB4.out, HU5.out⟩

set_option maxRecDepth 100000 in
set_option maxHeartbeats 4000000 in
theorem setFloat_zn (b u g : Nat) (w : World) (hz : RatObj w b) (hu : u < 18446744073709551616) (hg : g = u % 9223372036854775808) (he : u / 2 ^ 52 % 2048 = 0) (hs : u / 9223372036854775808 = 1) :
    Calls Tryz.prog 84 #[.pointer (some ⟨b, 0, none⟩), .float .f64 u] w (FloatPost b (fltQ true g) w) := by
  have hd := run_f64bits
  have b1 := u64_shr52 hu
  have b2 := u64_low52 hu
  have b3 := u64_hid52 (a := u % 2 ^ 52) (by omega)
  have b4 : (((u : Int) / 9223372036854775808) == 1) = true := by rw [show (u : Int) / 9223372036854775808 = 1 by omega]; rfl
  have HZ := Lib.hid hz
  have hblt : b < w.heap.size := by obtain ⟨_, _, h, _⟩ := hz; exact h.lt
  obtain ⟨E, hE⟩ : ∃ E, E = u / 2 ^ 52 % 2048 := ⟨_, rfl⟩
  obtain ⟨F, hF⟩ : ∃ F, F = u % 2 ^ 52 := ⟨_, rfl⟩
  rw [← hE] at b1 he
  rw [← hF] at b2 b3
  have hF2 : F < 2 ^ 52 := by omega
  obtain rfl : E = 0 := he
  have hgp : Vr g = F * 2 ^ (1 - 1) := by
    have h := Vr_parts (s := F) (j := 0) (by omega) (.inl rfl)
    rw [show g = 0 * 2 ^ 52 + F by omega]; exact h
  have hfl := flt_parts true hgp (Nat.le_refl _)
  obtain ⟨M, hM⟩ : ∃ M, M = F := ⟨_, rfl⟩
  rw [← hM] at hfl b2
  have HM : Hid (M < 18446744073709551616) := Lib.hid (by omega)
  have hq := hfl.2 (by omega)
  obtain ⟨k, hk⟩ : ∃ k, k = 1075 - 1 := ⟨_, rfl⟩
  rw [← hk] at hq
  have k2 : k ≤ 1100 := by omega
  have ew : IntKind.u64.wrap (k : Int) = (k : Int) := by rw [IntKind.wrap_u64]; omega
  have HK : Hid ((1074 : Int) = (k : Int)) := Lib.hid (by omega)
  simp only [if_true] at hq
  have HQ := Lib.hid hq
  clear hfl hgp hE hF hM hg hu hs hq hk
  go_enter Tryz.func84, Tryz.ntmps84
  go_wp2_with fail
  refine (setU_int w.heap.size 0 0 M _ (new_intAt w) HM.out).mono ?_
  rintro e w1 ⟨rfl, hi1, hu1⟩
  have HI1 := Lib.hid hi1
  have HB1 := Lib.hid (newB hu1)
  have z1 := hi1.lt
  clear hi1 hu1
  go_wp2_with fail
  refine (neg_int w.heap.size 0 w.heap.size 0 (M : Int) (M : Int) w1 HI1.out HI1.out (by have := dig_len_small (x := M) (by have := HM.out; omega); rw [Int.natAbs_natCast]; omega)).mono ?_
  rintro e w2 ⟨rfl, hi2, hu2⟩
  have HI2 := Lib.hid hi2
  have HB2 := Lib.hid (HB1.out.trans (hu2.below (Nat.le_refl _) HB1.out.size))
  have z2 := hi2.lt
  clear hi2 hu2
  go_wp2_with fail
  refine (newInt_int 1 w2 (by decide) (by decide)).mono ?_
  rintro e w3 ⟨d, rfl, hd1, hd2, hi3, hb3⟩
  have HI3 := Lib.hid hi3
  have HN3 := Lib.hid (HI2.out.below hb3)
  have HB3 := Lib.hid (HB2.out.trans (hb3.mono HB2.out.size))
  have z3 := hb3.size
  clear hi3 hb3
  go_wp2_with fail
  rw [HK.out]
  refine (lsh_int d 0 d 0 1 1 k w3 HI3.out HI3.out (by decide) (by omega)).mono ?_
  rintro e w4 ⟨rfl, hi4, hu4⟩
  have eP : (1 : Int) * 2 ^ k = ((2 ^ k : Nat) : Int) := by rw [Int.one_mul, Int.natCast_pow]; rfl
  rw [eP] at hi4
  have HD4 := Lib.hid hi4
  have HN4 := Lib.hid (HN3.out.upd hu4 (fun e => absurd e (by omega)))
  have HB4 := Lib.hid (HB3.out.trans (hu4.below (by omega) HB3.out.size))
  have lN : Hid ((dig ((-(M : Int))).natAbs).length ≤ 1000000) := Lib.hid (by
    have h4 := dig_len_small (x := M) (by have := HM.out; omega)
    have h5 : ((-(M : Int))).natAbs = M := by omega
    rw [h5]
    omega)
  clear hi4 hu4 eP
  go_wp2_with fail
  refine (setFrac_rat b w.heap.size 0 d 0 (-(M : Int)) ((2 ^ k : Nat) : Int) w4 (HZ.out.below HB4.out) HN4.out HD4.out (fun h => by have := Nat.pow_pos (n := k) (show 0 < 2 by decide); omega) lN.out (by rw [Int.natAbs_natCast]; have := dig_pow k; omega)).mono ?_

  rintro e w5 ⟨rfl, hr5, hu5⟩
  rw [HQ.out] at hr5
  have HR5 := Lib.hid hr5
  have HU5 := Lib.hid hu5
  clear hr5 hu5
  go_wp2_with fail
  go_ret
  exact ⟨rfl, HR5.out, _, HB4.out, HU5.out⟩

set_option maxRecDepth 100000 in
set_option maxHeartbeats 4000000 in
theorem setFloat_lp (b u g : Nat) (w : World) (hz : RatObj w b) (hu : u < 18446744073709551616) (hg : g = u % 9223372036854775808) (he : 0 < u / 2 ^ 52 % 2048 ∧ u / 2 ^ 52 % 2048 < 1075) (hs : u / 9223372036854775808 = 0) :
    Calls Tryz.prog 84 #[.pointer (some ⟨b, 0, none⟩), .float .f64 u] w (FloatPost b (fltQ false g) w) := by
  have hd := run_f64bits
  have b1 := u64_shr52 hu
  have b2 := u64_low52 hu
  have b3 := u64_hid52 (a := u % 2 ^ 52) (by omega)
  have b4 : (((u : Int) / 9223372036854775808) == 1) = false := by rw [show (u : Int) / 9223372036854775808 = 0 by omega]; rfl
  have HZ := Lib.hid hz
  have hblt : b < w.heap.size := by obtain ⟨_, _, h, _⟩ := hz; exact h.lt
  obtain ⟨E, hE⟩ : ∃ E, E = u / 2 ^ 52 % 2048 := ⟨_, rfl⟩
  obtain ⟨F, hF⟩ : ∃ F, F = u % 2 ^ 52 := ⟨_, rfl⟩
  rw [← hE] at b1 he
  rw [← hF] at b2 b3
  have hF2 : F < 2 ^ 52 := by omega
  have hgp : Vr g = (2 ^ 52 + F) * 2 ^ (E - 1) := by
    have h := Vr_parts (s := 2 ^ 52 + F) (j := E - 1) (by omega) (.inr (by omega))
    rw [show g = (E - 1) * 2 ^ 52 + (2 ^ 52 + F) by omega]; exact h
  have hfl := flt_parts false hgp (by omega)
  obtain ⟨M, hM⟩ : ∃ M, M = 2 ^ 52 + F := ⟨_, rfl⟩
  rw [← hM] at hfl b3
  have HM : Hid (M < 18446744073709551616) := Lib.hid (by omega)
  have e0 : ((E : Int) == 0) = false := by simp; omega
  have e1 : ((E : Int) == 2047) = false := by simp; omega
  have hq := hfl.2 (by omega)
  obtain ⟨k, hk⟩ : ∃ k, k = 1075 - E := ⟨_, rfl⟩
  rw [← hk] at hq
  have k2 : k ≤ 1100 := by omega
  have ew : IntKind.u64.wrap (k : Int) = (k : Int) := by rw [IntKind.wrap_u64]; omega
  have ek : (1075 : Int) - E = (k : Int) := by omega
  have el : decide ((1075 : Int) ≤ E) = false := by simp; omega
  simp only [if_false, Bool.false_eq_true] at hq
  have HQ := Lib.hid hq
  clear hfl hgp hE hF hM he hg hu hs hq hk
  go_enter Tryz.func84, Tryz.ntmps84
  go_wp2_with fail
  refine (setU_int w.heap.size 0 0 M _ (new_intAt w) HM.out).mono ?_
  rintro e w1 ⟨rfl, hi1, hu1⟩
  have HI1 := Lib.hid hi1
  have HB1 := Lib.hid (newB hu1)
  have z1 := hi1.lt
  clear hi1 hu1
  go_wp2_with fail
  obtain ⟨w2, hw2⟩ : ∃ w2, w2 = w1 := ⟨_, rfl⟩
  rw [← hw2] at HI1 HB1 z1 ⊢
  have HI2 := HI1
  have HB2 := HB1
  have z2 := z1
  clear hw2 HI1 HB1 z1
  refine (newInt_int 1 w2 (by decide) (by decide)).mono ?_
  rintro e w3 ⟨d, rfl, hd1, hd2, hi3, hb3⟩
  have HI3 := Lib.hid hi3
  have HN3 := Lib.hid (HI2.out.below hb3)
  have HB3 := Lib.hid (HB2.out.trans (hb3.mono HB2.out.size))
  have z3 := hb3.size
  clear hi3 hb3
  go_wp2_with fail
  refine (lsh_int d 0 d 0 1 1 k w3 HI3.out HI3.out (by decide) (by omega)).mono ?_
  rintro e w4 ⟨rfl, hi4, hu4⟩
  have eP : (1 : Int) * 2 ^ k = ((2 ^ k : Nat) : Int) := by rw [Int.one_mul, Int.natCast_pow]; rfl
  rw [eP] at hi4
  have HD4 := Lib.hid hi4
  have HN4 := Lib.hid (HN3.out.upd hu4 (fun e => absurd e (by omega)))
  have HB4 := Lib.hid (HB3.out.trans (hu4.below (by omega) HB3.out.size))
  have lN : Hid ((dig ((M : Int)).natAbs).length ≤ 1000000) := Lib.hid (by
    have h4 := dig_len_small (x := M) (by have := HM.out; omega)
    have h5 : ((M : Int)).natAbs = M := by omega
    rw [h5]
    omega)
  clear hi4 hu4 eP
  go_wp2_with fail
  refine (setFrac_rat b w.heap.size 0 d 0 (M : Int) ((2 ^ k : Nat) : Int) w4 (HZ.out.below HB4.out) HN4.out HD4.out (fun h => by have := Nat.pow_pos (n := k) (show 0 < 2 by decide); omega) lN.out (by rw [Int.natAbs_natCast]; have := dig_pow k; omega)).mono ?_

  rintro e w5 ⟨rfl, hr5, hu5⟩
  rw [HQ.out] at hr5
  have HR5 := Lib.hid hr5
  have HU5 := Lib.hid hu5
  clear hr5 hu5
  go_wp2_with fail
  go_ret
  exact ⟨rfl, HR5.out, _, HB4.out, HU5.out⟩

set_option maxRecDepth 100000 in
set_option maxHeartbeats 4000000 in
theorem setFloat_ln (b u g : Nat) (w : World) (hz : RatObj w b) (hu : u < 18446744073709551616) (hg : g = u % 9223372036854775808) (he : 0 < u / 2 ^ 52 % 2048 ∧ u / 2 ^ 52 % 2048 < 1075) (hs : u / 9223372036854775808 = 1) :
    Calls Tryz.prog 84 #[.pointer (some ⟨b, 0, none⟩), .float .f64 u] w (FloatPost b (fltQ true g) w) := by
  have hd := run_f64bits
  have b1 := u64_shr52 hu
  have b2 := u64_low52 hu
  have b3 := u64_hid52 (a := u % 2 ^ 52) (by omega)
  have b4 : (((u : Int) / 9223372036854775808) == 1) = true := by rw [show (u : Int) / 9223372036854775808 = 1 by omega]; rfl
  have HZ := Lib.hid hz
  have hblt : b < w.heap.size := by obtain ⟨_, _, h, _⟩ := hz; exact h.lt
  obtain ⟨E, hE⟩ : ∃ E, E = u / 2 ^ 52 % 2048 := ⟨_, rfl⟩
  obtain ⟨F, hF⟩ : ∃ F, F = u % 2 ^ 52 := ⟨_, rfl⟩
  rw [← hE] at b1 he
  rw [← hF] at b2 b3
  have hF2 : F < 2 ^ 52 := by omega
  have hgp : Vr g = (2 ^ 52 + F) * 2 ^ (E - 1) := by
    have h := Vr_parts (s := 2 ^ 52 + F) (j := E - 1) (by omega) (.inr (by omega))
    rw [show g = (E - 1) * 2 ^ 52 + (2 ^ 52 + F) by omega]; exact h
  have hfl := flt_parts true hgp (by omega)
  obtain ⟨M, hM⟩ : ∃ M, M = 2 ^ 52 + F := ⟨_, rfl⟩
  rw [← hM] at hfl b3
  have HM : Hid (M < 18446744073709551616) := Lib.hid (by omega)
  have e0 : ((E : Int) == 0) = false := by simp; omega
  have e1 : ((E : Int) == 2047) = false := by simp; omega
  have hq := hfl.2 (by omega)
  obtain ⟨k, hk⟩ : ∃ k, k = 1075 - E := ⟨_, rfl⟩
  rw [← hk] at hq
  have k2 : k ≤ 1100 := by omega
  have ew : IntKind.u64.wrap (k : Int) = (k : Int) := by rw [IntKind.wrap_u64]; omega
  have ek : (1075 : Int) - E = (k : Int) := by omega
  have el : decide ((1075 : Int) ≤ E) = false := by simp; omega
  simp only [if_true] at hq
  have HQ := Lib.hid hq
  clear hfl hgp hE hF hM he hg hu hs hq hk
  go_enter Tryz.func84, Tryz.ntmps84
  go_wp2_with fail
  refine (setU_int w.heap.size 0 0 M _ (new_intAt w) HM.out).mono ?_
  rintro e w1 ⟨rfl, hi1, hu1⟩
  have HI1 := Lib.hid hi1
  have HB1 := Lib.hid (newB hu1)
  have z1 := hi1.lt
  clear hi1 hu1
  go_wp2_with fail
  refine (neg_int w.heap.size 0 w.heap.size 0 (M : Int) (M : Int) w1 HI1.out HI1.out (by have := dig_len_small (x := M) (by have := HM.out; omega); rw [Int.natAbs_natCast]; omega)).mono ?_
  rintro e w2 ⟨rfl, hi2, hu2⟩
  have HI2 := Lib.hid hi2
  have HB2 := Lib.hid (HB1.out.trans (hu2.below (Nat.le_refl _) HB1.out.size))
  have z2 := hi2.lt
  clear hi2 hu2
  go_wp2_with fail
  refine (newInt_int 1 w2 (by decide) (by decide)).mono ?_
  rintro e w3 ⟨d, rfl, hd1, hd2, hi3, hb3⟩
  have HI3 := Lib.hid hi3
  have HN3 := Lib.hid (HI2.out.below hb3)
  have HB3 := Lib.hid (HB2.out.trans (hb3.mono HB2.out.size))
  have z3 := hb3.size
  clear hi3 hb3
  go_wp2_with fail
  refine (lsh_int d 0 d 0 1 1 k w3 HI3.out HI3.out (by decide) (by omega)).mono ?_
  rintro e w4 ⟨rfl, hi4, hu4⟩
  have eP : (1 : Int) * 2 ^ k = ((2 ^ k : Nat) : Int) := by rw [Int.one_mul, Int.natCast_pow]; rfl
  rw [eP] at hi4
  have HD4 := Lib.hid hi4
  have HN4 := Lib.hid (HN3.out.upd hu4 (fun e => absurd e (by omega)))
  have HB4 := Lib.hid (HB3.out.trans (hu4.below (by omega) HB3.out.size))
  have lN : Hid ((dig ((-(M : Int))).natAbs).length ≤ 1000000) := Lib.hid (by
    have h4 := dig_len_small (x := M) (by have := HM.out; omega)
    have h5 : ((-(M : Int))).natAbs = M := by omega
    rw [h5]
    omega)
  clear hi4 hu4 eP
  go_wp2_with fail
  refine (setFrac_rat b w.heap.size 0 d 0 (-(M : Int)) ((2 ^ k : Nat) : Int) w4 (HZ.out.below HB4.out) HN4.out HD4.out (fun h => by have := Nat.pow_pos (n := k) (show 0 < 2 by decide); omega) lN.out (by rw [Int.natAbs_natCast]; have := dig_pow k; omega)).mono ?_

  rintro e w5 ⟨rfl, hr5, hu5⟩
  rw [HQ.out] at hr5
  have HR5 := Lib.hid hr5
  have HU5 := Lib.hid hu5
  clear hr5 hu5
  go_wp2_with fail
  go_ret
  exact ⟨rfl, HR5.out, _, HB4.out, HU5.out⟩

set_option maxRecDepth 100000 in
set_option maxHeartbeats 4000000 in
theorem setFloat_hp (b u g : Nat) (w : World) (hz : RatObj w b) (hu : u < 18446744073709551616) (hg : g = u % 9223372036854775808) (he : 1075 ≤ u / 2 ^ 52 % 2048 ∧ u / 2 ^ 52 % 2048 < 2047) (hs : u / 9223372036854775808 = 0) :
    Calls Tryz.prog 84 #[.pointer (some ⟨b, 0, none⟩), .float .f64 u] w (FloatPost b (fltQ false g) w) := by
  have hd := run_f64bits
  have b1 := u64_shr52 hu
  have b2 := u64_low52 hu
  have b3 := u64_hid52 (a := u % 2 ^ 52) (by omega)
  have b4 : (((u : Int) / 9223372036854775808) == 1) = false := by rw [show (u : Int) / 9223372036854775808 = 0 by omega]; rfl
  have HZ := Lib.hid hz
  have hblt : b < w.heap.size := by obtain ⟨_, _, h, _⟩ := hz; exact h.lt
  obtain ⟨E, hE⟩ : ∃ E, E = u / 2 ^ 52 % 2048 := ⟨_, rfl⟩
  obtain ⟨F, hF⟩ : ∃ F, F = u % 2 ^ 52 := ⟨_, rfl⟩
  rw [← hE] at b1 he
  rw [← hF] at b2 b3
  have hF2 : F < 2 ^ 52 := by omega
  have hgp : Vr g = (2 ^ 52 + F) * 2 ^ (E - 1) := by
    have h := Vr_parts (s := 2 ^ 52 + F) (j := E - 1) (by omega) (.inr (by omega))
    rw [show g = (E - 1) * 2 ^ 52 + (2 ^ 52 + F) by omega]; exact h
  have hfl := flt_parts false hgp (by omega)
  obtain ⟨M, hM⟩ : ∃ M, M = 2 ^ 52 + F := ⟨_, rfl⟩
  rw [← hM] at hfl b3
  have HM : Hid (M < 18446744073709551616) := Lib.hid (by omega)
  have e0 : ((E : Int) == 0) = false := by simp; omega
  have e1 : ((E : Int) == 2047) = false := by simp; omega
  have hq := hfl.1 (by omega)
  obtain ⟨k, hk⟩ : ∃ k, k = E - 1075 := ⟨_, rfl⟩
  rw [← hk] at hq
  have ek : (E : Int) - 1075 = (k : Int) := by omega
  have k2 : k ≤ 1000 := by omega
  have ew : IntKind.u64.wrap (k : Int) = (k : Int) := by rw [IntKind.wrap_u64]; omega
  have el : decide ((1075 : Int) ≤ E) = true := by simp; omega

  simp only [if_false, Bool.false_eq_true] at hq
  have HQ := Lib.hid hq
  clear hfl hgp hE hF hM he hg hu hs hq hk
  go_enter Tryz.func84, Tryz.ntmps84
  go_wp2_with fail
  refine (setU_int w.heap.size 0 0 M _ (new_intAt w) HM.out).mono ?_
  rintro e w1 ⟨rfl, hi1, hu1⟩
  have HI1 := Lib.hid hi1
  have HB1 := Lib.hid (newB hu1)
  have z1 := hi1.lt
  clear hi1 hu1
  go_wp2_with fail
  obtain ⟨w2, hw2⟩ : ∃ w2, w2 = w1 := ⟨_, rfl⟩
  rw [← hw2] at HI1 HB1 z1 ⊢
  have HI2 := HI1
  have HB2 := HB1
  have z2 := z1
  clear hw2 HI1 HB1 z1
  refine (newInt_int 1 w2 (by decide) (by decide)).mono ?_
  rintro e w3 ⟨d, rfl, hd1, hd2, hi3, hb3⟩
  have HI3 := Lib.hid hi3
  have HN3 := Lib.hid (HI2.out.below hb3)
  have HB3 := Lib.hid (HB2.out.trans (hb3.mono HB2.out.size))
  have z3 := hb3.size
  clear hi3 hb3
  go_wp2_with fail
  refine (lsh_int w.heap.size 0 w.heap.size 0 (M : Int) (M : Int) k w3 HN3.out HN3.out (by have := dig_len_small (x := M) (by have := HM.out; omega); (first | rw [Int.natAbs_neg, Int.natAbs_natCast] | rw [Int.natAbs_natCast]); omega) (by omega)).mono ?_
  rintro e w4 ⟨rfl, hi4, hu4⟩
  have HN4 := Lib.hid hi4
  have HD4 := Lib.hid (HI3.out.upd hu4 (fun e => absurd e (by omega)))
  have HB4 := Lib.hid (HB3.out.trans (hu4.below (Nat.le_refl _) HB3.out.size))
  have lN : Hid ((dig ((M : Int) * 2 ^ k).natAbs).length ≤ 1000000) := Lib.hid (by
    rw [Int.natAbs_mul]
    have h1 := mul_len ((M : Int)).natAbs ((2 : Int) ^ k).natAbs
    have h2 : ((2 : Int) ^ k).natAbs = 2 ^ k := by rw [Int.natAbs_pow]; rfl
    rw [h2] at h1 ⊢
    have h3 := dig_pow k
    have h4 := dig_len_small (x := M) (by have := HM.out; omega)
    have h5 : ((M : Int)).natAbs = M := by omega
    rw [h5] at h1 ⊢
    omega)
  clear hi4 hu4
  go_wp2_with fail
  refine (setFrac_rat b w.heap.size 0 d 0 ((M : Int) * 2 ^ k) 1 w4 (HZ.out.below HB4.out) HN4.out HD4.out (by decide) lN.out (by decide)).mono ?_

  rintro e w5 ⟨rfl, hr5, hu5⟩
  rw [HQ.out] at hr5
  have HR5 := Lib.hid hr5
  have HU5 := Lib.hid hu5
  clear hr5 hu5
  go_wp2_with fail
  go_ret
  exact ⟨rfl, HR5.out, _, HB4.out, HU5.out⟩

set_option maxRecDepth 100000 in
set_option maxHeartbeats 4000000 in
theorem setFloat_hn (b u g : Nat) (w : World) (hz : RatObj w b) (hu : u < 18446744073709551616) (hg : g = u % 9223372036854775808) (he : 1075 ≤ u / 2 ^ 52 % 2048 ∧ u / 2 ^ 52 % 2048 < 2047) (hs : u / 9223372036854775808 = 1) :
    Calls Tryz.prog 84 #[.pointer (some ⟨b, 0, none⟩), .float .f64 u] w (FloatPost b (fltQ true g) w) := by
  have hd := run_f64bits
  have b1 := u64_shr52 hu
  have b2 := u64_low52 hu
  have b3 := u64_hid52 (a := u % 2 ^ 52) (by omega)
  have b4 : (((u : Int) / 9223372036854775808) == 1) = true := by rw [show (u : Int) / 9223372036854775808 = 1 by omega]; rfl
  have HZ := Lib.hid hz
  have hblt : b < w.heap.size := by obtain ⟨_, _, h, _⟩ := hz; exact h.lt
  obtain ⟨E, hE⟩ : ∃ E, E = u / 2 ^ 52 % 2048 := ⟨_, rfl⟩
  obtain ⟨F, hF⟩ : ∃ F, F = u % 2 ^ 52 := ⟨_, rfl⟩
  rw [← hE] at b1 he
  rw [← hF] at b2 b3
  have hF2 : F < 2 ^ 52 := by omega
  have hgp : Vr g = (2 ^ 52 + F) * 2 ^ (E - 1) := by
    have h := Vr_parts (s := 2 ^ 52 + F) (j := E - 1) (by omega) (.inr (by omega))
    rw [show g = (E - 1) * 2 ^ 52 + (2 ^ 52 + F) by omega]; exact h
  have hfl := flt_parts true hgp (by omega)
  obtain ⟨M, hM⟩ : ∃ M, M = 2 ^ 52 + F := ⟨_, rfl⟩
  rw [← hM] at hfl b3
  have HM : Hid (M < 18446744073709551616) := Lib.hid (by omega)
  have e0 : ((E : Int) == 0) = false := by simp; omega
  have e1 : ((E : Int) == 2047) = false := by simp; omega
  have hq := hfl.1 (by omega)
  obtain ⟨k, hk⟩ : ∃ k, k = E - 1075 := ⟨_, rfl⟩
  rw [← hk] at hq
  have ek : (E : Int) - 1075 = (k : Int) := by omega
  have k2 : k ≤ 1000 := by omega
  have ew : IntKind.u64.wrap (k : Int) = (k : Int) := by rw [IntKind.wrap_u64]; omega
  have el : decide ((1075 : Int) ≤ E) = true := by simp; omega

  simp only [if_true] at hq
  have HQ := Lib.hid hq
  clear hfl hgp hE hF hM he hg hu hs hq hk
  go_enter Tryz.func84, Tryz.ntmps84
  go_wp2_with fail
  refine (setU_int w.heap.size 0 0 M _ (new_intAt w) HM.out).mono ?_
  rintro e w1 ⟨rfl, hi1, hu1⟩
  have HI1 := Lib.hid hi1
  have HB1 := Lib.hid (newB hu1)
  have z1 := hi1.lt
  clear hi1 hu1
  go_wp2_with fail
  refine (neg_int w.heap.size 0 w.heap.size 0 (M : Int) (M : Int) w1 HI1.out HI1.out (by have := dig_len_small (x := M) (by have := HM.out; omega); rw [Int.natAbs_natCast]; omega)).mono ?_
  rintro e w2 ⟨rfl, hi2, hu2⟩
  have HI2 := Lib.hid hi2
  have HB2 := Lib.hid (HB1.out.trans (hu2.below (Nat.le_refl _) HB1.out.size))
  have z2 := hi2.lt
  clear hi2 hu2
  go_wp2_with fail
  refine (newInt_int 1 w2 (by decide) (by decide)).mono ?_
  rintro e w3 ⟨d, rfl, hd1, hd2, hi3, hb3⟩
  have HI3 := Lib.hid hi3
  have HN3 := Lib.hid (HI2.out.below hb3)
  have HB3 := Lib.hid (HB2.out.trans (hb3.mono HB2.out.size))
  have z3 := hb3.size
  clear hi3 hb3
  go_wp2_with fail
  refine (lsh_int w.heap.size 0 w.heap.size 0 (-(M : Int)) (-(M : Int)) k w3 HN3.out HN3.out (by have := dig_len_small (x := M) (by have := HM.out; omega); (first | rw [Int.natAbs_neg, Int.natAbs_natCast] | rw [Int.natAbs_natCast]); omega) (by omega)).mono ?_
  rintro e w4 ⟨rfl, hi4, hu4⟩
  have HN4 := Lib.hid hi4
  have HD4 := Lib.hid (HI3.out.upd hu4 (fun e => absurd e (by omega)))
  have HB4 := Lib.hid (HB3.out.trans (hu4.below (Nat.le_refl _) HB3.out.size))
  have lN : Hid ((dig ((-(M : Int)) * 2 ^ k).natAbs).length ≤ 1000000) := Lib.hid (by
    rw [Int.natAbs_mul]
    have h1 := mul_len ((-(M : Int))).natAbs ((2 : Int) ^ k).natAbs
    have h2 : ((2 : Int) ^ k).natAbs = 2 ^ k := by rw [Int.natAbs_pow]; rfl
    rw [h2] at h1 ⊢
    have h3 := dig_pow k
    have h4 := dig_len_small (x := M) (by have := HM.out; omega)
    have h5 : ((-(M : Int))).natAbs = M := by omega
    rw [h5] at h1 ⊢
    omega)
  clear hi4 hu4
  go_wp2_with fail
  refine (setFrac_rat b w.heap.size 0 d 0 ((-(M : Int)) * 2 ^ k) 1 w4 (HZ.out.below HB4.out) HN4.out HD4.out (by decide) lN.out (by decide)).mono ?_

  rintro e w5 ⟨rfl, hr5, hu5⟩
  rw [HQ.out] at hr5
  have HR5 := Lib.hid hr5
  have HU5 := Lib.hid hu5
  clear hr5 hu5
  go_wp2_with fail
  go_ret
  exact ⟨rfl, HR5.out, _, HB4.out, HU5.out⟩

theorem setFloat_rat (b u : Nat) (w : World) (hz : RatObj w b) (hu : u < 18446744073709551616) (hf : u % 9223372036854775808 < 9218868437227405312) :
    Calls Tryz.prog 84 #[.pointer (some ⟨b, 0, none⟩), .float .f64 u] w (FloatPost b (fltQ (decide (9223372036854775808 ≤ u)) (u % 9223372036854775808)) w) := by
  by_cases hs : 9223372036854775808 ≤ u
  · have hs' : u / 9223372036854775808 = 1 := by omega
    rw [show decide (9223372036854775808 ≤ u) = true by simp [hs]]
    by_cases h0 : u / 2 ^ 52 % 2048 = 0
    · exact setFloat_zn b u _ w hz hu rfl h0 hs'
    · by_cases h1 : u / 2 ^ 52 % 2048 < 1075
      · exact setFloat_ln b u _ w hz hu rfl ⟨by omega, h1⟩ hs'
      · exact setFloat_hn b u _ w hz hu rfl ⟨by omega, by omega⟩ hs'
  · have hs' : u / 9223372036854775808 = 0 := by omega
    rw [show decide (9223372036854775808 ≤ u) = false by simp; omega]
    by_cases h0 : u / 2 ^ 52 % 2048 = 0
    · exact setFloat_zp b u _ w hz hu rfl h0 hs'
    · by_cases h1 : u / 2 ^ 52 % 2048 < 1075
      · exact setFloat_lp b u _ w hz hu rfl ⟨by omega, h1⟩ hs'
      · exact setFloat_hp b u _ w hz hu rfl ⟨by omega, by omega⟩ hs'

end Go.Proofs.YtjokpfgncmdomaaGreatDoor
