import Derived.Test.YtjokpfgncmdomaaGreatDoorV01
set_option linter.unusedSimpArgs false
set_option linter.unusedVariables false
/- dyad.Round of what was made right; ratio.Round of any right ratio -/
namespace Go.Proofs.YtjokpfgncmdomaaGreatDoor
open Go.RowKit Go.Sort

theorem blen_mul_pow {m : Nat} (hm : m ≠ 0) (k : Nat) : blen (m * 2 ^ k) = blen m + k := by
  have h := blen_join (k := k) (x := m) (r := 0) hm (Nat.pow_pos (by decide))
  rw [Nat.zero_add, Nat.mul_comm] at h
  omega
theorem right_lim (neg : Bool) {m : Nat} {x : Int} (ho : m % 2 = 1) (hl : blen m ≤ 16384) (h1 : -65536 ≤ x) (h2 : x ≤ 65536) : RightD ⟨neg, lim m, x⟩ := by
  have h0 : m ≠ 0 := by omega
  have hb := blen_pos h0
  refine ⟨⟨?_, ?_⟩, ?_, ?_, h1, h2⟩
  · show 0 < (lim m).length
    rw [lim_len]; omega
  · show (lim m).length ≤ 256
    rw [lim_len]; omega
  · intro y hy
    have hne := lim_pos h0
    have h := (lim_isLim m).2 hne
    have e : (lim m)[(lim m).length - 1]? = some ((lim m).getLast hne) := by
      rw [List.getLast_eq_getElem]
      exact List.getElem?_eq_getElem _
    have hy' : (lim m)[(lim m).length - 1]? = some y := hy
    rw [e] at hy'
    injection hy' with hy'
    rw [← hy']; exact h
  · intro y hy
    have hy' : (lim m)[0]? = some y := hy
    rw [lim_succ h0] at hy'
    injection hy' with hy'
    rw [← hy']
    unfold W64; omega
theorem cmpN_mul {t : Nat} (ht : 0 < t) (a b : Nat) : cmpN (a * t) (b * t) = cmpN a b := by
  unfold cmpN
  by_cases h1 : a < b
  · rw [if_pos h1, if_pos (Nat.mul_lt_mul_of_pos_right h1 ht)]
  · rw [if_neg h1, if_neg (fun h => h1 (Nat.lt_of_mul_lt_mul_right h))]
    by_cases h2 : b < a
    · rw [if_pos h2, if_pos (Nat.mul_lt_mul_of_pos_right h2 ht)]
    · rw [if_neg h2, if_neg (fun h => h2 (Nat.lt_of_mul_lt_mul_right h))]
theorem size_shift {m k c : Nat} (md : Int) (neg : Bool) (h : k < c) : sizeR (m * 2 ^ k) c md neg = sizeR m (c - k) md neg := by
  have hp : 0 < 2 ^ k := Nat.pow_pos (by decide)
  have e1 : 2 ^ c = 2 ^ (c - k) * 2 ^ k := by rw [← Nat.pow_add]; congr 1; omega
  have e2 : 2 ^ (c - 1) = 2 ^ (c - k - 1) * 2 ^ k := by rw [← Nat.pow_add]; congr 1; omega
  unfold sizeR
  rw [e1, e2, Nat.mul_div_mul_right _ _ hp, Nat.mul_mod_mul_right, cmpN_mul hp]
  have e3 : (0 < m % 2 ^ (c - k) * 2 ^ k) ↔ (0 < m % 2 ^ (c - k)) :=
    ⟨fun h3 => Nat.pos_of_ne_zero fun h4 => by rw [h4] at h3; omega, fun h3 => Nat.mul_pos h3 hp⟩
  simp only [e3]
theorem size_fit {m k c : Nat} (md : Int) (neg : Bool) (h : c ≤ k) : sizeR (m * 2 ^ k) c md neg = m * 2 ^ (k - c) := by
  have hp : 0 < 2 ^ c := Nat.pow_pos (by decide)
  have e1 : m * 2 ^ k = m * 2 ^ (k - c) * 2 ^ c := by rw [Nat.mul_assoc, ← Nat.pow_add]; congr 2; omega
  unfold sizeR
  rw [e1, Nat.mul_mod_left, Nat.mul_div_cancel _ hp, if_neg (fun h => absurd h.1 (by omega))]
theorem size_bounds (M c : Nat) (md : Int) (neg : Bool) : M / 2 ^ c ≤ sizeR M c md neg ∧ sizeR M c md neg ≤ M / 2 ^ c + 1 := by
  unfold sizeR
  split <;> omega
/-- the last place that is kept of M times 2^e -/
def lastR (M : Nat) (e : Int) : Int := max ((blen M : Int) + e - 53) (-1074)
theorem round_made {M : Nat} {neg : Bool} {e : Int} (md : Int) {d : DV} {c : Nat} (hM : M ≠ 0) (hd : NormD (if neg then -(M : Int) else (M : Int)) e d) (hl : blen M ≤ 16384) (he : -40000 ≤ e) (he2 : e ≤ 40000) (hc0 : 1 ≤ c) (hc : lastR M e - e = (c : Int)) :
    RoundC d md (fbits neg (sizeR M c md neg) (lastR M e) md) := by
  have hz : (if neg then -(M : Int) else (M : Int)) ≠ 0 := by cases neg <;> simp <;> omega
  have hab : (if neg then -(M : Int) else (M : Int)).natAbs = M := by cases neg <;> simp
  have hng : decide ((if neg then -(M : Int) else (M : Int)) < 0) = neg := by cases neg <;> simp <;> omega
  rcases hd with ⟨h, _⟩ | ⟨_, k, hk, rfl⟩
  · exact absurd h hz
  rw [hab] at hk ⊢
  rw [hng]
  obtain ⟨m, hm⟩ : ∃ m, m = M / 2 ^ k := ⟨_, rfl⟩
  have hMm : M = m * 2 ^ k := by
    have h1 := Nat.div_add_mod M (2 ^ k)
    rw [hk.2, Nat.add_zero, Nat.mul_comm, ← hm] at h1
    exact h1.symm
  have ho : m % 2 = 1 := by rw [hm]; exact hk.1
  have m0 : m ≠ 0 := by omega
  rw [← hm]
  have hbl : blen M = blen m + k := by rw [hMm]; exact blen_mul_pow m0 k
  have hb1 := blen_pos m0
  have hln : ln (lim m) = m := ln_dig m
  obtain ⟨L, hL⟩ : ∃ L, L = lastR M e := ⟨_, rfl⟩
  rw [← hL] at hc ⊢
  have hL' : L = max ((blen M : Int) + e - 53) (-1074) := hL
  -- the float's contract
  have hp : 0 < 2 ^ c := Nat.pow_pos (by decide)
  have hq53 : M / 2 ^ c < 2 ^ 53 := by
    refine Nat.div_lt_of_lt_mul ?_
    rw [← Nat.pow_add]
    exact Nat.lt_of_lt_of_le blen_lt (Nat.pow_le_pow_right (by decide) (by omega))
  have hq52 : L = -1074 ∨ 2 ^ 52 ≤ M / 2 ^ c := by
    by_cases h : L = -1074
    · exact .inl h
    · right
      rw [Nat.le_div_iff_mul_le hp, ← Nat.pow_add]
      exact Nat.le_trans (Nat.pow_le_pow_right (by decide) (by omega)) (blen_le hM)
  have hsb := size_bounds M c md neg
  have hF : FloatC neg (sizeR M c md neg) L md (fbits neg (sizeR M c md neg) L md) :=
    float_any neg _ L md (by omega) (by omega) (by omega) (hq52.imp id (fun h => by omega))
  generalize fbits neg (sizeR M c md neg) L md = x at hF ⊢
  intro v w hv hw
  have hR : RightD ⟨neg, lim m, e + k⟩ := right_lim neg ho (by omega) (by omega) (by omega)
  by_cases hck : k < c
  · have hs : sizeR M c md neg = sizeR (ln (lim m)) (c - k) md neg := by rw [hMm, hln]; exact size_shift md neg hck
    rw [hs] at hF
    rcases Int.lt_trichotomy ((blen M : Int) + e - 53) (-1074) with h | h | h
    · have : L = -1074 := by omega
      rw [this] at hF
      exact round_low v ⟨neg, lim m, e + k⟩ md x (c - k) w hv hR hw (by show e + k + (blen (ln (lim m)) : Int) - 53 < -1074; rw [hln]; omega) (by show -1074 - (e + k) = _; omega) (by omega) hF
    · have : L = -1074 := by omega
      rw [this] at hF
      exact round_tie v ⟨neg, lim m, e + k⟩ md x (c - k) w hv hR hw (by show e + k + (blen (ln (lim m)) : Int) - 53 = -1074; rw [hln]; omega) (by show -1074 - (e + k) = _; omega) (by omega) hF
    · exact round_cut v ⟨neg, lim m, e + k⟩ md x (c - k) L w hv hR hw (by show L = e + k + (blen (ln (lim m)) : Int) - 53; rw [hln]; omega) (by omega) (by show L - (e + k) = _; omega) (by omega) hF
  · have hs : sizeR M c md neg = ln (lim m) * 2 ^ (k - c) := by rw [hMm, hln]; exact size_fit md neg (by omega)
    rw [hs] at hF
    rcases Int.lt_trichotomy ((blen M : Int) + e - 53) (-1074) with h | h | h
    · have : L = -1074 := by omega
      rw [this] at hF
      exact round_fit_low v ⟨neg, lim m, e + k⟩ md x (k - c) w hv hR hw (by show e + k + (blen (ln (lim m)) : Int) - 53 < -1074; rw [hln]; omega) (by show e + k - -1074 = _; omega) hF
    · have : L = -1074 := by omega
      rw [this] at hF
      exact round_fit_tie v ⟨neg, lim m, e + k⟩ md x (k - c) w hv hR hw (by show e + k + (blen (ln (lim m)) : Int) - 53 = -1074; rw [hln]; omega) (by show e + k - -1074 = _; omega) hF
    · exact round_fit v ⟨neg, lim m, e + k⟩ md x (k - c) L w hv hR hw (by show L = e + k + (blen (ln (lim m)) : Int) - 53; rw [hln]; omega) (by omega) (by show e + k - L = _; omega) hF

/-- the places that are kept of N over D, and one that says whether anything is left -/
def rndB (N D : Nat) : Int := 70 + (blen D : Int) - blen N
def stk (Y E : Nat) : Nat := if Y % E = 0 then 2 * (Y / E) else 2 * (Y / E) + 1
def rndM (N D : Nat) : Nat := stk (N * 2 ^ (rndB N D).toNat) (D * 2 ^ (-rndB N D).toNat)
/-- N over D as a float -/
def rnd (neg : Bool) (N D : Nat) (md : Int) : Nat :=
  if N = 0 then 0 else fbits neg (sizeR (rndM N D) (lastR (rndM N D) (-rndB N D - 1) - (-rndB N D - 1)).toNat md neg) (lastR (rndM N D) (-rndB N D - 1)) md
theorem quot_bounds {N D : Nat} (hN : N ≠ 0) (hD : D ≠ 0) {Y E : Nat} (hY : Y = N * 2 ^ (rndB N D).toNat) (hE : E = D * 2 ^ (-rndB N D).toNat) : 2 ^ 69 ≤ Y / E ∧ Y / E < 2 ^ 71 := by
  have hE0 : 0 < E := by rw [hE]; exact Nat.mul_pos (Nat.pos_of_ne_zero hD) (Nat.pow_pos (by decide))
  have n1 := blen_le hN
  have n2 := blen_lt (N := N)
  have d1 := blen_le hD
  have d2 := blen_lt (N := D)
  have bN := blen_pos hN
  have bD := blen_pos hD
  obtain ⟨B, hB⟩ : ∃ B, B = (rndB N D).toNat := ⟨_, rfl⟩
  obtain ⟨C, hC⟩ : ∃ C, C = (-rndB N D).toNat := ⟨_, rfl⟩
  rw [← hB] at hY
  rw [← hC] at hE
  have hx : blen N + B = 70 + blen D + C := by unfold rndB at hB hC; omega
  constructor
  · rw [Nat.le_div_iff_mul_le hE0, hY, hE]
    have h1 : 2 ^ 69 * (D * 2 ^ C) ≤ 2 ^ 69 * (2 ^ blen D * 2 ^ C) := Nat.mul_le_mul_left _ (Nat.mul_le_mul_right _ (Nat.le_of_lt d2))
    have h2 : 2 ^ (blen N - 1) * 2 ^ B ≤ N * 2 ^ B := Nat.mul_le_mul_right _ n1
    have h3 : 2 ^ 69 * (2 ^ blen D * 2 ^ C) = 2 ^ (blen N - 1) * 2 ^ B := by
      rw [← Nat.pow_add, ← Nat.pow_add, ← Nat.pow_add]; congr 1; omega
    omega
  · rw [Nat.div_lt_iff_lt_mul hE0, hY, hE]
    have h1 : 2 ^ 71 * (2 ^ (blen D - 1) * 2 ^ C) ≤ 2 ^ 71 * (D * 2 ^ C) := Nat.mul_le_mul_left _ (Nat.mul_le_mul_right _ d1)
    have h2 : N * 2 ^ B < 2 ^ blen N * 2 ^ B := Nat.mul_lt_mul_of_pos_right n2 (Nat.pow_pos (by decide))
    have h3 : 2 ^ 71 * (2 ^ (blen D - 1) * 2 ^ C) = 2 ^ blen N * 2 ^ B := by
      rw [← Nat.pow_add, ← Nat.pow_add, ← Nat.pow_add]; congr 1; omega
    omega
theorem rndM_bounds {N D : Nat} (hN : N ≠ 0) (hD : D ≠ 0) : 2 ^ 70 ≤ rndM N D ∧ rndM N D < 2 ^ 72 := by
  have h := quot_bounds hN hD rfl rfl
  unfold rndM stk
  generalize N * 2 ^ (rndB N D).toNat / (D * 2 ^ (-rndB N D).toNat) = Q at h ⊢
  split <;> omega
theorem lim_short {M : Nat} (h : M < 2 ^ 72) : (lim M).length ≤ 70 := lim_len_le (Nat.lt_of_lt_of_le h (by unfold W64; decide +kernel))
theorem dig_long {M : Nat} (h : 2 ^ 70 ≤ M) : 2 ≤ (dig M).length := by
  have h1 := lt_dig_len M
  by_cases h2 : 2 ≤ (dig M).length
  · exact h2
  · have h3 : W32 ^ (dig M).length ≤ W32 ^ 1 := Nat.pow_le_pow_right (by decide) (by omega)
    have : W32 ^ 1 ≤ 2 ^ 70 := by unfold W32; decide
    omega
theorem right_zeroN {s : Bool} {ns ds : List Nat} (h : rightB ⟨s, ns, ds⟩ = true) (hl : Lds ns) (h0 : ln ns = 0) : s = false ∧ ns = [] ∧ ds = [1] := by
  unfold rightB at h
  simp only at h
  by_cases h1 : ns.length = 0
  · rw [if_pos h1] at h
    have e1 := List.eq_nil_of_length_eq_zero h1
    simp at h
    exact ⟨h.1, e1, h.2⟩
  · rw [if_neg h1] at h
    simp only [Bool.and_eq_true] at h
    exact absurd h0 (topB_ne h.1.1 hl)
theorem round_right (v : Value) (r : RV) (md : Int) (w : World) (hr : RAt w v r) (hright : rightB r = true) (hw : Laid w) :
    Calls Tryz.prog 11 #[v, .int .i8 md] w fun e w' => e = .returned (.tuple #[.float .f64 (rnd r.neg (ln r.num) (ln r.den) md), .int .i64 0]) ∧ Below w.heap.size w w' := by
  obtain ⟨s, ns, ds⟩ := r
  have hr' := hr
  obtain ⟨A, n, c, A', n', c', rfl, hx, hy, hxl, hyl⟩ := hr'
  simp only at hx hy hxl hyl ⊢
  have hl := right_len hright
  have hD := right_den hright hyl
  simp only at hl hD
  have bN : blen (ln ns) ≤ 16384 := blen_of_dig (k := 512) (Nat.le_trans (dig_ln_len hxl) (by omega))
  have bD : blen (ln ds) ≤ 16384 := blen_of_dig (k := 512) (Nat.le_trans (dig_ln_len hyl) (by omega))
  by_cases hN : ln ns = 0
  · have hz := right_zeroN hright hxl hN
    obtain ⟨rfl, rfl, rfl⟩ := hz
    have e : rnd false (ln []) (ln [1]) md = 0 := by unfold rnd; exact if_pos (show ln [] = 0 from rfl)
    rw [e]
    refine round_ratio_z _ ⟨false, [], [1]⟩ md 0 71 w hr hright hw (by decide) (by decide) (by decide) (by decide) ?_
    intro d hd
    rcases hd with ⟨_, rfl⟩ | ⟨h, _⟩
    · exact fun v w hv _ => round_zero v md w hv
    · exact absurd (by decide) h
  · have hM := rndM_bounds hN hD
    have hq := quot_bounds hN hD rfl rfl
    have hbl : blen (rndM (ln ns) (ln ds)) = 71 ∨ blen (rndM (ln ns) (ln ds)) = 72 := by
      have h1 : blen (rndM (ln ns) (ln ds)) ≤ 72 := blen_le_of_lt hM.2
      have h2 := blen_lt (N := rndM (ln ns) (ln ds))
      by_cases h3 : blen (rndM (ln ns) (ln ds)) ≤ 70
      · have := Nat.pow_le_pow_right (show 0 < 2 by decide) h3
        omega
      · omega
    have hx : rnd s (ln ns) (ln ds) md = fbits s (sizeR (rndM (ln ns) (ln ds)) (lastR (rndM (ln ns) (ln ds)) (-rndB (ln ns) (ln ds) - 1) - (-rndB (ln ns) (ln ds) - 1)).toNat md s) (lastR (rndM (ln ns) (ln ds)) (-rndB (ln ns) (ln ds) - 1)) md := by
      unfold rnd; rw [if_neg hN]
    have key : ∀ d, NormD (if s then -(rndM (ln ns) (ln ds) : Int) else (rndM (ln ns) (ln ds) : Int)) (-rndB (ln ns) (ln ds) - 1) d → RoundC d md (rnd s (ln ns) (ln ds) md) := by
      intro d hd
      rw [hx]
      have hB : -17000 ≤ rndB (ln ns) (ln ds) ∧ rndB (ln ns) (ln ds) ≤ 17000 := by unfold rndB; omega
      refine round_made md (by omega) hd (by omega) (by omega) (by omega) ?_ ?_
      · unfold lastR; omega
      · unfold lastR; omega
    have hlim := lim_short hM.2
    have hB0 : rndB (ln ns) (ln ds) = 70 + (blen (ln ds) : Int) - blen (ln ns) := rfl
    have hMdef : rndM (ln ns) (ln ds) = stk (ln ns * 2 ^ (rndB (ln ns) (ln ds)).toNat) (ln ds * 2 ^ (-rndB (ln ns) (ln ds)).toNat) := rfl
    generalize rnd s (ln ns) (ln ds) md = x at key ⊢
    generalize rndM (ln ns) (ln ds) = M at hM key hlim hMdef
    by_cases hB : 0 ≤ rndB (ln ns) (ln ds)
    · obtain ⟨B, hB'⟩ : ∃ B : Nat, rndB (ln ns) (ln ds) = (B : Int) := ⟨(rndB (ln ns) (ln ds)).toNat, by omega⟩
      rw [hB'] at key hMdef hB0 hq
      rw [show (-(B : Int)).toNat = 0 by omega, Int.toNat_natCast, Nat.pow_zero, Nat.mul_one] at hMdef hq
      unfold stk at hMdef
      by_cases hR : ln ns * 2 ^ B % ln ds = 0
      · rw [if_pos hR] at hMdef
        subst hMdef
        exact round_ratio_z _ ⟨s, ns, ds⟩ md x B w hr hright hw hB0.symm (by omega) hlim hR key
      · rw [if_neg hR] at hMdef
        subst hMdef
        exact round_ratio _ ⟨s, ns, ds⟩ md x B w hr hright hw hB0.symm (by omega) hlim hR (dig_long (by show 2 ^ 70 ≤ 2 * (ln ns * 2 ^ B / ln ds); omega)) key
    · obtain ⟨B, hB'⟩ : ∃ B : Nat, rndB (ln ns) (ln ds) = -(B : Int) := ⟨(-rndB (ln ns) (ln ds)).toNat, by omega⟩
      rw [hB'] at key hMdef hB0 hq
      rw [Int.neg_neg] at key hMdef hq
      rw [show (-(B : Int)).toNat = 0 by omega, Int.toNat_natCast, Nat.pow_zero, Nat.mul_one] at hMdef hq
      unfold stk at hMdef
      by_cases hR : ln ns % (ln ds * 2 ^ B) = 0
      · rw [if_pos hR] at hMdef
        subst hMdef
        exact round_ratio_nz _ ⟨s, ns, ds⟩ md x B w hr hright hw hB0.symm (by omega) (by omega) hlim hR key
      · rw [if_neg hR] at hMdef
        subst hMdef
        exact round_ratio_n _ ⟨s, ns, ds⟩ md x B w hr hright hw hB0.symm (by omega) (by omega) hlim hR (dig_long (by show 2 ^ 70 ≤ 2 * (ln ns / (ln ds * 2 ^ B)); omega)) key

end Go.Proofs.YtjokpfgncmdomaaGreatDoor

/- what is rounded: rungs and their values (plain) -/
namespace Go.Proofs.YtjokpfgncmdomaaGreatDoor

/-- the value of a rung of the floats above 0 (in units of the least one); rungs go on behind the greatest number -/
def Vr (g : Nat) : Nat := if g < 2 ^ 52 then g else (2 ^ 52 + g % 2 ^ 52) * 2 ^ (g / 2 ^ 52 - 1)
theorem Vr_parts {s j : Nat} (hs : s ≤ 2 ^ 53) (hn : j = 0 ∨ 2 ^ 52 ≤ s) : Vr (j * 2 ^ 52 + s) = s * 2 ^ j := by
  unfold Vr
  by_cases h : j * 2 ^ 52 + s < 2 ^ 52
  · rw [if_pos h]
    have : j = 0 := by omega
    subst this
    omega
  · rw [if_neg h]
    have h1 : 2 ^ 52 ≤ s := by omega
    by_cases h2 : s = 2 ^ 53
    · have e1 : (j * 2 ^ 52 + s) % 2 ^ 52 = 0 := by omega
      have e2 : (j * 2 ^ 52 + s) / 2 ^ 52 - 1 = j + 1 := by omega
      rw [e1, e2, h2, Nat.pow_succ]
      omega
    · have e1 : (j * 2 ^ 52 + s) % 2 ^ 52 = s - 2 ^ 52 := by omega
      have e2 : (j * 2 ^ 52 + s) / 2 ^ 52 - 1 = j := by omega
      rw [e1, e2, show 2 ^ 52 + (s - 2 ^ 52) = s by omega]
/-- each rung has its parts -/
theorem rung_has (g : Nat) : ∃ j s, g = j * 2 ^ 52 + s ∧ s < 2 ^ 53 ∧ (j = 0 ∨ 2 ^ 52 ≤ s) := by
  by_cases h : g < 2 ^ 52
  · exact ⟨0, g, by omega, by omega, .inl rfl⟩
  · exact ⟨g / 2 ^ 52 - 1, 2 ^ 52 + g % 2 ^ 52, by omega, by omega, .inr (by omega)⟩
end Go.Proofs.YtjokpfgncmdomaaGreatDoor

/- (*bignum.Rat).SetFloat64, ratio.Of: the walks (printed by gen_t20.py) -/
namespace Go.Proofs.YtjokpfgncmdomaaGreatDoor
open Go.RowKit Go.Sort

/-- the number of a rung -/
def fltQ (neg : Bool) (g : Nat) : Rat := Rat.divInt (if neg then -(Vr g : Int) else (Vr g : Int)) ((2 ^ 1074 : Nat) : Int)
theorem u64_shr52 {u : Nat} (hu : u < 18446744073709551616) : bits BinOp.and IntKind.u64 ((u : Int) / 4503599627370496) 2047 = ((u / 2 ^ 52 % 2048 : Nat) : Int) := by
  have h := bits_and_u64_nat (u / 2 ^ 52) 2047 (by omega) (by decide)
  rw [show (2047 : Nat) = 2 ^ 11 - 1 by decide, Nat.and_two_pow_sub_one_eq_mod] at h
  exact h
theorem u64_low52 {u : Nat} (hu : u < 18446744073709551616) : bits BinOp.and IntKind.u64 (u : Int) 4503599627370495 = ((u % 2 ^ 52 : Nat) : Int) := by
  have h := bits_and_u64_nat u 4503599627370495 hu (by decide)
  rw [show (4503599627370495 : Nat) = 2 ^ 52 - 1 by decide, Nat.and_two_pow_sub_one_eq_mod] at h
  exact h
theorem u64_hid52 {a : Nat} (ha : a < 2 ^ 52) : bits BinOp.or IntKind.u64 (a : Int) 4503599627370496 = ((2 ^ 52 + a : Nat) : Int) := by
  have h := or_exp (a := a) (P := 1) ha (by decide)
  rw [Nat.one_mul] at h
  exact h
theorem flt_parts (neg : Bool) {m e : Nat} {g : Nat} (hg : Vr g = m * 2 ^ (e - 1)) (he : 1 ≤ e) :
    (1075 ≤ e → Rat.divInt ((if neg then -(m : Int) else (m : Int)) * 2 ^ (e - 1075)) 1 = fltQ neg g) ∧ (e < 1075 → Rat.divInt (if neg then -(m : Int) else (m : Int)) (((2 ^ (1075 - e) : Nat)) : Int) = fltQ neg g) := by
  obtain ⟨n, hn⟩ : ∃ n : Nat, n = 1074 := ⟨_, rfl⟩
  have hp : ∀ k : Nat, (((2 ^ k : Nat)) : Int) ≠ 0 := fun k h => by have := Nat.pow_pos (n := k) (show 0 < 2 by decide); omega
  unfold fltQ
  rw [hg, ← hn]
  constructor
  · intro h
    rw [Rat.divInt_eq_divInt_iff (by decide) (hp n)]
    have e1 : (m * 2 ^ (e - 1) : Nat) = m * 2 ^ (e - 1075) * 2 ^ n := by rw [Nat.mul_assoc, ← Nat.pow_add]; congr 2; omega
    rw [e1, Int.mul_one]
    cases neg
    · simp only [if_false, Bool.false_eq_true, Int.natCast_mul, Int.natCast_pow]; rfl
    · simp only [if_true, Int.natCast_mul, Int.natCast_pow, Int.neg_mul]; rfl
  · intro h
    rw [Rat.divInt_eq_divInt_iff (hp _) (hp n)]
    have e1 : (m * 2 ^ (e - 1) : Nat) * 2 ^ (1075 - e) = m * 2 ^ n := by rw [Nat.mul_assoc, ← Nat.pow_add]; congr 2; omega
    have e2 : ((m * 2 ^ (e - 1) : Nat) : Int) * ((2 ^ (1075 - e) : Nat) : Int) = (m : Int) * ((2 ^ n : Nat) : Int) := by rw [← Int.natCast_mul, e1, Int.natCast_mul]
    cases neg
    · simp only [if_false, Bool.false_eq_true]
      exact e2.symm
    · simp only [if_true, Int.neg_mul]
      rw [e2]
theorem Vr_lt_inf {g : Nat} (h : g < 9218868437227405312) : Vr g < 2 ^ 2098 := by
  obtain ⟨j, s, rfl, h1, h2⟩ := rung_has g
  rw [Vr_parts (by omega) h2]
  have hj : j ≤ 2045 := by omega
  obtain ⟨a, ha⟩ : ∃ a : Nat, a = 2098 := ⟨_, rfl⟩
  rw [← ha]
  have h3 : s * 2 ^ j < 2 ^ 53 * 2 ^ j := Nat.mul_lt_mul_of_pos_right h1 (Nat.pow_pos (by decide))
  rw [← Nat.pow_add] at h3
  exact Nat.lt_of_lt_of_le h3 (Nat.pow_le_pow_right (by decide) (by omega))
theorem fits_flt (neg : Bool) {g : Nat} (h : g < 9218868437227405312) : fits (fltQ neg g) ∧ Sz 512 (fltQ neg g) := by
  obtain ⟨n, hn⟩ : ∃ n : Nat, n = 1074 := ⟨_, rfl⟩
  obtain ⟨a, ha⟩ : ∃ a : Nat, a = 2098 := ⟨_, rfl⟩
  have hV : Vr g < 2 ^ a := by rw [ha]; exact Vr_lt_inf h
  have hp : 0 < 2 ^ n := Nat.pow_pos (by decide)
  have hd := dsz (N := (if neg then -(Vr g : Int) else (Vr g : Int))) (D := ((2 ^ n : Nat) : Int)) (by omega)
  have e1 : (if neg then -(Vr g : Int) else (Vr g : Int)).natAbs = Vr g := by cases neg <;> simp
  rw [e1, Int.natAbs_natCast] at hd
  have hq : fltQ neg g = Rat.divInt (if neg then -(Vr g : Int) else (Vr g : Int)) ((2 ^ n : Nat) : Int) := by rw [hn]; rfl
  rw [← hq] at hd
  obtain ⟨k, hk⟩ : ∃ k : Nat, k = 33 := ⟨_, rfl⟩
  obtain ⟨l, hl⟩ : ∃ l : Nat, l = 66 := ⟨_, rfl⟩
  have w1 : 2 ^ a ≤ W64 ^ k := by rw [W64_pow]; exact Nat.pow_le_pow_right (by decide) (by omega)
  have w2 : 2 ^ n < W64 ^ k := by rw [W64_pow]; exact Nat.pow_lt_pow_right (by decide) (by omega)
  have w3 : 2 ^ a ≤ W32 ^ l := by rw [W32_pow]; exact Nat.pow_le_pow_right (by decide) (by omega)
  have w4 : 2 ^ n < W32 ^ l := by rw [W32_pow]; exact Nat.pow_lt_pow_right (by decide) (by omega)
  have f1 : (lim (fltQ neg g).num.natAbs).length ≤ k := lim_len_le (by omega)
  have f2 : (lim (fltQ neg g).den).length ≤ k := lim_len_le (by omega)
  have f3 : (dig (fltQ neg g).num.natAbs).length ≤ l := dig_len_le (by omega)
  have f4 : (dig (fltQ neg g).den).length ≤ l := dig_len_le (by omega)
  exact ⟨⟨by omega, by omega⟩, ⟨by omega, by omega⟩⟩

set_option maxRecDepth 100000 in
set_option maxHeartbeats 4000000 in
theorem setFloat_inf (b u : Nat) (w : World) (hu : u < 18446744073709551616) (hi : u / 2 ^ 52 % 2048 = 2047) :
    Calls Tryz.prog 84 #[.pointer (some ⟨b, 0, none⟩), .float .f64 u] w fun e w' => e = .returned (.pointer none) ∧ w = w' := by
  have hd := run_f64bits
  have b1 := u64_shr52 hu
  have b2 := u64_low52 hu
  rw [hi] at b1
  clear hi
  go_enter Tryz.func84, Tryz.ntmps84
  go_wp2_with fail
  go_ret
  exact ⟨rfl, rfl⟩
/-- the shape of SetFloat64's memory: new cells, then the receiver's -/
def FloatPost (b : Nat) (q : Rat) (w : World) (e : Ending) (w' : World) : Prop := e = .returned (.pointer (some ⟨b, 0, none⟩)) ∧ RatAt w' b q ∧ ∃ wm, Below w.heap.size w wm ∧ UpB wm w' b

set_option maxRecDepth 100000 in
set_option maxHeartbeats 4000000 in
theorem setFloat_zp (b u g : Nat) (w : World) (hz : RatObj w b) (hu : u < 18446744073709551616) (hg : g = u % 9223372036854775808) (he : u / 2 ^ 52 % 2048 = 0) (hs : u / 9223372036854775808 = 0) :
    Calls Tryz.prog 84 #[.pointer (some ⟨b, 0, none⟩), .float .f64 u] w (FloatPost b (fltQ false g) w) := by
  have hd := run_f64bits
  have b1 := u64_shr52 hu
  have b2 := u64_low52 hu
  have b3 := u64_hid52 (a := u % 2 ^ 52) (by omega)
  have b4 : (((u : Int) / 9223372036854775808) == 1) = false := by rw [show (u : Int) / 9223372036854775808 = 0 by omega]; rfl
  have HZ := Lib.hid hz
  have hblt : b < w.heap.size := by obtain ⟨_, _, h, _⟩ := hz; exact h.lt
  obtain ⟨E, hE⟩ : ∃ E, E = u / 2 ^ 52 % 2048 := ⟨_, rfl⟩
  obtain ⟨F, hF⟩ : ∃ F, F = u % 2 ^ 52 := ⟨_, rfl⟩
  rw [← hE] at b1 he
  rw [← hF] at b2 b3
  have hF2 : F < 2 ^ 52 := by omega
  obtain rfl : E = 0 := he
  have hgp : Vr g = F * 2 ^ (1 - 1) := by
    have h := Vr_parts (s := F) (j := 0) (by omega) (.inl rfl)
    rw [show g = 0 * 2 ^ 52 + F by omega]; exact h
  have hfl := flt_parts false hgp (Nat.le_refl _)
  obtain ⟨M, hM⟩ : ∃ M, M = F := ⟨_, rfl⟩
  rw [← hM] at hfl b2
  have HM : Hid (M < 18446744073709551616) := Lib.hid (by omega)
  have hq := hfl.2 (by omega)
  obtain ⟨k, hk⟩ : ∃ k, k = 1075 - 1 := ⟨_, rfl⟩
  rw [← hk] at hq
  have k2 : k ≤ 1100 := by omega
  have ew : IntKind.u64.wrap (k : Int) = (k : Int) := by rw [IntKind.wrap_u64]; omega
  have HK : Hid ((1074 : Int) = (k : Int)) := Lib.hid (by omega)
  simp only [if_false, Bool.false_eq_true] at hq
  have HQ := Lib.hid hq
  clear hfl hgp hE hF hM hg hu hs hq hk
  go_enter Tryz.func84, Tryz.ntmps84
  go_wp2_with fail
  refine (setU_int w.heap.size 0 0 M _ (new_intAt w) HM.out).mono ?_
  rintro e w1 ⟨rfl, hi1, hu1⟩
  have HI1 := Lib.hid hi1
  have HB1 := Lib.hid (newB hu1)
  have z1 := hi1.lt
  clear hi1 hu1
  go_wp2_with fail
  obtain ⟨w2, hw2⟩ : ∃ w2, w2 = w1 := ⟨_, rfl⟩
  rw [← hw2] at HI1 HB1 z1 ⊢
  have HI2 := HI1
  have HB2 := HB1
  have z2 := z1
  clear hw2 HI1 HB1 z1
  refine (newInt_int 1 w2 (by decide) (by decide)).mono ?_
  rintro e w3 ⟨d, rfl, hd1, hd2, hi3, hb3⟩
  have HI3 := Lib.hid hi3
  have HN3 := Lib.hid (HI2.out.below hb3)
  have HB3 := Lib.hid (HB2.out.trans (hb3.mono HB2.out.size))
  have z3 := hb3.size
  clear hi3 hb3
  go_wp2_with fail
  rw [HK.out]
  refine (lsh_int d 0 d 0 1 1 k w3 HI3.out HI3.out (by decide) (by omega)).mono ?_
  rintro e w4 ⟨rfl, hi4, hu4⟩
  have eP : (1 : Int) * 2 ^ k = ((2 ^ k : Nat) : Int) := by rw [Int.one_mul, Int.natCast_pow]; rfl
  rw [eP] at hi4
  have HD4 := Lib.hid hi4
  have HN4 := Lib.hid (HN3.out.upd hu4 (fun e => absurd e (by omega)))
  have HB4 := Lib.hid (HB3.out.trans (hu4.below (by omega) HB3.out.size))
  have lN : Hid ((dig ((M : Int)).natAbs).length ≤ 1000000) := Lib.hid (by
    have h4 := dig_len_small (x := M) (by have := HM.out; omega)
    have h5 : ((M : Int)).natAbs = M := by omega
    rw [h5]
    omega)
  clear hi4 hu4 eP
  go_wp2_with fail
  refine (setFrac_rat b w.heap.size 0 d 0 (M : Int) ((2 ^ k : Nat) : Int) w4 (HZ.out.below HB4.out) HN4.out HD4.out (fun h => by have := Nat.pow_pos (n := k) (show 0 < 2 by decide); omega) lN.out (by rw [Int.natAbs_natCast]; have := dig_pow k; omega)).mono ?_

  rintro e w5 ⟨rfl, hr5, hu5⟩
  rw [HQ.out] at hr5
  have HR5 := Lib.hid hr5
  have HU5 := Lib.hid hu5
  clear hr5 hu5
  go_wp2_with fail
  go_ret
  exact ⟨rfl, HR5.out, _, HB4.out, HU5.out⟩

set_option maxRecDepth 100000 in
set_option maxHeartbeats 4000000 in
theorem setFloat_zn (b u g : Nat) (w : World) (hz : RatObj w b) (hu : u < 18446744073709551616) (hg : g = u % 9223372036854775808) (he : u / 2 ^ 52 % 2048 = 0) (hs : u / 9223372036854775808 = 1) :
    Calls Tryz.prog 84 #[.pointer (some ⟨b, 0, none⟩), .float .f64 u] w (FloatPost b (fltQ true g) w) := by
  have hd := run_f64bits
  have b1 := u64_shr52 hu
  have b2 := u64_low52 hu
  have b3 := u64_hid52 (a := u % 2 ^ 52) (by omega)
  have b4 : (((u : Int) / 9223372036854775808) == 1) = true := by rw [show (u : Int) / 9223372036854775808 = 1 by omega]; rfl
  have HZ := Lib.hid hz
  have hblt : b < w.heap.size := by obtain ⟨_, _, h, _⟩ := hz; exact h.lt
  obtain ⟨E, hE⟩ : ∃ E, E = u / 2 ^ 52 % 2048 := ⟨_, rfl⟩
  obtain ⟨F, hF⟩ : ∃ F, F = u % 2 ^ 52 := ⟨_, rfl⟩
  rw [← hE] at b1 he
  rw [← hF] at b2 b3
  have hF2 : F < 2 ^ 52 := by omega
  obtain rfl : E = 0 := he
  have hgp : Vr g = F * 2 ^ (1 - 1) := by
    have h := Vr_parts (s := F) (j := 0) (by omega) (.inl rfl)
    rw [show g = 0 * 2 ^ 52 + F by omega]; exact h
  have hfl := flt_parts true hgp (Nat.le_refl _)
  obtain ⟨M, hM⟩ : ∃ M, M = F := ⟨_, rfl⟩
  rw [← hM] at hfl b2
  have HM : Hid (M < 18446744073709551616) := Lib.hid (by omega)
  have hq := hfl.2 (by omega)
  obtain ⟨k, hk⟩ : ∃ k, k = 1075 - 1 := ⟨_, rfl⟩
  rw [← hk] at hq
  have k2 : k ≤ 1100 := by omega
  have ew : IntKind.u64.wrap (k : Int) = (k : Int) := by rw [IntKind.wrap_u64]; omega
  have HK : Hid ((1074 : Int) = (k : Int)) := Lib.hid (by omega)
  simp only [if_true] at hq
  have HQ := Lib.hid hq
  clear hfl hgp hE hF hM hg hu hs hq hk
  go_enter Tryz.func84, Tryz.ntmps84
  go_wp2_with fail
  refine (setU_int w.heap.size 0 0 M _ (new_intAt w) HM.out).mono ?_
  rintro e w1 ⟨rfl, hi1, hu1⟩
  have HI1 := Lib.hid hi1
  have HB1 := Lib.hid (newB hu1)
  have z1 := hi1.lt
  clear hi1 hu1
  go_wp2_with fail
  refine (neg_int w.heap.size 0 w.heap.size 0 (M : Int) (M : Int) w1 HI1.out HI1.out (by have := dig_len_small (x := M) (by have := HM.out; omega); rw [Int.natAbs_natCast]; omega)).mono ?_
  rintro e w2 ⟨rfl, hi2, hu2⟩
  have HI2 := Lib.hid hi2
  have HB2 := Lib.hid (HB1.out.trans (hu2.below (Nat.le_refl _) HB1.out.size))
  have z2 := hi2.lt
  clear hi2 hu2
  go_wp2_with fail
  refine (newInt_int 1 w2 (by decide) (by decide)).mono ?_
  rintro e w3 ⟨d, rfl, hd1, hd2, hi3, hb3⟩
  have HI3 := Lib.hid hi3
  have HN3 := Lib.hid (HI2.out.below hb3)
  have HB3 := Lib.hid (HB2.out.trans (hb3.mono HB2.out.size))
  have z3 := hb3.size
  clear hi3 hb3
  go_wp2_with fail
  rw [HK.out]
  refine (lsh_int d 0 d 0 1 1 k w3 HI3.out HI3.out (by decide) (by omega)).mono ?_
  rintro e w4 ⟨rfl, hi4, hu4⟩
  have eP : (1 : Int) * 2 ^ k = ((2 ^ k : Nat) : Int) := by rw [Int.one_mul, Int.natCast_pow]; rfl
  rw [eP] at hi4
  have HD4 := Lib.hid hi4
  have HN4 := Lib.hid (HN3.out.upd hu4 (fun e => absurd e (by omega)))
  have HB4 := Lib.hid (HB3.out.trans (hu4.below (by omega) HB3.out.size))
  have lN : Hid ((dig ((-(M : Int))).natAbs).length ≤ 1000000) := Lib.hid (by
    have h4 := dig_len_small (x := M) (by have := HM.out; omega)
    have h5 : ((-(M : Int))).natAbs = M := by omega
    rw [h5]
    omega)
  clear hi4 hu4 eP
  go_wp2_with fail
  refine (setFrac_rat b w.heap.size 0 d 0 (-(M : Int)) ((2 ^ k : Nat) : Int) w4 (HZ.out.below HB4.out) HN4.out HD4.out (fun h => by have := Nat.pow_pos (n := k) (show 0 < 2 by decide); omega) lN.out (by rw [Int.natAbs_natCast]; have := dig_pow k; omega)).mono ?_

  rintro e w5 ⟨rfl, hr5, hu5⟩
  rw [HQ.out] at hr5
  have HR5 := Lib.hid hr5
  have HU5 := Lib.hid hu5
  clear hr5 hu5
  go_wp2_with fail
  go_ret
  exact ⟨rfl, HR5.out, _, HB4.out, HU5.out⟩

set_option maxRecDepth 100000 in
set_option maxHeartbeats 4000000 in
theorem setFloat_lp (b u g : Nat) (w : World) (hz : RatObj w b) (hu : u < 18446744073709551616) (hg : g = u % 9223372036854775808) (he : 0 < u / 2 ^ 52 % 2048 ∧ u / 2 ^ 52 % 2048 < 1075) (hs : u / 9223372036854775808 = 0) :
    Calls Tryz.prog 84 #[.pointer (some ⟨b, 0, none⟩), .float .f64 u] w (FloatPost b (fltQ false g) w) := by
  have hd := run_f64bits
  have b1 := u64_shr52 hu
  have b2 := u64_low52 hu
  have b3 := u64_hid52 (a := u % 2 ^ 52) (by omega)
  have b4 : (((u : Int) / 9223372036854775808) == 1) = false := by rw [show (u : Int) / 9223372036854775808 = 0 by omega]; rfl
  have HZ := Lib.hid hz
  have hblt : b < w.heap.size := by obtain ⟨_, _, h, _⟩ := hz; exact h.lt
  obtain ⟨E, hE⟩ : ∃ E, E = u / 2 ^ 52 % 2048 := ⟨_, rfl⟩
  obtain ⟨F, hF⟩ : ∃ F, F = u % 2 ^ 52 := ⟨_, rfl⟩
  rw [← hE] at b1 he
  rw [← hF] at b2 b3
  have hF2 : F < 2 ^ 52 := by omega
  have hgp : Vr g = (2 ^ 52 + F) * 2 ^ (E - 1) := by
    have h := Vr_parts (s := 2 ^ 52 + F) (j := E - 1) (by omega) (.inr (by omega))
    rw [show g = (E - 1) * 2 ^ 52 + (2 ^ 52 + F) by omega]; exact h
  have hfl := flt_parts false hgp (by omega)
  obtain ⟨M, hM⟩ : ∃ M, M = 2 ^ 52 + F := ⟨_, rfl⟩
  rw [← hM] at hfl b3
  have HM : Hid (M < 18446744073709551616) := Lib.hid (by omega)
  have e0 : ((E : Int) == 0) = false := by simp; omega
  have e1 : ((E : Int) == 2047) = false := by simp; omega
  have hq := hfl.2 (by omega)
  obtain ⟨k, hk⟩ : ∃ k, k = 1075 - E := ⟨_, rfl⟩
  rw [← hk] at hq
  have k2 : k ≤ 1100 := by omega
  have ew : IntKind.u64.wrap (k : Int) = (k : Int) := by rw [IntKind.wrap_u64]; omega
  have ek : (1075 : Int) - E = (k : Int) := by omega
  have el : decide ((1075 : Int) ≤ E) = false := by simp; omega
  simp only [if_false, Bool.false_eq_true] at hq
  have HQ := Lib.hid hq
  clear hfl hgp hE hF hM he hg hu hs hq hk
  go_enter Tryz.func84, Tryz.ntmps84
  go_wp2_with fail
  refine (setU_int w.heap.size 0 0 M _ (new_intAt w) HM.out).mono ?_
  rintro e w1 ⟨rfl, hi1, hu1⟩
  have HI1 := Lib.hid hi1
  have HB1 := Lib.hid (newB hu1)
  have z1 := hi1.lt
  clear hi1 hu1
  go_wp2_with fail
  obtain ⟨w2, hw2⟩ : ∃ w2, w2 = w1 := ⟨_, rfl⟩
  rw [← hw2] at HI1 HB1 z1 ⊢
  have HI2 := HI1
  have HB2 := HB1
  have z2 := z1
  clear hw2 HI1 HB1 z1
  refine (newInt_int 1 w2 (by decide) (by decide)).mono ?_
  rintro e w3 ⟨d, rfl, hd1, hd2, hi3, hb3⟩
  have HI3 := Lib.hid hi3
  have HN3 := Lib.hid (HI2.out.below hb3)
  have HB3 := Lib.hid (HB2.out.trans (hb3.mono HB2.out.size))
  have z3 := hb3.size
  clear hi3 hb3
  go_wp2_with fail
  refine (lsh_int d 0 d 0 1 1 k w3 HI3.out HI3.out (by decide) (by omega)).mono ?_
  rintro e w4 ⟨rfl, hi4, hu4⟩
  have eP : (1 : Int) * 2 ^ k = ((2 ^ k : Nat) : Int) := by rw [Int.one_mul, Int.natCast_pow]; rfl
  rw [eP] at hi4
  have HD4 := Lib.hid hi4
  have HN4 := Lib.hid (HN3.out.upd hu4 (fun e => absurd e (by omega)))
  have HB4 := Lib.hid (HB3.out.trans (hu4.below (by omega) HB3.out.size))
  have lN : Hid ((dig ((M : Int)).natAbs).length ≤ 1000000) := Lib.hid (by
    have h4 := dig_len_small (x := M) (by have := HM.out; omega)
    have h5 : ((M : Int)).natAbs = M := by omega
    rw [h5]
    omega)
  clear hi4 hu4 eP
  go_wp2_with fail
  refine (setFrac_rat b w.heap.size 0 d 0 (M : Int) ((2 ^ k : Nat) : Int) w4 (HZ.out.below HB4.out) HN4.out HD4.out (fun h => by have := Nat.pow_pos (n := k) (show 0 < 2 by decide); omega) lN.out (by rw [Int.natAbs_natCast]; have := dig_pow k; omega)).mono ?_

  rintro e w5 ⟨rfl, hr5, hu5⟩
  rw [HQ.out] at hr5
  have HR5 := Lib.hid hr5
  have HU5 := Lib.hid hu5
  clear hr5 hu5
  go_wp2_with fail
  go_ret
  exact ⟨rfl, HR5.out, _, HB4.out, HU5.out⟩

set_option maxRecDepth 100000 in
set_option maxHeartbeats 4000000 in
theorem setFloat_ln (b u g : Nat) (w : World) (hz : RatObj w b) (hu : u < 18446744073709551616) (hg : g = u % 9223372036854775808) (he : 0 < u / 2 ^ 52 % 2048 ∧ u / 2 ^ 52 % 2048 < 1075) (hs : u / 9223372036854775808 = 1) :
    Calls Tryz.prog 84 #[.pointer (some ⟨b, 0, none⟩), .float .f64 u] w (FloatPost b (fltQ true g) w) := by
  have hd := run_f64bits
  have b1 := u64_shr52 hu
  have b2 := u64_low52 hu
  have b3 := u64_hid52 (a := u % 2 ^ 52) (by omega)
  have b4 : (((u : Int) / 9223372036854775808) == 1) = true := by rw [show (u : Int) / 9223372036854775808 = 1 by omega]; rfl
  have HZ := Lib.hid hz
  have hblt : b < w.heap.size := by obtain ⟨_, _, h, _⟩ := hz; exact h.lt
  obtain ⟨E, hE⟩ : ∃ E, E = u / 2 ^ 52 % 2048 := ⟨_, rfl⟩
  obtain ⟨F, hF⟩ : ∃ F, F = u % 2 ^ 52 := ⟨_, rfl⟩
  rw [← hE] at b1 he
  rw [← hF] at b2 b3
  have hF2 : F < 2 ^ 52 := by omega
  have hgp : Vr g = (2 ^ 52 + F) * 2 ^ (E - 1) := by
    have h := Vr_parts (s := 2 ^ 52 + F) (j := E - 1) (by omega) (.inr (by omega))
    rw [show g = (E - 1) * 2 ^ 52 + (2 ^ 52 + F) by omega]; exact h
  have hfl := flt_parts true hgp (by omega)
  obtain ⟨M, hM⟩ : ∃ M, M = 2 ^ 52 + F := ⟨_, rfl⟩
  rw [← hM] at hfl b3
  have HM : Hid (M < 18446744073709551616) := Lib.hid (by omega)
  have e0 : ((E : Int) == 0) = false := by simp; omega
  have e1 : ((E : Int) == 2047) = false := by simp; omega
  have hq := hfl.2 (by omega)
  obtain ⟨k, hk⟩ : ∃ k, k = 1075 - E := ⟨_, rfl⟩
  rw [← hk] at hq
  have k2 : k ≤ 1100 := by omega
  have ew : IntKind.u64.wrap (k : Int) = (k : Int) := by rw [IntKind.wrap_u64]; omega
  have ek : (1075 : Int) - E = (k : Int) := by omega
  have el : decide ((1075 : Int) ≤ E) = false := by simp; omega
  simp only [if_true] at hq
  have HQ := Lib.hid hq
  clear hfl hgp hE hF hM he hg hu hs hq hk
  go_enter Tryz.func84, Tryz.ntmps84
  go_wp2_with fail
  refine (setU_int w.heap.size 0 0 M _ (new_intAt w) HM.out).mono ?_
  rintro e w1 ⟨rfl, hi1, hu1⟩
  have HI1 := Lib.hid hi1
  have HB1 := Lib.hid (newB hu1)
  have z1 := hi1.lt
  clear hi1 hu1
  go_wp2_with fail
  refine (neg_int w.heap.size 0 w.heap.size 0 (M : Int) (M : Int) w1 HI1.out HI1.out (by have := dig_len_small (x := M) (by have := HM.out; omega); rw [Int.natAbs_natCast]; omega)).mono ?_
  rintro e w2 ⟨rfl, hi2, hu2⟩
  have HI2 := Lib.hid hi2
  have HB2 := Lib.hid (HB1.out.trans (hu2.below (Nat.le_refl _) HB1.out.size))
  have z2 := hi2.lt
  clear hi2 hu2
  go_wp2_with fail
  refine (newInt_int 1 w2 (by decide) (by decide)).mono ?_
  rintro e w3 ⟨d, rfl, hd1, hd2, hi3, hb3⟩
  have HI3 := Lib.hid hi3
  have HN3 := Lib.hid (HI2.out.below hb3)
  have HB3 := Lib.hid (HB2.out.trans (hb3.mono HB2.out.size))
  have z3 := hb3.size
  clear hi3 hb3
  go_wp2_with fail
  refine (lsh_int d 0 d 0 1 1 k w3 HI3.out HI3.out (by decide) (by omega)).mono ?_
  rintro e w4 ⟨rfl, hi4, hu4⟩
  have eP : (1 : Int) * 2 ^ k = ((2 ^ k : Nat) : Int) := by rw [Int.one_mul, Int.natCast_pow]; rfl
  rw [eP] at hi4
  have HD4 := Lib.hid hi4
  have HN4 := Lib.hid (HN3.out.upd hu4 (fun e => absurd e (by omega)))
  have HB4 := Lib.hid (HB3.out.trans (hu4.below (by omega) HB3.out.size))
  have lN : Hid ((dig ((-(M : Int))).natAbs).length ≤ 1000000) := Lib.hid (by
    have h4 := dig_len_small (x := M) (by have := HM.out; omega)
    have h5 : ((-(M : Int))).natAbs = M := by omega
    rw [h5]
    omega)
  clear hi4 hu4 eP
  go_wp2_with fail
  refine (setFrac_rat b w.heap.size 0 d 0 (-(M : Int)) ((2 ^ k : Nat) : Int) w4 (HZ.out.below HB4.out) HN4.out HD4.out (fun h => by have := Nat.pow_pos (n := k) (show 0 < 2 by decide); omega) lN.out (by rw [Int.natAbs_natCast]; have := dig_pow k; omega)).mono ?_

  rintro e w5 ⟨rfl, hr5, hu5⟩
  rw [HQ.out] at hr5
  have HR5 := Lib.hid hr5
  have HU5 := Lib.hid hu5
  clear hr5 hu5
  go_wp2_with fail
  go_ret
  exact ⟨rfl, HR5.out, _, HB4.out, HU5.out⟩

set_option maxRecDepth 100000 in
set_option maxHeartbeats 4000000 in
theorem setFloat_hp (b u g : Nat) (w : World) (hz : RatObj w b) (hu : u < 18446744073709551616) (hg : g = u % 9223372036854775808) (he : 1075 ≤ u / 2 ^ 52 % 2048 ∧ u / 2 ^ 52 % 2048 < 2047) (hs : u / 9223372036854775808 = 0) :
    Calls Tryz.prog 84 #[.pointer (some ⟨b, 0, none⟩), .float .f64 u] w (FloatPost b (fltQ false g) w) := by
  have hd := run_f64bits
  have b1 := u64_shr52 hu
  have b2 := u64_low52 hu
  have b3 := u64_hid52 (a := u % 2 ^ 52) (by omega)
  have b4 : (((u : Int) / 9223372036854775808) == 1) = false := by rw [show (u : Int) / 9223372036854775808 = 0 by omega]; rfl
  have HZ := Lib.hid hz
  have hblt : b < w.heap.size := by obtain ⟨_, _, h, _⟩ := hz; exact h.lt
  obtain ⟨E, hE⟩ : ∃ E, E = u / 2 ^ 52 % 2048 := ⟨_, rfl⟩
  obtain ⟨F, hF⟩ : ∃ F, F = u % 2 ^ 52 := ⟨_, rfl⟩
  rw [← hE] at b1 he
  rw [← hF] at b2 b3
  have hF2 : F < 2 ^ 52 := by omega
  have hgp : Vr g = (2 ^ 52 + F) * 2 ^ (E - 1) := by
    have h := Vr_parts (s := 2 ^ 52 + F) (j := E - 1) (by omega) (.inr (by omega))
    rw [show g = (E - 1) * 2 ^ 52 + (2 ^ 52 + F) by omega]; exact h
  have hfl := flt_parts false hgp (by omega)
  obtain ⟨M, hM⟩ : ∃ M, M = 2 ^ 52 + F := ⟨_, rfl⟩
  rw [← hM] at hfl b3
  have HM : Hid (M < 18446744073709551616) := Lib.hid (by omega)
  have e0 : ((E : Int) == 0) = false := by simp; omega
  have e1 : ((E : Int) == 2047) = false := by simp; omega
  have hq := hfl.1 (by omega)
  obtain ⟨k, hk⟩ : ∃ k, k = E - 1075 := ⟨_, rfl⟩
  rw [← hk] at hq
  have ek : (E : Int) - 1075 = (k : Int) := by omega
  have k2 : k ≤ 1000 := by omega
  have ew : IntKind.u64.wrap (k : Int) = (k : Int) := by rw [IntKind.wrap_u64]; omega
  have el : decide ((1075 : Int) ≤ E) = true := by simp; omega

  simp only [if_false, Bool.false_eq_true] at hq
  have HQ := Lib.hid hq
  clear hfl hgp hE hF hM he hg hu hs hq hk
  go_enter Tryz.func84, Tryz.ntmps84
  go_wp2_with fail
  refine (setU_int w.heap.size 0 0 M _ (new_intAt w) HM.out).mono ?_
  rintro e w1 ⟨rfl, hi1, hu1⟩
  have HI1 := Lib.hid hi1
  have HB1 := Lib.hid (newB hu1)
  have z1 := hi1.lt
  clear hi1 hu1
  go_wp2_with fail
  obtain ⟨w2, hw2⟩ : ∃ w2, w2 = w1 := ⟨_, rfl⟩
  rw [← hw2] at HI1 HB1 z1 ⊢
  have HI2 := HI1
  have HB2 := HB1
  have z2 := z1
  clear hw2 HI1 HB1 z1
  refine (newInt_int 1 w2 (by decide) (by decide)).mono ?_
  rintro e w3 ⟨d, rfl, hd1, hd2, hi3, hb3⟩
  have HI3 := Lib.hid hi3
  have HN3 := Lib.hid (HI2.out.below hb3)
  have HB3 := Lib.hid (HB2.out.trans (hb3.mono HB2.out.size))
  have z3 := hb3.size
  clear hi3 hb3
  go_wp2_with fail
  refine (lsh_int w.heap.size 0 w.heap.size 0 (M : Int) (M : Int) k w3 HN3.out HN3.out (by have := dig_len_small (x := M) (by have := HM.out; omega); (first | rw [Int.natAbs_neg, Int.natAbs_natCast] | rw [Int.natAbs_natCast]); omega) (by omega)).mono ?_
  rintro e w4 ⟨rfl, hi4, hu4⟩
  have HN4 := Lib.hid hi4
  have HD4 := Lib.hid (HI3.out.upd hu4 (fun e => absurd e (by omega)))
  have HB4 := Lib.hid (HB3.out.trans (hu4.below (Nat.le_refl _) HB3.out.size))
  have lN : Hid ((dig ((M : Int) * 2 ^ k).natAbs).length ≤ 1000000) := Lib.hid (by
    rw [Int.natAbs_mul]
    have h1 := mul_len ((M : Int)).natAbs ((2 : Int) ^ k).natAbs
    have h2 : ((2 : Int) ^ k).natAbs = 2 ^ k := by rw [Int.natAbs_pow]; rfl
    rw [h2] at h1 ⊢
    have h3 := dig_pow k
    have h4 := dig_len_small (x := M) (by have := HM.out; omega)
    have h5 : ((M : Int)).natAbs = M := by omega
    rw [h5] at h1 ⊢
    omega)
  clear hi4 hu4
  go_wp2_with fail
  refine (setFrac_rat b w.heap.size 0 d 0 ((M : Int) * 2 ^ k) 1 w4 (HZ.out.below HB4.out) HN4.out HD4.out (by decide) lN.out (by decide)).mono ?_

  rintro e w5 ⟨rfl, hr5, hu5⟩
  rw [HQ.out] at hr5
  have HR5 := Lib.hid hr5
  have HU5 := Lib.hid hu5
  clear hr5 hu5
  go_wp2_with fail
  go_ret
  exact ⟨rfl, HR5.out, _, HB4.out, HU5.out⟩

set_option maxRecDepth 100000 in
set_option maxHeartbeats 4000000 in
theorem setFloat_hn (b u g : Nat) (w : World) (hz : RatObj w b) (hu : u < 18446744073709551616) (hg : g = u % 9223372036854775808) (he : 1075 ≤ u / 2 ^ 52 % 2048 ∧ u / 2 ^ 52 % 2048 < 2047) (hs : u / 9223372036854775808 = 1) :
    Calls Tryz.prog 84 #[.pointer (some ⟨b, 0, none⟩), .float .f64 u] w (FloatPost b (fltQ true g) w) := by
  have hd := run_f64bits
  have b1 := u64_shr52 hu
  have b2 := u64_low52 hu
  have b3 := u64_hid52 (a := u % 2 ^ 52) (by omega)
  have b4 : (((u : Int) / 9223372036854775808) == 1) = true := by rw [show (u : Int) / 9223372036854775808 = 1 by omega]; rfl
  have HZ := Lib.hid hz
  have hblt : b < w.heap.size := by obtain ⟨_, _, h, _⟩ := hz; exact h.lt
  obtain ⟨E, hE⟩ : ∃ E, E = u / 2 ^ 52 % 2048 := ⟨_, rfl⟩
  obtain ⟨F, hF⟩ : ∃ F, F = u % 2 ^ 52 := ⟨_, rfl⟩
  rw [← hE] at b1 he
  rw [← hF] at b2 b3
  have hF2 : F < 2 ^ 52 := by omega
  have hgp : Vr g = (2 ^ 52 + F) * 2 ^ (E - 1) := by
    have h := Vr_parts (s := 2 ^ 52 + F) (j := E - 1) (by omega) (.inr (by omega))
    rw [show g = (E - 1) * 2 ^ 52 + (2 ^ 52 + F) by omega]; exact h
  have hfl := flt_parts true hgp (by omega)
  obtain ⟨M, hM⟩ : ∃ M, M = 2 ^ 52 + F := ⟨_, rfl⟩
  rw [← hM] at hfl b3
  have HM : Hid (M < 18446744073709551616) := Lib.hid (by omega)
  have e0 : ((E : Int) == 0) = false := by simp; omega
  have e1 : ((E : Int) == 2047) = false := by simp; omega
  have hq := hfl.1 (by omega)
  obtain ⟨k, hk⟩ : ∃ k, k = E - 1075 := ⟨_, rfl⟩
  rw [← hk] at hq
  have ek : (E : Int) - 1075 = (k : Int) := by omega
  have k2 : k ≤ 1000 := by omega
  have ew : IntKind.u64.wrap (k : Int) = (k : Int) := by rw [IntKind.wrap_u64]; omega
  have el : decide ((1075 : Int) ≤ E) = true := by simp; omega

  simp only [if_true] at hq
  have HQ := Lib.hid hq
  clear hfl hgp hE hF hM he hg hu hs hq hk
  go_enter Tryz.func84, Tryz.ntmps84
  go_wp2_with fail
  refine (setU_int w.heap.size 0 0 M _ (new_intAt w) HM.out).mono ?_
  rintro e w1 ⟨rfl, hi1, hu1⟩
  have HI1 := Lib.hid hi1
  have HB1 := Lib.hid (newB hu1)
  have z1 := hi1.lt
  clear hi1 hu1
  go_wp2_with fail
  refine (neg_int w.heap.size 0 w.heap.size 0 (M : Int) (M : Int) w1 HI1.out HI1.out (by have := dig_len_small (x := M) (by have := HM.out; omega); rw [Int.natAbs_natCast]; omega)).mono ?_
  rintro e w2 ⟨rfl, hi2, hu2⟩
  have HI2 := Lib.hid hi2
  have HB2 := Lib.hid (HB1.out.trans (hu2.below (Nat.le_refl _) HB1.out.size))
  have z2 := hi2.lt
  clear hi2 hu2
  go_wp2_with fail
  refine (newInt_int 1 w2 (by decide) (by decide)).mono ?_
  rintro e w3 ⟨d, rfl, hd1, hd2, hi3, hb3⟩
  have HI3 := Lib.hid hi3
  have HN3 := Lib.hid (HI2.out.below hb3)
  have HB3 := Lib.hid (HB2.out.trans (hb3.mono HB2.out.size))
  have z3 := hb3.size
  clear hi3 hb3
  go_wp2_with fail
  refine (lsh_int w.heap.size 0 w.heap.size 0 (-(M : Int)) (-(M : Int)) k w3 HN3.out HN3.out (by have := dig_len_small (x := M) (by have := HM.out; omega); (first | rw [Int.natAbs_neg, Int.natAbs_natCast] | rw [Int.natAbs_natCast]); omega) (by omega)).mono ?_
  rintro e w4 ⟨rfl, hi4, hu4⟩
  have HN4 := Lib.hid hi4
  have HD4 := Lib.hid (HI3.out.upd hu4 (fun e => absurd e (by omega)))
  have HB4 := Lib.hid (HB3.out.trans (hu4.below (Nat.le_refl _) HB3.out.size))
  have lN : Hid ((dig ((-(M : Int)) * 2 ^ k).natAbs).length ≤ 1000000) := Lib.hid (by
    rw [Int.natAbs_mul]
    have h1 := mul_len ((-(M : Int))).natAbs ((2 : Int) ^ k).natAbs
    have h2 : ((2 : Int) ^ k).natAbs = 2 ^ k := by rw [Int.natAbs_pow]; rfl
    rw [h2] at h1 ⊢
    have h3 := dig_pow k
    have h4 := dig_len_small (x := M) (by have := HM.out; omega)
    have h5 : ((-(M : Int))).natAbs = M := by omega
    rw [h5] at h1 ⊢
    omega)
  clear hi4 hu4
  go_wp2_with fail
  refine (setFrac_rat b w.heap.size 0 d 0 ((-(M : Int)) * 2 ^ k) 1 w4 (HZ.out.below HB4.out) HN4.out HD4.out (by decide) lN.out (by decide)).mono ?_

  rintro e w5 ⟨rfl, hr5, hu5⟩
  rw [HQ.out] at hr5
  have HR5 := Lib.hid hr5
  have HU5 := Lib.hid hu5
  clear hr5 hu5
  go_wp2_with fail
  go_ret
  exact ⟨rfl, HR5.out, _, HB4.out, HU5.out⟩

theorem setFloat_rat (b u : Nat) (w : World) (hz : RatObj w b) (hu : u < 18446744073709551616) (hf : u % 9223372036854775808 < 9218868437227405312) :
    Calls Tryz.prog 84 #[.pointer (some ⟨b, 0, none⟩), .float .f64 u] w (FloatPost b (fltQ (decide (9223372036854775808 ≤ u)) (u % 9223372036854775808)) w) := by
  by_cases hs : 9223372036854775808 ≤ u
  · have hs' : u / 9223372036854775808 = 1 := by omega
    rw [show decide (9223372036854775808 ≤ u) = true by simp [hs]]
    by_cases h0 : u / 2 ^ 52 % 2048 = 0
    · exact setFloat_zn b u _ w hz hu rfl h0 hs'
    · by_cases h1 : u / 2 ^ 52 % 2048 < 1075
      · exact setFloat_ln b u _ w hz hu rfl ⟨by omega, h1⟩ hs'
      · exact setFloat_hn b u _ w hz hu rfl ⟨by omega, by omega⟩ hs'
  · have hs' : u / 9223372036854775808 = 0 := by omega
    rw [show decide (9223372036854775808 ≤ u) = false by simp; omega]
    by_cases h0 : u / 2 ^ 52 % 2048 = 0
    · exact setFloat_zp b u _ w hz hu rfl h0 hs'
    · by_cases h1 : u / 2 ^ 52 % 2048 < 1075
      · exact setFloat_lp b u _ w hz hu rfl ⟨by omega, h1⟩ hs'
      · exact setFloat_hp b u _ w hz hu rfl ⟨by omega, by omega⟩ hs'

end Go.Proofs.YtjokpfgncmdomaaGreatDoor

/- ratio.Of, Round of right ones: the walks -/
namespace Go.Proofs.YtjokpfgncmdomaaGreatDoor
open Go.RowKit Go.Sort

set_option maxRecDepth 100000 in
set_option maxHeartbeats 4000000 in
theorem of_inf (u : Nat) (w : World) (hu : u < 18446744073709551616) (hi : u / 2 ^ 52 % 2048 = 2047) :
    Calls Tryz.prog 32 #[.float .f64 u] w (Fail 5 w) := by
  have HU := Lib.hid hu
  have HI := Lib.hid hi
  clear hu hi
  go_enter Tryz.func32, Tryz.ntmps32
  go_wp2_with fail
  refine (setFloat_inf (w.heap.size + 1) u _ HU.out HI.out).mono ?_
  rintro e w1 ⟨rfl, hw1⟩
  have hblk : w1.heap[w.heap.size]? = some (.cells #[.bool false, .slice none 0 0, .slice none 0 0] 24 (0, 0)) := by
    rw [← hw1]
    exact ((below1 (w.alloc (.cells #[.bool false, .slice none 0 0, .slice none 0 0] 24)) newR).block w.heap.size (by simp)).trans (blk_new w _ _)
  have HB1 : Hid (Below w.heap.size w w1) := Lib.hid (by
    rw [← hw1]
    exact (below1 w (.cells #[.bool false, .slice none 0 0, .slice none 0 0] 24)).trans ((below1 (w.alloc (.cells #[.bool false, .slice none 0 0, .slice none 0 0] 24)) newR).mono (by simp)))
  have zx : w.heap.size + 1 ≤ w1.heap.size := by rw [← hw1]; simp
  clear hw1
  obtain ⟨kc, kf⟩ := blk_cells hblk
  have kc0 := kc 0
  have kc1 := kc 1
  have kc2 := kc 2
  have kf0 := kf 0
  have kf1 := kf 1
  have kf2 := kf 2
  simp only [List.getElem?_toArray, List.getElem?_cons_zero, List.getElem?_cons_succ] at kc0 kc1 kc2
  obtain ⟨w6, hw6⟩ : ∃ w6, w6 = ((w1.setCell ⟨w.heap.size, 0, none⟩ (.bool false)).setCell ⟨w.heap.size, 1, none⟩ (.slice none 0 0)).setCell ⟨w.heap.size, 2, none⟩ (.slice none 0 0) := ⟨_, rfl⟩
  obtain ⟨hu6, q0, q1, q2⟩ := rat_set kc0 kc1 kc2 _ _ _ _ _ _ _ _ hw6
  have HW6 := Lib.hid hw6
  have HU6 := Lib.hid hu6
  have Q0 := Lib.hid q0
  have Q1 := Lib.hid q1
  have Q2 := Lib.hid q2
  clear kc kf hblk hw6 hu6 q0 q1 q2
  go_wp2_with fail
  rw [← HW6.out]
  have q0 := Q0.out
  have q1 := Q1.out
  have q2 := Q2.out
  (try simp only [Exit.inBlock, Exit.then])
  refine bodyPost_ret (v := .tuple #[.agg #[.bool false, .slice none 0 0, .slice none 0 0], .int .i64 5]) (by simp [results, Tryz.results32, go_sem, q0, q1, q2]; done) rfl ?_
  exact ⟨_, rfl, noR_at _ _ _, HB1.out.trans (HU6.out.below (by omega) (by omega))⟩

set_option maxRecDepth 100000 in
set_option maxHeartbeats 4000000 in
theorem of_flt (u : Nat) (w : World) (hu : u < 18446744073709551616) (hf : u % 9223372036854775808 < 9218868437227405312) :
    Calls Tryz.prog 32 #[.float .f64 u] w fun e w' => ∃ v, e = .returned (.tuple #[v, .int .i64 0]) ∧ At w' v (fltQ (decide (9223372036854775808 ≤ u)) (u % 9223372036854775808)) ∧ Below w.heap.size w w' := by
  have HU := Lib.hid hu
  have HFT := Lib.hid hf
  obtain ⟨q, hq⟩ : ∃ q, q = fltQ (decide (9223372036854775808 ≤ u)) (u % 9223372036854775808) := ⟨_, rfl⟩
  have hfs := fits_flt (decide (9223372036854775808 ≤ u)) hf
  have HS := Lib.hid (fun b w hz => setFloat_rat b u w hz hu hf)
  rw [← hq] at hfs HS ⊢
  have HF := Lib.hid hfs.1
  have SX := Lib.hid hfs.2
  clear hu hf hfs hq
  go_enter Tryz.func32, Tryz.ntmps32
  go_wp2_with fail
  refine (HS.out (w.heap.size + 1) _ (by have h := new_rat (w.alloc (.cells #[.bool false, .slice none 0 0, .slice none 0 0] 24)); rwa [World.size_alloc] at h)).mono ?_
  rintro e w1 ⟨rfl, hr1, wm, hbm, hum⟩
  have hblk : w1.heap[w.heap.size]? = some (.cells #[.bool false, .slice none 0 0, .slice none 0 0] 24 (0, 0)) := by
    rw [hum.blk w.heap.size (by have := hbm.size; simp at this; omega) (by omega), hbm.block w.heap.size (by simp; omega)]
    exact ((below1 (w.alloc (.cells #[.bool false, .slice none 0 0, .slice none 0 0] 24)) newR).block w.heap.size (by simp)).trans (blk_new w _ _)
  have HR1 := Lib.hid hr1
  have zm : w.heap.size + 2 ≤ wm.heap.size := by have := hbm.size; simp at this; omega
  have HB1 := Lib.hid (((below1 w (.cells #[.bool false, .slice none 0 0, .slice none 0 0] 24)).trans (((below1 (w.alloc (.cells #[.bool false, .slice none 0 0, .slice none 0 0] 24)) newR).mono (by simp)).trans (hbm.mono (by simp; omega)))).trans (hum.below (by omega) (by omega)))
  have zx : w.heap.size + 1 ≤ w1.heap.size := by have := hum.size; omega
  clear hr1 hum hbm
  go_wp2_with fail
  refine (told_ratio (w.heap.size + 1) q w1 HR1.out (by have := SX.out.1; omega) (by have := SX.out.2; omega)).mono ?_
  rintro e w3 ht
  obtain ⟨v2, rfl, hv2, hb2⟩ := told_at ht HF.out
  have HV2 := Lib.hid hv2
  obtain ⟨tn, B, m, d, B', m', d', rfl⟩ : ∃ s A n c A' n' c', v2 = .agg #[.bool s, .slice A n c, .slice A' n' c'] := by obtain ⟨⟨A, n, c, A', n', c', h, _⟩, _⟩ := hv2; exact ⟨_, _, _, _, _, _, _, h⟩
  have hblk2 : w3.heap[w.heap.size]? = some (.cells #[.bool false, .slice none 0 0, .slice none 0 0] 24 (0, 0)) := (hb2.block w.heap.size (by omega)).trans hblk
  have zz : w.heap.size + 1 ≤ w3.heap.size := by have := hb2.size; omega
  have HB3 := Lib.hid (HB1.out.trans (hb2.mono HB1.out.size))
  clear hb2 hblk hv2 ht
  obtain ⟨kc, kf⟩ := blk_cells hblk2
  have kc0 := kc 0
  have kc1 := kc 1
  have kc2 := kc 2
  have kf0 := kf 0
  have kf1 := kf 1
  have kf2 := kf 2
  simp only [List.getElem?_toArray, List.getElem?_cons_zero, List.getElem?_cons_succ] at kc0 kc1 kc2
  obtain ⟨w6, hw6⟩ : ∃ w6, w6 = ((w3.setCell ⟨w.heap.size, 0, none⟩ (.bool tn)).setCell ⟨w.heap.size, 1, none⟩ (.slice B m d)).setCell ⟨w.heap.size, 2, none⟩ (.slice B' m' d') := ⟨_, rfl⟩
  obtain ⟨hu6, q0, q1, q2⟩ := rat_set kc0 kc1 kc2 _ _ _ _ _ _ _ _ hw6
  have HW6 := Lib.hid hw6
  have HU6 := Lib.hid hu6
  have Q0 := Lib.hid q0
  have Q1 := Lib.hid q1
  have Q2 := Lib.hid q2
  clear kc kf hblk2 hw6 hu6 q0 q1 q2
  go_wp2_with fail
  rw [← HW6.out]
  have q0 := Q0.out
  have q1 := Q1.out
  have q2 := Q2.out
  (try simp only [Exit.inBlock, Exit.then])
  refine bodyPost_ret (v := .tuple #[.agg #[.bool tn, .slice B m d, .slice B' m' d'], .int .i64 0]) (by simp [results, Tryz.results32, go_sem, q0, q1, q2]; done) rfl ?_
  exact ⟨_, rfl, ⟨HV2.out.1.upb HU6.out, HV2.out.2⟩, HB3.out.trans (HU6.out.below (by omega) (by omega))⟩

/-- a number as a float -/
def rndQ (q : Rat) (md : Int) : Nat := rnd (decide (q.num < 0)) q.num.natAbs q.den md
end Go.Proofs.YtjokpfgncmdomaaGreatDoor

/- floats of rungs: their order; what the four ways of rounding tell (plain) -/
namespace Go.Proofs.YtjokpfgncmdomaaGreatDoor
open Ieee
/-- a number's size, in units of the least float -/
def unitsQ (q : Rat) : Nat := q.num.natAbs * 2 ^ 1074
/-- the two floats about a number, by size, and the nearer one -/
structure SideF (q : Rat) (neg : Bool) (lo hi n : Nat) : Prop where
  d1 : rndQ q 1 = sw neg (if neg then hi else lo)
  d2 : rndQ q 2 = sw neg (if neg then lo else hi)
  d3 : rndQ q 3 = sw neg lo
  d0 : rndQ q 0 = sw neg n
  nn : n = lo ∨ n = hi
  step : hi = lo ∨ hi = lo + 1
  lo_lt : lo < 9218868437227405312
  hi_le : hi ≤ 9218868437227405312
  sgn : neg = decide (q.num < 0)
  low : Vr lo * q.den ≤ unitsQ q
  high : hi < 9218868437227405312 → unitsQ q ≤ Vr hi * q.den
  exact : hi = lo → unitsQ q = Vr lo * q.den
  strict : hi ≠ lo → Vr lo * q.den < unitsQ q
  strictH : hi ≠ lo → hi < 9218868437227405312 → unitsQ q < Vr hi * q.den
  nearL : hi ≠ lo → hi < 9218868437227405312 → 2 * unitsQ q < (Vr lo + Vr hi) * q.den → n = lo
  nearH : hi ≠ lo → hi < 9218868437227405312 → (Vr lo + Vr hi) * q.den < 2 * unitsQ q → n = hi
end Go.Proofs.YtjokpfgncmdomaaGreatDoor

/- floats about a number, rounded back: plain -/
namespace Go.Proofs.YtjokpfgncmdomaaGreatDoor
open Go.RowKit Go.Sort
/-- a rung's value, with its sign -/
def sV (s : Bool) (g : Nat) : Int := if s then -(Vr g : Int) else (Vr g : Int)
end Go.Proofs.YtjokpfgncmdomaaGreatDoor

/- girderref02: low, NatTrim, digit, halves, limbs, NatOf: the walks -/
namespace Go.Proofs.YtjokpfgncmdomaaGreatDoor
open Go.RowKit Go.Sort

/-- a list of limbs (or of digits of 32 bits in cells of 64) -/
def LAt (w : World) (v : Value) (xs : List Nat) : Prop := ∃ A c, v = .slice A xs.length c ∧ xs.length ≤ c ∧ RdE Lc 1 w (fun b => b < w.heap.size) A xs.length xs
end Go.Proofs.YtjokpfgncmdomaaGreatDoor

/- girderref02: limbs, NatOf, NatAdd: the walks -/
namespace Go.Proofs.YtjokpfgncmdomaaGreatDoor
open Go.RowKit Go.Sort
theorem own_lat {w : World} {base n : Nat} {v : Value} {xs : List Nat} (h : w.ownsRow base 58 1 v n (xs.flatMap Lc)) : LAt w v xs := by
  have hn := own_num Lc.clen (by omega) h
  obtain ⟨A, c, rfl, hc, _⟩ := own_slice h
  have hr := (RdE.of_own Lc.clen (by omega) h).imp (S' := fun b => b < w.heap.size) (fun b h => h.2.1)
  rw [← hn] at hr hc ⊢
  exact ⟨A, c, rfl, hc, hr⟩

end Go.Proofs.YtjokpfgncmdomaaGreatDoor

/- girderref02: short, times: the walks -/
namespace Go.Proofs.YtjokpfgncmdomaaGreatDoor
open Go.RowKit Go.Sort
theorem made_u64 (n : Nat) : (madeCells (Value.int .u64 0).cells (n * 1)).toList = (List.replicate n 0).flatMap Lc := made_flat Lc 1 Lc.clen (by omega) 0 n
end Go.Proofs.YtjokpfgncmdomaaGreatDoor

/- girderref07: one, Value, Sign: the walks -/
namespace Go.Proofs.YtjokpfgncmdomaaGreatDoor
open Go.RowKit Go.Sort
theorem lat_num {w : World} {A : Option Addr} {n c : Nat} {xs : List Nat} (h : LAt w (.slice A n c) xs) : n = xs.length ∧ n ≤ c ∧ RdE Lc 1 w (fun b => b < w.heap.size) A n xs := by
  obtain ⟨A', c', e, hc, hr⟩ := h
  injection e with e1 e2 e3
  subst e1 e2 e3
  exact ⟨rfl, hc, hr⟩
end Go.Proofs.YtjokpfgncmdomaaGreatDoor

/- Round of both sides, whole numbers of girderref07, great: the walks -/
namespace Go.Proofs.YtjokpfgncmdomaaGreatDoor
open Go.RowKit Go.Sort

/-- what Round tells -/
def roundX (r : RV) (md : Int) : Nat := if rightB r = true then rnd r.neg (ln r.num) (ln r.den) md else 0
def roundE (r : RV) : Int := if rightB r = true then 0 else 2

set_option maxRecDepth 100000 in
set_option maxHeartbeats 4000000 in
theorem round_rat (v : Value) (r : RV) (md : Int) (w : World) (hr : RAt w v r) (l1 : r.num.length ≤ 1000000000000) (l2 : r.den.length ≤ 1000000000000) (hw : Laid w) :
    Calls Tryz.prog 11 #[v, .int .i8 md] w fun e w' => e = .returned (.tuple #[.float .f64 (roundX r md), .int .i64 (roundE r)]) ∧ Below w.heap.size w w' := by
  by_cases h : rightB r = true
  · unfold roundX roundE
    rw [if_pos h, if_pos h]
    exact round_right v r md w hr h hw
  · have hf : rightB r = false := by simpa using h
    unfold roundX roundE
    rw [if_neg h, if_neg h]
    have HF := Lib.hid hf
    have HR := Lib.hid hr
    obtain ⟨A, n, c, A', n', c', rfl, -, -, -, -⟩ := hr
    clear h hf hw
    go_enter Tryz.func11, Tryz.ntmps11
    go_wp2_with fail
    refine (right_ratio _ r _ (HR.out.below (below1 ..)) (by omega) (by omega)).mono ?_
    rw [HF.out]
    rintro e w1 ⟨rfl, hb1⟩
    have HB1 := Lib.hid (below_then (below1 w (.cells #[.bool r.neg, .slice A n c, .slice A' n' c'] 24)) hb1)
    clear hb1
    go_wp2_with fail
    go_ret2
    exact ⟨rfl, HB1.out⟩

end Go.Proofs.YtjokpfgncmdomaaGreatDoor

/- girderlaw07.RatioRounds: the walk -/
namespace Go.Proofs.YtjokpfgncmdomaaGreatDoor
open Go.RowKit Go.Sort

set_option maxRecDepth 100000 in
set_option maxHeartbeats 2000000 in
theorem same_float (x : Nat) (w : World) : Calls Tryz.prog 13 #[.float .f64 x, .float .f64 x] w fun e w' => e = .returned (.bool true) ∧ w = w' := by
  have hfb := fun w => run_f64bits x w
  go_enter Tryz.func13, Tryz.ntmps13
  go_wp2_with fail
  go_ret
  exact ⟨rfl, rfl⟩
end Go.Proofs.YtjokpfgncmdomaaGreatDoor
