import Derived.Test.YtjokpfgncmdomaaGreatDoorX26
set_option linter.unusedSimpArgs false
set_option linter.unusedVariables false
/- what is rounded does not hang on the number of places (plain) -/
namespace Go.Proofs.YtjokpfgncmdomaaGreatDoor

theorem places_spec (neg : Bool) (md : Int) {N D : Nat} (hD : D ≠ 0) (B : Int) {M : Nat} (hM0 : M = stk (N * 2 ^ B.toNat) (D * 2 ^ (-B).toNat)) (hbl : 71 ≤ blen M) {L : Int} (hL : L = lastR M (-B - 1)) {c : Nat} (hc : c = (L - (-B - 1)).toNat) :
    18 ≤ c ∧ ∃ g, Vr g * D ≤ N * 2 ^ 1074 ∧ N * 2 ^ 1074 < Vr (g + 1) * D ∧ fbits neg (sizeR M c md neg) L md = outR neg md (upR neg md (N * 2 ^ 1074) D g) := by
  obtain ⟨X, hX⟩ : ∃ X, X = N * 2 ^ 1074 := ⟨_, rfl⟩
  rw [← hX]
  obtain ⟨n, hn⟩ : ∃ n : Nat, n = 1074 := ⟨_, rfl⟩
  rw [← hn] at hX
  obtain ⟨Bp, hBp⟩ : ∃ x, x = B.toNat := ⟨_, rfl⟩
  obtain ⟨Bn, hBn⟩ : ∃ x, x = (-B).toNat := ⟨_, rfl⟩
  have hMd : M = stk (N * 2 ^ Bp) (D * 2 ^ Bn) := by rw [hBp, hBn]; exact hM0
  have hE : 0 < D * 2 ^ Bn := Nat.mul_pos (Nat.pos_of_ne_zero hD) (Nat.pow_pos (by decide))
  have hM1 : M ≠ 0 := by intro h; rw [h] at hbl; exact absurd hbl (by decide)
  have hL' : L = max ((blen M : Int) + (-B - 1) - 53) (-1074) := hL
  clear hM0
  have hc18 : 18 ≤ c := by omega
  have hp : 0 < 2 ^ c := Nat.pow_pos (by decide)
  have hq53 : M / 2 ^ c < 2 ^ 53 := by
    refine Nat.div_lt_of_lt_mul ?_
    rw [← Nat.pow_add]
    exact Nat.lt_of_lt_of_le blen_lt (Nat.pow_le_pow_right (by decide) (by omega))
  obtain ⟨j, hj⟩ : ∃ j, j = (L + 1074).toNat := ⟨_, rfl⟩
  have hq52 : j = 0 ∨ 2 ^ 52 ≤ M / 2 ^ c := by
    by_cases h : j = 0
    · exact .inl h
    · right
      rw [Nat.le_div_iff_mul_le hp, ← Nat.pow_add]
      exact Nat.le_trans (Nat.pow_le_pow_right (by decide) (by omega)) (blen_le hM1)
  obtain ⟨q, hq⟩ : ∃ q, q = M / 2 ^ c := ⟨_, rfl⟩
  obtain ⟨r, hr⟩ : ∃ r, r = M % 2 ^ c := ⟨_, rfl⟩
  have hMq : M = q * 2 ^ c + r := by rw [hq, hr, Nat.mul_comm]; exact (Nat.div_add_mod M (2 ^ c)).symm
  have hr2 : r < 2 ^ c := by rw [hr]; exact Nat.mod_lt _ hp
  rw [← hq] at hq53 hq52
  have v1 : Vr (j * 2 ^ 52 + q) = q * 2 ^ j := Vr_parts (by omega) hq52
  have v2 : Vr (j * 2 ^ 52 + q + 1) = (q + 1) * 2 ^ j := by rw [Nat.add_assoc]; exact Vr_parts (by omega) (by omega)
  have ec : 2 ^ c = 2 * 2 ^ (c - 1) := by rw [← Nat.pow_succ']; congr 1; omega
  have ec2 : 2 ^ (c - 1) = 2 * 2 ^ (c - 2) := by rw [← Nat.pow_succ']; congr 1; omega
  have key : ∀ s, cmpN M (s * 2 ^ c) = cmpN X (s * 2 ^ j * D) := by
    intro s
    rw [hMd, ec, show s * (2 * 2 ^ (c - 1)) = 2 * (s * 2 ^ (c - 1)) by ac_rfl, stk_cmp hE]
    rw [hX]
    exact cmp_scale N D s Bp (c - 1) Bn n j (by omega)
  have key2 : ∀ t, cmpN M (t * 2 ^ (c - 1)) = cmpN (2 * X) (t * 2 ^ j * D) := by
    intro t
    rw [hMd, ec2, show t * (2 * 2 ^ (c - 2)) = 2 * (t * 2 ^ (c - 2)) by ac_rfl, stk_cmp hE]
    rw [hX, Nat.mul_left_comm 2 N, ← two_pow_step n]
    exact cmp_scale N D t Bp (c - 2) Bn (n + 1) j (by omega)
  clear hX
  refine ⟨hc18, j * 2 ^ 52 + q, ?_, ?_, ?_⟩
  · rw [v1]
    have h := (cmpN_iff (key q)).1
    exact Nat.le_of_not_lt fun h1 => by have := h.2 h1; omega
  · rw [v2]
    have h := (cmpN_iff (key (q + 1))).1
    exact h.1 (by rw [Nat.succ_mul]; omega)
  · have hs : sizeR M c md neg = if Vr (j * 2 ^ 52 + q) * D < X ∧ awayB md neg (cmpN (2 * X) ((Vr (j * 2 ^ 52 + q) + Vr (j * 2 ^ 52 + q + 1)) * D)) (decide ((j * 2 ^ 52 + q) % 2 = 1)) = true then q + 1 else q := by
      unfold sizeR
      rw [← hq, ← hr]
      have e1 : (0 < r) ↔ (Vr (j * 2 ^ 52 + q) * D < X) := by
        rw [v1, ← (cmpN_iff (key q)).2, hMq]
        omega
      have e2 : cmpN r (2 ^ (c - 1)) = cmpN (2 * X) ((Vr (j * 2 ^ 52 + q) + Vr (j * 2 ^ 52 + q + 1)) * D) := by
        rw [v1, v2, show q * 2 ^ j + (q + 1) * 2 ^ j = (2 * q + 1) * 2 ^ j by rw [← Nat.add_mul]; congr 1; omega, ← key2]
        have e3 : (2 * q + 1) * 2 ^ (c - 1) = q * 2 ^ c + 2 ^ (c - 1) := by rw [ec, Nat.succ_mul]; congr 1; ac_rfl
        rw [e3, hMq]
        exact cmpN_of (by omega) (by omega)
      have e3 : (j * 2 ^ 52 + q) % 2 = q % 2 := by omega
      rw [e2, e3]
      simp only [e1]
    have hg : ∀ s, fbits neg s L md = outR neg md (j * 2 ^ 52 + s) := by
      intro s; unfold fbits outR; rw [hj]
    rw [hg, hs]
    exact out_if neg md _ q _
/-- whatever the number of places -/
theorem places_rnd (neg : Bool) (md : Int) {N D : Nat} (hN : N ≠ 0) (hD : D ≠ 0) (B : Int) {M : Nat} (hM0 : M = stk (N * 2 ^ B.toNat) (D * 2 ^ (-B).toNat)) (hbl : 71 ≤ blen M) {L : Int} (hL : L = lastR M (-B - 1)) {c : Nat} (hc : c = (L - (-B - 1)).toNat) :
    18 ≤ c ∧ fbits neg (sizeR M c md neg) L md = rnd neg N D md := by
  obtain ⟨h18, g, h1, h2, h3⟩ := places_spec neg md hD B hM0 hbl hL hc
  obtain ⟨g', h1', h2', h3'⟩ := rnd_spec neg md hN hD
  have e := floor_uniq h1 h2 h1' h2'
  refine ⟨h18, ?_⟩
  rw [h3, h3', e]
/-- 80 places -/
def plB (N D : Nat) : Int := 80 + (blen D : Int) - blen N
theorem plB_bounds {N D : Nat} (hN : N ≠ 0) (hD : D ≠ 0) {Y E : Nat} (hY : Y = N * 2 ^ (plB N D).toNat) (hE : E = D * 2 ^ (-plB N D).toNat) : 2 ^ 79 ≤ Y / E ∧ Y / E < 2 ^ 81 := by
  have hE0 : 0 < E := by rw [hE]; exact Nat.mul_pos (Nat.pos_of_ne_zero hD) (Nat.pow_pos (by decide))
  have n1 := blen_le hN
  have n2 := blen_lt (N := N)
  have d1 := blen_le hD
  have d2 := blen_lt (N := D)
  have bN := blen_pos hN
  have bD := blen_pos hD
  obtain ⟨p, hp⟩ : ∃ p, p = (plB N D).toNat := ⟨_, rfl⟩
  obtain ⟨m, hm⟩ : ∃ m, m = (-plB N D).toNat := ⟨_, rfl⟩
  rw [← hp] at hY
  rw [← hm] at hE
  have hpm : (p : Int) - m = 80 + (blen D : Int) - blen N := by unfold plB at hp hm; omega
  constructor
  · rw [Nat.le_div_iff_mul_le hE0, hE, hY]
    refine Nat.le_trans (Nat.mul_le_mul_left _ (Nat.mul_le_mul_right _ (Nat.le_of_lt d2))) ?_
    refine Nat.le_trans ?_ (Nat.mul_le_mul_right _ n1)
    rw [← Nat.pow_add, ← Nat.pow_add, ← Nat.pow_add]
    exact Nat.pow_le_pow_right (by decide) (by omega)
  · rw [Nat.div_lt_iff_lt_mul hE0, hE, hY]
    refine Nat.lt_of_lt_of_le (Nat.mul_lt_mul_of_pos_right n2 (Nat.pow_pos (by decide))) ?_
    refine Nat.le_trans ?_ (Nat.mul_le_mul_left _ (Nat.mul_le_mul_right _ d1))
    rw [← Nat.pow_add, ← Nat.pow_add, ← Nat.pow_add]
    exact Nat.pow_le_pow_right (by decide) (by omega)
def plM (N D : Nat) : Nat := stk (N * 2 ^ (plB N D).toNat) (D * 2 ^ (-plB N D).toNat)
theorem plM_bounds {N D : Nat} (hN : N ≠ 0) (hD : D ≠ 0) : 2 ^ 80 ≤ plM N D ∧ plM N D < 2 ^ 82 := by
  have h := plB_bounds hN hD rfl rfl
  unfold plM stk
  generalize N * 2 ^ (plB N D).toNat / (D * 2 ^ (-plB N D).toNat) = Q at h ⊢
  split <;> omega
theorem plM_rnd (neg : Bool) (md : Int) {N D : Nat} (hN : N ≠ 0) (hD : D ≠ 0) : ∃ c : Nat, lastR (plM N D) (-plB N D - 1) - (-plB N D - 1) = (c : Int) ∧ 1 ≤ c ∧
    fbits neg (sizeR (plM N D) c md neg) (lastR (plM N D) (-plB N D - 1)) md = rnd neg N D md := by
  have hb := plM_bounds hN hD
  have hbl : 71 ≤ blen (plM N D) := by
    have h2 := blen_lt (N := plM N D)
    by_cases h3 : blen (plM N D) ≤ 70
    · have := Nat.pow_le_pow_right (show 0 < 2 by decide) h3
      omega
    · omega
  obtain ⟨h18, he⟩ := places_rnd neg md hN hD (plB N D) (M := plM N D) rfl hbl rfl rfl
  refine ⟨_, ?_, by omega, he⟩
  exact (Int.toNat_of_nonneg (by omega)).symm

end Go.Proofs.YtjokpfgncmdomaaGreatDoor

/- girderref07.Rounded: the walk -/
namespace Go.Proofs.YtjokpfgncmdomaaGreatDoor
open Go.RowKit Go.Sort

theorem stk_rest {X Y : Nat} : stk X Y = if X % Y = 0 then X / Y * 2 else X / Y * 2 + 1 := by
  unfold stk
  split <;> omega
theorem blen_lim {N k : Nat} (h : (lim N).length ≤ k) : blen N ≤ 64 * k := by
  have h1 := ln_lt (lim_lds N)
  rw [ln_dig, W64_pow] at h1
  have := blen_le_of_lt h1
  omega
theorem lim_blen {N k : Nat} (h : blen N ≤ 64 * k) : (lim N).length ≤ k := by
  refine lim_len_le ?_
  rw [W64_pow]
  exact Nat.lt_of_lt_of_le blen_lt (Nat.pow_le_pow_right (by decide) h)
theorem blen_scale {N p k : Nat} (h : blen N ≤ k) : blen (N * 2 ^ p) ≤ k + p := by
  refine blen_le_of_lt ?_
  rw [Nat.pow_add]
  exact Nat.mul_lt_mul_of_pos_right (Nat.lt_of_lt_of_le blen_lt (Nat.pow_le_pow_right (by decide) h)) (Nat.pow_pos (by decide))
theorem blen_mono {a b : Nat} (h : a ≤ b) : blen a ≤ blen b := blen_le_of_lt (Nat.lt_of_le_of_lt h blen_lt)

set_option maxRecDepth 100000 in
set_option maxHeartbeats 16000000 in
theorem rounded07_any (v : Value) (s : Bool) (N D : Nat) (md : Int) (w : World) (h : FAt w v ⟨s, lim N, lim D⟩) (hD : D ≠ 0) (n1 : (lim N).length ≤ 1000) (n2 : (lim D).length ≤ 1000) :
    Calls Tryz.prog 56 #[v, .int .i8 md] w fun r w' => r = .returned (.float .f64 (rnd s N D md)) ∧ Below w.heap.size w w' := by
  have hsg := fun w (h : FAt w v ⟨s, lim N, lim D⟩) => signF_any v ⟨s, lim N, lim D⟩ w h ⟨lim_lds _, lim_lds _⟩ (by have := n1; simp only; omega)
  have HFA := Lib.hid h
  obtain ⟨A, n, c, A', n', c', rfl, h1, h2⟩ := h.shape
  simp only at h1 h2 hsg HFA ⊢
  have HSG := Lib.hid hsg
  have HX := Lib.hid h1
  have HY := Lib.hid h2
  obtain ⟨w0, hw0⟩ : ∃ w0, w0 = w.alloc (.cells #[.bool s, .slice A n c, .slice A' n' c'] 77) := ⟨_, rfl⟩
  have hb0 : Below w.heap.size w w0 := by rw [hw0]; exact below1 ..
  have g1 : w0.heap[w.heap.size]? = some (.cells #[.bool s, .slice A n c, .slice A' n' c'] 77 (0, 0)) := by rw [hw0]; exact blk_new ..
  have z0 : w.heap.size < w0.heap.size := by rw [hw0]; simp
  have k1 := (blk_cells g1).1
  have k10 := k1 0
  have k11 := k1 1
  have k12 := k1 2
  simp only [List.getElem?_toArray, List.getElem?_cons_zero, List.getElem?_cons_succ] at k10 k11 k12
  have HK := Lib.hid (And.intro k10 (And.intro k11 k12))
  have HB0 := Lib.hid hb0
  have HW0 := Lib.hid hw0
  have HD := Lib.hid hD
  have HN1 := Lib.hid n1
  have HN2 := Lib.hid n2
  have HFA0 := Lib.hid (HFA.out.below hb0)
  rw [hw0] at k10 k11 k12
  clear hw0 hb0 g1 k1 h1 h2 h hD hsg n1 n2
  by_cases hN : N = 0
  · subst hN
    have HE : Hid (rnd s 0 D md = 0) := Lib.hid (by unfold rnd; exact if_pos rfl)
    have hs0 : sgF ⟨s, lim 0, lim D⟩ = 0 := rfl
    go_enter Tryz.func56, Tryz.ntmps56
    go_wp2_with fail
    rw [← HW0.out]
    refine (HSG.out w0 HFA0.out).mono ?_
    rintro e w1 ⟨rfl, hb1⟩
    rw [hs0]
    have HB1 := Lib.hid (HB0.out.trans (hb1.mono HB0.out.size))
    clear hb1 hs0
    go_wp2_with fail
    go_ret
    exact ⟨by rw [HE.out]; rfl, HB1.out⟩
  · obtain ⟨g, hg⟩ : ∃ g, g = sgF ⟨s, lim N, lim D⟩ := ⟨_, rfl⟩
    have hg0 : (g == 0) = false := by
      have h9 : g ≠ 0 := by
        rw [hg]
        unfold sgF
        simp only
        rw [ln_dig, if_neg hN]
        cases s <;> simp
      simp [h9]
    have HG := Lib.hid hg
    have hE := plM_rnd s md hN HD.out
    obtain ⟨cc, hc, hc1, hE⟩ := hE
    have hMb := plM_bounds hN HD.out
    obtain ⟨R, hR⟩ : ∃ R, R = rnd s N D md := ⟨_, rfl⟩
    rw [← hR] at hE ⊢
    obtain ⟨B, hB⟩ : ∃ B, B = plB N D := ⟨_, rfl⟩
    obtain ⟨M, hM⟩ : ∃ M, M = plM N D := ⟨_, rfl⟩
    rw [← hM] at hMb
    rw [← hM, ← hB] at hc hE
    obtain ⟨bn, hbn⟩ : ∃ bn, bn = blen N := ⟨_, rfl⟩
    obtain ⟨bd, hbd⟩ : ∃ bd, bd = blen D := ⟨_, rfl⟩
    have hbn2 : bn ≤ 64000 := by rw [hbn]; exact blen_lim HN1.out
    have hbd2 : bd ≤ 64000 := by rw [hbd]; exact blen_lim HN2.out
    have hBv : B = 80 + (bd : Int) - bn := by rw [hB, hbn, hbd]; rfl
    have hw1 : IntKind.i64.wrap (80 + (bd : Int)) = 80 + (bd : Int) := IntWalk.i64_in _ (by omega)
    have hw2 : IntKind.i64.wrap (80 + (bd : Int) - bn) = B := by rw [← hBv]; exact IntWalk.i64_in _ (by omega)
    obtain ⟨X, hX⟩ : ∃ X, X = N * 2 ^ B.toNat := ⟨_, rfl⟩
    obtain ⟨Y, hY⟩ : ∃ Y, Y = D * 2 ^ (-B).toNat := ⟨_, rfl⟩
    have hMs : M = stk X Y := by rw [hM, hX, hY, hB]; rfl
    have hbx : blen X ≤ 64000 + 70000 := by
      rw [hX]; refine Nat.le_trans (blen_scale (k := 64000) (by omega)) ?_; omega
    have hby : blen Y ≤ 64000 + 70000 := by
      rw [hY]; refine Nat.le_trans (blen_scale (k := 64000) (by omega)) ?_; omega
    have hY0 : Y ≠ 0 := by rw [hY]; exact Nat.ne_of_gt (Nat.mul_pos (Nat.pos_of_ne_zero HD.out) (Nat.pow_pos (by decide)))
    have HXL := Lib.hid (show (lim X).length ≤ 3000 from lim_blen (by omega))
    have HYL := Lib.hid (show (lim Y).length ≤ 3000 from lim_blen (by omega))
    have HRR := Lib.hid hR
    have HBV := Lib.hid hB
    have HMV := Lib.hid hM
    have HMS := Lib.hid hMs
    have HMB := Lib.hid hMb
    have HBN := Lib.hid hbn
    have HBD := Lib.hid hbd
    have HXV := Lib.hid hX
    have HYV := Lib.hid hY
    have HY0 := Lib.hid hY0
    have HC := Lib.hid hc
    have HC1 := Lib.hid hc1
    have HE := Lib.hid hE
    have HBR := Lib.hid (show -70000 ≤ B ∧ B ≤ 70000 by omega)
    have HW1 := Lib.hid hw1
    have HW2 := Lib.hid hw2
    clear hN hc hc1 hE hMb hR hB hM hbn hbd hbn2 hbd2 hBv hw1 hw2 hX hY hMs hbx hby hY0 hg
    go_enter Tryz.func56, Tryz.ntmps56
    go_upto_region 3 with fail
    rw [← HW0.out]
    refine (HSG.out w0 HFA0.out).mono ?_
    rintro e w1 ⟨rfl, hb1⟩
    rw [← HG.out]
    have HB1 := Lib.hid hb1
    obtain ⟨k10, k11, k12⟩ := HK.out
    have c0 := bat hb1 k10
    have c1 := bat hb1 k11
    have c2 := bat hb1 k12
    clear hb1 k10 k11 k12
    go_upto_region 3 with fail
    refine wp_region_held_drew (S := (fun w' => w'.cell? ⟨w.heap.size, 1, none⟩ = some (.slice A n c) ∧ w'.cell? ⟨w.heap.size, 2, none⟩ = some (.slice A' n' c'))) (by kernel_rfl) ?_ (fun hHeld => ?_)
    · first | exact True.intro | ((try dsimp only); go_keep)
    clear c1 c2 hg0
    refine tkH (i := 0) (v := ?_) rfl (by kernel_rfl) (Or.inl ⟨by kernel_rfl, ?_⟩) (by assumption) ?_
    rotate_left 1
    · (intro w hSw; (try dsimp only at hSw); go_simp; try with_reducible rfl)
    try simp only [lyA, lyB, lyC, Act.put, lyD, lyE, lyF]
    refine tkH (i := 1) (v := ?_) rfl (by kernel_rfl) (Or.inl ⟨by kernel_rfl, ?_⟩) (by assumption) ?_
    rotate_left 1
    · (intro w hSw; (try dsimp only at hSw); go_simp; try with_reducible rfl)
    try simp only [lyA, lyB, lyC, Act.put, lyD, lyE, lyF]
    refine tkH (i := 2) (v := ?_) rfl (by kernel_rfl) (Or.inl ⟨by kernel_rfl, ?_⟩) (by assumption) ?_
    rotate_left 1
    · (intro w hSw; (try dsimp only at hSw); go_simp; try with_reducible rfl)
    try simp only [lyA, lyB, lyC, Act.put, lyD, lyE, lyF]
    refine tkH (i := 3) (v := ?_) rfl (by kernel_rfl) (Or.inl ⟨by kernel_rfl, ?_⟩) (by assumption) ?_
    rotate_left 1
    · (intro w hSw; (try dsimp only at hSw); go_simp; try with_reducible rfl)
    try simp only [lyA, lyB, lyC, Act.put, lyD, lyE, lyF]
    refine wpAnyH_ready (rs := [4]) (by kernel_rfl) (by simp) ?_
    refine AllReadyH.cons rfl (fun K hK => ?_) AllReadyH.nil
    go_simp
    refine hK.out _ _ ?_ (fun hHeld => ?_)
    · first | exact True.intro | ((try dsimp only); go_keep)
    clear hK K
    try simp only [lyA, lyB, lyC, Act.put, lyD, lyE, lyF]
    refine wpAnyH_ready (rs := [5]) (by kernel_rfl) (by simp) ?_
    refine AllReadyH.cons rfl (fun K hK => ?_) AllReadyH.nil
    go_simp
    refine hK.out _ _ ?_ (fun hHeld => ?_)
    · first | exact True.intro | ((try dsimp only); go_keep)
    clear hK K
    try simp only [lyA, lyB, lyC, Act.put, lyD, lyE, lyF]
    refine wpAnyH_done (by kernel_rfl) ?_ _
    go_wp2_with fail
    refine (natBits_any _ (lim D) _ ((HY.out.below HB0.out).below HB1.out.drew) (lim_lds _) (by have := HN2.out; omega)).mono ?_
    rintro e w2 ⟨rfl, hb2⟩
    rw [ln_dig, ← HBD.out]
    have HB2 := Lib.hid (HB1.out.drew.trans (hb2.mono HB1.out.drew.size))
    have hw1 := HW1.out
    clear hb2
    go_wp2_with fail
    refine (natBits_any _ (lim N) _ ((HX.out.below HB0.out).below HB2.out) (lim_lds _) (by have := HN1.out; omega)).mono ?_
    rintro e w3 ⟨rfl, hb3⟩
    rw [ln_dig, ← HBN.out]
    have HB3 := Lib.hid (HB2.out.trans (hb3.mono HB2.out.size))
    have hw2 := HW2.out
    clear hb3
    go_upto_if 24 with fail
    go_cut [5, 6] (fun nv dv wx => LAt wx nv (lim X) ∧ LAt wx dv (lim Y) ∧ Below w0.heap.size w0 wx)
    case first =>
      have hbr := HBR.out
      have HX3 := Lib.hid ((HX.out.below HB0.out).below HB3.out)
      have HY3 := Lib.hid ((HY.out.below HB0.out).below HB3.out)
      clear hw1 hw2
      by_cases h0 : 0 ≤ B
      · obtain ⟨p, rfl⟩ : ∃ p : Nat, B = (p : Int) := ⟨B.toNat, by omega⟩
        have HXE := Lib.hid (show X = N * 2 ^ p by rw [HXV.out, Int.toNat_natCast])
        have HYE := Lib.hid (show Y = D by rw [HYV.out, show (-(p : Int)).toNat = 0 by omega, Nat.pow_zero, Nat.mul_one])
        go_wp2_with fail
        refine (natUp_any _ (lim N) p w3 HX3.out (lim_lds _) (by have := HN1.out; omega) (by omega)).mono ?_
        rintro r w4 ⟨v4, rfl, h4, hb4⟩
        rw [ln_dig, ← HXE.out] at h4
        have H4 := Lib.hid h4
        have HY4 := Lib.hid (HY3.out.below hb4)
        have HB4 := Lib.hid (HB3.out.trans (hb4.mono HB3.out.size))
        clear h4 hb4
        go_wp2_with fail
        go_meet
        exact ⟨H4.out, by rw [HYE.out]; exact HY4.out, HB4.out⟩
      · obtain ⟨p, hp⟩ : ∃ p : Nat, (p : Int) = -B := ⟨(-B).toNat, by omega⟩
        have hwn : IntKind.i64.wrap (-B) = (p : Int) := by rw [hp]; exact IntWalk.i64_in _ (by omega)
        have HXE := Lib.hid (show X = N by rw [HXV.out, show B.toNat = 0 by omega, Nat.pow_zero, Nat.mul_one])
        have HYE := Lib.hid (show Y = D * 2 ^ p by rw [HYV.out, show (-B).toNat = p by omega])
        have hp2 : p ≤ 70000 := by omega
        clear hp
        go_wp2_with fail
        refine (natUp_any _ (lim D) p w3 HY3.out (lim_lds _) (by have := HN2.out; omega) (by omega)).mono ?_
        rintro r w4 ⟨v4, rfl, h4, hb4⟩
        rw [ln_dig, ← HYE.out] at h4
        have H4 := Lib.hid h4
        have HX4 := Lib.hid (HX3.out.below hb4)
        have HB4 := Lib.hid (HB3.out.trans (hb4.mono HB3.out.size))
        clear h4 hb4
        go_wp2_with fail
        go_meet
        exact ⟨by rw [HXE.out]; exact HX4.out, H4.out, HB4.out⟩
    case rest =>
      obtain ⟨hx4, hy4, hb4⟩ := hcut
      have HX4 := Lib.hid hx4
      have HY4 := Lib.hid hy4
      have HB4 := Lib.hid hb4
      obtain ⟨A4, n4, c4, rfl, -, hc4, -⟩ := hx4.parts
      obtain ⟨A5, n5, c5, rfl, -, hc5, -⟩ := hy4.parts
      obtain ⟨Q, hQ⟩ : ∃ Q, Q = X / Y := ⟨_, rfl⟩
      obtain ⟨K, hK⟩ : ∃ K, K = X % Y := ⟨_, rfl⟩
      have HQ := Lib.hid hQ
      have HKV := Lib.hid hK
      have HQL := Lib.hid (show (lim Q).length ≤ 3000 from lim_blen (by
        have h7 : blen Q ≤ blen X := blen_mono (by rw [hQ]; exact Nat.div_le_self _ _)
        have h8 := blen_lim HXL.out
        omega))
      have HKL := Lib.hid (show (lim K).length ≤ 3000 from lim_blen (by
        have h7 : blen K ≤ blen X := blen_mono (by rw [hK]; exact Nat.mod_le _ _)
        have h8 := blen_lim HXL.out
        omega))
      have HQ2 := Lib.hid (show (lim (Q * 2 ^ 1)).length ≤ 3001 from lim_blen (by
        have h7 := blen_scale (p := 1) (blen_lim HQL.out)
        omega))
      clear hx4 hy4 hb4 hQ hK hw1 hw2
      go_wp2_with fail
      refine (natDiv_any _ _ (lim X) (lim Y) _ HX4.out HY4.out (lim_lds _) (lim_lds _) (by have := HXL.out; omega) (by have := HYL.out; omega) (by rw [ln_dig]; exact HY0.out)).mono ?_
      rintro r w5 ⟨v5, v6, rfl, h5, h6, hb5⟩
      rw [ln_dig, ln_dig, ← HQ.out] at h5
      rw [ln_dig, ln_dig, ← HKV.out] at h6
      obtain ⟨A6, n6, c6, rfl, -, hc6, -⟩ := h5.parts
      obtain ⟨A7, n7, c7, rfl, -, hc7, -⟩ := h6.parts
      have H5 := Lib.hid h5
      have H6 := Lib.hid h6
      have HB5 := Lib.hid (HB4.out.trans (hb5.mono HB4.out.size))
      clear h5 h6 hb5
      go_wp2_with fail
      refine (natUp_any _ (lim Q) 1 w5 H5.out (lim_lds _) (by have := HQL.out; omega) (by omega)).mono ?_
      rintro r w6 ⟨v7, rfl, h7, hb6⟩
      rw [ln_dig] at h7
      obtain ⟨A8, n8, c8, rfl, -, hc8, -⟩ := h7.parts
      have H7 := Lib.hid h7
      have H66 := Lib.hid (H6.out.below hb6)
      have HB6 := Lib.hid (HB5.out.trans (hb6.mono HB5.out.size))
      clear h7 hb6
      go_wp2_with fail
      refine (natBits_any _ (lim K) w6 H66.out (lim_lds _) (by have := HKL.out; omega)).mono ?_
      rintro r w7 ⟨rfl, hb7⟩
      rw [ln_dig]
      have H77 := Lib.hid (H7.out.below hb7)
      have HB7 := Lib.hid (HB6.out.trans (hb7.mono HB6.out.size))
      obtain ⟨kb, hkb⟩ : ∃ kb, kb = blen K := ⟨_, rfl⟩
      rw [← hkb]
      have HKB := Lib.hid hkb
      clear hb7 hkb
      go_upto_if 42 with fail
      go_cut [8] (fun qv wx => LAt wx qv (lim M) ∧ Below w0.heap.size w0 wx)
      case first =>
        by_cases h0 : kb = 0
        · subst h0
          go_wp2_with fail
          go_meet
          refine ⟨?_, HB7.out⟩
          have hk0 : K = 0 := by
            have h9 := HKB.out
            by_cases h8 : K = 0
            · exact h8
            · have := blen_pos h8; omega
          have h9 := H77.out
          rw [HMS.out, stk_rest, if_pos (by rw [← HKV.out]; exact hk0), ← HQ.out]
          exact h9
        · have h1 : decide (0 < (kb : Int)) = true := decide_eq_true (by omega)
          go_wp2_with fail
          refine (one_any w7).mono ?_
          rintro r w8 ⟨v8, rfl, h8, hb8⟩
          have H8 := Lib.hid h8
          have H78 := Lib.hid (H77.out.below hb8)
          have HB8 := Lib.hid (HB7.out.trans (hb8.mono HB7.out.size))
          clear h8 hb8
          go_wp2_with fail
          refine (natAdd_any _ v8 _ _ w8 H78.out H8.out (lim_lds _) (by intro x hx; simp at hx; subst hx; decide) (by have := HQ2.out; omega) (by decide)).mono ?_
          rintro r w9 ⟨v9, rfl, h9, hb9⟩
          rw [ln_dig] at h9
          have H9 := Lib.hid h9
          have HB9 := Lib.hid (HB8.out.trans (hb9.mono HB8.out.size))
          clear h9 hb9
          go_wp2_with fail
          go_meet
          refine ⟨?_, HB9.out⟩
          have hk0 : K ≠ 0 := by
            intro h8
            apply h0
            rw [HKB.out, h8]; rfl
          have h10 := H9.out
          rw [HMS.out, stk_rest, if_neg (by rw [← HKV.out]; exact hk0), ← HQ.out]
          exact h10
      case rest =>
        obtain ⟨hm, hb⟩ := hcut
        have HM9 := Lib.hid hm
        have HB9 := Lib.hid hb
        obtain ⟨A9, n9, c9, rfl, -, hc9, -⟩ := hm.parts
        obtain ⟨k10, k11, k12⟩ := HK.out
        have d0 := bat hb k10
        have hbr := HBR.out
        obtain ⟨nb, hnb⟩ : ∃ nb : Int, nb = -B := ⟨_, rfl⟩
        obtain ⟨ex, hex⟩ : ∃ ex : Int, ex = -B - 1 := ⟨_, rfl⟩
        have hw1 : IntKind.i64.wrap (-B) = nb := by rw [hnb]; exact IntWalk.i64_in _ (by omega)
        have hw2 : IntKind.i64.wrap (nb - 1) = ex := by rw [hnb, hex]; exact IntWalk.i64_in _ (by omega)
        have hMb := HMB.out
        have hM0 : M ≠ 0 := by omega
        have hml : (lim M).length ≤ 1000000 := by
          have h1 : blen M ≤ 82 := blen_le_of_lt hMb.2
          exact Nat.le_trans (lim_blen (k := 2) (by omega)) (by omega)
        have HRD := Lib.hid (fun w' (h : NAt w' (.agg #[.bool s, .slice A9 n9 c9, .int .i64 ex]) s (lim M) ex) =>
          roundedR_any _ s (lim M) ex (lastR M ex) md M cc w' h (lim_lds _) hml (by omega) (by omega) (ln_dig M).symm hM0 rfl (by rw [hex]; exact HC.out) HC1.out)
        have HE2 : Hid (fbits s (sizeR M cc md s) (lastR M ex) md = R) := Lib.hid (by rw [hex]; exact HE.out)
        clear k10 k11 k12 hm hb hnb hex hMb hM0 hml hbr c0
        go_wp2_with fail
        refine (HRD.out _ ⟨A9, n9, c9, rfl, HM9.out⟩).mono ?_
        rintro r w8 ⟨rfl, hb8⟩
        rw [HE2.out]
        have HB8 := Lib.hid (HB9.out.trans (hb8.mono HB9.out.size))
        clear hb8
        go_wp2_with fail
        go_ret
        exact ⟨rfl, HB0.out.trans (HB8.out.mono HB0.out.size)⟩

end Go.Proofs.YtjokpfgncmdomaaGreatDoor

/- Round of both sides, whole numbers of girderref07, great: the walks -/
namespace Go.Proofs.YtjokpfgncmdomaaGreatDoor
open Go.RowKit Go.Sort

/-- what Round tells -/
def roundX (r : RV) (md : Int) : Nat := if rightB r = true then rnd r.neg (ln r.num) (ln r.den) md else 0
def roundE (r : RV) : Int := if rightB r = true then 0 else 2

set_option maxRecDepth 100000 in
set_option maxHeartbeats 4000000 in
theorem round_rat (v : Value) (r : RV) (md : Int) (w : World) (hr : RAt w v r) (l1 : r.num.length ≤ 1000000000000) (l2 : r.den.length ≤ 1000000000000) (hw : Laid w) :
    Calls Tryz.prog 11 #[v, .int .i8 md] w fun e w' => e = .returned (.tuple #[.float .f64 (roundX r md), .int .i64 (roundE r)]) ∧ Below w.heap.size w w' := by
  by_cases h : rightB r = true
  · unfold roundX roundE
    rw [if_pos h, if_pos h]
    exact round_right v r md w hr h hw
  · have hf : rightB r = false := by simpa using h
    unfold roundX roundE
    rw [if_neg h, if_neg h]
    have HF := Lib.hid hf
    have HR := Lib.hid hr
    obtain ⟨A, n, c, A', n', c', rfl, -, -, -, -⟩ := hr
    clear h hf hw
    go_enter Tryz.func11, Tryz.ntmps11
    go_wp2_with fail
    refine (right_ratio _ r _ (HR.out.below (below1 ..)) (by omega) (by omega)).mono ?_
    rw [HF.out]
    rintro e w1 ⟨rfl, hb1⟩
    have HB1 := Lib.hid (below_then (below1 w (.cells #[.bool r.neg, .slice A n c, .slice A' n' c'] 24)) hb1)
    clear hb1
    go_wp2_with fail
    go_ret2
    exact ⟨rfl, HB1.out⟩

set_option maxRecDepth 100000 in
set_option maxHeartbeats 4000000 in
theorem round07_any (v : Value) (r : RV) (md : Int) (w : World) (h : FAt w v r) (hl : LdR r) (n1 : r.num.length ≤ 1000) (n2 : r.den.length ≤ 1000) :
    Calls Tryz.prog 12 #[v, .int .i8 md] w fun e w' => e = .returned (.tuple #[.float .f64 (roundX r md), .int .i64 (roundE r)]) ∧ Below w.heap.size w w' := by
  have HFA := Lib.hid h
  have HL := Lib.hid hl
  obtain ⟨A, n, c, A', n', c', rfl, -, -⟩ := h.shape
  obtain ⟨w0, hw0⟩ : ∃ w0, w0 = w.alloc (.cells #[.bool r.neg, .slice A n c, .slice A' n' c'] 24) := ⟨_, rfl⟩
  have hb0 : Below w.heap.size w w0 := by rw [hw0]; exact below1 ..
  have g1 : w0.heap[w.heap.size]? = some (.cells #[.bool r.neg, .slice A n c, .slice A' n' c'] 24 (0, 0)) := by rw [hw0]; exact blk_new ..
  have z0 : w.heap.size < w0.heap.size := by rw [hw0]; simp
  have k1 := (blk_cells g1).1
  have k10 := k1 0
  have k11 := k1 1
  have k12 := k1 2
  simp only [List.getElem?_toArray, List.getElem?_cons_zero, List.getElem?_cons_succ] at k10 k11 k12
  have HK := Lib.hid (And.intro k10 (And.intro k11 k12))
  have HB0 := Lib.hid hb0
  have HW0 := Lib.hid hw0
  rw [hw0] at k10 k11 k12
  clear hw0 hb0 g1 k1 h hl
  have HN1 := Lib.hid n1
  have HN2 := Lib.hid n2
  clear n1 n2
  by_cases h : rightB r = true
  · have HT := Lib.hid h
    have HX : Hid (roundX r md = rnd r.neg (ln r.num) (ln r.den) md) := Lib.hid (if_pos h)
    have HE : Hid (roundE r = 0) := Lib.hid (if_pos h)
    rw [HX.out, HE.out]
    obtain ⟨R, hR⟩ : ∃ R, R = rnd r.neg (ln r.num) (ln r.den) md := ⟨_, rfl⟩
    rw [← hR]
    have HRV := Lib.hid hR
    clear h hR
    go_enter Tryz.func12, Tryz.ntmps12
    go_wp2_with fail
    rw [← HW0.out]
    refine (refRight_any _ r w0 (HFA.out.below HB0.out) HL.out (by have := HN1.out; omega) (by have := HN2.out; omega)).mono ?_
    rintro e w1 ⟨rfl, hb1⟩
    rw [HT.out]
    have HB1 := Lib.hid hb1
    obtain ⟨k10, k11, k12⟩ := HK.out
    have c0 := bat hb1 k10
    have c1 := bat hb1 k11
    have c2 := bat hb1 k12
    clear hb1 k10 k11 k12
    go_wp2_with fail
    refine (value_any _ r w1 ((HFA.out.below HB0.out).below HB1.out) HL.out (by have := HN1.out; omega) (by have := HN2.out; omega)).mono ?_
    rintro e w2 ⟨v2, rfl, h2, hb2⟩
    have H2 := Lib.hid h2
    have HB2 := Lib.hid (HB1.out.trans (hb2.mono HB1.out.size))
    obtain ⟨B, m, d, B', m', d', rfl, -, -⟩ := h2.shape
    simp only at H2 ⊢
    clear h2 hb2 c0 c1 c2
    go_wp2_with fail
    refine (rounded07_any _ r.neg (ln r.num) (ln r.den) md w2 H2.out (right_den HT.out HL.out.2) (Nat.le_trans (lim_len_le (ln_lt HL.out.1)) HN1.out) (Nat.le_trans (lim_len_le (ln_lt HL.out.2)) HN2.out)).mono ?_
    rw [← HRV.out]
    rintro e w3 ⟨rfl, hb3⟩
    have HB3 := Lib.hid (HB2.out.trans (hb3.mono HB2.out.size))
    clear hb3
    go_wp2_with fail
    go_ret2
    exact ⟨rfl, HB0.out.trans (HB3.out.mono HB0.out.size)⟩
  · have hf : rightB r = false := by simpa using h
    have HX : Hid (roundX r md = 0) := Lib.hid (if_neg h)
    have HE : Hid (roundE r = 2) := Lib.hid (if_neg h)
    rw [HX.out, HE.out]
    have HF := Lib.hid hf
    clear h hf
    go_enter Tryz.func12, Tryz.ntmps12
    go_wp2_with fail
    rw [← HW0.out]
    refine (refRight_any _ r w0 (HFA.out.below HB0.out) HL.out (by have := HN1.out; omega) (by have := HN2.out; omega)).mono ?_
    rw [HF.out]
    rintro e w1 ⟨rfl, hb1⟩
    have HB1 := Lib.hid (HB0.out.trans (hb1.mono HB0.out.size))
    clear hb1
    go_wp2_with fail
    go_ret2
    exact ⟨rfl, HB1.out⟩

set_option maxRecDepth 100000 in
set_option maxHeartbeats 2000000 in
theorem great_any (s : Bool) (A A' : Option Addr) (n n' c c' : Nat) (w : World) (hn : n ≤ 100000000000000) (hn' : n' ≤ 100000000000000) :
    Calls Tryz.prog 9 #[.agg #[.bool s, .slice A n c, .slice A' n' c']] w fun e w' => e = .returned (.bool (decide (300 < n) || decide (300 < n'))) ∧ Below w.heap.size w w' := by
  by_cases h1 : 300 < n
  · have e1 : decide (300 < (n : Int)) = true := decide_eq_true (by omega)
    go_enter Tryz.func9, Tryz.ntmps9
    go_wp2_with fail
    go_ret
    exact ⟨by rw [decide_eq_true h1]; rfl, below1 ..⟩
  · have e1 : decide (300 < (n : Int)) = false := decide_eq_false (by omega)
    by_cases h2 : 300 < n'
    · have e2 : decide (300 < (n' : Int)) = true := decide_eq_true (by omega)
      go_enter Tryz.func9, Tryz.ntmps9
      go_wp2_with fail
      go_ret
      exact ⟨by rw [decide_eq_false h1, decide_eq_true h2]; rfl, below1 ..⟩
    · have e2 : decide (300 < (n' : Int)) = false := decide_eq_false (by omega)
      go_enter Tryz.func9, Tryz.ntmps9
      go_wp2_with fail
      go_ret
      exact ⟨by rw [decide_eq_false h1, decide_eq_false h2]; rfl, below1 ..⟩

end Go.Proofs.YtjokpfgncmdomaaGreatDoor

/- girderref07.Whole, Int: the walks (printed by gen_h23.py) -/
namespace Go.Proofs.YtjokpfgncmdomaaGreatDoor
open Go.RowKit Go.Sort

set_option maxRecDepth 100000 in
set_option maxHeartbeats 4000000 in
theorem whole_neg (x : Int) (w : World) (hneg : x < 0) (hx : -9223372036854775808 ≤ x) :
    Calls Tryz.prog 63 #[.int .i64 x] w fun e w' => ∃ v, e = .returned v ∧ FAt w' v ⟨true, lim x.natAbs, lim 1⟩ ∧ Below w.heap.size w w' := by
  have e1 : IntKind.u64.wrap x = x + 18446744073709551616 := by rw [IntKind.wrap_u64]; omega
  have e2 : IntKind.u64.wrap (-(x + 18446744073709551616)) = (x.natAbs : Int) := by rw [IntKind.wrap_u64]; omega
  have e3 : decide (x < 0) = true := decide_eq_true hneg
  obtain ⟨w0, hw0⟩ : ∃ w0, w0 = w.alloc (.cells #[.bool false, .slice none 0 0, .slice none 0 0] 77) := ⟨_, rfl⟩
  have hb0 : Below w.heap.size w w0 := by rw [hw0]; exact below1 ..
  have g1 : w0.heap[w.heap.size]? = some (.cells #[.bool false, .slice none 0 0, .slice none 0 0] 77 (0, 0)) := by rw [hw0]; exact blk_new ..
  have z0 : w.heap.size < w0.heap.size := by rw [hw0]; simp
  have HB0 := Lib.hid hb0
  have HW0 := Lib.hid hw0
  have G1 := Lib.hid g1
  have HN := Lib.hid (fun w => natOf_any x.natAbs w (by omega))
  clear hw0 hb0 g1
  go_enter Tryz.func63, Tryz.ntmps63
  go_wp2_with fail
  rw [← HW0.out]
  refine (HN.out w0).mono ?_
  rintro e w1 ⟨v1, rfl, h1, hb1⟩
  have H1 := Lib.hid h1
  have HB1 := Lib.hid hb1
  obtain ⟨B, m, d, rfl, -, -, -⟩ := h1.parts
  clear h1 hb1
  go_wp2_with fail
  refine (one_any w1).mono ?_
  rintro e w2 ⟨v2, rfl, h2, hb2⟩
  have H2 := Lib.hid h2
  have H12 := Lib.hid (H1.out.below hb2)
  have HB2 := Lib.hid (HB1.out.trans (hb2.mono HB1.out.size))
  obtain ⟨B', m', d', rfl, -, -, -⟩ := h2.parts
  have hblk := (HB2.out.block w.heap.size z0).trans G1.out
  obtain ⟨kc, kf⟩ := blk_cells hblk
  have kc0 := kc 0
  have kc1 := kc 1
  have kc2 := kc 2
  have kf0 := kf 0
  have kf1 := kf 1
  have kf2 := kf 2
  simp only [List.getElem?_toArray, List.getElem?_cons_zero, List.getElem?_cons_succ] at kc0 kc1 kc2
  clear h2 hb2 hblk kc kf
  obtain ⟨w6, hw6⟩ : ∃ w6, w6 = ((w2.setCell ⟨w.heap.size, 0, none⟩ (.bool true)).setCell ⟨w.heap.size, 1, none⟩ (.slice B m d)).setCell ⟨w.heap.size, 2, none⟩ (.slice B' m' d') := ⟨_, rfl⟩
  obtain ⟨hu6, q0, q1, q2⟩ := rat_set kc0 kc1 kc2 _ _ _ _ _ _ _ _ hw6
  have HW6 := Lib.hid hw6
  have HU6 := Lib.hid hu6
  have Q0 := Lib.hid q0
  have Q1 := Lib.hid q1
  have Q2 := Lib.hid q2
  clear hw6 hu6 q0 q1 q2
  go_wp2_with fail
  rw [← HW6.out]
  have q0 := Q0.out
  have q1 := Q1.out
  have q2 := Q2.out
  (try simp only [Exit.inBlock, Exit.then])
  refine bodyPost_ret (v := .agg #[.bool true, .slice B m d, .slice B' m' d']) (by simp [results, Tryz.results63, go_sem, q0, q1, q2]; done) rfl ?_
  exact ⟨_, rfl, ⟨_, _, rfl, H12.out.upb HU6.out, H2.out.upb HU6.out⟩, HB0.out.trans ((HB2.out.mono HB0.out.size).trans (HU6.out.below (by omega) (by have := HB2.out.size; omega)))⟩

set_option maxRecDepth 100000 in
set_option maxHeartbeats 4000000 in
theorem whole_pos (x : Int) (w : World) (hpos : 0 ≤ x) (hx : x ≤ 9223372036854775807) :
    Calls Tryz.prog 63 #[.int .i64 x] w fun e w' => ∃ v, e = .returned v ∧ FAt w' v ⟨false, lim x.natAbs, lim 1⟩ ∧ Below w.heap.size w w' := by
  have e1 : IntKind.u64.wrap x = (x.natAbs : Int) := by rw [IntKind.wrap_u64]; omega
  have e3 : decide (x < 0) = false := decide_eq_false (by omega)
  obtain ⟨w0, hw0⟩ : ∃ w0, w0 = w.alloc (.cells #[.bool false, .slice none 0 0, .slice none 0 0] 77) := ⟨_, rfl⟩
  have hb0 : Below w.heap.size w w0 := by rw [hw0]; exact below1 ..
  have g1 : w0.heap[w.heap.size]? = some (.cells #[.bool false, .slice none 0 0, .slice none 0 0] 77 (0, 0)) := by rw [hw0]; exact blk_new ..
  have z0 : w.heap.size < w0.heap.size := by rw [hw0]; simp
  have HB0 := Lib.hid hb0
  have HW0 := Lib.hid hw0
  have G1 := Lib.hid g1
  have HN := Lib.hid (fun w => natOf_any x.natAbs w (by omega))
  clear hw0 hb0 g1
  go_enter Tryz.func63, Tryz.ntmps63
  go_wp2_with fail
  rw [← HW0.out]
  refine (HN.out w0).mono ?_
  rintro e w1 ⟨v1, rfl, h1, hb1⟩
  have H1 := Lib.hid h1
  have HB1 := Lib.hid hb1
  obtain ⟨B, m, d, rfl, -, -, -⟩ := h1.parts
  clear h1 hb1
  go_wp2_with fail
  refine (one_any w1).mono ?_
  rintro e w2 ⟨v2, rfl, h2, hb2⟩
  have H2 := Lib.hid h2
  have H12 := Lib.hid (H1.out.below hb2)
  have HB2 := Lib.hid (HB1.out.trans (hb2.mono HB1.out.size))
  obtain ⟨B', m', d', rfl, -, -, -⟩ := h2.parts
  have hblk := (HB2.out.block w.heap.size z0).trans G1.out
  obtain ⟨kc, kf⟩ := blk_cells hblk
  have kc0 := kc 0
  have kc1 := kc 1
  have kc2 := kc 2
  have kf0 := kf 0
  have kf1 := kf 1
  have kf2 := kf 2
  simp only [List.getElem?_toArray, List.getElem?_cons_zero, List.getElem?_cons_succ] at kc0 kc1 kc2
  clear h2 hb2 hblk kc kf
  obtain ⟨w6, hw6⟩ : ∃ w6, w6 = ((w2.setCell ⟨w.heap.size, 0, none⟩ (.bool false)).setCell ⟨w.heap.size, 1, none⟩ (.slice B m d)).setCell ⟨w.heap.size, 2, none⟩ (.slice B' m' d') := ⟨_, rfl⟩
  obtain ⟨hu6, q0, q1, q2⟩ := rat_set kc0 kc1 kc2 _ _ _ _ _ _ _ _ hw6
  have HW6 := Lib.hid hw6
  have HU6 := Lib.hid hu6
  have Q0 := Lib.hid q0
  have Q1 := Lib.hid q1
  have Q2 := Lib.hid q2
  clear hw6 hu6 q0 q1 q2
  go_wp2_with fail
  rw [← HW6.out]
  have q0 := Q0.out
  have q1 := Q1.out
  have q2 := Q2.out
  (try simp only [Exit.inBlock, Exit.then])
  refine bodyPost_ret (v := .agg #[.bool false, .slice B m d, .slice B' m' d']) (by simp [results, Tryz.results63, go_sem, q0, q1, q2]; done) rfl ?_
  exact ⟨_, rfl, ⟨_, _, rfl, H12.out.upb HU6.out, H2.out.upb HU6.out⟩, HB0.out.trans ((HB2.out.mono HB0.out.size).trans (HU6.out.below (by omega) (by have := HB2.out.size; omega)))⟩

/-- the ratio of a whole number -/
theorem leastR_int (x : Int) : leastR (decide (x < 0)) x.natAbs 1 = rv (Rat.divInt x 1) := by
  have h1 := rn_pos (a := x) (b := 1) (by decide)
  have e1 : (Rat.divInt x 1).num = x := by rw [h1.1]; simp
  have e2 : (Rat.divInt x 1).den = 1 := by rw [h1.2]; simp
  unfold rv leastR
  rw [e1, e2]
  by_cases h : x = 0
  · subst h; rfl
  · rw [if_neg (by omega), Nat.gcd_one_right, Nat.div_one]
theorem toldB_int {x : Int} (hx : -9223372036854775808 ≤ x) (hx2 : x ≤ 9223372036854775807) : toldB (rv (Rat.divInt x 1)) = true := by
  have h := fits_int hx hx2
  unfold toldB
  have h1 : (rv (Rat.divInt x 1)).num.length ≤ 256 := h.1
  have h2 : (rv (Rat.divInt x 1)).den.length ≤ 256 := h.2
  rw [decide_eq_true h1, decide_eq_true h2]; rfl

set_option maxRecDepth 100000 in
set_option maxHeartbeats 4000000 in
theorem int07_any (x : Int) (w : World) (hx : -9223372036854775808 ≤ x) (hx2 : x ≤ 9223372036854775807) :
    Calls Tryz.prog 16 #[.int .i64 x] w fun e w' => ∃ v, e = .returned v ∧ FAt w' v (rv (Rat.divInt x 1)) ∧ Below w.heap.size w w' := by
  have hwh : ∀ w, Calls Tryz.prog 63 #[.int .i64 x] w fun e w' => ∃ v, e = .returned v ∧ FAt w' v ⟨decide (x < 0), lim x.natAbs, lim 1⟩ ∧ Below w.heap.size w w' := by
    intro w
    by_cases h : x < 0
    · rw [decide_eq_true h]; exact whole_neg x w h hx
    · rw [decide_eq_false h]; exact whole_pos x w (by omega) hx2
  have hlen : (lim x.natAbs).length ≤ 10000000000 := Nat.le_trans (lim_len_le (k := 1) (by rw [Nat.pow_one]; show _ < 18446744073709551616; omega)) (by omega)
  obtain ⟨sg, hsg⟩ : ∃ sg, sg = decide (x < 0) := ⟨_, rfl⟩
  have hL := leastR_int x
  have hT := toldB_int hx hx2
  rw [← hsg] at hwh hL
  obtain ⟨r, hr⟩ : ∃ r, r = rv (Rat.divInt x 1) := ⟨_, rfl⟩
  rw [← hr] at hL hT ⊢
  have htr : toldRV r = r := if_pos hT
  have hte : toldEn r = 0 := if_pos hT
  have HWH := Lib.hid hwh
  have HT := Lib.hid (fun v w (h : FAt w v ⟨sg, lim x.natAbs, lim 1⟩) => by
    have h9 := told_any v sg x.natAbs 1 w h (by decide) hlen (by decide)
    rw [hL, htr, hte] at h9
    exact h9)
  clear hwh hL hT htr hte hlen hr hsg
  obtain ⟨w0, hw0⟩ : ∃ w0, w0 = w.alloc (.cells #[.bool false, .slice none 0 0, .slice none 0 0] 24) := ⟨_, rfl⟩
  have hb0 : Below w.heap.size w w0 := by rw [hw0]; exact below1 ..
  have g1 : w0.heap[w.heap.size]? = some (.cells #[.bool false, .slice none 0 0, .slice none 0 0] 24 (0, 0)) := by rw [hw0]; exact blk_new ..
  have z0 : w.heap.size < w0.heap.size := by rw [hw0]; simp
  have HB0 := Lib.hid hb0
  have HW0 := Lib.hid hw0
  have G1 := Lib.hid g1
  clear hw0 hb0 g1 hx hx2
  go_enter Tryz.func16, Tryz.ntmps16
  go_wp2_with fail
  rw [← HW0.out]
  refine (HWH.out w0).mono ?_
  rintro e w1 ⟨v1, rfl, h1, hb1⟩
  have H1 := Lib.hid h1
  have HB1 := Lib.hid hb1
  obtain ⟨A1, n1, c1, A2, n2, c2, rfl, -, -⟩ := h1.shape
  clear h1 hb1
  go_wp2_with fail
  refine (HT.out _ w1 H1.out).mono ?_
  rintro e w2 ⟨v2, rfl, h2, hb2⟩
  have H2 := Lib.hid h2
  have HB2 := Lib.hid (HB1.out.trans (hb2.mono HB1.out.size))
  obtain ⟨B, m, d, B', m', d', rfl, -, -⟩ := h2.shape
  have hblk2 := (HB2.out.block w.heap.size z0).trans G1.out
  have z2 := HB2.out.size
  obtain ⟨w3, hw3⟩ : ∃ w3, w3 = w2.alloc (.cells #[.bool r.neg, .slice B m d, .slice B' m' d'] 24) := ⟨_, rfl⟩
  have hb3 : Below w2.heap.size w2 w3 := by rw [hw3]; exact below1 ..
  have hblk3 := (hb3.block w.heap.size (by omega)).trans hblk2
  obtain ⟨kc, kf⟩ := blk_cells hblk3
  have kc0 := kc 0
  have kc1 := kc 1
  have kc2 := kc 2
  have kf0 := kf 0
  have kf1 := kf 1
  have kf2 := kf 2
  simp only [List.getElem?_toArray, List.getElem?_cons_zero, List.getElem?_cons_succ] at kc0 kc1 kc2
  have HW3 := Lib.hid hw3
  have HB3 := Lib.hid hb3
  rw [hw3] at kc0 kc1 kc2
  rw [hw3] at kf0 kf1 kf2
  clear h2 hb2 hblk2 hblk3 kc kf hw3 hb3
  go_wp2_with fail
  rw [← HW3.out] at kc0 kc1 kc2 ⊢
  obtain ⟨w6, hw6⟩ : ∃ w6, w6 = ((w3.setCell ⟨w.heap.size, 0, none⟩ (.bool r.neg)).setCell ⟨w.heap.size, 1, none⟩ (.slice B m d)).setCell ⟨w.heap.size, 2, none⟩ (.slice B' m' d') := ⟨_, rfl⟩
  obtain ⟨hu6, q0, q1, q2⟩ := rat_set kc0 kc1 kc2 _ _ _ _ _ _ _ _ hw6
  rw [← hw6]
  (try simp only [Exit.inBlock, Exit.then])
  refine bodyPost_ret (v := .agg #[.bool r.neg, .slice B m d, .slice B' m' d']) (by simp [results, Tryz.results16, go_sem, q0, q1, q2]; done) rfl ?_
  have z3 := HB3.out.size
  exact ⟨_, rfl, (H2.out.below HB3.out).upb hu6, HB0.out.trans ((HB2.out.mono HB0.out.size).trans ((HB3.out.mono (by omega)).trans (hu6.below (by omega) (by omega))))⟩

end Go.Proofs.YtjokpfgncmdomaaGreatDoor

/- girderlaw07.RatioRounds: the walk -/
namespace Go.Proofs.YtjokpfgncmdomaaGreatDoor
open Go.RowKit Go.Sort

set_option maxRecDepth 100000 in
set_option maxHeartbeats 2000000 in
theorem same_float (x : Nat) (w : World) : Calls Tryz.prog 13 #[.float .f64 x, .float .f64 x] w fun e w' => e = .returned (.bool true) ∧ w = w' := by
  have hfb := fun w => run_f64bits x w
  go_enter Tryz.func13, Tryz.ntmps13
  go_wp2_with fail
  go_ret
  exact ⟨rfl, rfl⟩
theorem rv_len {q : Rat} (h : fits q) : (rv q).num.length ≤ 256 ∧ (rv q).den.length ≤ 256 := h

set_option maxRecDepth 100000 in
set_option maxHeartbeats 16000000 in
theorem rounds_law (v : Value) (r : RV) (md x : Int) (w : World) (ha : FAt w v r) (hl : LdR r) (l1 : r.num.length ≤ 100000000000000) (l2 : r.den.length ≤ 100000000000000) (hx : -9223372036854775808 ≤ x) (hx2 : x ≤ 9223372036854775807) (hw : Laid w) :
    Calls Tryz.prog 3 #[v, .int .i8 md, .int .i64 x] w fun e w' => e = .returned (.bool true) ∧ Below w.heap.size w w' := by
  have HA := Lib.hid ha
  have HL := Lib.hid hl
  have HW := Lib.hid hw
  obtain ⟨A, n, c, A', n', c', rfl, h1, h2⟩ := ha.shape
  have x1 := (lat_num h1).1
  have x2 := (lat_num h2).1
  rw [← x1] at l1
  rw [← x2] at l2
  have X1 := Lib.hid x1
  have X2 := Lib.hid x2
  obtain ⟨sg, hsg⟩ : ∃ sg, sg = r.neg := ⟨_, rfl⟩
  rw [← hsg] at HA ⊢
  obtain ⟨w0, hw0⟩ : ∃ w0, w0 = w.alloc (.cells #[.bool sg, .slice A n c, .slice A' n' c'] 24) := ⟨_, rfl⟩
  have hb0 : Below w.heap.size w w0 := by rw [hw0]; exact below1 ..
  have g1 : w0.heap[w.heap.size]? = some (.cells #[.bool sg, .slice A n c, .slice A' n' c'] 24 (0, 0)) := by rw [hw0]; exact blk_new ..
  have z0 : w.heap.size < w0.heap.size := by rw [hw0]; simp
  have k1 := (blk_cells g1).1
  have k10 := k1 0
  have k11 := k1 1
  have k12 := k1 2
  simp only [List.getElem?_toArray, List.getElem?_cons_zero, List.getElem?_cons_succ] at k10 k11 k12
  have HK := Lib.hid (And.intro k10 (And.intro k11 k12))
  have HB0 := Lib.hid hb0
  have HW0 := Lib.hid hw0
  have HX := Lib.hid (And.intro hx hx2)
  rw [hw0] at k10 k11 k12
  clear ha hl hw h1 h2 x1 x2 hw0 hb0 g1 k1 hsg hx hx2
  obtain ⟨gr, hgr⟩ : ∃ gr, gr = (decide (300 < n) || decide (300 < n')) := ⟨_, rfl⟩
  have HG := Lib.hid (fun w => great_any sg A A' n n' c c' w l1 l2)
  rw [← hgr] at HG
  have HGR := Lib.hid hgr
  clear hgr
  cases gr
  · have hn : n ≤ 300 ∧ n' ≤ 300 := by
      have h := HGR.out
      have h9 := Bool.or_eq_false_iff.1 h.symm
      have h10 := of_decide_eq_false h9.1
      have h11 := of_decide_eq_false h9.2
      omega
    obtain ⟨hn1, hn2⟩ := hn
    obtain ⟨rx, hrx⟩ : ∃ rx, rx = roundX r md := ⟨_, rfl⟩
    obtain ⟨re, hre⟩ : ∃ re, re = roundE r := ⟨_, rfl⟩
    have HR1 := Lib.hid (fun v w (h : FAt w v r) (hw : Laid w) => round_rat v r md w (h.rat HL.out) (by rw [← X1.out]; omega) (by rw [← X2.out]; omega) hw)
    have HR2 := Lib.hid (fun v w (h : FAt w v r) => round07_any v r md w h HL.out (by rw [← X1.out]; omega) (by rw [← X2.out]; omega))
    rw [← hrx, ← hre] at HR1 HR2
    have hee : (re == re) = true := by simp
    clear hrx hre
    go_enter Tryz.func3, Tryz.ntmps3
    go_wp2_with fail
    rw [← HW0.out]
    refine (HG.out w0).mono ?_
    rintro e w1 ⟨rfl, hb1⟩
    have HB1 := Lib.hid hb1
    obtain ⟨k10, k11, k12⟩ := HK.out
    have c0 := bat hb1 k10
    have c1 := bat hb1 k11
    have c2 := bat hb1 k12
    clear hb1 k10 k11 k12
    go_wp2_with fail
    refine (HR1.out _ w1 ((HA.out.below HB0.out).below HB1.out) ((HW.out.below HB0.out).below HB1.out)).mono ?_
    rintro e w2 ⟨rfl, hb2⟩
    have HB2 := Lib.hid (HB1.out.trans (hb2.mono HB1.out.size))
    have d0 := bat hb2 c0
    have d1 := bat hb2 c1
    have d2 := bat hb2 c2
    clear hb2 c0 c1 c2
    go_wp2_with fail
    refine (HR2.out _ w2 ((HA.out.below HB0.out).below HB2.out)).mono ?_
    rintro e w3 ⟨rfl, hb3⟩
    have HB3 := Lib.hid (HB2.out.trans (hb3.mono HB2.out.size))
    clear hb3 d0 d1 d2
    go_wp2_with fail
    refine (same_float rx w3).mono ?_
    rintro e w4 ⟨rfl, rfl⟩
    go_wp2_with fail
    refine (int_ratio x w3 HX.out.1 HX.out.2).mono ?_
    rintro e w5 ⟨v5, rfl, h5, hb5⟩
    have H5 := Lib.hid h5
    have HB5 := Lib.hid (HB3.out.trans (hb5.mono HB3.out.size))
    clear h5 hb5
    go_wp2_with fail
    refine (int07_any x w5 HX.out.1 HX.out.2).mono ?_
    rintro e w6 ⟨v6, rfl, h6, hb6⟩
    have H6 := Lib.hid (h6.rat ⟨lim_lds _, lim_lds _⟩)
    have H56 := Lib.hid (H5.out.below hb6)
    have HB6 := Lib.hid (HB5.out.trans (hb6.mono HB5.out.size))
    have HFL := Lib.hid (rv_len (fits_int HX.out.1 HX.out.2))
    clear h6 hb6
    go_wp2_with fail
    refine (same_ratio v5 v6 _ _ w6 H56.out H6.out (by have := HFL.out; omega) (by have := HFL.out; omega) (by have := HFL.out; omega) (by have := HFL.out; omega)).mono ?_
    rintro e w7 ⟨rfl, hb7⟩
    rw [decide_eq_true (rfl : rv (Rat.divInt x 1) = rv (Rat.divInt x 1))]
    have HB7 := Lib.hid (HB6.out.trans (hb7.mono HB6.out.size))
    clear hb7
    go_wp2_with fail
    refine (awake_law w7 ((HW.out.below HB0.out).below HB7.out)).mono ?_
    rintro e w8 ⟨rfl, hb8⟩
    have HB8 := Lib.hid (HB7.out.trans (hb8.mono HB7.out.size))
    clear hb8
    go_wp2_with fail
    go_ret
    exact ⟨rfl, HB0.out.trans (HB8.out.mono HB0.out.size)⟩
  · go_enter Tryz.func3, Tryz.ntmps3
    go_wp2_with fail
    rw [← HW0.out]
    refine (HG.out w0).mono ?_
    rintro e w1 ⟨rfl, hb1⟩
    have HB1 := Lib.hid hb1
    clear hb1 k10 k11 k12
    go_wp2_with fail
    refine (awake_law w1 ((HW.out.below HB0.out).below HB1.out)).mono ?_
    rintro e w2 ⟨rfl, hb2⟩
    have HB2 := Lib.hid (HB1.out.trans (hb2.mono HB1.out.size))
    clear hb2
    go_wp2_with fail
    go_ret
    exact ⟨rfl, HB0.out.trans (HB2.out.mono HB0.out.size)⟩

end Go.Proofs.YtjokpfgncmdomaaGreatDoor
