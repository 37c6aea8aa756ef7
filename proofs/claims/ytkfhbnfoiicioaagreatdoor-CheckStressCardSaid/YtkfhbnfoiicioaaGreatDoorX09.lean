import Derived.Test.YtkfhbnfoiicioaaGreatDoorX08
import Derived.Deep.Cut
import Derived.Deep.DeepCutAuto
set_option linter.unusedSimpArgs false
set_option linter.unusedVariables false
/- dyad.Cmp, round.cmp: the walks -/
namespace Go.Proofs.YtkfhbnfoiicioaaGreatDoor
open Ieee Go.RowKit Go.Sort

/-- how z1 * 2^e1 stands to z2 * 2^e2 -/
def cmpE (z1 e1 z2 e2 : Int) : Int := cmpI (z1 * 2 ^ (e1 - min e1 e2).toNat) (z2 * 2 ^ (e2 - min e1 e2).toNat)
theorem cmpI_scale (x y : Int) (k : Nat) : cmpI (x * 2 ^ k) (y * 2 ^ k) = cmpI x y := by
  have hp : (0 : Int) < 2 ^ k := by exact_mod_cast Nat.two_pow_pos k
  have h1 : x * 2 ^ k < y * 2 ^ k ↔ x < y := Int.mul_lt_mul_right hp
  have h2 : y * 2 ^ k < x * 2 ^ k ↔ y < x := Int.mul_lt_mul_right hp
  unfold cmpI
  simp only [h1, h2]
theorem cmpE_at (z1 e1 z2 e2 : Int) (T : Int) (h1 : T ≤ e1) (h2 : T ≤ e2) : cmpE z1 e1 z2 e2 = cmpI (z1 * 2 ^ (e1 - T).toNat) (z2 * 2 ^ (e2 - T).toNat) := by
  unfold cmpE
  obtain ⟨m, hm⟩ : ∃ m, m = min e1 e2 := ⟨_, rfl⟩
  have hT : T ≤ m := by omega
  have hm1 : m ≤ e1 := by omega
  have hm2 : m ≤ e2 := by omega
  rw [← hm]
  rw [← cmpI_scale _ _ (m - T).toNat, Int.mul_assoc, Int.mul_assoc, ← Int.pow_add, ← Int.pow_add]
  congr 4 <;> omega

/-- sizes told by the highest bits' places -/
theorem place_lt {a b : Nat} {e f : Int} (T : Int) (h1 : T ≤ e) (h2 : T ≤ f) (hb : b ≠ 0) (h : e + blen a < f + blen b) : a * 2 ^ (e - T).toNat < b * 2 ^ (f - T).toNat := by
  have ha : a < 2 ^ blen a := blen_lt
  have hb2 : 2 ^ (blen b - 1) ≤ b := blen_le hb
  have hp := blen_pos hb
  calc a * 2 ^ (e - T).toNat < 2 ^ blen a * 2 ^ (e - T).toNat := Nat.mul_lt_mul_of_pos_right ha (Nat.two_pow_pos _)
    _ = 2 ^ (blen a + (e - T).toNat) := by rw [Nat.pow_add]
    _ ≤ 2 ^ (blen b - 1 + (f - T).toNat) := Nat.pow_le_pow_right (by decide) (by omega)
    _ = 2 ^ (blen b - 1) * 2 ^ (f - T).toNat := by rw [Nat.pow_add]
    _ ≤ b * 2 ^ (f - T).toNat := Nat.mul_le_mul_right _ hb2


def sgB (s : Bool) : Int := if s then -1 else 1
theorem sgD_eq (d : DV) : sgD d = sgB d.neg := rfl
def numD (s : Bool) (a : Nat) : Int := if s then -(a : Int) else (a : Int)
theorem top_num (d : DV) : d.top = numD d.neg (ln d.mag) := rfl
theorem cmpE_signs {s : Bool} {a b : Nat} {e f : Int} (ha : a ≠ 0) (hb : b ≠ 0) : cmpE (numD s a) e (numD (!s) b) f = sgB s := by
  rw [cmpE_at _ _ _ _ (min e f) (by omega) (by omega)]
  have hp : (0 : Int) < 2 ^ (e - min e f).toNat := by exact_mod_cast Nat.two_pow_pos _
  have hq : (0 : Int) < 2 ^ (f - min e f).toNat := by exact_mod_cast Nat.two_pow_pos _
  generalize (2 : Int) ^ (e - min e f).toNat = P at hp ⊢
  generalize (2 : Int) ^ (f - min e f).toNat = Q at hq ⊢
  have h1 : 0 < (a : Int) * P := Int.mul_pos (by omega) hp
  have h2 : 0 < (b : Int) * Q := Int.mul_pos (by omega) hq
  unfold cmpI numD sgB
  cases s
  · simp only [Bool.false_eq_true, if_false, Bool.not_false, if_true, Int.neg_mul]
    rw [if_neg (by omega), if_pos (by omega)]
  · simp only [Bool.false_eq_true, if_false, Bool.not_true, if_true, Int.neg_mul]
    rw [if_pos (by omega)]
theorem cmpI_num (s : Bool) (X Y : Nat) (h : X < Y) : cmpI (numD s X) (numD s Y) = -sgB s ∧ cmpI (numD s Y) (numD s X) = sgB s := by
  unfold cmpI numD sgB
  cases s
  · simp only [Bool.false_eq_true, if_false]
    rw [if_pos (by omega), if_neg (by omega), if_pos (by omega)]
    exact ⟨rfl, rfl⟩
  · simp only [if_true]
    rw [if_neg (by omega), if_pos (by omega), if_pos (by omega)]
    exact ⟨rfl, rfl⟩
theorem numD_mul (s : Bool) (a k : Nat) : numD s a * 2 ^ k = numD s (a * 2 ^ k) := by
  unfold numD
  cases s
  · simp only [Bool.false_eq_true, if_false]; push_cast; rfl
  · simp only [if_true, Int.neg_mul]; push_cast; rfl
theorem cmpE_lt {s : Bool} {a b : Nat} {e f : Int} (hb : b ≠ 0) (h : e + blen a < f + blen b) : cmpE (numD s a) e (numD s b) f = -sgB s ∧ cmpE (numD s b) f (numD s a) e = sgB s := by
  have hm : min e f = min f e := by omega
  rw [cmpE_at _ _ _ _ (min e f) (by omega) (by omega), cmpE_at _ _ _ _ (min e f) (by omega) (by omega), numD_mul, numD_mul]
  exact cmpI_num s _ _ (place_lt (min e f) (by omega) (by omega) hb h)
theorem cmpE_up {z1 e1 z2 e2 : Int} (h : e2 < e1) : cmpE z1 e1 z2 e2 = cmpI (z1 * 2 ^ (e1 - e2).toNat) z2 := by
  rw [cmpE_at _ _ _ _ e2 (by omega) (by omega)]
  simp
theorem cmpE_down {z1 e1 z2 e2 : Int} (h : ¬ e2 < e1) : cmpE z1 e1 z2 e2 = cmpI z1 (z2 * 2 ^ (e2 - e1).toNat) := by
  rw [cmpE_at _ _ _ _ e1 (by omega) (by omega)]
  simp
theorem ln_get_zero : ∀ (ls : List Nat), ln ls = 0 → ∀ (i x : Nat), ls[i]? = some x → x = 0
  | [], _, i, x, h => by simp at h
  | y :: r, h0, i, x, h => by
    have h1 : y + W64 * ln r = 0 := h0
    have e : W64 = 18446744073709551616 := rfl
    rw [e] at h1
    cases i with
    | zero => simp at h; omega
    | succ i => exact ln_get_zero r (by omega) i x (by simpa using h)
theorem RightD.ne {d : DV} (r : RightD d) : ln d.mag ≠ 0 := by
  intro h
  have hl := r.len.1
  have h1 := r.last
  obtain ⟨x, hx⟩ : ∃ x, d.mag[d.mag.length - 1]? = some x := ⟨_, List.getElem?_eq_getElem (by omega)⟩
  have hx0 := h1 x hx
  have h2 := ln_get_zero d.mag h _ _ hx
  exact hx0 h2
theorem shl_len {z : Int} {k : Nat} (h : (dig z.natAbs).length ≤ 600) (hk : k ≤ 140000) : (dig (z * 2 ^ k).natAbs).length ≤ 10000000 := by
  rw [Int.natAbs_mul]
  have h1 := mul_len z.natAbs ((2 : Int) ^ k).natAbs
  have e : ((2 : Int) ^ k).natAbs = 2 ^ k := by rw [Int.natAbs_pow]; rfl
  rw [e] at h1 ⊢
  have h2 : (dig (2 ^ k)).length ≤ k + 1 := by
    refine dig_len_le ?_
    rw [W32_pow]
    exact Nat.pow_lt_pow_right (by decide) (by omega)
  omega

end Go.Proofs.YtkfhbnfoiicioaaGreatDoor

/- dyad.Cmp, round.cmp: the walks -/
namespace Go.Proofs.YtkfhbnfoiicioaaGreatDoor
open Ieee Go.RowKit Go.Sort

set_option maxRecDepth 100000 in
set_option maxHeartbeats 8000000 in
theorem cmp_dyad (v1 v2 : Value) (d1 d2 : DV) (w : World) (h1 : DAt w v1 d1) (h2 : DAt w v2 d2) (r1 : RightD d1) (r2 : RightD d2) :
    Calls Tryz.prog 82 #[v1, v2] w fun e w' => e = .returned (.tuple #[.int .i64 (cmpE d1.top d1.exp d2.top d2.exp), .int .i64 0]) ∧ Below w.heap.size w w' := by
  have H1 := Lib.hid h1
  have H2 := Lib.hid h2
  have R1 := Lib.hid r1
  have R2 := Lib.hid r2
  have I1 := Lib.hid (fun w hd => sign_dyad v1 d1 w hd r1)
  have I2 := Lib.hid (fun w hd => sign_dyad v2 d2 w hd r2)
  have T1 := Lib.hid (fun w hd => top_dyad v1 d1 w hd r1)
  have T2 := Lib.hid (fun w hd => top_dyad v2 d2 w hd r2)
  have W1 := Lib.hid (fun w hd => whole_dyad v1 d1 w hd (by have := r1.len; omega))
  have W2 := Lib.hid (fun w hd => whole_dyad v2 d2 w hd (by have := r2.len; omega))
  obtain ⟨R, hR⟩ : ∃ R, R = cmpE d1.top d1.exp d2.top d2.exp := ⟨_, rfl⟩
  rw [← hR]
  have n1 := r1.ne
  have n2 := r2.ne
  have lA : (dig d1.top.natAbs).length ≤ 600 := by
    obtain ⟨_, _, _, _, _, hls⟩ := h1
    have e : d1.top.natAbs = ln d1.mag := by unfold DV.top; split <;> omega
    rw [e]
    have := dig_ln_len hls
    have := r1.len
    omega
  have lB : (dig d2.top.natAbs).length ≤ 600 := by
    obtain ⟨_, _, _, _, _, hls⟩ := h2
    have e : d2.top.natAbs = ln d2.mag := by unfold DV.top; split <;> omega
    rw [e]
    have := dig_ln_len hls
    have := r2.len
    omega
  have b1 := r1.low
  have b2 := r1.high
  have b3 := r2.low
  have b4 := r2.high
  have HR := Lib.hid hR
  have HN := Lib.hid (And.intro n1 n2)
  have HLL := Lib.hid (And.intro lA lB)
  obtain ⟨x, hx⟩ : ∃ x, x = sgD d1 := ⟨_, rfl⟩
  obtain ⟨y, hy⟩ : ∃ y, y = sgD d2 := ⟨_, rfl⟩
  obtain ⟨p, hp⟩ : ∃ p, p = d1.exp + (blen (ln d1.mag) : Int) := ⟨_, rfl⟩
  obtain ⟨q, hq⟩ : ∃ q, q = d2.exp + (blen (ln d2.mag) : Int) := ⟨_, rfl⟩
  rw [← hx] at I1
  rw [← hy] at I2
  rw [← hp] at T1
  rw [← hq] at T2
  have HX := Lib.hid hx
  have HY := Lib.hid hy
  have HP := Lib.hid hp
  have HQ := Lib.hid hq
  obtain ⟨A1, n1', c1, rfl, _, _⟩ := h1
  obtain ⟨A2, n2', c2, rfl, _, _⟩ := h2
  obtain ⟨s1, m1, x1⟩ := d1
  obtain ⟨s2, m2, x2⟩ := d2
  simp only at b1 b2 b3 b4 I1 I2 T1 T2 W1 W2 H1 H2 ⊢
  obtain ⟨ta, hta⟩ : ∃ t, t = DV.top ⟨s1, m1, x1⟩ := ⟨_, rfl⟩
  obtain ⟨tb, htb⟩ : ∃ t, t = DV.top ⟨s2, m2, x2⟩ := ⟨_, rfl⟩
  rw [← hta] at W1
  rw [← htb] at W2
  have HTA := Lib.hid hta
  have HTB := Lib.hid htb
  have hxx : (x = 1 ∨ x = -1) ∧ (y = 1 ∨ y = -1) := by
    rw [hx, hy, sgD_eq, sgD_eq]
    unfold sgB
    cases s1 <;> cases s2 <;> simp
  clear r1 r2 n1 n2 lA lB hx hy hp hq hR hta htb
  go_enter Tryz.func82, Tryz.ntmps82
  go_upto_region 1 with fail
  obtain ⟨w0, hw0⟩ : ∃ w0, w0 = (w.alloc (.cells #[.bool s1, .slice A1 n1' c1, .int .i64 x1] 78)).alloc (.cells #[.bool s2, .slice A2 n2' c2, .int .i64 x2] 78) := ⟨_, rfl⟩
  have g1 : w0.heap[w.heap.size]? = some (.cells #[.bool s1, .slice A1 n1' c1, .int .i64 x1] 78 (0, 0)) := by rw [hw0]; exact blk_old (blk_new ..) _
  have g2 : w0.heap[w.heap.size + 1]? = some (.cells #[.bool s2, .slice A2 n2' c2, .int .i64 x2] 78 (0, 0)) := by rw [hw0]; have h := blk_new (w.alloc (.cells #[.bool s1, .slice A1 n1' c1, .int .i64 x1] 78)) #[.bool s2, .slice A2 n2' c2, .int .i64 x2] 78; rwa [World.size_alloc] at h
  have hb0 : Below w.heap.size w w0 := by rw [hw0]; exact below2 ..
  have z0 : w.heap.size + 2 ≤ w0.heap.size := by rw [hw0]; simp
  rw [← hw0]
  have HB0 := Lib.hid hb0
  have HG1 := Lib.hid g1
  have HG2 := Lib.hid g2
  have HZ := Lib.hid z0
  obtain ⟨k0, k1, k2, _⟩ := cells3 g1
  clear hw0 hb0 g1 g2 z0
  go_wp2_with fail
  refine (I1.out w0 (H1.out.below HB0.out)).mono ?_
  rintro e wa ⟨rfl, hba⟩
  have HA1 := Lib.hid ((hba.block _ (by have := HZ.out; omega)).trans HG1.out)
  have HA2 := Lib.hid ((hba.block _ (by have := HZ.out; omega)).trans HG2.out)
  have HBA := Lib.hid (HB0.out.trans (hba.mono HB0.out.size))
  have HZA := Lib.hid (Nat.le_trans HZ.out hba.size)
  clear k0 k1 k2 hba HZ HG1 HG2 HB0
  obtain ⟨j0, j1, j2, _⟩ := cells3 HA2.out
  go_wp2_with fail
  refine (I2.out wa (H2.out.below HBA.out)).mono ?_
  rintro e wb ⟨rfl, hbb⟩
  have HB1 := Lib.hid ((hbb.block _ (by have := HZA.out; omega)).trans HA1.out)
  have HB2 := Lib.hid ((hbb.block _ (by have := HZA.out; omega)).trans HA2.out)
  have HBB := Lib.hid (HBA.out.trans (hbb.mono HBA.out.size))
  have HZB := Lib.hid (Nat.le_trans HZA.out hbb.size)
  clear j0 j1 j2 hbb HZA HA1 HA2 HBA
  by_cases hxy : x = y
  · subst hxy
    have hx0 : (x == 0) = false := by rcases hxx.1 with rfl | rfl <;> rfl
    have hss : s1 = s2 := by
      have a1 := HX.out
      have a2 := HY.out
      rw [sgD_eq] at a1 a2
      unfold sgB at a1 a2
      cases s1 <;> cases s2 <;> simp_all
    have HSS := Lib.hid hss
    have hnx : IntKind.i64.wrap (-x) = -x := IntWalk.i64_in _ (by omega)
    clear hxx hss
    go_wp2_with fail
    -- [
    by_cases hpq : p = q
    · subst hpq
      obtain ⟨ua, hu⟩ : ∃ u, u = wb.drew := ⟨_, rfl⟩
      have hbu : Below wb.heap.size wb ua := by rw [hu]; exact (Below.refl _ _).drew
      have HUa := Lib.hid hu
      have U1a := Lib.hid ((hbu.block _ (by have := HZB.out; omega)).trans HB1.out)
      have U2a := Lib.hid ((hbu.block _ (by have := HZB.out; omega)).trans HB2.out)
      have UBa := Lib.hid (HBB.out.trans (hbu.mono HBB.out.size))
      have UZa := Lib.hid (Nat.le_trans HZB.out hbu.size)
      clear hu hbu
      obtain ⟨k0, k1, k2, _⟩ := cells3 HB1.out
      obtain ⟨j0, j1, j2, _⟩ := cells3 HB2.out
      refine wp_region_held_drew (S := (fun w' => w'.cell? ⟨w.heap.size, 0, none⟩ = some (.bool s1) ∧ w'.cell? ⟨w.heap.size, 1, none⟩ = some (.slice A1 n1' c1) ∧ w'.cell? ⟨w.heap.size, 2, none⟩ = some (.int .i64 x1) ∧ w'.cell? ⟨w.heap.size + 1, 0, none⟩ = some (.bool s2) ∧ w'.cell? ⟨w.heap.size + 1, 1, none⟩ = some (.slice A2 n2' c2) ∧ w'.cell? ⟨w.heap.size + 1, 2, none⟩ = some (.int .i64 x2))) (by kernel_rfl) ?_ (fun hHeld => ?_)
      · first | exact True.intro | ((try dsimp only); go_keep)
      refine tkH (i := 0) (v := ?_) rfl (by kernel_rfl) (Or.inl ⟨by kernel_rfl, ?_⟩) (by assumption) ?_
      rotate_left 1
      · (intro w hSw; (try dsimp only at hSw); go_simp; try with_reducible rfl)
      try simp only [lyA, lyB, lyC, Act.put, lyD, lyE, lyF]
      refine tkH (i := 2) (v := ?_) rfl (by kernel_rfl) (Or.inl ⟨by kernel_rfl, ?_⟩) (by assumption) ?_
      rotate_left 1
      · (intro w hSw; (try dsimp only at hSw); go_simp; try with_reducible rfl)
      try simp only [lyA, lyB, lyC, Act.put, lyD, lyE, lyF]
      rw [← HUa.out]
      clear k0 k1 k2 j0 j1 j2
      refine wpAnyH_ready (rs := [1]) (by kernel_rfl) (by simp) ?_
      refine AllReadyH.cons rfl (fun K hK => ?_) AllReadyH.nil
      go_simp
      (refine (T1.out ua (H1.out.below UBa.out)).mono ?_; rintro e wca ⟨rfl, hbn⟩; have C1a := Lib.hid ((hbn.block _ (by have := UZa.out; omega)).trans U1a.out); have C2a := Lib.hid ((hbn.block _ (by have := UZa.out; omega)).trans U2a.out); have CBa := Lib.hid (UBa.out.trans (hbn.mono UBa.out.size)); have CZa := Lib.hid (Nat.le_trans UZa.out hbn.size); clear hbn; obtain ⟨k0, k1, k2, _⟩ := cells3 C1a.out; obtain ⟨j0, j1, j2, _⟩ := cells3 C2a.out)
      try go_wp2_with fail
      refine hK.out _ _ ?_ (fun hHeld => ?_)
      · first | exact True.intro | ((try dsimp only); go_keep)
      clear hK K
      try simp only [lyA, lyB, lyC, Act.put, lyD, lyE, lyF]
      clear k0 k1 k2 j0 j1 j2
      refine wpAnyH_ready (rs := [3]) (by kernel_rfl) (by simp) ?_
      refine AllReadyH.cons rfl (fun K hK => ?_) AllReadyH.nil
      go_simp
      (refine (T2.out wca (H2.out.below CBa.out)).mono ?_; rintro e wda ⟨rfl, hbn⟩; have D1a := Lib.hid ((hbn.block _ (by have := CZa.out; omega)).trans C1a.out); have D2a := Lib.hid ((hbn.block _ (by have := CZa.out; omega)).trans C2a.out); have DBa := Lib.hid (CBa.out.trans (hbn.mono CBa.out.size)); have DZa := Lib.hid (Nat.le_trans CZa.out hbn.size); clear hbn; obtain ⟨k0, k1, k2, _⟩ := cells3 D1a.out; obtain ⟨j0, j1, j2, _⟩ := cells3 D2a.out)
      try go_wp2_with fail
      refine hK.out _ _ ?_ (fun hHeld => ?_)
      · first | exact True.intro | ((try dsimp only); go_keep)
      clear hK K
      try simp only [lyA, lyB, lyC, Act.put, lyD, lyE, lyF]
      refine tkH (i := 4) (v := ?_) rfl (by kernel_rfl) (Or.inl ⟨by kernel_rfl, ?_⟩) (by assumption) ?_
      rotate_left 1
      · (intro w hSw; (try dsimp only at hSw); go_simp; try with_reducible rfl)
      try simp only [lyA, lyB, lyC, Act.put, lyD, lyE, lyF]
      refine wpAnyH_ready (rs := [5]) (by kernel_rfl) (by simp) ?_
      refine AllReadyH.cons rfl (fun K hK => ?_) AllReadyH.nil
      go_simp
      refine hK.out _ _ ?_ (fun hHeld => ?_)
      · first | exact True.intro | ((try dsimp only); go_keep)
      clear hK K
      try simp only [lyA, lyB, lyC, Act.put, lyD, lyE, lyF]
      refine wpAnyH_done (by kernel_rfl) ?_ _
      go_wp2_with fail
      obtain ⟨ub, hu⟩ : ∃ u, u = wda.drew := ⟨_, rfl⟩
      have hbu : Below wda.heap.size wda ub := by rw [hu]; exact (Below.refl _ _).drew
      have HUb := Lib.hid hu
      have U1b := Lib.hid ((hbu.block _ (by have := DZa.out; omega)).trans D1a.out)
      have U2b := Lib.hid ((hbu.block _ (by have := DZa.out; omega)).trans D2a.out)
      have UBb := Lib.hid (DBa.out.trans (hbu.mono DBa.out.size))
      have UZb := Lib.hid (Nat.le_trans DZa.out hbu.size)
      clear hu hbu
      obtain ⟨k0, k1, k2, _⟩ := cells3 D1a.out
      obtain ⟨j0, j1, j2, _⟩ := cells3 D2a.out
      refine wp_region_held_drew (S := (fun w' => w'.cell? ⟨w.heap.size, 0, none⟩ = some (.bool s1) ∧ w'.cell? ⟨w.heap.size, 1, none⟩ = some (.slice A1 n1' c1) ∧ w'.cell? ⟨w.heap.size, 2, none⟩ = some (.int .i64 x1) ∧ w'.cell? ⟨w.heap.size + 1, 0, none⟩ = some (.bool s2) ∧ w'.cell? ⟨w.heap.size + 1, 1, none⟩ = some (.slice A2 n2' c2) ∧ w'.cell? ⟨w.heap.size + 1, 2, none⟩ = some (.int .i64 x2))) (by kernel_rfl) ?_ (fun hHeld => ?_)
      · first | exact True.intro | ((try dsimp only); go_keep)
      refine tkH (i := 0) (v := ?_) rfl (by kernel_rfl) (Or.inl ⟨by kernel_rfl, ?_⟩) (by assumption) ?_
      rotate_left 1
      · (intro w hSw; (try dsimp only at hSw); go_simp; try with_reducible rfl)
      try simp only [lyA, lyB, lyC, Act.put, lyD, lyE, lyF]
      refine tkH (i := 2) (v := ?_) rfl (by kernel_rfl) (Or.inl ⟨by kernel_rfl, ?_⟩) (by assumption) ?_
      rotate_left 1
      · (intro w hSw; (try dsimp only at hSw); go_simp; try with_reducible rfl)
      try simp only [lyA, lyB, lyC, Act.put, lyD, lyE, lyF]
      rw [← HUb.out]
      clear k0 k1 k2 j0 j1 j2
      refine wpAnyH_ready (rs := [1]) (by kernel_rfl) (by simp) ?_
      refine AllReadyH.cons rfl (fun K hK => ?_) AllReadyH.nil
      go_simp
      (refine (W1.out ub (H1.out.below UBb.out)).mono ?_; rintro e wcb ⟨ga, rfl, hga, hga2, hia, hbn⟩; have HIA := Lib.hid hia; have HGA := Lib.hid (And.intro hga hga2); have C1b := Lib.hid ((hbn.block _ (by have := UZb.out; omega)).trans U1b.out); have C2b := Lib.hid ((hbn.block _ (by have := UZb.out; omega)).trans U2b.out); have CBb := Lib.hid (UBb.out.trans (hbn.mono UBb.out.size)); have CZb := Lib.hid (Nat.le_trans UZb.out hbn.size); clear hia hga hga2; clear hbn; obtain ⟨k0, k1, k2, _⟩ := cells3 C1b.out; obtain ⟨j0, j1, j2, _⟩ := cells3 C2b.out)
      try go_wp2_with fail
      refine hK.out _ _ ?_ (fun hHeld => ?_)
      · first | exact True.intro | ((try dsimp only); go_keep)
      clear hK K
      try simp only [lyA, lyB, lyC, Act.put, lyD, lyE, lyF]
      clear k0 k1 k2 j0 j1 j2
      refine wpAnyH_ready (rs := [3]) (by kernel_rfl) (by simp) ?_
      refine AllReadyH.cons rfl (fun K hK => ?_) AllReadyH.nil
      go_simp
      (refine (W2.out wcb (H2.out.below CBb.out)).mono ?_; rintro e wdb ⟨gb, rfl, hgb, hgb2, hib, hbn⟩; have HIB := Lib.hid hib; have HIA2 := Lib.hid (HIA.out.below hbn); have HGB := Lib.hid (And.intro hgb hgb2); have D1b := Lib.hid ((hbn.block _ (by have := CZb.out; omega)).trans C1b.out); have D2b := Lib.hid ((hbn.block _ (by have := CZb.out; omega)).trans C2b.out); have DBb := Lib.hid (CBb.out.trans (hbn.mono CBb.out.size)); have DZb := Lib.hid (Nat.le_trans CZb.out hbn.size); clear hib hgb hgb2; clear hbn; obtain ⟨k0, k1, k2, _⟩ := cells3 D1b.out; obtain ⟨j0, j1, j2, _⟩ := cells3 D2b.out)
      try go_wp2_with fail
      refine hK.out _ _ ?_ (fun hHeld => ?_)
      · first | exact True.intro | ((try dsimp only); go_keep)
      clear hK K
      try simp only [lyA, lyB, lyC, Act.put, lyD, lyE, lyF]
      refine wpAnyH_ready (rs := [4]) (by kernel_rfl) (by simp) ?_
      refine AllReadyH.cons rfl (fun K hK => ?_) AllReadyH.nil
      go_simp
      refine hK.out _ _ ?_ (fun hHeld => ?_)
      · first | exact True.intro | ((try dsimp only); go_keep)
      clear hK K
      try simp only [lyA, lyB, lyC, Act.put, lyD, lyE, lyF]
      refine wpAnyH_ready (rs := [5]) (by kernel_rfl) (by simp) ?_
      refine AllReadyH.cons rfl (fun K hK => ?_) AllReadyH.nil
      go_simp
      refine hK.out _ _ ?_ (fun hHeld => ?_)
      · first | exact True.intro | ((try dsimp only); go_keep)
      clear hK K
      try simp only [lyA, lyB, lyC, Act.put, lyD, lyE, lyF]
      refine wpAnyH_done (by kernel_rfl) ?_ _
      by_cases hex : x2 < x1
      · have hd1 : decide (x2 < x1) = true := decide_eq_true (by omega)
        have HEX := Lib.hid hex
        clear hex
        obtain ⟨n, hn⟩ : ∃ n : Nat, n = (x1 - x2).toNat := ⟨_, rfl⟩
        have hn2 : x1 - x2 = (n : Int) := by have := HEX.out; omega
        have ew : IntKind.i64.wrap (x1 - x2) = (n : Int) := by rw [IntKind.wrap_i64]; omega
        have ew2 : IntKind.u64.wrap (n : Int) = (n : Int) := by rw [IntKind.wrap_u64]; omega
        have hnl : n ≤ 140000 := by omega
        have HNN := Lib.hid hn
        have lA : (dig ta.natAbs).length ≤ 600 := by have := HLL.out.1; rw [← HTA.out] at this; exact this
        have lB : (dig tb.natAbs).length ≤ 600 := by have := HLL.out.2; rw [← HTB.out] at this; exact this
        have LZ := Lib.hid (shl_len (z := ta) (k := n) lA hnl)
        have LA := Lib.hid lA
        have LB := Lib.hid lB
        clear hn hn2 lA lB
        go_wp2_with fail
        refine (lsh_int ga 0 ga 0 ta ta n wdb HIA2.out HIA2.out (by have := LA.out; omega) (by omega)).mono ?_
        rintro e we ⟨rfl, hie, hup⟩
        have HIE := Lib.hid hie
        have HUPE := Lib.hid hup
        have HBE := Lib.hid (DBb.out.trans (hup.below (show w.heap.size ≤ ga by have := HGA.out; have := UBa.out.size; have := UBb.out.size; have := CBb.out.size; omega) DBb.out.size))
        have HIO := Lib.hid (HIB.out.upd hup (by have := HGA.out; have := HGB.out; omega))
        clear hie hup
        go_wp2_with fail
        refine (cmp_int ga 0 gb 0 (ta * 2 ^ n) tb we HIE.out HIO.out (by have := LZ.out; have := LA.out; omega) (by have := LZ.out; have := LB.out; omega)).mono ?_
        rintro e wf ⟨rfl, hbf⟩
        have HBF := Lib.hid (HBE.out.trans (hbf.mono HBE.out.size))
        clear hbf
        have eR : R = cmpI (ta * 2 ^ n) tb := by rw [HR.out, ← HTA.out, ← HTB.out, HNN.out]; exact cmpE_up HEX.out
        rw [← eR]
        clear eR
        go_wp2_with fail
        go_ret2
        exact ⟨rfl, HBF.out⟩
      · have hd1 : decide (x2 < x1) = false := decide_eq_false (by omega)
        have HEX := Lib.hid hex
        clear hex
        obtain ⟨n, hn⟩ : ∃ n : Nat, n = (x2 - x1).toNat := ⟨_, rfl⟩
        have hn2 : x2 - x1 = (n : Int) := by have := HEX.out; omega
        have ew : IntKind.i64.wrap (x2 - x1) = (n : Int) := by rw [IntKind.wrap_i64]; omega
        have ew2 : IntKind.u64.wrap (n : Int) = (n : Int) := by rw [IntKind.wrap_u64]; omega
        have hnl : n ≤ 140000 := by omega
        have HNN := Lib.hid hn
        have lA : (dig ta.natAbs).length ≤ 600 := by have := HLL.out.1; rw [← HTA.out] at this; exact this
        have lB : (dig tb.natAbs).length ≤ 600 := by have := HLL.out.2; rw [← HTB.out] at this; exact this
        have LZ := Lib.hid (shl_len (z := tb) (k := n) lB hnl)
        have LA := Lib.hid lA
        have LB := Lib.hid lB
        clear hn hn2 lA lB
        go_wp2_with fail
        refine (lsh_int gb 0 gb 0 tb tb n wdb HIB.out HIB.out (by have := LB.out; omega) (by omega)).mono ?_
        rintro e we ⟨rfl, hie, hup⟩
        have HIE := Lib.hid hie
        have HUPE := Lib.hid hup
        have HBE := Lib.hid (DBb.out.trans (hup.below (show w.heap.size ≤ gb by have := HGB.out; have := UBa.out.size; have := UBb.out.size; have := CBb.out.size; omega) DBb.out.size))
        have HIO := Lib.hid (HIA2.out.upd hup (by have := HGA.out; have := HGB.out; omega))
        clear hie hup
        go_wp2_with fail
        refine (cmp_int ga 0 gb 0 ta (tb * 2 ^ n) we HIO.out HIE.out (by have := LZ.out; have := LA.out; omega) (by have := LZ.out; have := LB.out; omega)).mono ?_
        rintro e wf ⟨rfl, hbf⟩
        have HBF := Lib.hid (HBE.out.trans (hbf.mono HBE.out.size))
        clear hbf
        have eR : R = cmpI ta (tb * 2 ^ n) := by rw [HR.out, ← HTA.out, ← HTB.out, HNN.out]; exact cmpE_down (by have := HEX.out; omega)
        rw [← eR]
        clear eR
        go_wp2_with fail
        go_ret2
        exact ⟨rfl, HBF.out⟩
    · have dpq : (p != q) = true := by simp [hpq]
      by_cases hlt : p < q
      · have dlt : decide (p < q) = true := decide_eq_true (by omega)
        have eR : R = -x := by
          rw [HR.out, HX.out, sgD_eq, top_num, top_num, ← HSS.out]
          have a1 := HP.out; have a2 := HQ.out
          exact (cmpE_lt HN.out.2 (by simp only; omega)).1
        have ER := Lib.hid eR
        clear eR hpq hlt
        obtain ⟨ua, hu⟩ : ∃ u, u = wb.drew := ⟨_, rfl⟩
        have hbu : Below wb.heap.size wb ua := by rw [hu]; exact (Below.refl _ _).drew
        have HUa := Lib.hid hu
        have U1a := Lib.hid ((hbu.block _ (by have := HZB.out; omega)).trans HB1.out)
        have U2a := Lib.hid ((hbu.block _ (by have := HZB.out; omega)).trans HB2.out)
        have UBa := Lib.hid (HBB.out.trans (hbu.mono HBB.out.size))
        have UZa := Lib.hid (Nat.le_trans HZB.out hbu.size)
        clear hu hbu
        obtain ⟨k0, k1, k2, _⟩ := cells3 HB1.out
        obtain ⟨j0, j1, j2, _⟩ := cells3 HB2.out
        refine wp_region_held_drew (S := (fun w' => w'.cell? ⟨w.heap.size, 0, none⟩ = some (.bool s1) ∧ w'.cell? ⟨w.heap.size, 1, none⟩ = some (.slice A1 n1' c1) ∧ w'.cell? ⟨w.heap.size, 2, none⟩ = some (.int .i64 x1) ∧ w'.cell? ⟨w.heap.size + 1, 0, none⟩ = some (.bool s2) ∧ w'.cell? ⟨w.heap.size + 1, 1, none⟩ = some (.slice A2 n2' c2) ∧ w'.cell? ⟨w.heap.size + 1, 2, none⟩ = some (.int .i64 x2))) (by kernel_rfl) ?_ (fun hHeld => ?_)
        · first | exact True.intro | ((try dsimp only); go_keep)
        refine tkH (i := 0) (v := ?_) rfl (by kernel_rfl) (Or.inl ⟨by kernel_rfl, ?_⟩) (by assumption) ?_
        rotate_left 1
        · (intro w hSw; (try dsimp only at hSw); go_simp; try with_reducible rfl)
        try simp only [lyA, lyB, lyC, Act.put, lyD, lyE, lyF]
        refine tkH (i := 2) (v := ?_) rfl (by kernel_rfl) (Or.inl ⟨by kernel_rfl, ?_⟩) (by assumption) ?_
        rotate_left 1
        · (intro w hSw; (try dsimp only at hSw); go_simp; try with_reducible rfl)
        try simp only [lyA, lyB, lyC, Act.put, lyD, lyE, lyF]
        rw [← HUa.out]
        clear k0 k1 k2 j0 j1 j2
        refine wpAnyH_ready (rs := [1]) (by kernel_rfl) (by simp) ?_
        refine AllReadyH.cons rfl (fun K hK => ?_) AllReadyH.nil
        go_simp
        (refine (T1.out ua (H1.out.below UBa.out)).mono ?_; rintro e wca ⟨rfl, hbn⟩; have C1a := Lib.hid ((hbn.block _ (by have := UZa.out; omega)).trans U1a.out); have C2a := Lib.hid ((hbn.block _ (by have := UZa.out; omega)).trans U2a.out); have CBa := Lib.hid (UBa.out.trans (hbn.mono UBa.out.size)); have CZa := Lib.hid (Nat.le_trans UZa.out hbn.size); clear hbn; obtain ⟨k0, k1, k2, _⟩ := cells3 C1a.out; obtain ⟨j0, j1, j2, _⟩ := cells3 C2a.out)
        try go_wp2_with fail
        refine hK.out _ _ ?_ (fun hHeld => ?_)
        · first | exact True.intro | ((try dsimp only); go_keep)
        clear hK K
        try simp only [lyA, lyB, lyC, Act.put, lyD, lyE, lyF]
        clear k0 k1 k2 j0 j1 j2
        refine wpAnyH_ready (rs := [3]) (by kernel_rfl) (by simp) ?_
        refine AllReadyH.cons rfl (fun K hK => ?_) AllReadyH.nil
        go_simp
        (refine (T2.out wca (H2.out.below CBa.out)).mono ?_; rintro e wda ⟨rfl, hbn⟩; have D1a := Lib.hid ((hbn.block _ (by have := CZa.out; omega)).trans C1a.out); have D2a := Lib.hid ((hbn.block _ (by have := CZa.out; omega)).trans C2a.out); have DBa := Lib.hid (CBa.out.trans (hbn.mono CBa.out.size)); have DZa := Lib.hid (Nat.le_trans CZa.out hbn.size); clear hbn; obtain ⟨k0, k1, k2, _⟩ := cells3 D1a.out; obtain ⟨j0, j1, j2, _⟩ := cells3 D2a.out)
        try go_wp2_with fail
        refine hK.out _ _ ?_ (fun hHeld => ?_)
        · first | exact True.intro | ((try dsimp only); go_keep)
        clear hK K
        try simp only [lyA, lyB, lyC, Act.put, lyD, lyE, lyF]
        refine tkH (i := 4) (v := ?_) rfl (by kernel_rfl) (Or.inl ⟨by kernel_rfl, ?_⟩) (by assumption) ?_
        rotate_left 1
        · (intro w hSw; (try dsimp only at hSw); go_simp; try with_reducible rfl)
        try simp only [lyA, lyB, lyC, Act.put, lyD, lyE, lyF]
        refine wpAnyH_ready (rs := [5]) (by kernel_rfl) (by simp) ?_
        refine AllReadyH.cons rfl (fun K hK => ?_) AllReadyH.nil
        go_simp
        refine hK.out _ _ ?_ (fun hHeld => ?_)
        · first | exact True.intro | ((try dsimp only); go_keep)
        clear hK K
        try simp only [lyA, lyB, lyC, Act.put, lyD, lyE, lyF]
        refine wpAnyH_done (by kernel_rfl) ?_ _
        go_wp2_with fail
        obtain ⟨ub, hu⟩ : ∃ u, u = wda.drew := ⟨_, rfl⟩
        have hbu : Below wda.heap.size wda ub := by rw [hu]; exact (Below.refl _ _).drew
        have HUb := Lib.hid hu
        have U1b := Lib.hid ((hbu.block _ (by have := DZa.out; omega)).trans D1a.out)
        have U2b := Lib.hid ((hbu.block _ (by have := DZa.out; omega)).trans D2a.out)
        have UBb := Lib.hid (DBa.out.trans (hbu.mono DBa.out.size))
        have UZb := Lib.hid (Nat.le_trans DZa.out hbu.size)
        clear hu hbu
        obtain ⟨k0, k1, k2, _⟩ := cells3 D1a.out
        obtain ⟨j0, j1, j2, _⟩ := cells3 D2a.out
        refine wp_region_held_drew (S := (fun w' => w'.cell? ⟨w.heap.size, 0, none⟩ = some (.bool s1) ∧ w'.cell? ⟨w.heap.size, 1, none⟩ = some (.slice A1 n1' c1) ∧ w'.cell? ⟨w.heap.size, 2, none⟩ = some (.int .i64 x1) ∧ w'.cell? ⟨w.heap.size + 1, 0, none⟩ = some (.bool s2) ∧ w'.cell? ⟨w.heap.size + 1, 1, none⟩ = some (.slice A2 n2' c2) ∧ w'.cell? ⟨w.heap.size + 1, 2, none⟩ = some (.int .i64 x2))) (by kernel_rfl) ?_ (fun hHeld => ?_)
        · first | exact True.intro | ((try dsimp only); go_keep)
        refine tkH (i := 0) (v := ?_) rfl (by kernel_rfl) (Or.inl ⟨by kernel_rfl, ?_⟩) (by assumption) ?_
        rotate_left 1
        · (intro w hSw; (try dsimp only at hSw); go_simp; try with_reducible rfl)
        try simp only [lyA, lyB, lyC, Act.put, lyD, lyE, lyF]
        refine tkH (i := 2) (v := ?_) rfl (by kernel_rfl) (Or.inl ⟨by kernel_rfl, ?_⟩) (by assumption) ?_
        rotate_left 1
        · (intro w hSw; (try dsimp only at hSw); go_simp; try with_reducible rfl)
        try simp only [lyA, lyB, lyC, Act.put, lyD, lyE, lyF]
        rw [← HUb.out]
        clear k0 k1 k2 j0 j1 j2
        refine wpAnyH_ready (rs := [1]) (by kernel_rfl) (by simp) ?_
        refine AllReadyH.cons rfl (fun K hK => ?_) AllReadyH.nil
        go_simp
        (refine (T1.out ub (H1.out.below UBb.out)).mono ?_; rintro e wcb ⟨rfl, hbn⟩; have C1b := Lib.hid ((hbn.block _ (by have := UZb.out; omega)).trans U1b.out); have C2b := Lib.hid ((hbn.block _ (by have := UZb.out; omega)).trans U2b.out); have CBb := Lib.hid (UBb.out.trans (hbn.mono UBb.out.size)); have CZb := Lib.hid (Nat.le_trans UZb.out hbn.size); clear hbn; obtain ⟨k0, k1, k2, _⟩ := cells3 C1b.out; obtain ⟨j0, j1, j2, _⟩ := cells3 C2b.out)
        try go_wp2_with fail
        refine hK.out _ _ ?_ (fun hHeld => ?_)
        · first | exact True.intro | ((try dsimp only); go_keep)
        clear hK K
        try simp only [lyA, lyB, lyC, Act.put, lyD, lyE, lyF]
        clear k0 k1 k2 j0 j1 j2
        refine wpAnyH_ready (rs := [3]) (by kernel_rfl) (by simp) ?_
        refine AllReadyH.cons rfl (fun K hK => ?_) AllReadyH.nil
        go_simp
        (refine (T2.out wcb (H2.out.below CBb.out)).mono ?_; rintro e wdb ⟨rfl, hbn⟩; have D1b := Lib.hid ((hbn.block _ (by have := CZb.out; omega)).trans C1b.out); have D2b := Lib.hid ((hbn.block _ (by have := CZb.out; omega)).trans C2b.out); have DBb := Lib.hid (CBb.out.trans (hbn.mono CBb.out.size)); have DZb := Lib.hid (Nat.le_trans CZb.out hbn.size); clear hbn; obtain ⟨k0, k1, k2, _⟩ := cells3 D1b.out; obtain ⟨j0, j1, j2, _⟩ := cells3 D2b.out)
        try go_wp2_with fail
        refine hK.out _ _ ?_ (fun hHeld => ?_)
        · first | exact True.intro | ((try dsimp only); go_keep)
        clear hK K
        try simp only [lyA, lyB, lyC, Act.put, lyD, lyE, lyF]
        refine wpAnyH_ready (rs := [4]) (by kernel_rfl) (by simp) ?_
        refine AllReadyH.cons rfl (fun K hK => ?_) AllReadyH.nil
        go_simp
        refine hK.out _ _ ?_ (fun hHeld => ?_)
        · first | exact True.intro | ((try dsimp only); go_keep)
        clear hK K
        try simp only [lyA, lyB, lyC, Act.put, lyD, lyE, lyF]
        refine wpAnyH_done (by kernel_rfl) ?_ _
        go_wp2_with fail
        go_ret2
        exact ⟨by rw [ER.out]; rfl, DBb.out⟩
      · have dlt : decide (p < q) = false := decide_eq_false (by omega)
        have eR : R = x := by
          rw [HR.out, HX.out, sgD_eq, top_num, top_num, ← HSS.out]
          have a1 := HP.out; have a2 := HQ.out
          exact (cmpE_lt HN.out.1 (by simp only; omega)).2
        have ER := Lib.hid eR
        clear eR hpq hlt
        obtain ⟨ua, hu⟩ : ∃ u, u = wb.drew := ⟨_, rfl⟩
        have hbu : Below wb.heap.size wb ua := by rw [hu]; exact (Below.refl _ _).drew
        have HUa := Lib.hid hu
        have U1a := Lib.hid ((hbu.block _ (by have := HZB.out; omega)).trans HB1.out)
        have U2a := Lib.hid ((hbu.block _ (by have := HZB.out; omega)).trans HB2.out)
        have UBa := Lib.hid (HBB.out.trans (hbu.mono HBB.out.size))
        have UZa := Lib.hid (Nat.le_trans HZB.out hbu.size)
        clear hu hbu
        obtain ⟨k0, k1, k2, _⟩ := cells3 HB1.out
        obtain ⟨j0, j1, j2, _⟩ := cells3 HB2.out
        refine wp_region_held_drew (S := (fun w' => w'.cell? ⟨w.heap.size, 0, none⟩ = some (.bool s1) ∧ w'.cell? ⟨w.heap.size, 1, none⟩ = some (.slice A1 n1' c1) ∧ w'.cell? ⟨w.heap.size, 2, none⟩ = some (.int .i64 x1) ∧ w'.cell? ⟨w.heap.size + 1, 0, none⟩ = some (.bool s2) ∧ w'.cell? ⟨w.heap.size + 1, 1, none⟩ = some (.slice A2 n2' c2) ∧ w'.cell? ⟨w.heap.size + 1, 2, none⟩ = some (.int .i64 x2))) (by kernel_rfl) ?_ (fun hHeld => ?_)
        · first | exact True.intro | ((try dsimp only); go_keep)
        refine tkH (i := 0) (v := ?_) rfl (by kernel_rfl) (Or.inl ⟨by kernel_rfl, ?_⟩) (by assumption) ?_
        rotate_left 1
        · (intro w hSw; (try dsimp only at hSw); go_simp; try with_reducible rfl)
        try simp only [lyA, lyB, lyC, Act.put, lyD, lyE, lyF]
        refine tkH (i := 2) (v := ?_) rfl (by kernel_rfl) (Or.inl ⟨by kernel_rfl, ?_⟩) (by assumption) ?_
        rotate_left 1
        · (intro w hSw; (try dsimp only at hSw); go_simp; try with_reducible rfl)
        try simp only [lyA, lyB, lyC, Act.put, lyD, lyE, lyF]
        rw [← HUa.out]
        clear k0 k1 k2 j0 j1 j2
        refine wpAnyH_ready (rs := [1]) (by kernel_rfl) (by simp) ?_
        refine AllReadyH.cons rfl (fun K hK => ?_) AllReadyH.nil
        go_simp
        (refine (T1.out ua (H1.out.below UBa.out)).mono ?_; rintro e wca ⟨rfl, hbn⟩; have C1a := Lib.hid ((hbn.block _ (by have := UZa.out; omega)).trans U1a.out); have C2a := Lib.hid ((hbn.block _ (by have := UZa.out; omega)).trans U2a.out); have CBa := Lib.hid (UBa.out.trans (hbn.mono UBa.out.size)); have CZa := Lib.hid (Nat.le_trans UZa.out hbn.size); clear hbn; obtain ⟨k0, k1, k2, _⟩ := cells3 C1a.out; obtain ⟨j0, j1, j2, _⟩ := cells3 C2a.out)
        try go_wp2_with fail
        refine hK.out _ _ ?_ (fun hHeld => ?_)
        · first | exact True.intro | ((try dsimp only); go_keep)
        clear hK K
        try simp only [lyA, lyB, lyC, Act.put, lyD, lyE, lyF]
        clear k0 k1 k2 j0 j1 j2
        refine wpAnyH_ready (rs := [3]) (by kernel_rfl) (by simp) ?_
        refine AllReadyH.cons rfl (fun K hK => ?_) AllReadyH.nil
        go_simp
        (refine (T2.out wca (H2.out.below CBa.out)).mono ?_; rintro e wda ⟨rfl, hbn⟩; have D1a := Lib.hid ((hbn.block _ (by have := CZa.out; omega)).trans C1a.out); have D2a := Lib.hid ((hbn.block _ (by have := CZa.out; omega)).trans C2a.out); have DBa := Lib.hid (CBa.out.trans (hbn.mono CBa.out.size)); have DZa := Lib.hid (Nat.le_trans CZa.out hbn.size); clear hbn; obtain ⟨k0, k1, k2, _⟩ := cells3 D1a.out; obtain ⟨j0, j1, j2, _⟩ := cells3 D2a.out)
        try go_wp2_with fail
        refine hK.out _ _ ?_ (fun hHeld => ?_)
        · first | exact True.intro | ((try dsimp only); go_keep)
        clear hK K
        try simp only [lyA, lyB, lyC, Act.put, lyD, lyE, lyF]
        refine tkH (i := 4) (v := ?_) rfl (by kernel_rfl) (Or.inl ⟨by kernel_rfl, ?_⟩) (by assumption) ?_
        rotate_left 1
        · (intro w hSw; (try dsimp only at hSw); go_simp; try with_reducible rfl)
        try simp only [lyA, lyB, lyC, Act.put, lyD, lyE, lyF]
        refine wpAnyH_ready (rs := [5]) (by kernel_rfl) (by simp) ?_
        refine AllReadyH.cons rfl (fun K hK => ?_) AllReadyH.nil
        go_simp
        refine hK.out _ _ ?_ (fun hHeld => ?_)
        · first | exact True.intro | ((try dsimp only); go_keep)
        clear hK K
        try simp only [lyA, lyB, lyC, Act.put, lyD, lyE, lyF]
        refine wpAnyH_done (by kernel_rfl) ?_ _
        go_wp2_with fail
        obtain ⟨ub, hu⟩ : ∃ u, u = wda.drew := ⟨_, rfl⟩
        have hbu : Below wda.heap.size wda ub := by rw [hu]; exact (Below.refl _ _).drew
        have HUb := Lib.hid hu
        have U1b := Lib.hid ((hbu.block _ (by have := DZa.out; omega)).trans D1a.out)
        have U2b := Lib.hid ((hbu.block _ (by have := DZa.out; omega)).trans D2a.out)
        have UBb := Lib.hid (DBa.out.trans (hbu.mono DBa.out.size))
        have UZb := Lib.hid (Nat.le_trans DZa.out hbu.size)
        clear hu hbu
        obtain ⟨k0, k1, k2, _⟩ := cells3 D1a.out
        obtain ⟨j0, j1, j2, _⟩ := cells3 D2a.out
        refine wp_region_held_drew (S := (fun w' => w'.cell? ⟨w.heap.size, 0, none⟩ = some (.bool s1) ∧ w'.cell? ⟨w.heap.size, 1, none⟩ = some (.slice A1 n1' c1) ∧ w'.cell? ⟨w.heap.size, 2, none⟩ = some (.int .i64 x1) ∧ w'.cell? ⟨w.heap.size + 1, 0, none⟩ = some (.bool s2) ∧ w'.cell? ⟨w.heap.size + 1, 1, none⟩ = some (.slice A2 n2' c2) ∧ w'.cell? ⟨w.heap.size + 1, 2, none⟩ = some (.int .i64 x2))) (by kernel_rfl) ?_ (fun hHeld => ?_)
        · first | exact True.intro | ((try dsimp only); go_keep)
        refine tkH (i := 0) (v := ?_) rfl (by kernel_rfl) (Or.inl ⟨by kernel_rfl, ?_⟩) (by assumption) ?_
        rotate_left 1
        · (intro w hSw; (try dsimp only at hSw); go_simp; try with_reducible rfl)
        try simp only [lyA, lyB, lyC, Act.put, lyD, lyE, lyF]
        refine tkH (i := 2) (v := ?_) rfl (by kernel_rfl) (Or.inl ⟨by kernel_rfl, ?_⟩) (by assumption) ?_
        rotate_left 1
        · (intro w hSw; (try dsimp only at hSw); go_simp; try with_reducible rfl)
        try simp only [lyA, lyB, lyC, Act.put, lyD, lyE, lyF]
        rw [← HUb.out]
        clear k0 k1 k2 j0 j1 j2
        refine wpAnyH_ready (rs := [1]) (by kernel_rfl) (by simp) ?_
        refine AllReadyH.cons rfl (fun K hK => ?_) AllReadyH.nil
        go_simp
        (refine (T1.out ub (H1.out.below UBb.out)).mono ?_; rintro e wcb ⟨rfl, hbn⟩; have C1b := Lib.hid ((hbn.block _ (by have := UZb.out; omega)).trans U1b.out); have C2b := Lib.hid ((hbn.block _ (by have := UZb.out; omega)).trans U2b.out); have CBb := Lib.hid (UBb.out.trans (hbn.mono UBb.out.size)); have CZb := Lib.hid (Nat.le_trans UZb.out hbn.size); clear hbn; obtain ⟨k0, k1, k2, _⟩ := cells3 C1b.out; obtain ⟨j0, j1, j2, _⟩ := cells3 C2b.out)
        try go_wp2_with fail
        refine hK.out _ _ ?_ (fun hHeld => ?_)
        · first | exact True.intro | ((try dsimp only); go_keep)
        clear hK K
        try simp only [lyA, lyB, lyC, Act.put, lyD, lyE, lyF]
        clear k0 k1 k2 j0 j1 j2
        refine wpAnyH_ready (rs := [3]) (by kernel_rfl) (by simp) ?_
        refine AllReadyH.cons rfl (fun K hK => ?_) AllReadyH.nil
        go_simp
        (refine (T2.out wcb (H2.out.below CBb.out)).mono ?_; rintro e wdb ⟨rfl, hbn⟩; have D1b := Lib.hid ((hbn.block _ (by have := CZb.out; omega)).trans C1b.out); have D2b := Lib.hid ((hbn.block _ (by have := CZb.out; omega)).trans C2b.out); have DBb := Lib.hid (CBb.out.trans (hbn.mono CBb.out.size)); have DZb := Lib.hid (Nat.le_trans CZb.out hbn.size); clear hbn; obtain ⟨k0, k1, k2, _⟩ := cells3 D1b.out; obtain ⟨j0, j1, j2, _⟩ := cells3 D2b.out)
        try go_wp2_with fail
        refine hK.out _ _ ?_ (fun hHeld => ?_)
        · first | exact True.intro | ((try dsimp only); go_keep)
        clear hK K
        try simp only [lyA, lyB, lyC, Act.put, lyD, lyE, lyF]
        refine wpAnyH_ready (rs := [4]) (by kernel_rfl) (by simp) ?_
        refine AllReadyH.cons rfl (fun K hK => ?_) AllReadyH.nil
        go_simp
        refine hK.out _ _ ?_ (fun hHeld => ?_)
        · first | exact True.intro | ((try dsimp only); go_keep)
        clear hK K
        try simp only [lyA, lyB, lyC, Act.put, lyD, lyE, lyF]
        refine wpAnyH_done (by kernel_rfl) ?_ _
        go_wp2_with fail
        go_ret2
        exact ⟨by rw [ER.out]; rfl, DBb.out⟩
    -- ]
  · have h12 : (x = 1 ∧ y = -1 ∧ R = 1) ∨ (x = -1 ∧ y = 1 ∧ R = -1) := by
      have a1 := HX.out
      have a2 := HY.out
      rw [sgD_eq] at a1 a2
      have a3 := HR.out
      rw [top_num, top_num] at a3
      cases s1 <;> cases s2
      · exact absurd (a1.trans a2.symm) hxy
      · left; exact ⟨a1, a2, by rw [a3]; exact cmpE_signs HN.out.1 HN.out.2⟩
      · right; exact ⟨a1, a2, by rw [a3]; exact cmpE_signs HN.out.1 HN.out.2⟩
      · exact absurd (a1.trans a2.symm) hxy
    clear hxx hxy
    rcases h12 with ⟨rfl, rfl, rfl⟩ | ⟨rfl, rfl, rfl⟩
    · go_wp2_with fail
      go_ret2
      exact ⟨rfl, HBB.out⟩
    · go_wp2_with fail
      go_ret2
      exact ⟨rfl, HBB.out⟩

end Go.Proofs.YtkfhbnfoiicioaaGreatDoor

/- dyad.Mul: the walk -/
namespace Go.Proofs.YtkfhbnfoiicioaaGreatDoor
open Ieee Go.RowKit Go.Sort

set_option maxRecDepth 100000 in
set_option maxHeartbeats 4000000 in
theorem mul_dyad (v1 v2 : Value) (d1 d2 : DV) (w : World) (h1 : DAt w v1 d1) (h2 : DAt w v2 d2) (r1 : RZ d1) (r2 : RZ d2) (l1 : d1.mag.length ≤ 30) (l2 : d2.mag.length ≤ 30) (e1 : -30000 ≤ d1.exp ∧ d1.exp ≤ 30000) (e2 : -30000 ≤ d2.exp ∧ d2.exp ≤ 30000) :
    Calls Tryz.prog 84 #[v1, v2] w fun e w' => ∃ v d, e = .returned (.tuple #[v, .int .i64 0]) ∧ NormD (d1.top * d2.top) (d1.exp + d2.exp) d ∧ DAt w' v d ∧ Below w.heap.size w w' := by
  have H1 := Lib.hid h1
  have H2 := Lib.hid h2
  have hlen : (dig (d1.top * d2.top).natAbs).length ≤ 150 := by
    rw [Int.natAbs_mul]
    have a1 := top_len h1 (by omega)
    have a2 := top_len h2 (by omega)
    have a3 := mul_len d1.top.natAbs d2.top.natAbs
    omega
  have hla : (dig d1.top.natAbs).length ≤ 10000000 := by have := top_len h1 (by omega); omega
  have hlb : (dig d2.top.natAbs).length ≤ 10000000 := by have := top_len h2 (by omega); omega
  obtain ⟨A1, n1, c1, rfl, _, _⟩ := h1
  obtain ⟨A2, n2, c2, rfl, _, _⟩ := h2
  obtain ⟨t1, ht1⟩ : ∃ t, t = d1.top := ⟨_, rfl⟩
  obtain ⟨t2, ht2⟩ : ∃ t, t = d2.top := ⟨_, rfl⟩
  have I1 := Lib.hid (fun v w hd => whole_dyad v d1 w hd (by omega))
  have I2 := Lib.hid (fun v w hd => whole_dyad v d2 w hd (by omega))
  rw [← ht1, ← ht2] at hlen ⊢
  rw [← ht1] at I1 hla
  rw [← ht2] at I2 hlb
  obtain ⟨s1, m1, x1⟩ := d1
  obtain ⟨s2, m2, x2⟩ := d2
  simp only at *
  have R1 := Lib.hid r1
  have R2 := Lib.hid r2
  have HL := Lib.hid (And.intro hlen (And.intro hla hlb))
  clear r1 r2 ht1 ht2 hlen hla hlb l1 l2
  go_enter Tryz.func84, Tryz.ntmps84
  go_upto_region 1 with fail
  obtain ⟨w0, hw0⟩ : ∃ w0, w0 = ((w.alloc (.cells #[.bool s1, .slice A1 n1 c1, .int .i64 x1] 78)).alloc (.cells #[.bool s2, .slice A2 n2 c2, .int .i64 x2] 78)).alloc (.cells #[.bool false, .slice none 0 0, .int .i64 0] 78) := ⟨_, rfl⟩
  have g1 : w0.heap[w.heap.size]? = some (.cells #[.bool s1, .slice A1 n1 c1, .int .i64 x1] 78 (0, 0)) := by rw [hw0]; exact blk_old (blk_old (blk_new ..) _) _
  have g2 : w0.heap[w.heap.size + 1]? = some (.cells #[.bool s2, .slice A2 n2 c2, .int .i64 x2] 78 (0, 0)) := by rw [hw0]; have h := blk_new (w.alloc (.cells #[.bool s1, .slice A1 n1 c1, .int .i64 x1] 78)) #[.bool s2, .slice A2 n2 c2, .int .i64 x2] 78; rw [World.size_alloc] at h; exact blk_old h _
  have g3 : w0.heap[w.heap.size + 1 + 1]? = some (.cells #[.bool false, .slice none 0 0, .int .i64 0] 78 (0, 0)) := by rw [hw0]; have h := blk_new ((w.alloc (.cells #[.bool s1, .slice A1 n1 c1, .int .i64 x1] 78)).alloc (.cells #[.bool s2, .slice A2 n2 c2, .int .i64 x2] 78)) #[.bool false, .slice none 0 0, .int .i64 0] 78; rwa [World.size_alloc, World.size_alloc] at h
  have z0 : w0.heap.size = w.heap.size + 1 + 1 + 1 := by rw [hw0]; simp
  have hb0 : Below w.heap.size w w0 := by rw [hw0]; exact (below2 ..).trans ((below1 ..).mono (by simp; omega))
  rw [← hw0]
  have HB0 := Lib.hid hb0
  have HG1 := Lib.hid g1
  have HG2 := Lib.hid g2
  have HG3 := Lib.hid g3
  have HZ := Lib.hid z0
  obtain ⟨k0, k1, k2, _⟩ := cells3 g1
  obtain ⟨j0, j1, j2, _⟩ := cells3 g2
  clear hw0 hb0 g1 g2 g3 z0
  go_wp2_with fail
  refine (both_dyad _ _ ⟨s1, m1, x1⟩ ⟨s2, m2, x2⟩ w0 (H1.out.below HB0.out) (H2.out.below HB0.out) R1.out R2.out).mono ?_
  rintro e wa ⟨rfl, hba⟩
  clear k0 k1 k2 j0 j1 j2
  have HA1 := Lib.hid ((hba.block _ (by have := HZ.out; omega)).trans HG1.out)
  have HA2 := Lib.hid ((hba.block _ (by have := HZ.out; omega)).trans HG2.out)
  have HA3 := Lib.hid ((hba.block _ (by have := HZ.out; omega)).trans HG3.out)
  have HBA := Lib.hid (HB0.out.trans (hba.mono HB0.out.size))
  have hza : w.heap.size + 1 + 1 + 1 ≤ wa.heap.size := by have := HZ.out; have := hba.size; omega
  have HZA := Lib.hid hza
  obtain ⟨k0, k1, k2, _⟩ := cells3 HA1.out
  clear hba hza
  go_wp2_with fail
  refine (I1.out _ wa (H1.out.below HBA.out)).mono ?_
  rintro e wb ⟨ga, rfl, hga, hga2, hia, hbb⟩
  clear k0 k1 k2
  have HI1 := Lib.hid hia
  have HC1 := Lib.hid ((hbb.block _ (by have := HZA.out; omega)).trans HA1.out)
  have HC2 := Lib.hid ((hbb.block _ (by have := HZA.out; omega)).trans HA2.out)
  have HC3 := Lib.hid ((hbb.block _ (by have := HZA.out; omega)).trans HA3.out)
  have HBB := Lib.hid (HBA.out.trans (hbb.mono HBA.out.size))
  have HGA := Lib.hid (And.intro hga hga2)
  obtain ⟨k0, k1, k2, _⟩ := cells3 HC1.out
  obtain ⟨j0, j1, j2, _⟩ := cells3 HC2.out
  have HZB := Lib.hid (Nat.le_trans HZA.out hbb.size)
  clear hia hbb hga hga2
  go_wp2_with fail
  obtain ⟨u, hu⟩ : ∃ u, u = wb.drew := ⟨_, rfl⟩
  have hbu : Below wb.heap.size wb u := by rw [hu]; exact (Below.refl _ _).drew
  have hsu : u.heap.size = wb.heap.size := by rw [hu]; rfl
  have HU := Lib.hid hu
  have HI1u := Lib.hid (HI1.out.below hbu)
  have HU2 := Lib.hid ((hbu.block _ (by have := HZB.out; omega)).trans HC2.out)
  have HU1 := Lib.hid ((hbu.block _ (by have := HZB.out; omega)).trans HC1.out)
  have HU3 := Lib.hid ((hbu.block _ (by have := HZB.out; omega)).trans HC3.out)
  have HBU := Lib.hid (HBB.out.trans (hbu.mono HBB.out.size))
  have HSU := Lib.hid hsu
  have ew : IntKind.i64.wrap (x1 + x2) = x1 + x2 := IntWalk.i64_in _ (by omega)
  clear hu hbu hsu
  refine wp_region_G (S := (fun w' => w'.cell? ⟨w.heap.size + 1, 0, none⟩ = some (.bool s2) ∧ w'.cell? ⟨w.heap.size + 1, 1, none⟩ = some (.slice A2 n2 c2) ∧ w'.cell? ⟨w.heap.size + 1, 2, none⟩ = some (.int .i64 x2) ∧ w'.cell? ⟨w.heap.size, 2, none⟩ = some (.int .i64 x1))) 13 (by kernel_rfl) ?_ (fun hHeld => ?_)
  · first | exact True.intro | ((try dsimp only); go_keep)
  refine tkG (i := 0) (v := ?_) rfl (by kernel_rfl) (Or.inl ⟨by kernel_rfl, ?_⟩) (by assumption) ?_
  rotate_left 1
  · (intro w hSw; (try dsimp only at hSw); go_simp; try with_reducible rfl)
  try simp only [lyA, lyB, lyC, Act.put, lyD, lyE, lyF]
  refine tkG (i := 1) (v := ?_) rfl (by kernel_rfl) (Or.inl ⟨by kernel_rfl, ?_⟩) (by assumption) ?_
  rotate_left 1
  · (intro w hSw; (try dsimp only at hSw); go_simp; try with_reducible rfl)
  try simp only [lyA, lyB, lyC, Act.put, lyD, lyE, lyF]
  refine tkG (i := 2) (v := ?_) rfl (by kernel_rfl) (Or.inl ⟨by kernel_rfl, ?_⟩) (by assumption) ?_
  rotate_left 1
  · (intro w hSw; (try dsimp only at hSw); go_simp; try with_reducible rfl)
  try simp only [lyA, lyB, lyC, Act.put, lyD, lyE, lyF]
  refine tkG (i := 5) (v := ?_) rfl (by kernel_rfl) (Or.inl ⟨by kernel_rfl, ?_⟩) (by assumption) ?_
  rotate_left 1
  · (intro w hSw; (try dsimp only at hSw); go_simp; try with_reducible rfl)
  try simp only [lyA, lyB, lyC, Act.put, lyD, lyE, lyF]
  refine tkG (i := 6) (v := ?_) rfl (by kernel_rfl) (Or.inl ⟨by kernel_rfl, ?_⟩) (by assumption) ?_
  rotate_left 1
  · (intro w hSw; (try dsimp only at hSw); go_simp; try with_reducible rfl)
  try simp only [lyA, lyB, lyC, Act.put, lyD, lyE, lyF]
  refine tkG (i := 7) (v := ?_) rfl (by kernel_rfl) (Or.inl ⟨by kernel_rfl, ?_⟩) (by assumption) ?_
  rotate_left 1
  · (intro w hSw; (try dsimp only at hSw); go_simp; try with_reducible rfl)
  try simp only [lyA, lyB, lyC, Act.put, lyD, lyE, lyF]
  refine tkG (i := 8) (v := ?_) rfl (by kernel_rfl) (Or.inl ⟨by kernel_rfl, ?_⟩) (by assumption) ?_
  rotate_left 1
  · (intro w hSw; (try dsimp only at hSw); go_simp; try with_reducible rfl)
  try simp only [lyA, lyB, lyC, Act.put, lyD, lyE, lyF]
  refine tkG (i := 9) (v := ?_) rfl (by kernel_rfl) (Or.inl ⟨by kernel_rfl, ?_⟩) (by assumption) ?_
  rotate_left 1
  · (intro w hSw; (try dsimp only at hSw); go_simp; try with_reducible rfl)
  try simp only [lyA, lyB, lyC, Act.put, lyD, lyE, lyF]
  rw [← HU.out]
  refine wpAnyG_one (i := 3) (by kernel_rfl) rfl (fun K hK => ?_)
  go_simp
  (refine (I2.out _ u (H2.out.below HBU.out)).mono ?_; rintro e wc ⟨gb, rfl, hgb, hgb2, hib, hbc⟩; have HIB := Lib.hid hib; have HIA := Lib.hid (HI1u.out.below hbc); have HBC := Lib.hid (HBU.out.trans (hbc.mono HBU.out.size)); have HSC := Lib.hid hbc.size; have HGB := Lib.hid (And.intro hgb hgb2); have HV1 := Lib.hid ((hbc.block _ (by have := HZB.out; have := HSU.out; omega)).trans HU1.out); have HV2 := Lib.hid ((hbc.block _ (by have := HZB.out; have := HSU.out; omega)).trans HU2.out); have HV3 := Lib.hid ((hbc.block _ (by have := HZB.out; have := HSU.out; omega)).trans HU3.out); obtain ⟨y0, y1, y2, _⟩ := cells3 HV2.out; obtain ⟨_, _, z2, _⟩ := cells3 HV1.out; clear hib hbc hgb hgb2)
  try go_wp2_with fail
  refine (fun hHeld => hK.out _ _ (.inl hHeld) (fun _ => ?_)) ?_
  rotate_left 1
  · first | exact True.intro | ((try dsimp only); go_keep)
  clear hK K
  try simp only [lyA, lyB, lyC, Act.put, lyD, lyE, lyF]
  refine wpAnyG_one (i := 4) (by kernel_rfl) rfl (fun K hK => ?_)
  go_simp
  (refine (mul_int ga 0 ga 0 gb 0 t1 t1 t2 wc HIA.out HIA.out HIB.out HL.out.2.1 HL.out.2.2).mono ?_; rintro e wd ⟨rfl, hid, hup⟩; have HID := Lib.hid hid; have hga := HGA.out; have hza := HZA.out; have HBD := Lib.hid (HBC.out.trans (hup.below (show w.heap.size ≤ ga by omega) HBC.out.size)); have hsd := hup.size; have HSD := Lib.hid (show w.heap.size + 1 + 1 + 1 ≤ wd.heap.size by have := HSC.out; have := HSU.out; have := HZB.out; omega); have HX1 := Lib.hid ((hup.blk _ (by have := HSC.out; have := HSU.out; have := HZB.out; omega) (by omega)).trans HV1.out); have HX2 := Lib.hid ((hup.blk _ (by have := HSC.out; have := HSU.out; have := HZB.out; omega) (by omega)).trans HV2.out); have HX3 := Lib.hid ((hup.blk _ (by have := HSC.out; have := HSU.out; have := HZB.out; omega) (by omega)).trans HV3.out); clear y0 y1 y2 z2 hup hid hga hza hsd; obtain ⟨y0, y1, y2, _⟩ := cells3 HX2.out; obtain ⟨_, _, z2, _⟩ := cells3 HX1.out)
  try go_wp2_with fail
  refine (fun hHeld => hK.out _ _ (.inl hHeld) (fun _ => ?_)) ?_
  rotate_left 1
  · first | exact True.intro | ((try dsimp only); go_keep)
  clear hK K
  try simp only [lyA, lyB, lyC, Act.put, lyD, lyE, lyF]
  refine wpAnyG_one (i := 10) (by kernel_rfl) rfl (fun K hK => ?_)
  go_simp
  ((try rw [ew]); refine (made_dyad ga 0 (t1 * t2) (x1 + x2) wd HID.out HL.out.1 (by omega) (by omega)).mono ?_; rintro e we ⟨v5, d5, rfl, hnd, hv5, hbe⟩; have HND := Lib.hid hnd; have HV5 := Lib.hid hv5; obtain ⟨A5, n5, c5, rfl, _, _⟩ := hv5; have HBE := Lib.hid (HBD.out.trans (hbe.mono HBD.out.size)); have HY1 := Lib.hid ((hbe.block _ (by have := HSD.out; omega)).trans HX1.out); have HY2 := Lib.hid ((hbe.block _ (by have := HSD.out; omega)).trans HX2.out); have HY3 := Lib.hid ((hbe.block _ (by have := HSD.out; omega)).trans HX3.out); clear y0 y1 y2 z2 hbe hnd; obtain ⟨y0, y1, y2, _⟩ := cells3 HY2.out; obtain ⟨_, _, z2, _⟩ := cells3 HY1.out; obtain ⟨r0, r1, r2, f0, f1, f2⟩ := cells3 HY3.out)
  try go_wp2_with fail
  refine (fun hHeld => hK.out _ _ (.inl hHeld) (fun _ => ?_)) ?_
  rotate_left 1
  · first | exact True.intro | ((try dsimp only); go_keep)
  clear hK K
  try simp only [lyA, lyB, lyC, Act.put, lyD, lyE, lyF]
  refine tkG (i := 11) (v := ?_) rfl (by kernel_rfl) (Or.inl ⟨by kernel_rfl, ?_⟩) (by assumption) ?_
  rotate_left 1
  · (intro w hSw; (try dsimp only at hSw); go_simp; try with_reducible rfl)
  try simp only [lyA, lyB, lyC, Act.put, lyD, lyE, lyF]
  refine tkG (i := 12) (v := ?_) rfl (by kernel_rfl) (Or.inl ⟨by kernel_rfl, ?_⟩) (by assumption) ?_
  rotate_left 1
  · (intro w hSw; (try dsimp only at hSw); go_simp; try with_reducible rfl)
  try simp only [lyA, lyB, lyC, Act.put, lyD, lyE, lyF]
  refine wpAnyG_one (i := 13) (by kernel_rfl) rfl (fun K hK => ?_)
  go_simp
  refine hK.out _ _ ?_ (fun hHeld => ?_)
  · exact .inr (by kernel_rfl)
  clear hK K
  try simp only [lyA, lyB, lyC, Act.put, lyD, lyE, lyF]
  refine wpAnyG_one (i := 14) (by kernel_rfl) rfl (fun K hK => ?_)
  go_simp
  refine hK.out _ _ ?_ (fun hHeld => ?_)
  · exact .inr (by kernel_rfl)
  clear hK K
  try simp only [lyA, lyB, lyC, Act.put, lyD, lyE, lyF]
  refine wpAnyG_done (by kernel_rfl) ?_ _
  obtain ⟨w6, hw6⟩ : ∃ w6, w6 = ((we.setCell ⟨w.heap.size + 1 + 1, 0, none⟩ (.bool d5.neg)).setCell ⟨w.heap.size + 1 + 1, 1, none⟩ (.slice A5 n5 c5)).setCell ⟨w.heap.size + 1 + 1, 2, none⟩ (.int .i64 d5.exp) := ⟨_, rfl⟩
  obtain ⟨hD6, hB6, q0, q1, q2⟩ := dy_out (d := d5) HY3.out HV5.out w6 hw6
  have hb6 := HBE.out.trans (hB6 w.heap.size (by omega))
  rw [← hw6]
  go_wp2_with fail
  (try simp only [Exit.inBlock, Exit.then])
  refine bodyPost_ret (v := .tuple #[.agg #[.bool d5.neg, .slice A5 n5 c5, .int .i64 d5.exp], .int .i64 0]) (by simp [results, Tryz.results84, go_sem, q0, q1, q2]; done) rfl ?_
  exact ⟨_, d5, rfl, HND.out, hD6, hb6⟩

end Go.Proofs.YtkfhbnfoiicioaaGreatDoor

/- round.times: the walk -/
namespace Go.Proofs.YtkfhbnfoiicioaaGreatDoor
open Ieee Go.RowKit Go.Sort

set_option maxRecDepth 100000 in
set_option maxHeartbeats 4000000 in
theorem times_round (v1 v2 : Value) (d1 d2 : DV) (w : World) (h1 : DAt w v1 d1) (h2 : DAt w v2 d2) (r1 : RZ d1) (r2 : RZ d2) (l1 : d1.mag.length ≤ 30) (l2 : d2.mag.length ≤ 30) (e1 : -30000 ≤ d1.exp ∧ d1.exp ≤ 30000) (e2 : -30000 ≤ d2.exp ∧ d2.exp ≤ 30000) :
    Calls Tryz.prog 64 #[v1, v2] w fun e w' => ∃ v d, e = .returned v ∧ NormD (d1.top * d2.top) (d1.exp + d2.exp) d ∧ DAt w' v d ∧ Below w.heap.size w w' := by
  have H1 := Lib.hid h1
  have H2 := Lib.hid h2
  have I1 := Lib.hid (fun w a1 a2 => mul_dyad v1 v2 d1 d2 w a1 a2 r1 r2 l1 l2 e1 e2)
  obtain ⟨A1, n1, c1, rfl, _, _⟩ := h1
  obtain ⟨A2, n2, c2, rfl, _, _⟩ := h2
  obtain ⟨T, hT⟩ : ∃ t, t = d1.top * d2.top := ⟨_, rfl⟩
  obtain ⟨E, hE⟩ : ∃ t, t = d1.exp + d2.exp := ⟨_, rfl⟩
  rw [← hT, ← hE] at I1 ⊢
  obtain ⟨s1, m1, x1⟩ := d1
  obtain ⟨s2, m2, x2⟩ := d2
  simp only at *
  clear r1 r2 l1 l2 e1 e2 hT hE
  go_enter Tryz.func64, Tryz.ntmps64
  go_upto_region 1 with fail
  obtain ⟨w0, hw0⟩ : ∃ w0, w0 = ((w.alloc (.cells #[.bool s1, .slice A1 n1 c1, .int .i64 x1] 78)).alloc (.cells #[.bool s2, .slice A2 n2 c2, .int .i64 x2] 78)).alloc (.cells #[.bool false, .slice none 0 0, .int .i64 0] 78) := ⟨_, rfl⟩
  have g1 : w0.heap[w.heap.size]? = some (.cells #[.bool s1, .slice A1 n1 c1, .int .i64 x1] 78 (0, 0)) := by rw [hw0]; exact blk_old (blk_old (blk_new ..) _) _
  have g2 : w0.heap[w.heap.size + 1]? = some (.cells #[.bool s2, .slice A2 n2 c2, .int .i64 x2] 78 (0, 0)) := by rw [hw0]; have h := blk_new (w.alloc (.cells #[.bool s1, .slice A1 n1 c1, .int .i64 x1] 78)) #[.bool s2, .slice A2 n2 c2, .int .i64 x2] 78; rw [World.size_alloc] at h; exact blk_old h _
  have g3 : w0.heap[w.heap.size + 1 + 1]? = some (.cells #[.bool false, .slice none 0 0, .int .i64 0] 78 (0, 0)) := by rw [hw0]; have h := blk_new ((w.alloc (.cells #[.bool s1, .slice A1 n1 c1, .int .i64 x1] 78)).alloc (.cells #[.bool s2, .slice A2 n2 c2, .int .i64 x2] 78)) #[.bool false, .slice none 0 0, .int .i64 0] 78; rwa [World.size_alloc, World.size_alloc] at h
  have z0 : w0.heap.size = w.heap.size + 1 + 1 + 1 := by rw [hw0]; simp
  have hb0 : Below w.heap.size w w0 := by rw [hw0]; exact (below2 ..).trans ((below1 ..).mono (by simp; omega))
  rw [← hw0]
  have HB0 := Lib.hid hb0
  have HG3 := Lib.hid g3
  have HZ := Lib.hid z0
  obtain ⟨k0, k1, k2, _⟩ := cells3 g1
  obtain ⟨j0, j1, j2, _⟩ := cells3 g2
  clear hw0 hb0 g1 g2 g3 z0
  go_wp2_with fail
  refine (I1.out w0 (H1.out.below HB0.out) (H2.out.below HB0.out)).mono ?_
  rintro e wa ⟨v5, d5, rfl, hnd, hv5, hba⟩
  clear k0 k1 k2 j0 j1 j2
  have HND := Lib.hid hnd
  have HV5 := Lib.hid hv5
  obtain ⟨A5, n5, c5, rfl, _, _⟩ := hv5
  obtain ⟨W, hW⟩ : ∃ W, W = wa.alloc (.cells #[.bool d5.neg, .slice A5 n5 c5, .int .i64 d5.exp] 78) := ⟨_, rfl⟩
  have gW : W.heap[w.heap.size + 1 + 1]? = some (.cells #[.bool false, .slice none 0 0, .int .i64 0] 78 (0, 0)) := by rw [hW]; exact blk_old ((hba.block _ (by have := HZ.out; omega)).trans HG3.out) _
  have hBW : Below w.heap.size w W := HB0.out.trans ((hba.mono HB0.out.size).trans (by rw [hW]; exact (below1 ..).mono (by have := hba.size; have := HZ.out; omega)))
  have hd : DAt W (.agg #[.bool d5.neg, .slice A5 n5 c5, .int .i64 d5.exp]) d5 := by rw [hW]; exact HV5.out.below (below1 ..)
  have kk := cells3 gW
  have HG := Lib.hid gW
  have HBW := Lib.hid hBW
  have HD := Lib.hid hd
  have HW := Lib.hid hW
  rw [hW] at kk
  obtain ⟨k0, k1, k2, f0, f1, f2⟩ := kk
  clear hba hnd gW hBW hd hW
  go_wp2_with fail
  rw [← HW.out]
  obtain ⟨w6, hw6⟩ : ∃ w6, w6 = ((W.setCell ⟨w.heap.size + 1 + 1, 0, none⟩ (.bool d5.neg)).setCell ⟨w.heap.size + 1 + 1, 1, none⟩ (.slice A5 n5 c5)).setCell ⟨w.heap.size + 1 + 1, 2, none⟩ (.int .i64 d5.exp) := ⟨_, rfl⟩
  obtain ⟨hD6, hB6, q0, q1, q2⟩ := dy_out (d := d5) HG.out HD.out w6 hw6
  have hb6 := HBW.out.trans (hB6 w.heap.size (by omega))
  rw [← hw6]
  (try simp only [Exit.inBlock, Exit.then])
  refine bodyPost_ret (v := .agg #[.bool d5.neg, .slice A5 n5 c5, .int .i64 d5.exp]) (by simp [results, Tryz.results64, go_sem, q0, q1, q2]; done) rfl ?_
  exact ⟨_, d5, rfl, HND.out, hD6, hb6⟩

end Go.Proofs.YtkfhbnfoiicioaaGreatDoor
