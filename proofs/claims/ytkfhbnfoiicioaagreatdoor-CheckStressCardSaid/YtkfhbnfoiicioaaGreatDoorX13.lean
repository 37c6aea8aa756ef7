import Derived.Test.YtkfhbnfoiicioaaGreatDoorX12
import Derived.Deep.Cut
import Derived.Deep.DeepCutAuto
set_option linter.unusedSimpArgs false
set_option linter.unusedVariables false
/- dyad.Cmp with nought, round.cmp: the walks; what products of dyads are worth -/
namespace Go.Proofs.YtkfhbnfoiicioaaGreatDoor
open Ieee Go.RowKit Go.Sort

theorem fk_num {u : Nat} (hu : u < 18446744073709551616) (hf : u % 9223372036854775808 < 9218868437227405312) : fk u = numD (sgbB u) (Vr (u % 9223372036854775808)) := by
  obtain ⟨g, hg⟩ : ∃ g, g = u % 9223372036854775808 := ⟨_, rfl⟩
  rw [← hg] at hf ⊢
  have e1 : Ieee.double.signWeight = 9223372036854775808 := by decide
  have e2 : Ieee.double.binade = 4503599627370496 := by decide
  have e3 : Ieee.double.infRung = 9218868437227405312 := by decide
  have e4 : Ieee.double.leastPlace = -1074 := by decide
  have hs : (u / 9223372036854775808 % 2 == 1) = sgbB u := by
    unfold sgbB
    by_cases h : 9223372036854775808 ≤ u
    · rw [decide_eq_true h, show u / 9223372036854775808 = 1 by omega]; rfl
    · rw [decide_eq_false h, show u / 9223372036854775808 = 0 by omega]; rfl
  have hm : u % 9223372036854775808 = g := hg.symm
  have hs0 : (g / 9223372036854775808 % 2 == 1) = false := by
    have : g / 9223372036854775808 = 0 := by omega
    rw [this]; rfl
  have hm0 : g % 9223372036854775808 = g := by omega
  have key : ∀ (s : Bool) (m : Nat) (i : Int), Ieee.double.read u = .number s m i → Ieee.double.read g = .number false m i → fk u = numD s (Vr g) := by
    intro s m i h1 h2
    rw [fk_parts h1]
    have h3 := fk_parts h2
    rw [fk_vr hf] at h3
    unfold signed at h3 ⊢
    unfold numD
    generalize m <<< (i + 1074).toNat = k at h3 ⊢
    cases s <;> simp at h3 ⊢ <;> omega
  by_cases h1 : g < 4503599627370496
  · refine key _ g (-1074) ?_ ?_
    · unfold Ieee.Format.read
      simp only [e1, e2, e3, e4, hs, hm]
      rw [if_pos h1]
    · unfold Ieee.Format.read
      simp only [e1, e2, e3, e4, hs0, hm0]
      rw [if_pos h1]
  · refine key _ (4503599627370496 + g % 4503599627370496) (-1074 + ((g / 4503599627370496 - 1 : Nat) : Int)) ?_ ?_
    · unfold Ieee.Format.read
      simp only [e1, e2, e3, e4, hs, hm]
      rw [if_neg h1, if_pos hf]
    · unfold Ieee.Format.read
      simp only [e1, e2, e3, e4, hs0, hm0]
      rw [if_neg h1, if_pos hf]

/-- what a finite float's dyad is -/
structure FZ (u : Nat) (d : DV) : Prop where
  rz : RZ d
  len : d.mag.length ≤ 1
  lo : -1074 ≤ d.exp
  hi : d.exp ≤ 1023
  val : fk u = d.top * 2 ^ (d.exp + 1074).toNat
  neg : sgbB u = true → d.top ≠ 0 → d.neg = true
theorem of_any (u : Nat) (w : World) (hu : u < 18446744073709551616) (h : u % 9223372036854775808 < 9218868437227405312) (hL : Laid w) :
    Calls Tryz.prog 63 #[.float .f64 u] w fun e w' => ∃ (v : Value) (d : DV), e = .returned v ∧ FZ u d ∧ DAt w' v d ∧ Below w.heap.size w w' := by
  have hk := fk_num hu h
  by_cases h0 : u % 9223372036854775808 = 0
  · refine (round_zero u w hu h0).mono ?_
    rintro e w' ⟨v, rfl, hd, hb⟩
    refine ⟨v, zD, rfl, ⟨.inr rfl, by simp [zD], by simp [zD], by simp [zD], ?_, fun _ h => absurd rfl h⟩, hd, hb⟩
    rw [hk, h0, Vr_zero, show DV.top zD = 0 from rfl, Int.zero_mul]
    unfold numD
    split <;> rfl
  · refine (of_round u w hu (by omega) h hL).mono ?_
    rintro e w' ⟨v, f, x, rfl, hfd, hd, hb⟩
    refine ⟨v, _, rfl, ⟨.inl (hfd.right _), by simp, hfd.lo, hfd.hi, ?_, fun h _ => h⟩, hd, hb⟩
    rw [hk, hfd.val, top_num]
    simp only
    have e : ln [f] = f := by simp [ln]
    rw [e]
    exact (numD_mul _ _ _).symm

theorem numD_abs (z : Int) : numD (decide (z < 0)) z.natAbs = z := by
  unfold numD
  by_cases h : z < 0
  · rw [decide_eq_true h, if_pos rfl]; omega
  · rw [decide_eq_false h]; simp only [Bool.false_eq_true, if_false]; omega
/-- a normed dyad compares as what it was made from -/
theorem norm_cmp {z e : Int} {d : DV} (h : NormD z e d) (X : Int) (ex : Int) : cmpE X ex d.top d.exp = cmpE X ex z e := by
  rcases h with ⟨rfl, rfl⟩ | ⟨h0, k, ⟨hk1, hk2⟩, rfl⟩
  · have e1 : DV.top ⟨false, [], 0⟩ = 0 := rfl
    rw [e1]
    have p1 := mul_sgn (z := X) (show (0 : Int) < 2 ^ (ex - min ex 0).toNat by exact_mod_cast Nat.two_pow_pos _)
    have p2 := mul_sgn (z := X) (show (0 : Int) < 2 ^ (ex - min ex e).toNat by exact_mod_cast Nat.two_pow_pos _)
    unfold cmpE cmpI
    simp only [Int.zero_mul]
    simp only [p1.1, p1.2, p2.1, p2.2]
  · have e1 : DV.top ⟨decide (z < 0), lim (z.natAbs / 2 ^ k), e + k⟩ * 2 ^ k = z := by
      rw [top_num]
      simp only
      rw [ln_dig, numD_mul, Nat.div_mul_cancel (Nat.dvd_of_mod_eq_zero hk2), numD_abs]
    simp only
    obtain ⟨T, hT⟩ : ∃ T, T = min ex e := ⟨_, rfl⟩
    rw [cmpE_at _ _ _ _ T (by omega) (by omega), cmpE_at X ex z e T (by omega) (by omega)]
    congr 1
    conv => rhs; rw [← e1]
    rw [Int.mul_assoc, ← Int.pow_add]
    congr 2
    omega
theorem norm_rz {z e : Int} {d : DV} (h : NormD z e d) (hz : blen z.natAbs ≤ 16000) (h1 : -40000 ≤ e) (h2 : e ≤ 40000) : RZ d := by
  rcases h with ⟨rfl, rfl⟩ | ⟨h0, k, ⟨hk1, hk2⟩, rfl⟩
  · exact .inr rfl
  · have hkl := low_lt (show z.natAbs ≠ 0 by omega) hk2
    refine .inl (right_lim _ hk1 ?_ (by omega) (by omega))
    exact Nat.le_trans (blen_le_of_lt (Nat.lt_of_le_of_lt (Nat.div_le_self ..) blen_lt)) (by omega)

set_option maxRecDepth 100000 in
set_option maxHeartbeats 8000000 in
theorem cmp_zero (v1 v2 : Value) (d1 : DV) (w : World) (h1 : DAt w v1 d1) (h2 : DAt w v2 zD) (r1 : RightD d1) :
    Calls Tryz.prog 82 #[v1, v2] w fun e w' => e = .returned (.tuple #[.int .i64 (cmpE d1.top d1.exp zD.top zD.exp), .int .i64 0]) ∧ Below w.heap.size w w' := by
  have H1 := Lib.hid h1
  have H2 := Lib.hid h2
  have I1 := Lib.hid (fun w hd => sign_dyad v1 d1 w hd r1)
  have I2 := Lib.hid (fun w hd => sign_zero v2 w hd)
  obtain ⟨R, hR⟩ : ∃ R, R = cmpE d1.top d1.exp zD.top zD.exp := ⟨_, rfl⟩
  rw [← hR]
  have hsg : (sgD d1 = 1 ∧ R = 1) ∨ (sgD d1 = -1 ∧ R = -1) := by
    have hc := cmpE_sgn d1 zD
    have e0 : sgN zD = 0 := rfl
    have e1 : sgN d1 = sgD d1 := by unfold sgN; rw [if_neg r1.ne, sgD_eq]
    rw [e0, e1, ← hR] at hc
    rw [sgD_eq] at hc ⊢
    unfold sgB at hc ⊢
    cases h : d1.neg
    · rw [h] at hc; left; exact ⟨rfl, hc.2.1 (by decide)⟩
    · rw [h] at hc; right; exact ⟨rfl, hc.1 (by decide)⟩
  obtain ⟨x, hx⟩ : ∃ x, x = sgD d1 := ⟨_, rfl⟩
  rw [← hx] at I1 hsg
  obtain ⟨A1, n1', c1, rfl, _, _⟩ := h1
  obtain ⟨A2, n2', c2, rfl, _, _⟩ := h2
  obtain ⟨s1, m1, x1⟩ := d1
  have ez : zD.neg = false ∧ zD.exp = 0 := ⟨rfl, rfl⟩
  rw [ez.1, ez.2] at H2 I2 ⊢
  simp only at I1 I2 H1 H2 ⊢
  clear r1 hx hR ez
  obtain ⟨w0, hw0⟩ : ∃ w0, w0 = (w.alloc (.cells #[.bool s1, .slice A1 n1' c1, .int .i64 x1] 78)).alloc (.cells #[.bool false, .slice A2 n2' c2, .int .i64 0] 78) := ⟨_, rfl⟩
  have g1 : w0.heap[w.heap.size]? = some (.cells #[.bool s1, .slice A1 n1' c1, .int .i64 x1] 78 (0, 0)) := by rw [hw0]; exact blk_old (blk_new ..) _
  have g2 : w0.heap[w.heap.size + 1]? = some (.cells #[.bool false, .slice A2 n2' c2, .int .i64 0] 78 (0, 0)) := by rw [hw0]; have h := blk_new (w.alloc (.cells #[.bool s1, .slice A1 n1' c1, .int .i64 x1] 78)) #[.bool false, .slice A2 n2' c2, .int .i64 0] 78; rwa [World.size_alloc] at h
  have hb0 : Below w.heap.size w w0 := by rw [hw0]; exact below2 ..
  have z0 : w.heap.size + 2 ≤ w0.heap.size := by rw [hw0]; simp
  have HB0 := Lib.hid hb0
  have HG1 := Lib.hid g1
  have HG2 := Lib.hid g2
  have HZ := Lib.hid z0
  have HW0 := Lib.hid hw0
  obtain ⟨k0, k1, k2, _⟩ := cells3 g1
  clear hw0 hb0 g1 g2 z0
  go_enter Tryz.func82, Tryz.ntmps82
  go_upto_region 1 with fail
  rw [← HW0.out]
  go_wp2_with fail
  refine (I1.out w0 (H1.out.below HB0.out)).mono ?_
  rintro e wa ⟨rfl, hba⟩
  have HA2 := Lib.hid ((hba.block _ (by have := HZ.out; omega)).trans HG2.out)
  have HBA := Lib.hid (HB0.out.trans (hba.mono HB0.out.size))
  clear k0 k1 k2 hba HZ HG1 HG2 HB0
  obtain ⟨j0, j1, j2, _⟩ := cells3 HA2.out
  go_wp2_with fail
  refine (I2.out wa (H2.out.below HBA.out)).mono ?_
  rintro e wb ⟨rfl, hbb⟩
  have HBB := Lib.hid (HBA.out.trans (hbb.mono HBA.out.size))
  clear j0 j1 j2 hbb HA2 HBA
  rcases hsg with ⟨rfl, rfl⟩ | ⟨rfl, rfl⟩
  · go_wp2_with fail
    go_ret2
    exact ⟨rfl, HBB.out⟩
  · go_wp2_with fail
    go_ret2
    exact ⟨rfl, HBB.out⟩

set_option maxRecDepth 100000 in
set_option maxHeartbeats 8000000 in
theorem cmp_round (v1 v2 : Value) (d1 d2 : DV) (w : World) (h1 : DAt w v1 d1) (h2 : DAt w v2 d2) (r1 : RightD d1) (r2 : RZ d2) :
    Calls Tryz.prog 62 #[v1, v2] w fun e w' => e = .returned (.int .i64 (cmpE d1.top d1.exp d2.top d2.exp)) ∧ Below w.heap.size w w' := by
  have H1 := Lib.hid h1
  have H2 := Lib.hid h2
  have CM : Hid (∀ w, DAt w v1 d1 → DAt w v2 d2 → Calls Tryz.prog 82 #[v1, v2] w fun e w' => e = .returned (.tuple #[.int .i64 (cmpE d1.top d1.exp d2.top d2.exp), .int .i64 0]) ∧ Below w.heap.size w w') := Lib.hid (fun w a b => by
    rcases r2 with r2 | rfl
    · exact cmp_dyad v1 v2 d1 d2 w a b r1 r2
    · exact cmp_zero v1 v2 d1 w a b r1)
  obtain ⟨R, hR⟩ : ∃ R, R = cmpE d1.top d1.exp d2.top d2.exp := ⟨_, rfl⟩
  rw [← hR] at CM ⊢
  obtain ⟨A1, n1', c1, rfl, _, _⟩ := h1
  obtain ⟨A2, n2', c2, rfl, _, _⟩ := h2
  obtain ⟨s1, m1, x1⟩ := d1
  obtain ⟨s2, m2, x2⟩ := d2
  simp only at CM H1 H2 ⊢
  clear r1 r2 hR
  obtain ⟨w0, hw0⟩ : ∃ w0, w0 = (w.alloc (.cells #[.bool s1, .slice A1 n1' c1, .int .i64 x1] 78)).alloc (.cells #[.bool s2, .slice A2 n2' c2, .int .i64 x2] 78) := ⟨_, rfl⟩
  have g1 : w0.heap[w.heap.size]? = some (.cells #[.bool s1, .slice A1 n1' c1, .int .i64 x1] 78 (0, 0)) := by rw [hw0]; exact blk_old (blk_new ..) _
  have g2 : w0.heap[w.heap.size + 1]? = some (.cells #[.bool s2, .slice A2 n2' c2, .int .i64 x2] 78 (0, 0)) := by rw [hw0]; have h := blk_new (w.alloc (.cells #[.bool s1, .slice A1 n1' c1, .int .i64 x1] 78)) #[.bool s2, .slice A2 n2' c2, .int .i64 x2] 78; rwa [World.size_alloc] at h
  have hb0 : Below w.heap.size w w0 := by rw [hw0]; exact below2 ..
  have HB0 := Lib.hid hb0
  have HW0 := Lib.hid hw0
  obtain ⟨k0, k1, k2, _⟩ := cells3 g1
  obtain ⟨j0, j1, j2, _⟩ := cells3 g2
  clear hw0 hb0 g1 g2
  go_enter Tryz.func62, Tryz.ntmps62
  go_upto_region 1 with fail
  rw [← HW0.out]
  go_wp2_with fail
  refine (CM.out w0 (H1.out.below HB0.out) (H2.out.below HB0.out)).mono ?_
  rintro e wa ⟨rfl, hba⟩
  have HBA := Lib.hid (HB0.out.trans (hba.mono HB0.out.size))
  clear hba k0 k1 k2 j0 j1 j2
  go_wp2_with fail
  go_ret
  exact ⟨rfl, HBA.out⟩

end Go.Proofs.YtkfhbnfoiicioaaGreatDoor

/- girderref00.Compare: the walk (its midst printed by gen_q6.py) -/
namespace Go.Proofs.YtkfhbnfoiicioaaGreatDoor
open Ieee Go.RowKit Go.Sort

theorem plX_len {d1 d2 : DV} (l1 : Lds d1.mag) (l2 : Lds d2.mag) (h1 : d1.mag.length ≤ 100000) (h2 : d2.mag.length ≤ 100000) (e1 : -100000 ≤ d1.exp ∧ d1.exp ≤ 100000) (e2 : -100000 ≤ d2.exp ∧ d2.exp ≤ 100000) : (plX d1 d2).mag.length ≤ 1000000 := by
  have key : ∀ (a b : List Nat) (N : Nat), Lds a → Lds b → a.length ≤ 100000 → b.length ≤ 100000 → N ≤ 200000 → ∀ M, (M ≤ ln a ∨ M ≤ ln b * 2 ^ N) → (lim M).length ≤ 1000000 := by
    intro a b N ha hb la lb hN M hM
    refine Nat.le_trans (lim_len_le (k := a.length + (b.length + N)) ?_) (by omega)
    rw [W64_pow]
    have a1 := ln_lt ha
    have b1 := ln_lt hb
    rw [W64_pow] at a1 b1
    rcases hM with h | h
    · exact Nat.lt_of_le_of_lt h (Nat.lt_of_lt_of_le a1 (Nat.pow_le_pow_right (by decide) (by omega)))
    · refine Nat.lt_of_le_of_lt h (Nat.lt_of_lt_of_le (Nat.mul_lt_mul_of_pos_right b1 (Nat.two_pow_pos _)) ?_)
      rw [← Nat.pow_add]
      exact Nat.pow_le_pow_right (by decide) (by omega)
  unfold plX plD
  split <;> split
  · exact key _ _ 0 l1 l2 h1 h2 (by omega) _ (.inl (Nat.sub_le ..))
  · exact key _ _ _ l1 l2 h1 h2 (by omega) _ (.inr (Nat.sub_le ..))
  · exact key _ _ 0 l2 l1 h2 h1 (by omega) _ (.inl (Nat.sub_le ..))
  · exact key _ _ _ l2 l1 h2 h1 (by omega) _ (.inr (Nat.sub_le ..))

set_option maxRecDepth 100000 in
set_option maxHeartbeats 8000000 in
theorem compareN_any (v1 v2 : Value) (d1 d2 : DV) (w : World) (h1 : NA w v1 d1) (h2 : NA w v2 d2) (l1 : d1.mag.length ≤ 100000) (l2 : d2.mag.length ≤ 100000) (e1 : -100000 ≤ d1.exp ∧ d1.exp ≤ 100000) (e2 : -100000 ≤ d2.exp ∧ d2.exp ≤ 100000) :
    Calls Tryz.prog 87 #[v1, v2] w fun e w' => e = .returned (.int .i64 (cmpE d1.top d1.exp d2.top d2.exp)) ∧ Below w.heap.size w w' := by
  have S1 := Lib.hid (fun w a => signN_any v1 d1 w a (by omega))
  have S2 := Lib.hid (fun w a => signN_any v2 d2 w a (by omega))
  have T1 := Lib.hid (fun w (a : NA w v1 d1) => topN_any v1 d1.neg d1.mag d1.exp w a.1 a.2 (by omega) (by omega) (by omega))
  have T2 := Lib.hid (fun w (a : NA w v2 d2) => topN_any v2 d2.neg d2.mag d2.exp w a.1 a.2 (by omega) (by omega) (by omega))
  obtain ⟨R, hR⟩ : ∃ R, R = cmpE d1.top d1.exp d2.top d2.exp := ⟨_, rfl⟩
  rw [← hR]
  obtain ⟨x, hx⟩ : ∃ x, x = sgN d1 := ⟨_, rfl⟩
  obtain ⟨y, hy⟩ : ∃ y, y = sgN d2 := ⟨_, rfl⟩
  obtain ⟨p, hp⟩ : ∃ p, p = d1.exp + (blen (ln d1.mag) : Int) := ⟨_, rfl⟩
  obtain ⟨q, hq⟩ : ∃ q, q = d2.exp + (blen (ln d2.mag) : Int) := ⟨_, rfl⟩
  obtain ⟨D, hD⟩ : ∃ D, D = plX d1 ⟨!d2.neg, d2.mag, d2.exp⟩ := ⟨_, rfl⟩
  have ne1 : x ≠ 0 → ln d1.mag ≠ 0 := fun h h2 => h (by rw [hx]; unfold sgN; rw [if_pos h2])
  have ne2 : y ≠ 0 → ln d2.mag ≠ 0 := fun h h2 => h (by rw [hy]; unfold sgN; rw [if_pos h2])
  have hsg : x ≠ 0 → x = y → d2.neg = d1.neg := fun h h2 => by
    have a1 := ne1 h
    have a2 := ne2 (by omega)
    rw [hx, hy] at h2
    unfold sgN sgB at h2
    rw [if_neg a1, if_neg a2] at h2
    cases h5 : d1.neg <;> cases h6 : d2.neg <;> simp [h5, h6] at h2 ⊢
  have hsx : x ≠ 0 → x = sgB d1.neg := fun h => by rw [hx]; unfold sgN; rw [if_neg (ne1 h)]
  have C1 := Lib.hid (show (x < y → R = -1) ∧ (y < x → R = 1) ∧ (x = 0 → y = 0 → R = 0) by rw [hx, hy, hR]; exact cmpE_sgn d1 d2)
  have c2 : x = y → (x ≠ 0 → p < q → R = -x) ∧ (x ≠ 0 → q < p → R = x) ∧ (x ≠ 0 → R = sgN D) := fun he => by
    refine ⟨fun h h2 => ?_, fun h h2 => ?_, fun h => ?_⟩
    · rw [hR, hsx h, top_num, top_num, hsg h he]
      exact (cmpE_lt (ne2 (by omega)) (by omega)).1
    · rw [hR, hsx h, top_num, top_num, hsg h he]
      exact (cmpE_lt (ne1 h) (by omega)).2
    · rw [hR, hD]
      exact (plX_sgn (hsg h he) (ne1 h) (ne2 (by omega))).symm
  have LE := Lib.hid (fun w a b (he : x = y) (h : x ≠ 0) => lessN_any v1 v2 d1 d2 w a b (by omega) (by omega) (by omega) (by omega) (ne1 h) (ne2 (by omega)) (hsg h he))
  have hDl : D.mag.length ≤ 1000000 := by rw [hD]; exact plX_len h1.2 h2.2 l1 l2 e1 e2
  have SG := Lib.hid (fun v w a => signN_any v D w a hDl)
  rw [← hD] at LE
  rw [← hx] at S1
  rw [← hy] at S2
  rw [← hp] at T1
  rw [← hq] at T2
  have XR := Lib.hid (show x = 1 ∨ x = -1 ∨ x = 0 by rw [hx]; exact (sgN_top d1).2.2.2)
  obtain ⟨A1, k1, c1, rfl, hl1⟩ := h1.agg
  obtain ⟨A2, k2, c2', rfl, hl2⟩ := h2.agg
  obtain ⟨s1, m1, x1⟩ := d1
  obtain ⟨s2, m2, x2⟩ := d2
  simp only at *
  obtain ⟨w0, hw0⟩ : ∃ w0, w0 = (w.alloc (.cells #[.bool s1, .slice A1 k1 c1, .int .i64 x1] 100)).alloc (.cells #[.bool s2, .slice A2 k2 c2', .int .i64 x2] 100) := ⟨_, rfl⟩
  have g1 : w0.heap[w.heap.size]? = some (.cells #[.bool s1, .slice A1 k1 c1, .int .i64 x1] 100 (0, 0)) := by rw [hw0]; exact blk_old (blk_new ..) _
  have g2 : w0.heap[w.heap.size + 1]? = some (.cells #[.bool s2, .slice A2 k2 c2', .int .i64 x2] 100 (0, 0)) := by rw [hw0]; have h := blk_new (w.alloc (.cells #[.bool s1, .slice A1 k1 c1, .int .i64 x1] 100)) #[.bool s2, .slice A2 k2 c2', .int .i64 x2] 100; rwa [World.size_alloc] at h
  have z0 : w0.heap.size = w.heap.size + 1 + 1 := by rw [hw0]; simp
  have hb0 : Below w.heap.size w w0 := by rw [hw0]; exact below2 ..
  have HB0 := Lib.hid hb0
  have HBR := Lib.hid (Below.refl w0.heap.size w0)
  have HG1 := Lib.hid g1
  have HG2 := Lib.hid g2
  have HZ := Lib.hid z0
  have HW0 := Lib.hid hw0
  obtain ⟨y0, y1, y2, _⟩ := cells3 g1
  obtain ⟨j0, j1, j2, _⟩ := cells3 g2
  have N1 := Lib.hid (h1.below hb0)
  have N2 := Lib.hid (h2.below hb0)
  have C20 := Lib.hid c2
  clear hw0 hb0 g1 g2 z0 h1 h2 hl1 hl2 ne1 ne2 hsg hsx c2 hR hx hy hp hq hD hDl
  go_enter Tryz.func87, Tryz.ntmps87
  go_upto_region 1 with fail
  rw [← HW0.out]
  -- [
  obtain ⟨ua, hu⟩ : ∃ u, u = w0.drew := ⟨_, rfl⟩
  have HUa := Lib.hid hu
  have HBUa := Lib.hid (show Below w0.heap.size w0 ua by rw [hu]; exact HBR.out.drew)
  clear hu
  refine wp_region_held_drew (S := (fun w' => w'.cell? ⟨w.heap.size, 0, none⟩ = some (.bool s1) ∧ w'.cell? ⟨w.heap.size, 1, none⟩ = some (.slice A1 k1 c1) ∧ w'.cell? ⟨w.heap.size, 2, none⟩ = some (.int .i64 x1) ∧ w'.cell? ⟨w.heap.size + 1, 0, none⟩ = some (.bool s2) ∧ w'.cell? ⟨w.heap.size + 1, 1, none⟩ = some (.slice A2 k2 c2') ∧ w'.cell? ⟨w.heap.size + 1, 2, none⟩ = some (.int .i64 x2))) (by kernel_rfl) ?_ (fun hHeld => ?_)
  · first | exact True.intro | ((try dsimp only); go_keep)
  refine tkH (i := 0) (v := ?_) rfl (by kernel_rfl) (Or.inl ⟨by kernel_rfl, ?_⟩) (by assumption) ?_
  rotate_left 1
  · (intro w hSw; (try dsimp only at hSw); go_simp; try with_reducible rfl)
  try simp only [lyA, lyB, lyC, Act.put, lyD, lyE, lyF]
  refine tkH (i := 2) (v := ?_) rfl (by kernel_rfl) (Or.inl ⟨by kernel_rfl, ?_⟩) (by assumption) ?_
  rotate_left 1
  · (intro w hSw; (try dsimp only at hSw); go_simp; try with_reducible rfl)
  try simp only [lyA, lyB, lyC, Act.put, lyD, lyE, lyF]
  rw [← HUa.out]
  clear y0 y1 y2 j0 j1 j2
  refine wpAnyH_ready (rs := [1]) (by kernel_rfl) (by simp) ?_
  refine AllReadyH.cons rfl (fun K hK => ?_) AllReadyH.nil
  go_simp
  (refine (S1.out ua (N1.out.below HBUa.out)).mono ?_; rintro e wca ⟨rfl, hbn⟩; have HCa := Lib.hid (HBUa.out.trans (hbn.mono HBUa.out.size)); clear hbn; obtain ⟨y0, y1, y2, _⟩ := cells3 ((HCa.out.block _ (by have := HZ.out; omega)).trans HG1.out); obtain ⟨j0, j1, j2, _⟩ := cells3 ((HCa.out.block _ (by have := HZ.out; omega)).trans HG2.out))
  try go_wp2_with fail
  refine hK.out _ _ ?_ (fun hHeld => ?_)
  · first | exact True.intro | ((try dsimp only); go_keep)
  clear hK K
  try simp only [lyA, lyB, lyC, Act.put, lyD, lyE, lyF]
  clear y0 y1 y2 j0 j1 j2
  refine wpAnyH_ready (rs := [3]) (by kernel_rfl) (by simp) ?_
  refine AllReadyH.cons rfl (fun K hK => ?_) AllReadyH.nil
  go_simp
  (refine (S2.out wca (N2.out.below HCa.out)).mono ?_; rintro e wda ⟨rfl, hbn⟩; have HEa := Lib.hid (HCa.out.trans (hbn.mono HCa.out.size)); clear hbn; obtain ⟨y0, y1, y2, _⟩ := cells3 ((HEa.out.block _ (by have := HZ.out; omega)).trans HG1.out); obtain ⟨j0, j1, j2, _⟩ := cells3 ((HEa.out.block _ (by have := HZ.out; omega)).trans HG2.out))
  try go_wp2_with fail
  refine hK.out _ _ ?_ (fun hHeld => ?_)
  · first | exact True.intro | ((try dsimp only); go_keep)
  clear hK K
  try simp only [lyA, lyB, lyC, Act.put, lyD, lyE, lyF]
  refine tkH (i := 4) (v := ?_) rfl (by kernel_rfl) (Or.inl ⟨by kernel_rfl, ?_⟩) (by assumption) ?_
  rotate_left 1
  · (intro w hSw; (try dsimp only at hSw); go_simp; try with_reducible rfl)
  try simp only [lyA, lyB, lyC, Act.put, lyD, lyE, lyF]
  refine wpAnyH_ready (rs := [5]) (by kernel_rfl) (by simp) ?_
  refine AllReadyH.cons rfl (fun K hK => ?_) AllReadyH.nil
  go_simp
  refine hK.out _ _ ?_ (fun hHeld => ?_)
  · first | exact True.intro | ((try dsimp only); go_keep)
  clear hK K
  try simp only [lyA, lyB, lyC, Act.put, lyD, lyE, lyF]
  refine wpAnyH_done (by kernel_rfl) ?_ _
  by_cases hlt : x < y
  · have d1 : decide (x < y) = true := decide_eq_true hlt
    have HR := Lib.hid (C1.out.1 hlt)
    go_wp2_with fail
    go_ret
    exact ⟨by rw [HR.out]; rfl, HB0.out.trans (HEa.out.mono HB0.out.size)⟩
  have d1 : decide (x < y) = false := decide_eq_false hlt
  by_cases hgt : y < x
  · have d2 : decide (y < x) = true := decide_eq_true hgt
    have HR := Lib.hid (C1.out.2.1 hgt)
    go_wp2_with fail
    go_ret
    exact ⟨by rw [HR.out]; rfl, HB0.out.trans (HEa.out.mono HB0.out.size)⟩
  have d2 : decide (y < x) = false := decide_eq_false hgt
  obtain rfl : x = y := by omega
  have C2 := Lib.hid (C20.out rfl)
  have LE2 := Lib.hid (fun w a b h => LE.out w a b rfl h)
  by_cases h0 : x = 0
  · have d3 : (x == 0) = true := by simp [h0]
    have HR := Lib.hid (C1.out.2.2 h0 h0)
    go_wp2_with fail
    go_ret
    exact ⟨by rw [HR.out]; rfl, HB0.out.trans (HEa.out.mono HB0.out.size)⟩
  have d3 : (x == 0) = false := by simp [h0]
  have hnx : IntKind.i64.wrap (-x) = -x := IntWalk.i64_in _ (by have := XR.out; omega)
  have H0 := Lib.hid h0
  clear hlt hgt h0
  go_upto_region 8 with fail
  obtain ⟨ub, hu⟩ : ∃ u, u = wda.drew := ⟨_, rfl⟩
  have HUb := Lib.hid hu
  have HBUb := Lib.hid (show Below w0.heap.size w0 ub by rw [hu]; exact HEa.out.drew)
  clear hu
  refine wp_region_held_drew (S := (fun w' => w'.cell? ⟨w.heap.size, 0, none⟩ = some (.bool s1) ∧ w'.cell? ⟨w.heap.size, 1, none⟩ = some (.slice A1 k1 c1) ∧ w'.cell? ⟨w.heap.size, 2, none⟩ = some (.int .i64 x1) ∧ w'.cell? ⟨w.heap.size + 1, 0, none⟩ = some (.bool s2) ∧ w'.cell? ⟨w.heap.size + 1, 1, none⟩ = some (.slice A2 k2 c2') ∧ w'.cell? ⟨w.heap.size + 1, 2, none⟩ = some (.int .i64 x2))) (by kernel_rfl) ?_ (fun hHeld => ?_)
  · first | exact True.intro | ((try dsimp only); go_keep)
  refine tkH (i := 0) (v := ?_) rfl (by kernel_rfl) (Or.inl ⟨by kernel_rfl, ?_⟩) (by assumption) ?_
  rotate_left 1
  · (intro w hSw; (try dsimp only at hSw); go_simp; try with_reducible rfl)
  try simp only [lyA, lyB, lyC, Act.put, lyD, lyE, lyF]
  refine tkH (i := 2) (v := ?_) rfl (by kernel_rfl) (Or.inl ⟨by kernel_rfl, ?_⟩) (by assumption) ?_
  rotate_left 1
  · (intro w hSw; (try dsimp only at hSw); go_simp; try with_reducible rfl)
  try simp only [lyA, lyB, lyC, Act.put, lyD, lyE, lyF]
  rw [← HUb.out]
  clear y0 y1 y2 j0 j1 j2
  refine wpAnyH_ready (rs := [1]) (by kernel_rfl) (by simp) ?_
  refine AllReadyH.cons rfl (fun K hK => ?_) AllReadyH.nil
  go_simp
  (refine (T1.out ub (N1.out.below HBUb.out)).mono ?_; rintro e wcb ⟨rfl, hbn⟩; have HCb := Lib.hid (HBUb.out.trans (hbn.mono HBUb.out.size)); clear hbn; obtain ⟨y0, y1, y2, _⟩ := cells3 ((HCb.out.block _ (by have := HZ.out; omega)).trans HG1.out); obtain ⟨j0, j1, j2, _⟩ := cells3 ((HCb.out.block _ (by have := HZ.out; omega)).trans HG2.out))
  try go_wp2_with fail
  refine hK.out _ _ ?_ (fun hHeld => ?_)
  · first | exact True.intro | ((try dsimp only); go_keep)
  clear hK K
  try simp only [lyA, lyB, lyC, Act.put, lyD, lyE, lyF]
  clear y0 y1 y2 j0 j1 j2
  refine wpAnyH_ready (rs := [3]) (by kernel_rfl) (by simp) ?_
  refine AllReadyH.cons rfl (fun K hK => ?_) AllReadyH.nil
  go_simp
  (refine (T2.out wcb (N2.out.below HCb.out)).mono ?_; rintro e wdb ⟨rfl, hbn⟩; have HEb := Lib.hid (HCb.out.trans (hbn.mono HCb.out.size)); clear hbn; obtain ⟨y0, y1, y2, _⟩ := cells3 ((HEb.out.block _ (by have := HZ.out; omega)).trans HG1.out); obtain ⟨j0, j1, j2, _⟩ := cells3 ((HEb.out.block _ (by have := HZ.out; omega)).trans HG2.out))
  try go_wp2_with fail
  refine hK.out _ _ ?_ (fun hHeld => ?_)
  · first | exact True.intro | ((try dsimp only); go_keep)
  clear hK K
  try simp only [lyA, lyB, lyC, Act.put, lyD, lyE, lyF]
  refine wpAnyH_ready (rs := [4]) (by kernel_rfl) (by simp) ?_
  refine AllReadyH.cons rfl (fun K hK => ?_) AllReadyH.nil
  go_simp
  refine hK.out _ _ ?_ (fun hHeld => ?_)
  · first | exact True.intro | ((try dsimp only); go_keep)
  clear hK K
  try simp only [lyA, lyB, lyC, Act.put, lyD, lyE, lyF]
  refine wpAnyH_ready (rs := [5]) (by kernel_rfl) (by simp) ?_
  refine AllReadyH.cons rfl (fun K hK => ?_) AllReadyH.nil
  go_simp
  refine hK.out _ _ ?_ (fun hHeld => ?_)
  · first | exact True.intro | ((try dsimp only); go_keep)
  clear hK K
  try simp only [lyA, lyB, lyC, Act.put, lyD, lyE, lyF]
  refine wpAnyH_done (by kernel_rfl) ?_ _
  by_cases hpq : p < q
  · have d4 : decide (p < q) = true := decide_eq_true hpq
    have HR := Lib.hid (C2.out.1 H0.out hpq)
    go_wp2_with fail
    go_ret
    exact ⟨by rw [HR.out]; rfl, HB0.out.trans (HEb.out.mono HB0.out.size)⟩
  have d4 : decide (p < q) = false := decide_eq_false hpq
  go_upto_region 10 with fail
  obtain ⟨uc, hu⟩ : ∃ u, u = wdb.drew := ⟨_, rfl⟩
  have HUc := Lib.hid hu
  have HBUc := Lib.hid (show Below w0.heap.size w0 uc by rw [hu]; exact HEb.out.drew)
  clear hu
  refine wp_region_held_drew (S := (fun w' => w'.cell? ⟨w.heap.size, 0, none⟩ = some (.bool s1) ∧ w'.cell? ⟨w.heap.size, 1, none⟩ = some (.slice A1 k1 c1) ∧ w'.cell? ⟨w.heap.size, 2, none⟩ = some (.int .i64 x1) ∧ w'.cell? ⟨w.heap.size + 1, 0, none⟩ = some (.bool s2) ∧ w'.cell? ⟨w.heap.size + 1, 1, none⟩ = some (.slice A2 k2 c2') ∧ w'.cell? ⟨w.heap.size + 1, 2, none⟩ = some (.int .i64 x2))) (by kernel_rfl) ?_ (fun hHeld => ?_)
  · first | exact True.intro | ((try dsimp only); go_keep)
  refine tkH (i := 0) (v := ?_) rfl (by kernel_rfl) (Or.inl ⟨by kernel_rfl, ?_⟩) (by assumption) ?_
  rotate_left 1
  · (intro w hSw; (try dsimp only at hSw); go_simp; try with_reducible rfl)
  try simp only [lyA, lyB, lyC, Act.put, lyD, lyE, lyF]
  refine tkH (i := 2) (v := ?_) rfl (by kernel_rfl) (Or.inl ⟨by kernel_rfl, ?_⟩) (by assumption) ?_
  rotate_left 1
  · (intro w hSw; (try dsimp only at hSw); go_simp; try with_reducible rfl)
  try simp only [lyA, lyB, lyC, Act.put, lyD, lyE, lyF]
  rw [← HUc.out]
  clear y0 y1 y2 j0 j1 j2
  refine wpAnyH_ready (rs := [1]) (by kernel_rfl) (by simp) ?_
  refine AllReadyH.cons rfl (fun K hK => ?_) AllReadyH.nil
  go_simp
  (refine (T1.out uc (N1.out.below HBUc.out)).mono ?_; rintro e wcc ⟨rfl, hbn⟩; have HCc := Lib.hid (HBUc.out.trans (hbn.mono HBUc.out.size)); clear hbn; obtain ⟨y0, y1, y2, _⟩ := cells3 ((HCc.out.block _ (by have := HZ.out; omega)).trans HG1.out); obtain ⟨j0, j1, j2, _⟩ := cells3 ((HCc.out.block _ (by have := HZ.out; omega)).trans HG2.out))
  try go_wp2_with fail
  refine hK.out _ _ ?_ (fun hHeld => ?_)
  · first | exact True.intro | ((try dsimp only); go_keep)
  clear hK K
  try simp only [lyA, lyB, lyC, Act.put, lyD, lyE, lyF]
  clear y0 y1 y2 j0 j1 j2
  refine wpAnyH_ready (rs := [3]) (by kernel_rfl) (by simp) ?_
  refine AllReadyH.cons rfl (fun K hK => ?_) AllReadyH.nil
  go_simp
  (refine (T2.out wcc (N2.out.below HCc.out)).mono ?_; rintro e wdc ⟨rfl, hbn⟩; have HEc := Lib.hid (HCc.out.trans (hbn.mono HCc.out.size)); clear hbn; obtain ⟨y0, y1, y2, _⟩ := cells3 ((HEc.out.block _ (by have := HZ.out; omega)).trans HG1.out); obtain ⟨j0, j1, j2, _⟩ := cells3 ((HEc.out.block _ (by have := HZ.out; omega)).trans HG2.out))
  try go_wp2_with fail
  refine hK.out _ _ ?_ (fun hHeld => ?_)
  · first | exact True.intro | ((try dsimp only); go_keep)
  clear hK K
  try simp only [lyA, lyB, lyC, Act.put, lyD, lyE, lyF]
  refine wpAnyH_ready (rs := [4]) (by kernel_rfl) (by simp) ?_
  refine AllReadyH.cons rfl (fun K hK => ?_) AllReadyH.nil
  go_simp
  refine hK.out _ _ ?_ (fun hHeld => ?_)
  · first | exact True.intro | ((try dsimp only); go_keep)
  clear hK K
  try simp only [lyA, lyB, lyC, Act.put, lyD, lyE, lyF]
  refine wpAnyH_ready (rs := [5]) (by kernel_rfl) (by simp) ?_
  refine AllReadyH.cons rfl (fun K hK => ?_) AllReadyH.nil
  go_simp
  refine hK.out _ _ ?_ (fun hHeld => ?_)
  · first | exact True.intro | ((try dsimp only); go_keep)
  clear hK K
  try simp only [lyA, lyB, lyC, Act.put, lyD, lyE, lyF]
  refine wpAnyH_done (by kernel_rfl) ?_ _
  by_cases hqp : q < p
  · have d5 : decide (q < p) = true := decide_eq_true hqp
    have HR := Lib.hid (C2.out.2.1 H0.out hqp)
    go_wp2_with fail
    go_ret
    exact ⟨by rw [HR.out]; rfl, HB0.out.trans (HEc.out.mono HB0.out.size)⟩
  have d5 : decide (q < p) = false := decide_eq_false hqp
  go_wp2_with fail
  refine (LE2.out wdc (N1.out.below HEc.out) (N2.out.below HEc.out) H0.out).mono ?_
  rintro e wg ⟨vd, rfl, hvd, hbg⟩
  have HVD := Lib.hid hvd
  have HBG := Lib.hid (HEc.out.trans (hbg.mono HEc.out.size))
  clear hvd hbg y0 y1 y2 j0 j1 j2
  go_wp2_with fail
  refine (SG.out vd wg HVD.out).mono ?_
  rintro e wh ⟨rfl, hbh⟩
  have HBH := Lib.hid (HBG.out.trans (hbh.mono HBG.out.size))
  have HR := Lib.hid (C2.out.2.2 H0.out)
  clear hbh
  go_wp2_with fail
  go_ret
  exact ⟨by rw [HR.out]; rfl, HB0.out.trans (HBH.out.mono HB0.out.size)⟩
  -- ]

end Go.Proofs.YtkfhbnfoiicioaaGreatDoor

/- round.Div where its rest is told by exact numbers: the walk -/
namespace Go.Proofs.YtkfhbnfoiicioaaGreatDoor
open Ieee Go.RowKit Go.Sort

/-- how a stands to q * b, exactly -/
def exS (a b q : Nat) : Int := cmpI (fk a * (2 ^ 1074 : Nat)) (fk q * fk b)
theorem ex_eq {a b q : Nat} {t1 t2 t3 e1 e2 e3 : Int} (h1 : fk a = t1 * 2 ^ (e1 + 1074).toNat) (h2 : fk q = t2 * 2 ^ (e2 + 1074).toNat) (h3 : fk b = t3 * 2 ^ (e3 + 1074).toNat) (l1 : -1074 ≤ e1) (l2 : -1074 ≤ e2) (l3 : -1074 ≤ e3) :
    cmpE t1 e1 (t2 * t3) (e2 + e3) = exS a b q := by
  unfold exS
  rw [h1, h2, h3]
  obtain ⟨K, hK⟩ : ∃ K : Nat, K = 1074 := ⟨_, rfl⟩
  have hKi : (1074 : Int) = (K : Int) := by omega
  rw [← hK, hKi]
  rw [hKi] at l1 l2 l3
  clear hK hKi h1 h2 h3
  rw [cmpE_at _ _ _ _ (-(K + K : Nat) : Int) (by omega) (by omega)]
  have a1 : t1 * 2 ^ (e1 + K).toNat * (2 ^ K : Nat) = t1 * 2 ^ (e1 - -((K + K : Nat) : Int)).toNat := by
    push_cast
    rw [Int.mul_assoc, ← Int.pow_add]
    congr 2
    omega
  have a2 : t2 * 2 ^ (e2 + K).toNat * (t3 * 2 ^ (e3 + K).toNat) = t2 * t3 * 2 ^ (e2 + e3 - -((K + K : Nat) : Int)).toNat := by
    have e : t2 * 2 ^ (e2 + K).toNat * (t3 * 2 ^ (e3 + K).toNat) = t2 * t3 * (2 ^ (e2 + K).toNat * 2 ^ (e3 + K).toNat) := by
      rw [Int.mul_assoc, Int.mul_assoc]
      congr 1
      rw [Int.mul_left_comm]
    rw [e, ← Int.pow_add]
    congr 2
    omega
  rw [a1, a2]
theorem exS_range (a b q : Nat) : exS a b q = 1 ∨ exS a b q = -1 ∨ exS a b q = 0 := by
  unfold exS cmpI
  split
  · exact .inr (.inl rfl)
  · split
    · exact .inl rfl
    · exact .inr (.inr rfl)
theorem lds_top {d : DV} {w : World} {v : Value} (h : DAt w v d) (hl : d.mag.length ≤ 1) : blen d.top.natAbs ≤ 64 := by
  obtain ⟨_, _, _, _, _, hls⟩ := h
  have e : d.top.natAbs = ln d.mag := by unfold DV.top; split <;> omega
  rw [e]
  refine blen_le_of_lt (Nat.lt_of_lt_of_le (ln_lt hls) ?_)
  rw [W64_pow]
  exact Nat.pow_le_pow_right (by decide) (by omega)
theorem blen_mul {a b m n : Nat} (ha : blen a ≤ m) (hb : blen b ≤ n) : blen (a * b) ≤ m + n := by
  refine blen_le_of_lt ?_
  rw [Nat.pow_add]
  have h1 : a < 2 ^ m := Nat.lt_of_lt_of_le blen_lt (Nat.pow_le_pow_right (by decide) ha)
  have h2 : b < 2 ^ n := Nat.lt_of_lt_of_le blen_lt (Nat.pow_le_pow_right (by decide) hb)
  exact Nat.mul_lt_mul'' h1 h2

set_option maxRecDepth 100000 in
set_option maxHeartbeats 8000000 in
theorem div_exact (a b q : Nat) (m : Int) (w : World) (ha : a < 18446744073709551616) (hb : b < 18446744073709551616) (hq : q < 18446744073709551616) (hr : floatBits .quo .f64 a b = some q) (hm : m = 1 ∨ m = 2)
    (fa : finB a = true) (fb : finB b = true) (fq : finB q = true) (za : feq a 0 = false) (zb : feq b 0 = false) (hpl : (plB a && (plB b && plB q)) = false) (hL : Laid w) :
    Calls Tryz.prog 36 #[.float .f64 a, .float .f64 b, .int .i8 m] w fun e w' => e = .returned (.float .f64 (setF q (exS a b q * sgF b) m)) ∧ Below w.heap.size w w' := by
  have I1 := Lib.hid (fun w => way_any m w (by omega) (by omega))
  have I2 := Lib.hid (fun A n c S w hx hn => finite_any A n c [a, b] S w hx (two_lt ha hb) hn)
  have hl2 : [a, b].all finB = true := by simp [fa, fb]
  rw [hl2] at I2
  have I3 := Lib.hid (fun A n c S w hx hn => plain_any A n c [a, b, q] S w hx (three_lt ha hb hq) hn)
  have hl3 : [a, b, q].all plB = false := by simpa using hpl
  rw [hl3] at I3
  have I6 := Lib.hid (fun w => isinf_any q w hq)
  have hn : fnan q = false := (fk_fin fq).1
  have hi : infB q = false := by rw [fin_inf hn, fq]; rfl
  rw [hi] at I6
  have I7 := Lib.hid (fun off w => settle_any q off m w hq hn hm)
  have I10 := Lib.hid sign_any
  have O1 := Lib.hid (fun w hL => of_any a w ha (of_decide_eq_true fa) hL)
  have O2 := Lib.hid (fun w hL => of_any q w hq (of_decide_eq_true fq) hL)
  have O3 := Lib.hid (fun w hL => of_any b w hb (of_decide_eq_true fb) hL)
  have hrun := fun w => run_float_arith (P := Tryz.prog) (w := w) BinOp.quo 22 FloatKind.f64 a b q hr
  have hka : fk a ≠ 0 := by
    intro h
    have h1 : feq a 0 = true := (feq_iff a 0).2 ⟨(fk_fin fa).1, fk_zero.1, by rw [h, fk_zero.2]⟩
    rw [za] at h1
    cases h1
  have HKA := Lib.hid hka
  obtain ⟨w0, hw0⟩ : ∃ w0, w0 = w.alloc (.cells #[.float .f64 a, .float .f64 b] 22) := ⟨_, rfl⟩
  have hb0 : Below w.heap.size w w0 := by rw [hw0]; exact below1 ..
  have hx0 := rd_two w a b 22
  rw [← hw0] at hx0
  obtain ⟨w1, hw1⟩ : ∃ w1, w1 = w0.alloc (.cells #[.float .f64 a, .float .f64 b, .float .f64 q] 22) := ⟨_, rfl⟩
  have hb1 : Below w.heap.size w w1 := hb0.trans (by rw [hw1]; exact (below1 ..).mono hb0.size)
  have hx1 := rd_three w0 a b q 22
  rw [← hw1] at hx1
  have HX := Lib.hid hx0
  have HX1 := Lib.hid hx1
  have HB0 := Lib.hid hb0
  have HB1 := Lib.hid hb1
  have HW0 := Lib.hid hw0
  have HW1 := Lib.hid hw1
  have HL := Lib.hid hL
  have ER := Lib.hid (exS_range a b q)
  unfold feq at za zb
  clear hr hn hm hl2 hl3 hw0 hb0 hx0 hw1 hb1 hx1 hpl hi hL fa fb fq hka
  go_enter Tryz.func36, Tryz.ntmps36
  go_wp2_with fail
  refine (I1.out _).mono ?_
  rintro e w2 ⟨rfl, rfl⟩
  go_wp2_with fail
  rw [← HW0.out]
  refine (I2.out _ 2 2 _ w0 HX.out (by omega)).mono ?_
  rintro e w2 ⟨rfl, rfl⟩
  go_wp2_with fail
  rw [← HW1.out]
  refine (I3.out _ 3 3 _ w1 HX1.out (by omega)).mono ?_
  rintro e w2 ⟨rfl, rfl⟩
  go_wp2_with fail
  refine (I6.out _).mono ?_
  rintro e w2 ⟨rfl, rfl⟩
  go_wp2_with fail
  refine (O1.out w1 (HL.out.below HB1.out)).mono ?_
  rintro e wa ⟨va, da, rfl, hfa, hda, hba⟩
  have FA := Lib.hid hfa
  have DA := Lib.hid hda
  have HBA := Lib.hid (HB1.out.trans (hba.mono HB1.out.size))
  clear hfa hda hba
  go_wp2_with fail
  refine (O2.out wa (HL.out.below HBA.out)).mono ?_
  rintro e wb ⟨vq, dq, rfl, hfq, hdq, hbb⟩
  have FQ := Lib.hid hfq
  have DQ := Lib.hid hdq
  have DA2 := Lib.hid (DA.out.below hbb)
  have HBB := Lib.hid (HBA.out.trans (hbb.mono HBA.out.size))
  clear hfq hdq hbb DA
  go_wp2_with fail
  refine (O3.out wb (HL.out.below HBB.out)).mono ?_
  rintro e wc ⟨vb, db, rfl, hfb, hdb, hbc⟩
  have FB := Lib.hid hfb
  have DB := Lib.hid hdb
  have DA3 := Lib.hid (DA2.out.below hbc)
  have DQ2 := Lib.hid (DQ.out.below hbc)
  have HBC := Lib.hid (HBB.out.trans (hbc.mono HBB.out.size))
  clear hfb hdb hbc DA2 DQ
  go_wp2_with fail
  refine (times_round vq vb dq db wc DQ2.out DB.out FQ.out.rz FB.out.rz (Nat.le_trans FQ.out.len (by decide)) (Nat.le_trans FB.out.len (by decide)) ⟨by have := FQ.out.lo; omega, by have := FQ.out.hi; omega⟩ ⟨by have := FB.out.lo; omega, by have := FB.out.hi; omega⟩).mono ?_
  rintro e wd ⟨vt, dt, rfl, hnd, hdt, hbd⟩
  have hrz := norm_rz hnd (by rw [Int.natAbs_mul]; exact Nat.le_trans (blen_mul (lds_top DQ2.out FQ.out.len) (lds_top DB.out FB.out.len)) (by decide)) (by have := FQ.out.lo; have := FB.out.lo; omega) (by have := FQ.out.hi; have := FB.out.hi; omega)
  have RZT := Lib.hid hrz
  have ND := Lib.hid hnd
  have DT := Lib.hid hdt
  have DA4 := Lib.hid (DA3.out.below hbd)
  have HBD := Lib.hid (HBC.out.trans (hbd.mono HBC.out.size))
  clear hrz hnd hdt hbd DA3 DQ2 DB
  have hra : RightD da := by
    rcases FA.out.rz with h | h
    · exact h
    · exfalso
      have h1 := FA.out.val
      rw [h, show DV.top zD = 0 from rfl, Int.zero_mul] at h1
      exact HKA.out h1
  have RA := Lib.hid hra
  clear hra
  go_wp2_with fail
  refine (cmp_round va vt da dt wd DA4.out DT.out RA.out RZT.out).mono ?_
  rintro e we ⟨rfl, hbe⟩
  have HBE := Lib.hid (HBD.out.trans (hbe.mono HBD.out.size))
  have hex : cmpE da.top da.exp dt.top dt.exp = exS a b q := by
    rw [norm_cmp ND.out]
    exact ex_eq FA.out.val FQ.out.val FB.out.val FA.out.lo FQ.out.lo FB.out.lo
  rw [hex]
  clear hbe hex
  obtain ⟨X, hX⟩ : ∃ X, X = exS a b q := ⟨_, rfl⟩
  rw [← hX] at ER ⊢
  have hwr : wrap64 (X * sgF b) = X * sgF b := by
    have h1 := ER.out
    have h2 := sgF_range b
    rcases h1 with h1 | h1 | h1 <;> rcases h2 with h2 | h2 | h2 <;> rw [h1, h2] <;> decide +kernel
  have HXE := Lib.hid hX
  clear hX
  go_wp2_with fail
  refine (I10.out _ _).mono ?_
  rintro e w2 ⟨rfl, rfl⟩
  go_wp2_with fail
  refine (I7.out _ _).mono ?_
  rintro e w2 ⟨rfl, rfl⟩
  go_wp2_with fail
  go_ret
  exact ⟨by rw [← HXE.out]; rfl, HBE.out⟩

end Go.Proofs.YtkfhbnfoiicioaaGreatDoor

/- span.right, Neg, Abs: the walks -/
namespace Go.Proofs.YtkfhbnfoiicioaaGreatDoor
open Go.RowKit Go.Sort

theorem blk_cs {w : World} {g : Nat} {cs : Array Value} {t : TypeId} (h : w.heap[g]? = some (.cells cs t (0, 0))) : (∀ i, w.cell? ⟨g, i, none⟩ = cs[i]?) ∧ (∀ i, w.frozen? ⟨g, i, none⟩ = false) :=
  ⟨fun i => by simp [World.cell?, h], fun i => by simp [World.frozen?, h]⟩
/-- one block alone is written -/
structure Wr1 (w w' : World) (b : Nat) : Prop where
  os : w'.os = w.os
  tape : w'.tape = w.tape
  output : w'.output = w.output
  size : w.heap.size ≤ w'.heap.size
  blk : ∀ k, k < w.heap.size → k ≠ b → w'.heap[k]? = w.heap[k]?
theorem Wr1.set (w : World) (b o : Nat) (v : Value) : Wr1 w (w.setCell ⟨b, o, none⟩ v) b := ⟨rfl, rfl, rfl, by simp, fun k _ hne => Below.heap_setCell _ _ _ _ hne⟩
theorem Wr1.trans {w a c : World} {b : Nat} (h : Wr1 w a b) (k : Wr1 a c b) : Wr1 w c b :=
  ⟨k.os.trans h.os, k.tape.trans h.tape, k.output.trans h.output, Nat.le_trans h.size k.size, fun i hi hne => (k.blk i (by have := h.size; omega) hne).trans (h.blk i hi hne)⟩
theorem Wr1.below {w w' : World} {b B : Nat} (h : Wr1 w w' b) (hB : B ≤ b) (hs : B ≤ w.heap.size) : Below B w w' := ⟨h.os, h.tape, h.output, h.size, fun k hk => h.blk k (by omega) (by omega)⟩
theorem Wr1.cell {w w' : World} {b : Nat} (h : Wr1 w w' b) {g o : Nat} {v : Value} (hg : g < w.heap.size) (hne : g ≠ b) (hc : w.cell? ⟨g, o, none⟩ = some v) : w'.cell? ⟨g, o, none⟩ = some v := by
  rw [← hc]
  unfold World.cell?
  simp only
  rw [h.blk g hg hne]
/-- a span in a box -/
def BxS (w : World) (g : Nat) (s : Spn) : Prop := w.cell? ⟨g, 0, none⟩ = some (.float .f64 s.lo) ∧ w.cell? ⟨g, 1, none⟩ = some (.float .f64 s.hi)
theorem BxS.below {w w' : World} {g : Nat} {s : Spn} (h : BxS w g s) (hb : Below w.heap.size w w') : BxS w' g s := ⟨bat hb h.1, bat hb h.2⟩
theorem BxS.of_blk {w : World} {g : Nat} {s : Spn} {t : TypeId} (h : w.heap[g]? = some (.cells #[.float .f64 s.lo, .float .f64 s.hi] t (0, 0))) : BxS w g s := ⟨(blk_cs h).1 0, (blk_cs h).1 1⟩
/-- may a box of two floats be written -/
def FzS (w : World) (g : Nat) : Prop := w.frozen? ⟨g, 0, none⟩ = false ∧ w.frozen? ⟨g, 1, none⟩ = false
theorem FzS.of_blk {w : World} {g : Nat} {a b : Value} {t : TypeId} (h : w.heap[g]? = some (.cells #[a, b] t (0, 0))) : FzS w g := ⟨(blk_cs h).2 0, (blk_cs h).2 1⟩
theorem spn_set {w : World} {g : Nat} {a b : Nat} (h0 : w.cell? ⟨g, 0, none⟩ = some (.float .f64 a)) (h1 : w.cell? ⟨g, 1, none⟩ = some (.float .f64 b)) (lo hi : Nat) :
    ∀ w', w' = (w.setCell ⟨g, 0, none⟩ (.float .f64 lo)).setCell ⟨g, 1, none⟩ (.float .f64 hi) → Wr1 w w' g ∧ BxS w' g ⟨lo, hi⟩ := by
  intro w' hw'
  subst hw'
  exact ⟨(Wr1.set ..).trans (Wr1.set ..), by simp [go_sem, h0], by simp [go_sem, h1]⟩

def Spn.cells (x : Spn) : List Value := [.float .f64 x.lo, .float .f64 x.hi]
theorem Spn.clen (x : Spn) : x.cells.length = 2 := rfl
def Spn.ok (x : Spn) : Bool := spB x.lo x.hi
theorem take_allS {p : Spn → Bool} {xs : List Spn} {k : Nat} {x : Spn} (h : (xs.take k).all p = true) (hx : xs[k]? = some x) (hp : p x = true) : (xs.take (k + 1)).all p = true := by
  obtain ⟨hl, e⟩ := List.getElem?_eq_some_iff.1 hx
  rw [List.take_succ_eq_append_getElem hl, List.all_append, h, e]
  simp [hp]
theorem all_notS {p : Spn → Bool} {xs : List Spn} {k : Nat} {x : Spn} (hx : xs[k]? = some x) (hp : p x = false) : xs.all p = false := by
  rw [List.all_eq_false]
  exact ⟨x, List.mem_of_getElem? hx, by rw [hp]; decide⟩
set_option maxRecDepth 100000 in
set_option maxHeartbeats 2000000 in
theorem rights_any (A : Option Addr) (n c : Nat) (xs : List Spn) (w : World) (hx : RdE Spn.cells 2 w (fun b => b < w.heap.size) A n xs) (hn : n ≤ 1000000) :
    Calls Tryz.prog 33 #[.slice A n c] w fun e w' => e = .returned (.bool (xs.all Spn.ok)) ∧ Below w.heap.size w w' := by
  obtain ⟨r, hr⟩ : ∃ r, r = xs.all Spn.ok := ⟨_, rfl⟩
  rw [← hr]
  have HR := Lib.hid hr
  have HX := Lib.hid hx
  have I1 := Lib.hid right_any
  clear hr hx
  go_enter Tryz.func33, Tryz.ntmps33
  go_wp2_with fail
  go_loopw [7] (fun iv wr => ∃ k : Nat, k ≤ n ∧ iv = .int .i64 k ∧ (xs.take k).all Spn.ok = true ∧ Below w.heap.size w wr) (fun iv _ => n - (intOf iv).toNat)
  case atStart => exact ⟨0, by omega, rfl, by simp, Below.refl _ _⟩
  case round =>
    obtain ⟨k, hk, rfl, hall, hbw⟩ := hrel
    have HA := Lib.hid hall
    have HBW := Lib.hid hbw
    clear hall
    by_cases hlt : k < n
    · obtain ⟨x, ex⟩ := get_some HX.out.num hlt
      obtain ⟨b, o, rfl, hSb, hc⟩ := HX.out.elem Spn.clen ex (by omega)
      have q0 : wr.cell? ⟨b, o + k * 2, none⟩ = some (.float .f64 x.lo) := by have h := hc 0 _ rfl; exact bat hbw (by simpa using h)
      have q1 : wr.cell? ⟨b, o + k * 2 + 1, none⟩ = some (.float .f64 x.hi) := by have h := hc 1 _ rfl; exact bat hbw h
      have HEX := Lib.hid ex
      obtain ⟨w1, hw1⟩ : ∃ w1, w1 = wr.alloc (.cells #[.float .f64 x.lo, .float .f64 x.hi] 24) := ⟨_, rfl⟩
      have hb1 : Below wr.heap.size wr w1 := by rw [hw1]; exact below1 ..
      have HW1 := Lib.hid hw1
      have HB1 := Lib.hid (HBW.out.trans (hb1.mono HBW.out.size))
      have I2 := Lib.hid (I1.out x w1)
      clear hc ex hbw hw1 hb1
      obtain ⟨p, hp⟩ : ∃ p, p = spB x.lo x.hi := ⟨_, rfl⟩
      rw [← hp] at I2
      have HP := Lib.hid hp
      clear hp
      cases p
      · go_wp2_with fail
        rw [← HW1.out]
        refine I2.out.mono ?_
        rintro e w2 ⟨rfl, hb2⟩
        have HB2 := Lib.hid (HB1.out.trans (hb2.mono HB1.out.size))
        clear hb2
        go_wp2_with fail
        go_ret
        exact ⟨by rw [HR.out, all_notS HEX.out HP.out.symm]; rfl, HB2.out⟩
      · go_wp2_with fail
        rw [← HW1.out]
        refine I2.out.mono ?_
        rintro e w2 ⟨rfl, hb2⟩
        have HB2 := Lib.hid (HB1.out.trans (hb2.mono HB1.out.size))
        clear hb2
        go_wp2_with fail
        go_roundw
        case rel => exact ⟨k + 1, by omega, by go_num, take_allS HA.out HEX.out HP.out.symm, HB2.out⟩
        case measure => simp [intOf]; omega
    · obtain rfl : k = n := by omega
      clear hbw
      go_wp2_with fail
      go_ret
      refine ⟨?_, HBW.out⟩
      have h := HA.out
      rw [List.take_of_length_le (by rw [HX.out.num]; exact Nat.le_refl _)] at h
      rw [HR.out, h]
      rfl
set_option maxRecDepth 100000 in
set_option maxHeartbeats 2000000 in
theorem neg_any (x : Spn) (w : World) (h1 : x.lo < 18446744073709551616) (h2 : x.hi < 18446744073709551616) (hok : x.ok = true) :
    Calls Tryz.prog 30 #[x.val] w fun e w' => e = .returned (.tuple #[.agg #[.float .f64 (negF x.hi), .float .f64 (negF x.lo)], .int .i64 0]) ∧ Below w.heap.size w w' := by
  have I1 := Lib.hid (fun w => right_any x w)
  have hok2 : spB x.lo x.hi = true := hok
  rw [hok2] at I1
  have n1 := fun w => run_neg h1 w
  have n2 := fun w => run_neg h2 w
  obtain ⟨lo, hi⟩ := x
  simp only at n1 n2 I1 h1 h2 ⊢
  obtain ⟨w0, hw0⟩ : ∃ w0, w0 = (w.alloc (.cells #[.float .f64 lo, .float .f64 hi] 24)).alloc (.cells #[.float .f64 0, .float .f64 0] 24) := ⟨_, rfl⟩
  have hb0 : Below w.heap.size w w0 := by rw [hw0]; exact below2 ..
  have g1 : w0.heap[w.heap.size]? = some (.cells #[.float .f64 lo, .float .f64 hi] 24 (0, 0)) := by
    rw [hw0]; exact ((below1 (w.alloc _) _).block w.heap.size (by simp)).trans (blk_new w _ _)
  have g2 : w0.heap[w.heap.size + 1]? = some (.cells #[.float .f64 0, .float .f64 0] 24 (0, 0)) := by
    rw [hw0]
    have h := blk_new (w.alloc (.cells #[.float .f64 lo, .float .f64 hi] 24)) #[.float .f64 0, .float .f64 0] 24
    rwa [World.size_alloc] at h
  have z0 : w0.heap.size = w.heap.size + 2 := by rw [hw0]; simp
  have G1 := Lib.hid g1
  have G2 := Lib.hid g2
  have HB0 := Lib.hid hb0
  have HW0 := Lib.hid hw0
  clear hok hok2 hw0 hb0 g1 g2
  go_enter Tryz.func30, Tryz.ntmps30
  go_wp2_with fail
  rw [← HW0.out]
  refine (I1.out w0).mono ?_
  rintro e w1 ⟨rfl, hb1⟩
  have zz1 := hb1.size
  have HB1 := Lib.hid (HB0.out.trans (hb1.mono HB0.out.size))
  have hk1 := (blk_cs ((hb1.block w.heap.size (by omega)).trans G1.out)).1
  have k10 := hk1 0
  have k11 := hk1 1
  obtain ⟨hk2, hf2⟩ := blk_cs ((hb1.block (w.heap.size + 1) (by omega)).trans G2.out)
  have k20 := hk2 0
  have k21 := hk2 1
  have f20 := hf2 0
  have f21 := hf2 1
  simp only [List.getElem?_toArray, List.getElem?_cons_zero, List.getElem?_cons_succ] at k10 k11 k20 k21
  obtain ⟨w8, hw8⟩ : ∃ w8, w8 = (w1.setCell ⟨w.heap.size + 1, 0, none⟩ (.float .f64 (negF hi))).setCell ⟨w.heap.size + 1, 1, none⟩ (.float .f64 (negF lo)) := ⟨_, rfl⟩
  obtain ⟨hu8, hq⟩ := spn_set k20 k21 _ _ _ hw8
  have HQ := Lib.hid hq
  have HW8 := Lib.hid hw8
  have HB8 := Lib.hid (HB1.out.trans (hu8.below (by omega) (by omega)))
  clear hk1 hk2 hf2 hb1 hw8 hu8 hq
  go_wp2_with fail
  rw [← HW8.out]
  obtain ⟨q0, q1⟩ := HQ.out
  (try simp only [Exit.inBlock, Exit.then])
  refine bodyPost_ret (v := .tuple #[.agg #[.float .f64 (negF hi), .float .f64 (negF lo)], .int .i64 0]) (by simp [results, Tryz.results30, go_sem, q0, q1]; done) rfl ?_
  exact ⟨rfl, HB8.out⟩

end Go.Proofs.YtkfhbnfoiicioaaGreatDoor
