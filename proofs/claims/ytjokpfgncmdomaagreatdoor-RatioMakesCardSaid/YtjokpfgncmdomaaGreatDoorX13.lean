import Derived.Test.YtjokpfgncmdomaaGreatDoorX12
import Derived.Lib.BitFns
import Derived.Lib.TrailingZeros
import Derived.Laws.Bits64b
import Derived.Laws.BitsAllLaws
set_option linter.unusedSimpArgs false
set_option linter.unusedVariables false
/- ratio.Norm, both: the walks -/
namespace Go.Proofs.YtjokpfgncmdomaaGreatDoor
open Go.RowKit Go.Sort

theorem right_len {r : RV} (h : rightB r = true) : r.num.length ≤ 256 ∧ r.den.length ≤ 256 := by
  unfold rightB at h
  split at h
  · rename_i h0
    simp at h
    rw [h0, h.2]
    decide
  · simp at h
    exact ⟨topB_len h.1.1 rfl, topB_len h.1.2 rfl⟩
theorem right_den {r : RV} (h : rightB r = true) (hl : Lds r.den) : ln r.den ≠ 0 := by
  unfold rightB at h
  split at h
  · simp at h
    rw [h.2]
    decide
  · simp at h
    exact topB_ne h.1.2 hl

theorem RAt.ldsN {w : World} {v : Value} {r : RV} (h : RAt w v r) : Lds r.num := by obtain ⟨_, _, _, _, _, _, _, _, _, h, _⟩ := h; exact h
theorem RAt.ldsD {w : World} {v : Value} {r : RV} (h : RAt w v r) : Lds r.den := by obtain ⟨_, _, _, _, _, _, _, _, _, _, h⟩ := h; exact h
def BothPost (a b : RV) (w : World) (e : Ending) (w' : World) : Prop := (if rightB a = true ∧ rightB b = true then ∃ g1 g2, e = .returned (.tuple #[.pointer (some ⟨g1, 0, none⟩), .pointer (some ⟨g2, 0, none⟩), .bool true]) ∧ w.heap.size ≤ g1 ∧ w.heap.size ≤ g2 ∧ RatAt w' g1 a.q ∧ RatAt w' g2 b.q else e = .returned (.tuple #[.pointer none, .pointer none, .bool false])) ∧ Below w.heap.size w w'
theorem pair_cells (w : World) (s s2 : Bool) (A A' A2 A2' : Option Addr) (n n' n2 n2' c c' c2 c2' : Nat) :
    let w0 := ((w.alloc (.cells #[.bool s, .slice A n c, .slice A' n' c'] 24)).alloc (.cells #[.bool s2, .slice A2 n2 c2, .slice A2' n2' c2'] 24))
    w0.cell? ⟨w.heap.size, 0, none⟩ = some (.bool s) ∧ w0.cell? ⟨w.heap.size, 1, none⟩ = some (.slice A n c) ∧ w0.cell? ⟨w.heap.size, 2, none⟩ = some (.slice A' n' c') ∧ w0.cell? ⟨w.heap.size + 1, 0, none⟩ = some (.bool s2) ∧ w0.cell? ⟨w.heap.size + 1, 1, none⟩ = some (.slice A2 n2 c2) ∧ w0.cell? ⟨w.heap.size + 1, 2, none⟩ = some (.slice A2' n2' c2') := by
  intro w0
  have h : ∀ i v, (#[Value.bool s2, .slice A2 n2 c2, .slice A2' n2' c2'] : Array Value)[i]? = some v → w0.cell? ⟨w.heap.size + 1, i, none⟩ = some v := fun i v hv => by
    have := new_cell (w.alloc (.cells #[.bool s, .slice A n c, .slice A' n' c'] 24)) #[Value.bool s2, .slice A2 n2 c2, .slice A2' n2' c2'] 24 i v hv
    rwa [World.size_alloc] at this
  exact ⟨bat (below1 ..) (new_cell w _ _ 0 _ rfl), bat (below1 ..) (new_cell w _ _ 1 _ rfl), bat (below1 ..) (new_cell w _ _ 2 _ rfl), h 0 _ rfl, h 1 _ rfl, h 2 _ rfl⟩

set_option maxRecDepth 100000 in
set_option maxHeartbeats 4000000 in
theorem both_ratio (va vb : Value) (a b : RV) (w : World) (ha : RAt w va a) (hb : RAt w vb b) (l1 : a.num.length ≤ 1000000000000000) (l2 : a.den.length ≤ 1000000000000000) (l3 : b.num.length ≤ 1000000000000000) (l4 : b.den.length ≤ 1000000000000000) :
    Calls Tryz.prog 64 #[va, vb] w (BothPost a b w) := by
  have HA := Lib.hid ha
  have HB := Lib.hid hb
  have hA1 : ∃ s A n c A' n' c', va = .agg #[.bool s, .slice A n c, .slice A' n' c'] := by obtain ⟨A, n, c, A', n', c', h, _⟩ := ha; exact ⟨_, _, _, _, _, _, _, h⟩
  have hB1 : ∃ s A n c A' n' c', vb = .agg #[.bool s, .slice A n c, .slice A' n' c'] := by obtain ⟨A, n, c, A', n', c', h, _⟩ := hb; exact ⟨_, _, _, _, _, _, _, h⟩
  obtain ⟨s, A, n, c, A', n', c', rfl⟩ := hA1
  obtain ⟨s2, A2, n2, c2, A2', n2', c2', rfl⟩ := hB1
  clear ha hb
  have hp := pair_cells w s s2 A A' A2 A2' n n' n2 n2' c c' c2 c2'
  obtain ⟨ka0, ka1, ka2, kb0, kb1, kb2⟩ := hp
  have KA := Lib.hid (And.intro ka0 (And.intro ka1 (And.intro ka2 (And.intro kb0 (And.intro kb1 kb2)))))
  go_enter Tryz.func64, Tryz.ntmps64
  go_wp2_with fail
  refine (right_ratio _ a _ (HA.out.below (below2 ..)) l1 l2).mono ?_
  rintro e w1 ⟨rfl, hb1⟩
  have hbw : Below w.heap.size w w1 := (below2 ..).trans (hb1.mono (by simp; omega))
  have HB1 := Lib.hid hbw
  have q0 := bat hb1 kb0
  have q1 := bat hb1 kb1
  have q2 := bat hb1 kb2
  have HBX := Lib.hid hb1
  clear hb1 hbw ka0 ka1 ka2 kb0 kb1 kb2
  cases hra : rightB a
  · have HRA := Lib.hid hra
    clear hra
    go_wp2_with fail
    go_ret3
    refine ⟨?_, HB1.out⟩
    rw [if_neg (fun h => absurd (HRA.out.symm.trans h.1) (by decide))]
    rfl
  · have HRA := Lib.hid hra
    clear hra
    go_wp2_with fail
    refine (right_ratio _ b _ (HB.out.below HB1.out) l3 l4).mono ?_
    rintro e w2 ⟨rfl, hb2⟩
    have HB2 := Lib.hid (HB1.out.trans (hb2.mono HB1.out.size))
    have HBY := Lib.hid (HBX.out.trans (hb2.mono HBX.out.size))
    clear hb2 q0 q1 q2
    cases hrb : rightB b
    · have HRB := Lib.hid hrb
      clear hrb
      go_wp2_with fail
      go_ret3
      refine ⟨?_, HB2.out⟩
      rw [if_neg (fun h => absurd (HRB.out.symm.trans h.2) (by decide))]
      rfl
    · have HRB := Lib.hid hrb
      clear hrb
      have LA := Lib.hid (right_len HRA.out)
      have LB := Lib.hid (right_len HRB.out)
      have DA := Lib.hid (right_den HRA.out HA.out.ldsD)
      have DB := Lib.hid (right_den HRB.out HB.out.ldsD)
      obtain ⟨ka0, ka1, ka2, kb0, kb1, kb2⟩ := KA.out
      have p0 := bat HBY.out ka0
      have p1 := bat HBY.out ka1
      have p2 := bat HBY.out ka2
      have q0 := bat HBY.out kb0
      have q1 := bat HBY.out kb1
      have q2 := bat HBY.out kb2
      clear ka0 ka1 ka2 kb0 kb1 kb2
      go_wp2_with fail
      refine wp_region_held_drew (S := (fun w' => w'.cell? ⟨w.heap.size, 0, none⟩ = some (.bool s) ∧ w'.cell? ⟨w.heap.size, 1, none⟩ = some (.slice A n c) ∧ w'.cell? ⟨w.heap.size, 2, none⟩ = some (.slice A' n' c') ∧ w'.cell? ⟨w.heap.size + 1, 0, none⟩ = some (.bool s2) ∧ w'.cell? ⟨w.heap.size + 1, 1, none⟩ = some (.slice A2 n2 c2) ∧ w'.cell? ⟨w.heap.size + 1, 2, none⟩ = some (.slice A2' n2' c2'))) (by kernel_rfl) ?_ (fun hHeld => ?_)
      · first | exact True.intro | ((try dsimp only); go_keep)
      refine tkH (i := 0) (v := ?_) rfl (by kernel_rfl) (Or.inl ⟨by kernel_rfl, ?_⟩) (by assumption) ?_
      rotate_left 1
      · (intro w hSw; (try dsimp only at hSw); go_simp; try with_reducible rfl)
      try simp only [lyA, lyB, lyC, Act.put, lyD, lyE, lyF]
      refine tkH (i := 2) (v := ?_) rfl (by kernel_rfl) (Or.inl ⟨by kernel_rfl, ?_⟩) (by assumption) ?_
      rotate_left 1
      · (intro w hSw; (try dsimp only at hSw); go_simp; try with_reducible rfl)
      try simp only [lyA, lyB, lyC, Act.put, lyD, lyE, lyF]
      refine wpAnyH_ready (rs := [1]) (by kernel_rfl) (by simp) ?_
      refine AllReadyH.cons rfl (fun K hK => ?_) AllReadyH.nil
      go_simp
      (refine (fraction_ratio _ a w2.drew (HA.out.below HB2.out.drew) DA.out (by have := LA.out; omega) (by have := LA.out; omega)).mono ?_; rintro e w3 ⟨g1, rfl, hg1, hr1, hb3⟩; have z3 : w2.heap.size ≤ w3.heap.size := hb3.size; obtain ⟨x0, x1, x2, x3, x4, x5⟩ := hHeld; have k0 := bat hb3 x0; have k1 := bat hb3 x1; have k2 := bat hb3 x2; have k3 := bat hb3 x3; have k4 := bat hb3 x4; have k5 := bat hb3 x5; have HR1 := Lib.hid hr1; have HB3 : Hid (Below w.heap.size w w3) := Lib.hid (HB2.out.drew.trans (hb3.mono HB2.out.size)); clear hr1 hb3 x0 x1 x2 x3 x4 x5)
      try go_wp2_with fail
      refine hK.out _ _ ?_ (fun hHeld => ?_)
      · first | exact True.intro | ((try dsimp only); go_keep)
      clear hK K
      try simp only [lyA, lyB, lyC, Act.put, lyD, lyE, lyF]
      refine wpAnyH_ready (rs := [3]) (by kernel_rfl) (by simp) ?_
      refine AllReadyH.cons rfl (fun K hK => ?_) AllReadyH.nil
      go_simp
      (refine (fraction_ratio _ b w3 (HB.out.below HB3.out) DB.out (by have := LB.out; omega) (by have := LB.out; omega)).mono ?_; rintro e w4 ⟨g2, rfl, hg2, hr2, hb4⟩; obtain ⟨x0, x1, x2, x3, x4, x5⟩ := hHeld; have k0 := bat hb4 x0; have k1 := bat hb4 x1; have k2 := bat hb4 x2; have k3 := bat hb4 x3; have k4 := bat hb4 x4; have k5 := bat hb4 x5; have HR2 := Lib.hid hr2; have HR1b := Lib.hid (HR1.out.below hb4); have HB4 : Hid (Below w.heap.size w w4) := Lib.hid (HB3.out.trans (hb4.mono HB3.out.size)); clear hr2 hb4 x0 x1 x2 x3 x4 x5)
      try go_wp2_with fail
      refine hK.out _ _ ?_ (fun hHeld => ?_)
      · first | exact True.intro | ((try dsimp only); go_keep)
      clear hK K
      try simp only [lyA, lyB, lyC, Act.put, lyD, lyE, lyF]
      refine tkH (i := 4) (v := ?_) rfl (by kernel_rfl) (Or.inl ⟨by kernel_rfl, ?_⟩) (by assumption) ?_
      rotate_left 1
      · (intro w hSw; (try dsimp only at hSw); go_simp; try with_reducible rfl)
      try simp only [lyA, lyB, lyC, Act.put, lyD, lyE, lyF]
      refine tkH (i := 5) (v := ?_) rfl (by kernel_rfl) (Or.inl ⟨by kernel_rfl, ?_⟩) (by assumption) ?_
      rotate_left 1
      · (intro w hSw; (try dsimp only at hSw); go_simp; try with_reducible rfl)
      try simp only [lyA, lyB, lyC, Act.put, lyD, lyE, lyF]
      refine tkH (i := 6) (v := ?_) rfl (by kernel_rfl) (Or.inl ⟨by kernel_rfl, ?_⟩) (by assumption) ?_
      rotate_left 1
      · (intro w hSw; (try dsimp only at hSw); go_simp; try with_reducible rfl)
      try simp only [lyA, lyB, lyC, Act.put, lyD, lyE, lyF]
      refine wpAnyH_done (by kernel_rfl) ?_ _
      go_wp2_with fail
      go_ret3
      refine ⟨?_, HB4.out⟩
      rw [if_pos ⟨HRA.out, HRB.out⟩]
      exact ⟨g1, g2, rfl, Nat.le_trans HB2.out.size hg1, Nat.le_trans HB3.out.size hg2, HR1b.out, HR2.out⟩

end Go.Proofs.YtjokpfgncmdomaaGreatDoor

/- ratio.Norm, Int: the walks -/
namespace Go.Proofs.YtjokpfgncmdomaaGreatDoor
open Go.RowKit Go.Sort

def NormPost (r : RV) (w : World) (e : Ending) (w' : World) : Prop :=
  if ln r.den = 0 then ∃ v, e = .returned (.tuple #[v, .int .i64 7]) ∧ RAt w' v noR ∧ Below w.heap.size w w' else Told w r.q e w'

theorem norm_sizes {r : RV} (hd : ln r.den ≠ 0) : r.q.num.natAbs ≤ ln r.num ∧ r.q.den ≤ ln r.den := by
  have h1 := rn_num (a := r.top) (b := (ln r.den : Int)) (by omega)
  have h2 := (rn_pos (a := r.top) (b := (ln r.den : Int)) (by omega)).2
  unfold RV.q
  rw [h1.1, h2, Int.natAbs_natCast, top_abs]
  exact ⟨Nat.div_le_self _ _, Nat.div_le_self _ _⟩

set_option maxRecDepth 100000 in
set_option maxHeartbeats 4000000 in
theorem norm_ratio (v : Value) (r : RV) (w : World) (hr : RAt w v r) (l1 : r.num.length ≤ 1000) (l2 : r.den.length ≤ 1000) :
    Calls Tryz.prog 26 #[v] w (NormPost r w) := by
  have HR := Lib.hid hr
  obtain ⟨A, n, c, A', n', c', rfl, h1, h2, h3, h4⟩ := hr
  have H2 := Lib.hid h2
  have hn := h2.num
  have hn' : n' ≤ 1000 := by omega
  clear h1 h2 h3 h4 hn
  go_enter Tryz.func26, Tryz.ntmps26
  go_wp2_with fail
  refine (nought_ratio A' n' c' r.den _ _ (H2.out.belowL (below2 ..)) (by omega)).mono ?_
  rintro e w' ⟨rfl, rfl⟩
  by_cases h0 : ln r.den = 0
  · have H0 := Lib.hid h0
    rw [decide_eq_true h0]
    clear h0
    go_wp2_with fail
    (try simp only [Exit.inBlock, Exit.then])
    refine bodyPost_ret (v := .tuple #[.agg #[.bool false, .slice none 0 0, .slice none 0 0], .int .i64 7]) (by simp [results, Tryz.results26, go_sem]; done) rfl ?_
    unfold NormPost
    rw [if_pos H0.out]
    exact ⟨_, rfl, noR_at _ _ _, below2 ..⟩
  · have H0 := Lib.hid h0
    rw [decide_eq_false h0]
    clear h0
    go_wp2_with fail
    refine (fraction_ratio _ r _ (HR.out.below (below2 ..)) H0.out l1 l2).mono ?_
    rintro e w1 ⟨g, rfl, hg, hr1, hb1⟩
    have HR1 := Lib.hid hr1
    have HB1 := Lib.hid hb1
    clear hr1 hb1
    go_wp2_with fail
    refine (told_ratio g r.q w1 HR1.out (Nat.le_trans (dig_len_mono (norm_sizes H0.out).1) (Nat.le_trans (dig_ln_len HR.out.ldsN) (by omega))) (Nat.le_trans (dig_len_mono (norm_sizes H0.out).2) (Nat.le_trans (dig_ln_len HR.out.ldsD) (by omega)))).mono ?_
    rintro e w2 ⟨v2, rfl, hv2, hb2⟩
    have HV2 := Lib.hid hv2
    obtain ⟨B, m, d, B', m', d', rfl, hh⟩ := hv2
    clear hh
    have hbx := HB1.out.trans (hb2.mono HB1.out.size)
    have hblk : w2.heap[w.heap.size + 1]? = some (.cells #[.bool false, .slice none 0 0, .slice none 0 0] 24 (0, 0)) := by
      rw [hbx.block (w.heap.size + 1) (by simp)]
      have h := blk_new (w.alloc (.cells #[.bool r.neg, .slice A n c, .slice A' n' c'] 24)) #[.bool false, .slice none 0 0, .slice none 0 0] 24
      rwa [World.size_alloc] at h
    obtain ⟨kc, kf⟩ := blk_cells hblk
    have kc0 := kc 0
    have kc1 := kc 1
    have kc2 := kc 2
    have kf0 := kf 0
    have kf1 := kf 1
    have kf2 := kf 2
    simp only [List.getElem?_toArray, List.getElem?_cons_zero, List.getElem?_cons_succ] at kc0 kc1 kc2
    have HBX := Lib.hid hbx
    have zx : w.heap.size + 2 ≤ w2.heap.size := by have := hbx.size; simp at this; omega
    obtain ⟨tn, htn⟩ : ∃ tn, tn = (toldR r.q).neg := ⟨_, rfl⟩
    obtain ⟨te, hte⟩ : ∃ te, te = toldE r.q := ⟨_, rfl⟩
    rw [← htn] at HV2 ⊢
    rw [← hte]
    have HTE := Lib.hid hte
    obtain ⟨w6, hw6⟩ : ∃ w6, w6 = ((w2.setCell ⟨w.heap.size + 1, 0, none⟩ (.bool tn)).setCell ⟨w.heap.size + 1, 1, none⟩ (.slice B m d)).setCell ⟨w.heap.size + 1, 2, none⟩ (.slice B' m' d') := ⟨_, rfl⟩
    obtain ⟨hu6, q0, q1, q2⟩ := rat_set kc0 kc1 kc2 _ _ _ _ _ _ _ _ hw6
    have HW6 := Lib.hid hw6
    have HU6 := Lib.hid hu6
    have Q0 := Lib.hid q0
    have Q1 := Lib.hid q1
    have Q2 := Lib.hid q2
    clear kc kf hblk hbx hb2 hw6 hu6 q0 q1 q2 htn hte
    go_wp2_with fail
    rw [← HW6.out]
    have q0 := Q0.out
    have q1 := Q1.out
    have q2 := Q2.out
    (try simp only [Exit.inBlock, Exit.then])
    refine bodyPost_ret (v := .tuple #[.agg #[.bool tn, .slice B m d, .slice B' m' d'], .int .i64 te]) (by simp [results, Tryz.results26, go_sem, q0, q1, q2]; done) rfl ?_
    unfold NormPost
    rw [if_neg H0.out]
    exact ⟨_, by rw [HTE.out], HV2.out.upb HU6.out, (below2 ..).trans ((HBX.out.mono (by simp; omega)).trans (HU6.out.below (by omega) (by omega)))⟩

end Go.Proofs.YtjokpfgncmdomaaGreatDoor

/- the numbers of Add, Sub, Mul, Div: plain -/
namespace Go.Proofs.YtjokpfgncmdomaaGreatDoor
open Go.RowKit Go.Sort

theorem dsz {N D : Int} (hD : D ≠ 0) : (Rat.divInt N D).num.natAbs ≤ N.natAbs ∧ (Rat.divInt N D).den ≤ D.natAbs := by
  by_cases h : 0 < D
  · have h1 := rn_num (a := N) (b := D) h
    have h2 := (rn_pos (a := N) (b := D) h).2
    rw [h1.1, h2]
    exact ⟨Nat.div_le_self _ _, Nat.div_le_self _ _⟩
  · have h1 := rn_num (a := -N) (b := -D) (by omega)
    have h2 := (rn_pos (a := -N) (b := -D) (by omega)).2
    rw [rn_neg] at h1 h2
    rw [h1.1, h2, Int.natAbs_neg, Int.natAbs_neg]
    exact ⟨Nat.div_le_self _ _, Nat.div_le_self _ _⟩
theorem den_ne (x : Rat) : (x.den : Int) ≠ 0 := by have := x.den_nz; omega
theorem q_add (x y : Rat) : Rat.divInt (x.num * (y.den : Int) + y.num * (x.den : Int)) ((x.den : Int) * y.den) = x + y := by
  have h := Rat.divInt_add_divInt x.num y.num (den_ne x) (den_ne y)
  rw [Rat.num_divInt_den, Rat.num_divInt_den] at h
  exact h.symm
/-- the parts of a number have at most k words -/
def Sz (k : Nat) (q : Rat) : Prop := (dig q.num.natAbs).length ≤ k ∧ (dig q.den).length ≤ k
theorem sz_add {x y : Rat} {k : Nat} (hx : Sz k x) (hy : Sz k y) : Sz (4 * k + 1) (x + y) := by
  have hD : (x.den : Int) * y.den ≠ 0 := Int.mul_ne_zero (den_ne x) (den_ne y)
  rw [← q_add]
  obtain ⟨h1, h2⟩ := dsz (N := x.num * (y.den : Int) + y.num * (x.den : Int)) hD
  refine ⟨Nat.le_trans (dig_len_mono h1) ?_, Nat.le_trans (dig_len_mono h2) ?_⟩
  · have e1 := add_len (x.num * (y.den : Int)) (y.num * (x.den : Int))
    have e2 := mul_len x.num.natAbs y.den
    have e3 := mul_len y.num.natAbs x.den
    rw [Int.natAbs_mul, Int.natAbs_mul, Int.natAbs_natCast, Int.natAbs_natCast] at e1
    have := hx.1; have := hx.2; have := hy.1; have := hy.2
    omega
  · rw [Int.natAbs_mul, Int.natAbs_natCast, Int.natAbs_natCast]
    have e2 := mul_len x.den y.den
    have := hx.2; have := hy.2
    omega
theorem sz_right {r : RV} (h : rightB r = true) (hn : Lds r.num) (hd : Lds r.den) : Sz 512 r.q := by
  have h0 := right_den h hd
  have hl := right_len h
  exact ⟨Nat.le_trans (dig_len_mono (norm_sizes h0).1) (Nat.le_trans (dig_ln_len hn) (by omega)), Nat.le_trans (dig_len_mono (norm_sizes h0).2) (Nat.le_trans (dig_ln_len hd) (by omega))⟩

end Go.Proofs.YtjokpfgncmdomaaGreatDoor

/- ratio.Add, Sub, Mul, Div: the walks (printed by gen_t11.py) -/
namespace Go.Proofs.YtjokpfgncmdomaaGreatDoor
open Go.RowKit Go.Sort

/-- an answer of none, with its errno -/
def Fail (k : Int) (w : World) (e : Ending) (w' : World) : Prop := ∃ v, e = .returned (.tuple #[v, .int .i64 k]) ∧ RAt w' v noR ∧ Below w.heap.size w w'
def BinPost (a b : RV) (q : Rat) (w : World) (e : Ending) (w' : World) : Prop := if rightB a = true ∧ rightB b = true then Told w q e w' else Fail 2 w e w'
theorem blk3 (w : World) (o1 o2 : Obj) (cs : Array Value) (t : TypeId) : (((w.alloc o1).alloc o2).alloc (.cells cs t)).heap[w.heap.size + 2]? = some (.cells cs t (0, 0)) := by
  have h := blk_new ((w.alloc o1).alloc o2) cs t
  rwa [World.size_alloc, World.size_alloc] at h

set_option maxRecDepth 100000 in
set_option maxHeartbeats 4000000 in
theorem add_ratio (va vb : Value) (a b : RV) (w : World) (ha : RAt w va a) (hb : RAt w vb b) (l1 : a.num.length ≤ 1000000000000000) (l2 : a.den.length ≤ 1000000000000000) (l3 : b.num.length ≤ 1000000000000000) (l4 : b.den.length ≤ 1000000000000000) :
    Calls Tryz.prog 21 #[va, vb] w (BinPost a b (a.q + b.q) w) := by
  have HA := Lib.hid ha
  have HB := Lib.hid hb
  have hA1 : ∃ s A n c A' n' c', va = .agg #[.bool s, .slice A n c, .slice A' n' c'] := by obtain ⟨A, n, c, A', n', c', h, _⟩ := ha; exact ⟨_, _, _, _, _, _, _, h⟩
  have hB1 : ∃ s A n c A' n' c', vb = .agg #[.bool s, .slice A n c, .slice A' n' c'] := by obtain ⟨A, n, c, A', n', c', h, _⟩ := hb; exact ⟨_, _, _, _, _, _, _, h⟩
  obtain ⟨s, A, n, c, A', n', c', rfl⟩ := hA1
  obtain ⟨s2, A2, n2, c2, A2', n2', c2', rfl⟩ := hB1
  clear ha hb
  go_enter Tryz.func21, Tryz.ntmps21
  go_wp2_with fail
  refine (both_ratio _ _ a b _ (HA.out.below (below3 ..)) (HB.out.below (below3 ..)) l1 l2 l3 l4).mono ?_
  rintro e w1 ⟨hp, hb1⟩
  have hblk : w1.heap[w.heap.size + 2]? = some (.cells #[.bool false, .slice none 0 0, .slice none 0 0] 24 (0, 0)) := by
    rw [hb1.block (w.heap.size + 2) (by simp)]
    exact blk3 ..
  have zx : w.heap.size + 3 ≤ w1.heap.size := by have := hb1.size; simp at this; omega
  have HB1 := Lib.hid ((below3 w _ _ _).trans (hb1.mono (by simp; omega)))
  clear hb1
  by_cases hr : rightB a = true ∧ rightB b = true
  · rw [if_pos hr] at hp
    obtain ⟨g1, g2, rfl, hg1, hg2, hr1, hr2⟩ := hp
    have SA := Lib.hid (sz_right hr.1 HA.out.ldsN HA.out.ldsD)
    have SB := Lib.hid (sz_right hr.2 HB.out.ldsN HB.out.ldsD)
    have HRR := Lib.hid hr
    have HR1 := Lib.hid hr1
    have HR2 := Lib.hid hr2
    have zg : w.heap.size + 3 ≤ g1 := by simp at hg1; omega
    clear hr hr1 hr2
    go_wp2_with fail
    refine (add_rat g1 g1 g2 a.q b.q w1 HR1.out.obj HR1.out HR2.out (by have := SA.out.1; omega) (by have := SA.out.2; omega) (by have := SB.out.1; omega) (by have := SB.out.2; omega)).mono ?_
    rw [q_add]
    rintro e w2 ⟨rfl, hr3, hu2⟩
    have hblk2 : w2.heap[w.heap.size + 2]? = some (.cells #[.bool false, .slice none 0 0, .slice none 0 0] 24 (0, 0)) := (hu2.blk (w.heap.size + 2) (by omega) (by omega)).trans hblk
    have HR3 := Lib.hid hr3
    have HB2 := Lib.hid (HB1.out.trans (hu2.below (by omega) (by omega)))
    have zy : w.heap.size + 3 ≤ w2.heap.size := by have := hu2.size; omega
    obtain ⟨x, hx⟩ : ∃ x, x = a.q + b.q := ⟨_, rfl⟩
    have SX := Lib.hid (show Sz (4 * 512 + 1) x by rw [hx]; exact sz_add SA.out SB.out)
    rw [← hx] at HR3
    have HX := Lib.hid hx
    clear hr3 hu2 hblk hx
    go_wp2_with fail
    refine (told_ratio g1 x w2 HR3.out (by have := SX.out.1; omega) (by have := SX.out.2; omega)).mono ?_
    rintro e w3 ⟨v2, rfl, hv2, hb2⟩
    have HV2 := Lib.hid hv2
    obtain ⟨B, m, d, B', m', d', rfl, hh⟩ := hv2
    clear hh
    have hblk : w3.heap[w.heap.size + 2]? = some (.cells #[.bool false, .slice none 0 0, .slice none 0 0] 24 (0, 0)) := (hb2.block (w.heap.size + 2) (by omega)).trans hblk2
    have zz : w.heap.size + 3 ≤ w3.heap.size := by have := hb2.size; omega
    have HB3 := Lib.hid (HB2.out.trans (hb2.mono HB2.out.size))
    obtain ⟨tn, htn⟩ : ∃ tn, tn = (toldR x).neg := ⟨_, rfl⟩
    obtain ⟨te, hte⟩ : ∃ te, te = toldE x := ⟨_, rfl⟩
    rw [← htn] at HV2 ⊢
    rw [← hte]
    have HTE := Lib.hid hte
    clear hb2 htn hte hblk2
    obtain ⟨kc, kf⟩ := blk_cells hblk
    have kc0 := kc 0
    have kc1 := kc 1
    have kc2 := kc 2
    have kf0 := kf 0
    have kf1 := kf 1
    have kf2 := kf 2
    simp only [List.getElem?_toArray, List.getElem?_cons_zero, List.getElem?_cons_succ] at kc0 kc1 kc2
    obtain ⟨w6, hw6⟩ : ∃ w6, w6 = ((w3.setCell ⟨w.heap.size + 2, 0, none⟩ (.bool tn)).setCell ⟨w.heap.size + 2, 1, none⟩ (.slice B m d)).setCell ⟨w.heap.size + 2, 2, none⟩ (.slice B' m' d') := ⟨_, rfl⟩
    obtain ⟨hu6, q0, q1, q2⟩ := rat_set kc0 kc1 kc2 _ _ _ _ _ _ _ _ hw6
    have HW6 := Lib.hid hw6
    have HU6 := Lib.hid hu6
    have Q0 := Lib.hid q0
    have Q1 := Lib.hid q1
    have Q2 := Lib.hid q2
    clear kc kf hblk hw6 hu6 q0 q1 q2
    go_wp2_with fail
    rw [← HW6.out]
    have q0 := Q0.out
    have q1 := Q1.out
    have q2 := Q2.out
    (try simp only [Exit.inBlock, Exit.then])
    refine bodyPost_ret (v := .tuple #[.agg #[.bool tn, .slice B m d, .slice B' m' d'], .int .i64 te]) (by simp [results, Tryz.results21, go_sem, q0, q1, q2]; done) rfl ?_
    unfold BinPost
    rw [if_pos HRR.out, ← HX.out]
    exact ⟨_, by rw [HTE.out], HV2.out.upb HU6.out, HB3.out.trans (HU6.out.below (by omega) (by omega))⟩
  · rw [if_neg hr] at hp
    subst hp
    have HRR := Lib.hid hr
    clear hr
    obtain ⟨kc, kf⟩ := blk_cells hblk
    have kc0 := kc 0
    have kc1 := kc 1
    have kc2 := kc 2
    have kf0 := kf 0
    have kf1 := kf 1
    have kf2 := kf 2
    simp only [List.getElem?_toArray, List.getElem?_cons_zero, List.getElem?_cons_succ] at kc0 kc1 kc2
    obtain ⟨w6, hw6⟩ : ∃ w6, w6 = ((w1.setCell ⟨w.heap.size + 2, 0, none⟩ (.bool false)).setCell ⟨w.heap.size + 2, 1, none⟩ (.slice none 0 0)).setCell ⟨w.heap.size + 2, 2, none⟩ (.slice none 0 0) := ⟨_, rfl⟩
    obtain ⟨hu6, q0, q1, q2⟩ := rat_set kc0 kc1 kc2 _ _ _ _ _ _ _ _ hw6
    have HW6 := Lib.hid hw6
    have HU6 := Lib.hid hu6
    have Q0 := Lib.hid q0
    have Q1 := Lib.hid q1
    have Q2 := Lib.hid q2
    clear kc kf hblk hw6 hu6 q0 q1 q2
    go_wp2_with fail
    rw [← HW6.out]
    have q0 := Q0.out
    have q1 := Q1.out
    have q2 := Q2.out
    (try simp only [Exit.inBlock, Exit.then])
    refine bodyPost_ret (v := .tuple #[.agg #[.bool false, .slice none 0 0, .slice none 0 0], .int .i64 2]) (by simp [results, Tryz.results21, go_sem, q0, q1, q2]; done) rfl ?_
    unfold BinPost
    rw [if_neg HRR.out]
    exact ⟨_, rfl, noR_at _ _ _, HB1.out.trans (HU6.out.below (by omega) (by omega))⟩

end Go.Proofs.YtjokpfgncmdomaaGreatDoor

/- Int.Cmp; ratio.Sign, Int: the walks -/
namespace Go.Proofs.YtjokpfgncmdomaaGreatDoor
open Go.RowKit Go.Sort

/-- -1, 0, 1 -/
def cmpI (x y : Int) : Int := if x < y then -1 else if y < x then 1 else 0
theorem cmpI_nat {x y : Int} (hx : 0 ≤ x) (hy : 0 ≤ y) : cmpI x y = cmpN x.natAbs y.natAbs := by
  unfold cmpI cmpN
  have e1 : x < y ↔ x.natAbs < y.natAbs := by omega
  have e2 : y < x ↔ y.natAbs < x.natAbs := by omega
  simp only [e1, e2]
theorem cmpI_neg {x y : Int} (hx : x < 0) (hy : y < 0) : cmpI x y = -cmpN x.natAbs y.natAbs := by
  unfold cmpI cmpN
  have e1 : x < y ↔ y.natAbs < x.natAbs := by omega
  have e2 : y < x ↔ x.natAbs < y.natAbs := by omega
  simp only [e1, e2]
  by_cases h1 : x.natAbs < y.natAbs
  · have : ¬ y.natAbs < x.natAbs := by omega
    simp [h1, this]
  · by_cases h2 : y.natAbs < x.natAbs <;> simp [h1, h2]
theorem cmpN_mem (x y : Nat) : -1 ≤ cmpN x y ∧ cmpN x y ≤ 1 := by
  unfold cmpN
  split
  · omega
  · split <;> omega
theorem neg_wrap (x y : Nat) : wrap64 (-cmpN x y) = -cmpN x y := by
  have := cmpN_mem x y
  unfold wrap64
  omega

set_option maxRecDepth 100000 in
set_option maxHeartbeats 4000000 in
theorem cmp_int (b o b1 o1 : Nat) (x y : Int) (w : World) (hx : IntAt w b o x) (hy : IntAt w b1 o1 y) (hl : (dig x.natAbs).length ≤ 10000000000) (hl' : (dig y.natAbs).length ≤ 10000000000) :
    Calls Tryz.prog 112 #[.pointer (some ⟨b, o, none⟩), .pointer (some ⟨b1, o1, none⟩)] w fun e w' => e = .returned (.int .i64 (cmpI x y)) ∧ Below w.heap.size w w' := by
  obtain ⟨A, n, c, s, HN, HS, h0, h1, hc, HR⟩ := hx.open
  rw [← HN.out] at hl
  obtain ⟨A', n', c', s', HN', HS', h0', h1', hc', HR'⟩ := hy.open
  rw [← HN'.out] at hl'
  have LX := Lib.hid hl
  have LY := Lib.hid hl'
  clear hx hy hc hc' HN HN' hl hl'
  cases s <;> cases s'
  · have hC : Hid (cmpI x y = cmpN x.natAbs y.natAbs) := Lib.hid (cmpI_nat (by have := HS.out; simp at this; exact this) (by have := HS'.out; simp at this; exact this))
    go_enter Tryz.func112, Tryz.ntmps112
    go_wp2_with fail
    go_quiet (fail)
    go_wp2_with fail
    refine wp_region_G (S := (fun w' => w'.cell? ⟨b, o + 1, none⟩ = some (.slice A n c) ∧ w'.cell? ⟨b1, o1 + 1, none⟩ = some (.slice A' n' c'))) 8 (by kernel_rfl) ?_ (fun hHeld => ?_)
    · first | exact True.intro | ((try dsimp only); go_keep)
    refine tkG (i := 0) (v := ?_) rfl (by kernel_rfl) (Or.inl ⟨by kernel_rfl, ?_⟩) (by assumption) ?_
    rotate_left 1
    · (intro w hSw; (try dsimp only at hSw); go_simp; try with_reducible rfl)
    try simp only [lyA, lyB, lyC, Act.put, lyD, lyE, lyF]
    refine tkG (i := 1) (v := ?_) rfl (by kernel_rfl) (Or.inl ⟨by kernel_rfl, ?_⟩) (by assumption) ?_
    rotate_left 1
    · (intro w hSw; (try dsimp only at hSw); go_simp; try with_reducible rfl)
    try simp only [lyA, lyB, lyC, Act.put, lyD, lyE, lyF]
    refine tkG (i := 2) (v := ?_) rfl (by kernel_rfl) (Or.inl ⟨by kernel_rfl, ?_⟩) (by assumption) ?_
    rotate_left 1
    · (intro w hSw; (try dsimp only at hSw); go_simp; try with_reducible rfl)
    try simp only [lyA, lyB, lyC, Act.put, lyD, lyE, lyF]
    refine tkG (i := 3) (v := ?_) rfl (by kernel_rfl) (Or.inl ⟨by kernel_rfl, ?_⟩) (by assumption) ?_
    rotate_left 1
    · (intro w hSw; (try dsimp only at hSw); go_simp; try with_reducible rfl)
    try simp only [lyA, lyB, lyC, Act.put, lyD, lyE, lyF]
    refine tkG (i := 4) (v := ?_) rfl (by kernel_rfl) (Or.inl ⟨by kernel_rfl, ?_⟩) (by assumption) ?_
    rotate_left 1
    · (intro w hSw; (try dsimp only at hSw); go_simp; try with_reducible rfl)
    try simp only [lyA, lyB, lyC, Act.put, lyD, lyE, lyF]
    refine tkG (i := 5) (v := ?_) rfl (by kernel_rfl) (Or.inl ⟨by kernel_rfl, ?_⟩) (by assumption) ?_
    rotate_left 1
    · (intro w hSw; (try dsimp only at hSw); go_simp; try with_reducible rfl)
    try simp only [lyA, lyB, lyC, Act.put, lyD, lyE, lyF]
    refine tkG (i := 6) (v := ?_) rfl (by kernel_rfl) (Or.inl ⟨by kernel_rfl, ?_⟩) (by assumption) ?_
    rotate_left 1
    · (intro w hSw; (try dsimp only at hSw); go_simp; try with_reducible rfl)
    try simp only [lyA, lyB, lyC, Act.put, lyD, lyE, lyF]
    refine tkG (i := 7) (v := ?_) rfl (by kernel_rfl) (Or.inl ⟨by kernel_rfl, ?_⟩) (by assumption) ?_
    rotate_left 1
    · (intro w hSw; (try dsimp only at hSw); go_simp; try with_reducible rfl)
    try simp only [lyA, lyB, lyC, Act.put, lyD, lyE, lyF]
    refine wpAnyG_one (i := 8) (by kernel_rfl) rfl (fun K hK => ?_)
    go_simp
    (refine (cmp_any A A' n n' c c' x.natAbs y.natAbs _ _ (w.drewN nq).drew (HR.out.keep (w' := (w.drewN nq).drew) fun _ _ => rfl) (HR'.out.keep (w' := (w.drewN nq).drew) fun _ _ => rfl) (by have := LX.out; omega) (by have := LY.out; omega)).mono ?_; rintro e w1 ⟨rfl, hb1⟩; have k1 := bat hb1 hHeld.1; have k2 := bat hb1 hHeld.2; have k3 := bat hb1 (show (w.drewN nq).drew.cell? _ = _ from h0))
    try go_wp2_with fail
    refine hK.out _ _ ?_ (fun hHeld => ?_)
    · exact .inr (by kernel_rfl)
    clear hK K
    try simp only [lyA, lyB, lyC, Act.put, lyD, lyE, lyF]
    refine wpAnyG_one (i := 9) (by kernel_rfl) rfl (fun K hK => ?_)
    go_simp
    refine hK.out _ _ ?_ (fun hHeld => ?_)
    · exact .inr (by kernel_rfl)
    clear hK K
    try simp only [lyA, lyB, lyC, Act.put, lyD, lyE, lyF]
    refine wpAnyG_done (by kernel_rfl) ?_ _
    go_wp2_with fail
    go_ret
    exact ⟨by rw [hC.out]; rfl, ((below_drewN (Below.refl w.heap.size w) nq).drew).trans hb1⟩
  · have hC : Hid (cmpI x y = 1) := Lib.hid (by have h1 := HS.out; have h2 := HS'.out; simp at h1 h2; unfold cmpI; rw [if_neg (by omega), if_pos (by omega)])
    go_enter Tryz.func112, Tryz.ntmps112
    go_wp2_with fail
    go_quiet (fail)
    go_wp2_with fail
    go_ret
    exact ⟨by rw [hC.out]; rfl, below_drewN (Below.refl _ _) _⟩
  · have hC : Hid (cmpI x y = -1) := Lib.hid (by have h1 := HS.out; have h2 := HS'.out; simp at h1 h2; unfold cmpI; rw [if_pos (by omega)])
    go_enter Tryz.func112, Tryz.ntmps112
    go_wp2_with fail
    go_quiet (fail)
    go_wp2_with fail
    go_ret
    exact ⟨by rw [hC.out]; rfl, below_drewN (Below.refl _ _) _⟩
  · have hC : Hid (cmpI x y = -cmpN x.natAbs y.natAbs) := Lib.hid (cmpI_neg (by have := HS.out; simp at this; exact this) (by have := HS'.out; simp at this; exact this))
    go_enter Tryz.func112, Tryz.ntmps112
    go_wp2_with fail
    go_quiet (fail)
    go_wp2_with fail
    refine wp_region_G (S := (fun w' => w'.cell? ⟨b, o + 1, none⟩ = some (.slice A n c) ∧ w'.cell? ⟨b1, o1 + 1, none⟩ = some (.slice A' n' c'))) 8 (by kernel_rfl) ?_ (fun hHeld => ?_)
    · first | exact True.intro | ((try dsimp only); go_keep)
    refine tkG (i := 0) (v := ?_) rfl (by kernel_rfl) (Or.inl ⟨by kernel_rfl, ?_⟩) (by assumption) ?_
    rotate_left 1
    · (intro w hSw; (try dsimp only at hSw); go_simp; try with_reducible rfl)
    try simp only [lyA, lyB, lyC, Act.put, lyD, lyE, lyF]
    refine tkG (i := 1) (v := ?_) rfl (by kernel_rfl) (Or.inl ⟨by kernel_rfl, ?_⟩) (by assumption) ?_
    rotate_left 1
    · (intro w hSw; (try dsimp only at hSw); go_simp; try with_reducible rfl)
    try simp only [lyA, lyB, lyC, Act.put, lyD, lyE, lyF]
    refine tkG (i := 2) (v := ?_) rfl (by kernel_rfl) (Or.inl ⟨by kernel_rfl, ?_⟩) (by assumption) ?_
    rotate_left 1
    · (intro w hSw; (try dsimp only at hSw); go_simp; try with_reducible rfl)
    try simp only [lyA, lyB, lyC, Act.put, lyD, lyE, lyF]
    refine tkG (i := 3) (v := ?_) rfl (by kernel_rfl) (Or.inl ⟨by kernel_rfl, ?_⟩) (by assumption) ?_
    rotate_left 1
    · (intro w hSw; (try dsimp only at hSw); go_simp; try with_reducible rfl)
    try simp only [lyA, lyB, lyC, Act.put, lyD, lyE, lyF]
    refine tkG (i := 4) (v := ?_) rfl (by kernel_rfl) (Or.inl ⟨by kernel_rfl, ?_⟩) (by assumption) ?_
    rotate_left 1
    · (intro w hSw; (try dsimp only at hSw); go_simp; try with_reducible rfl)
    try simp only [lyA, lyB, lyC, Act.put, lyD, lyE, lyF]
    refine tkG (i := 5) (v := ?_) rfl (by kernel_rfl) (Or.inl ⟨by kernel_rfl, ?_⟩) (by assumption) ?_
    rotate_left 1
    · (intro w hSw; (try dsimp only at hSw); go_simp; try with_reducible rfl)
    try simp only [lyA, lyB, lyC, Act.put, lyD, lyE, lyF]
    refine tkG (i := 6) (v := ?_) rfl (by kernel_rfl) (Or.inl ⟨by kernel_rfl, ?_⟩) (by assumption) ?_
    rotate_left 1
    · (intro w hSw; (try dsimp only at hSw); go_simp; try with_reducible rfl)
    try simp only [lyA, lyB, lyC, Act.put, lyD, lyE, lyF]
    refine tkG (i := 7) (v := ?_) rfl (by kernel_rfl) (Or.inl ⟨by kernel_rfl, ?_⟩) (by assumption) ?_
    rotate_left 1
    · (intro w hSw; (try dsimp only at hSw); go_simp; try with_reducible rfl)
    try simp only [lyA, lyB, lyC, Act.put, lyD, lyE, lyF]
    refine wpAnyG_one (i := 8) (by kernel_rfl) rfl (fun K hK => ?_)
    go_simp
    (refine (cmp_any A A' n n' c c' x.natAbs y.natAbs _ _ (w.drewN nq).drew (HR.out.keep (w' := (w.drewN nq).drew) fun _ _ => rfl) (HR'.out.keep (w' := (w.drewN nq).drew) fun _ _ => rfl) (by have := LX.out; omega) (by have := LY.out; omega)).mono ?_; rintro e w1 ⟨rfl, hb1⟩; have k1 := bat hb1 hHeld.1; have k2 := bat hb1 hHeld.2; have k3 := bat hb1 (show (w.drewN nq).drew.cell? _ = _ from h0))
    try go_wp2_with fail
    refine hK.out _ _ ?_ (fun hHeld => ?_)
    · exact .inr (by kernel_rfl)
    clear hK K
    try simp only [lyA, lyB, lyC, Act.put, lyD, lyE, lyF]
    refine wpAnyG_one (i := 9) (by kernel_rfl) rfl (fun K hK => ?_)
    go_simp
    refine hK.out _ _ ?_ (fun hHeld => ?_)
    · exact .inr (by kernel_rfl)
    clear hK K
    try simp only [lyA, lyB, lyC, Act.put, lyD, lyE, lyF]
    refine wpAnyG_done (by kernel_rfl) ?_ _
    go_wp2_with fail
    go_ret
    exact ⟨by show Ending.returned (.int .i64 (wrap64 _)) = _; rw [neg_wrap, hC.out], ((below_drewN (Below.refl w.heap.size w) nq).drew).trans hb1⟩

end Go.Proofs.YtjokpfgncmdomaaGreatDoor

/- ratio.Sign, Int: the walks -/
namespace Go.Proofs.YtjokpfgncmdomaaGreatDoor
open Go.RowKit Go.Sort
theorem blk2 (w : World) (o1 : Obj) (cs : Array Value) (t : TypeId) : ((w.alloc o1).alloc (.cells cs t)).heap[w.heap.size + 1]? = some (.cells cs t (0, 0)) := by
  have h := blk_new (w.alloc o1) cs t
  rwa [World.size_alloc] at h
end Go.Proofs.YtjokpfgncmdomaaGreatDoor

/- Rat.Cmp, ratio.Cmp: the walks (printed by wip/Rat/gen_t15.py) -/
namespace Go.Proofs.YtjokpfgncmdomaaGreatDoor
open Go.RowKit Go.Sort
end Go.Proofs.YtjokpfgncmdomaaGreatDoor

/- right ratios are those of their numbers: plain; Add, Sub, Mul, Div of right ratios -/
namespace Go.Proofs.YtjokpfgncmdomaaGreatDoor
open Go.RowKit Go.Sort

theorem topB_isLim {xs : List Nat} (h : topB xs = true) (hl : Lds xs) : isLim xs := by
  refine ⟨hl, fun hne e => ?_⟩
  unfold topB at h
  simp only [Bool.and_eq_true, decide_eq_true_eq] at h
  exact h.2 (by rw [List.getLast?_eq_some_getLast hne, e])
theorem topB_lim {N : Nat} (h0 : N ≠ 0) (h : (lim N).length ≤ 256) : topB (lim N) = true := by
  have hne := lim_pos h0
  unfold topB
  simp only [Bool.and_eq_true, decide_eq_true_eq]
  refine ⟨⟨List.length_pos_iff.2 hne, h⟩, fun e => ?_⟩
  rw [List.getLast?_eq_some_getLast hne] at e
  exact (lim_isLim N).2 hne (Option.some.inj e)
theorem fits_len {q : Rat} (h : fits q) : (rv q).num.length ≤ 1000 ∧ (rv q).den.length ≤ 1000 := ⟨Nat.le_trans h.1 (by omega), Nat.le_trans h.2 (by omega)⟩
/-- a right ratio of that number -/
def At (w : World) (v : Value) (q : Rat) : Prop := RAt w v (rv q) ∧ fits q
theorem told_at {w w' : World} {q : Rat} {e : Ending} (h : Told w q e w') (hf : fits q) : ∃ v, e = .returned (.tuple #[v, .int .i64 0]) ∧ At w' v q ∧ Below w.heap.size w w' := by
  obtain ⟨v, h1, h2, h3⟩ := h
  rw [toldE, if_pos hf] at h1
  rw [toldR, if_pos hf] at h2
  exact ⟨v, h1, ⟨h2, hf⟩, h3⟩
end Go.Proofs.YtjokpfgncmdomaaGreatDoor

/- ratio.Cmp, girderkit.SameRatio: the walks -/
namespace Go.Proofs.YtjokpfgncmdomaaGreatDoor
open Go.RowKit Go.Sort
set_option maxRecDepth 100000 in
set_option maxHeartbeats 4000000 in
theorem same_ratio (va vb : Value) (a b : RV) (w : World) (ha : RAt w va a) (hb : RAt w vb b) (l1 : a.num.length ≤ 1000000000000000) (l2 : a.den.length ≤ 1000000000000000) (l3 : b.num.length ≤ 1000000000000000) (l4 : b.den.length ≤ 1000000000000000) :
    Calls Tryz.prog 14 #[va, vb] w fun e w' => e = .returned (.bool (decide (a = b))) ∧ Below w.heap.size w w' := by
  obtain ⟨s, xs, ys⟩ := a
  obtain ⟨s2, zs, ts⟩ := b
  obtain ⟨A, n, c, A', n', c', rfl, hx, hy, _, _⟩ := ha
  obtain ⟨A2, n2, c2, A2', n2', c2', rfl, hz, ht, _, _⟩ := hb
  simp only at hx hy hz ht l1 l2 l3 l4
  have en := hx.num
  have en' := hy.num
  have en2 := hz.num
  have en2' := ht.num
  have hn : n ≤ 1000000000000000 := by omega
  have hn' : n' ≤ 1000000000000000 := by omega
  have hn2 : n2 ≤ 1000000000000000 := by omega
  have hn2' : n2' ≤ 1000000000000000 := by omega
  have HX := Lib.hid hx
  have HY := Lib.hid hy
  have HZ := Lib.hid hz
  have HT := Lib.hid ht
  clear hx hy hz ht l1 l2 l3 l4 en en' en2 en2'
  have hp := pair_cells w s s2 A A' A2 A2' n n' n2 n2' c c' c2 c2'
  obtain ⟨ka0, ka1, ka2, kb0, kb1, kb2⟩ := hp
  have K := Lib.hid (And.intro ka2 kb2)
  by_cases h0 : s = s2
  · subst h0
    have e0 : (s == s) = true := by simp
    go_enter Tryz.func14, Tryz.ntmps14
    go_wp2_with fail
    refine (same_limbs A A2 n n2 c c2 xs zs _ _ _ (HX.out.belowL (below2 ..)) (HZ.out.belowL (below2 ..)) hn hn2).mono ?_
    rintro e w1 ⟨rfl, hb1⟩
    have q2 := bat hb1 K.out.1
    have q3 := bat hb1 K.out.2
    have HB1 := Lib.hid ((below2 w _ _).trans (hb1.mono (by simp; omega)))
    clear hb1 ka0 ka1 ka2 kb0 kb1 kb2
    by_cases h1 : xs = zs
    · have HE := Lib.hid h1
      rw [decide_eq_true h1]
      clear h1
      go_wp2_with fail
      refine (same_limbs A' A2' n' n2' c' c2' ys ts _ _ w1 (HY.out.belowL HB1.out) (HT.out.belowL HB1.out) hn' hn2').mono ?_
      rintro e w2 ⟨rfl, hb2⟩
      have HB2 := Lib.hid (HB1.out.trans (hb2.mono HB1.out.size))
      clear hb2
      obtain ⟨d, hd⟩ : ∃ d, d = decide (ys = ts) := ⟨_, rfl⟩
      rw [← hd]
      have HD := Lib.hid hd
      clear hd
      go_wp2_with fail
      go_ret
      refine ⟨?_, HB2.out⟩
      have h1 := HE.out
      subst h1
      show Ending.returned (.bool d) = _
      rw [HD.out]
      simp
    · have HE := Lib.hid h1
      rw [decide_eq_false h1]
      clear h1
      go_wp2_with fail
      go_ret
      refine ⟨?_, HB1.out⟩
      rw [decide_eq_false (fun e => HE.out (congrArg RV.num e))]
      rfl
  · have e0 : (s == s2) = false := by simp [h0]
    have HE := Lib.hid h0
    clear h0
    go_enter Tryz.func14, Tryz.ntmps14
    go_wp2_with fail
    go_ret
    refine ⟨?_, below2 ..⟩
    show Ending.returned (.bool false) = _
    simp [HE.out]

end Go.Proofs.YtjokpfgncmdomaaGreatDoor

/- the laws' helpers: small, is, known, like: the walks -/
namespace Go.Proofs.YtjokpfgncmdomaaGreatDoor
open Go.RowKit Go.Sort
set_option maxRecDepth 100000 in
set_option maxHeartbeats 4000000 in
theorem small_law (s : Bool) (n d : Nat) (w : World) (hn : n < W64) (hd : d < W64) :
    Calls Tryz.prog 46 #[.bool s, .int .u64 (n : Int), .int .u64 (d : Int)] w fun e w' => ∃ v, e = .returned v ∧ RAt w' v ⟨s, [n], [d]⟩ ∧ Below w.heap.size w w' := by
  go_enter Tryz.func46, Tryz.ntmps46
  go_wp2_with fail
  (try simp only [Exit.inBlock, Exit.then])
  have k := bat (below2 (w.alloc (.cells #[.bool s, .slice (some ⟨w.heap.size + 1, 0, none⟩) 1 1, .slice (some ⟨w.heap.size + 1 + 1, 0, none⟩) 1 1] 24)) (.cells #[.int .u64 (n : Int)] 58) (.cells #[.int .u64 (d : Int)] 58)) (new_cell w #[.bool s, .slice (some ⟨w.heap.size + 1, 0, none⟩) 1 1, .slice (some ⟨w.heap.size + 1 + 1, 0, none⟩) 1 1] 24 0 _ rfl)
  have k1 := bat (below2 (w.alloc (.cells #[.bool s, .slice (some ⟨w.heap.size + 1, 0, none⟩) 1 1, .slice (some ⟨w.heap.size + 1 + 1, 0, none⟩) 1 1] 24)) (.cells #[.int .u64 (n : Int)] 58) (.cells #[.int .u64 (d : Int)] 58)) (new_cell w #[.bool s, .slice (some ⟨w.heap.size + 1, 0, none⟩) 1 1, .slice (some ⟨w.heap.size + 1 + 1, 0, none⟩) 1 1] 24 1 _ rfl)
  have k2 := bat (below2 (w.alloc (.cells #[.bool s, .slice (some ⟨w.heap.size + 1, 0, none⟩) 1 1, .slice (some ⟨w.heap.size + 1 + 1, 0, none⟩) 1 1] 24)) (.cells #[.int .u64 (n : Int)] 58) (.cells #[.int .u64 (d : Int)] 58)) (new_cell w #[.bool s, .slice (some ⟨w.heap.size + 1, 0, none⟩) 1 1, .slice (some ⟨w.heap.size + 1 + 1, 0, none⟩) 1 1] 24 2 _ rfl)
  refine bodyPost_ret (v := .agg #[.bool s, .slice (some ⟨w.heap.size + 1, 0, none⟩) 1 1, .slice (some ⟨w.heap.size + 1 + 1, 0, none⟩) 1 1]) (by simp [results, Tryz.results46, go_sem, k, k1, k2]; done) rfl ?_
  refine ⟨_, rfl, ⟨_, _, _, _, _, _, rfl, ?_, ?_, fun x hx => ?_, fun x hx => ?_⟩, below3 ..⟩
  · refine RdE.belowL (w := (w.alloc _).alloc _) ?_ (below1 ..)
    exact rde_blk (blk2 w _ _ _) rfl (by simp) rfl rfl
  · exact rde_blk (blk3 w _ _ _ _) rfl (by simp) rfl rfl
  · simp at hx; omega
  · simp at hx; omega

set_option maxRecDepth 100000 in
set_option maxHeartbeats 4000000 in
theorem is_law (va vb : Value) (e f : Int) (a b : RV) (w : World) (ha : RAt w va a) (hb : RAt w vb b) (l1 : a.num.length ≤ 1000000000000000) (l2 : a.den.length ≤ 1000000000000000) (l3 : b.num.length ≤ 1000000000000000) (l4 : b.den.length ≤ 1000000000000000) :
    Calls Tryz.prog 28 #[va, .int .i64 e, vb, .int .i64 f] w fun r w' => r = .returned (.bool (decide (e = f) && decide (a = b))) ∧ Below w.heap.size w w' := by
  have HA := Lib.hid ha
  have HB := Lib.hid hb
  have hA1 : ∃ s A n c A' n' c', va = .agg #[.bool s, .slice A n c, .slice A' n' c'] := by obtain ⟨A, n, c, A', n', c', h, _⟩ := ha; exact ⟨_, _, _, _, _, _, _, h⟩
  have hB1 : ∃ s A n c A' n' c', vb = .agg #[.bool s, .slice A n c, .slice A' n' c'] := by obtain ⟨A, n, c, A', n', c', h, _⟩ := hb; exact ⟨_, _, _, _, _, _, _, h⟩
  obtain ⟨s, A, n, c, A', n', c', rfl⟩ := hA1
  obtain ⟨s2, A2, n2, c2, A2', n2', c2', rfl⟩ := hB1
  clear ha hb
  by_cases h0 : e = f
  · subst h0
    have e0 : (e == e) = true := by simp
    go_enter Tryz.func28, Tryz.ntmps28
    go_wp2_with fail
    refine (same_ratio _ _ a b _ (HA.out.below (below2 ..)) (HB.out.below (below2 ..)) l1 l2 l3 l4).mono ?_
    rintro e w1 ⟨rfl, hb1⟩
    have HB1 := Lib.hid ((below2 w _ _).trans (hb1.mono (by simp; omega)))
    clear hb1
    go_wp2_with fail
    go_ret
    refine ⟨?_, HB1.out⟩
    show Ending.returned (.bool (decide (a = b))) = _
    simp
  · have e0 : (e == f) = false := by simp [h0]
    have HE := Lib.hid h0
    clear h0
    go_enter Tryz.func28, Tryz.ntmps28
    go_wp2_with fail
    go_ret
    refine ⟨?_, below2 ..⟩
    show Ending.returned (.bool false) = _
    simp [HE.out]

end Go.Proofs.YtjokpfgncmdomaaGreatDoor

/- the laws' helper like: the walk -/
namespace Go.Proofs.YtjokpfgncmdomaaGreatDoor
open Go.RowKit Go.Sort
theorem toldR_len (q : Rat) : (toldR q).num.length ≤ 1000 ∧ (toldR q).den.length ≤ 1000 := by
  unfold toldR
  by_cases h : fits q
  · rw [if_pos h]; exact fits_len h
  · rw [if_neg h]; decide
end Go.Proofs.YtjokpfgncmdomaaGreatDoor

/- math/bits.Len64, TrailingZeros64: the walks (the lines of Len64 and TrailingZeros64 are the shelf's, turned to this program) -/
namespace Go.Proofs.YtjokpfgncmdomaaGreatDoor
open Go.RowKit Go.Sort

theorem bitLen_blen : ∀ (f x : Nat), x < 2 ^ f → f ≤ 64 → Lib.bitLen x = blen x
  | 0, x, h, _ => by
    obtain rfl : x = 0 := by simp at h; exact h
    rfl
  | f + 1, x, h, hf => by
    by_cases h0 : x = 0
    · subst h0; rfl
    · rw [Lib.bitLen_half x h0 (Nat.lt_of_lt_of_le h (Nat.pow_le_pow_right (by decide) hf)), blen_half h0, bitLen_blen f (x / 2) (by rw [Nat.pow_succ] at h; omega) (by omega)]
      omega

theorem len8_nat (i : Int) (h0 : 0 ≤ i) (h1 : i ≤ 255) (hp : i.toNat < Lib.len8tab.size) : ((Lib.len8tab[i.toNat]'hp).toNat : Int) = (Lib.bitLen i.toNat : Int) := by
  rw [← Lib.len8_of i h0 h1]
  unfold Lib.len8
  rw [getElem?_pos Lib.len8tab i.toNat hp]
  rfl
theorem len8_fin {i : Int} {c X : Nat} (hp : i.toNat < Lib.len8tab.size) (h0 : 0 ≤ i) (h1 : i ≤ 255) (hc : c ≤ 56) (hb : Lib.bitLen X = c + Lib.bitLen i.toNat) : wrap64 ((c : Int) + wrap64 ((Lib.len8tab[i.toNat]'hp).toNat : Int)) = (Lib.bitLen X : Int) := by
  rw [len8_nat i h0 h1 hp, hb]
  have l := Lib.bitLen_le8' i h0 h1
  unfold wrap64
  omega
set_option maxRecDepth 100000 in
set_option maxHeartbeats 4000000 in
theorem len64_any (x : Int) (w : World) (h0 : 0 ≤ x) (h1 : x ≤ 18446744073709551615) :
    Calls Tryz.prog 147 #[.int .u64 x] w fun e w' => e = .returned (.int .i64 (Lib.bitLen x.toNat)) ∧ w = w' := by
  have hsz := Lib.len8tab_size
  go_enter Tryz.func147, Tryz.ntmps147
  go_wp2
  all_goals first | (rename_i h; exfalso; apply h; rw [hsz]; clear hsz; omega) | skip
  all_goals (go_ret; refine ⟨congrArg Ending.returned (congrArg (Value.int IntKind.i64) ?_), rfl⟩)
  · exact len8_fin (c := 56) _ (by clear hsz; omega) (by clear hsz; omega) (by omega) (by rw [show (x / 4294967296 / 65536 / 256).toNat = x.toNat / 72057594037927936 by clear hsz; omega]; exact Lib.bitLen_shift56 x.toNat (by clear hsz; omega) (by clear hsz; omega))
  · exact len8_fin (c := 48) _ (by clear hsz; omega) (by clear hsz; omega) (by omega) (by rw [show (x / 4294967296 / 65536).toNat = x.toNat / 281474976710656 by clear hsz; omega]; exact Lib.bitLen_shift48 x.toNat (by clear hsz; omega) (by clear hsz; omega))
  · exact len8_fin (c := 40) _ (by clear hsz; omega) (by clear hsz; omega) (by omega) (by rw [show (x / 4294967296 / 256).toNat = x.toNat / 1099511627776 by clear hsz; omega]; exact Lib.bitLen_shift40 x.toNat (by clear hsz; omega) (by clear hsz; omega))
  · exact len8_fin (c := 32) _ (by clear hsz; omega) (by clear hsz; omega) (by omega) (by rw [show (x / 4294967296).toNat = x.toNat / 4294967296 by clear hsz; omega]; exact Lib.bitLen_shift32 x.toNat (by clear hsz; omega) (by clear hsz; omega))
  · exact len8_fin (c := 24) _ (by clear hsz; omega) (by clear hsz; omega) (by omega) (by rw [show (x / 65536 / 256).toNat = x.toNat / 16777216 by clear hsz; omega]; exact Lib.bitLen_shift24 x.toNat (by clear hsz; omega) (by clear hsz; omega))
  · exact len8_fin (c := 16) _ (by clear hsz; omega) (by clear hsz; omega) (by omega) (by rw [show (x / 65536).toNat = x.toNat / 65536 by clear hsz; omega]; exact Lib.bitLen_shift16 x.toNat (by clear hsz; omega) (by clear hsz; omega))
  · exact len8_fin (c := 8) _ (by clear hsz; omega) (by clear hsz; omega) (by omega) (by rw [show (x / 256).toNat = x.toNat / 256 by clear hsz; omega]; exact Lib.bitLen_shift8 x.toNat (by clear hsz; omega) (by clear hsz; omega))
  · have e := len8_fin (i := x) (c := 0) (X := x.toNat) (by rw [hsz]; clear hsz; omega) (by clear hsz; omega) (by clear hsz; omega) (by omega) (by omega)
    rw [Int.natCast_zero, Int.zero_add] at e
    exact e
theorem len64 (x : Nat) (w : World) (h : x < W64) :
    Calls Tryz.prog 147 #[.int .u64 (x : Int)] w fun e w' => e = .returned (.int .i64 (blen x)) ∧ w = w' := by
  have h' : x < 18446744073709551616 := h
  refine (len64_any (x : Int) w (by omega) (by omega)).mono fun e w' he => ?_
  rw [Int.toNat_natCast, bitLen_blen 64 x h (by omega)] at he
  exact he

/-- the variable math/bits.deBruijn64tab, as its initialiser lays it -/
def Laid (w : World) : Prop := ∀ j, j < Lib.deBruijn64tab.length → w.cell? ⟨1, j, none⟩ = some (.int .u8 (Lib.deBruijn64tab.getD j 0))
theorem Laid.below {w w' : World} (h : Laid w) (hb : Below w.heap.size w w') : Laid w' := fun j hj => bat hb (h j hj)
theorem tz64_key (x a : Nat) (hx : x < 18446744073709551616) (hlow : x &&& (18446744073709551616 - x) = a) (hx0 : x ≠ 0) :
    IntKind.u64.wrap (bits BinOp.and IntKind.u64 (x : Int) (IntKind.u64.wrap (-(x : Int))) * 285870213051353865) / 288230376151711744 = ((a * 285870213051353865 % 18446744073709551616 / 288230376151711744 : Nat) : Int) := by
  have e1 : IntKind.u64.wrap (-(x : Int)) = ((18446744073709551616 - x : Nat) : Int) := by rw [IntKind.wrap_u64]; omega
  rw [e1, bits_and_u64_nat x _ hx (by omega), hlow, IntKind.wrap_u64]
  omega

set_option maxRecDepth 100000 in
set_option maxHeartbeats 4000000 in
theorem tz64_core (x k idx : Nat) (w : World) (hx0 : ((x : Int) == 0) = false)
    (key : IntKind.u64.wrap (bits BinOp.and IntKind.u64 (x : Int) (IntKind.u64.wrap (-(x : Int))) * 285870213051353865) / 288230376151711744 = (idx : Int))
    (hi : idx < 64) (hk : k < 64) (hcell : w.cell? ⟨1, idx, none⟩ = some (.int .u8 k)) :
    Calls Tryz.prog 149 #[.int .u64 (x : Int)] w fun e w' => e = .returned (.int .i64 k) ∧ w' = w := by
  go_enter Tryz.func149, Tryz.ntmps149
  go_wp2_with (simp only [key])
  go_ret
  exact ⟨rfl, rfl⟩
theorem tz64 (x : Nat) (w : World) (hx : x < 18446744073709551616) (hx0 : x ≠ 0) (hL : Laid w) :
    Calls Tryz.prog 149 #[.int .u64 (x : Int)] w fun e w' => e = .returned (.int .i64 (Lib.ctz 64 x)) ∧ w' = w := by
  obtain ⟨hlow, hk⟩ := Lib.lowest_bit 64 x hx0 hx
  obtain ⟨hi, htab⟩ := Lib.deBruijn64_at _ hk
  have hcell := hL _ hi
  rw [htab] at hcell
  exact tz64_core x _ _ w (by simp; omega) (tz64_key x _ hx hlow hx0) hi hk hcell

end Go.Proofs.YtjokpfgncmdomaaGreatDoor

/- bignum: bit, TrailingZeroBits, SetBit: the walks -/
namespace Go.Proofs.YtjokpfgncmdomaaGreatDoor
open Go.RowKit Go.Sort

theorem dig_word {N k x : Nat} (h : (dig N)[k]? = some x) : x = N / W32 ^ k % W32 := by
  have h1 := nv_split (dig N) k
  obtain ⟨hl, e⟩ := List.getElem?_eq_some_iff.1 h
  have h2 : (dig N).drop k = x :: (dig N).drop (k + 1) := by rw [List.drop_eq_getElem_cons hl, e]
  have h3 : nv ((dig N).drop k) = x + W32 * nv ((dig N).drop (k + 1)) := by rw [h2]; rfl
  have h4 := nv_take_lt (dig_wds N) k
  have h5 : N / W32 ^ k = nv ((dig N).drop k) := by
    have h6 : N = nv ((dig N).take k) + W32 ^ k * nv ((dig N).drop k) := (nv_dig N).symm.trans h1
    generalize nv ((dig N).take k) = u at h4 h6
    generalize nv ((dig N).drop k) = v at h6 ⊢
    rw [h6, Nat.add_mul_div_left _ _ (w_pos k), Nat.div_eq_of_lt h4, Nat.zero_add]
  rw [h5, h3, Nat.add_mul_mod_self_left, Nat.mod_eq_of_lt ((dig_wds N).get h)]
theorem bit_word {N k s : Nat} (hs : s < 32) : N / W32 ^ k % W32 / 2 ^ s % 2 = N / 2 ^ (k * 32 + s) % 2 := by
  have e : W32 = 2 ^ s * 2 ^ (32 - s) := by rw [← Nat.pow_add, show s + (32 - s) = 32 by omega]
  rw [Nat.pow_add, ← Nat.div_div_eq_div_mul, Nat.mul_comm k 32, ← W32_pow]
  generalize N / W32 ^ k = y
  rw [e, Nat.mod_mul_right_div_self, show (32 - s) = (31 - s) + 1 by omega, Nat.pow_succ, Nat.mul_comm (2 ^ (31 - s)) 2, Nat.mod_mul_right_mod]

theorem and_one {x s : Nat} (hx : x < 18446744073709551616) : bits BinOp.and IntKind.u64 (IntKind.u64.wrap ((x : Int) / 2 ^ s)) 1 = ((x / 2 ^ s % 2 : Nat) : Int) := by
  have e : (x : Int) / 2 ^ s = ((x / 2 ^ s : Nat) : Int) := by simp
  have h : x / 2 ^ s < 18446744073709551616 := Nat.lt_of_le_of_lt (Nat.div_le_self _ _) hx
  rw [e]
  generalize x / 2 ^ s = y at h
  rw [IntKind.wrap_u64, Int.emod_eq_of_lt (by omega) (by omega)]
  have h2 := bits_and_u64_nat y 1 h (by decide)
  rw [Nat.and_one_is_mod] at h2
  exact h2
set_option maxRecDepth 100000 in
set_option maxHeartbeats 4000000 in
theorem bit_any (A : Option Addr) (n c N h s : Nat) (S : Nat → Prop) (w : World) (hx : RdE Wc 1 w S A n (dig N)) (hn : n ≤ 10000000000) (hh : h ≤ 10000000000) (hs : s < 32) :
    Calls Tryz.prog 168 #[.slice A n c, .int .i64 ((h * 32 + s : Nat) : Int)] w fun e w' => e = .returned (.int .u64 ((N / 2 ^ (h * 32 + s) % 2 : Nat) : Int)) ∧ w = w' := by
  have HX := Lib.hid hx
  clear hx
  have e1 : ((h * 32 + s : Nat) : Int).tdiv 32 = (h : Int) := by rw [Int.tdiv_eq_ediv_of_nonneg (by omega)]; omega
  have e1' : ((h * 32 + s : Nat) : Int) / 32 = (h : Int) := by omega
  have e2 : ((h * 32 + s : Nat) : Int) % 32 = (s : Int) := by omega
  obtain ⟨M, hM⟩ : ∃ M : Nat, M = h * 32 + s := ⟨_, rfl⟩
  rw [← hM] at e1 e1' e2 ⊢
  have HM := Lib.hid hM
  have lM : M ≤ 400000000000 := by omega
  clear hM
  by_cases hlt : h < n
  · obtain ⟨x, ex⟩ := get_some HX.out.num hlt
    obtain ⟨b1, o1, rfl, hb1, hc⟩ := HX.out.elem (f := Wc) (size := 1) (fun _ => rfl) ex (by omega)
    have q1 : w.cell? ⟨b1, o1 + h, none⟩ = some (.int .u32 (x : Int)) := by have h := hc 0 _ rfl; rwa [Nat.mul_one, Nat.add_zero] at h
    have HV := Lib.hid (show x / 2 ^ s % 2 = N / 2 ^ M % 2 by rw [dig_word ex, bit_word hs, HM.out])
    have HB := Lib.hid (and_one (x := x) (s := s) (Nat.lt_of_lt_of_le (dig_wds N |>.get ex) (by decide)))
    clear hc ex hb1
    go_enter Tryz.func168, Tryz.ntmps168
    go_wp2_with fail
    go_ret
    refine ⟨?_, rfl⟩
    show Ending.returned (.int .u64 (bits BinOp.and IntKind.u64 (IntKind.u64.wrap ((x : Int) / 2 ^ s)) 1)) = _
    rw [HB.out, HV.out]
  · have HZ : Hid (N / 2 ^ M % 2 = 0) := Lib.hid (by
      have h1 := lt_dig_len N
      rw [HX.out.num, W32_pow] at h1
      have h2 : 2 ^ (32 * n) ≤ 2 ^ M := Nat.pow_le_pow_right (by decide) (by rw [HM.out]; omega)
      rw [Nat.div_eq_of_lt (by omega)])
    go_enter Tryz.func168, Tryz.ntmps168
    go_wp2_with fail
    go_ret
    exact ⟨by rw [HZ.out]; rfl, rfl⟩

theorem bit_at (A : Option Addr) (n c N M : Nat) (S : Nat → Prop) (w : World) (hx : RdE Wc 1 w S A n (dig N)) (hn : n ≤ 10000000000) (hh : M ≤ 10000000000) :
    Calls Tryz.prog 168 #[.slice A n c, .int .i64 (M : Int)] w fun e w' => e = .returned (.int .u64 ((N / 2 ^ M % 2 : Nat) : Int)) ∧ w = w' := by
  have h := bit_any A n c N (M / 32) (M % 32) S w hx hn (by omega) (by omega)
  rwa [Nat.div_add_mod' M 32] at h

/-- k noughts stand at the low end, then a one -/
def LowB (N k : Nat) : Prop := N / 2 ^ k % 2 = 1 ∧ N % 2 ^ k = 0
theorem low_lt {N k : Nat} (h0 : N ≠ 0) (h : N % 2 ^ k = 0) : k < blen N := by
  have h1 : 2 ^ k ≤ N := Nat.le_of_dvd (by omega) (Nat.dvd_of_mod_eq_zero h)
  apply Nat.lt_of_not_le
  intro h2
  have h3 := blen_lt (N := N)
  have h4 := Nat.pow_le_pow_right (show 0 < 2 by decide) h2
  omega
theorem low_step {N k : Nat} (h : N % 2 ^ k = 0) (h1 : N / 2 ^ k % 2 = 0) : N % 2 ^ (k + 1) = 0 := by
  rw [Nat.pow_succ, Nat.mod_mul, h, h1, Nat.mul_zero]

set_option maxRecDepth 100000 in
set_option maxHeartbeats 4000000 in
theorem tz_int (b o : Nat) (x : Int) (w : World) (hx : IntAt w b o x) (hx0 : x ≠ 0) (hl : (dig x.natAbs).length ≤ 1000000) :
    Calls Tryz.prog 143 #[.pointer (some ⟨b, o, none⟩)] w fun e w' => (∃ k : Nat, e = .returned (.int .u64 (k : Int)) ∧ LowB x.natAbs k) ∧ w = w' := by
  obtain ⟨A, n, c, s, HN, HS, h0, h1, hc, HR⟩ := hx.open
  rw [← HN.out] at hl
  have HR' : Hid (RdE Wc 1 w (fun d => d < w.heap.size) A n (dig x.natAbs)) := Lib.hid (HR.out.keep (fun _ _ => rfl))
  have hN0 : x.natAbs ≠ 0 := by omega
  obtain ⟨N, hN⟩ : ∃ N, N = x.natAbs := ⟨_, rfl⟩
  rw [← hN] at HR' HN hN0 ⊢
  have hn0 : 0 < n := by rw [HN.out]; exact List.length_pos_iff.2 (dig_pos hN0)
  have hBL : blen N ≤ 32 * n := blen_le_of_lt (by rw [← W32_pow, HN.out]; exact lt_dig_len N)
  have HN0 := Lib.hid hN0
  have HBL := Lib.hid hBL
  have e0 : ((n : Int) == 0) = false := by simp; omega
  clear hx HR hN hN0 hBL h0 hx0
  go_enter Tryz.func143, Tryz.ntmps143
  go_wp2_with fail
  go_loopw [3] (fun i wr => ∃ k : Nat, i = .int .u64 k ∧ w = wr ∧ N % 2 ^ k = 0) (fun i _ => blen N - (intOf i).toNat)
  case atStart => exact ⟨0, rfl, rfl, Nat.mod_one _⟩
  case round =>
    obtain ⟨k, rfl, rfl, hs⟩ := hrel
    have hk := low_lt HN0.out hs
    have HS := Lib.hid hs
    have lk : k ≤ 32000000 := by have := HBL.out; omega
    have ew : IntKind.i64.wrap (k : Int) = (k : Int) := IntWalk.i64_in _ (by omega)
    clear hs
    go_wp2_with fail
    refine (bit_at A n c N k _ w HR'.out (by omega) (by omega)).mono ?_
    rintro e w' ⟨rfl, rfl⟩
    rcases Nat.mod_two_eq_zero_or_one (N / 2 ^ k) with hb | hb
    · have HB := Lib.hid hb
      rw [hb]
      clear hb
      go_wp2_with fail
      go_roundw
      case rel => exact ⟨k + 1, by go_num, trivial, low_step HS.out HB.out⟩
      case measure => simp [intOf]; omega
    · have HB := Lib.hid hb
      rw [hb]
      clear hb
      go_wp2_with fail
      go_ret
      exact ⟨⟨k, rfl, HB.out, HS.out⟩, rfl⟩

end Go.Proofs.YtjokpfgncmdomaaGreatDoor
