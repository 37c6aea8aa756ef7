import Derived.Test.YtjokpfgncmdomaaGreatDoorX24
import Derived.Deep.Cut
import Derived.Deep.DeepCutAuto
import Derived.Laws.Externs
import Derived.Laws.FloatArith
set_option linter.unusedSimpArgs false
set_option linter.unusedVariables false
/- ratios and dyads that are lent, and whether they were kept -/
namespace Go.Proofs.YtjokpfgncmdomaaGreatDoor
open Go.RowKit Go.Sort

def LentR (w : World) (v : Value) (r : RV) : Prop := ∃ vn vd, v = .agg #[.bool r.neg, vn, vd] ∧ LentL w vn r.num ∧ LentL w vd r.den
theorem LentR.below {w w' : World} {v : Value} {r : RV} (h : LentR w v r) (hb : Below w.heap.size w w') : LentR w' v r := by
  obtain ⟨vn, vd, e, h1, h2⟩ := h
  exact ⟨vn, vd, e, h1.below hb, h2.below hb⟩
theorem LentR.fat {w : World} {v : Value} {r : RV} (h : LentR w v r) : FAt w v r := by
  obtain ⟨vn, vd, e, h1, h2⟩ := h
  exact ⟨vn, vd, e, h1.lat, h2.lat⟩
def LentD (w : World) (v : Value) (d : DV) : Prop := ∃ vm, v = .agg #[.bool d.neg, vm, .int .i64 d.exp] ∧ LentL w vm d.mag
theorem LentD.below {w w' : World} {v : Value} {d : DV} (h : LentD w v d) (hb : Below w.heap.size w w') : LentD w' v d := by
  obtain ⟨vn, e, h1⟩ := h
  exact ⟨vn, e, h1.below hb⟩
theorem LentD.dat {w : World} {v : Value} {d : DV} (h : LentD w v d) (hl : Lds d.mag) : DAt w v d := by
  obtain ⟨vn, e, h1⟩ := h
  obtain ⟨A, c, e2, hc, hr⟩ := h1.lat
  exact ⟨A, _, c, by rw [e, e2], hr, hl⟩

theorem LentL.upb {w w' : World} {v : Value} {xs : List Nat} {g : Nat} (h : LentL w v xs) (hu : UpB w w' g) : LentL w' v xs := by
  obtain ⟨A, c, e, hc, hr⟩ := h
  exact ⟨A, c, e, hc, (hu.limbs hr).imp fun b hb => Nat.lt_of_lt_of_le hb hu.size⟩
theorem LentR.upb {w w' : World} {v : Value} {r : RV} {g : Nat} (h : LentR w v r) (hu : UpB w w' g) : LentR w' v r := by
  obtain ⟨vn, vd, e, h1, h2⟩ := h
  exact ⟨vn, vd, e, h1.upb hu, h2.upb hu⟩
theorem LentD.upb {w w' : World} {v : Value} {d : DV} {g : Nat} (h : LentD w v d) (hu : UpB w w' g) : LentD w' v d := by
  obtain ⟨vn, e, h1⟩ := h
  exact ⟨vn, e, h1.upb hu⟩
theorem LentL.shape {w : World} {v : Value} {xs : List Nat} (h : LentL w v xs) : ∃ B m d, v = .slice B m d := by
  obtain ⟨g, d, e, _⟩ := h
  exact ⟨_, _, _, e⟩

set_option maxRecDepth 100000 in
set_option maxHeartbeats 4000000 in
theorem lentR_any (v : Value) (r : RV) (w : World) (h : FAt w v r) (n1 : r.num.length ≤ 1000000) (n2 : r.den.length ≤ 1000000) :
    Calls Tryz.prog 25 #[v] w fun e w' => ∃ v', e = .returned v' ∧ LentR w' v' r ∧ Below w.heap.size w w' := by
  obtain ⟨A, n, c, A', n', c', rfl, hx, hy⟩ := h.shape
  have HX := Lib.hid hx
  have HY := Lib.hid hy
  have HN1 := Lib.hid n1
  have HN2 := Lib.hid n2
  obtain ⟨s, hs⟩ : ∃ s, s = r.neg := ⟨_, rfl⟩
  rw [← hs]
  have HSE := Lib.hid hs
  obtain ⟨w0, hw0⟩ : ∃ w0, w0 = (w.alloc (.cells #[.bool s, .slice A n c, .slice A' n' c'] 24)).alloc (.cells #[.bool false, .slice none 0 0, .slice none 0 0] 24) := ⟨_, rfl⟩
  have hb0 : Below w.heap.size w w0 := by rw [hw0]; exact below2 ..
  have g1 : w0.heap[w.heap.size]? = some (.cells #[.bool s, .slice A n c, .slice A' n' c'] 24 (0, 0)) := by
    rw [hw0]; exact ((below1 (w.alloc _) _).block w.heap.size (by simp)).trans (blk_new w _ _)
  have g2 : w0.heap[w.heap.size + 1]? = some (.cells #[.bool false, .slice none 0 0, .slice none 0 0] 24 (0, 0)) := by
    rw [hw0]; exact blk2 w _ _ _
  have z0 : w0.heap.size = w.heap.size + 2 := by rw [hw0]; simp
  have k1 := (blk_cells g1).1
  have k10 := k1 0
  have k11 := k1 1
  have k12 := k1 2
  simp only [List.getElem?_toArray, List.getElem?_cons_zero, List.getElem?_cons_succ] at k10 k11 k12
  have G1 := Lib.hid g1
  have G2 := Lib.hid g2
  have HB0 := Lib.hid hb0
  have HW0 := Lib.hid hw0
  rw [hw0] at k10 k11 k12
  clear h hx hy n1 n2 hs hw0 hb0 g1 g2 k1
  go_enter Tryz.func25, Tryz.ntmps25
  go_wp2_with fail
  rw [← HW0.out]
  refine (lentL_any _ r.num w0 (HX.out.below HB0.out) (by have := HN1.out; omega)).mono ?_
  rintro e w1 ⟨v1, rfl, h1, hb1⟩
  obtain ⟨B, m, d, rfl⟩ := h1.shape
  have zz1 := hb1.size
  obtain ⟨kc, kf⟩ := blk_cells ((hb1.block w.heap.size (by omega)).trans G1.out)
  have kc0 := kc 0
  have kc1 := kc 1
  have kc2 := kc 2
  have kf0 := kf 0
  have kf1 := kf 1
  have kf2 := kf 2
  simp only [List.getElem?_toArray, List.getElem?_cons_zero, List.getElem?_cons_succ] at kc0 kc1 kc2
  obtain ⟨w2, hw2⟩ : ∃ w2, w2 = w1.setCell ⟨w.heap.size, 1, none⟩ (.slice B m d) := ⟨_, rfl⟩
  obtain ⟨hu2, q1, qr⟩ := slice_set kc1 _ _ _ _ hw2
  have q0 := qr 0 _ (by decide) kc0
  have q2 := qr 2 _ (by decide) kc2
  have hf2 : w2.frozen? ⟨w.heap.size, 1, none⟩ = false ∧ w2.frozen? ⟨w.heap.size, 2, none⟩ = false := by rw [hw2]; simp [go_sem, kf1, kf2]
  have HL2 := Lib.hid (h1.upl hu2)
  have HB2 := Lib.hid (HB0.out.trans ((hb1.mono HB0.out.size).trans (hu2.below (Nat.le_refl _) (by omega))))
  have HY2 := Lib.hid ((((HY.out.below HB0.out).below hb1).upl hu2))
  have G22 := Lib.hid ((hu2.blk (w.heap.size + 1) (by omega) (by omega)).trans ((hb1.block (w.heap.size + 1) (by omega)).trans G2.out))
  have zz2 := hu2.size
  have HW2 := Lib.hid hw2
  have HQ := Lib.hid (And.intro q0 (And.intro q1 q2))
  have HF := Lib.hid hf2
  rw [hw2] at q2
  clear kc kf h1 hb1 hw2 hu2 q0 q1 qr hf2 k10 k11 k12
  go_wp2_with fail
  rw [← HW2.out]
  clear kc0 kc1 kc2 kf0 kf1 kf2 q2
  refine (lentL_any _ r.den w2 HY2.out (by have := HN2.out; omega)).mono ?_
  rintro e w3 ⟨v3, rfl, h3, hb3⟩
  obtain ⟨B', m', d', rfl⟩ := h3.shape
  obtain ⟨q0, q1, q2⟩ := HQ.out
  obtain ⟨f1, f2⟩ := HF.out
  have c0 := bat hb3 q0
  have c1 := bat hb3 q1
  have c2 := bat hb3 q2
  have d1 := bfz hb3 (show w.heap.size < w2.heap.size by omega) f1
  have d2 := bfz hb3 (show w.heap.size < w2.heap.size by omega) f2
  obtain ⟨w4, hw4⟩ : ∃ w4, w4 = w3.setCell ⟨w.heap.size, 2, none⟩ (.slice B' m' d') := ⟨_, rfl⟩
  obtain ⟨hu4, r2, qr⟩ := slice_set c2 _ _ _ _ hw4
  have r0 := qr 0 _ (by decide) c0
  have r1 := qr 1 _ (by decide) c1
  have zz3 := hb3.size
  have zz4 := hu4.size
  have HLN := Lib.hid ((HL2.out.below hb3).upl hu4)
  have HLD := Lib.hid (h3.upl hu4)
  have HB4 := Lib.hid (HB2.out.trans ((hb3.mono (by omega)).trans (hu4.below (Nat.le_refl _) (by omega))))
  obtain ⟨kc, kf⟩ := blk_cells ((hu4.blk (w.heap.size + 1) (by omega) (by omega)).trans ((hb3.block (w.heap.size + 1) (by omega)).trans G22.out))
  have kc0 := kc 0
  have kc1 := kc 1
  have kc2 := kc 2
  have kf0 := kf 0
  have kf1 := kf 1
  have kf2 := kf 2
  simp only [List.getElem?_toArray, List.getElem?_cons_zero, List.getElem?_cons_succ] at kc0 kc1 kc2
  obtain ⟨w8, hw8⟩ : ∃ w8, w8 = ((w4.setCell ⟨w.heap.size + 1, 0, none⟩ (.bool s)).setCell ⟨w.heap.size + 1, 1, none⟩ (.slice B m d)).setCell ⟨w.heap.size + 1, 2, none⟩ (.slice B' m' d') := ⟨_, rfl⟩
  obtain ⟨hu8, p0, p1, p2⟩ := rat_set kc0 kc1 kc2 _ _ _ _ _ _ _ _ hw8
  have HW4 := Lib.hid hw4
  have HW8 := Lib.hid hw8
  have HU8 := Lib.hid hu8
  have Q0 := Lib.hid p0
  have Q1 := Lib.hid p1
  have Q2 := Lib.hid p2
  rw [hw4] at r0 r1 r2 kc0 kc1 kc2 kf0 kf1 kf2
  clear kc kf q0 q1 q2 f1 f2 qr h3 hb3 hw4 hu4 hw8 hu8 p0 p1 p2
  go_wp2_with fail
  rw [← HW4.out, ← HW8.out]
  have q0 := Q0.out
  have q1 := Q1.out
  have q2 := Q2.out
  (try simp only [Exit.inBlock, Exit.then])
  refine bodyPost_ret (v := .agg #[.bool s, .slice B m d, .slice B' m' d']) (by simp [results, Tryz.results25, go_sem, q0, q1, q2]; done) rfl ?_
  exact ⟨_, rfl, ⟨_, _, by rw [← HSE.out], HLN.out.upb HU8.out, HLD.out.upb HU8.out⟩, HB4.out.trans (HU8.out.below (by omega) (by omega))⟩

set_option maxRecDepth 100000 in
set_option maxHeartbeats 4000000 in
theorem lentD_any (d : DV) (w : World) (A : Option Addr) (n c : Nat) (h : LAt w (.slice A n c) d.mag) (n1 : d.mag.length ≤ 1000000) :
    Calls Tryz.prog 34 #[.agg #[.bool d.neg, .slice A n c, .int .i64 d.exp]] w fun e w' => ∃ v', e = .returned v' ∧ LentD w' v' d ∧ Below w.heap.size w w' := by
  have HX := Lib.hid h
  have HN1 := Lib.hid n1
  obtain ⟨s, hs⟩ : ∃ s, s = d.neg := ⟨_, rfl⟩
  obtain ⟨ex, hex⟩ : ∃ ex, ex = d.exp := ⟨_, rfl⟩
  rw [← hs, ← hex]
  have HSE := Lib.hid hs
  have HEX := Lib.hid hex
  obtain ⟨w0, hw0⟩ : ∃ w0, w0 = (w.alloc (.cells #[.bool s, .slice A n c, .int .i64 ex] 46)).alloc (.cells #[.bool false, .slice none 0 0, .int .i64 0] 46) := ⟨_, rfl⟩
  have hb0 : Below w.heap.size w w0 := by rw [hw0]; exact below2 ..
  have g1 : w0.heap[w.heap.size]? = some (.cells #[.bool s, .slice A n c, .int .i64 ex] 46 (0, 0)) := by
    rw [hw0]; exact ((below1 (w.alloc _) _).block w.heap.size (by simp)).trans (blk_new w _ _)
  have g2 : w0.heap[w.heap.size + 1]? = some (.cells #[.bool false, .slice none 0 0, .int .i64 0] 46 (0, 0)) := by
    rw [hw0]; exact blk2 w _ _ _
  have z0 : w0.heap.size = w.heap.size + 2 := by rw [hw0]; simp
  have k1 := (blk_cells g1).1
  have k10 := k1 0
  have k11 := k1 1
  have k12 := k1 2
  simp only [List.getElem?_toArray, List.getElem?_cons_zero, List.getElem?_cons_succ] at k10 k11 k12
  have G1 := Lib.hid g1
  have G2 := Lib.hid g2
  have HB0 := Lib.hid hb0
  have HW0 := Lib.hid hw0
  rw [hw0] at k10 k11 k12
  clear h n1 hs hex hw0 hb0 g1 g2 k1
  go_enter Tryz.func34, Tryz.ntmps34
  go_wp2_with fail
  rw [← HW0.out]
  refine (lentL_any _ d.mag w0 (HX.out.below HB0.out) (by have := HN1.out; omega)).mono ?_
  rintro e w1 ⟨v1, rfl, h1, hb1⟩
  obtain ⟨B, m, dd, rfl⟩ := h1.shape
  have zz1 := hb1.size
  obtain ⟨kc, kf⟩ := blk_cells ((hb1.block w.heap.size (by omega)).trans G1.out)
  have kc0 := kc 0
  have kc1 := kc 1
  have kc2 := kc 2
  have kf1 := kf 1
  simp only [List.getElem?_toArray, List.getElem?_cons_zero, List.getElem?_cons_succ] at kc0 kc1 kc2
  obtain ⟨w2, hw2⟩ : ∃ w2, w2 = w1.setCell ⟨w.heap.size, 1, none⟩ (.slice B m dd) := ⟨_, rfl⟩
  obtain ⟨hu2, q1, qr⟩ := slice_set kc1 _ _ _ _ hw2
  have q0 := qr 0 _ (by decide) kc0
  have q2 := qr 2 _ (by decide) kc2
  have zz2 := hu2.size
  have HL2 := Lib.hid (h1.upl hu2)
  have HB2 := Lib.hid (HB0.out.trans ((hb1.mono HB0.out.size).trans (hu2.below (Nat.le_refl _) (by omega))))
  obtain ⟨lc, lf⟩ := blk_cells ((hu2.blk (w.heap.size + 1) (by omega) (by omega)).trans ((hb1.block (w.heap.size + 1) (by omega)).trans G2.out))
  have lc0 := lc 0
  have lc1 := lc 1
  have lc2 := lc 2
  have lf0 := lf 0
  have lf1 := lf 1
  have lf2 := lf 2
  simp only [List.getElem?_toArray, List.getElem?_cons_zero, List.getElem?_cons_succ] at lc0 lc1 lc2
  obtain ⟨w8, hw8⟩ : ∃ w8, w8 = ((w2.setCell ⟨w.heap.size + 1, 0, none⟩ (.bool s)).setCell ⟨w.heap.size + 1, 1, none⟩ (.slice B m dd)).setCell ⟨w.heap.size + 1, 2, none⟩ (.int .i64 ex) := ⟨_, rfl⟩
  obtain ⟨hu8, p0, p1, p2⟩ := num_set lc0 lc1 lc2 _ _ _ _ _ _ hw8
  have HW2 := Lib.hid hw2
  have HW8 := Lib.hid hw8
  have HU8 := Lib.hid hu8
  have Q0 := Lib.hid p0
  have Q1 := Lib.hid p1
  have Q2 := Lib.hid p2
  rw [hw2] at q0 q1 q2 lc0 lc1 lc2 lf0 lf1 lf2
  clear kc kf lc lf h1 hb1 hw2 hu2 qr k10 k11 k12 hw8 hu8 p0 p1 p2
  go_wp2_with fail
  rw [← HW2.out, ← HW8.out]
  have q0 := Q0.out
  have q1 := Q1.out
  have q2 := Q2.out
  (try simp only [Exit.inBlock, Exit.then])
  refine bodyPost_ret (v := .agg #[.bool s, .slice B m dd, .int .i64 ex]) (by simp [results, Tryz.results34, go_sem, q0, q1, q2]; done) rfl ?_
  exact ⟨_, rfl, ⟨_, by rw [← HSE.out, ← HEX.out], HL2.out.upl HU8.out⟩, HB2.out.trans (HU8.out.below (by omega) (by omega))⟩

set_option maxRecDepth 100000 in
set_option maxHeartbeats 4000000 in
theorem keptR_any (v1 v2 : Value) (r : RV) (w : World) (h1 : LentR w v1 r) (h2 : FAt w v2 r) (hl : LdR r) (n1 : r.num.length ≤ 1000000) (n2 : r.den.length ≤ 1000000) :
    Calls Tryz.prog 31 #[v1, v2] w fun e w' => e = .returned (.bool true) ∧ Below w.heap.size w w' := by
  have HS := Lib.hid (fun w (h1 : LentR w v1 r) (h2 : FAt w v2 r) => same_ratio v1 v2 r r w (h1.fat.rat hl) (h2.rat hl) (by omega) (by omega) (by omega) (by omega))
  rw [decide_eq_true (rfl : r = r)] at HS
  have H1 := Lib.hid h1
  have H2 := Lib.hid h2
  have HN1 := Lib.hid n1
  have HN2 := Lib.hid n2
  obtain ⟨vn, vd, rfl, hx, hy⟩ := h1
  obtain ⟨B, m, d, rfl⟩ : ∃ B m d, vn = .slice B m d := by obtain ⟨g, d, e, _⟩ := hx; exact ⟨_, _, _, e⟩
  obtain ⟨B', m', d', rfl⟩ : ∃ B m d, vd = .slice B m d := by obtain ⟨g, d, e, _⟩ := hy; exact ⟨_, _, _, e⟩
  obtain ⟨A, n, c, A', n', c', rfl, kx, ky⟩ := h2.shape
  obtain ⟨s, hs⟩ : ∃ s, s = r.neg := ⟨_, rfl⟩
  rw [← hs] at HS H1 H2 ⊢
  have HX := Lib.hid (And.intro hx kx)
  have HY := Lib.hid (And.intro hy ky)
  obtain ⟨w0, hw0⟩ : ∃ w0, w0 = (w.alloc (.cells #[.bool s, .slice B m d, .slice B' m' d'] 24)).alloc (.cells #[.bool s, .slice A n c, .slice A' n' c'] 24) := ⟨_, rfl⟩
  have hb0 : Below w.heap.size w w0 := by rw [hw0]; exact below2 ..
  have g1 : w0.heap[w.heap.size]? = some (.cells #[.bool s, .slice B m d, .slice B' m' d'] 24 (0, 0)) := by
    rw [hw0]; exact ((below1 (w.alloc _) _).block w.heap.size (by simp)).trans (blk_new w _ _)
  have g2 : w0.heap[w.heap.size + 1]? = some (.cells #[.bool s, .slice A n c, .slice A' n' c'] 24 (0, 0)) := by
    rw [hw0]; exact blk2 w _ _ _
  have k1 := (blk_cells g1).1
  have k2 := (blk_cells g2).1
  have k10 := k1 0
  have k11 := k1 1
  have k12 := k1 2
  have k20 := k2 0
  have k21 := k2 1
  have k22 := k2 2
  simp only [List.getElem?_toArray, List.getElem?_cons_zero, List.getElem?_cons_succ] at k10 k11 k12 k20 k21 k22
  have HK := Lib.hid (And.intro k11 (And.intro k12 (And.intro k21 k22)))
  have HB0 := Lib.hid hb0
  have HW0 := Lib.hid hw0
  rw [hw0] at k10 k11 k12 k20 k21 k22
  clear h2 hl n1 n2 hs hx hy kx ky hw0 hb0 g1 g2 k1 k2
  go_enter Tryz.func31, Tryz.ntmps31
  go_wp2_with fail
  rw [← HW0.out]
  refine (HS.out w0 (H1.out.below HB0.out) (H2.out.below HB0.out)).mono ?_
  rintro e w1 ⟨rfl, hb1⟩
  have HB1 := Lib.hid (HB0.out.trans (hb1.mono HB0.out.size))
  obtain ⟨k11, k12, k21, k22⟩ := HK.out
  have c11 := bat hb1 k11
  have c12 := bat hb1 k12
  have c21 := bat hb1 k21
  have c22 := bat hb1 k22
  clear hb1 k11 k12 k21 k22 k10 k20
  go_wp2_with fail
  refine (keptL_any _ _ r.num w1 (HX.out.1.below HB1.out) (HX.out.2.below HB1.out) (by have := HN1.out; omega)).mono ?_
  rintro e w2 ⟨rfl, hb2⟩
  have HB2 := Lib.hid (HB1.out.trans (hb2.mono HB1.out.size))
  have e12 := bat hb2 c12
  have e22 := bat hb2 c22
  clear hb2 c11 c12 c21 c22
  go_wp2_with fail
  refine (keptL_any _ _ r.den w2 (HY.out.1.below HB2.out) (HY.out.2.below HB2.out) (by have := HN2.out; omega)).mono ?_
  rintro e w3 ⟨rfl, hb3⟩
  have HB3 := Lib.hid (HB2.out.trans (hb3.mono HB2.out.size))
  clear hb3 e12 e22
  go_wp2_with fail
  go_ret
  exact ⟨rfl, HB3.out⟩

set_option maxRecDepth 100000 in
set_option maxHeartbeats 4000000 in
theorem sameD_any (s : Bool) (A A' : Option Addr) (n n' c c' : Nat) (ex : Int) (xs : List Nat) (w : World) (h1 : LAt w (.slice A n c) xs) (h2 : LAt w (.slice A' n' c') xs) (hn : xs.length ≤ 1000000) :
    Calls Tryz.prog 93 #[.agg #[.bool s, .slice A n c, .int .i64 ex], .agg #[.bool s, .slice A' n' c', .int .i64 ex]] w fun e w' => e = .returned (.bool true) ∧ Below w.heap.size w w' := by
  have e1 := lat_num h1
  have e2 := lat_num h2
  have hS : ∀ w, LAt w (.slice A n c) xs → LAt w (.slice A' n' c') xs → Calls Tryz.prog 59 #[.slice A n c, .slice A' n' c'] w fun e w' => e = .returned (.bool true) ∧ Below w.heap.size w w' := by
    intro w h1 h2
    obtain ⟨B, d, e, hc, hr⟩ := h1
    cases e
    obtain ⟨B', d', e, hc', hr'⟩ := h2
    cases e
    have h := same_limbs _ _ _ _ c c' xs xs _ _ w hr hr' (by omega) (by omega)
    rw [decide_eq_true (rfl : xs = xs)] at h
    exact h
  have HS := Lib.hid hS
  have H1 := Lib.hid h1
  have H2 := Lib.hid h2
  have ess : ((s == s) : Bool) = true := by simp
  have eee : ((ex == ex) : Bool) = true := by simp
  obtain ⟨w0, hw0⟩ : ∃ w0, w0 = (w.alloc (.cells #[.bool s, .slice A n c, .int .i64 ex] 46)).alloc (.cells #[.bool s, .slice A' n' c', .int .i64 ex] 46) := ⟨_, rfl⟩
  have hb0 : Below w.heap.size w w0 := by rw [hw0]; exact below2 ..
  have g1 : w0.heap[w.heap.size]? = some (.cells #[.bool s, .slice A n c, .int .i64 ex] 46 (0, 0)) := by
    rw [hw0]; exact ((below1 (w.alloc _) _).block w.heap.size (by simp)).trans (blk_new w _ _)
  have g2 : w0.heap[w.heap.size + 1]? = some (.cells #[.bool s, .slice A' n' c', .int .i64 ex] 46 (0, 0)) := by
    rw [hw0]; exact blk2 w _ _ _
  have k1 := (blk_cells g1).1
  have k2 := (blk_cells g2).1
  have k10 := k1 0
  have k11 := k1 1
  have k12 := k1 2
  have k20 := k2 0
  have k21 := k2 1
  have k22 := k2 2
  simp only [List.getElem?_toArray, List.getElem?_cons_zero, List.getElem?_cons_succ] at k10 k11 k12 k20 k21 k22
  have HK := Lib.hid (And.intro k10 (And.intro k11 (And.intro k12 (And.intro k20 (And.intro k21 k22)))))
  have HB0 := Lib.hid hb0
  have HW0 := Lib.hid hw0
  rw [hw0] at k10 k11 k12 k20 k21 k22
  clear h1 h2 hn e1 e2 hS hw0 hb0 g1 g2 k1 k2
  go_enter Tryz.func93, Tryz.ntmps93
  go_wp2_with fail
  rw [← HW0.out]
  refine (HS.out w0 (H1.out.below HB0.out) (H2.out.below HB0.out)).mono ?_
  rintro e w1 ⟨rfl, hb1⟩
  have HB1 := Lib.hid (HB0.out.trans (hb1.mono HB0.out.size))
  obtain ⟨k10, k11, k12, k20, k21, k22⟩ := HK.out
  have c12 := bat hb1 k12
  have c22 := bat hb1 k22
  clear hb1 k11 k12 k21 k22 k10 k20
  go_wp2_with fail
  go_ret
  exact ⟨rfl, HB1.out⟩

set_option maxRecDepth 100000 in
set_option maxHeartbeats 4000000 in
theorem keptD_any (v1 : Value) (d : DV) (A : Option Addr) (n c : Nat) (w : World) (h1 : LentD w v1 d) (h2 : LAt w (.slice A n c) d.mag) (n1 : d.mag.length ≤ 1000000) :
    Calls Tryz.prog 37 #[v1, .agg #[.bool d.neg, .slice A n c, .int .i64 d.exp]] w fun e w' => e = .returned (.bool true) ∧ Below w.heap.size w w' := by
  obtain ⟨vm, rfl, hx⟩ := h1
  obtain ⟨B, m, dd, rfl⟩ : ∃ B m d, vm = .slice B m d := by obtain ⟨g, d, e, _⟩ := hx; exact ⟨_, _, _, e⟩
  obtain ⟨s, hs⟩ : ∃ s, s = d.neg := ⟨_, rfl⟩
  obtain ⟨ex, hex⟩ : ∃ ex, ex = d.exp := ⟨_, rfl⟩
  rw [← hs, ← hex]
  have HX := Lib.hid hx
  have HX2 := Lib.hid hx.lat
  have HY := Lib.hid h2
  have HN1 := Lib.hid n1
  obtain ⟨w0, hw0⟩ : ∃ w0, w0 = (w.alloc (.cells #[.bool s, .slice B m dd, .int .i64 ex] 46)).alloc (.cells #[.bool s, .slice A n c, .int .i64 ex] 46) := ⟨_, rfl⟩
  have hb0 : Below w.heap.size w w0 := by rw [hw0]; exact below2 ..
  have g1 : w0.heap[w.heap.size]? = some (.cells #[.bool s, .slice B m dd, .int .i64 ex] 46 (0, 0)) := by
    rw [hw0]; exact ((below1 (w.alloc _) _).block w.heap.size (by simp)).trans (blk_new w _ _)
  have g2 : w0.heap[w.heap.size + 1]? = some (.cells #[.bool s, .slice A n c, .int .i64 ex] 46 (0, 0)) := by
    rw [hw0]; exact blk2 w _ _ _
  have k1 := (blk_cells g1).1
  have k2 := (blk_cells g2).1
  have k10 := k1 0
  have k11 := k1 1
  have k12 := k1 2
  have k20 := k2 0
  have k21 := k2 1
  have k22 := k2 2
  simp only [List.getElem?_toArray, List.getElem?_cons_zero, List.getElem?_cons_succ] at k10 k11 k12 k20 k21 k22
  have HK := Lib.hid (And.intro k11 k21)
  have HB0 := Lib.hid hb0
  have HW0 := Lib.hid hw0
  rw [hw0] at k10 k11 k12 k20 k21 k22
  clear h2 n1 hs hex hx hw0 hb0 g1 g2 k1 k2
  go_enter Tryz.func37, Tryz.ntmps37
  go_wp2_with fail
  rw [← HW0.out]
  refine (sameD_any s B A m n dd c ex d.mag w0 (HX2.out.below HB0.out) (HY.out.below HB0.out) HN1.out).mono ?_
  rintro e w1 ⟨rfl, hb1⟩
  have HB1 := Lib.hid (HB0.out.trans (hb1.mono HB0.out.size))
  obtain ⟨k11, k21⟩ := HK.out
  have c11 := bat hb1 k11
  have c21 := bat hb1 k21
  clear hb1 k11 k12 k21 k22 k10 k20
  go_wp2_with fail
  refine (keptL_any _ _ d.mag w1 (HX.out.below HB1.out) (HY.out.below HB1.out) (by have := HN1.out; omega)).mono ?_
  rintro e w2 ⟨rfl, hb2⟩
  have HB2 := Lib.hid (HB1.out.trans (hb2.mono HB1.out.size))
  clear hb2 c11 c21
  go_wp2_with fail
  go_ret
  exact ⟨rfl, HB2.out⟩

end Go.Proofs.YtjokpfgncmdomaaGreatDoor

/- girderref01.fields, Kind, Finite of a number: the walks -/
namespace Go.Proofs.YtjokpfgncmdomaaGreatDoor
open Go.RowKit Go.Sort

theorem run_f64b5 (b : Nat) (w : World) : (callFunc 58 #[.float .f64 b]).run Tryz.prog w = .ok (.value (.int .u64 (b : Int))) w := by
  rw [run_callFunc_extern (e := Extern.MathFloatBits.float64bits) Tryz.func58 (by kernel_rfl) (by kernel_rfl) (by kernel_rfl) (by kernel_rfl)]
  rfl

set_option maxRecDepth 100000 in
set_option maxHeartbeats 2000000 in
theorem fields_any (u : Nat) (w : World) (hu : u < 18446744073709551616) :
    Calls Tryz.prog 166 #[.float .f64 u] w fun e w' => e = .returned (.tuple #[.bool (decide (9223372036854775808 ≤ u)), .int .i64 ((u / 4503599627370496 % 2048 : Nat) : Int), .int .u64 ((u % 4503599627370496 : Nat) : Int)]) ∧ w = w' := by
  have hfb := fun w => run_f64b5 u w
  obtain ⟨b, hb⟩ : ∃ b, b = decide (9223372036854775808 ≤ u) := ⟨_, rfl⟩
  have e1 : ((u : Int) / 9223372036854775808 == 1) = b := by
    rw [hb]
    by_cases h : 9223372036854775808 ≤ u
    · rw [decide_eq_true h, show (u : Int) / 9223372036854775808 = 1 by omega]; rfl
    · rw [decide_eq_false h, show (u : Int) / 9223372036854775808 = 0 by omega]; rfl
  have e2 : ((u / 4503599627370496 % 2048 : Nat) : Int) = (u : Int) / 4503599627370496 % 2048 := by omega
  have e3 : ((u % 4503599627370496 : Nat) : Int) = (u : Int) % 4503599627370496 := by omega
  have e4 : IntKind.i64.wrap ((u : Int) / 4503599627370496 % 2048) = (u : Int) / 4503599627370496 % 2048 := IntWalk.i64_in _ (by omega)
  rw [← hb, e2, e3]
  clear hb e2 e3
  go_enter Tryz.func166, Tryz.ntmps166
  go_wp2_with fail
  go_ret3
  exact ⟨rfl, rfl⟩

set_option maxRecDepth 100000 in
set_option maxHeartbeats 2000000 in
theorem kind_any (u : Nat) (w : World) (hu : u < 18446744073709551616) (hf : u / 4503599627370496 % 2048 ≠ 2047) :
    Calls Tryz.prog 176 #[.float .f64 u] w fun e w' => ∃ k : Int, e = .returned (.int .i64 k) ∧ 0 ≤ k ∧ k ≤ 2 ∧ w = w' := by
  have HF := Lib.hid (fields_any u w hu)
  obtain ⟨E, hE⟩ : ∃ E, E = u / 4503599627370496 % 2048 := ⟨_, rfl⟩
  obtain ⟨f, hff⟩ : ∃ f, f = u % 4503599627370496 := ⟨_, rfl⟩
  rw [← hE] at HF hf
  rw [← hff] at HF
  have e1 : ((E : Int) == 2047) = false := by simp; omega
  clear hE hff hf
  by_cases h0 : 0 < E
  · go_enter Tryz.func176, Tryz.ntmps176
    go_wp2_with fail
    refine HF.out.mono ?_
    rintro e w1 ⟨rfl, rfl⟩
    go_wp2_with fail
    go_ret
    exact ⟨2, rfl, by decide, by decide, rfl⟩
  · obtain ⟨b, hb⟩ : ∃ b, ((f : Int) != 0) = b := ⟨_, rfl⟩
    cases b
    · go_enter Tryz.func176, Tryz.ntmps176
      go_wp2_with fail
      refine HF.out.mono ?_
      rintro e w1 ⟨rfl, rfl⟩
      go_wp2_with fail
      go_ret
      exact ⟨0, rfl, by decide, by decide, rfl⟩
    · go_enter Tryz.func176, Tryz.ntmps176
      go_wp2_with fail
      refine HF.out.mono ?_
      rintro e w1 ⟨rfl, rfl⟩
      go_wp2_with fail
      go_ret
      exact ⟨1, rfl, by decide, by decide, rfl⟩

set_option maxRecDepth 100000 in
set_option maxHeartbeats 2000000 in
theorem finite_any (u : Nat) (w : World) (hu : u < 18446744073709551616) (hf : u / 4503599627370496 % 2048 ≠ 2047) :
    Calls Tryz.prog 165 #[.float .f64 u] w fun e w' => e = .returned (.bool true) ∧ w = w' := by
  have HK := Lib.hid (kind_any u w hu hf)
  clear hf
  go_enter Tryz.func165, Tryz.ntmps165
  go_wp2_with fail
  refine HK.out.mono ?_
  rintro e w1 ⟨k, rfl, h1, h2, rfl⟩
  have hk : decide (k < 3) = true := decide_eq_true (by omega)
  go_wp2_with fail
  go_ret
  exact ⟨rfl, rfl⟩

end Go.Proofs.YtjokpfgncmdomaaGreatDoor

/- girderref01.Split: the walk -/
namespace Go.Proofs.YtjokpfgncmdomaaGreatDoor
open Go.RowKit Go.Sort

theorem blk_cells5 {w : World} {g : Nat} {cs : Array Value} {t : TypeId} (h : w.heap[g]? = some (.cells cs t (0, 0))) : (∀ i, w.cell? ⟨g, i, none⟩ = cs[i]?) ∧ (∀ i, w.frozen? ⟨g, i, none⟩ = false) :=
  ⟨fun i => by simp [World.cell?, h], fun i => by simp [World.frozen?, h]⟩

/-- the frozen cells of a box -/
def Fz (w : World) (g : Nat) : Prop := w.frozen? ⟨g, 0, none⟩ = false ∧ w.frozen? ⟨g, 1, none⟩ = false ∧ w.frozen? ⟨g, 2, none⟩ = false
theorem Fz.set {w : World} {g : Nat} (h : Fz w g) (g' o : Nat) (v : Value) : Fz (w.setCell ⟨g', o, none⟩ v) g := by
  obtain ⟨h0, h1, h2⟩ := h
  exact ⟨by simp [go_sem, h0], by simp [go_sem, h1], by simp [go_sem, h2]⟩
theorem Fz.below {w w' : World} {g : Nat} (h : Fz w g) (hb : Below w.heap.size w w') (hg : g < w.heap.size) : Fz w' g :=
  ⟨bfz hb hg h.1, bfz hb hg h.2.1, bfz hb hg h.2.2⟩
theorem Fz.of_blk {w : World} {g : Nat} {a b c : Value} {t : TypeId} (h : w.heap[g]? = some (.cells #[a, b, c] t (0, 0))) : Fz w g := by
  obtain ⟨_, kf⟩ := blk_cells5 h
  exact ⟨kf 0, kf 1, kf 2⟩
/-- parts in a box -/
def PAt (w : World) (g : Nat) (s : Bool) (f : Nat) (e : Int) : Prop := w.cell? ⟨g, 0, none⟩ = some (.bool s) ∧ w.cell? ⟨g, 1, none⟩ = some (.int .u64 (f : Int)) ∧ w.cell? ⟨g, 2, none⟩ = some (.int .i64 e)
/-- one block alone is written -/
structure Up1 (w w' : World) (b : Nat) : Prop where
  os : w'.os = w.os
  tape : w'.tape = w.tape
  output : w'.output = w.output
  size : w.heap.size ≤ w'.heap.size
  blk : ∀ k, k < w.heap.size → k ≠ b → w'.heap[k]? = w.heap[k]?
theorem Up1.set (w : World) (b o : Nat) (v : Value) : Up1 w (w.setCell ⟨b, o, none⟩ v) b := ⟨rfl, rfl, rfl, by simp, fun k _ hne => Below.heap_setCell _ _ _ _ hne⟩
theorem Up1.trans {w a c : World} {b : Nat} (h : Up1 w a b) (k : Up1 a c b) : Up1 w c b :=
  ⟨k.os.trans h.os, k.tape.trans h.tape, k.output.trans h.output, Nat.le_trans h.size k.size, fun i hi hne => (k.blk i (by have := h.size; omega) hne).trans (h.blk i hi hne)⟩
theorem Up1.below {w w' : World} {b B : Nat} (h : Up1 w w' b) (hB : B ≤ b) (hs : B ≤ w.heap.size) : Below B w w' := ⟨h.os, h.tape, h.output, h.size, fun k hk => h.blk k (by omega) (by omega)⟩
theorem part_f {w : World} {g : Nat} {s : Bool} {f : Nat} {e : Int} (h : PAt w g s f e) (f' : Nat) : PAt (w.setCell ⟨g, 1, none⟩ (.int .u64 (f' : Int))) g s f' e := by
  obtain ⟨h0, h1, h2⟩ := h
  exact ⟨by simp [go_sem, h0], by simp [go_sem, h1], by simp [go_sem, h2]⟩
theorem part_e {w : World} {g : Nat} {s : Bool} {f : Nat} {e : Int} (h : PAt w g s f e) (e' : Int) : PAt (w.setCell ⟨g, 2, none⟩ (.int .i64 e')) g s f e' := by
  obtain ⟨h0, h1, h2⟩ := h
  exact ⟨by simp [go_sem, h0], by simp [go_sem, h1], by simp [go_sem, h2]⟩


set_option maxRecDepth 100000 in
set_option maxHeartbeats 4000000 in
theorem split_walk (u : Nat) (w : World) (hu : u < 18446744073709551616) (hf : u / 4503599627370496 % 2048 ≠ 2047) (V f0 : Nat) (x0 : Int)
    (st1 : 0 < u / 4503599627370496 % 2048 → f0 = u % 4503599627370496 + 4503599627370496 ∧ x0 = ((u / 4503599627370496 % 2048 : Nat) : Int) - 1075) (st2 : u / 4503599627370496 % 2048 = 0 → f0 = u % 4503599627370496 ∧ x0 = -1074)
    (st3 : V = f0 * 2 ^ (x0 + 1074).toNat) (hexp : ∀ (f : Nat) (x : Int), f ≠ 0 → -1074 ≤ x → V = f * 2 ^ (x + 1074).toNat → x ≤ 1023) (hhalf : ∀ (f k : Nat), V = f * 2 ^ k → f % 2 = 0 → V = f / 2 * 2 ^ (k + 1)) :
    Calls Tryz.prog 133 #[.float .f64 u] w fun e w' => ∃ (f : Nat) (x : Int), e = .returned (.tuple #[.agg #[.bool (decide (9223372036854775808 ≤ u)), .int .u64 (f : Int), .int .i64 x], .bool true]) ∧ f < 18446744073709551616 ∧ -1074 ≤ x ∧ x ≤ 1100 ∧ V = f * 2 ^ (x + 1074).toNat ∧ Below w.heap.size w w' := by
  have hF0 := Lib.hid (fun w => finite_any u w hu hf)
  have hP0 := Lib.hid (fun w => fields_any u w hu)
  have hEl : u / 4503599627370496 % 2048 < 2047 := by omega
  have hFl : u % 4503599627370496 < 4503599627370496 := by omega
  obtain ⟨E, hE⟩ : ∃ E, E = u / 4503599627370496 % 2048 := ⟨_, rfl⟩
  obtain ⟨F, hF⟩ : ∃ F, F = u % 4503599627370496 := ⟨_, rfl⟩
  obtain ⟨s, hs⟩ : ∃ s, s = decide (9223372036854775808 ≤ u) := ⟨_, rfl⟩
  rw [← hE, ← hF, ← hs] at hP0
  rw [← hE, ← hF] at st1 st2
  rw [← hE] at hEl
  rw [← hF] at hFl
  rw [← hs]
  have hfx : f0 < 18446744073709551616 ∧ -1074 ≤ x0 := by
    by_cases h0 : 0 < E
    · have := st1 h0; omega
    · have := st2 (by omega); omega
  have HFB := Lib.hid hfx.1
  have HXB := Lib.hid hfx.2
  have HEXP := Lib.hid hexp
  have HHALF := Lib.hid hhalf
  have ST := Lib.hid (And.intro st1 (And.intro st2 st3))
  obtain ⟨w0, hw0⟩ : ∃ w0, w0 = w.alloc (.cells #[.bool false, .int .u64 0, .int .i64 0] 141) := ⟨_, rfl⟩
  have g0 : w0.heap[w.heap.size]? = some (.cells #[.bool false, .int .u64 0, .int .i64 0] 141 (0, 0)) := by rw [hw0]; exact blk_new ..
  have hb0 : Below w.heap.size w w0 := by rw [hw0]; exact below1 ..
  have z0 : w0.heap.size = w.heap.size + 1 := by rw [hw0]; simp
  obtain ⟨w1, hw1⟩ : ∃ w1, w1 = w0.alloc (.cells #[.bool s, .int .u64 (F : Int), .int .i64 (-1074)] 141) := ⟨_, rfl⟩
  have g1 : w1.heap[w.heap.size + 1]? = some (.cells #[.bool s, .int .u64 (F : Int), .int .i64 (-1074)] 141 (0, 0)) := by rw [hw1, ← z0]; exact blk_new ..
  have hb1 : Below w0.heap.size w0 w1 := by rw [hw1]; exact below1 ..
  have z1 : w1.heap.size = w.heap.size + 2 := by rw [hw1]; simp; omega
  have kc := (blk_cells5 g1).1
  have kc0 := kc 0
  have kc1 := kc 1
  have kc2 := kc 2
  simp only [List.getElem?_toArray, List.getElem?_cons_zero, List.getElem?_cons_succ] at kc0 kc1 kc2
  have HP1 : Hid (PAt w1 (w.heap.size + 1) s F (-1074)) := Lib.hid ⟨kc0, kc1, kc2⟩
  have HF1 := Lib.hid (Fz.of_blk g1)
  have HG1 := Lib.hid ((hb1.block w.heap.size (by omega)).trans g0)
  have HB1 := Lib.hid (hb0.trans (hb1.mono hb0.size))
  have HW0 := Lib.hid hw0
  have HW1 := Lib.hid hw1
  clear hfx hE hF hs hexp hhalf st1 st2 st3 g0 hb0 hw1 g1 hb1 kc kc0 kc1 kc2 hf
  go_enter Tryz.func133, Tryz.ntmps133
  go_wp2_with fail
  rw [← HW0.out]
  refine (hF0.out w0).mono ?_
  rintro e wa ⟨rfl, rfl⟩
  clear hw0
  go_wp2_with fail
  refine (hP0.out w0).mono ?_
  rintro e wb ⟨rfl, rfl⟩
  go_upto_if 22 with fail
  rw [← HW1.out]
  obtain ⟨p0, p1, p2⟩ := HP1.out
  obtain ⟨z1', z2, z3⟩ := HF1.out
  go_cut [] (fun wx => PAt wx (w.heap.size + 1) s f0 x0 ∧ Fz wx (w.heap.size + 1) ∧ wx.heap[w.heap.size]? = some (.cells #[.bool false, .int .u64 0, .int .i64 0] 141 (0, 0)) ∧ Below w.heap.size w wx ∧ w.heap.size + 2 ≤ wx.heap.size)
  case first =>
    by_cases h0 : 0 < E
    · have hst := ST.out.1 h0
      have e1 : IntKind.u64.wrap ((F : Int) + 4503599627370496) = ((F + 4503599627370496 : Nat) : Int) := by rw [IntKind.wrap_u64]; omega
      have d1 : decide ((0 : Int) < (E : Int)) = true := decide_eq_true (by omega)
      have hf := hst.1
      have hx := hst.2
      have HFX := Lib.hid (And.intro hf hx)
      clear hst hf hx
      go_wp2_with fail
      go_meet
      have hp := part_e (part_f HP1.out (F + 4503599627370496)) ((E : Int) - 1075)
      have hz := (HF1.out.set (w.heap.size + 1) 1 (.int .u64 ((F + 4503599627370496 : Nat) : Int))).set (w.heap.size + 1) 2 (.int .i64 ((E : Int) - 1075))
      have hu := (Up1.set w1 (w.heap.size + 1) 1 (.int .u64 ((F + 4503599627370496 : Nat) : Int))).trans (Up1.set _ (w.heap.size + 1) 2 (.int .i64 ((E : Int) - 1075)))
      refine ⟨?_, hz, (hu.blk _ (by omega) (by omega)).trans HG1.out, HB1.out.trans (hu.below (by omega) (by omega)), Nat.le_trans (by omega : w.heap.size + 2 ≤ w1.heap.size) hu.size⟩
      rw [HFX.out.1, HFX.out.2]
      exact hp
    · have hst := ST.out.2.1 (by omega)
      have d1 : decide ((0 : Int) < (E : Int)) = false := decide_eq_false (by omega)
      have HFX := Lib.hid hst
      clear hst
      go_wp2_with fail
      go_meet
      refine ⟨?_, HF1.out, HG1.out, HB1.out, by omega⟩
      rw [HFX.out.1, HFX.out.2]
      exact HP1.out
  case rest =>
    clear p0 p1 p2 z1' z2 z3
    obtain ⟨hp, hz, hg, hb, hsz⟩ := hcut
    have HPc := Lib.hid hp
    have HZc := Lib.hid hz
    have HGc := Lib.hid hg
    have HBc := Lib.hid hb
    obtain ⟨p0, p1, p2⟩ := hp
    obtain ⟨z1', z2, z3⟩ := hz
    have HST3 := Lib.hid ST.out.2.2
    clear hg hb ST HP1 HF1 HG1 HB1 HW1 HW0
    go_upto_if 31 with fail
    go_cut [] (fun wx => ∃ (f : Nat) (x : Int), f < 18446744073709551616 ∧ -1074 ≤ x ∧ x ≤ 1023 ∧ V = f * 2 ^ (x + 1074).toNat ∧ PAt wx (w.heap.size + 1) s f x ∧ Fz wx (w.heap.size + 1) ∧ wx.heap[w.heap.size]? = some (.cells #[.bool false, .int .u64 0, .int .i64 0] 141 (0, 0)) ∧ Below w.heap.size w wx ∧ w.heap.size + 2 ≤ wx.heap.size)
    case first =>
      by_cases h0 : f0 = 0
      · have d1 : ((f0 : Int) == 0) = true := by rw [h0]; rfl
        have H0 := Lib.hid h0
        clear h0
        go_wp2_with fail
        go_meet
        have hp := part_e HPc.out 0
        have hu := Up1.set wc (w.heap.size + 1) 2 (.int .i64 0)
        refine ⟨f0, 0, by have := H0.out; omega, by omega, by omega, ?_, hp, HZc.out.set _ _ _, (hu.blk _ (by omega) (by omega)).trans HGc.out, HBc.out.trans (hu.below (by omega) (by omega)), Nat.le_trans hsz hu.size⟩
        rw [HST3.out, H0.out, Nat.zero_mul, Nat.zero_mul]
      · have d1 : ((f0 : Int) == 0) = false := by simp; omega
        have H0 := Lib.hid h0
        clear h0
        go_wp2_with fail
        go_meet
        exact ⟨f0, x0, HFB.out, HXB.out, HEXP.out f0 x0 H0.out HXB.out HST3.out, HST3.out, HPc.out, HZc.out, HGc.out, HBc.out, by omega⟩
    case rest =>
      clear p0 p1 p2 z1' z2 z3 HPc HZc HGc HBc HST3 hsz
      go_wp2_with fail
      go_loopw [] (fun wr => ∃ (f : Nat) (x : Int), f < 18446744073709551616 ∧ -1074 ≤ x ∧ x ≤ 1023 ∧ V = f * 2 ^ (x + 1074).toNat ∧ PAt wr (w.heap.size + 1) s f x ∧ Fz wr (w.heap.size + 1) ∧ wr.heap[w.heap.size]? = some (.cells #[.bool false, .int .u64 0, .int .i64 0] 141 (0, 0)) ∧ Below w.heap.size w wr ∧ w.heap.size + 2 ≤ wr.heap.size) (fun wr => (intOf ((wr.cell? ⟨w.heap.size + 1, 1, none⟩).getD (.bool false))).toNat)
      case atStart => exact hcut
      case round =>
        obtain ⟨f, x, hf1, hx1, hx2, hv, hp, hz, hg, hb, hsz⟩ := hrel
        have HPr := Lib.hid hp
        have HZr := Lib.hid hz
        have HGr := Lib.hid hg
        have HBr := Lib.hid hb
        obtain ⟨p0, p1, p2⟩ := hp
        obtain ⟨z1', z2, z3⟩ := hz
        by_cases hgo : f ≠ 0 ∧ f % 2 = 0
        · have d1 : ((f : Int) != 0) = true := by simp; omega
          have d2 : ((f : Int) % 2 == 0) = true := by simp; omega
          have e1 : IntKind.i64.wrap (x + 1) = x + 1 := IntWalk.i64_in _ (by omega)
          have hv2 := HHALF.out f (x + 1074).toNat hv hgo.2
          have ex1 : (x + 1074).toNat + 1 = (x + 1 + 1074).toNat := by omega
          rw [ex1] at hv2
          have hx3 := HEXP.out (f / 2) (x + 1) (by omega) (by omega) hv2
          have HV2 := Lib.hid hv2
          have hfn := hgo.1
          have HGO := Lib.hid hgo
          clear hv hgo ex1 hv2 hg hb
          go_wp2_with fail
          have hp := part_e (part_f HPr.out (f / 2)) (x + 1)
          have hz := (HZr.out.set (w.heap.size + 1) 1 (.int .u64 ((f / 2 : Nat) : Int))).set (w.heap.size + 1) 2 (.int .i64 (x + 1))
          have hu := (Up1.set wr (w.heap.size + 1) 1 (.int .u64 ((f / 2 : Nat) : Int))).trans (Up1.set _ (w.heap.size + 1) 2 (.int .i64 (x + 1)))
          refine ⟨⟨f / 2, x + 1, by omega, by omega, hx3, HV2.out, hp, hz, (hu.blk _ (by omega) (by omega)).trans HGr.out, HBr.out.trans (hu.below (by omega) (by omega)), Nat.le_trans hsz hu.size⟩, ?_⟩
          have hp1 := hp.2.1
          have e9 : ((f / 2 : Nat) : Int) = (f : Int) / 2 := by omega
          rw [e9] at hp1
          rw [hp1, HPr.out.2.1]
          simp [intOf]
          have := HGO.out
          omega
        · obtain ⟨kc, kf⟩ := blk_cells5 hg
          have kc0 := kc 0
          have kc1 := kc 1
          have kc2 := kc 2
          have kf0 := kf 0
          have kf1 := kf 1
          have kf2 := kf 2
          simp only [List.getElem?_toArray, List.getElem?_cons_zero, List.getElem?_cons_succ] at kc0 kc1 kc2
          obtain ⟨w8, hw8⟩ : ∃ w8, w8 = ((wr.setCell ⟨w.heap.size, 0, none⟩ (.bool s)).setCell ⟨w.heap.size, 1, none⟩ (.int .u64 (f : Int))).setCell ⟨w.heap.size, 2, none⟩ (.int .i64 x) := ⟨_, rfl⟩
          have hu8 : Up1 wr w8 w.heap.size := by rw [hw8]; exact ((Up1.set ..).trans (Up1.set ..)).trans (Up1.set ..)
          have q0 : w8.cell? ⟨w.heap.size, 0, none⟩ = some (.bool s) := by rw [hw8]; simp [go_sem, kc0]
          have q1 : w8.cell? ⟨w.heap.size, 1, none⟩ = some (.int .u64 (f : Int)) := by rw [hw8]; simp [go_sem, kc1]
          have q2 : w8.cell? ⟨w.heap.size, 2, none⟩ = some (.int .i64 x) := by rw [hw8]; simp [go_sem, kc2]
          have HW8 := Lib.hid hw8
          have HV := Lib.hid hv
          have HB8 := Lib.hid (HBr.out.trans (hu8.below (Nat.le_refl _) (by omega)))
          have Q0 := Lib.hid q0
          have Q1 := Lib.hid q1
          have Q2 := Lib.hid q2
          clear kc kf hg hb hw8 hu8 hv q0 q1 q2
          by_cases h0 : f = 0
          · have d1 : ((f : Int) != 0) = false := by rw [h0]; rfl
            clear hgo h0
            go_wp2_with fail
            rw [← HW8.out]
            have q0 := Q0.out
            have q1 := Q1.out
            have q2 := Q2.out
            (try simp only [Exit.inBlock, Exit.then])
            refine bodyPost_ret (v := .tuple #[.agg #[.bool s, .int .u64 (f : Int), .int .i64 x], .bool true]) (by simp [results, Tryz.results133, go_sem, q0, q1, q2]; done) rfl ?_
            exact ⟨f, x, rfl, hf1, hx1, by omega, HV.out, HB8.out⟩
          · have d1 : ((f : Int) != 0) = true := by simp; omega
            have d2 : ((f : Int) % 2 == 0) = false := by
              have : f % 2 ≠ 0 := fun h => hgo ⟨h0, h⟩
              simp; omega
            clear hgo h0
            go_wp2_with fail
            rw [← HW8.out]
            have q0 := Q0.out
            have q1 := Q1.out
            have q2 := Q2.out
            (try simp only [Exit.inBlock, Exit.then])
            refine bodyPost_ret (v := .tuple #[.agg #[.bool s, .int .u64 (f : Int), .int .i64 x], .bool true]) (by simp [results, Tryz.results133, go_sem, q0, q1, q2]; done) rfl ?_
            exact ⟨f, x, rfl, hf1, hx1, by omega, HV.out, HB8.out⟩

end Go.Proofs.YtjokpfgncmdomaaGreatDoor

/- girderref02.Float, girderref07.Of, what Of tells of any float: the walks -/
namespace Go.Proofs.YtjokpfgncmdomaaGreatDoor
open Go.RowKit Go.Sort

/-- Split of a number -/
theorem split_any (u : Nat) (w : World) (hu : u < 18446744073709551616) (hf : u % 9223372036854775808 < 9218868437227405312) :
    Calls Tryz.prog 133 #[.float .f64 u] w fun e w' => ∃ (f : Nat) (x : Int), e = .returned (.tuple #[.agg #[.bool (decide (9223372036854775808 ≤ u)), .int .u64 (f : Int), .int .i64 x], .bool true]) ∧ f < 18446744073709551616 ∧ -1074 ≤ x ∧ x ≤ 1100 ∧ Vr (u % 9223372036854775808) = f * 2 ^ (x + 1074).toNat ∧ Below w.heap.size w w' := by
  obtain ⟨g, hg⟩ : ∃ g, g = u % 9223372036854775808 := ⟨_, rfl⟩
  have hgE : u / 4503599627370496 % 2048 = g / 4503599627370496 := by omega
  have hgF : u % 4503599627370496 = g % 4503599627370496 := by omega
  rw [← hg] at hf ⊢
  obtain ⟨V, hV⟩ : ∃ V, V = Vr g := ⟨_, rfl⟩
  rw [← hV]
  have hexp : ∀ (f : Nat) (x : Int), f ≠ 0 → -1074 ≤ x → V = f * 2 ^ (x + 1074).toNat → x ≤ 1023 := fun f x h1 h2 h3 => split_exp (g := g) hf h1 h2 (by rw [← hV]; exact h3)
  by_cases h0 : 0 < u / 4503599627370496 % 2048
  · refine split_walk u w hu (by omega) V (u % 4503599627370496 + 4503599627370496) (((u / 4503599627370496 % 2048 : Nat) : Int) - 1075) (fun _ => ⟨rfl, rfl⟩) (fun h => by omega) ?_ hexp (fun f k => split_half)
    rw [hV, hgF]
    exact split_nor hgE h0
  · refine split_walk u w hu (by omega) V (u % 4503599627370496) (-1074) (fun h => by omega) (fun _ => ⟨rfl, rfl⟩) ?_ hexp (fun f k => split_half)
    rw [hV, hgF]
    exact split_sub (by omega)

set_option maxRecDepth 100000 in
set_option maxHeartbeats 4000000 in
theorem float02_any (u : Nat) (w : World) (hu : u < 18446744073709551616) (hf : u % 9223372036854775808 < 9218868437227405312) :
    Calls Tryz.prog 86 #[.float .f64 u] w fun e w' => ∃ (v' : Value) (f : Nat) (x : Int), e = .returned v' ∧ NAt w' v' (decide (9223372036854775808 ≤ u)) (lim f) x ∧ f < 18446744073709551616 ∧ -1074 ≤ x ∧ x ≤ 1100 ∧ Vr (u % 9223372036854775808) = f * 2 ^ (x + 1074).toNat ∧ Below w.heap.size w w' := by
  have HSP := Lib.hid (fun w => split_any u w hu hf)
  obtain ⟨s, hs⟩ : ∃ s, s = decide (9223372036854775808 ≤ u) := ⟨_, rfl⟩
  obtain ⟨V, hV⟩ : ∃ V, V = Vr (u % 9223372036854775808) := ⟨_, rfl⟩
  rw [← hs, ← hV] at HSP
  rw [← hs, ← hV]
  obtain ⟨w0, hw0⟩ : ∃ w0, w0 = w.alloc (.cells #[.bool false, .slice none 0 0, .int .i64 0] 102) := ⟨_, rfl⟩
  have hb0 : Below w.heap.size w w0 := by rw [hw0]; exact below1 ..
  have g0 : w0.heap[w.heap.size]? = some (.cells #[.bool false, .slice none 0 0, .int .i64 0] 102 (0, 0)) := by rw [hw0]; exact blk_new ..
  have z0 : w0.heap.size = w.heap.size + 1 := by rw [hw0]; simp
  have G0 := Lib.hid g0
  have HB0 := Lib.hid hb0
  have HW0 := Lib.hid hw0
  clear hs hV hu hf hw0 hb0 g0
  go_enter Tryz.func86, Tryz.ntmps86
  go_wp2_with fail
  rw [← HW0.out]
  refine (HSP.out w0).mono ?_
  rintro e w1 ⟨f, x, rfl, hf1, hx1, hx2, hv, hb1⟩
  have HV := Lib.hid hv
  have zz1 := hb1.size
  obtain ⟨w2, hw2⟩ : ∃ w2, w2 = w1.alloc (.cells #[.bool s, .int .u64 (f : Int), .int .i64 x] 141) := ⟨_, rfl⟩
  have hb2 : Below w1.heap.size w1 w2 := by rw [hw2]; exact below1 ..
  have kc := (blk_cells (show w2.heap[w1.heap.size]? = some (.cells #[.bool s, .int .u64 (f : Int), .int .i64 x] 141 (0, 0)) by rw [hw2]; exact blk_new ..)).1
  have k10 := kc 0
  have k11 := kc 1
  have k12 := kc 2
  simp only [List.getElem?_toArray, List.getElem?_cons_zero, List.getElem?_cons_succ] at k10 k11 k12
  have zz2 := hb2.size
  have G2 := Lib.hid ((hb2.block w.heap.size (by omega)).trans ((hb1.block w.heap.size (by omega)).trans G0.out))
  have HB2 := Lib.hid (HB0.out.trans ((hb1.mono HB0.out.size).trans (hb2.mono (by omega))))
  have HW2 := Lib.hid hw2
  obtain ⟨pb, hpb⟩ : ∃ pb, pb = w1.heap.size := ⟨_, rfl⟩
  clear kc hv hb1 hb2 hw2
  go_wp2_with fail
  rw [← HW2.out]
  rw [← hpb] at k10 k11 k12 ⊢
  have zpb : w.heap.size < pb := by omega
  clear hpb
  refine wp_region_G (S := (fun w' => w'.cell? ⟨pb, 0, none⟩ = some (.bool s) ∧ w'.cell? ⟨pb, 1, none⟩ = some (.int .u64 (f : Int)) ∧ w'.cell? ⟨pb, 2, none⟩ = some (.int .i64 x))) 8 (by kernel_rfl) ?_ (fun hHeld => ?_)
  · first | exact True.intro | ((try dsimp only); go_keep)
  refine tkG (i := 0) (v := ?_) rfl (by kernel_rfl) (Or.inl ⟨by kernel_rfl, ?_⟩) (by assumption) ?_
  rotate_left 1
  · (intro w hSw; (try dsimp only at hSw); go_simp; try with_reducible rfl)
  try simp only [lyA, lyB, lyC, Act.put, lyD, lyE, lyF]
  refine tkG (i := 1) (v := ?_) rfl (by kernel_rfl) (Or.inl ⟨by kernel_rfl, ?_⟩) (by assumption) ?_
  rotate_left 1
  · (intro w hSw; (try dsimp only at hSw); go_simp; try with_reducible rfl)
  try simp only [lyA, lyB, lyC, Act.put, lyD, lyE, lyF]
  refine tkG (i := 2) (v := ?_) rfl (by kernel_rfl) (Or.inl ⟨by kernel_rfl, ?_⟩) (by assumption) ?_
  rotate_left 1
  · (intro w hSw; (try dsimp only at hSw); go_simp; try with_reducible rfl)
  try simp only [lyA, lyB, lyC, Act.put, lyD, lyE, lyF]
  refine tkG (i := 3) (v := ?_) rfl (by kernel_rfl) (Or.inl ⟨by kernel_rfl, ?_⟩) (by assumption) ?_
  rotate_left 1
  · (intro w hSw; (try dsimp only at hSw); go_simp; try with_reducible rfl)
  try simp only [lyA, lyB, lyC, Act.put, lyD, lyE, lyF]
  refine tkG (i := 5) (v := ?_) rfl (by kernel_rfl) (Or.inl ⟨by kernel_rfl, ?_⟩) (by assumption) ?_
  rotate_left 1
  · (intro w hSw; (try dsimp only at hSw); go_simp; try with_reducible rfl)
  try simp only [lyA, lyB, lyC, Act.put, lyD, lyE, lyF]
  refine tkG (i := 6) (v := ?_) rfl (by kernel_rfl) (Or.inl ⟨by kernel_rfl, ?_⟩) (by assumption) ?_
  rotate_left 1
  · (intro w hSw; (try dsimp only at hSw); go_simp; try with_reducible rfl)
  try simp only [lyA, lyB, lyC, Act.put, lyD, lyE, lyF]
  refine wpAnyG_one (i := 4) (by kernel_rfl) rfl (fun K hK => ?_)
  go_simp
  (refine (natOf_any f w2.drew (by omega)).mono ?_; rintro e wb ⟨vb, rfl, hvb, hbb⟩; obtain ⟨y0, y1, y2⟩ := hHeld; have t0 := bat hbb y0; have t1 := bat hbb y1; have t2 := bat hbb y2; have HVB := Lib.hid hvb; have HBb : Hid (Below w2.heap.size w2 wb) := Lib.hid ((Below.refl w2.heap.size w2).drew.trans hbb); clear hvb hbb y0 y1 y2; have f1 := blk_cells ((HBb.out.block w.heap.size (by omega)).trans G2.out); have f10 := f1.2 0; have f11 := f1.2 1; have f12 := f1.2 2; have kc0 := f1.1 0; have kc1 := f1.1 1; have kc2 := f1.1 2; simp only [List.getElem?_toArray, List.getElem?_cons_zero, List.getElem?_cons_succ] at kc0 kc1 kc2; clear f1; obtain ⟨B', m', d', rfl, hlb⟩ : ∃ B m d, vb = .slice B m d ∧ True := (by obtain ⟨B, d, e, _, _⟩ := HVB.out; exact ⟨_, _, _, e, trivial⟩); clear hlb)
  try go_wp2_with fail
  refine (fun hHeld => hK.out _ _ (.inl hHeld) (fun _ => ?_)) ?_
  rotate_left 1
  · first | exact True.intro | ((try dsimp only); go_keep)
  clear hK K
  try simp only [lyA, lyB, lyC, Act.put, lyD, lyE, lyF]
  refine wpAnyG_one (i := 7) (by kernel_rfl) rfl (fun K hK => ?_)
  go_simp
  refine (fun hHeld => hK.out _ _ (.inl hHeld) (fun _ => ?_)) ?_
  rotate_left 1
  · first | exact True.intro | ((try dsimp only); go_keep)
  clear hK K
  try simp only [lyA, lyB, lyC, Act.put, lyD, lyE, lyF]
  refine wpAnyG_one (i := 8) (by kernel_rfl) rfl (fun K hK => ?_)
  go_simp
  refine hK.out _ _ ?_ (fun hHeld => ?_)
  · exact .inr (by kernel_rfl)
  clear hK K
  try simp only [lyA, lyB, lyC, Act.put, lyD, lyE, lyF]
  refine wpAnyG_done (by kernel_rfl) ?_ _
  obtain ⟨w6, hw6⟩ : ∃ w6, w6 = ((wb.setCell ⟨w.heap.size, 0, none⟩ (.bool s)).setCell ⟨w.heap.size, 1, none⟩ (.slice B' m' d')).setCell ⟨w.heap.size, 2, none⟩ (.int .i64 x) := ⟨_, rfl⟩
  obtain ⟨hu6, q0, q1, q2⟩ := num_set kc0 kc1 kc2 _ _ _ _ _ _ hw6
  rw [← hw6]
  have HU6 := Lib.hid hu6
  have Q0 := Lib.hid q0
  have Q1 := Lib.hid q1
  have Q2 := Lib.hid q2
  clear hw6 hu6 q0 q1 q2 f10 f11 f12 kc0 kc1 kc2
  go_wp2_with fail
  have hu6 := HU6.out
  have q0 := Q0.out
  have q1 := Q1.out
  have q2 := Q2.out
  (try simp only [Exit.inBlock, Exit.then])
  refine bodyPost_ret (v := .agg #[.bool s, .slice B' m' d', .int .i64 x]) (by simp [results, Tryz.results86, go_sem, q0, q1, q2]; done) rfl ?_
  exact ⟨_, f, x, rfl, ⟨_, _, _, rfl, HVB.out.upl hu6⟩, hf1, hx1, hx2, HV.out, HB2.out.trans ((HBb.out.mono HB2.out.size).trans (hu6.below (by omega) (by have := HBb.out.size; omega)))⟩

/-- what Of tells -/
def ofFE (u : Nat) : Int := if finB u = true then 0 else 5
def ofFR (u : Nat) : RV := if finB u = true then rv (fltQ (decide (9223372036854775808 ≤ u)) (u % 9223372036854775808)) else noR
theorem ofF_prog (u : Nat) (w : World) (hu : u < 18446744073709551616) : Calls Tryz.prog 32 #[.float .f64 u] w fun e w' => ∃ v, e = .returned (.tuple #[v, .int .i64 (ofFE u)]) ∧ RAt w' v (ofFR u) ∧ Below w.heap.size w w' := by
  unfold ofFE ofFR
  cases h : finB u
  · have h2 : u / 2 ^ 52 % 2048 = 2047 := by
      have h : ¬ u % 9223372036854775808 < 9218868437227405312 := of_decide_eq_false h
      have e52 : (2 : Nat) ^ 52 = 4503599627370496 := by decide
      omega
    refine (of_inf u w hu h2).mono ?_
    rintro e w' ⟨v, rfl, hv, hb⟩
    exact ⟨v, rfl, hv, hb⟩
  · refine (of_flt u w hu (of_decide_eq_true h)).mono ?_
    rintro e w' ⟨v, rfl, hv, hb⟩
    exact ⟨v, rfl, hv.1, hb⟩

set_option maxRecDepth 100000 in
set_option maxHeartbeats 4000000 in
theorem ofF_ref (u : Nat) (w : World) (hu : u < 18446744073709551616) : Calls Tryz.prog 33 #[.float .f64 u] w fun e w' => ∃ v, e = .returned (.tuple #[v, .int .i64 (ofFE u)]) ∧ RAt w' v (ofFR u) ∧ Below w.heap.size w w' := by
  obtain ⟨en, hen⟩ : ∃ en, en = ofFE u := ⟨_, rfl⟩
  obtain ⟨nr, hnr⟩ : ∃ nr, nr = ofFR u := ⟨_, rfl⟩
  rw [← hen, ← hnr]
  have HEN := Lib.hid hen
  have HNR := Lib.hid hnr
  obtain ⟨w0, hw0⟩ : ∃ w0, w0 = w.alloc (.cells #[.bool false, .slice none 0 0, .slice none 0 0] 24) := ⟨_, rfl⟩
  have hb0 : Below w.heap.size w w0 := by rw [hw0]; exact below1 ..
  have g0 : w0.heap[w.heap.size]? = some (.cells #[.bool false, .slice none 0 0, .slice none 0 0] 24 (0, 0)) := by rw [hw0]; exact blk_new ..
  have z0 : w0.heap.size = w.heap.size + 1 := by rw [hw0]; simp
  obtain ⟨sb, sn, hrun, hsb⟩ := sub_self 29 u w0
  obtain ⟨bf, hbf⟩ : ∃ bf, bf = finB u := ⟨_, rfl⟩
  rw [← hbf] at hsb
  have hsb2 : (FloatKind.f64.format.order sb 0 != some Ordering.eq) = !bf := by rw [bne, hsb]
  obtain ⟨w1, hw1⟩ : ∃ w1, w1 = w0.drewN sn := ⟨_, rfl⟩
  have hb1 : Below w0.heap.size w0 w1 := by rw [hw1]; exact below_drewN (Below.refl _ _) sn
  have z1 : w1.heap.size = w0.heap.size := by rw [hw1]; rfl
  have G1 := Lib.hid ((hb1.block w.heap.size (by omega)).trans g0)
  have HB1 := Lib.hid (hb0.trans (hb1.mono hb0.size))
  have HBF := Lib.hid hbf
  have HW1 := Lib.hid hw1
  rw [hw0] at hrun
  have HW0 := Lib.hid hw0
  clear hen hnr hbf hb0 hb1 g0 hw0 hw1 hsb
  cases bf
  · have HE : Hid (en = 5) := Lib.hid (HEN.out.trans (if_neg (by rw [← HBF.out]; decide)))
    have HR : Hid (nr = noR) := Lib.hid (HNR.out.trans (if_neg (by rw [← HBF.out]; decide)))
    obtain ⟨kc, kf⟩ := blk_cells G1.out
    have kc0 := kc 0
    have kc1 := kc 1
    have kc2 := kc 2
    have kf0 := kf 0
    have kf1 := kf 1
    have kf2 := kf 2
    simp only [List.getElem?_toArray, List.getElem?_cons_zero, List.getElem?_cons_succ] at kc0 kc1 kc2
    obtain ⟨w8, hw8⟩ : ∃ w8, w8 = ((w1.setCell ⟨w.heap.size, 0, none⟩ (.bool false)).setCell ⟨w.heap.size, 1, none⟩ (.slice none 0 0)).setCell ⟨w.heap.size, 2, none⟩ (.slice none 0 0) := ⟨_, rfl⟩
    obtain ⟨hu8, q0, q1, q2⟩ := rat_set kc0 kc1 kc2 _ _ _ _ _ _ _ _ hw8
    have HW8 := Lib.hid hw8
    have HU8 := Lib.hid hu8
    have Q0 := Lib.hid q0
    have Q1 := Lib.hid q1
    have Q2 := Lib.hid q2
    rw [HW1.out, HW0.out] at kc0 kc1 kc2 kf0 kf1 kf2
    clear kc kf hw8 hu8 q0 q1 q2
    go_enter Tryz.func33, Tryz.ntmps33
    go_wp2_with fail
    rw [← HW0.out, ← HW1.out, ← HW8.out]
    have q0 := Q0.out
    have q1 := Q1.out
    have q2 := Q2.out
    (try simp only [Exit.inBlock, Exit.then])
    refine bodyPost_ret (v := .tuple #[.agg #[.bool false, .slice none 0 0, .slice none 0 0], .int .i64 5]) (by simp [results, Tryz.results33, go_sem, q0, q1, q2]; done) rfl ?_
    exact ⟨.agg #[.bool false, .slice none 0 0, .slice none 0 0], by rw [HE.out], by rw [HR.out]; exact noR_at _ _ _, HB1.out.trans (HU8.out.below (by omega) (by omega))⟩
  · have HE : Hid (en = 0) := Lib.hid (HEN.out.trans (if_pos HBF.out.symm))
    have HR : Hid (nr = rv (fltQ (decide (9223372036854775808 ≤ u)) (u % 9223372036854775808))) := Lib.hid (HNR.out.trans (if_pos HBF.out.symm))
    have hfin := of_decide_eq_true HBF.out.symm
    have hfits := (fits_flt (decide (9223372036854775808 ≤ u)) hfin).1
    have HFL := Lib.hid (fun w => float02_any u w hu hfin)
    have HLE := Lib.hid (fun (f : Nat) (x : Int) (h1 : -1074 ≤ x) (h2 : Vr (u % 9223372036854775808) = f * 2 ^ (x + 1074).toNat) => flt_split (neg := decide (9223372036854775808 ≤ u)) h1 h2)
    obtain ⟨q, hq⟩ : ∃ q, q = fltQ (decide (9223372036854775808 ≤ u)) (u % 9223372036854775808) := ⟨_, rfl⟩
    have htr := told_rv q
    rw [← hq] at HR HLE hfits
    have htf := told_fits hfits
    obtain ⟨s, hs⟩ : ∃ s, s = decide (9223372036854775808 ≤ u) := ⟨_, rfl⟩
    rw [← hs] at HFL HLE
    rw [htf.1, htf.2] at htr
    have HTR := Lib.hid htr
    have hlt : LdR (rv q) := ⟨lim_lds _, lim_lds _⟩
    have HLT := Lib.hid hlt
    clear hq hs htr htf hfits hfin hlt
    go_enter Tryz.func33, Tryz.ntmps33
    go_wp2_with fail
    rw [← HW0.out, ← HW1.out]
    refine (HFL.out w1).mono ?_
    rintro e w2 ⟨v2, f, x, rfl, h2, hf1, hx1, hx2, hv, hb2⟩
    have H2 := Lib.hid h2
    obtain ⟨A2, n2, c2, rfl, -⟩ := h2
    have HL := Lib.hid (HLE.out f x hx1 hv)
    have G2 := Lib.hid ((hb2.block w.heap.size (by omega)).trans G1.out)
    have HB2 := Lib.hid (HB1.out.trans (hb2.mono (by omega)))
    have zz2 := hb2.size
    have hfl : (lim f).length ≤ 1 := lim_len_le (by rw [W64_pow]; omega)
    have HNM := Lib.hid (fun v w (h : NAt w v s (lim f) x) => by
      have h9 := num07_any v s (lim f) x w h (lim_lds _) (by omega) (by omega) (by omega)
      rw [ln_dig] at h9
      exact h9)
    have HT := Lib.hid (fun v w (h : FAt w v ⟨s, lim (f * 2 ^ x.toNat), lim (2 ^ (-x).toNat)⟩) => by
      have l1 := lim_scale_len (p := x.toNat) (lim_lds f) hfl
      rw [ln_dig] at l1
      have h9 := told_any v s _ _ w h (Nat.ne_of_gt (Nat.pow_pos (by decide))) (Nat.le_trans l1 (by omega)) (Nat.le_trans (lim_pow_len _) (by omega))
      rw [HL.out, HTR.out.1, HTR.out.2] at h9
      exact h9)
    clear hv hb2 hfl
    go_wp2_with fail
    refine (HNM.out _ w2 H2.out).mono ?_
    rintro e w3 ⟨v3, rfl, h3, hb3⟩
    have H3 := Lib.hid h3
    obtain ⟨A3, n3, c3, A3', n3', c3', rfl, -, -⟩ := h3.shape
    have HB3 := Lib.hid (HB2.out.trans (hb3.mono (by omega)))
    have G3 := Lib.hid ((hb3.block w.heap.size (by omega)).trans G2.out)
    have zz3 := hb3.size
    simp only at H3 ⊢
    clear h3 hb3
    go_wp2_with fail
    refine (HT.out _ w3 H3.out).mono ?_
    rintro e w4 ⟨v4, rfl, h4, hb4⟩
    obtain ⟨B, m, dd, B', m', dd', rfl, -, -⟩ := h4.shape
    have HV4 := Lib.hid (h4.rat HLT.out)
    have HB4 := Lib.hid (HB3.out.trans (hb4.mono (by omega)))
    have zz4 := hb4.size
    obtain ⟨kc, kf⟩ := blk_cells ((hb4.block w.heap.size (by omega)).trans G3.out)
    have kc0 := kc 0
    have kc1 := kc 1
    have kc2 := kc 2
    have kf0 := kf 0
    have kf1 := kf 1
    have kf2 := kf 2
    simp only [List.getElem?_toArray, List.getElem?_cons_zero, List.getElem?_cons_succ] at kc0 kc1 kc2
    obtain ⟨tn, htn⟩ : ∃ tn, tn = (rv q).neg := ⟨_, rfl⟩
    rw [← htn] at HV4 ⊢
    obtain ⟨w8, hw8⟩ : ∃ w8, w8 = ((w4.setCell ⟨w.heap.size, 0, none⟩ (.bool tn)).setCell ⟨w.heap.size, 1, none⟩ (.slice B m dd)).setCell ⟨w.heap.size, 2, none⟩ (.slice B' m' dd') := ⟨_, rfl⟩
    obtain ⟨hu8, q0, q1, q2⟩ := rat_set kc0 kc1 kc2 _ _ _ _ _ _ _ _ hw8
    have HW8 := Lib.hid hw8
    have HU8 := Lib.hid hu8
    have Q0 := Lib.hid q0
    have Q1 := Lib.hid q1
    have Q2 := Lib.hid q2
    clear kc kf hw8 hu8 q0 q1 q2 h4 hb4 htn
    go_wp2_with fail
    rw [← HW8.out]
    have q0 := Q0.out
    have q1 := Q1.out
    have q2 := Q2.out
    (try simp only [Exit.inBlock, Exit.then])
    refine bodyPost_ret (v := .tuple #[.agg #[.bool tn, .slice B m dd, .slice B' m' dd'], .int .i64 0]) (by simp [results, Tryz.results33, go_sem, q0, q1, q2]; done) rfl ?_
    exact ⟨.agg #[.bool tn, .slice B m dd, .slice B' m' dd'], by rw [HE.out], by rw [HR.out]; exact HV4.out.upb HU8.out, HB4.out.trans (HU8.out.below (by omega) (by omega))⟩

end Go.Proofs.YtjokpfgncmdomaaGreatDoor
