import Derived.Test.YtjokpfgncmdomaaGreatDoorX16
set_option linter.unusedSimpArgs false
set_option linter.unusedVariables false
/- ratio.Add, Sub, Mul, Div: the walks (printed by gen_t11.py) -/
namespace Go.Proofs.YtjokpfgncmdomaaGreatDoor
open Go.RowKit Go.Sort

/-- an answer of none, with its errno -/
def Fail (k : Int) (w : World) (e : Ending) (w' : World) : Prop := ∃ v, e = .returned (.tuple #[v, .int .i64 k]) ∧ RAt w' v noR ∧ Below w.heap.size w w'
def BinPost (a b : RV) (q : Rat) (w : World) (e : Ending) (w' : World) : Prop := if rightB a = true ∧ rightB b = true then Told w q e w' else Fail 2 w e w'
def QuoPost (a b : RV) (w : World) (e : Ending) (w' : World) : Prop := if rightB a = true ∧ rightB b = true then (if b.q = 0 then Fail 7 w e w' else Told w (a.q / b.q) e w') else Fail 2 w e w'
theorem blk3 (w : World) (o1 o2 : Obj) (cs : Array Value) (t : TypeId) : (((w.alloc o1).alloc o2).alloc (.cells cs t)).heap[w.heap.size + 2]? = some (.cells cs t (0, 0)) := by
  have h := blk_new ((w.alloc o1).alloc o2) cs t
  rwa [World.size_alloc, World.size_alloc] at h

set_option maxRecDepth 100000 in
set_option maxHeartbeats 4000000 in
theorem add_ratio (va vb : Value) (a b : RV) (w : World) (ha : RAt w va a) (hb : RAt w vb b) (l1 : a.num.length ≤ 1000000000000000) (l2 : a.den.length ≤ 1000000000000000) (l3 : b.num.length ≤ 1000000000000000) (l4 : b.den.length ≤ 1000000000000000) :
    Calls Tryz.prog 21 #[va, vb] w (BinPost a b (a.q + b.q) w) := by
  have HA := Lib.hid ha
  have HB := Lib.hid hb
  have hA1 : ∃ s A n c A' n' c', va = .agg #[.bool s, .slice A n c, .slice A' n' c'] := by obtain ⟨A, n, c, A', n', c', h, _⟩ := ha; exact ⟨_, _, _, _, _, _, _, h⟩
  have hB1 : ∃ s A n c A' n' c', vb = .agg #[.bool s, .slice A n c, .slice A' n' c'] := by obtain ⟨A, n, c, A', n', c', h, _⟩ := hb; exact ⟨_, _, _, _, _, _, _, h⟩
  obtain ⟨s, A, n, c, A', n', c', rfl⟩ := hA1
  obtain ⟨s2, A2, n2, c2, A2', n2', c2', rfl⟩ := hB1
  clear ha hb
  go_enter Tryz.func21, Tryz.ntmps21
  go_wp2_with fail
  refine (both_ratio _ _ a b _ (HA.out.below (below3 ..)) (HB.out.below (below3 ..)) l1 l2 l3 l4).mono ?_
  rintro e w1 ⟨hp, hb1⟩
  have hblk : w1.heap[w.heap.size + 2]? = some (.cells #[.bool false, .slice none 0 0, .slice none 0 0] 24 (0, 0)) := by
    rw [hb1.block (w.heap.size + 2) (by simp)]
    exact blk3 ..
  have zx : w.heap.size + 3 ≤ w1.heap.size := by have := hb1.size; simp at this; omega
  have HB1 := Lib.hid ((below3 w _ _ _).trans (hb1.mono (by simp; omega)))
  clear hb1
  by_cases hr : rightB a = true ∧ rightB b = true
  · rw [if_pos hr] at hp
    obtain ⟨g1, g2, rfl, hg1, hg2, hr1, hr2⟩ := hp
    have SA := Lib.hid (sz_right hr.1 HA.out.ldsN HA.out.ldsD)
    have SB := Lib.hid (sz_right hr.2 HB.out.ldsN HB.out.ldsD)
    have HRR := Lib.hid hr
    have HR1 := Lib.hid hr1
    have HR2 := Lib.hid hr2
    have zg : w.heap.size + 3 ≤ g1 := by simp at hg1; omega
    clear hr hr1 hr2
    go_wp2_with fail
    refine (add_rat g1 g1 g2 a.q b.q w1 HR1.out.obj HR1.out HR2.out (by have := SA.out.1; omega) (by have := SA.out.2; omega) (by have := SB.out.1; omega) (by have := SB.out.2; omega)).mono ?_
    rw [q_add]
    rintro e w2 ⟨rfl, hr3, hu2⟩
    have hblk2 : w2.heap[w.heap.size + 2]? = some (.cells #[.bool false, .slice none 0 0, .slice none 0 0] 24 (0, 0)) := (hu2.blk (w.heap.size + 2) (by omega) (by omega)).trans hblk
    have HR3 := Lib.hid hr3
    have HB2 := Lib.hid (HB1.out.trans (hu2.below (by omega) (by omega)))
    have zy : w.heap.size + 3 ≤ w2.heap.size := by have := hu2.size; omega
    obtain ⟨x, hx⟩ : ∃ x, x = a.q + b.q := ⟨_, rfl⟩
    have SX := Lib.hid (show Sz (4 * 512 + 1) x by rw [hx]; exact sz_add SA.out SB.out)
    rw [← hx] at HR3
    have HX := Lib.hid hx
    clear hr3 hu2 hblk hx
    go_wp2_with fail
    refine (told_ratio g1 x w2 HR3.out (by have := SX.out.1; omega) (by have := SX.out.2; omega)).mono ?_
    rintro e w3 ⟨v2, rfl, hv2, hb2⟩
    have HV2 := Lib.hid hv2
    obtain ⟨B, m, d, B', m', d', rfl, hh⟩ := hv2
    clear hh
    have hblk : w3.heap[w.heap.size + 2]? = some (.cells #[.bool false, .slice none 0 0, .slice none 0 0] 24 (0, 0)) := (hb2.block (w.heap.size + 2) (by omega)).trans hblk2
    have zz : w.heap.size + 3 ≤ w3.heap.size := by have := hb2.size; omega
    have HB3 := Lib.hid (HB2.out.trans (hb2.mono HB2.out.size))
    obtain ⟨tn, htn⟩ : ∃ tn, tn = (toldR x).neg := ⟨_, rfl⟩
    obtain ⟨te, hte⟩ : ∃ te, te = toldE x := ⟨_, rfl⟩
    rw [← htn] at HV2 ⊢
    rw [← hte]
    have HTE := Lib.hid hte
    clear hb2 htn hte hblk2
    obtain ⟨kc, kf⟩ := blk_cells hblk
    have kc0 := kc 0
    have kc1 := kc 1
    have kc2 := kc 2
    have kf0 := kf 0
    have kf1 := kf 1
    have kf2 := kf 2
    simp only [List.getElem?_toArray, List.getElem?_cons_zero, List.getElem?_cons_succ] at kc0 kc1 kc2
    obtain ⟨w6, hw6⟩ : ∃ w6, w6 = ((w3.setCell ⟨w.heap.size + 2, 0, none⟩ (.bool tn)).setCell ⟨w.heap.size + 2, 1, none⟩ (.slice B m d)).setCell ⟨w.heap.size + 2, 2, none⟩ (.slice B' m' d') := ⟨_, rfl⟩
    obtain ⟨hu6, q0, q1, q2⟩ := rat_set kc0 kc1 kc2 _ _ _ _ _ _ _ _ hw6
    have HW6 := Lib.hid hw6
    have HU6 := Lib.hid hu6
    have Q0 := Lib.hid q0
    have Q1 := Lib.hid q1
    have Q2 := Lib.hid q2
    clear kc kf hblk hw6 hu6 q0 q1 q2
    go_wp2_with fail
    rw [← HW6.out]
    have q0 := Q0.out
    have q1 := Q1.out
    have q2 := Q2.out
    (try simp only [Exit.inBlock, Exit.then])
    refine bodyPost_ret (v := .tuple #[.agg #[.bool tn, .slice B m d, .slice B' m' d'], .int .i64 te]) (by simp [results, Tryz.results21, go_sem, q0, q1, q2]; done) rfl ?_
    unfold BinPost
    rw [if_pos HRR.out, ← HX.out]
    exact ⟨_, by rw [HTE.out], HV2.out.upb HU6.out, HB3.out.trans (HU6.out.below (by omega) (by omega))⟩
  · rw [if_neg hr] at hp
    subst hp
    have HRR := Lib.hid hr
    clear hr
    obtain ⟨kc, kf⟩ := blk_cells hblk
    have kc0 := kc 0
    have kc1 := kc 1
    have kc2 := kc 2
    have kf0 := kf 0
    have kf1 := kf 1
    have kf2 := kf 2
    simp only [List.getElem?_toArray, List.getElem?_cons_zero, List.getElem?_cons_succ] at kc0 kc1 kc2
    obtain ⟨w6, hw6⟩ : ∃ w6, w6 = ((w1.setCell ⟨w.heap.size + 2, 0, none⟩ (.bool false)).setCell ⟨w.heap.size + 2, 1, none⟩ (.slice none 0 0)).setCell ⟨w.heap.size + 2, 2, none⟩ (.slice none 0 0) := ⟨_, rfl⟩
    obtain ⟨hu6, q0, q1, q2⟩ := rat_set kc0 kc1 kc2 _ _ _ _ _ _ _ _ hw6
    have HW6 := Lib.hid hw6
    have HU6 := Lib.hid hu6
    have Q0 := Lib.hid q0
    have Q1 := Lib.hid q1
    have Q2 := Lib.hid q2
    clear kc kf hblk hw6 hu6 q0 q1 q2
    go_wp2_with fail
    rw [← HW6.out]
    have q0 := Q0.out
    have q1 := Q1.out
    have q2 := Q2.out
    (try simp only [Exit.inBlock, Exit.then])
    refine bodyPost_ret (v := .tuple #[.agg #[.bool false, .slice none 0 0, .slice none 0 0], .int .i64 2]) (by simp [results, Tryz.results21, go_sem, q0, q1, q2]; done) rfl ?_
    unfold BinPost
    rw [if_neg HRR.out]
    exact ⟨_, rfl, noR_at _ _ _, HB1.out.trans (HU6.out.below (by omega) (by omega))⟩

set_option maxRecDepth 100000 in
set_option maxHeartbeats 4000000 in
theorem sub_ratio (va vb : Value) (a b : RV) (w : World) (ha : RAt w va a) (hb : RAt w vb b) (l1 : a.num.length ≤ 1000000000000000) (l2 : a.den.length ≤ 1000000000000000) (l3 : b.num.length ≤ 1000000000000000) (l4 : b.den.length ≤ 1000000000000000) :
    Calls Tryz.prog 19 #[va, vb] w (BinPost a b (a.q - b.q) w) := by
  have HA := Lib.hid ha
  have HB := Lib.hid hb
  have hA1 : ∃ s A n c A' n' c', va = .agg #[.bool s, .slice A n c, .slice A' n' c'] := by obtain ⟨A, n, c, A', n', c', h, _⟩ := ha; exact ⟨_, _, _, _, _, _, _, h⟩
  have hB1 : ∃ s A n c A' n' c', vb = .agg #[.bool s, .slice A n c, .slice A' n' c'] := by obtain ⟨A, n, c, A', n', c', h, _⟩ := hb; exact ⟨_, _, _, _, _, _, _, h⟩
  obtain ⟨s, A, n, c, A', n', c', rfl⟩ := hA1
  obtain ⟨s2, A2, n2, c2, A2', n2', c2', rfl⟩ := hB1
  clear ha hb
  go_enter Tryz.func19, Tryz.ntmps19
  go_wp2_with fail
  refine (both_ratio _ _ a b _ (HA.out.below (below3 ..)) (HB.out.below (below3 ..)) l1 l2 l3 l4).mono ?_
  rintro e w1 ⟨hp, hb1⟩
  have hblk : w1.heap[w.heap.size + 2]? = some (.cells #[.bool false, .slice none 0 0, .slice none 0 0] 24 (0, 0)) := by
    rw [hb1.block (w.heap.size + 2) (by simp)]
    exact blk3 ..
  have zx : w.heap.size + 3 ≤ w1.heap.size := by have := hb1.size; simp at this; omega
  have HB1 := Lib.hid ((below3 w _ _ _).trans (hb1.mono (by simp; omega)))
  clear hb1
  by_cases hr : rightB a = true ∧ rightB b = true
  · rw [if_pos hr] at hp
    obtain ⟨g1, g2, rfl, hg1, hg2, hr1, hr2⟩ := hp
    have SA := Lib.hid (sz_right hr.1 HA.out.ldsN HA.out.ldsD)
    have SB := Lib.hid (sz_right hr.2 HB.out.ldsN HB.out.ldsD)
    have HRR := Lib.hid hr
    have HR1 := Lib.hid hr1
    have HR2 := Lib.hid hr2
    have zg : w.heap.size + 3 ≤ g1 := by simp at hg1; omega
    clear hr hr1 hr2
    go_wp2_with fail
    refine (sub_rat g1 g1 g2 a.q b.q w1 HR1.out.obj HR1.out HR2.out (by have := SA.out.1; omega) (by have := SA.out.2; omega) (by have := SB.out.1; omega) (by have := SB.out.2; omega)).mono ?_
    rw [q_sub]
    rintro e w2 ⟨rfl, hr3, hu2⟩
    have hblk2 : w2.heap[w.heap.size + 2]? = some (.cells #[.bool false, .slice none 0 0, .slice none 0 0] 24 (0, 0)) := (hu2.blk (w.heap.size + 2) (by omega) (by omega)).trans hblk
    have HR3 := Lib.hid hr3
    have HB2 := Lib.hid (HB1.out.trans (hu2.below (by omega) (by omega)))
    have zy : w.heap.size + 3 ≤ w2.heap.size := by have := hu2.size; omega
    obtain ⟨x, hx⟩ : ∃ x, x = a.q - b.q := ⟨_, rfl⟩
    have SX := Lib.hid (show Sz (4 * 512 + 1) x by rw [hx]; exact sz_sub SA.out SB.out)
    rw [← hx] at HR3
    have HX := Lib.hid hx
    clear hr3 hu2 hblk hx
    go_wp2_with fail
    refine (told_ratio g1 x w2 HR3.out (by have := SX.out.1; omega) (by have := SX.out.2; omega)).mono ?_
    rintro e w3 ⟨v2, rfl, hv2, hb2⟩
    have HV2 := Lib.hid hv2
    obtain ⟨B, m, d, B', m', d', rfl, hh⟩ := hv2
    clear hh
    have hblk : w3.heap[w.heap.size + 2]? = some (.cells #[.bool false, .slice none 0 0, .slice none 0 0] 24 (0, 0)) := (hb2.block (w.heap.size + 2) (by omega)).trans hblk2
    have zz : w.heap.size + 3 ≤ w3.heap.size := by have := hb2.size; omega
    have HB3 := Lib.hid (HB2.out.trans (hb2.mono HB2.out.size))
    obtain ⟨tn, htn⟩ : ∃ tn, tn = (toldR x).neg := ⟨_, rfl⟩
    obtain ⟨te, hte⟩ : ∃ te, te = toldE x := ⟨_, rfl⟩
    rw [← htn] at HV2 ⊢
    rw [← hte]
    have HTE := Lib.hid hte
    clear hb2 htn hte hblk2
    obtain ⟨kc, kf⟩ := blk_cells hblk
    have kc0 := kc 0
    have kc1 := kc 1
    have kc2 := kc 2
    have kf0 := kf 0
    have kf1 := kf 1
    have kf2 := kf 2
    simp only [List.getElem?_toArray, List.getElem?_cons_zero, List.getElem?_cons_succ] at kc0 kc1 kc2
    obtain ⟨w6, hw6⟩ : ∃ w6, w6 = ((w3.setCell ⟨w.heap.size + 2, 0, none⟩ (.bool tn)).setCell ⟨w.heap.size + 2, 1, none⟩ (.slice B m d)).setCell ⟨w.heap.size + 2, 2, none⟩ (.slice B' m' d') := ⟨_, rfl⟩
    obtain ⟨hu6, q0, q1, q2⟩ := rat_set kc0 kc1 kc2 _ _ _ _ _ _ _ _ hw6
    have HW6 := Lib.hid hw6
    have HU6 := Lib.hid hu6
    have Q0 := Lib.hid q0
    have Q1 := Lib.hid q1
    have Q2 := Lib.hid q2
    clear kc kf hblk hw6 hu6 q0 q1 q2
    go_wp2_with fail
    rw [← HW6.out]
    have q0 := Q0.out
    have q1 := Q1.out
    have q2 := Q2.out
    (try simp only [Exit.inBlock, Exit.then])
    refine bodyPost_ret (v := .tuple #[.agg #[.bool tn, .slice B m d, .slice B' m' d'], .int .i64 te]) (by simp [results, Tryz.results19, go_sem, q0, q1, q2]; done) rfl ?_
    unfold BinPost
    rw [if_pos HRR.out, ← HX.out]
    exact ⟨_, by rw [HTE.out], HV2.out.upb HU6.out, HB3.out.trans (HU6.out.below (by omega) (by omega))⟩
  · rw [if_neg hr] at hp
    subst hp
    have HRR := Lib.hid hr
    clear hr
    obtain ⟨kc, kf⟩ := blk_cells hblk
    have kc0 := kc 0
    have kc1 := kc 1
    have kc2 := kc 2
    have kf0 := kf 0
    have kf1 := kf 1
    have kf2 := kf 2
    simp only [List.getElem?_toArray, List.getElem?_cons_zero, List.getElem?_cons_succ] at kc0 kc1 kc2
    obtain ⟨w6, hw6⟩ : ∃ w6, w6 = ((w1.setCell ⟨w.heap.size + 2, 0, none⟩ (.bool false)).setCell ⟨w.heap.size + 2, 1, none⟩ (.slice none 0 0)).setCell ⟨w.heap.size + 2, 2, none⟩ (.slice none 0 0) := ⟨_, rfl⟩
    obtain ⟨hu6, q0, q1, q2⟩ := rat_set kc0 kc1 kc2 _ _ _ _ _ _ _ _ hw6
    have HW6 := Lib.hid hw6
    have HU6 := Lib.hid hu6
    have Q0 := Lib.hid q0
    have Q1 := Lib.hid q1
    have Q2 := Lib.hid q2
    clear kc kf hblk hw6 hu6 q0 q1 q2
    go_wp2_with fail
    rw [← HW6.out]
    have q0 := Q0.out
    have q1 := Q1.out
    have q2 := Q2.out
    (try simp only [Exit.inBlock, Exit.then])
    refine bodyPost_ret (v := .tuple #[.agg #[.bool false, .slice none 0 0, .slice none 0 0], .int .i64 2]) (by simp [results, Tryz.results19, go_sem, q0, q1, q2]; done) rfl ?_
    unfold BinPost
    rw [if_neg HRR.out]
    exact ⟨_, rfl, noR_at _ _ _, HB1.out.trans (HU6.out.below (by omega) (by omega))⟩

set_option maxRecDepth 100000 in
set_option maxHeartbeats 4000000 in
theorem mul_ratio (va vb : Value) (a b : RV) (w : World) (ha : RAt w va a) (hb : RAt w vb b) (l1 : a.num.length ≤ 1000000000000000) (l2 : a.den.length ≤ 1000000000000000) (l3 : b.num.length ≤ 1000000000000000) (l4 : b.den.length ≤ 1000000000000000) :
    Calls Tryz.prog 22 #[va, vb] w (BinPost a b (a.q * b.q) w) := by
  have HA := Lib.hid ha
  have HB := Lib.hid hb
  have hA1 : ∃ s A n c A' n' c', va = .agg #[.bool s, .slice A n c, .slice A' n' c'] := by obtain ⟨A, n, c, A', n', c', h, _⟩ := ha; exact ⟨_, _, _, _, _, _, _, h⟩
  have hB1 : ∃ s A n c A' n' c', vb = .agg #[.bool s, .slice A n c, .slice A' n' c'] := by obtain ⟨A, n, c, A', n', c', h, _⟩ := hb; exact ⟨_, _, _, _, _, _, _, h⟩
  obtain ⟨s, A, n, c, A', n', c', rfl⟩ := hA1
  obtain ⟨s2, A2, n2, c2, A2', n2', c2', rfl⟩ := hB1
  clear ha hb
  go_enter Tryz.func22, Tryz.ntmps22
  go_wp2_with fail
  refine (both_ratio _ _ a b _ (HA.out.below (below3 ..)) (HB.out.below (below3 ..)) l1 l2 l3 l4).mono ?_
  rintro e w1 ⟨hp, hb1⟩
  have hblk : w1.heap[w.heap.size + 2]? = some (.cells #[.bool false, .slice none 0 0, .slice none 0 0] 24 (0, 0)) := by
    rw [hb1.block (w.heap.size + 2) (by simp)]
    exact blk3 ..
  have zx : w.heap.size + 3 ≤ w1.heap.size := by have := hb1.size; simp at this; omega
  have HB1 := Lib.hid ((below3 w _ _ _).trans (hb1.mono (by simp; omega)))
  clear hb1
  by_cases hr : rightB a = true ∧ rightB b = true
  · rw [if_pos hr] at hp
    obtain ⟨g1, g2, rfl, hg1, hg2, hr1, hr2⟩ := hp
    have SA := Lib.hid (sz_right hr.1 HA.out.ldsN HA.out.ldsD)
    have SB := Lib.hid (sz_right hr.2 HB.out.ldsN HB.out.ldsD)
    have HRR := Lib.hid hr
    have HR1 := Lib.hid hr1
    have HR2 := Lib.hid hr2
    have zg : w.heap.size + 3 ≤ g1 := by simp at hg1; omega
    clear hr hr1 hr2
    go_wp2_with fail
    refine (mul_rat g1 g1 g2 a.q b.q w1 HR1.out.obj HR1.out HR2.out (by have := SA.out.1; omega) (by have := SA.out.2; omega) (by have := SB.out.1; omega) (by have := SB.out.2; omega)).mono ?_
    rw [q_mul]
    rintro e w2 ⟨rfl, hr3, hu2⟩
    have hblk2 : w2.heap[w.heap.size + 2]? = some (.cells #[.bool false, .slice none 0 0, .slice none 0 0] 24 (0, 0)) := (hu2.blk (w.heap.size + 2) (by omega) (by omega)).trans hblk
    have HR3 := Lib.hid hr3
    have HB2 := Lib.hid (HB1.out.trans (hu2.below (by omega) (by omega)))
    have zy : w.heap.size + 3 ≤ w2.heap.size := by have := hu2.size; omega
    obtain ⟨x, hx⟩ : ∃ x, x = a.q * b.q := ⟨_, rfl⟩
    have SX := Lib.hid (show Sz (4 * 512 + 1) x by rw [hx]; exact sz_mul SA.out SB.out)
    rw [← hx] at HR3
    have HX := Lib.hid hx
    clear hr3 hu2 hblk hx
    go_wp2_with fail
    refine (told_ratio g1 x w2 HR3.out (by have := SX.out.1; omega) (by have := SX.out.2; omega)).mono ?_
    rintro e w3 ⟨v2, rfl, hv2, hb2⟩
    have HV2 := Lib.hid hv2
    obtain ⟨B, m, d, B', m', d', rfl, hh⟩ := hv2
    clear hh
    have hblk : w3.heap[w.heap.size + 2]? = some (.cells #[.bool false, .slice none 0 0, .slice none 0 0] 24 (0, 0)) := (hb2.block (w.heap.size + 2) (by omega)).trans hblk2
    have zz : w.heap.size + 3 ≤ w3.heap.size := by have := hb2.size; omega
    have HB3 := Lib.hid (HB2.out.trans (hb2.mono HB2.out.size))
    obtain ⟨tn, htn⟩ : ∃ tn, tn = (toldR x).neg := ⟨_, rfl⟩
    obtain ⟨te, hte⟩ : ∃ te, te = toldE x := ⟨_, rfl⟩
    rw [← htn] at HV2 ⊢
    rw [← hte]
    have HTE := Lib.hid hte
    clear hb2 htn hte hblk2
    obtain ⟨kc, kf⟩ := blk_cells hblk
    have kc0 := kc 0
    have kc1 := kc 1
    have kc2 := kc 2
    have kf0 := kf 0
    have kf1 := kf 1
    have kf2 := kf 2
    simp only [List.getElem?_toArray, List.getElem?_cons_zero, List.getElem?_cons_succ] at kc0 kc1 kc2
    obtain ⟨w6, hw6⟩ : ∃ w6, w6 = ((w3.setCell ⟨w.heap.size + 2, 0, none⟩ (.bool tn)).setCell ⟨w.heap.size + 2, 1, none⟩ (.slice B m d)).setCell ⟨w.heap.size + 2, 2, none⟩ (.slice B' m' d') := ⟨_, rfl⟩
    obtain ⟨hu6, q0, q1, q2⟩ := rat_set kc0 kc1 kc2 _ _ _ _ _ _ _ _ hw6
    have HW6 := Lib.hid hw6
    have HU6 := Lib.hid hu6
    have Q0 := Lib.hid q0
    have Q1 := Lib.hid q1
    have Q2 := Lib.hid q2
    clear kc kf hblk hw6 hu6 q0 q1 q2
    go_wp2_with fail
    rw [← HW6.out]
    have q0 := Q0.out
    have q1 := Q1.out
    have q2 := Q2.out
    (try simp only [Exit.inBlock, Exit.then])
    refine bodyPost_ret (v := .tuple #[.agg #[.bool tn, .slice B m d, .slice B' m' d'], .int .i64 te]) (by simp [results, Tryz.results22, go_sem, q0, q1, q2]; done) rfl ?_
    unfold BinPost
    rw [if_pos HRR.out, ← HX.out]
    exact ⟨_, by rw [HTE.out], HV2.out.upb HU6.out, HB3.out.trans (HU6.out.below (by omega) (by omega))⟩
  · rw [if_neg hr] at hp
    subst hp
    have HRR := Lib.hid hr
    clear hr
    obtain ⟨kc, kf⟩ := blk_cells hblk
    have kc0 := kc 0
    have kc1 := kc 1
    have kc2 := kc 2
    have kf0 := kf 0
    have kf1 := kf 1
    have kf2 := kf 2
    simp only [List.getElem?_toArray, List.getElem?_cons_zero, List.getElem?_cons_succ] at kc0 kc1 kc2
    obtain ⟨w6, hw6⟩ : ∃ w6, w6 = ((w1.setCell ⟨w.heap.size + 2, 0, none⟩ (.bool false)).setCell ⟨w.heap.size + 2, 1, none⟩ (.slice none 0 0)).setCell ⟨w.heap.size + 2, 2, none⟩ (.slice none 0 0) := ⟨_, rfl⟩
    obtain ⟨hu6, q0, q1, q2⟩ := rat_set kc0 kc1 kc2 _ _ _ _ _ _ _ _ hw6
    have HW6 := Lib.hid hw6
    have HU6 := Lib.hid hu6
    have Q0 := Lib.hid q0
    have Q1 := Lib.hid q1
    have Q2 := Lib.hid q2
    clear kc kf hblk hw6 hu6 q0 q1 q2
    go_wp2_with fail
    rw [← HW6.out]
    have q0 := Q0.out
    have q1 := Q1.out
    have q2 := Q2.out
    (try simp only [Exit.inBlock, Exit.then])
    refine bodyPost_ret (v := .tuple #[.agg #[.bool false, .slice none 0 0, .slice none 0 0], .int .i64 2]) (by simp [results, Tryz.results22, go_sem, q0, q1, q2]; done) rfl ?_
    unfold BinPost
    rw [if_neg HRR.out]
    exact ⟨_, rfl, noR_at _ _ _, HB1.out.trans (HU6.out.below (by omega) (by omega))⟩

set_option maxRecDepth 100000 in
set_option maxHeartbeats 4000000 in
theorem div_ratio (va vb : Value) (a b : RV) (w : World) (ha : RAt w va a) (hb : RAt w vb b) (l1 : a.num.length ≤ 1000000000000000) (l2 : a.den.length ≤ 1000000000000000) (l3 : b.num.length ≤ 1000000000000000) (l4 : b.den.length ≤ 1000000000000000) :
    Calls Tryz.prog 24 #[va, vb] w (QuoPost a b w) := by
  have HA := Lib.hid ha
  have HB := Lib.hid hb
  have hA1 : ∃ s A n c A' n' c', va = .agg #[.bool s, .slice A n c, .slice A' n' c'] := by obtain ⟨A, n, c, A', n', c', h, _⟩ := ha; exact ⟨_, _, _, _, _, _, _, h⟩
  have hB1 : ∃ s A n c A' n' c', vb = .agg #[.bool s, .slice A n c, .slice A' n' c'] := by obtain ⟨A, n, c, A', n', c', h, _⟩ := hb; exact ⟨_, _, _, _, _, _, _, h⟩
  obtain ⟨s, A, n, c, A', n', c', rfl⟩ := hA1
  obtain ⟨s2, A2, n2, c2, A2', n2', c2', rfl⟩ := hB1
  clear ha hb
  go_enter Tryz.func24, Tryz.ntmps24
  go_wp2_with fail
  refine (both_ratio _ _ a b _ (HA.out.below (below3 ..)) (HB.out.below (below3 ..)) l1 l2 l3 l4).mono ?_
  rintro e w1 ⟨hp, hb1⟩
  have hblk : w1.heap[w.heap.size + 2]? = some (.cells #[.bool false, .slice none 0 0, .slice none 0 0] 24 (0, 0)) := by
    rw [hb1.block (w.heap.size + 2) (by simp)]
    exact blk3 ..
  have zx : w.heap.size + 3 ≤ w1.heap.size := by have := hb1.size; simp at this; omega
  have HB1 := Lib.hid ((below3 w _ _ _).trans (hb1.mono (by simp; omega)))
  clear hb1
  by_cases hr : rightB a = true ∧ rightB b = true
  · rw [if_pos hr] at hp
    obtain ⟨g1, g2, rfl, hg1, hg2, hr1, hr2⟩ := hp
    have SA := Lib.hid (sz_right hr.1 HA.out.ldsN HA.out.ldsD)
    have SB := Lib.hid (sz_right hr.2 HB.out.ldsN HB.out.ldsD)
    have HRR := Lib.hid hr
    have HR1 := Lib.hid hr1
    have HR2 := Lib.hid hr2
    have zg : w.heap.size + 3 ≤ g1 := by simp at hg1; omega
    clear hr hr1 hr2
    go_wp2_with fail
    refine (sign_rat g2 b.q w1 HR2.out).mono ?_
    rintro e w' ⟨rfl, rfl⟩
    by_cases hz : b.q.num = 0
    · have e0 : (sgnI b.q.num == 0) = true := by rw [sgnI_zero]; simp [hz]
      have HZ := Lib.hid (show b.q = 0 from (Rat.num_divInt_den b.q).symm.trans (by rw [hz, Rat.zero_divInt]))
      clear hz
      obtain ⟨kc, kf⟩ := blk_cells hblk
      have kc0 := kc 0
      have kc1 := kc 1
      have kc2 := kc 2
      have kf0 := kf 0
      have kf1 := kf 1
      have kf2 := kf 2
      simp only [List.getElem?_toArray, List.getElem?_cons_zero, List.getElem?_cons_succ] at kc0 kc1 kc2
      obtain ⟨w6, hw6⟩ : ∃ w6, w6 = ((w1.setCell ⟨w.heap.size + 2, 0, none⟩ (.bool false)).setCell ⟨w.heap.size + 2, 1, none⟩ (.slice none 0 0)).setCell ⟨w.heap.size + 2, 2, none⟩ (.slice none 0 0) := ⟨_, rfl⟩
      obtain ⟨hu6, q0, q1, q2⟩ := rat_set kc0 kc1 kc2 _ _ _ _ _ _ _ _ hw6
      have HW6 := Lib.hid hw6
      have HU6 := Lib.hid hu6
      have Q0 := Lib.hid q0
      have Q1 := Lib.hid q1
      have Q2 := Lib.hid q2
      clear kc kf hblk hw6 hu6 q0 q1 q2
      go_wp2_with fail
      rw [← HW6.out]
      have q0 := Q0.out
      have q1 := Q1.out
      have q2 := Q2.out
      (try simp only [Exit.inBlock, Exit.then])
      refine bodyPost_ret (v := .tuple #[.agg #[.bool false, .slice none 0 0, .slice none 0 0], .int .i64 7]) (by simp [results, Tryz.results24, go_sem, q0, q1, q2]; done) rfl ?_
      unfold QuoPost
      rw [if_pos HRR.out, if_pos HZ.out]
      exact ⟨_, rfl, noR_at _ _ _, HB1.out.trans (HU6.out.below (by omega) (by omega))⟩
    · have e0 : (sgnI b.q.num == 0) = false := by rw [sgnI_zero]; simp [hz]
      have HNZ := Lib.hid hz
      have HQZ := Lib.hid (show ¬ b.q = 0 from fun h => hz (by rw [h]; rfl))
      clear hz
      go_wp2_with fail
      refine (quo_rat g1 g1 g2 a.q b.q w1 HR1.out.obj HR1.out HR2.out (by have := SA.out.1; omega) (by have := SA.out.2; omega) (by have := SB.out.1; omega) (by have := SB.out.2; omega) HNZ.out).mono ?_
      rw [q_div]
      rintro e w2 ⟨rfl, hr3, hu2⟩
      have hblk2 : w2.heap[w.heap.size + 2]? = some (.cells #[.bool false, .slice none 0 0, .slice none 0 0] 24 (0, 0)) := (hu2.blk (w.heap.size + 2) (by omega) (by omega)).trans hblk
      have HR3 := Lib.hid hr3
      have HB2 := Lib.hid (HB1.out.trans (hu2.below (by omega) (by omega)))
      have zy : w.heap.size + 3 ≤ w2.heap.size := by have := hu2.size; omega
      obtain ⟨x, hx⟩ : ∃ x, x = a.q / b.q := ⟨_, rfl⟩
      have SX := Lib.hid (show Sz (4 * 512 + 1) x by rw [hx]; exact sz_div SA.out SB.out HNZ.out)
      rw [← hx] at HR3
      have HX := Lib.hid hx
      clear hr3 hu2 hblk hx
      go_wp2_with fail
      refine (told_ratio g1 x w2 HR3.out (by have := SX.out.1; omega) (by have := SX.out.2; omega)).mono ?_
      rintro e w3 ⟨v2, rfl, hv2, hb2⟩
      have HV2 := Lib.hid hv2
      obtain ⟨B, m, d, B', m', d', rfl, hh⟩ := hv2
      clear hh
      have hblk : w3.heap[w.heap.size + 2]? = some (.cells #[.bool false, .slice none 0 0, .slice none 0 0] 24 (0, 0)) := (hb2.block (w.heap.size + 2) (by omega)).trans hblk2
      have zz : w.heap.size + 3 ≤ w3.heap.size := by have := hb2.size; omega
      have HB3 := Lib.hid (HB2.out.trans (hb2.mono HB2.out.size))
      obtain ⟨tn, htn⟩ : ∃ tn, tn = (toldR x).neg := ⟨_, rfl⟩
      obtain ⟨te, hte⟩ : ∃ te, te = toldE x := ⟨_, rfl⟩
      rw [← htn] at HV2 ⊢
      rw [← hte]
      have HTE := Lib.hid hte
      clear hb2 htn hte hblk2
      obtain ⟨kc, kf⟩ := blk_cells hblk
      have kc0 := kc 0
      have kc1 := kc 1
      have kc2 := kc 2
      have kf0 := kf 0
      have kf1 := kf 1
      have kf2 := kf 2
      simp only [List.getElem?_toArray, List.getElem?_cons_zero, List.getElem?_cons_succ] at kc0 kc1 kc2
      obtain ⟨w6, hw6⟩ : ∃ w6, w6 = ((w3.setCell ⟨w.heap.size + 2, 0, none⟩ (.bool tn)).setCell ⟨w.heap.size + 2, 1, none⟩ (.slice B m d)).setCell ⟨w.heap.size + 2, 2, none⟩ (.slice B' m' d') := ⟨_, rfl⟩
      obtain ⟨hu6, q0, q1, q2⟩ := rat_set kc0 kc1 kc2 _ _ _ _ _ _ _ _ hw6
      have HW6 := Lib.hid hw6
      have HU6 := Lib.hid hu6
      have Q0 := Lib.hid q0
      have Q1 := Lib.hid q1
      have Q2 := Lib.hid q2
      clear kc kf hblk hw6 hu6 q0 q1 q2
      go_wp2_with fail
      rw [← HW6.out]
      have q0 := Q0.out
      have q1 := Q1.out
      have q2 := Q2.out
      (try simp only [Exit.inBlock, Exit.then])
      refine bodyPost_ret (v := .tuple #[.agg #[.bool tn, .slice B m d, .slice B' m' d'], .int .i64 te]) (by simp [results, Tryz.results24, go_sem, q0, q1, q2]; done) rfl ?_
      unfold QuoPost
      rw [if_pos HRR.out, if_neg HQZ.out, ← HX.out]
      exact ⟨_, by rw [HTE.out], HV2.out.upb HU6.out, HB3.out.trans (HU6.out.below (by omega) (by omega))⟩
  · rw [if_neg hr] at hp
    subst hp
    have HRR := Lib.hid hr
    clear hr
    obtain ⟨kc, kf⟩ := blk_cells hblk
    have kc0 := kc 0
    have kc1 := kc 1
    have kc2 := kc 2
    have kf0 := kf 0
    have kf1 := kf 1
    have kf2 := kf 2
    simp only [List.getElem?_toArray, List.getElem?_cons_zero, List.getElem?_cons_succ] at kc0 kc1 kc2
    obtain ⟨w6, hw6⟩ : ∃ w6, w6 = ((w1.setCell ⟨w.heap.size + 2, 0, none⟩ (.bool false)).setCell ⟨w.heap.size + 2, 1, none⟩ (.slice none 0 0)).setCell ⟨w.heap.size + 2, 2, none⟩ (.slice none 0 0) := ⟨_, rfl⟩
    obtain ⟨hu6, q0, q1, q2⟩ := rat_set kc0 kc1 kc2 _ _ _ _ _ _ _ _ hw6
    have HW6 := Lib.hid hw6
    have HU6 := Lib.hid hu6
    have Q0 := Lib.hid q0
    have Q1 := Lib.hid q1
    have Q2 := Lib.hid q2
    clear kc kf hblk hw6 hu6 q0 q1 q2
    go_wp2_with fail
    rw [← HW6.out]
    have q0 := Q0.out
    have q1 := Q1.out
    have q2 := Q2.out
    (try simp only [Exit.inBlock, Exit.then])
    refine bodyPost_ret (v := .tuple #[.agg #[.bool false, .slice none 0 0, .slice none 0 0], .int .i64 2]) (by simp [results, Tryz.results24, go_sem, q0, q1, q2]; done) rfl ?_
    unfold QuoPost
    rw [if_neg HRR.out]
    exact ⟨_, rfl, noR_at _ _ _, HB1.out.trans (HU6.out.below (by omega) (by omega))⟩

end Go.Proofs.YtjokpfgncmdomaaGreatDoor

/- Int.Cmp; ratio.Sign, Int: the walks -/
namespace Go.Proofs.YtjokpfgncmdomaaGreatDoor
open Go.RowKit Go.Sort

/-- -1, 0, 1 -/
def cmpI (x y : Int) : Int := if x < y then -1 else if y < x then 1 else 0
theorem cmpI_nat {x y : Int} (hx : 0 ≤ x) (hy : 0 ≤ y) : cmpI x y = cmpN x.natAbs y.natAbs := by
  unfold cmpI cmpN
  have e1 : x < y ↔ x.natAbs < y.natAbs := by omega
  have e2 : y < x ↔ y.natAbs < x.natAbs := by omega
  simp only [e1, e2]
theorem cmpI_neg {x y : Int} (hx : x < 0) (hy : y < 0) : cmpI x y = -cmpN x.natAbs y.natAbs := by
  unfold cmpI cmpN
  have e1 : x < y ↔ y.natAbs < x.natAbs := by omega
  have e2 : y < x ↔ x.natAbs < y.natAbs := by omega
  simp only [e1, e2]
  by_cases h1 : x.natAbs < y.natAbs
  · have : ¬ y.natAbs < x.natAbs := by omega
    simp [h1, this]
  · by_cases h2 : y.natAbs < x.natAbs <;> simp [h1, h2]
theorem cmpN_mem (x y : Nat) : -1 ≤ cmpN x y ∧ cmpN x y ≤ 1 := by
  unfold cmpN
  split
  · omega
  · split <;> omega
theorem neg_wrap (x y : Nat) : wrap64 (-cmpN x y) = -cmpN x y := by
  have := cmpN_mem x y
  unfold wrap64
  omega

set_option maxRecDepth 100000 in
set_option maxHeartbeats 4000000 in
theorem cmp_int (b o b1 o1 : Nat) (x y : Int) (w : World) (hx : IntAt w b o x) (hy : IntAt w b1 o1 y) (hl : (dig x.natAbs).length ≤ 10000000000) (hl' : (dig y.natAbs).length ≤ 10000000000) :
    Calls Tryz.prog 112 #[.pointer (some ⟨b, o, none⟩), .pointer (some ⟨b1, o1, none⟩)] w fun e w' => e = .returned (.int .i64 (cmpI x y)) ∧ Below w.heap.size w w' := by
  obtain ⟨A, n, c, s, HN, HS, h0, h1, hc, HR⟩ := hx.open
  rw [← HN.out] at hl
  obtain ⟨A', n', c', s', HN', HS', h0', h1', hc', HR'⟩ := hy.open
  rw [← HN'.out] at hl'
  have LX := Lib.hid hl
  have LY := Lib.hid hl'
  clear hx hy hc hc' HN HN' hl hl'
  cases s <;> cases s'
  · have hC : Hid (cmpI x y = cmpN x.natAbs y.natAbs) := Lib.hid (cmpI_nat (by have := HS.out; simp at this; exact this) (by have := HS'.out; simp at this; exact this))
    go_enter Tryz.func112, Tryz.ntmps112
    go_wp2_with fail
    go_quiet (fail)
    go_wp2_with fail
    refine wp_region_G (S := (fun w' => w'.cell? ⟨b, o + 1, none⟩ = some (.slice A n c) ∧ w'.cell? ⟨b1, o1 + 1, none⟩ = some (.slice A' n' c'))) 8 (by kernel_rfl) ?_ (fun hHeld => ?_)
    · first | exact True.intro | ((try dsimp only); go_keep)
    refine wpAnyG_take (i := 0) (v := ?_) rfl (by kernel_rfl) (by kernel_rfl) (by kernel_rfl) (by kernel_rfl) 8 (by kernel_rfl) (fun _ _ _ h => h) (Or.inl ⟨by kernel_rfl, ?_⟩) (by assumption) ?_
    rotate_left 1
    · (intro w hSw; (try dsimp only at hSw); go_simp; try with_reducible rfl)
    try simp only [List.getElem_toArray, List.getElem_cons_succ, List.getElem_cons_zero, Act.put, List.setIfInBounds_toArray, List.set_cons_zero, List.set_cons_succ]
    refine wpAnyG_take (i := 1) (v := ?_) rfl (by kernel_rfl) (by kernel_rfl) (by kernel_rfl) (by kernel_rfl) 8 (by kernel_rfl) (fun _ _ _ h => h) (Or.inl ⟨by kernel_rfl, ?_⟩) (by assumption) ?_
    rotate_left 1
    · (intro w hSw; (try dsimp only at hSw); go_simp; try with_reducible rfl)
    try simp only [List.getElem_toArray, List.getElem_cons_succ, List.getElem_cons_zero, Act.put, List.setIfInBounds_toArray, List.set_cons_zero, List.set_cons_succ]
    refine wpAnyG_take (i := 2) (v := ?_) rfl (by kernel_rfl) (by kernel_rfl) (by kernel_rfl) (by kernel_rfl) 8 (by kernel_rfl) (fun _ _ _ h => h) (Or.inl ⟨by kernel_rfl, ?_⟩) (by assumption) ?_
    rotate_left 1
    · (intro w hSw; (try dsimp only at hSw); go_simp; try with_reducible rfl)
    try simp only [List.getElem_toArray, List.getElem_cons_succ, List.getElem_cons_zero, Act.put, List.setIfInBounds_toArray, List.set_cons_zero, List.set_cons_succ]
    refine wpAnyG_take (i := 3) (v := ?_) rfl (by kernel_rfl) (by kernel_rfl) (by kernel_rfl) (by kernel_rfl) 8 (by kernel_rfl) (fun _ _ _ h => h) (Or.inl ⟨by kernel_rfl, ?_⟩) (by assumption) ?_
    rotate_left 1
    · (intro w hSw; (try dsimp only at hSw); go_simp; try with_reducible rfl)
    try simp only [List.getElem_toArray, List.getElem_cons_succ, List.getElem_cons_zero, Act.put, List.setIfInBounds_toArray, List.set_cons_zero, List.set_cons_succ]
    refine wpAnyG_take (i := 4) (v := ?_) rfl (by kernel_rfl) (by kernel_rfl) (by kernel_rfl) (by kernel_rfl) 8 (by kernel_rfl) (fun _ _ _ h => h) (Or.inl ⟨by kernel_rfl, ?_⟩) (by assumption) ?_
    rotate_left 1
    · (intro w hSw; (try dsimp only at hSw); go_simp; try with_reducible rfl)
    try simp only [List.getElem_toArray, List.getElem_cons_succ, List.getElem_cons_zero, Act.put, List.setIfInBounds_toArray, List.set_cons_zero, List.set_cons_succ]
    refine wpAnyG_take (i := 5) (v := ?_) rfl (by kernel_rfl) (by kernel_rfl) (by kernel_rfl) (by kernel_rfl) 8 (by kernel_rfl) (fun _ _ _ h => h) (Or.inl ⟨by kernel_rfl, ?_⟩) (by assumption) ?_
    rotate_left 1
    · (intro w hSw; (try dsimp only at hSw); go_simp; try with_reducible rfl)
    try simp only [List.getElem_toArray, List.getElem_cons_succ, List.getElem_cons_zero, Act.put, List.setIfInBounds_toArray, List.set_cons_zero, List.set_cons_succ]
    refine wpAnyG_take (i := 6) (v := ?_) rfl (by kernel_rfl) (by kernel_rfl) (by kernel_rfl) (by kernel_rfl) 8 (by kernel_rfl) (fun _ _ _ h => h) (Or.inl ⟨by kernel_rfl, ?_⟩) (by assumption) ?_
    rotate_left 1
    · (intro w hSw; (try dsimp only at hSw); go_simp; try with_reducible rfl)
    try simp only [List.getElem_toArray, List.getElem_cons_succ, List.getElem_cons_zero, Act.put, List.setIfInBounds_toArray, List.set_cons_zero, List.set_cons_succ]
    refine wpAnyG_take (i := 7) (v := ?_) rfl (by kernel_rfl) (by kernel_rfl) (by kernel_rfl) (by kernel_rfl) 8 (by kernel_rfl) (fun _ _ _ h => h) (Or.inl ⟨by kernel_rfl, ?_⟩) (by assumption) ?_
    rotate_left 1
    · (intro w hSw; (try dsimp only at hSw); go_simp; try with_reducible rfl)
    try simp only [List.getElem_toArray, List.getElem_cons_succ, List.getElem_cons_zero, Act.put, List.setIfInBounds_toArray, List.set_cons_zero, List.set_cons_succ]
    refine wpAnyG_one (i := 8) (by kernel_rfl) rfl (fun K hK => ?_)
    go_simp
    (refine (cmp_any A A' n n' c c' x.natAbs y.natAbs _ _ (w.drewN nq).drew (HR.out.keep (w' := (w.drewN nq).drew) fun _ _ => rfl) (HR'.out.keep (w' := (w.drewN nq).drew) fun _ _ => rfl) (by have := LX.out; omega) (by have := LY.out; omega)).mono ?_; rintro e w1 ⟨rfl, hb1⟩; have k1 := bat hb1 hHeld.1; have k2 := bat hb1 hHeld.2; have k3 := bat hb1 (show (w.drewN nq).drew.cell? _ = _ from h0))
    try go_wp2_with fail
    refine hK.out _ _ ?_ (fun hHeld => ?_)
    · exact .inr (by kernel_rfl)
    clear hK K
    try simp only [List.getElem_toArray, List.getElem_cons_succ, List.getElem_cons_zero, Act.put, List.setIfInBounds_toArray, List.set_cons_zero, List.set_cons_succ]
    refine wpAnyG_one (i := 9) (by kernel_rfl) rfl (fun K hK => ?_)
    go_simp
    refine hK.out _ _ ?_ (fun hHeld => ?_)
    · exact .inr (by kernel_rfl)
    clear hK K
    try simp only [List.getElem_toArray, List.getElem_cons_succ, List.getElem_cons_zero, Act.put, List.setIfInBounds_toArray, List.set_cons_zero, List.set_cons_succ]
    refine wpAnyG_done (by kernel_rfl) ?_ _
    go_wp2_with fail
    go_ret
    exact ⟨by rw [hC.out]; rfl, ((below_drewN (Below.refl w.heap.size w) nq).drew).trans hb1⟩
  · have hC : Hid (cmpI x y = 1) := Lib.hid (by have h1 := HS.out; have h2 := HS'.out; simp at h1 h2; unfold cmpI; rw [if_neg (by omega), if_pos (by omega)])
    go_enter Tryz.func112, Tryz.ntmps112
    go_wp2_with fail
    go_quiet (fail)
    go_wp2_with fail
    go_ret
    exact ⟨by rw [hC.out]; rfl, below_drewN (Below.refl _ _) _⟩
  · have hC : Hid (cmpI x y = -1) := Lib.hid (by have h1 := HS.out; have h2 := HS'.out; simp at h1 h2; unfold cmpI; rw [if_pos (by omega)])
    go_enter Tryz.func112, Tryz.ntmps112
    go_wp2_with fail
    go_quiet (fail)
    go_wp2_with fail
    go_ret
    exact ⟨by rw [hC.out]; rfl, below_drewN (Below.refl _ _) _⟩
  · have hC : Hid (cmpI x y = -cmpN x.natAbs y.natAbs) := Lib.hid (cmpI_neg (by have := HS.out; simp at this; exact this) (by have := HS'.out; simp at this; exact this))
    go_enter Tryz.func112, Tryz.ntmps112
    go_wp2_with fail
    go_quiet (fail)
    go_wp2_with fail
    refine wp_region_G (S := (fun w' => w'.cell? ⟨b, o + 1, none⟩ = some (.slice A n c) ∧ w'.cell? ⟨b1, o1 + 1, none⟩ = some (.slice A' n' c'))) 8 (by kernel_rfl) ?_ (fun hHeld => ?_)
    · first | exact True.intro | ((try dsimp only); go_keep)
    refine wpAnyG_take (i := 0) (v := ?_) rfl (by kernel_rfl) (by kernel_rfl) (by kernel_rfl) (by kernel_rfl) 8 (by kernel_rfl) (fun _ _ _ h => h) (Or.inl ⟨by kernel_rfl, ?_⟩) (by assumption) ?_
    rotate_left 1
    · (intro w hSw; (try dsimp only at hSw); go_simp; try with_reducible rfl)
    try simp only [List.getElem_toArray, List.getElem_cons_succ, List.getElem_cons_zero, Act.put, List.setIfInBounds_toArray, List.set_cons_zero, List.set_cons_succ]
    refine wpAnyG_take (i := 1) (v := ?_) rfl (by kernel_rfl) (by kernel_rfl) (by kernel_rfl) (by kernel_rfl) 8 (by kernel_rfl) (fun _ _ _ h => h) (Or.inl ⟨by kernel_rfl, ?_⟩) (by assumption) ?_
    rotate_left 1
    · (intro w hSw; (try dsimp only at hSw); go_simp; try with_reducible rfl)
    try simp only [List.getElem_toArray, List.getElem_cons_succ, List.getElem_cons_zero, Act.put, List.setIfInBounds_toArray, List.set_cons_zero, List.set_cons_succ]
    refine wpAnyG_take (i := 2) (v := ?_) rfl (by kernel_rfl) (by kernel_rfl) (by kernel_rfl) (by kernel_rfl) 8 (by kernel_rfl) (fun _ _ _ h => h) (Or.inl ⟨by kernel_rfl, ?_⟩) (by assumption) ?_
    rotate_left 1
    · (intro w hSw; (try dsimp only at hSw); go_simp; try with_reducible rfl)
    try simp only [List.getElem_toArray, List.getElem_cons_succ, List.getElem_cons_zero, Act.put, List.setIfInBounds_toArray, List.set_cons_zero, List.set_cons_succ]
    refine wpAnyG_take (i := 3) (v := ?_) rfl (by kernel_rfl) (by kernel_rfl) (by kernel_rfl) (by kernel_rfl) 8 (by kernel_rfl) (fun _ _ _ h => h) (Or.inl ⟨by kernel_rfl, ?_⟩) (by assumption) ?_
    rotate_left 1
    · (intro w hSw; (try dsimp only at hSw); go_simp; try with_reducible rfl)
    try simp only [List.getElem_toArray, List.getElem_cons_succ, List.getElem_cons_zero, Act.put, List.setIfInBounds_toArray, List.set_cons_zero, List.set_cons_succ]
    refine wpAnyG_take (i := 4) (v := ?_) rfl (by kernel_rfl) (by kernel_rfl) (by kernel_rfl) (by kernel_rfl) 8 (by kernel_rfl) (fun _ _ _ h => h) (Or.inl ⟨by kernel_rfl, ?_⟩) (by assumption) ?_
    rotate_left 1
    · (intro w hSw; (try dsimp only at hSw); go_simp; try with_reducible rfl)
    try simp only [List.getElem_toArray, List.getElem_cons_succ, List.getElem_cons_zero, Act.put, List.setIfInBounds_toArray, List.set_cons_zero, List.set_cons_succ]
    refine wpAnyG_take (i := 5) (v := ?_) rfl (by kernel_rfl) (by kernel_rfl) (by kernel_rfl) (by kernel_rfl) 8 (by kernel_rfl) (fun _ _ _ h => h) (Or.inl ⟨by kernel_rfl, ?_⟩) (by assumption) ?_
    rotate_left 1
    · (intro w hSw; (try dsimp only at hSw); go_simp; try with_reducible rfl)
    try simp only [List.getElem_toArray, List.getElem_cons_succ, List.getElem_cons_zero, Act.put, List.setIfInBounds_toArray, List.set_cons_zero, List.set_cons_succ]
    refine wpAnyG_take (i := 6) (v := ?_) rfl (by kernel_rfl) (by kernel_rfl) (by kernel_rfl) (by kernel_rfl) 8 (by kernel_rfl) (fun _ _ _ h => h) (Or.inl ⟨by kernel_rfl, ?_⟩) (by assumption) ?_
    rotate_left 1
    · (intro w hSw; (try dsimp only at hSw); go_simp; try with_reducible rfl)
    try simp only [List.getElem_toArray, List.getElem_cons_succ, List.getElem_cons_zero, Act.put, List.setIfInBounds_toArray, List.set_cons_zero, List.set_cons_succ]
    refine wpAnyG_take (i := 7) (v := ?_) rfl (by kernel_rfl) (by kernel_rfl) (by kernel_rfl) (by kernel_rfl) 8 (by kernel_rfl) (fun _ _ _ h => h) (Or.inl ⟨by kernel_rfl, ?_⟩) (by assumption) ?_
    rotate_left 1
    · (intro w hSw; (try dsimp only at hSw); go_simp; try with_reducible rfl)
    try simp only [List.getElem_toArray, List.getElem_cons_succ, List.getElem_cons_zero, Act.put, List.setIfInBounds_toArray, List.set_cons_zero, List.set_cons_succ]
    refine wpAnyG_one (i := 8) (by kernel_rfl) rfl (fun K hK => ?_)
    go_simp
    (refine (cmp_any A A' n n' c c' x.natAbs y.natAbs _ _ (w.drewN nq).drew (HR.out.keep (w' := (w.drewN nq).drew) fun _ _ => rfl) (HR'.out.keep (w' := (w.drewN nq).drew) fun _ _ => rfl) (by have := LX.out; omega) (by have := LY.out; omega)).mono ?_; rintro e w1 ⟨rfl, hb1⟩; have k1 := bat hb1 hHeld.1; have k2 := bat hb1 hHeld.2; have k3 := bat hb1 (show (w.drewN nq).drew.cell? _ = _ from h0))
    try go_wp2_with fail
    refine hK.out _ _ ?_ (fun hHeld => ?_)
    · exact .inr (by kernel_rfl)
    clear hK K
    try simp only [List.getElem_toArray, List.getElem_cons_succ, List.getElem_cons_zero, Act.put, List.setIfInBounds_toArray, List.set_cons_zero, List.set_cons_succ]
    refine wpAnyG_one (i := 9) (by kernel_rfl) rfl (fun K hK => ?_)
    go_simp
    refine hK.out _ _ ?_ (fun hHeld => ?_)
    · exact .inr (by kernel_rfl)
    clear hK K
    try simp only [List.getElem_toArray, List.getElem_cons_succ, List.getElem_cons_zero, Act.put, List.setIfInBounds_toArray, List.set_cons_zero, List.set_cons_succ]
    refine wpAnyG_done (by kernel_rfl) ?_ _
    go_wp2_with fail
    go_ret
    exact ⟨by show Ending.returned (.int .i64 (wrap64 _)) = _; rw [neg_wrap, hC.out], ((below_drewN (Below.refl w.heap.size w) nq).drew).trans hb1⟩

end Go.Proofs.YtjokpfgncmdomaaGreatDoor

/- ratio.Sign, Int: the walks -/
namespace Go.Proofs.YtjokpfgncmdomaaGreatDoor
open Go.RowKit Go.Sort

def SignPost (r : RV) (w : World) (e : Ending) (w' : World) : Prop := (if rightB r = true then e = .returned (.tuple #[.int .i64 (sgnI r.q.num), .int .i64 0]) else e = .returned (.tuple #[.int .i64 0, .int .i64 2])) ∧ Below w.heap.size w w'

set_option maxRecDepth 100000 in
set_option maxHeartbeats 4000000 in
theorem sign_ratio (v : Value) (r : RV) (w : World) (hr : RAt w v r) (l1 : r.num.length ≤ 1000000000000000) (l2 : r.den.length ≤ 1000000000000000) :
    Calls Tryz.prog 20 #[v] w (SignPost r w) := by
  have HR := Lib.hid hr
  obtain ⟨s, A, n, c, A', n', c', rfl⟩ : ∃ s A n c A' n' c', v = .agg #[.bool s, .slice A n c, .slice A' n' c'] := by obtain ⟨A, n, c, A', n', c', h, _⟩ := hr; exact ⟨_, _, _, _, _, _, _, h⟩
  clear hr
  go_enter Tryz.func20, Tryz.ntmps20
  go_wp2_with fail
  refine (right_ratio _ r _ (HR.out.below (below1 ..)) l1 l2).mono ?_
  rintro e w1 ⟨rfl, hb1⟩
  have q0 := bat hb1 (new_cell w #[.bool s, .slice A n c, .slice A' n' c'] 24 0 _ rfl)
  have q1 := bat hb1 (new_cell w #[.bool s, .slice A n c, .slice A' n' c'] 24 1 _ rfl)
  have q2 := bat hb1 (new_cell w #[.bool s, .slice A n c, .slice A' n' c'] 24 2 _ rfl)
  have HB1 := Lib.hid ((below1 w (.cells #[.bool s, .slice A n c, .slice A' n' c'] 24)).trans (hb1.mono (by simp)))
  clear hb1
  cases h : rightB r
  · have H := Lib.hid h
    clear h
    go_wp2_with fail
    go_ret2
    unfold SignPost
    rw [if_neg (by rw [H.out]; decide)]
    exact ⟨rfl, HB1.out⟩
  · have H := Lib.hid h
    clear h
    have LA := Lib.hid (right_len H.out)
    have DA := Lib.hid (right_den H.out HR.out.ldsD)
    go_wp2_with fail
    refine (fraction_ratio _ r w1 (HR.out.below HB1.out) DA.out (by have := LA.out; omega) (by have := LA.out; omega)).mono ?_
    rintro e w2 ⟨g, rfl, hg, hr2, hb2⟩
    have HR2 := Lib.hid hr2
    have HB2 := Lib.hid (HB1.out.trans (hb2.mono HB1.out.size))
    clear hr2 hb2
    go_wp2_with fail
    refine (sign_rat g r.q _ HR2.out).mono ?_
    rintro e w' ⟨rfl, rfl⟩
    go_wp2_with fail
    go_ret2
    unfold SignPost
    rw [if_pos H.out]
    exact ⟨rfl, HB2.out⟩

theorem told_to {w w' : World} {q : Rat} {e : Ending} (h : Told w q e w') (hf : fits q) : ∃ v, e = .returned (.tuple #[v, .int .i64 0]) ∧ RAt w' v (rv q) ∧ Below w.heap.size w w' := by
  obtain ⟨v, h1, h2, h3⟩ := h
  rw [toldE, if_pos hf] at h1
  rw [toldR, if_pos hf] at h2
  exact ⟨v, h1, h2, h3⟩
theorem blk2 (w : World) (o1 : Obj) (cs : Array Value) (t : TypeId) : ((w.alloc o1).alloc (.cells cs t)).heap[w.heap.size + 1]? = some (.cells cs t (0, 0)) := by
  have h := blk_new (w.alloc o1) cs t
  rwa [World.size_alloc] at h
theorem fits_int {x : Int} (hx : -9223372036854775808 ≤ x) (hx2 : x ≤ 9223372036854775807) : fits (Rat.divInt x 1) := by
  have h1 := rn_pos (a := x) (b := 1) (by decide)
  have e1 : (Rat.divInt x 1).num = x := by rw [h1.1]; simp
  have e2 : (Rat.divInt x 1).den = 1 := by rw [h1.2]; simp
  unfold fits
  rw [e1, e2]
  exact ⟨Nat.le_trans (lim_len_le (k := 1) (by show _ < 18446744073709551616 ^ 1; omega)) (by decide), by decide⟩
theorem sz_int {x : Int} (hx : -9223372036854775808 ≤ x) (hx2 : x ≤ 9223372036854775807) : Sz 2 (Rat.divInt x 1) := by
  have h1 := rn_pos (a := x) (b := 1) (by decide)
  have e1 : (Rat.divInt x 1).num = x := by rw [h1.1]; simp
  have e2 : (Rat.divInt x 1).den = 1 := by rw [h1.2]; simp
  unfold Sz
  rw [e1, e2]
  exact ⟨dig_len_small (by omega), by decide⟩

set_option maxRecDepth 100000 in
set_option maxHeartbeats 4000000 in
theorem int_ratio (x : Int) (w : World) (hx : -9223372036854775808 ≤ x) (hx2 : x ≤ 9223372036854775807) :
    Calls Tryz.prog 15 #[.int .i64 x] w fun e w' => ∃ v, e = .returned v ∧ RAt w' v (rv (Rat.divInt x 1)) ∧ Below w.heap.size w w' := by
  have HF := Lib.hid (fits_int hx hx2)
  have HS := Lib.hid (sz_int hx hx2)
  go_enter Tryz.func15, Tryz.ntmps15
  go_wp2_with fail
  refine (setI_rat (w.heap.size + 1) x _ (by have h := new_rat (w.alloc (.cells #[.bool false, .slice none 0 0, .slice none 0 0] 24)); rwa [World.size_alloc] at h) hx hx2).mono ?_
  rintro e w1 ⟨rfl, hr1, hu1⟩
  have hblk : w1.heap[w.heap.size]? = some (.cells #[.bool false, .slice none 0 0, .slice none 0 0] 24 (0, 0)) := by
    rw [hu1.blk w.heap.size (by simp; omega) (by omega)]
    exact ((below1 (w.alloc (.cells #[.bool false, .slice none 0 0, .slice none 0 0] 24)) newR).block w.heap.size (by simp)).trans (blk_new w _ _)
  have HR1 := Lib.hid hr1
  have HB1 := Lib.hid ((below1 w (.cells #[.bool false, .slice none 0 0, .slice none 0 0] 24)).trans (((below1 (w.alloc (.cells #[.bool false, .slice none 0 0, .slice none 0 0] 24)) newR).mono (by simp)).trans (hu1.below (by omega) (by simp; omega))))
  have z1 : w.heap.size + 1 ≤ w1.heap.size := by have := hu1.size; simp at this; omega
  clear hr1 hu1
  go_wp2_with fail
  refine (told_ratio _ (Rat.divInt x 1) w1 HR1.out (Nat.le_trans HS.out.1 (by omega)) (Nat.le_trans HS.out.2 (by omega))).mono ?_
  rintro e w2 ht
  obtain ⟨v, rfl, hv2, hb2⟩ := told_to ht HF.out
  have HV2 := Lib.hid hv2
  have hblk2 := (hb2.block w.heap.size (by omega)).trans hblk
  have HB2 := Lib.hid (HB1.out.trans (hb2.mono HB1.out.size))
  have z2 : w.heap.size + 1 ≤ w2.heap.size := by have := hb2.size; omega
  obtain ⟨s, B, m, d, B', m', d', rfl⟩ : ∃ s A n c A' n' c', v = .agg #[.bool s, .slice A n c, .slice A' n' c'] := by obtain ⟨A, n, c, A', n', c', h, _⟩ := hv2; exact ⟨_, _, _, _, _, _, _, h⟩
  have hblk3 := ((below1 w2 (.cells #[.bool s, .slice B m d, .slice B' m' d'] 24)).block w.heap.size (by omega)).trans hblk2
  obtain ⟨kc, kf⟩ := blk_cells hblk3
  have kc0 := kc 0
  have kc1 := kc 1
  have kc2 := kc 2
  have kf0 := kf 0
  have kf1 := kf 1
  have kf2 := kf 2
  simp only [List.getElem?_toArray, List.getElem?_cons_zero, List.getElem?_cons_succ] at kc0 kc1 kc2
  clear hv2 hb2 ht hblk hblk2 hblk3 kc kf
  obtain ⟨w3, hw3⟩ : ∃ w3, w3 = w2.alloc (.cells #[.bool s, .slice B m d, .slice B' m' d'] 24) := ⟨_, rfl⟩
  have HW3 := Lib.hid hw3
  have HB3 := Lib.hid (show Below w2.heap.size w2 w3 by rw [hw3]; exact below1 ..)
  clear hw3
  go_wp2_with fail
  rw [← HW3.out] at kc0 kc1 kc2 ⊢
  obtain ⟨w6, hw6⟩ : ∃ w6, w6 = ((w3.setCell ⟨w.heap.size, 0, none⟩ (.bool s)).setCell ⟨w.heap.size, 1, none⟩ (.slice B m d)).setCell ⟨w.heap.size, 2, none⟩ (.slice B' m' d') := ⟨_, rfl⟩
  obtain ⟨hu6, q0, q1, q2⟩ := rat_set kc0 kc1 kc2 _ _ _ _ _ _ _ _ hw6
  rw [← hw6]
  (try simp only [Exit.inBlock, Exit.then])
  refine bodyPost_ret (v := .agg #[.bool s, .slice B m d, .slice B' m' d']) (by simp [results, Tryz.results15, go_sem, q0, q1, q2]; done) rfl ?_
  have z3 := HB3.out.size
  exact ⟨_, rfl, (HV2.out.below HB3.out).upb hu6, (HB2.out.trans (HB3.out.mono HB2.out.size)).trans (hu6.below (by omega) (by omega))⟩

end Go.Proofs.YtjokpfgncmdomaaGreatDoor
