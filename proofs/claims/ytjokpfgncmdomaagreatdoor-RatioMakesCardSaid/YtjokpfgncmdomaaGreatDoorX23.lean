import Derived.Test.YtjokpfgncmdomaaGreatDoorX22
import Derived.Deep.Cut
import Derived.Deep.DeepCutAuto
set_option linter.unusedSimpArgs false
set_option linter.unusedVariables false
/- girderref02.up, huge, float; girderref01.Join of what these ask: the walks (printed by gen_h16.py) -/
namespace Go.Proofs.YtjokpfgncmdomaaGreatDoor
open Go.RowKit Go.Sort
end Go.Proofs.YtjokpfgncmdomaaGreatDoor

/- girderref02.huge, float: the walks -/
namespace Go.Proofs.YtjokpfgncmdomaaGreatDoor
open Go.RowKit Go.Sort
end Go.Proofs.YtjokpfgncmdomaaGreatDoor

/- girderref02: Zero, top and Rounded of a number: the walks -/
namespace Go.Proofs.YtjokpfgncmdomaaGreatDoor
open Go.RowKit Go.Sort
/-- a number of girderref02 -/
def NAt (w : World) (v : Value) (s : Bool) (xs : List Nat) (e : Int) : Prop := ∃ A n c, v = .agg #[.bool s, .slice A n c, .int .i64 e] ∧ LAt w (.slice A n c) xs

end Go.Proofs.YtjokpfgncmdomaaGreatDoor

/- girderref02.Rounded of a number that has places behind the last one: the walk -/
namespace Go.Proofs.YtjokpfgncmdomaaGreatDoor
open Go.RowKit Go.Sort
end Go.Proofs.YtjokpfgncmdomaaGreatDoor

/- what is rounded does not hang on the number of places (plain) -/
namespace Go.Proofs.YtjokpfgncmdomaaGreatDoor
end Go.Proofs.YtjokpfgncmdomaaGreatDoor

/- girderref07.Rounded: the walk -/
namespace Go.Proofs.YtjokpfgncmdomaaGreatDoor
open Go.RowKit Go.Sort
end Go.Proofs.YtjokpfgncmdomaaGreatDoor

/- Round of both sides, whole numbers of girderref07, great: the walks -/
namespace Go.Proofs.YtjokpfgncmdomaaGreatDoor
open Go.RowKit Go.Sort
set_option maxRecDepth 100000 in
set_option maxHeartbeats 2000000 in
theorem great_any (s : Bool) (A A' : Option Addr) (n n' c c' : Nat) (w : World) (hn : n ≤ 100000000000000) (hn' : n' ≤ 100000000000000) :
    Calls Tryz.prog 9 #[.agg #[.bool s, .slice A n c, .slice A' n' c']] w fun e w' => e = .returned (.bool (decide (300 < n) || decide (300 < n'))) ∧ Below w.heap.size w w' := by
  by_cases h1 : 300 < n
  · have e1 : decide (300 < (n : Int)) = true := decide_eq_true (by omega)
    go_enter Tryz.func9, Tryz.ntmps9
    go_wp2_with fail
    go_ret
    exact ⟨by rw [decide_eq_true h1]; rfl, below1 ..⟩
  · have e1 : decide (300 < (n : Int)) = false := decide_eq_false (by omega)
    by_cases h2 : 300 < n'
    · have e2 : decide (300 < (n' : Int)) = true := decide_eq_true (by omega)
      go_enter Tryz.func9, Tryz.ntmps9
      go_wp2_with fail
      go_ret
      exact ⟨by rw [decide_eq_false h1, decide_eq_true h2]; rfl, below1 ..⟩
    · have e2 : decide (300 < (n' : Int)) = false := decide_eq_false (by omega)
      go_enter Tryz.func9, Tryz.ntmps9
      go_wp2_with fail
      go_ret
      exact ⟨by rw [decide_eq_false h1, decide_eq_false h2]; rfl, below1 ..⟩

end Go.Proofs.YtjokpfgncmdomaaGreatDoor

/- girderref07.Whole, Int: the walks (printed by gen_h23.py) -/
namespace Go.Proofs.YtjokpfgncmdomaaGreatDoor
open Go.RowKit Go.Sort
end Go.Proofs.YtjokpfgncmdomaaGreatDoor

/- girderlaw07.RatioRounds: the walk -/
namespace Go.Proofs.YtjokpfgncmdomaaGreatDoor
open Go.RowKit Go.Sort
theorem rv_len {q : Rat} (h : fits q) : (rv q).num.length ≤ 256 ∧ (rv q).den.length ≤ 256 := h

end Go.Proofs.YtjokpfgncmdomaaGreatDoor

/- ratio.OfDyad of right dyads: the walk -/
namespace Go.Proofs.YtjokpfgncmdomaaGreatDoor
open Go.RowKit Go.Sort

/-- the number of a dyad -/
def DV.q (d : DV) : Rat := Rat.divInt (d.top * 2 ^ d.exp.toNat) (2 ^ (-d.exp).toNat)
theorem abs_top (d : DV) : d.top.natAbs = ln d.mag := by
  unfold DV.top
  split <;> simp
theorem dig_scale {N p k : Nat} (h : (dig N).length ≤ k) : (dig (N * 2 ^ p)).length ≤ k + p := by
  refine dig_len_le ?_
  rw [Nat.pow_add]
  exact Nat.lt_of_lt_of_le (Nat.mul_lt_mul_of_pos_right (Nat.lt_of_lt_of_le (lt_dig_len N) (Nat.pow_le_pow_right (by decide) h)) (Nat.pow_pos (by decide))) (Nat.mul_le_mul_left _ (Nat.pow_le_pow_left (by decide) p))
theorem dig_mono_len {a b : Nat} (h : a ≤ b) : (dig a).length ≤ (dig b).length := dig_len_le (Nat.lt_of_le_of_lt h (lt_dig_len b))
theorem natAbs_scale (x : Int) (p : Nat) : (x * 2 ^ p).natAbs = x.natAbs * 2 ^ p := by
  rw [Int.natAbs_mul, Int.natAbs_pow]; rfl

set_option maxRecDepth 100000 in
set_option maxHeartbeats 8000000 in
theorem ofDyad_told (v : Value) (d : DV) (w : World) (hd : DAt w v d) (hlen : d.mag.length ≤ 1000) (h1 : -16384 ≤ d.exp) (h2 : d.exp ≤ 16384)
    (hR : ∀ w, DAt w v d → Calls Tryz.prog 87 #[v] w fun e w' => e = .returned (.bool true) ∧ Below w.heap.size w w') :
    Calls Tryz.prog 35 #[v] w (Told w d.q) := by
  have HD := Lib.hid hd
  obtain ⟨A, n, c, rfl, hx, hls⟩ := hd
  have HR := Lib.hid hR
  have HX := Lib.hid hx
  have HLS := Lib.hid hls
  obtain ⟨s, ms, ex⟩ := d
  simp only at HX HLS hlen h1 h2
  have en := HX.out.num
  have hn : n ≤ 1000 := by omega
  have f1 : decide ((16384 : Int) < ex) = false := decide_eq_false (by omega)
  have f2 : decide (ex < (-16384 : Int)) = false := decide_eq_false (by omega)
  obtain ⟨T, hT⟩ : ∃ T : Int, T = (⟨s, ms, ex⟩ : DV).top := ⟨_, rfl⟩
  obtain ⟨T', hT'⟩ : ∃ T' : Int, T' = T * 2 ^ ex.toNat := ⟨_, rfl⟩
  obtain ⟨S', hS'⟩ : ∃ S' : Int, S' = 2 ^ (-ex).toNat := ⟨_, rfl⟩
  obtain ⟨q, hq⟩ : ∃ q, q = (⟨s, ms, ex⟩ : DV).q := ⟨_, rfl⟩
  have hqe : q = Rat.divInt T' S' := by rw [hq, hT', hS', hT]; rfl
  have hS0 : 0 < S' := by rw [hS']; exact Int.pow_pos (by decide)
  have hTa : T.natAbs = ln ms := by rw [hT]; exact abs_top _
  have hlT : (dig T.natAbs).length ≤ 100000 := by rw [hTa]; exact Nat.le_trans (dig_ln_len HLS.out) (by omega)
  have hlT' : (dig T'.natAbs).length ≤ 200000 := by
    rw [hT', natAbs_scale]
    exact Nat.le_trans (dig_scale hlT) (by omega)
  have hlS' : (dig S'.natAbs).length ≤ 200000 := by
    rw [hS', show (2 : Int) ^ (-ex).toNat = 1 * 2 ^ (-ex).toNat by rw [Int.one_mul], natAbs_scale]
    exact Nat.le_trans (dig_scale (k := 1) (by decide)) (by omega)
  have hdz := dsz (N := T') (D := S') (by omega)
  have hqn : (dig q.num.natAbs).length ≤ 1000000 := by
    rw [hqe]
    exact Nat.le_trans (dig_mono_len hdz.1) (by omega)
  have hqd : (dig q.den).length ≤ 1000000 := by
    rw [hqe]
    exact Nat.le_trans (dig_mono_len hdz.2) (by omega)
  rw [← hq]
  have HT := Lib.hid hT
  have HTP := Lib.hid hT'
  have HSP := Lib.hid hS'
  have HQE := Lib.hid hqe
  have HS0 := Lib.hid hS0
  have HLT := Lib.hid hlT
  have HLTP := Lib.hid hlT'
  have HLSP := Lib.hid hlS'
  have HQN := Lib.hid hqn
  have HQD := Lib.hid hqd
  have HH := Lib.hid (And.intro h1 h2)
  obtain ⟨w0, hw0⟩ : ∃ w0, w0 = (w.alloc (.cells #[.bool s, .slice A n c, .int .i64 ex] 46)).alloc (.cells #[.bool false, .slice none 0 0, .slice none 0 0] 24) := ⟨_, rfl⟩
  have hb0 : Below w.heap.size w w0 := by rw [hw0]; exact below2 ..
  have g1 : w0.heap[w.heap.size]? = some (.cells #[.bool s, .slice A n c, .int .i64 ex] 46 (0, 0)) := by
    rw [hw0]; exact ((below1 (w.alloc _) _).block w.heap.size (by simp)).trans (blk_new w _ _)
  have g2 : w0.heap[w.heap.size + 1]? = some (.cells #[.bool false, .slice none 0 0, .slice none 0 0] 24 (0, 0)) := by
    rw [hw0]; exact blk2 w _ _ _
  have z0 : w0.heap.size = w.heap.size + 2 := by rw [hw0]; simp
  have k1 := (blk_cells g1).1
  have k10 := k1 0
  have k11 := k1 1
  have k12 := k1 2
  simp only [List.getElem?_toArray, List.getElem?_cons_zero, List.getElem?_cons_succ] at k10 k11 k12
  have HK := Lib.hid (And.intro k10 (And.intro k11 k12))
  have G2 := Lib.hid g2
  have HB0 := Lib.hid hb0
  have HW0 := Lib.hid hw0
  rw [hw0] at k10 k11 k12
  clear hx hls hR hlen h1 h2 en hT hT' hS' hq hqe hS0 hTa hlT hlT' hlS' hdz hqn hqd hw0 hb0 g1 g2 k1
  go_enter Tryz.func35, Tryz.ntmps35
  go_wp2_with fail
  rw [← HW0.out]
  refine (HR.out w0 (HD.out.below HB0.out)).mono ?_
  rintro e w1 ⟨rfl, hb1⟩
  have HB1 := Lib.hid hb1
  obtain ⟨k10, k11, k12⟩ := HK.out
  have c0 := bat hb1 k10
  have c1 := bat hb1 k11
  have c2 := bat hb1 k12
  clear hb1 k10 k11 k12
  go_wp2_with fail
  refine (whole_ratio A n c ms w1 ((HX.out.belowL HB0.out).belowL HB1.out) HLS.out (by omega)).mono ?_
  rintro e w2 ⟨g4, rfl, hg4, hg4', hi4, hb2⟩
  have HI4 := Lib.hid hi4
  have HB2 := Lib.hid (HB1.out.trans (hb2.mono HB1.out.size))
  have d0 := bat hb2 c0
  have d1 := bat hb2 c1
  have d2 := bat hb2 c2
  have zz1 := HB1.out.size
  clear hb2 hi4 c0 c1 c2
  go_wp2_with fail
  refine (newInt_int 1 w2 (by decide) (by decide)).mono ?_
  rintro e w3 ⟨g5, rfl, hg5, hg5', hi5, hb3⟩
  have HI5 := Lib.hid hi5
  have HI43 := Lib.hid (HI4.out.below hb3)
  have HB3 := Lib.hid (HB2.out.trans (hb3.mono HB2.out.size))
  have zz2 := HB2.out.size
  have zz3 := hb3.size
  have c0 := bat hb3 d0
  have c1 := bat hb3 d1
  have c2 := bat hb3 d2
  clear hb3 hi5 d0 d1 d2
  go_upto_if 26 with fail
  go_cut [] (fun wx => IntAt wx g4 0 T ∧ IntAt wx g5 0 1 ∧ Below w0.heap.size w0 wx)
  case first =>
    cases s
    · go_wp2_with fail
      go_meet
      exact ⟨by rw [HT.out]; exact HI43.out, HI5.out, HB3.out⟩
    · go_wp2_with fail
      refine (neg_int g4 0 g4 0 (ln ms : Int) (ln ms : Int) w3 HI43.out HI43.out (by have := HLT.out; rw [HT.out, abs_top] at this; rw [Int.natAbs_natCast]; exact Nat.le_trans this (by omega))).mono ?_
      rintro e w4 ⟨rfl, hi6, hu6⟩
      have HI6 := Lib.hid hi6
      have HU6 := Lib.hid hu6
      clear hi6 hu6
      go_wp2_with fail
      go_meet
      exact ⟨by rw [HT.out]; exact HI6.out, HI5.out.upd HU6.out (fun e => absurd e (by omega)), HB3.out.trans (HU6.out.below (by omega) (by omega))⟩
  case rest =>
    obtain ⟨hi4, hi5, hb4⟩ := hcut
    have HI4c := Lib.hid hi4
    have HI5c := Lib.hid hi5
    have HB4 := Lib.hid hb4
    obtain ⟨k10, k11, k12⟩ := HK.out
    clear c0 c1 c2
    have c0 := bat hb4 k10
    have c1 := bat hb4 k11
    have c2 := bat hb4 k12
    have hl4 := hi4.lt
    have hl5 := hi5.lt
    have zz4 := hb4.size
    clear hi4 hi5 hb4 k10 k11 k12
    go_upto_if 32 with fail
    go_cut [] (fun wx => IntAt wx g4 0 T' ∧ IntAt wx g5 0 S' ∧ Below w0.heap.size w0 wx)
    case first =>
      have hh := HH.out
      by_cases h0 : 0 ≤ ex
      · obtain ⟨p, hp⟩ : ∃ p : Nat, (p : Int) = ex := ⟨ex.toNat, by omega⟩
        have ew : IntKind.u64.wrap ex = (p : Int) := by rw [IntKind.wrap_u64]; omega
        have HTE := Lib.hid (show T' = T * 2 ^ p by rw [HTP.out, show ex.toNat = p by omega])
        have HSE := Lib.hid (show S' = 1 by rw [HSP.out, show (-ex).toNat = 0 by omega]; rfl)
        have hp2 : p ≤ 20000 := by omega
        clear hp
        go_wp2_with fail
        refine (lsh_int g4 0 g4 0 T T p wc HI4c.out HI4c.out (by have := HLT.out; omega) (by omega)).mono ?_
        rintro e w4 ⟨rfl, hi6, hu6⟩
        have HI6 := Lib.hid hi6
        have HU6 := Lib.hid hu6
        clear hi6 hu6
        go_wp2_with fail
        go_meet
        exact ⟨by rw [HTE.out]; exact HI6.out, by rw [HSE.out]; exact HI5c.out.upd HU6.out (fun e => absurd e (by omega)), HB4.out.trans (HU6.out.below (by omega) (by omega))⟩
      · obtain ⟨p, hp⟩ : ∃ p : Nat, (p : Int) = -ex := ⟨(-ex).toNat, by omega⟩
        have ew0 : IntKind.i64.wrap (-ex) = (p : Int) := by rw [hp]; exact IntWalk.i64_in _ (by omega)
        have ew : IntKind.u64.wrap (p : Int) = (p : Int) := by rw [IntKind.wrap_u64]; omega
        have HTE := Lib.hid (show T' = T by rw [HTP.out, show ex.toNat = 0 by omega]; simp)
        have HSE := Lib.hid (show S' = 1 * 2 ^ p by rw [HSP.out, show (-ex).toNat = p by omega, Int.one_mul])
        have hp2 : p ≤ 20000 := by omega
        clear hp
        go_wp2_with fail
        refine (lsh_int g5 0 g5 0 1 1 p wc HI5c.out HI5c.out (by decide) (by omega)).mono ?_
        rintro e w4 ⟨rfl, hi6, hu6⟩
        have HI6 := Lib.hid hi6
        have HU6 := Lib.hid hu6
        clear hi6 hu6
        go_wp2_with fail
        go_meet
        exact ⟨by rw [HTE.out]; exact HI4c.out.upd HU6.out (fun e => absurd e (by omega)), by rw [HSE.out]; exact HI6.out, HB4.out.trans (HU6.out.below (by omega) (by omega))⟩
    case rest =>
      obtain ⟨hi4, hi5, hb5⟩ := hcut
      have HI4d := Lib.hid hi4
      have HI5d := Lib.hid hi5
      have HB5 := Lib.hid hb5
      have zz5 := hb5.size
      have hl4 := hi4.lt
      have hl5 := hi5.lt
      clear hi4 hi5 hb5 c0 c1 c2
      go_wp2_with fail
      refine (setFrac_rat wc.heap.size g4 0 g5 0 T' S' _ (new_rat wc) (HI4d.out.below (below1 ..)) (HI5d.out.below (below1 ..)) (by have := HS0.out; omega) (by have := HLTP.out; omega) (by have := HLSP.out; omega)).mono ?_
      rintro e w6 ⟨rfl, hr6, hu6⟩
      rw [← HQE.out] at hr6
      have HR6 := Lib.hid hr6
      have hb6 : Below wc.heap.size wc w6 := (below1 wc newR).trans (hu6.below (by omega) (by simp))
      have HB6 := Lib.hid (HB5.out.trans (hb6.mono HB5.out.size))
      clear hr6 hu6 hb6
      go_wp2_with fail
      refine (told_ratio wc.heap.size q w6 HR6.out HQN.out HQD.out).mono ?_
      rintro e w7 ⟨v7, rfl, hr7, hb7⟩
      have HR7 := Lib.hid hr7
      obtain ⟨tn, B, m, dd, B', m', dd', rfl⟩ : ∃ s A n c A' n' c', v7 = .agg #[.bool s, .slice A n c, .slice A' n' c'] := by obtain ⟨A, n, c, A', n', c', h, _⟩ := hr7; exact ⟨_, _, _, _, _, _, _, h⟩
      have HB7 := Lib.hid (HB6.out.trans (hb7.mono HB6.out.size))
      have hblk2 := (HB7.out.block (w.heap.size + 1) (by omega)).trans G2.out
      obtain ⟨kc, kf⟩ := blk_cells hblk2
      have kc0 := kc 0
      have kc1 := kc 1
      have kc2 := kc 2
      have kf0 := kf 0
      have kf1 := kf 1
      have kf2 := kf 2
      simp only [List.getElem?_toArray, List.getElem?_cons_zero, List.getElem?_cons_succ] at kc0 kc1 kc2
      obtain ⟨w8, hw8⟩ : ∃ w8, w8 = ((w7.setCell ⟨w.heap.size + 1, 0, none⟩ (.bool tn)).setCell ⟨w.heap.size + 1, 1, none⟩ (.slice B m dd)).setCell ⟨w.heap.size + 1, 2, none⟩ (.slice B' m' dd') := ⟨_, rfl⟩
      obtain ⟨hu8, q0, q1, q2⟩ := rat_set kc0 kc1 kc2 _ _ _ _ _ _ _ _ hw8
      have HW8 := Lib.hid hw8
      have HU8 := Lib.hid hu8
      have Q0 := Lib.hid q0
      have Q1 := Lib.hid q1
      have Q2 := Lib.hid q2
      clear kc kf hblk2 hw8 hu8 q0 q1 q2 hr7 hb7
      go_wp2_with fail
      rw [← HW8.out]
      have q0 := Q0.out
      have q1 := Q1.out
      have q2 := Q2.out
      (try simp only [Exit.inBlock, Exit.then])
      refine bodyPost_ret (v := .tuple #[.agg #[.bool tn, .slice B m dd, .slice B' m' dd'], .int .i64 (toldE q)]) (by simp [results, Tryz.results35, go_sem, q0, q1, q2]; done) rfl ?_
      exact ⟨_, rfl, HR7.out.upb HU8.out, HB0.out.trans ((HB7.out.mono HB0.out.size).trans (HU8.out.below (by omega) (by have := HB7.out.size; omega)))⟩

end Go.Proofs.YtjokpfgncmdomaaGreatDoor

/- girderref07: what Told tells is the ratio's own form (plain) -/
namespace Go.Proofs.YtjokpfgncmdomaaGreatDoor

theorem least_rv (r : RV) (hd : ln r.den ≠ 0) : leastR r.neg (ln r.num) (ln r.den) = rv r.q := by
  obtain ⟨s, ns, ds⟩ := r
  simp only at hd ⊢
  obtain ⟨N, hN⟩ : ∃ N, N = ln ns := ⟨_, rfl⟩
  obtain ⟨D, hD⟩ : ∃ D, D = ln ds := ⟨_, rfl⟩
  have ht : (⟨s, ns, ds⟩ : RV).q = Rat.divInt (if s then -(N : Int) else (N : Int)) (D : Int) := by rw [hN, hD]; rfl
  rw [ht, ← hN, ← hD]
  rw [← hD] at hd
  have hab : (if s then -(N : Int) else (N : Int)).natAbs = N := by cases s <;> simp
  have h1 := rn_num (a := if s then -(N : Int) else (N : Int)) (b := (D : Int)) (by omega)
  have h2 := (rn_pos (a := if s then -(N : Int) else (N : Int)) (b := (D : Int)) (by omega)).2
  rw [hab, Int.natAbs_natCast] at h1 h2
  unfold leastR rv
  rw [h1.1, h2]
  by_cases h0 : N = 0
  · subst h0
    rw [if_pos rfl]
    have e1 : decide ((Rat.divInt (if s then -((0 : Nat) : Int) else ((0 : Nat) : Int)) (D : Int)).num < 0) = false := by
      refine decide_eq_false (fun h => ?_)
      have := h1.2.1 h
      cases s <;> simp at this
    rw [e1, Nat.zero_div, Nat.gcd_zero_left, Nat.div_self (Nat.pos_of_ne_zero hd)]; rfl
  · rw [if_neg h0]
    have e1 : decide ((Rat.divInt (if s then -(N : Int) else (N : Int)) (D : Int)).num < 0) = s := by
      cases s
      · refine decide_eq_false (fun h => ?_)
        have := h1.2.1 h
        simp at this
        omega
      · refine decide_eq_true (h1.2.2 ?_)
        simp
        omega
    rw [e1]
theorem told_rv (q : Rat) : toldRV (rv q) = toldR q ∧ toldEn (rv q) = toldE q := by
  have h : toldB (rv q) = true ↔ fits q := by
    unfold toldB fits rv
    simp
  unfold toldRV toldEn toldR toldE
  by_cases hf : fits q
  · rw [if_pos (h.2 hf), if_pos (h.2 hf), if_pos hf, if_pos hf]; exact ⟨rfl, rfl⟩
  · rw [if_neg (fun e => hf (h.1 e)), if_neg (fun e => hf (h.1 e)), if_neg hf, if_neg hf]; exact ⟨rfl, rfl⟩

end Go.Proofs.YtjokpfgncmdomaaGreatDoor

/- girderref07.Norm: the walk -/
namespace Go.Proofs.YtjokpfgncmdomaaGreatDoor
open Go.RowKit Go.Sort

/-- what Norm tells -/
def normE (r : RV) : Int := if ln r.den = 0 then 7 else toldE r.q
def normR (r : RV) : RV := if ln r.den = 0 then noR else toldR r.q

set_option maxRecDepth 100000 in
set_option maxHeartbeats 4000000 in
theorem norm07_any (v : Value) (r : RV) (w : World) (h : FAt w v r) (hl : LdR r) (n1 : r.num.length ≤ 1000) (n2 : r.den.length ≤ 1000) :
    Calls Tryz.prog 27 #[v] w fun e w' => ∃ v', e = .returned (.tuple #[v', .int .i64 (normE r)]) ∧ RAt w' v' (normR r) ∧ Below w.heap.size w w' := by
  obtain ⟨en, hen⟩ : ∃ en, en = normE r := ⟨_, rfl⟩
  obtain ⟨nr, hnr⟩ : ∃ nr, nr = normR r := ⟨_, rfl⟩
  rw [← hen, ← hnr]
  have HEN := Lib.hid hen
  have HNR := Lib.hid hnr
  clear hen hnr
  have HFA := Lib.hid h
  have HL := Lib.hid hl
  have HN1 := Lib.hid n1
  have HN2 := Lib.hid n2
  obtain ⟨A, n, c, A', n', c', rfl, hx, hy⟩ := h.shape
  have HY := Lib.hid hy
  obtain ⟨w0, hw0⟩ : ∃ w0, w0 = (w.alloc (.cells #[.bool r.neg, .slice A n c, .slice A' n' c'] 24)).alloc (.cells #[.bool false, .slice none 0 0, .slice none 0 0] 24) := ⟨_, rfl⟩
  have hb0 : Below w.heap.size w w0 := by rw [hw0]; exact below2 ..
  have g1 : w0.heap[w.heap.size]? = some (.cells #[.bool r.neg, .slice A n c, .slice A' n' c'] 24 (0, 0)) := by
    rw [hw0]; exact ((below1 (w.alloc _) _).block w.heap.size (by simp)).trans (blk_new w _ _)
  have g2 : w0.heap[w.heap.size + 1]? = some (.cells #[.bool false, .slice none 0 0, .slice none 0 0] 24 (0, 0)) := by
    rw [hw0]; exact blk2 w _ _ _
  have z0 : w0.heap.size = w.heap.size + 2 := by rw [hw0]; simp
  have k1 := (blk_cells g1).1
  have k10 := k1 0
  have k11 := k1 1
  have k12 := k1 2
  simp only [List.getElem?_toArray, List.getElem?_cons_zero, List.getElem?_cons_succ] at k10 k11 k12
  have HK := Lib.hid (And.intro k10 (And.intro k11 k12))
  have G2 := Lib.hid g2
  have HB0 := Lib.hid hb0
  have HW0 := Lib.hid hw0
  rw [hw0] at k10 k11 k12
  obtain ⟨D, hD⟩ : ∃ D, D = ln r.den := ⟨_, rfl⟩
  have HD := Lib.hid hD
  clear hw0 hb0 g1 g2 k1 h hl hx hy n1 n2 hD
  go_enter Tryz.func27, Tryz.ntmps27
  go_wp2_with fail
  rw [← HW0.out]
  refine (natTrim_any _ r.den w0 (HY.out.below HB0.out) HL.out.2 (by have := HN2.out; omega)).mono ?_
  rintro e w1 ⟨v1, rfl, h1, hb1⟩
  rw [← HD.out] at h1
  obtain ⟨A1, m1, c1, rfl, hm1, hc1, -⟩ := h1.parts
  have HM1 := Lib.hid hm1
  have HB1 := Lib.hid hb1
  obtain ⟨k10, k11, k12⟩ := HK.out
  have c0 := bat hb1 k10
  have cc1 := bat hb1 k11
  have c2 := bat hb1 k12
  have G21 := Lib.hid ((hb1.block (w.heap.size + 1) (by omega)).trans G2.out)
  have zz1 := hb1.size
  clear h1 hb1 hm1 k10 k11 k12
  by_cases h0 : m1 = 0
  · subst h0
    have hD0 : D = 0 := lim_len_zero.1 HM1.out.symm
    have HE : Hid (en = 7) := Lib.hid (HEN.out.trans (if_pos (by rw [← HD.out]; exact hD0)))
    have HR : Hid (nr = noR) := Lib.hid (HNR.out.trans (if_pos (by rw [← HD.out]; exact hD0)))
    obtain ⟨kc, kf⟩ := blk_cells G21.out
    have kc0 := kc 0
    have kc1 := kc 1
    have kc2 := kc 2
    have kf0 := kf 0
    have kf1 := kf 1
    have kf2 := kf 2
    simp only [List.getElem?_toArray, List.getElem?_cons_zero, List.getElem?_cons_succ] at kc0 kc1 kc2
    obtain ⟨w8, hw8⟩ : ∃ w8, w8 = ((w1.setCell ⟨w.heap.size + 1, 0, none⟩ (.bool false)).setCell ⟨w.heap.size + 1, 1, none⟩ (.slice none 0 0)).setCell ⟨w.heap.size + 1, 2, none⟩ (.slice none 0 0) := ⟨_, rfl⟩
    obtain ⟨hu8, q0, q1, q2⟩ := rat_set kc0 kc1 kc2 _ _ _ _ _ _ _ _ hw8
    have HW8 := Lib.hid hw8
    have HU8 := Lib.hid hu8
    have Q0 := Lib.hid q0
    have Q1 := Lib.hid q1
    have Q2 := Lib.hid q2
    clear kc kf hw8 hu8 q0 q1 q2 hD0
    go_wp2_with fail
    rw [← HW8.out]
    have q0 := Q0.out
    have q1 := Q1.out
    have q2 := Q2.out
    (try simp only [Exit.inBlock, Exit.then])
    refine bodyPost_ret (v := .tuple #[.agg #[.bool false, .slice none 0 0, .slice none 0 0], .int .i64 7]) (by simp [results, Tryz.results27, go_sem, q0, q1, q2]; done) rfl ?_
    exact ⟨.agg #[.bool false, .slice none 0 0, .slice none 0 0], by rw [HE.out], by rw [HR.out]; exact noR_at _ _ _, HB0.out.trans ((HB1.out.mono HB0.out.size).trans (HU8.out.below (by omega) (by omega)))⟩
  · have hD0 : D ≠ 0 := by
      intro h9
      apply h0
      rw [HM1.out, h9]; rfl
    have e0 : ((m1 : Int) == 0) = false := by simp; omega
    have HE : Hid (en = toldE r.q) := Lib.hid (HEN.out.trans (if_neg (by rw [← HD.out]; exact hD0)))
    have HR : Hid (nr = toldR r.q) := Lib.hid (HNR.out.trans (if_neg (by rw [← HD.out]; exact hD0)))
    have hlr := least_rv r (by rw [← HD.out]; exact hD0)
    have htr := told_rv r.q
    have HT := Lib.hid (fun v w (h : FAt w v ⟨r.neg, lim (ln r.num), lim (ln r.den)⟩) => by
      have h9 := told_any v r.neg (ln r.num) (ln r.den) w h (by rw [← HD.out]; exact hD0) (Nat.le_trans (lim_len_le (ln_lt HL.out.1)) (by have := HN1.out; omega)) (Nat.le_trans (lim_len_le (ln_lt HL.out.2)) (by have := HN2.out; omega))
      rw [hlr, htr.1, htr.2] at h9
      exact h9)
    have HLR := Lib.hid hlr
    have HTR := Lib.hid htr
    obtain ⟨te, hte⟩ : ∃ te, te = toldE r.q := ⟨_, rfl⟩
    rw [← hte] at HT HE
    clear hD0 hlr htr hte h0
    go_wp2_with fail
    refine (value_any _ r w1 ((HFA.out.below HB0.out).below HB1.out) HL.out (by have := HN1.out; omega) (by have := HN2.out; omega)).mono ?_
    rintro e w2 ⟨v2, rfl, h2, hb2⟩
    have H2 := Lib.hid h2
    obtain ⟨A2, n2, c2', A3, n3, c3, rfl, -, -⟩ := h2.shape
    have HB2 := Lib.hid (HB1.out.trans (hb2.mono HB1.out.size))
    have G22 := Lib.hid ((hb2.block (w.heap.size + 1) (by omega)).trans G21.out)
    have zz2 := hb2.size
    simp only at H2 ⊢
    clear h2 hb2 c0 cc1 c2
    go_wp2_with fail
    refine (HT.out _ w2 H2.out).mono ?_
    rintro e w3 ⟨v3, rfl, h3, hb3⟩
    obtain ⟨B, m, d, B', m', d', rfl, -, -⟩ := h3.shape
    have hlt : LdR (toldR r.q) := by
      unfold toldR
      split
      · exact ⟨lim_lds _, lim_lds _⟩
      · exact ⟨fun _ h => absurd h (by simp [noR]), fun _ h => absurd h (by simp [noR])⟩
    have HV3 := Lib.hid (h3.rat hlt)
    have HB3 := Lib.hid (HB2.out.trans (hb3.mono HB2.out.size))
    have zz3 := hb3.size
    obtain ⟨kc, kf⟩ := blk_cells ((hb3.block (w.heap.size + 1) (by omega)).trans G22.out)
    have kc0 := kc 0
    have kc1 := kc 1
    have kc2 := kc 2
    have kf0 := kf 0
    have kf1 := kf 1
    have kf2 := kf 2
    simp only [List.getElem?_toArray, List.getElem?_cons_zero, List.getElem?_cons_succ] at kc0 kc1 kc2
    obtain ⟨tn, htn⟩ : ∃ tn, tn = (toldR r.q).neg := ⟨_, rfl⟩
    rw [← htn] at HV3 ⊢
    obtain ⟨w8, hw8⟩ : ∃ w8, w8 = ((w3.setCell ⟨w.heap.size + 1, 0, none⟩ (.bool tn)).setCell ⟨w.heap.size + 1, 1, none⟩ (.slice B m d)).setCell ⟨w.heap.size + 1, 2, none⟩ (.slice B' m' d') := ⟨_, rfl⟩
    obtain ⟨hu8, q0, q1, q2⟩ := rat_set kc0 kc1 kc2 _ _ _ _ _ _ _ _ hw8
    have HW8 := Lib.hid hw8
    have HU8 := Lib.hid hu8
    have Q0 := Lib.hid q0
    have Q1 := Lib.hid q1
    have Q2 := Lib.hid q2
    clear kc kf hw8 hu8 q0 q1 q2 h3 hb3 hlt htn
    go_wp2_with fail
    rw [← HW8.out]
    have q0 := Q0.out
    have q1 := Q1.out
    have q2 := Q2.out
    (try simp only [Exit.inBlock, Exit.then])
    refine bodyPost_ret (v := .tuple #[.agg #[.bool tn, .slice B m d, .slice B' m' d'], .int .i64 te]) (by simp [results, Tryz.results27, go_sem, q0, q1, q2]; done) rfl ?_
    exact ⟨.agg #[.bool tn, .slice B m d, .slice B' m' d'], by rw [HE.out], by rw [HR.out]; exact HV3.out.upb HU8.out, HB0.out.trans ((HB3.out.mono HB0.out.size).trans (HU8.out.below (by omega) (by omega)))⟩

end Go.Proofs.YtjokpfgncmdomaaGreatDoor

/- Right of any dyad, the program's and the reference's: the walks (printed by gen_h26.py) -/
namespace Go.Proofs.YtjokpfgncmdomaaGreatDoor
open Go.RowKit Go.Sort

/-- is it a right dyad? -/
def rightDB (d : DV) : Bool := if d.mag.length = 0 then (!d.neg && decide (d.exp = 0)) else (decide (d.mag.length ≤ 256) && !decide (d.mag.getD (d.mag.length - 1) 0 = 0) && decide (d.mag.getD 0 0 % 2 = 1) && decide (-65536 ≤ d.exp) && decide (d.exp ≤ 65536))


set_option maxRecDepth 100000 in
set_option maxHeartbeats 8000000 in
theorem rightD_prog (v : Value) (d : DV) (w : World) (hd : DAt w v d) (hn : d.mag.length ≤ 1000000000000) :
    Calls Tryz.prog 87 #[v] w fun e w' => e = .returned (.bool (rightDB d)) ∧ Below w.heap.size w w' := by
  obtain ⟨B, hB⟩ : ∃ B, B = rightDB d := ⟨_, rfl⟩
  rw [← hB]
  obtain ⟨s, xs, ex⟩ := d
  obtain ⟨A, n, c, rfl, hx, hls⟩ := hd
  simp only at hx hls hn
  have en := hx.num
  rw [en] at hn
  unfold rightDB at hB
  simp only [en] at hB
  by_cases h0 : n = 0
  · subst h0
    rw [if_pos rfl] at hB
    obtain ⟨b, hb⟩ : ∃ b, b = decide (ex = 0) := ⟨_, rfl⟩
    have t1 : (ex == 0) = b := by rw [hb]; exact (Bool.beq_eq_decide_eq ex 0)
    rw [← hb] at hB
    have HV := Lib.hid hB
    clear hx hls en hb hB
    cases s
    · cases b
      · go_enter Tryz.func87, Tryz.ntmps87
        go_wp2_with fail
        go_ret
        exact ⟨by rw [HV.out]; rfl, below1 ..⟩
      · go_enter Tryz.func87, Tryz.ntmps87
        go_wp2_with fail
        go_ret
        exact ⟨by rw [HV.out]; rfl, below1 ..⟩
    · cases b
      · go_enter Tryz.func87, Tryz.ntmps87
        go_wp2_with fail
        go_ret
        exact ⟨by rw [HV.out]; rfl, below1 ..⟩
      · go_enter Tryz.func87, Tryz.ntmps87
        go_wp2_with fail
        go_ret
        exact ⟨by rw [HV.out]; rfl, below1 ..⟩
  · rw [if_neg h0] at hB
    obtain ⟨m, rfl⟩ : ∃ m, n = m + 1 := ⟨n - 1, by omega⟩
    obtain ⟨x, hxm⟩ := get_some en (show m < m + 1 by omega)
    obtain ⟨y, hy0⟩ := get_some en (show 0 < m + 1 by omega)
    have ly := hls.get hy0
    obtain ⟨b1, o1, hA, hb1, hc⟩ := hx.elem (f := Lc) (size := 1) (fun _ => rfl) hxm (by omega)
    obtain ⟨b2, o2, hA2, hb2, hd⟩ := hx.elem (f := Lc) (size := 1) (fun _ => rfl) hy0 (by omega)
    rw [hA] at hA2
    injection hA2 with hA2
    injection hA2 with e1 e2
    subst e1 e2
    subst hA
    have q1 : w.cell? ⟨b1, o1 + m, none⟩ = some (.int .u64 (x : Int)) := by have h := hc 0 _ rfl; rwa [Nat.mul_one, Nat.add_zero] at h
    have q2 : w.cell? ⟨b1, o1, none⟩ = some (.int .u64 (y : Int)) := by have h := hd 0 _ rfl; rwa [Nat.mul_one, Nat.add_zero] at h
    have hb := below1 w (.cells #[.bool s, .slice (some ⟨b1, o1, none⟩) (m + 1) c, .int .i64 ex] 46)
    have p1 := bat hb q1
    have p2 := bat hb q2
    have ex1 : xs.getD (m + 1 - 1) 0 = x := by rw [Nat.add_sub_cancel]; simp [List.getD, hxm]
    have ey1 : xs.getD 0 0 = y := by simp [List.getD, hy0]
    rw [ex1, ey1] at hB
    obtain ⟨v1, hv1⟩ : ∃ b, b = decide (m + 1 ≤ 256) := ⟨_, rfl⟩
    obtain ⟨v2, hv2⟩ : ∃ b, b = decide (x = 0) := ⟨_, rfl⟩
    obtain ⟨v3, hv3⟩ : ∃ b, b = decide (y % 2 = 1) := ⟨_, rfl⟩
    obtain ⟨v4, hv4⟩ : ∃ b, b = decide (-65536 ≤ ex) := ⟨_, rfl⟩
    obtain ⟨v5, hv5⟩ : ∃ b, b = decide (ex ≤ 65536) := ⟨_, rfl⟩
    rw [← hv1, ← hv2, ← hv3, ← hv4, ← hv5] at hB
    have t1 : ((x : Int) != 0) = !v2 := by
      rw [hv2]
      by_cases h : x = 0
      · subst h; rfl
      · rw [decide_eq_false h]; simp; omega
    have t2 : (bits BinOp.and IntKind.u64 (y : Int) 1 == 1) = v3 := by
      have h := bits_and_u64_nat y 1 ly (by decide)
      rw [Nat.and_one_is_mod] at h
      rw [show bits BinOp.and IntKind.u64 (y : Int) 1 = ((y % 2 : Nat) : Int) from h, hv3]
      by_cases h2 : y % 2 = 1
      · rw [h2]; rfl
      · rw [show y % 2 = 0 by omega]; rfl
    have t2' : ((y : Int).tmod 2 == 1) = v3 := by
      rw [Int.tmod_eq_emod_of_nonneg (by omega), hv3]
      by_cases h2 : y % 2 = 1
      · rw [decide_eq_true h2, show (y : Int) % 2 = 1 by omega]; rfl
      · rw [decide_eq_false h2, show (y : Int) % 2 = 0 by omega]; rfl
    have t2'' : ((y : Int) % 2 == 1) = v3 := by rw [← t2', Int.tmod_eq_emod_of_nonneg (by omega)]
    have t3 : decide ((m : Int) + 1 ≤ 256) = v1 := by rw [hv1]; exact decide_eq_decide.2 (by omega)
    have t6 : wrap64 (m : Int) = (m : Int) := by unfold wrap64; omega
    have hv4' := hv4.symm
    have hv5' := hv5.symm
    have HV := Lib.hid hB
    clear hx hls en hxm hy0 ly hc hd q1 q2 hb ex1 ey1 hv1 hv2 hv3 hv4 hv5 hB h0
    cases v1
    · go_enter Tryz.func87, Tryz.ntmps87
      go_wp2_with fail
      go_ret
      exact ⟨by rw [HV.out]; rfl, below1 ..⟩
    · cases v2
      · cases v3
        · go_enter Tryz.func87, Tryz.ntmps87
          go_wp2_with fail
          go_ret
          exact ⟨by rw [HV.out]; rfl, below1 ..⟩
        · cases v4
          · go_enter Tryz.func87, Tryz.ntmps87
            go_wp2_with fail
            go_ret
            exact ⟨by rw [HV.out]; rfl, below1 ..⟩
          · cases v5
            · go_enter Tryz.func87, Tryz.ntmps87
              go_wp2_with fail
              go_ret
              exact ⟨by rw [HV.out]; rfl, below1 ..⟩
            · go_enter Tryz.func87, Tryz.ntmps87
              go_wp2_with fail
              go_ret
              exact ⟨by rw [HV.out]; rfl, below1 ..⟩
      · go_enter Tryz.func87, Tryz.ntmps87
        go_wp2_with fail
        go_ret
        exact ⟨by rw [HV.out]; rfl, below1 ..⟩

set_option maxRecDepth 100000 in
set_option maxHeartbeats 8000000 in
theorem rightD_ref (v : Value) (d : DV) (w : World) (hd : DAt w v d) (hn : d.mag.length ≤ 1000000000000) :
    Calls Tryz.prog 91 #[v] w fun e w' => e = .returned (.bool (rightDB d)) ∧ Below w.heap.size w w' := by
  obtain ⟨B, hB⟩ : ∃ B, B = rightDB d := ⟨_, rfl⟩
  rw [← hB]
  obtain ⟨s, xs, ex⟩ := d
  obtain ⟨A, n, c, rfl, hx, hls⟩ := hd
  simp only at hx hls hn
  have en := hx.num
  rw [en] at hn
  unfold rightDB at hB
  simp only [en] at hB
  by_cases h0 : n = 0
  · subst h0
    rw [if_pos rfl] at hB
    obtain ⟨b, hb⟩ : ∃ b, b = decide (ex = 0) := ⟨_, rfl⟩
    have t1 : (ex == 0) = b := by rw [hb]; exact (Bool.beq_eq_decide_eq ex 0)
    rw [← hb] at hB
    have HV := Lib.hid hB
    clear hx hls en hb hB
    cases s
    · cases b
      · go_enter Tryz.func91, Tryz.ntmps91
        go_wp2_with fail
        go_ret
        exact ⟨by rw [HV.out]; rfl, below1 ..⟩
      · go_enter Tryz.func91, Tryz.ntmps91
        go_wp2_with fail
        go_ret
        exact ⟨by rw [HV.out]; rfl, below1 ..⟩
    · cases b
      · go_enter Tryz.func91, Tryz.ntmps91
        go_wp2_with fail
        go_ret
        exact ⟨by rw [HV.out]; rfl, below1 ..⟩
      · go_enter Tryz.func91, Tryz.ntmps91
        go_wp2_with fail
        go_ret
        exact ⟨by rw [HV.out]; rfl, below1 ..⟩
  · rw [if_neg h0] at hB
    obtain ⟨m, rfl⟩ : ∃ m, n = m + 1 := ⟨n - 1, by omega⟩
    obtain ⟨x, hxm⟩ := get_some en (show m < m + 1 by omega)
    obtain ⟨y, hy0⟩ := get_some en (show 0 < m + 1 by omega)
    have ly := hls.get hy0
    obtain ⟨b1, o1, hA, hb1, hc⟩ := hx.elem (f := Lc) (size := 1) (fun _ => rfl) hxm (by omega)
    obtain ⟨b2, o2, hA2, hb2, hd⟩ := hx.elem (f := Lc) (size := 1) (fun _ => rfl) hy0 (by omega)
    rw [hA] at hA2
    injection hA2 with hA2
    injection hA2 with e1 e2
    subst e1 e2
    subst hA
    have q1 : w.cell? ⟨b1, o1 + m, none⟩ = some (.int .u64 (x : Int)) := by have h := hc 0 _ rfl; rwa [Nat.mul_one, Nat.add_zero] at h
    have q2 : w.cell? ⟨b1, o1, none⟩ = some (.int .u64 (y : Int)) := by have h := hd 0 _ rfl; rwa [Nat.mul_one, Nat.add_zero] at h
    have hb := below1 w (.cells #[.bool s, .slice (some ⟨b1, o1, none⟩) (m + 1) c, .int .i64 ex] 46)
    have p1 := bat hb q1
    have p2 := bat hb q2
    have ex1 : xs.getD (m + 1 - 1) 0 = x := by rw [Nat.add_sub_cancel]; simp [List.getD, hxm]
    have ey1 : xs.getD 0 0 = y := by simp [List.getD, hy0]
    rw [ex1, ey1] at hB
    obtain ⟨v1, hv1⟩ : ∃ b, b = decide (m + 1 ≤ 256) := ⟨_, rfl⟩
    obtain ⟨v2, hv2⟩ : ∃ b, b = decide (x = 0) := ⟨_, rfl⟩
    obtain ⟨v3, hv3⟩ : ∃ b, b = decide (y % 2 = 1) := ⟨_, rfl⟩
    obtain ⟨v4, hv4⟩ : ∃ b, b = decide (-65536 ≤ ex) := ⟨_, rfl⟩
    obtain ⟨v5, hv5⟩ : ∃ b, b = decide (ex ≤ 65536) := ⟨_, rfl⟩
    rw [← hv1, ← hv2, ← hv3, ← hv4, ← hv5] at hB
    have t1 : ((x : Int) != 0) = !v2 := by
      rw [hv2]
      by_cases h : x = 0
      · subst h; rfl
      · rw [decide_eq_false h]; simp; omega
    have t2 : (bits BinOp.and IntKind.u64 (y : Int) 1 == 1) = v3 := by
      have h := bits_and_u64_nat y 1 ly (by decide)
      rw [Nat.and_one_is_mod] at h
      rw [show bits BinOp.and IntKind.u64 (y : Int) 1 = ((y % 2 : Nat) : Int) from h, hv3]
      by_cases h2 : y % 2 = 1
      · rw [h2]; rfl
      · rw [show y % 2 = 0 by omega]; rfl
    have t2' : ((y : Int).tmod 2 == 1) = v3 := by
      rw [Int.tmod_eq_emod_of_nonneg (by omega), hv3]
      by_cases h2 : y % 2 = 1
      · rw [decide_eq_true h2, show (y : Int) % 2 = 1 by omega]; rfl
      · rw [decide_eq_false h2, show (y : Int) % 2 = 0 by omega]; rfl
    have t2'' : ((y : Int) % 2 == 1) = v3 := by rw [← t2', Int.tmod_eq_emod_of_nonneg (by omega)]
    have t3 : decide ((m : Int) + 1 ≤ 256) = v1 := by rw [hv1]; exact decide_eq_decide.2 (by omega)
    have t6 : wrap64 (m : Int) = (m : Int) := by unfold wrap64; omega
    have hv4' := hv4.symm
    have hv5' := hv5.symm
    have HV := Lib.hid hB
    clear hx hls en hxm hy0 ly hc hd q1 q2 hb ex1 ey1 hv1 hv2 hv3 hv4 hv5 hB h0
    cases v1
    · go_enter Tryz.func91, Tryz.ntmps91
      go_wp2_with fail
      go_ret
      exact ⟨by rw [HV.out]; rfl, below1 ..⟩
    · cases v2
      · cases v3
        · go_enter Tryz.func91, Tryz.ntmps91
          go_wp2_with fail
          go_ret
          exact ⟨by rw [HV.out]; rfl, below1 ..⟩
        · cases v4
          · go_enter Tryz.func91, Tryz.ntmps91
            go_wp2_with fail
            go_ret
            exact ⟨by rw [HV.out]; rfl, below1 ..⟩
          · cases v5
            · go_enter Tryz.func91, Tryz.ntmps91
              go_wp2_with fail
              go_ret
              exact ⟨by rw [HV.out]; rfl, below1 ..⟩
            · go_enter Tryz.func91, Tryz.ntmps91
              go_wp2_with fail
              go_ret
              exact ⟨by rw [HV.out]; rfl, below1 ..⟩
      · go_enter Tryz.func91, Tryz.ntmps91
        go_wp2_with fail
        go_ret
        exact ⟨by rw [HV.out]; rfl, below1 ..⟩

end Go.Proofs.YtjokpfgncmdomaaGreatDoor

/- a struct with an int cell is written: lists of limbs are kept; girderref02.Dyad: the walk -/
namespace Go.Proofs.YtjokpfgncmdomaaGreatDoor
open Go.RowKit Go.Sort

/-- all blocks but b are kept, and in b what is a limb -/
structure UpL (w w' : World) (b : Nat) : Prop where
  os : w'.os = w.os
  tape : w'.tape = w.tape
  output : w'.output = w.output
  size : w.heap.size ≤ w'.heap.size
  blk : ∀ k, k < w.heap.size → k ≠ b → w'.heap[k]? = w.heap[k]?
  num : ∀ (o : Nat) (x : Int), w.cell? ⟨b, o, none⟩ = some (.int .u64 x) → w'.cell? ⟨b, o, none⟩ = some (.int .u64 x)
theorem UpL.below {w w' : World} {b B : Nat} (h : UpL w w' b) (hB : B ≤ b) (hs : B ≤ w.heap.size) : Below B w w' := ⟨h.os, h.tape, h.output, h.size, fun k hk => h.blk k (by omega) (by omega)⟩
theorem UpL.numOf {w w' : World} {b : Nat} (h : UpL w w' b) {b' o' : Nat} {x : Int} (hv : w.cell? ⟨b', o', none⟩ = some (.int .u64 x)) : w'.cell? ⟨b', o', none⟩ = some (.int .u64 x) := by
  by_cases e : b' = b
  · subst e; exact h.num _ _ hv
  · exact (World.cell?_of_block (a := ⟨b', o', none⟩) (h.blk b' (World.block_lt_of_cell? w ⟨b', o', none⟩ hv) e)).trans hv
theorem UpL.limbs {w w' : World} {b : Nat} (h : UpL w w' b) {S : Nat → Prop} {A : Option Addr} {n : Nat} {xs : List Nat} (hr : RdE Lc 1 w S A n xs) : RdE Lc 1 w' S A n xs :=
  ⟨rd_keep_cells hr.rd fun b o v hv hc => by
    obtain ⟨x, _, hx⟩ := List.mem_flatMap.1 hv
    simp [Lc] at hx
    subst hx
    exact h.numOf hc, hr.num⟩
theorem LAt.upl {w w' : World} {v : Value} {xs : List Nat} {g : Nat} (h : LAt w v xs) (hu : UpL w w' g) : LAt w' v xs := by
  obtain ⟨A, c, e, hc, hr⟩ := h
  exact ⟨A, c, e, hc, (hu.limbs hr).imp fun b hb => Nat.lt_of_lt_of_le hb hu.size⟩
theorem num_set {w : World} {g : Nat} {b0 : Bool} {A : Option Addr} {n c : Nat} {e0 : Int} (k0 : w.cell? ⟨g, 0, none⟩ = some (.bool b0)) (k1 : w.cell? ⟨g, 1, none⟩ = some (.slice A n c)) (k2 : w.cell? ⟨g, 2, none⟩ = some (.int .i64 e0))
    (s : Bool) (d1 : Option Addr) (n1 c1 : Nat) (ex : Int) :
    ∀ w', w' = ((w.setCell ⟨g, 0, none⟩ (.bool s)).setCell ⟨g, 1, none⟩ (.slice d1 n1 c1)).setCell ⟨g, 2, none⟩ (.int .i64 ex) → UpL w w' g ∧ w'.cell? ⟨g, 0, none⟩ = some (.bool s) ∧ w'.cell? ⟨g, 1, none⟩ = some (.slice d1 n1 c1) ∧ w'.cell? ⟨g, 2, none⟩ = some (.int .i64 ex) := by
  intro w' hw'
  subst hw'
  refine ⟨⟨rfl, rfl, rfl, by simp, fun k hk hne => ?_, fun o x hv => ?_⟩, ?_, ?_, ?_⟩
  · rw [Below.heap_setCell _ _ _ _ hne, Below.heap_setCell _ _ _ _ hne, Below.heap_setCell _ _ _ _ hne]
  · have e0 : o ≠ 0 := by rintro rfl; rw [k0] at hv; cases hv
    have e1 : o ≠ 1 := by rintro rfl; rw [k1] at hv; cases hv
    have e2 : o ≠ 2 := by rintro rfl; rw [k2] at hv; cases hv
    simp [go_sem, e0, e1, e2, hv]
  · simp [go_sem, k0]
  · simp [go_sem, k1]
  · simp [go_sem, k2]

set_option maxRecDepth 100000 in
set_option maxHeartbeats 4000000 in
theorem dyadN_any (s : Bool) (A : Option Addr) (n c : Nat) (ex : Int) (xs : List Nat) (w : World) (h : LAt w (.slice A n c) xs) (hl : Lds xs) (n1 : xs.length ≤ 10000000000) :
    Calls Tryz.prog 92 #[.agg #[.bool s, .slice A n c, .int .i64 ex]] w fun e w' => ∃ v', e = .returned v' ∧ NAt w' v' s (lim (ln xs)) ex ∧ Below w.heap.size w w' := by
  have HX := Lib.hid h
  have HL := Lib.hid hl
  obtain ⟨w0, hw0⟩ : ∃ w0, w0 = (w.alloc (.cells #[.bool s, .slice A n c, .int .i64 ex] 46)).alloc (.cells #[.bool false, .slice none 0 0, .int .i64 0] 102) := ⟨_, rfl⟩
  have hb0 : Below w.heap.size w w0 := by rw [hw0]; exact below2 ..
  have g1 : w0.heap[w.heap.size]? = some (.cells #[.bool s, .slice A n c, .int .i64 ex] 46 (0, 0)) := by
    rw [hw0]; exact ((below1 (w.alloc _) _).block w.heap.size (by simp)).trans (blk_new w _ _)
  have g2 : w0.heap[w.heap.size + 1]? = some (.cells #[.bool false, .slice none 0 0, .int .i64 0] 102 (0, 0)) := by
    rw [hw0]; exact blk2 w _ _ _
  have z0 : w0.heap.size = w.heap.size + 2 := by rw [hw0]; simp
  have k1 := (blk_cells g1).1
  have k10 := k1 0
  have k11 := k1 1
  have k12 := k1 2
  simp only [List.getElem?_toArray, List.getElem?_cons_zero, List.getElem?_cons_succ] at k10 k11 k12
  have G2 := Lib.hid g2
  have HB0 := Lib.hid hb0
  have HW0 := Lib.hid hw0
  clear hw0 hb0 g1 g2 k1 h hl
  go_enter Tryz.func92, Tryz.ntmps92
  go_wp2_with fail
  rw [← HW0.out]
  refine wp_region_G (S := (fun w' => w'.cell? ⟨w.heap.size, 0, none⟩ = some (.bool s) ∧ w'.cell? ⟨w.heap.size, 1, none⟩ = some (.slice A n c) ∧ w'.cell? ⟨w.heap.size, 2, none⟩ = some (.int .i64 ex))) 8 (by kernel_rfl) ?_ (fun hHeld => ?_)
  · first | exact True.intro | ((try dsimp only); go_keep)
  refine tkG (i := 0) (v := ?_) rfl (by kernel_rfl) (Or.inl ⟨by kernel_rfl, ?_⟩) (by assumption) ?_
  rotate_left 1
  · (intro w hSw; (try dsimp only at hSw); go_simp; try with_reducible rfl)
  try simp only [lyA, lyB, lyC, Act.put, lyD, lyE, lyF]
  refine tkG (i := 1) (v := ?_) rfl (by kernel_rfl) (Or.inl ⟨by kernel_rfl, ?_⟩) (by assumption) ?_
  rotate_left 1
  · (intro w hSw; (try dsimp only at hSw); go_simp; try with_reducible rfl)
  try simp only [lyA, lyB, lyC, Act.put, lyD, lyE, lyF]
  refine tkG (i := 2) (v := ?_) rfl (by kernel_rfl) (Or.inl ⟨by kernel_rfl, ?_⟩) (by assumption) ?_
  rotate_left 1
  · (intro w hSw; (try dsimp only at hSw); go_simp; try with_reducible rfl)
  try simp only [lyA, lyB, lyC, Act.put, lyD, lyE, lyF]
  refine tkG (i := 3) (v := ?_) rfl (by kernel_rfl) (Or.inl ⟨by kernel_rfl, ?_⟩) (by assumption) ?_
  rotate_left 1
  · (intro w hSw; (try dsimp only at hSw); go_simp; try with_reducible rfl)
  try simp only [lyA, lyB, lyC, Act.put, lyD, lyE, lyF]
  refine tkG (i := 5) (v := ?_) rfl (by kernel_rfl) (Or.inl ⟨by kernel_rfl, ?_⟩) (by assumption) ?_
  rotate_left 1
  · (intro w hSw; (try dsimp only at hSw); go_simp; try with_reducible rfl)
  try simp only [lyA, lyB, lyC, Act.put, lyD, lyE, lyF]
  refine tkG (i := 6) (v := ?_) rfl (by kernel_rfl) (Or.inl ⟨by kernel_rfl, ?_⟩) (by assumption) ?_
  rotate_left 1
  · (intro w hSw; (try dsimp only at hSw); go_simp; try with_reducible rfl)
  try simp only [lyA, lyB, lyC, Act.put, lyD, lyE, lyF]
  refine wpAnyG_one (i := 4) (by kernel_rfl) rfl (fun K hK => ?_)
  go_simp
  (refine (natTrim_any _ xs w0.drew (HX.out.below HB0.out.drew) HL.out (by omega)).mono ?_; rintro e wb ⟨vb, rfl, hvb, hbb⟩; obtain ⟨x0, x1, x2⟩ := hHeld; have t0 := bat hbb x0; have t1 := bat hbb x1; have t2 := bat hbb x2; have HVB := Lib.hid hvb; have HBb : Hid (Below w0.heap.size w0 wb) := Lib.hid ((Below.refl w0.heap.size w0).drew.trans hbb); clear hvb hbb x0 x1 x2; have f1 := blk_cells ((HBb.out.block (w.heap.size + 1) (by omega)).trans G2.out); have f10 := f1.2 0; have f11 := f1.2 1; have f12 := f1.2 2; have kc0 := f1.1 0; have kc1 := f1.1 1; have kc2 := f1.1 2; simp only [List.getElem?_toArray, List.getElem?_cons_zero, List.getElem?_cons_succ] at kc0 kc1 kc2; clear f1; obtain ⟨B', m', d', rfl, hlb⟩ : ∃ B m d, vb = .slice B m d ∧ True := (by obtain ⟨B, d, e, _, _⟩ := HVB.out; exact ⟨_, _, _, e, trivial⟩); clear hlb)
  try go_wp2_with fail
  refine (fun hHeld => hK.out _ _ (.inl hHeld) (fun _ => ?_)) ?_
  rotate_left 1
  · first | exact True.intro | ((try dsimp only); go_keep)
  clear hK K
  try simp only [lyA, lyB, lyC, Act.put, lyD, lyE, lyF]
  refine wpAnyG_one (i := 7) (by kernel_rfl) rfl (fun K hK => ?_)
  go_simp
  refine (fun hHeld => hK.out _ _ (.inl hHeld) (fun _ => ?_)) ?_
  rotate_left 1
  · first | exact True.intro | ((try dsimp only); go_keep)
  clear hK K
  try simp only [lyA, lyB, lyC, Act.put, lyD, lyE, lyF]
  refine wpAnyG_one (i := 8) (by kernel_rfl) rfl (fun K hK => ?_)
  go_simp
  refine hK.out _ _ ?_ (fun hHeld => ?_)
  · exact .inr (by kernel_rfl)
  clear hK K
  try simp only [lyA, lyB, lyC, Act.put, lyD, lyE, lyF]
  refine wpAnyG_done (by kernel_rfl) ?_ _
  obtain ⟨w6, hw6⟩ : ∃ w6, w6 = ((wb.setCell ⟨w.heap.size + 1, 0, none⟩ (.bool s)).setCell ⟨w.heap.size + 1, 1, none⟩ (.slice B' m' d')).setCell ⟨w.heap.size + 1, 2, none⟩ (.int .i64 ex) := ⟨_, rfl⟩
  obtain ⟨hu6, q0, q1, q2⟩ := num_set kc0 kc1 kc2 _ _ _ _ _ _ hw6
  rw [← hw6]
  have HU6 := Lib.hid hu6
  have Q0 := Lib.hid q0
  have Q1 := Lib.hid q1
  have Q2 := Lib.hid q2
  clear hw6 hu6 q0 q1 q2 f10 f11 f12 kc0 kc1 kc2
  go_wp2_with fail
  have hu6 := HU6.out
  have q0 := Q0.out
  have q1 := Q1.out
  have q2 := Q2.out
  (try simp only [Exit.inBlock, Exit.then])
  refine bodyPost_ret (v := .agg #[.bool s, .slice B' m' d', .int .i64 ex]) (by simp [results, Tryz.results92, go_sem, q0, q1, q2]; done) rfl ?_
  exact ⟨_, rfl, ⟨_, _, _, rfl, HVB.out.upl hu6⟩, HB0.out.trans ((HBb.out.mono HB0.out.size).trans (hu6.below (by omega) (by have := HBb.out.size; omega)))⟩

end Go.Proofs.YtjokpfgncmdomaaGreatDoor
