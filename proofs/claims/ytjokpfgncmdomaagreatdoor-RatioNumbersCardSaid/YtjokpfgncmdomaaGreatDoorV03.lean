import Derived.Test.YtjokpfgncmdomaaGreatDoorV02
set_option linter.unusedSimpArgs false
set_option linter.unusedVariables false
/- ratio.OfDyad of right dyads: the walk -/
namespace Go.Proofs.YtjokpfgncmdomaaGreatDoor
open Go.RowKit Go.Sort

/-- the number of a dyad -/
def DV.q (d : DV) : Rat := Rat.divInt (d.top * 2 ^ d.exp.toNat) (2 ^ (-d.exp).toNat)
theorem abs_top (d : DV) : d.top.natAbs = ln d.mag := by
  unfold DV.top
  split <;> simp
theorem dig_scale {N p k : Nat} (h : (dig N).length ≤ k) : (dig (N * 2 ^ p)).length ≤ k + p := by
  refine dig_len_le ?_
  rw [Nat.pow_add]
  exact Nat.lt_of_lt_of_le (Nat.mul_lt_mul_of_pos_right (Nat.lt_of_lt_of_le (lt_dig_len N) (Nat.pow_le_pow_right (by decide) h)) (Nat.pow_pos (by decide))) (Nat.mul_le_mul_left _ (Nat.pow_le_pow_left (by decide) p))
theorem dig_mono_len {a b : Nat} (h : a ≤ b) : (dig a).length ≤ (dig b).length := dig_len_le (Nat.lt_of_le_of_lt h (lt_dig_len b))
theorem natAbs_scale (x : Int) (p : Nat) : (x * 2 ^ p).natAbs = x.natAbs * 2 ^ p := by
  rw [Int.natAbs_mul, Int.natAbs_pow]; rfl

set_option maxRecDepth 100000 in
set_option maxHeartbeats 8000000 in
theorem ofDyad_told (v : Value) (d : DV) (w : World) (hd : DAt w v d) (hlen : d.mag.length ≤ 1000) (h1 : -16384 ≤ d.exp) (h2 : d.exp ≤ 16384)
    (hR : ∀ w, DAt w v d → Calls Tryz.prog 87 #[v] w fun e w' => e = .returned (.bool true) ∧ Below w.heap.size w w') :
    Calls Tryz.prog 35 #[v] w (Told w d.q) := by
  have HD := Lib.hid hd
  obtain ⟨A, n, c, rfl, hx, hls⟩ := hd
  have HR := Lib.hid hR
  have HX := Lib.hid hx
  have HLS := Lib.hid hls
  obtain ⟨s, ms, ex⟩ := d
  simp only at HX HLS hlen h1 h2
  have en := HX.out.num
  have hn : n ≤ 1000 := by omega
  have f1 : decide ((16384 : Int) < ex) = false := decide_eq_false (by omega)
  have f2 : decide (ex < (-16384 : Int)) = false := decide_eq_false (by omega)
  obtain ⟨T, hT⟩ : ∃ T : Int, T = (⟨s, ms, ex⟩ : DV).top := ⟨_, rfl⟩
  obtain ⟨T', hT'⟩ : ∃ T' : Int, T' = T * 2 ^ ex.toNat := ⟨_, rfl⟩
  obtain ⟨S', hS'⟩ : ∃ S' : Int, S' = 2 ^ (-ex).toNat := ⟨_, rfl⟩
  obtain ⟨q, hq⟩ : ∃ q, q = (⟨s, ms, ex⟩ : DV).q := ⟨_, rfl⟩
  have hqe : q = Rat.divInt T' S' := by rw [hq, hT', hS', hT]; rfl
  have hS0 : 0 < S' := by rw [hS']; exact Int.pow_pos (by decide)
  have hTa : T.natAbs = ln ms := by rw [hT]; exact abs_top _
  have hlT : (dig T.natAbs).length ≤ 100000 := by rw [hTa]; exact Nat.le_trans (dig_ln_len HLS.out) (by omega)
  have hlT' : (dig T'.natAbs).length ≤ 200000 := by
    rw [hT', natAbs_scale]
    exact Nat.le_trans (dig_scale hlT) (by omega)
  have hlS' : (dig S'.natAbs).length ≤ 200000 := by
    rw [hS', show (2 : Int) ^ (-ex).toNat = 1 * 2 ^ (-ex).toNat by rw [Int.one_mul], natAbs_scale]
    exact Nat.le_trans (dig_scale (k := 1) (by decide)) (by omega)
  have hdz := dsz (N := T') (D := S') (by omega)
  have hqn : (dig q.num.natAbs).length ≤ 1000000 := by
    rw [hqe]
    exact Nat.le_trans (dig_mono_len hdz.1) (by omega)
  have hqd : (dig q.den).length ≤ 1000000 := by
    rw [hqe]
    exact Nat.le_trans (dig_mono_len hdz.2) (by omega)
  rw [← hq]
  have HT := Lib.hid hT
  have HTP := Lib.hid hT'
  have HSP := Lib.hid hS'
  have HQE := Lib.hid hqe
  have HS0 := Lib.hid hS0
  have HLT := Lib.hid hlT
  have HLTP := Lib.hid hlT'
  have HLSP := Lib.hid hlS'
  have HQN := Lib.hid hqn
  have HQD := Lib.hid hqd
  have HH := Lib.hid (And.intro h1 h2)
  obtain ⟨w0, hw0⟩ : ∃ w0, w0 = (w.alloc (.cells #[.bool s, .slice A n c, .int .i64 ex] 46)).alloc (.cells #[.bool false, .slice none 0 0, .slice none 0 0] 24) := ⟨_, rfl⟩
  have hb0 : Below w.heap.size w w0 := by rw [hw0]; exact below2 ..
  have g1 : w0.heap[w.heap.size]? = some (.cells #[.bool s, .slice A n c, .int .i64 ex] 46 (0, 0)) := by
    rw [hw0]; exact ((below1 (w.alloc _) _).block w.heap.size (by simp)).trans (blk_new w _ _)
  have g2 : w0.heap[w.heap.size + 1]? = some (.cells #[.bool false, .slice none 0 0, .slice none 0 0] 24 (0, 0)) := by
    rw [hw0]; exact blk2 w _ _ _
  have z0 : w0.heap.size = w.heap.size + 2 := by rw [hw0]; simp
  have k1 := (blk_cells g1).1
  have k10 := k1 0
  have k11 := k1 1
  have k12 := k1 2
  simp only [List.getElem?_toArray, List.getElem?_cons_zero, List.getElem?_cons_succ] at k10 k11 k12
  have HK := Lib.hid (And.intro k10 (And.intro k11 k12))
  have G2 := Lib.hid g2
  have HB0 := Lib.hid hb0
  have HW0 := Lib.hid hw0
  rw [hw0] at k10 k11 k12
  clear hx hls hR hlen h1 h2 en hT hT' hS' hq hqe hS0 hTa hlT hlT' hlS' hdz hqn hqd hw0 hb0 g1 g2 k1
  go_enter Tryz.func35, Tryz.ntmps35
  go_wp2_with fail
  rw [← HW0.out]
  refine (HR.out w0 (HD.out.below HB0.out)).mono ?_
  rintro e w1 ⟨rfl, hb1⟩
  have HB1 := Lib.hid hb1
  obtain ⟨k10, k11, k12⟩ := HK.out
  have c0 := bat hb1 k10
  have c1 := bat hb1 k11
  have c2 := bat hb1 k12
  clear hb1 k10 k11 k12
  go_wp2_with fail
  refine (whole_ratio A n c ms w1 ((HX.out.belowL HB0.out).belowL HB1.out) HLS.out (by omega)).mono ?_
  rintro e w2 ⟨g4, rfl, hg4, hg4', hi4, hb2⟩
  have HI4 := Lib.hid hi4
  have HB2 := Lib.hid (HB1.out.trans (hb2.mono HB1.out.size))
  have d0 := bat hb2 c0
  have d1 := bat hb2 c1
  have d2 := bat hb2 c2
  have zz1 := HB1.out.size
  clear hb2 hi4 c0 c1 c2
  go_wp2_with fail
  refine (newInt_int 1 w2 (by decide) (by decide)).mono ?_
  rintro e w3 ⟨g5, rfl, hg5, hg5', hi5, hb3⟩
  have HI5 := Lib.hid hi5
  have HI43 := Lib.hid (HI4.out.below hb3)
  have HB3 := Lib.hid (HB2.out.trans (hb3.mono HB2.out.size))
  have zz2 := HB2.out.size
  have zz3 := hb3.size
  have c0 := bat hb3 d0
  have c1 := bat hb3 d1
  have c2 := bat hb3 d2
  clear hb3 hi5 d0 d1 d2
  go_upto_if 26 with fail
  go_cut [] (fun wx => IntAt wx g4 0 T ∧ IntAt wx g5 0 1 ∧ Below w0.heap.size w0 wx)
  case first =>
    cases s
    · go_wp2_with fail
      go_meet
      exact ⟨by rw [HT.out]; exact HI43.out, HI5.out, HB3.out⟩
    · go_wp2_with fail
      refine (neg_int g4 0 g4 0 (ln ms : Int) (ln ms : Int) w3 HI43.out HI43.out (by have := HLT.out; rw [HT.out, abs_top] at this; rw [Int.natAbs_natCast]; exact Nat.le_trans this (by omega))).mono ?_
      rintro e w4 ⟨rfl, hi6, hu6⟩
      have HI6 := Lib.hid hi6
      have HU6 := Lib.hid hu6
      clear hi6 hu6
      go_wp2_with fail
      go_meet
      exact ⟨by rw [HT.out]; exact HI6.out, HI5.out.upd HU6.out (fun e => absurd e (by omega)), HB3.out.trans (HU6.out.below (by omega) (by omega))⟩
  case rest =>
    obtain ⟨hi4, hi5, hb4⟩ := hcut
    have HI4c := Lib.hid hi4
    have HI5c := Lib.hid hi5
    have HB4 := Lib.hid hb4
    obtain ⟨k10, k11, k12⟩ := HK.out
    clear c0 c1 c2
    have c0 := bat hb4 k10
    have c1 := bat hb4 k11
    have c2 := bat hb4 k12
    have hl4 := hi4.lt
    have hl5 := hi5.lt
    have zz4 := hb4.size
    clear hi4 hi5 hb4 k10 k11 k12
    go_upto_if 32 with fail
    go_cut [] (fun wx => IntAt wx g4 0 T' ∧ IntAt wx g5 0 S' ∧ Below w0.heap.size w0 wx)
    case first =>
      have hh := HH.out
      by_cases h0 : 0 ≤ ex
      · obtain ⟨p, hp⟩ : ∃ p : Nat, (p : Int) = ex := ⟨ex.toNat, by omega⟩
        have ew : IntKind.u64.wrap ex = (p : Int) := by rw [IntKind.wrap_u64]; omega
        have HTE := Lib.hid (show T' = T * 2 ^ p by rw [HTP.out, show ex.toNat = p by omega])
        have HSE := Lib.hid (show S' = 1 by rw [HSP.out, show (-ex).toNat = 0 by omega]; rfl)
        have hp2 : p ≤ 20000 := by omega
        clear hp
        go_wp2_with fail
        refine (lsh_int g4 0 g4 0 T T p wc HI4c.out HI4c.out (by have := HLT.out; omega) (by omega)).mono ?_
        rintro e w4 ⟨rfl, hi6, hu6⟩
        have HI6 := Lib.hid hi6
        have HU6 := Lib.hid hu6
        clear hi6 hu6
        go_wp2_with fail
        go_meet
        exact ⟨by rw [HTE.out]; exact HI6.out, by rw [HSE.out]; exact HI5c.out.upd HU6.out (fun e => absurd e (by omega)), HB4.out.trans (HU6.out.below (by omega) (by omega))⟩
      · obtain ⟨p, hp⟩ : ∃ p : Nat, (p : Int) = -ex := ⟨(-ex).toNat, by omega⟩
        have ew0 : IntKind.i64.wrap (-ex) = (p : Int) := by rw [hp]; exact IntWalk.i64_in _ (by omega)
        have ew : IntKind.u64.wrap (p : Int) = (p : Int) := by rw [IntKind.wrap_u64]; omega
        have HTE := Lib.hid (show T' = T by rw [HTP.out, show ex.toNat = 0 by omega]; simp)
        have HSE := Lib.hid (show S' = 1 * 2 ^ p by rw [HSP.out, show (-ex).toNat = p by omega, Int.one_mul])
        have hp2 : p ≤ 20000 := by omega
        clear hp
        go_wp2_with fail
        refine (lsh_int g5 0 g5 0 1 1 p wc HI5c.out HI5c.out (by decide) (by omega)).mono ?_
        rintro e w4 ⟨rfl, hi6, hu6⟩
        have HI6 := Lib.hid hi6
        have HU6 := Lib.hid hu6
        clear hi6 hu6
        go_wp2_with fail
        go_meet
        exact ⟨by rw [HTE.out]; exact HI4c.out.upd HU6.out (fun e => absurd e (by omega)), by rw [HSE.out]; exact HI6.out, HB4.out.trans (HU6.out.below (by omega) (by omega))⟩
    case rest =>
      obtain ⟨hi4, hi5, hb5⟩ := hcut
      have HI4d := Lib.hid hi4
      have HI5d := Lib.hid hi5
      have HB5 := Lib.hid hb5
      have zz5 := hb5.size
      have hl4 := hi4.lt
      have hl5 := hi5.lt
      clear hi4 hi5 hb5 c0 c1 c2
      go_wp2_with fail
      refine (setFrac_rat wc.heap.size g4 0 g5 0 T' S' _ (new_rat wc) (HI4d.out.below (below1 ..)) (HI5d.out.below (below1 ..)) (by have := HS0.out; omega) (by have := HLTP.out; omega) (by have := HLSP.out; omega)).mono ?_
      rintro e w6 ⟨rfl, hr6, hu6⟩
      rw [← HQE.out] at hr6
      have HR6 := Lib.hid hr6
      have hb6 : Below wc.heap.size wc w6 := (below1 wc newR).trans (hu6.below (by omega) (by simp))
      have HB6 := Lib.hid (HB5.out.trans (hb6.mono HB5.out.size))
      clear hr6 hu6 hb6
      go_wp2_with fail
      refine (told_ratio wc.heap.size q w6 HR6.out HQN.out HQD.out).mono ?_
      rintro e w7 ⟨v7, rfl, hr7, hb7⟩
      have HR7 := Lib.hid hr7
      obtain ⟨tn, B, m, dd, B', m', dd', rfl⟩ : ∃ s A n c A' n' c', v7 = .agg #[.bool s, .slice A n c, .slice A' n' c'] := by obtain ⟨A, n, c, A', n', c', h, _⟩ := hr7; exact ⟨_, _, _, _, _, _, _, h⟩
      have HB7 := Lib.hid (HB6.out.trans (hb7.mono HB6.out.size))
      have hblk2 := (HB7.out.block (w.heap.size + 1) (by omega)).trans G2.out
      obtain ⟨kc, kf⟩ := blk_cells hblk2
      have kc0 := kc 0
      have kc1 := kc 1
      have kc2 := kc 2
      have kf0 := kf 0
      have kf1 := kf 1
      have kf2 := kf 2
      simp only [List.getElem?_toArray, List.getElem?_cons_zero, List.getElem?_cons_succ] at kc0 kc1 kc2
      obtain ⟨w8, hw8⟩ : ∃ w8, w8 = ((w7.setCell ⟨w.heap.size + 1, 0, none⟩ (.bool tn)).setCell ⟨w.heap.size + 1, 1, none⟩ (.slice B m dd)).setCell ⟨w.heap.size + 1, 2, none⟩ (.slice B' m' dd') := ⟨_, rfl⟩
      obtain ⟨hu8, q0, q1, q2⟩ := rat_set kc0 kc1 kc2 _ _ _ _ _ _ _ _ hw8
      have HW8 := Lib.hid hw8
      have HU8 := Lib.hid hu8
      have Q0 := Lib.hid q0
      have Q1 := Lib.hid q1
      have Q2 := Lib.hid q2
      clear kc kf hblk2 hw8 hu8 q0 q1 q2 hr7 hb7
      go_wp2_with fail
      rw [← HW8.out]
      have q0 := Q0.out
      have q1 := Q1.out
      have q2 := Q2.out
      (try simp only [Exit.inBlock, Exit.then])
      refine bodyPost_ret (v := .tuple #[.agg #[.bool tn, .slice B m dd, .slice B' m' dd'], .int .i64 (toldE q)]) (by simp [results, Tryz.results35, go_sem, q0, q1, q2]; done) rfl ?_
      exact ⟨_, rfl, HR7.out.upb HU8.out, HB0.out.trans ((HB7.out.mono HB0.out.size).trans (HU8.out.below (by omega) (by have := HB7.out.size; omega)))⟩

end Go.Proofs.YtjokpfgncmdomaaGreatDoor

/- the fixed answers of RatioNumbers (plain) -/
namespace Go.Proofs.YtjokpfgncmdomaaGreatDoor

def lessN : Nat := 2 ^ 16383
def lessRV : RV := ⟨false, lim lessN, [1]⟩
def zeroRV : RV := ⟨false, [], [1]⟩
def badRV : RV := ⟨true, [], [1]⟩
def thinRV : RV := ⟨true, [1], [0, 0, 0, 0, 0, 0, 0, 0, 0, 0, 0, 0, 0, 0, 0, 0, 2251799813685248]⟩
theorem rv_nat (N : Nat) : rv (Rat.divInt (N : Int) 1) = ⟨false, lim N, [1]⟩ := by
  have h1 := rn_pos (a := (N : Int)) (b := 1) (by decide)
  have e1 : (Rat.divInt (N : Int) 1).num = N := by rw [h1.1]; simp
  have e2 : (Rat.divInt (N : Int) 1).den = 1 := by rw [h1.2]; simp
  unfold rv
  rw [e1, e2]
  have e3 : decide ((N : Int) < 0) = false := decide_eq_false (by omega)
  rw [e3, Int.natAbs_natCast]; rfl
theorem dv_two (n : Nat) : DV.q ⟨false, [1], (n : Int)⟩ = Rat.divInt ((2 ^ n : Nat) : Int) 1 := by
  have h : (⟨false, [1], (n : Int)⟩ : DV).top = 1 := rfl
  have e : (2 : Int) ^ n = ((2 ^ n : Nat) : Int) := (Int.natCast_pow 2 n).symm
  unfold DV.q
  rw [h]
  simp only
  rw [Int.one_mul, Int.toNat_natCast, e, show (-(n : Int)).toNat = 0 by omega]; rfl
theorem less_q : DV.q ⟨false, [1], 16383⟩ = Rat.divInt (lessN : Int) 1 := by unfold lessN; exact dv_two 16383
theorem more_q : DV.q ⟨false, [1], 16384⟩ = Rat.divInt ((2 ^ 16384 : Nat) : Int) 1 := dv_two 16384
theorem less_fits : fits (Rat.divInt (lessN : Int) 1) := by decide +kernel
theorem less_told : toldE (Rat.divInt (lessN : Int) 1) = 0 ∧ toldR (Rat.divInt (lessN : Int) 1) = lessRV := by
  unfold toldE toldR
  rw [if_pos less_fits, if_pos less_fits]
  exact ⟨rfl, rv_nat lessN⟩
theorem more_told : toldE (Rat.divInt ((2 ^ 16384 : Nat) : Int) 1) = 3 ∧ toldR (Rat.divInt ((2 ^ 16384 : Nat) : Int) 1) = noR := by decide +kernel
theorem less_right : rightB lessRV = true := by decide +kernel
theorem less_len : lessRV.num.length = 256 ∧ lessRV.num[255]? = some 9223372036854775808 := by decide +kernel
theorem less_sum : toldE (lessRV.q + lessRV.q) = 3 ∧ toldR (lessRV.q + lessRV.q) = noR := by decide +kernel
theorem zero_right : rightB zeroRV = true := by decide +kernel
theorem one_right : rightB ⟨false, [1], [1]⟩ = true := by decide +kernel
theorem bad_right : rightB badRV = false := by decide +kernel
theorem zero_q : zeroRV.q = 0 := by decide +kernel
theorem half2_right : rightB ⟨false, [2], [4]⟩ = false := by decide +kernel
theorem noR_right : rightB noR = false := by decide +kernel
theorem norm_told : toldE (RV.q ⟨true, [6, 0], [4]⟩) = 0 ∧ toldR (RV.q ⟨true, [6, 0], [4]⟩) = ⟨true, [3], [2]⟩ := by decide +kernel
theorem thin_round : roundX thinRV 0 = 9223372036854775808 ∧ roundE thinRV = 0 := by decide +kernel
theorem less_round : roundX lessRV 1 = 9218868437227405311 ∧ roundE lessRV = 0 := by decide +kernel
theorem int_least : rv (Rat.divInt (-9223372036854775808) 1) = ⟨true, [9223372036854775808], [1]⟩ := by decide +kernel
theorem neg_zero : rv (fltQ true 0) = zeroRV := by decide +kernel

end Go.Proofs.YtjokpfgncmdomaaGreatDoor

/- ratio.OfDyad of a dyad that is too far; math.NaN: the walks -/
namespace Go.Proofs.YtjokpfgncmdomaaGreatDoor
open Go.RowKit Go.Sort

set_option maxRecDepth 100000 in
set_option maxHeartbeats 2000000 in
theorem nan_call (w : World) : Calls Tryz.prog 44 #[] w fun e w' => e = .returned (.float .f64 9221120237041090561) ∧ w = w' := by
  have hd := run_f64from
  go_enter Tryz.func44, Tryz.ntmps44
  go_wp2_with fail
  go_ret
  exact ⟨rfl, rfl⟩

set_option maxRecDepth 100000 in
set_option maxHeartbeats 4000000 in
theorem ofDyad_far (v : Value) (d : DV) (w : World) (hd : DAt w v d) (h1 : d.exp < -16384) (h2 : -100000 ≤ d.exp) (hR : RightD d) :
    Calls Tryz.prog 35 #[v] w (Fail 3 w) := by
  have HD := Lib.hid hd
  have HR := Lib.hid hR
  obtain ⟨A, n, c, rfl, hx, hls⟩ := hd
  obtain ⟨s, ms, ex⟩ := d
  simp only at h1 h2 HD HR
  have f1 : decide ((16384 : Int) < ex) = false := decide_eq_false (by omega)
  have f2 : decide (ex < (-16384 : Int)) = true := decide_eq_true (by omega)
  obtain ⟨w0, hw0⟩ : ∃ w0, w0 = (w.alloc (.cells #[.bool s, .slice A n c, .int .i64 ex] 46)).alloc (.cells #[.bool false, .slice none 0 0, .slice none 0 0] 24) := ⟨_, rfl⟩
  have hb0 : Below w.heap.size w w0 := by rw [hw0]; exact below2 ..
  have g1 : w0.heap[w.heap.size]? = some (.cells #[.bool s, .slice A n c, .int .i64 ex] 46 (0, 0)) := by
    rw [hw0]; exact ((below1 (w.alloc _) _).block w.heap.size (by simp)).trans (blk_new w _ _)
  have g2 : w0.heap[w.heap.size + 1]? = some (.cells #[.bool false, .slice none 0 0, .slice none 0 0] 24 (0, 0)) := by
    rw [hw0]; exact blk2 w _ _ _
  have z0 : w0.heap.size = w.heap.size + 2 := by rw [hw0]; simp
  have k1 := (blk_cells g1).1
  have k10 := k1 0
  have k11 := k1 1
  have k12 := k1 2
  simp only [List.getElem?_toArray, List.getElem?_cons_zero, List.getElem?_cons_succ] at k10 k11 k12
  have HK := Lib.hid (And.intro k10 (And.intro k11 k12))
  have G2 := Lib.hid g2
  have HB0 := Lib.hid hb0
  have HW0 := Lib.hid hw0
  rw [hw0] at k10 k11 k12
  clear hx hls hw0 hb0 g1 g2 k1 h1 hR
  go_enter Tryz.func35, Tryz.ntmps35
  go_wp2_with fail
  rw [← HW0.out]
  refine (right_dyad _ _ w0 (HD.out.below HB0.out) HR.out).mono ?_
  rintro e w1 ⟨rfl, hb1⟩
  have HB1 := Lib.hid hb1
  obtain ⟨k10, k11, k12⟩ := HK.out
  have c0 := bat hb1 k10
  have c1 := bat hb1 k11
  have c2 := bat hb1 k12
  have hblk2 := (hb1.block (w.heap.size + 1) (by omega)).trans G2.out
  obtain ⟨kc, kf⟩ := blk_cells hblk2
  have kc0 := kc 0
  have kc1 := kc 1
  have kc2 := kc 2
  have kf0 := kf 0
  have kf1 := kf 1
  have kf2 := kf 2
  simp only [List.getElem?_toArray, List.getElem?_cons_zero, List.getElem?_cons_succ] at kc0 kc1 kc2
  obtain ⟨w8, hw8⟩ : ∃ w8, w8 = ((w1.setCell ⟨w.heap.size + 1, 0, none⟩ (.bool false)).setCell ⟨w.heap.size + 1, 1, none⟩ (.slice none 0 0)).setCell ⟨w.heap.size + 1, 2, none⟩ (.slice none 0 0) := ⟨_, rfl⟩
  obtain ⟨hu8, q0, q1, q2⟩ := rat_set kc0 kc1 kc2 _ _ _ _ _ _ _ _ hw8
  have HW8 := Lib.hid hw8
  have HU8 := Lib.hid hu8
  have Q0 := Lib.hid q0
  have Q1 := Lib.hid q1
  have Q2 := Lib.hid q2
  clear kc kf hblk2 hw8 hu8 q0 q1 q2 hb1 k10 k11 k12
  go_wp2_with fail
  rw [← HW8.out]
  have q0 := Q0.out
  have q1 := Q1.out
  have q2 := Q2.out
  (try simp only [Exit.inBlock, Exit.then])
  refine bodyPost_ret (v := .tuple #[.agg #[.bool false, .slice none 0 0, .slice none 0 0], .int .i64 3]) (by simp [results, Tryz.results35, go_sem, q0, q1, q2]; done) rfl ?_
  exact ⟨_, rfl, noR_at _ _ _, HB0.out.trans ((HB1.out.mono HB0.out.size).trans (HU8.out.below (by omega) (by have := HB1.out.size; omega)))⟩

end Go.Proofs.YtjokpfgncmdomaaGreatDoor
