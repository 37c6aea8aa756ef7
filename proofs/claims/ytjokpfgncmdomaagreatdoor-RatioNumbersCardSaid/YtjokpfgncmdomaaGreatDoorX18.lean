import Derived.Test.YtjokpfgncmdomaaGreatDoorX17
set_option linter.unusedSimpArgs false
set_option linter.unusedVariables false
/- dyad.Round: the walks of the other cases (printed by gen_u13.py out of U11.t) -/
namespace Go.Proofs.YtjokpfgncmdomaaGreatDoor
open Go.RowKit Go.Sort

set_option maxRecDepth 100000 in
set_option maxHeartbeats 4000000 in
theorem round_low (v : Value) (d : DV) (md : Int) (x c : Nat) (w : World) (hd : DAt w v d) (hr : RightD d) (hw : Laid w) (hL2 : d.exp + (blen (ln d.mag) : Int) - 53 < -1074) (hc : -1074 - d.exp = (c : Int)) (hc0 : 0 < c)
    (hf : FloatC d.neg (sizeR (ln d.mag) c md d.neg) (-1074) md x) :
    Calls Tryz.prog 55 #[v, .int .i8 md] w fun e w' => e = .returned (.tuple #[.float .f64 x, .int .i64 0]) ∧ Below w.heap.size w w' := by
  obtain ⟨s, xs, ex⟩ := d
  have HD := Lib.hid hd
  have HR := Lib.hid hr
  have HW := Lib.hid hw
  have HF := Lib.hid hf
  obtain ⟨A, n, cp, rfl, hx, hls⟩ := hd
  simp only at hx hls hL2 hc
  have en := hx.num
  obtain ⟨⟨l1, l2⟩, _, _, l3, l4⟩ := hr
  simp only at l1 l2 l3 l4
  have HE := Lib.hid en
  have HLS := Lib.hid hls
  have hn : 0 < n ∧ n ≤ 256 := by omega
  have k0 := new_cell w #[.bool s, .slice A n cp, .int .i64 ex] 46 0 _ rfl
  have k1 := new_cell w #[.bool s, .slice A n cp, .int .i64 ex] 46 1 _ rfl
  have k2 := new_cell w #[.bool s, .slice A n cp, .int .i64 ex] 46 2 _ rfl
  have K := Lib.hid (And.intro k0 (And.intro k1 k2))
  have hbl : blen (ln xs) ≤ 64 * xs.length := blen_le_of_lt (by rw [← W64_pow]; exact ln_lt hls)
  obtain ⟨M, hM⟩ : ∃ M, M = ln xs := ⟨_, rfl⟩
  have hMl : (dig M).length ≤ 600 := by rw [hM]; exact Nat.le_trans (dig_ln_len hls) (by omega)
  have HML := Lib.hid hMl
  have HT : Hid ((DV.top ⟨s, xs, ex⟩).natAbs = M) := Lib.hid (by rw [hM]; simp only [DV.top]; split <;> omega)
  obtain ⟨T, hT⟩ : ∃ T : Nat, T = blen (ln xs) := ⟨_, rfl⟩
  rw [← hT] at hL2 hbl
  have HTB : Hid (T = blen M) := Lib.hid (by rw [hT, hM])
  have HM := Lib.hid hM
  have HTT := Lib.hid hT
  clear hx hls en k0 k1 k2 hw hf hM hMl hT
  go_enter Tryz.func55, Tryz.ntmps55
  go_wp2_with fail
  refine (right_dyad _ ⟨s, xs, ex⟩ _ (HD.out.below (below1 ..)) HR.out).mono ?_
  rintro e w1 ⟨rfl, hb1⟩
  have q0 := bat hb1 K.out.1
  have q1 := bat hb1 K.out.2.1
  have q2 := bat hb1 K.out.2.2
  have hb1' := (below1 w (.cells #[.bool s, .slice A n cp, .int .i64 ex] 46)).trans (hb1.mono (by simp))
  have z1 : w.heap.size + 1 ≤ w1.heap.size := by have := hb1.size; simp at this; omega
  have HB1 := Lib.hid hb1'
  have e0 : ((n : Int) == 0) = false := by simp; omega
  clear hb1 hb1'
  go_wp2_with fail
  refine (whole_dyad _ ⟨s, xs, ex⟩ w1 (HD.out.below HB1.out) (show xs.length ≤ 100000 by omega)).mono ?_
  rintro e w2 ⟨g, rfl, hg, hg', hi2, hb2⟩
  have p0 := bat hb2 q0
  have p1 := bat hb2 q1
  have p2 := bat hb2 q2
  have HI2 := Lib.hid hi2
  have HB2 := Lib.hid (HB1.out.trans (hb2.mono HB1.out.size))
  clear hi2 hb2 q0 q1 q2 e0
  go_wp2_with fail
  refine (abs_int g 0 g 0 _ _ w2 HI2.out HI2.out (by rw [HT.out]; have := HML.out; omega)).mono ?_
  rw [HT.out]
  rintro e w3 ⟨rfl, hi3, hu3⟩
  have q0 := hu3.cellOf p0 (fun e => absurd e (by omega))
  have q1 := hu3.cellOf p1 (fun e => absurd e (by omega))
  have q2 := hu3.cellOf p2 (fun e => absurd e (by omega))
  have HI3 := Lib.hid hi3
  have HB3 := Lib.hid (HB2.out.trans (hu3.below (by omega) HB2.out.size))
  have hg3 := hi3.lt
  clear hi3 hu3 p0 p1 p2
  go_wp2_with fail
  refine (top_dyad _ ⟨s, xs, ex⟩ w3 (HD.out.below HB3.out) HR.out).mono ?_
  rw [← HTT.out]
  rintro e w4 ⟨rfl, hb4⟩
  have p0 := bat hb4 q0
  have p1 := bat hb4 q1
  have p2 := bat hb4 q2
  have HI4 := Lib.hid (HI3.out.below hb4)
  have HB4 := Lib.hid (HB3.out.trans (hb4.mono HB3.out.size))
  have hg4 := HI4.out.lt
  have c0 : decide ((c : Int) ≤ 0) = false := by simp; omega
  clear hb4 q0 q1 q2
  go_wp2_with fail
  refine (rsh_int w4.heap.size 0 g 0 0 M c _ (new_intAt w4) (HI4.out.below (below1 ..)) (by have := HML.out; omega) (by omega)).mono ?_
  rintro e w5 ⟨rfl, hi5, hu5⟩
  obtain ⟨q, hq⟩ : ∃ q, q = M / 2 ^ c := ⟨_, rfl⟩
  rw [← hq] at hi5
  have hb5 := newB hu5
  have HQ := Lib.hid hq
  have hq53 : q < 9007199254740992 := by
    rw [hq]
    refine Nat.div_lt_of_lt_mul ?_
    have h1 := blen_lt (N := M)
    have h2 := Nat.pow_le_pow_right (show 0 < 2 by decide) (show T ≤ c + 53 by omega)
    rw [Nat.pow_add] at h2
    rw [← HTB.out] at h1
    exact Nat.lt_of_lt_of_le h1 h2
  have hqM : q ≤ M := by rw [hq]; exact Nat.div_le_self _ _
  have hql : (dig q).length ≤ 600 := Nat.le_trans (dig_len_mono hqM) HML.out
  have HQL := Lib.hid hql
  have HQM := Lib.hid (show q * 2 ^ c ≤ M by rw [hq]; exact Nat.div_mul_le_self _ _)
  have HRM := Lib.hid (show M - q * 2 ^ c = M % 2 ^ c by rw [hq, Nat.mod_eq_sub, Nat.mul_comm])
  have HI5 := Lib.hid hi5
  have HG5 := Lib.hid (HI4.out.below hb5)
  have q0 := bat hb5 p0
  have q1 := bat hb5 p1
  have q2 := bat hb5 p2
  have HB5 := Lib.hid (HB4.out.trans (hb5.mono HB4.out.size))
  have z5 := hb5.size
  have hg5 := hi5.lt
  clear hi5 hu5 hb5 hq hqM hql p0 p1 p2
  go_wp2_with fail
  refine (uint64_int w4.heap.size 0 (q : Int) w5 HI5.out).mono ?_
  rintro e w' ⟨rfl, rfl⟩
  rw [Int.natAbs_natCast, Nat.mod_eq_of_lt (show q < 18446744073709551616 by omega)]
  go_wp2_with fail
  refine (lsh_int w4.heap.size 0 w4.heap.size 0 (q : Int) (q : Int) c w5 HI5.out HI5.out (by rw [Int.natAbs_natCast]; have := HQL.out; omega) (by omega)).mono ?_
  rintro e w6 ⟨rfl, hi6, hu6⟩
  have eQ : (q : Int) * 2 ^ c = ((q * 2 ^ c : Nat) : Int) := by rw [Int.natCast_mul, Int.natCast_pow]; rfl
  rw [eQ] at hi6
  have HI6 := Lib.hid hi6
  have HG6 := Lib.hid (HG5.out.upd hu6 (fun e => absurd e (by omega)))
  have p0 := hu6.cellOf q0 (fun e => absurd e (by omega))
  have p1 := hu6.cellOf q1 (fun e => absurd e (by omega))
  have p2 := hu6.cellOf q2 (fun e => absurd e (by omega))
  have HB6 := Lib.hid (HB5.out.trans (hu6.below (by omega) HB5.out.size))
  have z6 := hu6.size
  clear hi6 hu6 q0 q1 q2 eQ
  go_wp2_with fail
  refine (sub_int g 0 g 0 w4.heap.size 0 (M : Int) (M : Int) ((q * 2 ^ c : Nat) : Int) w6 HG6.out HG6.out HI6.out (by rw [Int.natAbs_natCast]; have := HML.out; omega) (by rw [Int.natAbs_natCast]; exact Nat.le_trans (dig_len_mono HQM.out) (by have := HML.out; omega))).mono ?_
  rintro e w7 ⟨rfl, hi7, hu7⟩
  obtain ⟨R, hR⟩ : ∃ R : Nat, R = M % 2 ^ c := ⟨_, rfl⟩
  have eR : (M : Int) - ((q * 2 ^ c : Nat) : Int) = (R : Int) := by
    have h1 := HRM.out
    have h2 := HQM.out
    rw [← hR] at h1
    generalize q * 2 ^ c = y at h1 h2
    omega
  rw [eR] at hi7
  have HRR := Lib.hid hR
  have HRL := Lib.hid (show (dig R).length ≤ 600 by rw [hR]; exact Nat.le_trans (dig_len_mono (Nat.mod_le _ _)) HML.out)
  have HG7 := Lib.hid hi7
  have q0 := hu7.cellOf p0 (fun e => absurd e (by omega))
  have q1 := hu7.cellOf p1 (fun e => absurd e (by omega))
  have q2 := hu7.cellOf p2 (fun e => absurd e (by omega))
  have HB7 := Lib.hid (HB6.out.trans (hu7.below (by omega) HB6.out.size))
  have z7 := hu7.size
  clear hi7 hu7 p0 p1 p2 eR hR
  go_wp2_with fail
  refine (newInt_int 1 _ (by omega) (by omega)).mono ?_
  rintro e w8 ⟨g8, rfl, hg8, hg8', hi8, hb8⟩
  have HI8 := Lib.hid hi8
  have N8 := Lib.hid ((new_intAt w7).below hb8)
  have hb8' : Below w7.heap.size w7 w8 := (below1 w7 newI).trans (hb8.mono (by simp))
  have HG8 := Lib.hid (HG7.out.below hb8')
  have p0 := bat hb8' q0
  have p1 := bat hb8' q1
  have p2 := bat hb8' q2
  have HB8 := Lib.hid (HB7.out.trans (hb8'.mono HB7.out.size))
  have z8 := hb8'.size
  have hg8z : w7.heap.size + 1 ≤ g8 := by simpa using hg8
  obtain ⟨k, hk⟩ : ∃ k, k = c - 1 := ⟨_, rfl⟩
  have ek : (c : Int) - 1 = (k : Int) := by omega
  have HK := Lib.hid hk
  clear hi8 hb8 hb8' q0 q1 q2 hk
  go_wp2_with fail
  refine (lsh_int w7.heap.size 0 g8 0 0 1 k w8 N8.out HI8.out (by decide) (by have := HK.out; omega)).mono ?_
  rintro e w9 ⟨rfl, hi9, hu9⟩
  have eP : (1 : Int) * 2 ^ k = ((2 ^ k : Nat) : Int) := by rw [Int.one_mul, Int.natCast_pow]; rfl
  rw [eP] at hi9
  have HI9 := Lib.hid hi9
  have HG9 := Lib.hid (HG8.out.upd hu9 (fun e => absurd e (by omega)))
  have q0 := hu9.cellOf p0 (fun e => absurd e (by omega))
  have q1 := hu9.cellOf p1 (fun e => absurd e (by omega))
  have q2 := hu9.cellOf p2 (fun e => absurd e (by omega))
  have HB9 := Lib.hid (HB8.out.trans (hu9.below (by omega) HB8.out.size))
  have hPl : (dig (2 ^ k)).length ≤ 100000 := Nat.le_trans (dig_pow k) (by have := HK.out; omega)
  have HPL := Lib.hid hPl
  clear hi9 hu9 p0 p1 p2 eP ek hPl
  go_wp2_with fail
  refine (cmp_int g 0 w7.heap.size 0 (R : Int) ((2 ^ k : Nat) : Int) w9 HG9.out HI9.out (by rw [Int.natAbs_natCast]; have := HRL.out; omega) (by rw [Int.natAbs_natCast]; have := HPL.out; omega)).mono ?_
  rw [cmpI_nat (by omega) (Int.natCast_nonneg _), Int.natAbs_natCast, Int.natAbs_natCast]
  rintro e w10 ⟨rfl, hb10⟩
  obtain ⟨hf, hhf⟩ : ∃ hf, hf = cmpN R (2 ^ k) := ⟨_, rfl⟩
  rw [← hhf]
  have HHF := Lib.hid hhf
  have HG10 := Lib.hid (HG9.out.below hb10)
  have p0 := bat hb10 q0
  have p1 := bat hb10 q1
  have p2 := bat hb10 q2
  have HB10 := Lib.hid (HB9.out.trans (hb10.mono HB9.out.size))
  clear hhf hb10 q0 q1 q2
  go_wp2_with fail
  refine (sign_int g 0 (R : Int) w10 HG10.out).mono ?_
  rintro e w' ⟨rfl, rfl⟩
  have HLD := Lib.hid (HW.out.below HB10.out)
  have hszR : Hid (sizeR M c md s = if 0 < R ∧ awayB md s hf (decide (q % 2 = 1)) = true then q + 1 else q) := Lib.hid (by unfold sizeR; rw [HHF.out, HRR.out, HK.out, HQ.out])
  have HF' : Hid (FloatC s (sizeR M c md s) (-1074) md x) := Lib.hid (by rw [HM.out]; exact HF.out)
  by_cases h0 : R = 0
  · have e0 : sgnI (R : Int) = 0 := by rw [h0]; rfl
    rw [e0]
    have HS := Lib.hid (show sizeR M c md s = q by rw [hszR.out, if_neg (by omega)])
    clear e0 h0
    go_wp2_with fail
    have hfc := HF'.out
    rw [HS.out] at hfc
    refine (hfc w10 HLD.out).mono ?_
    rintro e w11 ⟨rfl, hb11⟩
    have HB11 := Lib.hid (HB10.out.trans (hb11.mono HB10.out.size))
    clear hb11
    go_wp2_with fail
    go_ret2
    exact ⟨rfl, HB11.out⟩
  · have e0 : sgnI (R : Int) = 1 := by unfold sgnI; rw [if_neg (by omega), if_neg (by omega)]
    rw [e0]
    obtain ⟨od, hod⟩ : ∃ od, od = decide (q % 2 = 1) := ⟨_, rfl⟩
    have t1 : (bits BinOp.and IntKind.u64 (q : Int) 1 == 1) = od := by
      have h := bits_and_u64_nat q 1 (by omega) (by decide)
      rw [Nat.and_one_is_mod] at h
      have h2 : bits BinOp.and IntKind.u64 (q : Int) 1 = ((q % 2 : Nat) : Int) := h
      rw [h2, hod]
      rcases Nat.mod_two_eq_zero_or_one q with h3 | h3 <;> rw [h3] <;> rfl
    have HS := Lib.hid (show sizeR M c md s = if awayB md s hf od = true then q + 1 else q by
      rw [hszR.out, hod]
      have : 0 < R := by omega
      simp only [this, true_and])
    clear e0 h0 hod
    go_wp2_with fail
    refine (away_dyad md s hf od w10).mono ?_
    rintro e w' ⟨rfl, rfl⟩
    cases ha : awayB md s hf od
    · have HS2 := Lib.hid (show sizeR M c md s = q by rw [HS.out, ha, if_neg (by decide)])
      clear ha
      go_wp2_with fail
      have hfc := HF'.out
      rw [HS2.out] at hfc
      refine (hfc w10 HLD.out).mono ?_
      rintro e w11 ⟨rfl, hb11⟩
      have HB11 := Lib.hid (HB10.out.trans (hb11.mono HB10.out.size))
      clear hb11
      go_wp2_with fail
      go_ret2
      exact ⟨rfl, HB11.out⟩
    · have HS2 := Lib.hid (show sizeR M c md s = q + 1 by rw [HS.out, ha, if_pos rfl])
      clear ha
      obtain ⟨q', hq'⟩ : ∃ q', q' = q + 1 := ⟨_, rfl⟩
      have eq' : (q : Int) + 1 = (q' : Int) := by omega
      have HQ' := Lib.hid hq'
      clear hq'
      go_wp2_with fail
      have hfc := HF'.out
      rw [HS2.out, ← HQ'.out] at hfc
      refine (hfc w10 HLD.out).mono ?_
      rintro e w11 ⟨rfl, hb11⟩
      have HB11 := Lib.hid (HB10.out.trans (hb11.mono HB10.out.size))
      clear hb11
      go_wp2_with fail
      go_ret2
      exact ⟨rfl, HB11.out⟩


set_option maxRecDepth 100000 in
set_option maxHeartbeats 4000000 in
theorem round_tie (v : Value) (d : DV) (md : Int) (x c : Nat) (w : World) (hd : DAt w v d) (hr : RightD d) (hw : Laid w) (hL2 : d.exp + (blen (ln d.mag) : Int) - 53 = -1074) (hc : -1074 - d.exp = (c : Int)) (hc0 : 0 < c)
    (hf : FloatC d.neg (sizeR (ln d.mag) c md d.neg) (-1074) md x) :
    Calls Tryz.prog 55 #[v, .int .i8 md] w fun e w' => e = .returned (.tuple #[.float .f64 x, .int .i64 0]) ∧ Below w.heap.size w w' := by
  obtain ⟨s, xs, ex⟩ := d
  have HD := Lib.hid hd
  have HR := Lib.hid hr
  have HW := Lib.hid hw
  have HF := Lib.hid hf
  obtain ⟨A, n, cp, rfl, hx, hls⟩ := hd
  simp only at hx hls hL2 hc
  have en := hx.num
  obtain ⟨⟨l1, l2⟩, _, _, l3, l4⟩ := hr
  simp only at l1 l2 l3 l4
  have HE := Lib.hid en
  have HLS := Lib.hid hls
  have hn : 0 < n ∧ n ≤ 256 := by omega
  have k0 := new_cell w #[.bool s, .slice A n cp, .int .i64 ex] 46 0 _ rfl
  have k1 := new_cell w #[.bool s, .slice A n cp, .int .i64 ex] 46 1 _ rfl
  have k2 := new_cell w #[.bool s, .slice A n cp, .int .i64 ex] 46 2 _ rfl
  have K := Lib.hid (And.intro k0 (And.intro k1 k2))
  have hbl : blen (ln xs) ≤ 64 * xs.length := blen_le_of_lt (by rw [← W64_pow]; exact ln_lt hls)
  obtain ⟨M, hM⟩ : ∃ M, M = ln xs := ⟨_, rfl⟩
  have hMl : (dig M).length ≤ 600 := by rw [hM]; exact Nat.le_trans (dig_ln_len hls) (by omega)
  have HML := Lib.hid hMl
  have HT : Hid ((DV.top ⟨s, xs, ex⟩).natAbs = M) := Lib.hid (by rw [hM]; simp only [DV.top]; split <;> omega)
  obtain ⟨T, hT⟩ : ∃ T : Nat, T = blen (ln xs) := ⟨_, rfl⟩
  rw [← hT] at hL2 hbl
  have HTB : Hid (T = blen M) := Lib.hid (by rw [hT, hM])
  have HM := Lib.hid hM
  have HTT := Lib.hid hT
  clear hx hls en k0 k1 k2 hw hf hM hMl hT
  go_enter Tryz.func55, Tryz.ntmps55
  go_wp2_with fail
  refine (right_dyad _ ⟨s, xs, ex⟩ _ (HD.out.below (below1 ..)) HR.out).mono ?_
  rintro e w1 ⟨rfl, hb1⟩
  have q0 := bat hb1 K.out.1
  have q1 := bat hb1 K.out.2.1
  have q2 := bat hb1 K.out.2.2
  have hb1' := (below1 w (.cells #[.bool s, .slice A n cp, .int .i64 ex] 46)).trans (hb1.mono (by simp))
  have z1 : w.heap.size + 1 ≤ w1.heap.size := by have := hb1.size; simp at this; omega
  have HB1 := Lib.hid hb1'
  have e0 : ((n : Int) == 0) = false := by simp; omega
  clear hb1 hb1'
  go_wp2_with fail
  refine (whole_dyad _ ⟨s, xs, ex⟩ w1 (HD.out.below HB1.out) (show xs.length ≤ 100000 by omega)).mono ?_
  rintro e w2 ⟨g, rfl, hg, hg', hi2, hb2⟩
  have p0 := bat hb2 q0
  have p1 := bat hb2 q1
  have p2 := bat hb2 q2
  have HI2 := Lib.hid hi2
  have HB2 := Lib.hid (HB1.out.trans (hb2.mono HB1.out.size))
  clear hi2 hb2 q0 q1 q2 e0
  go_wp2_with fail
  refine (abs_int g 0 g 0 _ _ w2 HI2.out HI2.out (by rw [HT.out]; have := HML.out; omega)).mono ?_
  rw [HT.out]
  rintro e w3 ⟨rfl, hi3, hu3⟩
  have q0 := hu3.cellOf p0 (fun e => absurd e (by omega))
  have q1 := hu3.cellOf p1 (fun e => absurd e (by omega))
  have q2 := hu3.cellOf p2 (fun e => absurd e (by omega))
  have HI3 := Lib.hid hi3
  have HB3 := Lib.hid (HB2.out.trans (hu3.below (by omega) HB2.out.size))
  have hg3 := hi3.lt
  clear hi3 hu3 p0 p1 p2
  go_wp2_with fail
  refine (top_dyad _ ⟨s, xs, ex⟩ w3 (HD.out.below HB3.out) HR.out).mono ?_
  rw [← HTT.out, show ex + (T : Int) = -1021 by omega]
  rintro e w4 ⟨rfl, hb4⟩
  have p0 := bat hb4 q0
  have p1 := bat hb4 q1
  have p2 := bat hb4 q2
  have HI4 := Lib.hid (HI3.out.below hb4)
  have HB4 := Lib.hid (HB3.out.trans (hb4.mono HB3.out.size))
  have hg4 := HI4.out.lt
  have c0 : decide ((c : Int) ≤ 0) = false := by simp; omega
  clear hb4 q0 q1 q2
  go_wp2_with fail
  refine (rsh_int w4.heap.size 0 g 0 0 M c _ (new_intAt w4) (HI4.out.below (below1 ..)) (by have := HML.out; omega) (by omega)).mono ?_
  rintro e w5 ⟨rfl, hi5, hu5⟩
  obtain ⟨q, hq⟩ : ∃ q, q = M / 2 ^ c := ⟨_, rfl⟩
  rw [← hq] at hi5
  have hb5 := newB hu5
  have HQ := Lib.hid hq
  have hq53 : q < 9007199254740992 := by
    rw [hq]
    refine Nat.div_lt_of_lt_mul ?_
    have h1 := blen_lt (N := M)
    have h2 := Nat.pow_le_pow_right (show 0 < 2 by decide) (show T ≤ c + 53 by omega)
    rw [Nat.pow_add] at h2
    rw [← HTB.out] at h1
    exact Nat.lt_of_lt_of_le h1 h2
  have hqM : q ≤ M := by rw [hq]; exact Nat.div_le_self _ _
  have hql : (dig q).length ≤ 600 := Nat.le_trans (dig_len_mono hqM) HML.out
  have HQL := Lib.hid hql
  have HQM := Lib.hid (show q * 2 ^ c ≤ M by rw [hq]; exact Nat.div_mul_le_self _ _)
  have HRM := Lib.hid (show M - q * 2 ^ c = M % 2 ^ c by rw [hq, Nat.mod_eq_sub, Nat.mul_comm])
  have HI5 := Lib.hid hi5
  have HG5 := Lib.hid (HI4.out.below hb5)
  have q0 := bat hb5 p0
  have q1 := bat hb5 p1
  have q2 := bat hb5 p2
  have HB5 := Lib.hid (HB4.out.trans (hb5.mono HB4.out.size))
  have z5 := hb5.size
  have hg5 := hi5.lt
  clear hi5 hu5 hb5 hq hqM hql p0 p1 p2
  go_wp2_with fail
  refine (uint64_int w4.heap.size 0 (q : Int) w5 HI5.out).mono ?_
  rintro e w' ⟨rfl, rfl⟩
  rw [Int.natAbs_natCast, Nat.mod_eq_of_lt (show q < 18446744073709551616 by omega)]
  go_wp2_with fail
  refine (lsh_int w4.heap.size 0 w4.heap.size 0 (q : Int) (q : Int) c w5 HI5.out HI5.out (by rw [Int.natAbs_natCast]; have := HQL.out; omega) (by omega)).mono ?_
  rintro e w6 ⟨rfl, hi6, hu6⟩
  have eQ : (q : Int) * 2 ^ c = ((q * 2 ^ c : Nat) : Int) := by rw [Int.natCast_mul, Int.natCast_pow]; rfl
  rw [eQ] at hi6
  have HI6 := Lib.hid hi6
  have HG6 := Lib.hid (HG5.out.upd hu6 (fun e => absurd e (by omega)))
  have p0 := hu6.cellOf q0 (fun e => absurd e (by omega))
  have p1 := hu6.cellOf q1 (fun e => absurd e (by omega))
  have p2 := hu6.cellOf q2 (fun e => absurd e (by omega))
  have HB6 := Lib.hid (HB5.out.trans (hu6.below (by omega) HB5.out.size))
  have z6 := hu6.size
  clear hi6 hu6 q0 q1 q2 eQ
  go_wp2_with fail
  refine (sub_int g 0 g 0 w4.heap.size 0 (M : Int) (M : Int) ((q * 2 ^ c : Nat) : Int) w6 HG6.out HG6.out HI6.out (by rw [Int.natAbs_natCast]; have := HML.out; omega) (by rw [Int.natAbs_natCast]; exact Nat.le_trans (dig_len_mono HQM.out) (by have := HML.out; omega))).mono ?_
  rintro e w7 ⟨rfl, hi7, hu7⟩
  obtain ⟨R, hR⟩ : ∃ R : Nat, R = M % 2 ^ c := ⟨_, rfl⟩
  have eR : (M : Int) - ((q * 2 ^ c : Nat) : Int) = (R : Int) := by
    have h1 := HRM.out
    have h2 := HQM.out
    rw [← hR] at h1
    generalize q * 2 ^ c = y at h1 h2
    omega
  rw [eR] at hi7
  have HRR := Lib.hid hR
  have HRL := Lib.hid (show (dig R).length ≤ 600 by rw [hR]; exact Nat.le_trans (dig_len_mono (Nat.mod_le _ _)) HML.out)
  have HG7 := Lib.hid hi7
  have q0 := hu7.cellOf p0 (fun e => absurd e (by omega))
  have q1 := hu7.cellOf p1 (fun e => absurd e (by omega))
  have q2 := hu7.cellOf p2 (fun e => absurd e (by omega))
  have HB7 := Lib.hid (HB6.out.trans (hu7.below (by omega) HB6.out.size))
  have z7 := hu7.size
  clear hi7 hu7 p0 p1 p2 eR hR
  go_wp2_with fail
  refine (newInt_int 1 _ (by omega) (by omega)).mono ?_
  rintro e w8 ⟨g8, rfl, hg8, hg8', hi8, hb8⟩
  have HI8 := Lib.hid hi8
  have N8 := Lib.hid ((new_intAt w7).below hb8)
  have hb8' : Below w7.heap.size w7 w8 := (below1 w7 newI).trans (hb8.mono (by simp))
  have HG8 := Lib.hid (HG7.out.below hb8')
  have p0 := bat hb8' q0
  have p1 := bat hb8' q1
  have p2 := bat hb8' q2
  have HB8 := Lib.hid (HB7.out.trans (hb8'.mono HB7.out.size))
  have z8 := hb8'.size
  have hg8z : w7.heap.size + 1 ≤ g8 := by simpa using hg8
  obtain ⟨k, hk⟩ : ∃ k, k = c - 1 := ⟨_, rfl⟩
  have ek : (c : Int) - 1 = (k : Int) := by omega
  have HK := Lib.hid hk
  clear hi8 hb8 hb8' q0 q1 q2 hk
  go_wp2_with fail
  refine (lsh_int w7.heap.size 0 g8 0 0 1 k w8 N8.out HI8.out (by decide) (by have := HK.out; omega)).mono ?_
  rintro e w9 ⟨rfl, hi9, hu9⟩
  have eP : (1 : Int) * 2 ^ k = ((2 ^ k : Nat) : Int) := by rw [Int.one_mul, Int.natCast_pow]; rfl
  rw [eP] at hi9
  have HI9 := Lib.hid hi9
  have HG9 := Lib.hid (HG8.out.upd hu9 (fun e => absurd e (by omega)))
  have q0 := hu9.cellOf p0 (fun e => absurd e (by omega))
  have q1 := hu9.cellOf p1 (fun e => absurd e (by omega))
  have q2 := hu9.cellOf p2 (fun e => absurd e (by omega))
  have HB9 := Lib.hid (HB8.out.trans (hu9.below (by omega) HB8.out.size))
  have hPl : (dig (2 ^ k)).length ≤ 100000 := Nat.le_trans (dig_pow k) (by have := HK.out; omega)
  have HPL := Lib.hid hPl
  clear hi9 hu9 p0 p1 p2 eP ek hPl
  go_wp2_with fail
  refine (cmp_int g 0 w7.heap.size 0 (R : Int) ((2 ^ k : Nat) : Int) w9 HG9.out HI9.out (by rw [Int.natAbs_natCast]; have := HRL.out; omega) (by rw [Int.natAbs_natCast]; have := HPL.out; omega)).mono ?_
  rw [cmpI_nat (by omega) (Int.natCast_nonneg _), Int.natAbs_natCast, Int.natAbs_natCast]
  rintro e w10 ⟨rfl, hb10⟩
  obtain ⟨hf, hhf⟩ : ∃ hf, hf = cmpN R (2 ^ k) := ⟨_, rfl⟩
  rw [← hhf]
  have HHF := Lib.hid hhf
  have HG10 := Lib.hid (HG9.out.below hb10)
  have p0 := bat hb10 q0
  have p1 := bat hb10 q1
  have p2 := bat hb10 q2
  have HB10 := Lib.hid (HB9.out.trans (hb10.mono HB9.out.size))
  clear hhf hb10 q0 q1 q2
  go_wp2_with fail
  refine (sign_int g 0 (R : Int) w10 HG10.out).mono ?_
  rintro e w' ⟨rfl, rfl⟩
  have HLD := Lib.hid (HW.out.below HB10.out)
  have hszR : Hid (sizeR M c md s = if 0 < R ∧ awayB md s hf (decide (q % 2 = 1)) = true then q + 1 else q) := Lib.hid (by unfold sizeR; rw [HHF.out, HRR.out, HK.out, HQ.out])
  have HF' : Hid (FloatC s (sizeR M c md s) (-1074) md x) := Lib.hid (by rw [HM.out]; exact HF.out)
  by_cases h0 : R = 0
  · have e0 : sgnI (R : Int) = 0 := by rw [h0]; rfl
    rw [e0]
    have HS := Lib.hid (show sizeR M c md s = q by rw [hszR.out, if_neg (by omega)])
    clear e0 h0
    go_wp2_with fail
    have hfc := HF'.out
    rw [HS.out] at hfc
    refine (hfc w10 HLD.out).mono ?_
    rintro e w11 ⟨rfl, hb11⟩
    have HB11 := Lib.hid (HB10.out.trans (hb11.mono HB10.out.size))
    clear hb11
    go_wp2_with fail
    go_ret2
    exact ⟨rfl, HB11.out⟩
  · have e0 : sgnI (R : Int) = 1 := by unfold sgnI; rw [if_neg (by omega), if_neg (by omega)]
    rw [e0]
    obtain ⟨od, hod⟩ : ∃ od, od = decide (q % 2 = 1) := ⟨_, rfl⟩
    have t1 : (bits BinOp.and IntKind.u64 (q : Int) 1 == 1) = od := by
      have h := bits_and_u64_nat q 1 (by omega) (by decide)
      rw [Nat.and_one_is_mod] at h
      have h2 : bits BinOp.and IntKind.u64 (q : Int) 1 = ((q % 2 : Nat) : Int) := h
      rw [h2, hod]
      rcases Nat.mod_two_eq_zero_or_one q with h3 | h3 <;> rw [h3] <;> rfl
    have HS := Lib.hid (show sizeR M c md s = if awayB md s hf od = true then q + 1 else q by
      rw [hszR.out, hod]
      have : 0 < R := by omega
      simp only [this, true_and])
    clear e0 h0 hod
    go_wp2_with fail
    refine (away_dyad md s hf od w10).mono ?_
    rintro e w' ⟨rfl, rfl⟩
    cases ha : awayB md s hf od
    · have HS2 := Lib.hid (show sizeR M c md s = q by rw [HS.out, ha, if_neg (by decide)])
      clear ha
      go_wp2_with fail
      have hfc := HF'.out
      rw [HS2.out] at hfc
      refine (hfc w10 HLD.out).mono ?_
      rintro e w11 ⟨rfl, hb11⟩
      have HB11 := Lib.hid (HB10.out.trans (hb11.mono HB10.out.size))
      clear hb11
      go_wp2_with fail
      go_ret2
      exact ⟨rfl, HB11.out⟩
    · have HS2 := Lib.hid (show sizeR M c md s = q + 1 by rw [HS.out, ha, if_pos rfl])
      clear ha
      obtain ⟨q', hq'⟩ : ∃ q', q' = q + 1 := ⟨_, rfl⟩
      have eq' : (q : Int) + 1 = (q' : Int) := by omega
      have HQ' := Lib.hid hq'
      clear hq'
      go_wp2_with fail
      have hfc := HF'.out
      rw [HS2.out, ← HQ'.out] at hfc
      refine (hfc w10 HLD.out).mono ?_
      rintro e w11 ⟨rfl, hb11⟩
      have HB11 := Lib.hid (HB10.out.trans (hb11.mono HB10.out.size))
      clear hb11
      go_wp2_with fail
      go_ret2
      exact ⟨rfl, HB11.out⟩


set_option maxRecDepth 100000 in
set_option maxHeartbeats 4000000 in
theorem round_fit (v : Value) (d : DV) (md : Int) (x c : Nat) (L : Int) (w : World) (hd : DAt w v d) (hr : RightD d) (hw : Laid w) (hL : L = d.exp + (blen (ln d.mag) : Int) - 53) (hL2 : -1074 < L) (hc : d.exp - L = (c : Int)) 
    (hf : FloatC d.neg (ln d.mag * 2 ^ c) L md x) :
    Calls Tryz.prog 55 #[v, .int .i8 md] w fun e w' => e = .returned (.tuple #[.float .f64 x, .int .i64 0]) ∧ Below w.heap.size w w' := by
  obtain ⟨s, xs, ex⟩ := d
  have HD := Lib.hid hd
  have HR := Lib.hid hr
  have HW := Lib.hid hw
  have HF := Lib.hid hf
  obtain ⟨A, n, cp, rfl, hx, hls⟩ := hd
  simp only at hx hls hL hc
  have en := hx.num
  obtain ⟨⟨l1, l2⟩, _, _, l3, l4⟩ := hr
  simp only at l1 l2 l3 l4
  have HE := Lib.hid en
  have HLS := Lib.hid hls
  have hn : 0 < n ∧ n ≤ 256 := by omega
  have k0 := new_cell w #[.bool s, .slice A n cp, .int .i64 ex] 46 0 _ rfl
  have k1 := new_cell w #[.bool s, .slice A n cp, .int .i64 ex] 46 1 _ rfl
  have k2 := new_cell w #[.bool s, .slice A n cp, .int .i64 ex] 46 2 _ rfl
  have K := Lib.hid (And.intro k0 (And.intro k1 k2))
  have hbl : blen (ln xs) ≤ 64 * xs.length := blen_le_of_lt (by rw [← W64_pow]; exact ln_lt hls)
  obtain ⟨M, hM⟩ : ∃ M, M = ln xs := ⟨_, rfl⟩
  have hMl : (dig M).length ≤ 600 := by rw [hM]; exact Nat.le_trans (dig_ln_len hls) (by omega)
  have HML := Lib.hid hMl
  have HT : Hid ((DV.top ⟨s, xs, ex⟩).natAbs = M) := Lib.hid (by rw [hM]; simp only [DV.top]; split <;> omega)
  obtain ⟨T, hT⟩ : ∃ T : Nat, T = blen (ln xs) := ⟨_, rfl⟩
  rw [← hT] at hL hbl
  subst hL
  have HTB : Hid (T = blen M) := Lib.hid (by rw [hT, hM])
  have HM := Lib.hid hM
  have HTT := Lib.hid hT
  clear hx hls en k0 k1 k2 hw hf hM hMl hT
  go_enter Tryz.func55, Tryz.ntmps55
  go_wp2_with fail
  refine (right_dyad _ ⟨s, xs, ex⟩ _ (HD.out.below (below1 ..)) HR.out).mono ?_
  rintro e w1 ⟨rfl, hb1⟩
  have q0 := bat hb1 K.out.1
  have q1 := bat hb1 K.out.2.1
  have q2 := bat hb1 K.out.2.2
  have hb1' := (below1 w (.cells #[.bool s, .slice A n cp, .int .i64 ex] 46)).trans (hb1.mono (by simp))
  have z1 : w.heap.size + 1 ≤ w1.heap.size := by have := hb1.size; simp at this; omega
  have HB1 := Lib.hid hb1'
  have e0 : ((n : Int) == 0) = false := by simp; omega
  clear hb1 hb1'
  go_wp2_with fail
  refine (whole_dyad _ ⟨s, xs, ex⟩ w1 (HD.out.below HB1.out) (show xs.length ≤ 100000 by omega)).mono ?_
  rintro e w2 ⟨g, rfl, hg, hg', hi2, hb2⟩
  have p0 := bat hb2 q0
  have p1 := bat hb2 q1
  have p2 := bat hb2 q2
  have HI2 := Lib.hid hi2
  have HB2 := Lib.hid (HB1.out.trans (hb2.mono HB1.out.size))
  clear hi2 hb2 q0 q1 q2 e0
  go_wp2_with fail
  refine (abs_int g 0 g 0 _ _ w2 HI2.out HI2.out (by rw [HT.out]; have := HML.out; omega)).mono ?_
  rw [HT.out]
  rintro e w3 ⟨rfl, hi3, hu3⟩
  have q0 := hu3.cellOf p0 (fun e => absurd e (by omega))
  have q1 := hu3.cellOf p1 (fun e => absurd e (by omega))
  have q2 := hu3.cellOf p2 (fun e => absurd e (by omega))
  have HI3 := Lib.hid hi3
  have HB3 := Lib.hid (HB2.out.trans (hu3.below (by omega) HB2.out.size))
  have hg3 := hi3.lt
  clear hi3 hu3 p0 p1 p2
  go_wp2_with fail
  refine (top_dyad _ ⟨s, xs, ex⟩ w3 (HD.out.below HB3.out) HR.out).mono ?_
  rw [← HTT.out]
  rintro e w4 ⟨rfl, hb4⟩
  have p0 := bat hb4 q0
  have p1 := bat hb4 q1
  have p2 := bat hb4 q2
  have HI4 := Lib.hid (HI3.out.below hb4)
  have HB4 := Lib.hid (HB3.out.trans (hb4.mono HB3.out.size))
  have hg4 := HI4.out.lt
  have hcut : ex + (T : Int) - 53 - ex = -(c : Int) := by omega
  have c0 : decide (-(c : Int) ≤ 0) = true := by simp
  have hS : M * 2 ^ c < 9007199254740992 := by
    have h1 := blen_lt (N := M)
    rw [← HTB.out] at h1
    have h2 := Nat.pow_le_pow_right (show 0 < 2 by decide) (show T + c ≤ 53 by omega)
    rw [Nat.pow_add] at h2
    exact Nat.lt_of_lt_of_le (Nat.mul_lt_mul_of_pos_right h1 (Nat.pow_pos (by decide))) h2
  have HS := Lib.hid hS
  have lc : c ≤ 53 := by omega
  clear hb4 q0 q1 q2 hS hc
  go_wp2_with fail
  refine (lsh_int w4.heap.size 0 g 0 0 (M : Int) c _ (new_intAt w4) (HI4.out.below (below1 ..)) (by rw [Int.natAbs_natCast]; have := HML.out; omega) (by omega)).mono ?_
  rintro e w5 ⟨rfl, hi5, hu5⟩
  have eS : (M : Int) * 2 ^ c = ((M * 2 ^ c : Nat) : Int) := by rw [Int.natCast_mul, Int.natCast_pow]; rfl
  rw [eS] at hi5
  obtain ⟨q, hq⟩ : ∃ q, q = M * 2 ^ c := ⟨_, rfl⟩
  rw [← hq] at hi5
  have HQ := Lib.hid hq
  have hq53 : q < 9007199254740992 := by rw [hq]; exact HS.out
  have hb5 := newB hu5
  have HI5 := Lib.hid hi5
  have q0 := bat hb5 p0
  have q1 := bat hb5 p1
  have q2 := bat hb5 p2
  have HB5 := Lib.hid (HB4.out.trans (hb5.mono HB4.out.size))
  clear hi5 hu5 hb5 eS hq p0 p1 p2
  go_wp2_with fail
  refine (uint64_int w4.heap.size 0 (q : Int) w5 HI5.out).mono ?_
  rintro e w' ⟨rfl, rfl⟩
  rw [Int.natAbs_natCast, Nat.mod_eq_of_lt (show q < 18446744073709551616 by omega)]
  have HF' : Hid (FloatC s q (ex + (T : Int) - 53) md x) := Lib.hid (by rw [HQ.out, HM.out]; exact HF.out)
  go_wp2_with fail
  refine (HF'.out w5 (HW.out.below HB5.out)).mono ?_
  rintro e w11 ⟨rfl, hb11⟩
  have HB11 := Lib.hid (HB5.out.trans (hb11.mono HB5.out.size))
  clear hb11
  go_wp2_with fail
  go_ret2
  exact ⟨rfl, HB11.out⟩

set_option maxRecDepth 100000 in
set_option maxHeartbeats 4000000 in
theorem round_fit_low (v : Value) (d : DV) (md : Int) (x c : Nat) (w : World) (hd : DAt w v d) (hr : RightD d) (hw : Laid w) (hL2 : d.exp + (blen (ln d.mag) : Int) - 53 < -1074) (hc : d.exp - (-1074) = (c : Int)) 
    (hf : FloatC d.neg (ln d.mag * 2 ^ c) (-1074) md x) :
    Calls Tryz.prog 55 #[v, .int .i8 md] w fun e w' => e = .returned (.tuple #[.float .f64 x, .int .i64 0]) ∧ Below w.heap.size w w' := by
  obtain ⟨s, xs, ex⟩ := d
  have HD := Lib.hid hd
  have HR := Lib.hid hr
  have HW := Lib.hid hw
  have HF := Lib.hid hf
  obtain ⟨A, n, cp, rfl, hx, hls⟩ := hd
  simp only at hx hls hL2 hc
  have en := hx.num
  obtain ⟨⟨l1, l2⟩, _, _, l3, l4⟩ := hr
  simp only at l1 l2 l3 l4
  have HE := Lib.hid en
  have HLS := Lib.hid hls
  have hn : 0 < n ∧ n ≤ 256 := by omega
  have k0 := new_cell w #[.bool s, .slice A n cp, .int .i64 ex] 46 0 _ rfl
  have k1 := new_cell w #[.bool s, .slice A n cp, .int .i64 ex] 46 1 _ rfl
  have k2 := new_cell w #[.bool s, .slice A n cp, .int .i64 ex] 46 2 _ rfl
  have K := Lib.hid (And.intro k0 (And.intro k1 k2))
  have hbl : blen (ln xs) ≤ 64 * xs.length := blen_le_of_lt (by rw [← W64_pow]; exact ln_lt hls)
  obtain ⟨M, hM⟩ : ∃ M, M = ln xs := ⟨_, rfl⟩
  have hMl : (dig M).length ≤ 600 := by rw [hM]; exact Nat.le_trans (dig_ln_len hls) (by omega)
  have HML := Lib.hid hMl
  have HT : Hid ((DV.top ⟨s, xs, ex⟩).natAbs = M) := Lib.hid (by rw [hM]; simp only [DV.top]; split <;> omega)
  obtain ⟨T, hT⟩ : ∃ T : Nat, T = blen (ln xs) := ⟨_, rfl⟩
  rw [← hT] at hL2 hbl
  have HTB : Hid (T = blen M) := Lib.hid (by rw [hT, hM])
  have HM := Lib.hid hM
  have HTT := Lib.hid hT
  clear hx hls en k0 k1 k2 hw hf hM hMl hT
  go_enter Tryz.func55, Tryz.ntmps55
  go_wp2_with fail
  refine (right_dyad _ ⟨s, xs, ex⟩ _ (HD.out.below (below1 ..)) HR.out).mono ?_
  rintro e w1 ⟨rfl, hb1⟩
  have q0 := bat hb1 K.out.1
  have q1 := bat hb1 K.out.2.1
  have q2 := bat hb1 K.out.2.2
  have hb1' := (below1 w (.cells #[.bool s, .slice A n cp, .int .i64 ex] 46)).trans (hb1.mono (by simp))
  have z1 : w.heap.size + 1 ≤ w1.heap.size := by have := hb1.size; simp at this; omega
  have HB1 := Lib.hid hb1'
  have e0 : ((n : Int) == 0) = false := by simp; omega
  clear hb1 hb1'
  go_wp2_with fail
  refine (whole_dyad _ ⟨s, xs, ex⟩ w1 (HD.out.below HB1.out) (show xs.length ≤ 100000 by omega)).mono ?_
  rintro e w2 ⟨g, rfl, hg, hg', hi2, hb2⟩
  have p0 := bat hb2 q0
  have p1 := bat hb2 q1
  have p2 := bat hb2 q2
  have HI2 := Lib.hid hi2
  have HB2 := Lib.hid (HB1.out.trans (hb2.mono HB1.out.size))
  clear hi2 hb2 q0 q1 q2 e0
  go_wp2_with fail
  refine (abs_int g 0 g 0 _ _ w2 HI2.out HI2.out (by rw [HT.out]; have := HML.out; omega)).mono ?_
  rw [HT.out]
  rintro e w3 ⟨rfl, hi3, hu3⟩
  have q0 := hu3.cellOf p0 (fun e => absurd e (by omega))
  have q1 := hu3.cellOf p1 (fun e => absurd e (by omega))
  have q2 := hu3.cellOf p2 (fun e => absurd e (by omega))
  have HI3 := Lib.hid hi3
  have HB3 := Lib.hid (HB2.out.trans (hu3.below (by omega) HB2.out.size))
  have hg3 := hi3.lt
  clear hi3 hu3 p0 p1 p2
  go_wp2_with fail
  refine (top_dyad _ ⟨s, xs, ex⟩ w3 (HD.out.below HB3.out) HR.out).mono ?_
  rw [← HTT.out]
  rintro e w4 ⟨rfl, hb4⟩
  have p0 := bat hb4 q0
  have p1 := bat hb4 q1
  have p2 := bat hb4 q2
  have HI4 := Lib.hid (HI3.out.below hb4)
  have HB4 := Lib.hid (HB3.out.trans (hb4.mono HB3.out.size))
  have hg4 := HI4.out.lt
  have hcut : -1074 - ex = -(c : Int) := by omega
  have c0 : decide (-(c : Int) ≤ 0) = true := by simp
  have hS : M * 2 ^ c < 9007199254740992 := by
    have h1 := blen_lt (N := M)
    rw [← HTB.out] at h1
    have h2 := Nat.pow_le_pow_right (show 0 < 2 by decide) (show T + c ≤ 53 by omega)
    rw [Nat.pow_add] at h2
    exact Nat.lt_of_lt_of_le (Nat.mul_lt_mul_of_pos_right h1 (Nat.pow_pos (by decide))) h2
  have HS := Lib.hid hS
  have lc : c ≤ 53 := by omega
  clear hb4 q0 q1 q2 hS hc
  go_wp2_with fail
  refine (lsh_int w4.heap.size 0 g 0 0 (M : Int) c _ (new_intAt w4) (HI4.out.below (below1 ..)) (by rw [Int.natAbs_natCast]; have := HML.out; omega) (by omega)).mono ?_
  rintro e w5 ⟨rfl, hi5, hu5⟩
  have eS : (M : Int) * 2 ^ c = ((M * 2 ^ c : Nat) : Int) := by rw [Int.natCast_mul, Int.natCast_pow]; rfl
  rw [eS] at hi5
  obtain ⟨q, hq⟩ : ∃ q, q = M * 2 ^ c := ⟨_, rfl⟩
  rw [← hq] at hi5
  have HQ := Lib.hid hq
  have hq53 : q < 9007199254740992 := by rw [hq]; exact HS.out
  have hb5 := newB hu5
  have HI5 := Lib.hid hi5
  have q0 := bat hb5 p0
  have q1 := bat hb5 p1
  have q2 := bat hb5 p2
  have HB5 := Lib.hid (HB4.out.trans (hb5.mono HB4.out.size))
  clear hi5 hu5 hb5 eS hq p0 p1 p2
  go_wp2_with fail
  refine (uint64_int w4.heap.size 0 (q : Int) w5 HI5.out).mono ?_
  rintro e w' ⟨rfl, rfl⟩
  rw [Int.natAbs_natCast, Nat.mod_eq_of_lt (show q < 18446744073709551616 by omega)]
  have HF' : Hid (FloatC s q (-1074) md x) := Lib.hid (by rw [HQ.out, HM.out]; exact HF.out)
  go_wp2_with fail
  refine (HF'.out w5 (HW.out.below HB5.out)).mono ?_
  rintro e w11 ⟨rfl, hb11⟩
  have HB11 := Lib.hid (HB5.out.trans (hb11.mono HB5.out.size))
  clear hb11
  go_wp2_with fail
  go_ret2
  exact ⟨rfl, HB11.out⟩

set_option maxRecDepth 100000 in
set_option maxHeartbeats 4000000 in
theorem round_fit_tie (v : Value) (d : DV) (md : Int) (x c : Nat) (w : World) (hd : DAt w v d) (hr : RightD d) (hw : Laid w) (hL2 : d.exp + (blen (ln d.mag) : Int) - 53 = -1074) (hc : d.exp - (-1074) = (c : Int)) 
    (hf : FloatC d.neg (ln d.mag * 2 ^ c) (-1074) md x) :
    Calls Tryz.prog 55 #[v, .int .i8 md] w fun e w' => e = .returned (.tuple #[.float .f64 x, .int .i64 0]) ∧ Below w.heap.size w w' := by
  obtain ⟨s, xs, ex⟩ := d
  have HD := Lib.hid hd
  have HR := Lib.hid hr
  have HW := Lib.hid hw
  have HF := Lib.hid hf
  obtain ⟨A, n, cp, rfl, hx, hls⟩ := hd
  simp only at hx hls hL2 hc
  have en := hx.num
  obtain ⟨⟨l1, l2⟩, _, _, l3, l4⟩ := hr
  simp only at l1 l2 l3 l4
  have HE := Lib.hid en
  have HLS := Lib.hid hls
  have hn : 0 < n ∧ n ≤ 256 := by omega
  have k0 := new_cell w #[.bool s, .slice A n cp, .int .i64 ex] 46 0 _ rfl
  have k1 := new_cell w #[.bool s, .slice A n cp, .int .i64 ex] 46 1 _ rfl
  have k2 := new_cell w #[.bool s, .slice A n cp, .int .i64 ex] 46 2 _ rfl
  have K := Lib.hid (And.intro k0 (And.intro k1 k2))
  have hbl : blen (ln xs) ≤ 64 * xs.length := blen_le_of_lt (by rw [← W64_pow]; exact ln_lt hls)
  obtain ⟨M, hM⟩ : ∃ M, M = ln xs := ⟨_, rfl⟩
  have hMl : (dig M).length ≤ 600 := by rw [hM]; exact Nat.le_trans (dig_ln_len hls) (by omega)
  have HML := Lib.hid hMl
  have HT : Hid ((DV.top ⟨s, xs, ex⟩).natAbs = M) := Lib.hid (by rw [hM]; simp only [DV.top]; split <;> omega)
  obtain ⟨T, hT⟩ : ∃ T : Nat, T = blen (ln xs) := ⟨_, rfl⟩
  rw [← hT] at hL2 hbl
  have HTB : Hid (T = blen M) := Lib.hid (by rw [hT, hM])
  have HM := Lib.hid hM
  have HTT := Lib.hid hT
  clear hx hls en k0 k1 k2 hw hf hM hMl hT
  go_enter Tryz.func55, Tryz.ntmps55
  go_wp2_with fail
  refine (right_dyad _ ⟨s, xs, ex⟩ _ (HD.out.below (below1 ..)) HR.out).mono ?_
  rintro e w1 ⟨rfl, hb1⟩
  have q0 := bat hb1 K.out.1
  have q1 := bat hb1 K.out.2.1
  have q2 := bat hb1 K.out.2.2
  have hb1' := (below1 w (.cells #[.bool s, .slice A n cp, .int .i64 ex] 46)).trans (hb1.mono (by simp))
  have z1 : w.heap.size + 1 ≤ w1.heap.size := by have := hb1.size; simp at this; omega
  have HB1 := Lib.hid hb1'
  have e0 : ((n : Int) == 0) = false := by simp; omega
  clear hb1 hb1'
  go_wp2_with fail
  refine (whole_dyad _ ⟨s, xs, ex⟩ w1 (HD.out.below HB1.out) (show xs.length ≤ 100000 by omega)).mono ?_
  rintro e w2 ⟨g, rfl, hg, hg', hi2, hb2⟩
  have p0 := bat hb2 q0
  have p1 := bat hb2 q1
  have p2 := bat hb2 q2
  have HI2 := Lib.hid hi2
  have HB2 := Lib.hid (HB1.out.trans (hb2.mono HB1.out.size))
  clear hi2 hb2 q0 q1 q2 e0
  go_wp2_with fail
  refine (abs_int g 0 g 0 _ _ w2 HI2.out HI2.out (by rw [HT.out]; have := HML.out; omega)).mono ?_
  rw [HT.out]
  rintro e w3 ⟨rfl, hi3, hu3⟩
  have q0 := hu3.cellOf p0 (fun e => absurd e (by omega))
  have q1 := hu3.cellOf p1 (fun e => absurd e (by omega))
  have q2 := hu3.cellOf p2 (fun e => absurd e (by omega))
  have HI3 := Lib.hid hi3
  have HB3 := Lib.hid (HB2.out.trans (hu3.below (by omega) HB2.out.size))
  have hg3 := hi3.lt
  clear hi3 hu3 p0 p1 p2
  go_wp2_with fail
  refine (top_dyad _ ⟨s, xs, ex⟩ w3 (HD.out.below HB3.out) HR.out).mono ?_
  rw [← HTT.out, show ex + (T : Int) = -1021 by omega]
  rintro e w4 ⟨rfl, hb4⟩
  have p0 := bat hb4 q0
  have p1 := bat hb4 q1
  have p2 := bat hb4 q2
  have HI4 := Lib.hid (HI3.out.below hb4)
  have HB4 := Lib.hid (HB3.out.trans (hb4.mono HB3.out.size))
  have hg4 := HI4.out.lt
  have hcut : -1074 - ex = -(c : Int) := by omega
  have c0 : decide (-(c : Int) ≤ 0) = true := by simp
  have hS : M * 2 ^ c < 9007199254740992 := by
    have h1 := blen_lt (N := M)
    rw [← HTB.out] at h1
    have h2 := Nat.pow_le_pow_right (show 0 < 2 by decide) (show T + c ≤ 53 by omega)
    rw [Nat.pow_add] at h2
    exact Nat.lt_of_lt_of_le (Nat.mul_lt_mul_of_pos_right h1 (Nat.pow_pos (by decide))) h2
  have HS := Lib.hid hS
  have lc : c ≤ 53 := by omega
  clear hb4 q0 q1 q2 hS hc
  go_wp2_with fail
  refine (lsh_int w4.heap.size 0 g 0 0 (M : Int) c _ (new_intAt w4) (HI4.out.below (below1 ..)) (by rw [Int.natAbs_natCast]; have := HML.out; omega) (by omega)).mono ?_
  rintro e w5 ⟨rfl, hi5, hu5⟩
  have eS : (M : Int) * 2 ^ c = ((M * 2 ^ c : Nat) : Int) := by rw [Int.natCast_mul, Int.natCast_pow]; rfl
  rw [eS] at hi5
  obtain ⟨q, hq⟩ : ∃ q, q = M * 2 ^ c := ⟨_, rfl⟩
  rw [← hq] at hi5
  have HQ := Lib.hid hq
  have hq53 : q < 9007199254740992 := by rw [hq]; exact HS.out
  have hb5 := newB hu5
  have HI5 := Lib.hid hi5
  have q0 := bat hb5 p0
  have q1 := bat hb5 p1
  have q2 := bat hb5 p2
  have HB5 := Lib.hid (HB4.out.trans (hb5.mono HB4.out.size))
  clear hi5 hu5 hb5 eS hq p0 p1 p2
  go_wp2_with fail
  refine (uint64_int w4.heap.size 0 (q : Int) w5 HI5.out).mono ?_
  rintro e w' ⟨rfl, rfl⟩
  rw [Int.natAbs_natCast, Nat.mod_eq_of_lt (show q < 18446744073709551616 by omega)]
  have HF' : Hid (FloatC s q (-1074) md x) := Lib.hid (by rw [HQ.out, HM.out]; exact HF.out)
  go_wp2_with fail
  refine (HF'.out w5 (HW.out.below HB5.out)).mono ?_
  rintro e w11 ⟨rfl, hb11⟩
  have HB11 := Lib.hid (HB5.out.trans (hb11.mono HB5.out.size))
  clear hb11
  go_wp2_with fail
  go_ret2
  exact ⟨rfl, HB11.out⟩

set_option maxRecDepth 100000 in
set_option maxHeartbeats 4000000 in
theorem right_zero (v : Value) (w : World) (hd : DAt w v ⟨false, [], 0⟩) :
    Calls Tryz.prog 87 #[v] w fun e w' => e = .returned (.bool true) ∧ Below w.heap.size w w' := by
  obtain ⟨A, n, c, rfl, hx, hls⟩ := hd
  obtain rfl : n = 0 := hx.num.symm
  clear hx hls
  go_enter Tryz.func87, Tryz.ntmps87
  go_wp2_with fail
  go_ret
  exact ⟨rfl, below1 ..⟩
set_option maxRecDepth 100000 in
set_option maxHeartbeats 4000000 in
theorem round_zero (v : Value) (md : Int) (w : World) (hd : DAt w v ⟨false, [], 0⟩) :
    Calls Tryz.prog 55 #[v, .int .i8 md] w fun e w' => e = .returned (.tuple #[.float .f64 0, .int .i64 0]) ∧ Below w.heap.size w w' := by
  have HD := Lib.hid hd
  obtain ⟨A, n, c, rfl, hx, hls⟩ := hd
  obtain rfl : n = 0 := hx.num.symm
  have k1 := new_cell w #[.bool false, .slice A 0 c, .int .i64 0] 46 1 _ rfl
  have K := Lib.hid k1
  clear hx hls k1
  go_enter Tryz.func55, Tryz.ntmps55
  go_wp2_with fail
  refine (right_zero _ _ (HD.out.below (below1 ..))).mono ?_
  rintro e w1 ⟨rfl, hb1⟩
  have q1 := bat hb1 K.out
  have HB1 := Lib.hid ((below1 w (.cells #[.bool false, .slice A 0 c, .int .i64 0] 46)).trans (hb1.mono (by simp)))
  clear hb1
  go_wp2_with fail
  go_ret2
  exact ⟨rfl, HB1.out⟩

end Go.Proofs.YtjokpfgncmdomaaGreatDoor
