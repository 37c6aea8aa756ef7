import Derived.Test.YtjokpfgncmdomaaGreatDoorX20
set_option linter.unusedSimpArgs false
set_option linter.unusedVariables false
/- girderref02: short, times: the walks -/
namespace Go.Proofs.YtjokpfgncmdomaaGreatDoor
open Go.RowKit Go.Sort

theorem getD_take {xs : List Nat} {k : Nat} : nv (xs.take (k + 1)) = nv (xs.take k) + W32 ^ k * xs.getD k 0 := by
  by_cases h : k < xs.length
  · have e := List.take_succ_eq_append_getElem h
    rw [e, nv_append, List.length_take, Nat.min_eq_left (Nat.le_of_lt h)]
    simp [nv, List.getD, List.getElem?_eq_getElem h]
  · rw [List.take_of_length_le (by omega), List.take_of_length_le (by omega)]
    simp [List.getD, List.getElem?_eq_none (show xs.length ≤ k by omega)]
theorem getD_wds {xs : List Nat} (h : Wds xs) (k : Nat) : xs.getD k 0 < 4294967296 := by
  simp only [List.getD]
  cases e : xs[k]? with
  | none => decide
  | some x => exact h.get e
theorem made_u64 (n : Nat) : (madeCells (Value.int .u64 0).cells (n * 1)).toList = (List.replicate n 0).flatMap Lc := made_flat Lc 1 Lc.clen (by omega) 0 n
theorem own_lc {w : World} {base e g n cap : Nat} {ys : List Nat} (h : w.ownsRow base e 1 (.slice (some ⟨g, 0, none⟩) n cap) n (ys.flatMap Lc)) {i o : Nat} (ho : ys[i]? = some o) : w.cell? ⟨g, i, none⟩ = some (.int .u64 (o : Int)) := by
  have h1 := own_elem Lc.clen h ho 0 _ rfl
  rw [Nat.mul_one, Nat.add_zero] at h1
  exact h1

theorem own_set_lc {w : World} {base e g n cap : Nat} {ys : List Nat} (h : w.ownsRow base e 1 (.slice (some ⟨g, 0, none⟩) n cap) n (ys.flatMap Lc)) {i : Nat} (hi : i < ys.length) (s : Nat) :
    (w.setCell ⟨g, i, none⟩ (.int .u64 (s : Int))).ownsRow base e 1 (.slice (some ⟨g, 0, none⟩) n cap) n ((ys.set i s).flatMap Lc) ∧ w.grownBy (w.setCell ⟨g, i, none⟩ (.int .u64 (s : Int))) (some g) := by
  have h1 := h.stored i (.int .u64 (s : Int))
  have h2 := putAll_flat (f := Lc) (size := 1) Lc.clen s ys i hi
  rw [Nat.mul_one] at h2
  rw [← h2]
  exact h1

set_option maxRecDepth 100000 in
set_option maxHeartbeats 4000000 in
theorem short_any (A : Option Addr) (n c d : Nat) (a : List Nat) (w : World) (hx : RdE Lc 1 w (fun b => b < w.heap.size) A n a) (ha : Wds a) (hn : n ≤ 100000000000) (hd0 : 0 < d) (hd : d ≤ 4294967296) :
    Calls Tryz.prog 154 #[.slice A n c, .int .u64 (d : Int)] w fun e w' => ∃ v', e = .returned (.tuple #[v', .int .u64 ((nv a % d : Nat) : Int)]) ∧ LAt w' v' (dig (nv a / d)) ∧ Below w.heap.size w w' := by
  obtain ⟨i0, hi0, hz0, hz1, hz2⟩ := info_parts' info_u64
  have HX := Lib.hid hx
  have HA := Lib.hid ha
  have hdi : (0 : Int) < (d : Int) := by omega
  have hdz : ((d : Int) == 0) = false := by simp; omega
  clear hx ha
  go_enter Tryz.func154, Tryz.ntmps154
  go_wp2_with (at_make; go_must (refine wpList_make_full _ rfl _ _ _ rfl w.heap.size 58 i0 _ 1 Tryz.underlying22 hi0 hz0 hz1 .i64 .i64 _ _ n rfl rfl (by omega) (by omega) (by rw [hz2]; omega) (by simp only [maxLen]; omega) (Nat.le_refl _) ?_); intro w1 hown1 hg1)
  have hinv := hown1
  rw [made_u64] at hinv
  have HI := Lib.hid hinv
  have HB1 := Lib.hid (below_of_grown hg1 (fun g hg => by cases hg))
  clear hown1 hg1 hinv
  go_loopw [7, 8] (fun rv iv wr => ∃ (t r : Nat) (xs : List Nat), t ≤ n ∧ rv = .int .u64 r ∧ (∃ z : Int, iv = .int .i64 z ∧ z = (t : Int) - 1) ∧ r < d ∧ xs.length = n ∧ Wds xs ∧ nv a = nv (a.take t) + W32 ^ t * r + d * nv xs ∧ ZeroTo xs t ∧ wr.ownsRow w.heap.size 58 1 (.slice (some ⟨w.heap.size, 0, none⟩) n n) n (xs.flatMap Lc) ∧ Below w.heap.size w wr) (fun _ i _ => (intOf i + 1).toNat)
  case atStart => exact ⟨n, 0, List.replicate n 0, Nat.le_refl _, rfl, ⟨_, rfl, rfl⟩, hd0, by simp, fun x hx => by rw [(List.mem_replicate.1 hx).2]; decide, by rw [List.take_of_length_le (by rw [HX.out.num]; exact Nat.le_refl _), (zero_rep n 0).val]; simp [nv], zeroTo_rep _ _, HI.out, HB1.out⟩
  case round =>
    obtain ⟨t, r, xs, ht, rfl, ⟨z, rfl, hz⟩, hr, hxl, hxw, hsum, hzt, hown, hbw⟩ := hrel
    have HO := Lib.hid hown
    have HBW := Lib.hid hbw
    have HXW := Lib.hid hxw
    have HSUM := Lib.hid hsum
    have HZT := Lib.hid hzt
    have hl := (RdE.of_own Lc.clen (by omega) hown).imp (S' := fun b => b < wr.heap.size) (fun b h => h.2.1)
    have HLR := Lib.hid hl
    clear hown hbw hxw hsum hzt hl
    by_cases h0 : t = 0
    · subst h0
      obtain rfl : z = -1 := by omega
      have hfin := HSUM.out
      have e : nv (a.take 0) = 0 := by simp [nv]
      rw [e, Nat.pow_zero, Nat.one_mul, Nat.zero_add] at hfin
      have hq : nv a / d = nv xs := by rw [hfin, Nat.add_mul_div_left _ _ hd0, Nat.div_eq_of_lt hr, Nat.zero_add]
      have hm : nv a % d = r := by rw [hfin, Nat.add_mul_mod_self_left, Nat.mod_eq_of_lt hr]
      have HQ := Lib.hid hq
      have HM := Lib.hid hm
      clear hfin e hq hm hz
      go_wp2_with fail
      refine (low_any _ n n xs _ HLR.out (wds_lds HXW.out) (by omega) (Nat.le_refl _)).mono ?_
      rintro e w9 ⟨k, rfl, hk, htr, rfl⟩
      have htk := trim_dig (by omega) HXW.out htr
      have hkl : k = (dig (nv xs)).length := by rw [← htk, List.length_take]; omega
      have hr9 := HLR.out.take Lc.clen hk
      rw [htk] at hr9
      have HR9 := Lib.hid hr9
      have HKL := Lib.hid hkl
      clear hr9 htk htr hkl
      go_wp2_with fail
      go_ret2
      rw [HQ.out, HM.out]
      refine ⟨_, rfl, ⟨some ⟨w.heap.size, 0, none⟩, n, ?_, ?_, ?_⟩, HBW.out⟩
      · rw [← HKL.out]; rfl
      · rw [← HKL.out]; exact hk
      · rw [← HKL.out]; exact HR9.out
    · obtain ⟨j, rfl⟩ : ∃ j, t = j + 1 := ⟨t - 1, by omega⟩
      obtain rfl : z = (j : Int) := by omega
      clear hz
      obtain ⟨x, hx⟩ := get_some HX.out.num (show j < n by omega)
      obtain ⟨b1, o1, rfl, hSb1, hc⟩ := HX.out.elem Lc.clen hx (by omega)
      have q1 : wr.cell? ⟨b1, o1 + j, none⟩ = some (.int .u64 (x : Int)) := by have h := (HBW.out.cell (p := ⟨b1, _, none⟩) hSb1).trans (hc 0 _ rfl); rw [Nat.mul_one, Nat.add_zero] at h; exact h
      have hxlt : x < 4294967296 := HA.out.get hx
      obtain ⟨o, ho⟩ := get_some hxl (show j < n by omega)
      obtain rfl : o = 0 := HZT.out _ _ (by omega) ho
      have q0 := own_lc HO.out ho
      have hf := HO.out.frozenAt j
      have HXX := Lib.hid hx
      have HOO := Lib.hid ho
      obtain ⟨s, hs⟩ : ∃ s : Nat, s = r * 4294967296 + x := ⟨_, rfl⟩
      have hse : (r : Int) * 4294967296 + (x : Int) = (s : Int) := by omega
      have hr4 : r < 4294967296 := by omega
      have hplt : s < d * 4294967296 := by
        have := Nat.mul_le_mul_right 4294967296 (show r + 1 ≤ d by omega)
        rw [Nat.add_mul, Nat.one_mul] at this
        omega
      have hqlt : s / d < 4294967296 := Nat.div_lt_of_lt_mul hplt
      have hsl : s < 18446744073709551616 := by omega
      have HSS := Lib.hid hs
      have HQL := Lib.hid hqlt
      clear hx hc ho hs hplt hqlt
      go_wp2_with fail
      have ho1 := own_set_lc HO.out (i := j) (by omega) (s / d)
      have hdm : (s : Int) / (d : Int) = ((s / d : Nat) : Int) := (Int.natCast_ediv s d).symm
      have hmm : (s : Int) % (d : Int) = ((s % d : Nat) : Int) := (Int.natCast_emod s d).symm
      have hwr : IntKind.u64.wrap ((s / d : Nat) : Int) = ((s / d : Nat) : Int) := by
        rw [IntKind.wrap_u64]
        have h : s / d < 4294967296 := HQL.out
        generalize s / d = z at *
        omega
      rw [hdm, hmm]
      (try rw [hwr])
      refine ⟨⟨j, s % d, xs.set j (s / d), by omega, rfl, ⟨_, rfl, rfl⟩, Nat.mod_lt _ hd0, by simp [hxl], wds_set HXW.out HQL.out, ?_, (HZT.out.mono (by omega)).set (Nat.le_refl _), ho1.1, HBW.out.grown ho1.2 (Nat.le_of_lt (HO.out.lt w.heap.size rfl).2) (fun g hg => by injection hg with hg; omega)⟩, by simp [intOf]⟩
      have h1 := HSUM.out
      rw [nv_take_succ HXX.out, Nat.pow_succ] at h1
      have h2 := nv_set (v := s / d) HOO.out
      rw [Nat.mul_zero, Nat.add_zero] at h2
      rw [h2]
      exact small_step h1 (by rw [← HSS.out]; exact (Nat.div_add_mod _ _).symm)

theorem times_step {W R q P x b s Y : Nat} (hI : Y + P * q = b * R) (hs : s = x * b + q) : Y + P * (s % W) + P * W * (s / W) = b * (R + P * x) := by
  have h := Nat.mod_add_div s W
  have e : P * (s % W) + P * W * (s / W) = P * s := by rw [Nat.mul_assoc, ← Nat.mul_add, h]
  rw [Nat.add_assoc, e, hs, Nat.mul_add, Nat.mul_add, ← hI]
  have : P * (x * b) = b * (P * x) := by rw [Nat.mul_comm x b, Nat.mul_left_comm]
  omega
set_option maxRecDepth 100000 in
set_option maxHeartbeats 4000000 in
theorem times_any (A : Option Addr) (n c b p : Nat) (x : List Nat) (S : Nat → Prop) (w : World) (hx : RdE Lc 1 w S A n x) (hS : ∀ b, S b → b < w.heap.size) (hw : Wds x) (hn : n ≤ 100000000000) (hb : b < 4294967296) (hp : p ≤ 100000000000) (hnp : n ≤ p) (hf : b * nv x < W32 ^ p) :
    Calls Tryz.prog 173 #[.slice A n c, .int .u64 (b : Int), .int .i64 (p : Int)] w fun e w' => ∃ xs, e = .returned (.slice (some ⟨w.heap.size, 0, none⟩) p p) ∧ w'.ownsRow w.heap.size 58 1 (.slice (some ⟨w.heap.size, 0, none⟩) p p) p (xs.flatMap Lc) ∧ xs.length = p ∧ Wds xs ∧ nv xs = b * nv x ∧ Below w.heap.size w w' := by
  obtain ⟨i0, hi0, hz0, hz1, hz2⟩ := info_parts' info_u64
  have HX := Lib.hid hx
  have HA := Lib.hid hw
  have HF := Lib.hid hf
  have HS := Lib.hid hS
  clear hx hw hf hS
  go_enter Tryz.func173, Tryz.ntmps173
  go_wp2_with (at_make; go_must (refine wpList_make_full _ rfl _ _ _ rfl w.heap.size 58 i0 _ 1 Tryz.underlying22 hi0 hz0 hz1 .i64 .i64 _ _ p rfl rfl (by omega) (by omega) (by rw [hz2]; omega) (by simp only [maxLen]; omega) (Nat.le_refl _) ?_); intro w1 hown1 hg1)
  have hinv := hown1
  rw [made_u64] at hinv
  have HI := Lib.hid hinv
  have HB1 := Lib.hid (below_of_grown hg1 (fun g hg => by cases hg))
  clear hown1 hg1 hinv
  go_loopw [8, 9] (fun cv iv wr => ∃ (k q : Nat) (xs : List Nat), k ≤ p ∧ cv = .int .u64 q ∧ iv = .int .i64 k ∧ q < 4294967296 ∧ xs.length = p ∧ Wds xs ∧ nv xs + W32 ^ k * q = b * nv (x.take k) ∧ ZeroFrom xs k ∧ wr.ownsRow w.heap.size 58 1 (.slice (some ⟨w.heap.size, 0, none⟩) p p) p (xs.flatMap Lc) ∧ Below w.heap.size w wr) (fun _ i _ => p - (intOf i).toNat)
  case atStart => exact ⟨0, 0, List.replicate p 0, Nat.zero_le _, rfl, rfl, by decide, by simp, fun x hx => by rw [(List.mem_replicate.1 hx).2]; decide, by rw [(zero_rep p 0).val]; simp [nv], zero_rep _ _, HI.out, HB1.out⟩
  case round =>
    obtain ⟨k, q, xs, hk, rfl, rfl, hq, hxl, hxw, hsum, hzf, hown, hbw⟩ := hrel
    have HO := Lib.hid hown
    have HBW := Lib.hid hbw
    have HXW := Lib.hid hxw
    have HSUM := Lib.hid hsum
    have HZF := Lib.hid hzf
    clear hown hbw hxw hsum hzf
    by_cases hlt : k < p
    · obtain ⟨o, ho⟩ := get_some hxl hlt
      obtain rfl : o = 0 := HZF.out _ _ (Nat.le_refl _) ho
      have q0 := own_lc HO.out ho
      have hf := HO.out.frozenAt k
      have HOO := Lib.hid ho
      have hr := Lib.hid (HX.out.keep (Keeps.below HBW.out HS.out))
      obtain ⟨d, hd⟩ : ∃ d, d = x.getD k 0 := ⟨_, rfl⟩
      have hdl : d < 4294967296 := by rw [hd]; exact getD_wds HA.out k
      have HD := Lib.hid hd
      obtain ⟨s, hs⟩ : ∃ s : Nat, s = d * b + q := ⟨_, rfl⟩
      have hse : (d : Int) * (b : Int) + (q : Int) = (s : Int) := by rw [hs]; simp
      have hmul : d * b ≤ 4294967295 * 4294967295 := Nat.mul_le_mul (by omega) (by omega)
      have hsl : s < 18446744073709551616 := by omega
      have hmi : (d : Int) * (b : Int) = ((d * b : Nat) : Int) := by simp
      obtain ⟨m, hm⟩ : ∃ m, m = d * b := ⟨_, rfl⟩
      rw [← hm] at hmi hmul hs
      have HSS := Lib.hid hs
      have HM := Lib.hid hm
      have hse2 : (m : Int) + (q : Int) = (s : Int) := by omega
      clear ho hd hs hm
      go_wp2_with fail
      refine (digit_any A n c x k _ wr hr.out (by omega) (by omega)).mono ?_
      rintro e w' ⟨rfl, rfl⟩
      rw [← HD.out]
      go_wp2_with fail
      have ho1 := own_set_lc HO.out (i := k) (by omega) (s % 4294967296)
      have hmod : (s : Int) % 4294967296 = ((s % 4294967296 : Nat) : Int) := by omega
      have hdiv : (s : Int) / 4294967296 = ((s / 4294967296 : Nat) : Int) := by omega
      rw [hmod, hdiv]
      refine ⟨⟨k + 1, s / 4294967296, xs.set k (s % 4294967296), by omega, rfl, by go_num, by omega, by simp [hxl], wds_set HXW.out (Nat.mod_lt _ (by decide)), ?_, HZF.out.set_at, ho1.1, HBW.out.grown ho1.2 (Nat.le_of_lt (HO.out.lt w.heap.size rfl).2) (fun g hg => by injection hg with hg; omega)⟩, by simp [intOf]; omega⟩
      have h1 := nv_set (v := s % 4294967296) HOO.out
      rw [Nat.mul_zero, Nat.add_zero] at h1
      rw [h1, getD_take, Nat.pow_succ, ← HD.out]
      exact times_step HSUM.out (by rw [HSS.out, HM.out])
    · obtain rfl : k = p := by omega
      have h := HSUM.out
      rw [List.take_of_length_le (by rw [HX.out.num]; exact hnp)] at h
      have hq0 : q = 0 := by
        by_cases h0 : q = 0
        · exact h0
        · have h1 : W32 ^ k * 1 ≤ W32 ^ k * q := Nat.mul_le_mul_left _ (by omega)
          have := HF.out
          omega
      subst hq0
      have HV := Lib.hid h
      clear h
      go_wp2_with fail
      go_ret
      exact ⟨xs, rfl, HO.out, hxl, HXW.out, by have h := HV.out; rw [Nat.mul_zero, Nat.add_zero] at h; exact h, HBW.out⟩

end Go.Proofs.YtjokpfgncmdomaaGreatDoor

/- girderref02: NatAdd: the walk -/
namespace Go.Proofs.YtjokpfgncmdomaaGreatDoor
open Go.RowKit Go.Sort

set_option maxRecDepth 100000 in
set_option maxHeartbeats 8000000 in
theorem natAdd_any (va vb : Value) (a b : List Nat) (w : World) (ha : LAt w va a) (hb : LAt w vb b) (la : Lds a) (lb_ : Lds b) (na : a.length ≤ 10000000000) (nb : b.length ≤ 10000000000) :
    Calls Tryz.prog 119 #[va, vb] w fun e w' => ∃ v', e = .returned v' ∧ LAt w' v' (lim (ln a + ln b)) ∧ Below w.heap.size w w' := by
  obtain ⟨i0, hi0, hz0, hz1, hz2⟩ := info_parts' info_u64
  have HA := Lib.hid ha
  have HB := Lib.hid hb
  have LA := Lib.hid la
  have LB := Lib.hid lb_
  clear ha hb la lb_
  go_enter Tryz.func119, Tryz.ntmps119
  go_wp2_with fail
  refine (halves_any va a w HA.out LA.out (by omega)).mono ?_
  rintro e w1 ⟨v1, rfl, hv1, hb1⟩
  have HV1 := Lib.hid hv1
  have HBb := Lib.hid (HB.out.below hb1)
  have HW1 := Lib.hid hb1
  clear hv1 hb1
  go_wp2_with fail
  refine (halves_any vb b w1 HBb.out LB.out (by omega)).mono ?_
  rintro e w2 ⟨v2, rfl, hv2, hb2⟩
  have hx1 := HV1.out.below hb2
  have HW2 := Lib.hid (HW1.out.trans (hb2.mono HW1.out.size))
  obtain ⟨A1, c1, rfl, hc1, hx1⟩ := hx1
  obtain ⟨A2, c2, rfl, hc2, hx2⟩ := hv2
  obtain ⟨n1, hn1⟩ : ∃ n, n = (dig (ln a)).length := ⟨_, rfl⟩
  obtain ⟨n2, hn2⟩ : ∃ n, n = (dig (ln b)).length := ⟨_, rfl⟩
  rw [← hn1] at hx1 hc1
  rw [← hn2] at hx2 hc2
  have hl1 : n1 ≤ 20000000000 := by rw [hn1]; exact Nat.le_trans (dig_len2 LA.out) (by omega)
  have hl2 : n2 ≤ 20000000000 := by rw [hn2]; exact Nat.le_trans (dig_len2 LB.out) (by omega)
  have HX1 := Lib.hid hx1
  have HX2 := Lib.hid hx2
  have HN1 := Lib.hid hn1
  have HN2 := Lib.hid hn2
  clear hb2 hx1 hx2 HBb
  rw [← hn1, ← hn2]
  clear hn1 hn2
  go_wp2_with fail
  go_loopw [7, 8, 9] (fun ov cv iv wr => ∃ (k q : Nat) (zs : List Nat), k ≤ max n1 n2 + 1 ∧ (k = max n1 n2 + 1 → q = 0) ∧ cv = .int .u64 q ∧ iv = .int .i64 k ∧ q < 2 ∧ zs.length = k ∧ Wds zs ∧ nv zs + W32 ^ k * q = nv ((dig (ln a)).take k) + nv ((dig (ln b)).take k) ∧ wr.ownsRow w2.heap.size 58 1 ov k (zs.flatMap Lc) ∧ Below w2.heap.size w2 wr) (fun _ _ iv _ => max n1 n2 + 1 - (intOf iv).toNat)
  case atStart => exact ⟨0, 0, [], Nat.zero_le _, fun _ => rfl, rfl, rfl, by decide, rfl, fun x hx => by simp at hx, by simp [nv], World.ownsRow_nil .., Below.refl _ _⟩
  case round =>
    obtain ⟨k, q, zs, hk, hk1, rfl, rfl, hq, hzl, hzw, hsum, hown, hbw⟩ := hrel
    have HO := Lib.hid hown
    have HBW := Lib.hid hbw
    have HS := Lib.hid hsum
    have HZ := Lib.hid hzw
    have HZL := Lib.hid hzl
    have HK1 := Lib.hid hk1
    obtain ⟨A3, c3, rfl, hc3, _⟩ := own_slice hown
    clear hown hbw hsum hzw hzl hk1
    have step : k < max n1 n2 + 1 → Hid (∀ (s : Nat), s = (dig (ln a)).getD k 0 + (dig (ln b)).getD k 0 + q → nv (zs ++ [s % 4294967296]) + W32 ^ (k + 1) * (s / 4294967296) = nv ((dig (ln a)).take (k + 1)) + nv ((dig (ln b)).take (k + 1))) := fun _ => Lib.hid (fun s hs => by
      rw [getD_take, getD_take, nv_append, HZL.out]
      have h := HS.out
      have hm : s % 4294967296 + 4294967296 * (s / 4294967296) = s := Nat.mod_add_div s 4294967296
      have e1 : W32 ^ (k + 1) * (s / 4294967296) = W32 ^ k * (4294967296 * (s / 4294967296)) := by rw [Nat.pow_succ, Nat.mul_assoc]
      have e2 : nv [s % 4294967296] = s % 4294967296 := by simp [nv]
      rw [e1, e2]
      have e3 : W32 ^ k * (s % 4294967296) + W32 ^ k * (4294967296 * (s / 4294967296)) = W32 ^ k * ((dig (ln a)).getD k 0) + W32 ^ k * ((dig (ln b)).getD k 0) + W32 ^ k * q := by
        rw [← Nat.mul_add, hm, hs, Nat.mul_add, Nat.mul_add]
      omega)
    by_cases hgo : k < max n1 n2 ∨ 0 < q
    · have hkm : k < max n1 n2 + 1 := by
        rcases hgo with h | h
        · omega
        · rcases Nat.lt_or_eq_of_le hk with h1 | h1
          · exact h1
          · have := HK1.out h1; omega
      obtain ⟨d1, hd1⟩ : ∃ d, d = (dig (ln a)).getD k 0 := ⟨_, rfl⟩
      obtain ⟨d2, hd2⟩ : ∃ d, d = (dig (ln b)).getD k 0 := ⟨_, rfl⟩
      have hd1l : d1 < 4294967296 := by rw [hd1]; exact getD_wds (dig_wds _) k
      have hd2l : d2 < 4294967296 := by rw [hd2]; exact getD_wds (dig_wds _) k
      have HST := step hkm
      rw [← hd1, ← hd2] at HST
      clear step
      have HD1 := Lib.hid hd1
      have HD2 := Lib.hid hd2
      have HKM := Lib.hid hkm
      have hr1 := HX1.out.keep (Keeps.below HBW.out (fun b hb => hb))
      have hr2 := HX2.out.keep (Keeps.below HBW.out (fun b hb => hb))
      have HR1 := Lib.hid hr1
      have HR2 := Lib.hid hr2
      have hlast : k + 1 = max n1 n2 + 1 → (d1 + d2 + q) / 4294967296 = 0 := fun h => by
        have e1 : d1 = 0 := by rw [hd1]; simp [List.getD, List.getElem?_eq_none (show (dig (ln a)).length ≤ k by rw [← HN1.out]; omega)]
        have e2 : d2 = 0 := by rw [hd2]; simp [List.getD, List.getElem?_eq_none (show (dig (ln b)).length ≤ k by rw [← HN2.out]; omega)]
        omega
      have HLS := Lib.hid hlast
      obtain ⟨s, hs⟩ : ∃ s : Nat, s = d1 + d2 + q := ⟨_, rfl⟩
      have hse : (d1 : Int) + d2 + q = (s : Int) := by omega
      have hsl : s < 8589934592 := by omega
      have hkb : k ≤ 30000000000 := by omega
      have HSS := Lib.hid hs
      clear hr1 hr2 hd1 hd2 hkm hlast hs
      have finish : Hid (∀ (v2 : Value) (w4 : World), w4.ownsRow w2.heap.size 58 1 v2 (k + 1) (zs.flatMap Lc ++ [.int .u64 ((s : Int) % 4294967296)]) → Below w2.heap.size w2 w4 →
          ∃ (k' q' : Nat) (zs' : List Nat), k' ≤ max n1 n2 + 1 ∧ (k' = max n1 n2 + 1 → q' = 0) ∧ Value.int .u64 ((s : Int) / 4294967296) = .int .u64 q' ∧ Value.int .i64 ((k : Int) + 1) = .int .i64 k' ∧ q' < 2 ∧ zs'.length = k' ∧ Wds zs' ∧ nv zs' + W32 ^ k' * q' = nv ((dig (ln a)).take k') + nv ((dig (ln b)).take k') ∧ w4.ownsRow w2.heap.size 58 1 v2 k' (zs'.flatMap Lc) ∧ Below w2.heap.size w2 w4) := Lib.hid (fun v2 w4 ho hb => by
        refine ⟨k + 1, s / 4294967296, zs ++ [s % 4294967296], by have := HKM.out; omega, fun h => by rw [HSS.out]; exact HLS.out h, by congr 1, by congr 1, by omega, by simp [HZL.out], HZ.out.append (fun y hy => by simp at hy; subst hy; exact Nat.mod_lt _ (by decide)), HST.out s HSS.out, ?_, hb⟩
        rw [List.flatMap_append]
        exact ho)
      by_cases h1 : k < n1
      · have t1 : decide ((k : Int) < n1) = true := by simp; omega
        go_wp2_with fail
        refine (digit_any A1 n1 c1 (dig (ln a)) k _ wr HR1.out (by omega) (by omega)).mono ?_
        rintro e w' ⟨rfl, rfl⟩
        rw [← HD1.out]
        go_wp2_with fail
        refine (digit_any A2 n2 c2 (dig (ln b)) k _ wr HR2.out (by omega) (by omega)).mono ?_
        rintro e w' ⟨rfl, rfl⟩
        rw [← HD2.out]
        have hoA := HO.out.alloc (.cells #[Value.int .u64 ((s : Int) % 4294967296)] 58)
        have HOA := Lib.hid hoA
        clear hoA
        go_wp2_with (at_builtin; go_must (refine wpList_append_rd _ rfl _ _ _ rfl w2.heap.size 58 i0 _ 1 8 Tryz.underlying22 hi0 hz0 hz1 hz2 rfl (by omega) (.slice A3 k c3) k (zs.flatMap Lc) rfl HOA.out (fun _ => True) (some ⟨wr.heap.size, 0, none⟩) 1 1 [.int .u64 ((s : Int) % 4294967296)] rfl (rd_blk (blk_new ..) rfl trivial) (by simp [Value.oneCell']) (by simp only [maxLen]; omega) (by omega) (by have := HBW.out.size; simp; omega) ?_); intro v2 w4 hown4 hg4 hat4)
        have HB4 := Lib.hid ((HBW.out.alloc HBW.out.size (.cells #[Value.int .u64 ((s : Int) % 4294967296)] 58)).grown hg4 (by have := HBW.out.size; simp; omega) (fun g hg => (HOA.out.lt g hg).1))
        have HFI := Lib.hid (finish.out v2 w4 hown4 HB4.out)
        clear hown4 hg4 hat4
        go_wp2_with fail
        exact ⟨HFI.out, by simp [intOf]; have := HKM.out; omega⟩
      · have t1 : decide ((k : Int) < n1) = false := by simp; omega
        by_cases h2 : k < n2
        · have t2 : decide ((k : Int) < n2) = true := by simp; omega
          go_wp2_with fail
          refine (digit_any A1 n1 c1 (dig (ln a)) k _ wr HR1.out (by omega) (by omega)).mono ?_
          rintro e w' ⟨rfl, rfl⟩
          rw [← HD1.out]
          go_wp2_with fail
          refine (digit_any A2 n2 c2 (dig (ln b)) k _ wr HR2.out (by omega) (by omega)).mono ?_
          rintro e w' ⟨rfl, rfl⟩
          rw [← HD2.out]
          have hoA := HO.out.alloc (.cells #[Value.int .u64 ((s : Int) % 4294967296)] 58)
          have HOA := Lib.hid hoA
          clear hoA
          go_wp2_with (at_builtin; go_must (refine wpList_append_rd _ rfl _ _ _ rfl w2.heap.size 58 i0 _ 1 8 Tryz.underlying22 hi0 hz0 hz1 hz2 rfl (by omega) (.slice A3 k c3) k (zs.flatMap Lc) rfl HOA.out (fun _ => True) (some ⟨wr.heap.size, 0, none⟩) 1 1 [.int .u64 ((s : Int) % 4294967296)] rfl (rd_blk (blk_new ..) rfl trivial) (by simp [Value.oneCell']) (by simp only [maxLen]; omega) (by omega) (by have := HBW.out.size; simp; omega) ?_); intro v2 w4 hown4 hg4 hat4)
          have HB4 := Lib.hid ((HBW.out.alloc HBW.out.size (.cells #[Value.int .u64 ((s : Int) % 4294967296)] 58)).grown hg4 (by have := HBW.out.size; simp; omega) (fun g hg => (HOA.out.lt g hg).1))
          have HFI := Lib.hid (finish.out v2 w4 hown4 HB4.out)
          clear hown4 hg4 hat4
          go_wp2_with fail
          exact ⟨HFI.out, by simp [intOf]; have := HKM.out; omega⟩
        · have t2 : decide ((k : Int) < n2) = false := by simp; omega
          have t3 : decide (0 < (q : Int)) = true := by simp; omega
          go_wp2_with fail
          refine (digit_any A1 n1 c1 (dig (ln a)) k _ wr HR1.out (by omega) (by omega)).mono ?_
          rintro e w' ⟨rfl, rfl⟩
          rw [← HD1.out]
          go_wp2_with fail
          refine (digit_any A2 n2 c2 (dig (ln b)) k _ wr HR2.out (by omega) (by omega)).mono ?_
          rintro e w' ⟨rfl, rfl⟩
          rw [← HD2.out]
          have hoA := HO.out.alloc (.cells #[Value.int .u64 ((s : Int) % 4294967296)] 58)
          have HOA := Lib.hid hoA
          clear hoA
          go_wp2_with (at_builtin; go_must (refine wpList_append_rd _ rfl _ _ _ rfl w2.heap.size 58 i0 _ 1 8 Tryz.underlying22 hi0 hz0 hz1 hz2 rfl (by omega) (.slice A3 k c3) k (zs.flatMap Lc) rfl HOA.out (fun _ => True) (some ⟨wr.heap.size, 0, none⟩) 1 1 [.int .u64 ((s : Int) % 4294967296)] rfl (rd_blk (blk_new ..) rfl trivial) (by simp [Value.oneCell']) (by simp only [maxLen]; omega) (by omega) (by have := HBW.out.size; simp; omega) ?_); intro v2 w4 hown4 hg4 hat4)
          have HB4 := Lib.hid ((HBW.out.alloc HBW.out.size (.cells #[Value.int .u64 ((s : Int) % 4294967296)] 58)).grown hg4 (by have := HBW.out.size; simp; omega) (fun g hg => (HOA.out.lt g hg).1))
          have HFI := Lib.hid (finish.out v2 w4 hown4 HB4.out)
          clear hown4 hg4 hat4
          go_wp2_with fail
          exact ⟨HFI.out, by simp [intOf]; have := HKM.out; omega⟩
    · obtain rfl : q = 0 := by omega
      have t1 : decide ((k : Int) < n1) = false := by simp; omega
      have t2 : decide ((k : Int) < n2) = false := by simp; omega
      have e1 : (dig (ln a)).take k = dig (ln a) := List.take_of_length_le (by rw [← HN1.out]; omega)
      have e2 : (dig (ln b)).take k = dig (ln b) := List.take_of_length_le (by rw [← HN2.out]; omega)
      have hv : nv zs = ln a + ln b := by
        have h := HS.out
        rw [e1, e2, nv_dig, nv_dig, Nat.mul_zero, Nat.add_zero] at h
        exact h
      have HVV := Lib.hid hv
      have HLa := Lib.hid (own_lat HO.out)
      have hzb : zs.length ≤ 30000000000 := by rw [HZL.out]; omega
      clear step e1 e2 hv
      go_wp2_with fail
      refine (limbs_any _ zs _ HLa.out HZ.out (by omega)).mono ?_
      rintro e w5 ⟨v5, rfl, hv5, hb5⟩
      rw [HVV.out] at hv5
      have HV5 := Lib.hid hv5
      have HB5 := Lib.hid ((HW2.out.trans (HBW.out.mono HW2.out.size)).trans (hb5.mono (Nat.le_trans HW2.out.size HBW.out.size)))
      clear hv5 hb5
      go_wp2_with fail
      go_ret
      exact ⟨_, rfl, HV5.out, HB5.out⟩

end Go.Proofs.YtjokpfgncmdomaaGreatDoor

/- girderref02: NatUp, NatDown: the walks -/
namespace Go.Proofs.YtjokpfgncmdomaaGreatDoor
open Go.RowKit Go.Sort

theorem up_step {W H P q b R x s Y : Nat} (hI : Y + H * P * q = H * b * R) (hs : s = x * b + q) : Y + H * P * (s % W) + H * P * W * (s / W) = H * b * (R + P * x) := by
  have h := Nat.mod_add_div s W
  have e : H * P * (s % W) + H * P * W * (s / W) = H * P * s := by rw [Nat.mul_assoc (H * P), ← Nat.mul_add, h]
  rw [Nat.add_assoc, e, hs, Nat.mul_add, Nat.mul_add, ← hI]
  have : H * P * (x * b) = H * b * (P * x) := by ac_rfl
  omega
theorem dbl {i s b : Nat} (hb : b = 2 ^ i) (hi : i < s) (hs : s < 32) : 2 * b = 2 ^ (i + 1) ∧ 2 * b < 4294967296 := by
  have h : 2 ^ (i + 1) ≤ 2 ^ 31 := Nat.pow_le_pow_right (by decide) (by omega)
  have e : 2 ^ (i + 1) = 2 * 2 ^ i := Nat.pow_succ'
  rw [hb]
  exact ⟨e.symm, by omega⟩

set_option maxRecDepth 100000 in
set_option maxHeartbeats 8000000 in
theorem natUp_any (v : Value) (a : List Nat) (N : Nat) (w : World) (ha : LAt w v a) (la : Lds a) (na : a.length ≤ 10000000000) (hN : N ≤ 1000000000) :
    Calls Tryz.prog 117 #[v, .int .i64 (N : Int)] w fun e w' => ∃ v', e = .returned v' ∧ LAt w' v' (lim (ln a * 2 ^ N)) ∧ Below w.heap.size w w' := by
  obtain ⟨i0, hi0, hz0, hz1, hz2⟩ := info_parts' info_u64
  have HA := Lib.hid ha
  have LA := Lib.hid la
  clear ha la
  go_enter Tryz.func117, Tryz.ntmps117
  go_wp2_with fail
  refine (halves_any v a w HA.out LA.out (by omega)).mono ?_
  rintro e w1 ⟨v1, rfl, hv1, hb1⟩
  have HB1 := Lib.hid hb1
  obtain ⟨A1, c1, rfl, hc1, hx1⟩ := hv1
  obtain ⟨n, hn⟩ : ∃ n, n = (dig (ln a)).length := ⟨_, rfl⟩
  rw [← hn] at hx1 hc1 ⊢
  have hl : n ≤ 20000000000 := by rw [hn]; exact Nat.le_trans (dig_len2 LA.out) (by omega)
  obtain ⟨X, hX⟩ : ∃ X, X = ln a := ⟨_, rfl⟩
  rw [← hX] at hx1 hn
  have HXX := Lib.hid hx1
  have HN := Lib.hid hn
  have HXV := Lib.hid hX
  clear hb1 hx1 hn hX
  by_cases h0 : n = 0
  · subst h0
    have hx0 : X = 0 := dig_len_zero.1 HN.out.symm
    have HX0 := Lib.hid hx0
    clear hx0
    go_wp2_with fail
    go_ret
    exact ⟨_, rfl, by rw [← HXV.out, HX0.out, Nat.zero_mul]; exact LAt.nil .., HB1.out⟩
  · have e0 : ((n : Int) == 0) = false := by simp; omega
    obtain ⟨h, hh⟩ : ∃ h, h = N / 32 := ⟨_, rfl⟩
    obtain ⟨s, hs⟩ : ∃ s, s = N % 32 := ⟨_, rfl⟩
    have e1 : (N : Int) / 32 = (h : Int) := by omega
    have e2 : (N : Int) % 32 = (s : Int) := by omega
    have hs32 : s < 32 := by omega
    have HNN : Hid (N = h * 32 + s) := Lib.hid (by omega)
    have hhb : h ≤ 1000000000 := by omega
    have e1h : 0 ≤ (N : Int) / 32 := by omega
    clear hh hs
    go_wp2_with (at_make; go_must (refine wpList_make_full _ rfl _ _ _ rfl w1.heap.size 58 i0 _ 1 Tryz.underlying22 hi0 hz0 hz1 .i64 .i64 _ _ h (by first | rfl | rw [e1]) (by first | rfl | rw [e1]) (by omega) (by omega) (by rw [hz2]; omega) (by simp only [maxLen]; omega) (Nat.le_refl _) ?_); intro w2 hown2 hg2)
    have hinv := hown2
    rw [made_u64] at hinv
    have HI := Lib.hid hinv
    have HB2 := Lib.hid (below_of_grown hg2 (fun g hg => by cases hg))
    clear hown2 hg2 hinv
    go_loopw [8, 9] (fun bv iv wr => ∃ (i b : Nat), i ≤ s ∧ bv = .int .u64 b ∧ iv = .int .i64 i ∧ b = 2 ^ i ∧ w2 = wr) (fun _ i _ => s - (intOf i).toNat)
    case atStart => exact ⟨0, 1, Nat.zero_le _, rfl, rfl, rfl, rfl⟩
    case round =>
      obtain ⟨i, b, hi, rfl, rfl, hb, rfl⟩ := hrel
      by_cases hlt : i < s
      · have hd := dbl hb hlt hs32
        have h1 : (i : Int) < (N : Int) % 32 := by omega
        have HD := Lib.hid hd.1
        have hd2 := hd.2
        clear hb hd
        go_wp2_with fail
        refine ⟨⟨i + 1, 2 * b, by omega, by go_num, by go_num, HD.out, by first | rfl | trivial⟩, by simp [intOf]; omega⟩
      · obtain rfl : i = s := by omega
        have h1 : ¬ (i : Int) < (N : Int) % 32 := by omega
        have hbl : b ≤ 2147483648 := by rw [hb]; exact Nat.pow_le_pow_right (show 0 < 2 by decide) (show i ≤ 31 by omega)
        have HBI := Lib.hid hb
        clear hb
        go_wp2_with fail
        go_loopw [6, 7, 10] (fun ov cv iv wx => ∃ (k q : Nat) (zs : List Nat), k ≤ n ∧ cv = .int .u64 q ∧ iv = .int .i64 k ∧ q < 4294967296 ∧ zs.length = h + k ∧ Wds zs ∧ nv zs + W32 ^ h * W32 ^ k * q = W32 ^ h * b * nv ((dig X).take k) ∧ wx.ownsRow w1.heap.size 58 1 ov (h + k) (zs.flatMap Lc) ∧ Below w1.heap.size w1 wx) (fun _ _ iv _ => n - (intOf iv).toNat)
        case atStart => exact ⟨0, 0, List.replicate h 0, Nat.zero_le _, rfl, rfl, by decide, by simp, fun x hx => by rw [(List.mem_replicate.1 hx).2]; decide, by rw [(zero_rep h 0).val]; simp [nv], by simpa using HI.out, HB2.out⟩
        case round =>
          obtain ⟨k, q, zs, hk, rfl, rfl, hq, hzl, hzw, hsum, hown, hbw⟩ := hrel
          have HO := Lib.hid hown
          have HBW := Lib.hid hbw
          have HS := Lib.hid hsum
          have HZ := Lib.hid hzw
          have HZL := Lib.hid hzl
          obtain ⟨A3, c3, rfl, hc3, _⟩ := own_slice hown
          clear hown hbw hsum hzw hzl
          by_cases hlt2 : k < n
          · obtain ⟨x, hx⟩ := get_some HXX.out.num hlt2
            obtain ⟨b1, o1, rfl, hSb, hc⟩ := HXX.out.elem Lc.clen hx (by omega)
            have q0 : wr.cell? ⟨b1, o1 + k, none⟩ = some (.int .u64 (x : Int)) := by have h := (HBW.out.cell (p := ⟨b1, _, none⟩) hSb).trans (hc 0 _ rfl); rw [Nat.mul_one, Nat.add_zero] at h; exact h
            have hxl : x < 4294967296 := (dig_wds X).get hx
            have HXG := Lib.hid hx
            obtain ⟨t, ht⟩ : ∃ t : Nat, t = x * b + q := ⟨_, rfl⟩
            obtain ⟨m, hm⟩ : ∃ m, m = x * b := ⟨_, rfl⟩
            have hmul : m ≤ 4294967295 * 2147483648 := by rw [hm]; exact Nat.mul_le_mul (by omega) hbl
            have hmi : (x : Int) * (b : Int) = (m : Int) := by rw [hm]; simp
            have hte : (m : Int) + (q : Int) = (t : Int) := by omega
            have htl : t < 18446744073709551616 := by omega
            have HT := Lib.hid ht
            clear hx hc ht hm
            have hoA := HO.out.alloc (.cells #[Value.int .u64 ((t : Int) % 4294967296)] 58)
            have HOA := Lib.hid hoA
            clear hoA
            go_wp2_with (at_builtin; go_must (refine wpList_append_rd _ rfl _ _ _ rfl w1.heap.size 58 i0 _ 1 8 Tryz.underlying22 hi0 hz0 hz1 hz2 rfl (by omega) (.slice A3 (h + k) c3) (h + k) (zs.flatMap Lc) rfl HOA.out (fun _ => True) (some ⟨wr.heap.size, 0, none⟩) 1 1 [.int .u64 ((t : Int) % 4294967296)] rfl (rd_blk (blk_new ..) rfl trivial) (by simp [Value.oneCell']) (by simp only [maxLen]; omega) (by omega) (by have := HBW.out.size; simp; omega) ?_); intro v2 w4 hown4 hg4 hat4)
            have HB4 := Lib.hid ((HBW.out.alloc HBW.out.size (.cells #[Value.int .u64 ((t : Int) % 4294967296)] 58)).grown hg4 (by have := HBW.out.size; simp; omega) (fun g hg => (HOA.out.lt g hg).1))
            have hle : zs.flatMap Lc ++ [Value.int .u64 ((t : Int) % 4294967296)] = (zs ++ [t % 4294967296]).flatMap Lc := by rw [List.flatMap_append]; rfl
            rw [hle] at hown4
            have HO4 := Lib.hid hown4
            clear hown4 hg4 hat4 hle
            go_wp2_with fail
            refine ⟨⟨k + 1, t / 4294967296, zs ++ [t % 4294967296], by omega, rfl, by go_num, by omega, by simp [HZL.out]; omega, HZ.out.append (fun y hy => by simp at hy; subst hy; exact Nat.mod_lt _ (by decide)), ?_, HO4.out, HB4.out⟩, by simp [intOf]; omega⟩
            rw [nv_append, HZL.out, nv_take_succ HXG.out, Nat.pow_add, Nat.pow_succ, ← Nat.mul_assoc (W32 ^ h)]
            have e5 : nv [t % 4294967296] = t % 4294967296 := by simp [nv]
            rw [e5]
            exact up_step HS.out HT.out
          · obtain rfl : k = n := by omega
            have hoA := HO.out.alloc (.cells #[Value.int .u64 (q : Int)] 58)
            have HOA := Lib.hid hoA
            have e6 : (dig X).take k = dig X := List.take_of_length_le (by rw [HXX.out.num]; exact Nat.le_refl _)
            have hfin : nv (zs ++ [q]) = X * 2 ^ N := by
              have hh := HS.out
              rw [e6, nv_dig] at hh
              rw [nv_append, HZL.out, Nat.pow_add]
              have e5 : nv [q] = q := by simp [nv]
              rw [e5, hh, HNN.out, Nat.pow_add, HBI.out, Nat.mul_comm h 32, ← W32_pow, Nat.mul_comm]
            have HFIN := Lib.hid hfin
            clear hoA e6 hfin
            go_wp2_with (at_builtin; go_must (refine wpList_append_rd _ rfl _ _ _ rfl w1.heap.size 58 i0 _ 1 8 Tryz.underlying22 hi0 hz0 hz1 hz2 rfl (by omega) (.slice A3 (h + k) c3) (h + k) (zs.flatMap Lc) rfl HOA.out (fun _ => True) (some ⟨wr.heap.size, 0, none⟩) 1 1 [.int .u64 (q : Int)] rfl (rd_blk (blk_new ..) rfl trivial) (by simp [Value.oneCell']) (by simp only [maxLen]; omega) (by omega) (by have := HBW.out.size; simp; omega) ?_); intro v2 w4 hown4 hg4 hat4)
            have HB4 := Lib.hid ((HBW.out.alloc HBW.out.size (.cells #[Value.int .u64 (q : Int)] 58)).grown hg4 (by have := HBW.out.size; simp; omega) (fun g hg => (HOA.out.lt g hg).1))
            have hle : zs.flatMap Lc ++ [Value.int .u64 (q : Int)] = (zs ++ [q]).flatMap Lc := by rw [List.flatMap_append]; rfl
            rw [hle] at hown4
            have HLa := Lib.hid (own_lat hown4)
            have hzb : (zs ++ [q]).length ≤ 30000000000 := by rw [List.length_append, HZL.out]; simp; omega
            clear hown4 hg4 hat4 hle
            (try go_wp2_with fail)
            refine (limbs_any _ (zs ++ [q]) _ HLa.out (HZ.out.append (fun y hy => by simp at hy; subst hy; exact hq)) (by omega)).mono ?_
            rintro e w5 ⟨v5, rfl, hv5, hb5⟩
            rw [HFIN.out] at hv5
            have HV5 := Lib.hid hv5
            have HB5 := Lib.hid ((HB1.out.trans (HB4.out.mono HB1.out.size)).trans (hb5.mono (Nat.le_trans HB1.out.size HB4.out.size)))
            clear hv5 hb5
            go_wp2_with fail
            go_ret
            exact ⟨_, rfl, by rw [← HXV.out]; exact HV5.out, HB5.out⟩

end Go.Proofs.YtjokpfgncmdomaaGreatDoor

/- girderref02: NatDown: the walk -/
namespace Go.Proofs.YtjokpfgncmdomaaGreatDoor
open Go.RowKit Go.Sort

theorem RdE.dropL {w : World} {S : Nat → Prop} {b o n : Nat} {xs : List Nat} (h : RdE Lc 1 w S (some ⟨b, o, none⟩) n xs) {m : Nat} (hm : m ≤ n) : RdE Lc 1 w S (some ⟨b, o + m, none⟩) (n - m) (xs.drop m) := by
  refine ⟨⟨?_, fun j v hj => ?_⟩, by rw [List.length_drop, h.num]⟩
  · rw [flat_len Lc 1 Lc.clen, List.length_drop, h.num]
  · have hl : j < n - m := by
      have h1 := (List.getElem?_eq_some_iff.1 hj).1
      rw [flat_len Lc 1 Lc.clen, List.length_drop, h.num] at h1
      omega
    obtain ⟨x, hx⟩ := get_some h.num (show m + j < n by omega)
    obtain ⟨b', o', e, hS, hc⟩ := h.elem Lc.clen hx (by omega)
    cases e
    have hc0 := hc 0 _ rfl
    rw [Nat.mul_one, Nat.add_zero] at hc0
    have hx2 : (xs.drop m)[j]? = some x := by rw [List.getElem?_drop]; exact hx
    have hv := flat_get Lc 1 Lc.clen (xs.drop m) j 0 x _ hx2 rfl
    rw [Nat.mul_one, Nat.add_zero, hj] at hv
    injection hv with hv
    refine ⟨b, o + m, rfl, hS, ?_⟩
    rw [Nat.add_assoc, hc0, hv]
theorem down_lost {X h s : Nat} (hs : 0 < 2 ^ s) : (X % 2 ^ (h * 32 + s) ≠ 0) ↔ (nv ((dig X).take h) ≠ 0 ∨ nv ((dig X).drop h) % 2 ^ s ≠ 0) := by
  have e := nv_split (dig X) h
  rw [nv_dig] at e
  have hl := nv_take_lt (dig_wds X) h
  have e1 : 2 ^ (h * 32 + s) = W32 ^ h * 2 ^ s := by rw [Nat.pow_add, Nat.mul_comm h, ← W32_pow]
  rw [e1]
  generalize nv ((dig X).take h) = L at *
  generalize nv ((dig X).drop h) = D at *
  have hp := w_pos h
  generalize W32 ^ h = P at *
  have e2 : X % (P * 2 ^ s) = L + P * (D % 2 ^ s) := by
    have h1 := Nat.mod_add_div D (2 ^ s)
    have h2 : X = (L + P * (D % 2 ^ s)) + P * 2 ^ s * (D / 2 ^ s) := by
      rw [e]
      conv => lhs; rw [← h1]
      rw [Nat.mul_add, Nat.mul_assoc]
      omega
    have h3 : L + P * (D % 2 ^ s) < P * 2 ^ s := by
      have h4 : D % 2 ^ s + 1 ≤ 2 ^ s := Nat.mod_lt _ hs
      have h5 := Nat.mul_le_mul_left P h4
      rw [Nat.mul_add, Nat.mul_one] at h5
      omega
    rw [h2, Nat.add_mul_mod_self_left, Nat.mod_eq_of_lt h3]
  rw [e2]
  constructor
  · intro h1
    by_cases hL : L = 0
    · right
      intro h2
      rw [hL, h2] at h1
      simp at h1
    · exact .inl hL
  · rintro (h1 | h1)
    · omega
    · have : P * 1 ≤ P * (D % 2 ^ s) := Nat.mul_le_mul_left _ (by omega)
      omega

/-- is anything cut off -/
def lostB (X N : Nat) : Bool := decide (X % 2 ^ N ≠ 0)
set_option maxRecDepth 100000 in
set_option maxHeartbeats 8000000 in
theorem natDown_any (v : Value) (a : List Nat) (N : Nat) (w : World) (ha : LAt w v a) (la : Lds a) (na : a.length ≤ 10000000000) (hN : N ≤ 1000000000) :
    Calls Tryz.prog 159 #[v, .int .i64 (N : Int)] w fun e w' => ∃ v', e = .returned (.tuple #[v', .bool (lostB (ln a) N)]) ∧ LAt w' v' (lim (ln a / 2 ^ N)) ∧ Below w.heap.size w w' := by
  have HA := Lib.hid ha
  have LA := Lib.hid la
  clear ha la
  go_enter Tryz.func159, Tryz.ntmps159
  go_wp2_with fail
  refine (halves_any v a w HA.out LA.out (by omega)).mono ?_
  rintro e w1 ⟨v1, rfl, hv1, hb1⟩
  have HB1 := Lib.hid hb1
  obtain ⟨A1, c1, rfl, hc1, hx1⟩ := hv1
  obtain ⟨n, hn⟩ : ∃ n, n = (dig (ln a)).length := ⟨_, rfl⟩
  rw [← hn] at hx1 hc1 ⊢
  have hl : n ≤ 20000000000 := by rw [hn]; exact Nat.le_trans (dig_len2 LA.out) (by omega)
  obtain ⟨X, hX⟩ : ∃ X, X = ln a := ⟨_, rfl⟩
  rw [← hX] at hx1 hn
  have HXX := Lib.hid hx1
  have HN := Lib.hid hn
  have HXV := Lib.hid hX
  clear hb1 hx1 hn hX
  obtain ⟨h, hh⟩ : ∃ h, h = N / 32 := ⟨_, rfl⟩
  obtain ⟨s, hs⟩ : ∃ s, s = N % 32 := ⟨_, rfl⟩
  have e1 : (N : Int) / 32 = (h : Int) := by omega
  have e2 : (N : Int) % 32 = (s : Int) := by omega
  have hs32 : s < 32 := by omega
  have HNN : Hid (N = h * 32 + s) := Lib.hid (by omega)
  have hhb : h ≤ 1000000000 := by omega
  clear hh hs
  go_wp2_with fail
  go_loopw [7, 8] (fun lv iv wr => ∃ k : Nat, k ≤ n ∧ k ≤ h ∧ lv = .bool (decide (nv ((dig X).take k) ≠ 0)) ∧ iv = .int .i64 k ∧ w1 = wr) (fun _ iv _ => n - (intOf iv).toNat)
  case atStart => exact ⟨0, Nat.zero_le _, Nat.zero_le _, rfl, rfl, rfl⟩
  case round =>
    obtain ⟨k, hk, hkh, rfl, rfl, rfl⟩ := hrel
    by_cases hgo : k < h ∧ k < n
    · obtain ⟨hlt1, hlt2⟩ := hgo
      have t1 : decide ((k : Int) < (N : Int) / 32) = true := by simp; omega
      obtain ⟨x, hx⟩ := get_some HXX.out.num hlt2
      obtain ⟨b1, o1, rfl, hSb, hc⟩ := HXX.out.elem Lc.clen hx (by omega)
      have q0 : w1.cell? ⟨b1, o1 + k, none⟩ = some (.int .u64 (x : Int)) := by have h := hc 0 _ rfl; rw [Nat.mul_one, Nat.add_zero] at h; exact h
      have hxl : x < 4294967296 := (dig_wds X).get hx
      have HXG := Lib.hid hx
      clear hx hc
      have hst : nv ((dig X).take (k + 1)) = nv ((dig X).take k) + W32 ^ k * x := nv_take_succ HXG.out
      have hp := w_pos k
      by_cases hz : nv ((dig X).take k) ≠ 0
      · have e3 : decide (nv ((dig X).take (k + 1)) ≠ 0) = true := by simp; omega
        rw [decide_eq_true hz]
        have E3 := Lib.hid e3
        clear hz hst hp e3
        go_wp2_with fail
        refine ⟨⟨k + 1, by omega, by omega, by rw [E3.out], by go_num, by first | rfl | trivial⟩, by simp [intOf]; omega⟩
      · have e3 : decide (nv ((dig X).take (k + 1)) ≠ 0) = ((x : Int) != 0) := by
          have hz' : nv ((dig X).take k) = 0 := by omega
          rw [hst, hz', Nat.zero_add]
          by_cases hx0 : x = 0
          · subst hx0; simp
          · have : W32 ^ k * x ≠ 0 := by
              have : W32 ^ k * 1 ≤ W32 ^ k * x := Nat.mul_le_mul_left _ (by omega)
              omega
            simp [hx0, this]
        rw [decide_eq_false hz]
        have E3 := Lib.hid e3
        clear hz hst hp e3
        go_wp2_with fail
        refine ⟨⟨k + 1, by omega, by omega, by rw [E3.out], by go_num, by first | rfl | trivial⟩, by simp [intOf]; omega⟩
    · obtain ⟨lb, hlb⟩ : ∃ lb, lb = decide (nv ((dig X).take k) ≠ 0) := ⟨_, rfl⟩
      rw [← hlb]
      have HLB := Lib.hid hlb
      clear hlb
      by_cases hhn : n ≤ h
      · have hkn : k = n := by omega
        have hx : X < 2 ^ N := by
          have h1 := lt_dig_len X
          rw [← HN.out, W32_pow] at h1
          refine Nat.lt_of_lt_of_le h1 (Nat.pow_le_pow_right (by decide) ?_)
          have := HNN.out
          omega
        have HX1 := Lib.hid (Nat.div_eq_of_lt hx)
        have hlost : lostB X N = lb := by
          unfold lostB
          rw [HLB.out, Nat.mod_eq_of_lt hx, hkn, List.take_of_length_le (by rw [HN.out]; exact Nat.le_refl _), nv_dig]
        have HLO := Lib.hid hlost
        clear hx hlost
        have t0 : ¬ ((k : Int) < n) := by omega
        have t1 : ((n : Int) ≤ (N : Int) / 32) := by omega
        have fin : Hid (∀ w : World, Below w.heap.size w w) := Lib.hid (fun w => Below.refl _ _)
        by_cases hkh2 : k < h
        · have t2 : decide ((k : Int) < (N : Int) / 32) = true := by simp; omega
          have t3 : decide ((k : Int) < n) = false := by simp; omega
          go_wp2_with fail
          go_ret2
          exact ⟨.slice none 0 0, by rw [← HXV.out, HLO.out]; rfl, by rw [← HXV.out, HX1.out]; exact LAt.nil .., HB1.out⟩
        · have t2 : decide ((k : Int) < (N : Int) / 32) = false := by simp; omega
          go_wp2_with fail
          go_ret2
          exact ⟨.slice none 0 0, by rw [← HXV.out, HLO.out]; rfl, by rw [← HXV.out, HX1.out]; exact LAt.nil .., HB1.out⟩
      · have hkh3 : k = h := by omega
        subst hkh3
        have t2 : decide ((k : Int) < (N : Int) / 32) = false := by simp; omega
        have t4 : decide ((n : Int) ≤ (N : Int) / 32) = false := by simp; omega
        have hlen : 0 < n := by omega
        obtain ⟨x, hx⟩ := get_some HXX.out.num hlen
        obtain ⟨b1, o1, rfl, hSb, hc⟩ := HXX.out.elem Lc.clen hx (by omega)
        clear hx hc
        go_wp2_with fail
        go_loopw [9, 10] (fun bv iv wr => ∃ (i b : Nat), i ≤ s ∧ bv = .int .u64 b ∧ iv = .int .i64 i ∧ b = 2 ^ i ∧ w1 = wr) (fun _ i _ => s - (intOf i).toNat)
        case atStart => exact ⟨0, 1, Nat.zero_le _, rfl, rfl, rfl, rfl⟩
        case round =>
          obtain ⟨i, b, hi, rfl, rfl, hb, rfl⟩ := hrel
          by_cases hlt : i < s
          · have hd := dbl hb hlt hs32
            have h1 : (i : Int) < (N : Int) % 32 := by omega
            have HD := Lib.hid hd.1
            have hd2 := hd.2
            clear hb hd
            go_wp2_with fail
            refine ⟨⟨i + 1, 2 * b, by omega, by go_num, by go_num, HD.out, by first | rfl | trivial⟩, by simp [intOf]; omega⟩
          · obtain rfl : i = s := by omega
            have h1 : ¬ (i : Int) < (N : Int) % 32 := by omega
            have hbl : b ≤ 2147483648 := by rw [hb]; exact Nat.pow_le_pow_right (show 0 < 2 by decide) (show i ≤ 31 by omega)
            have hb0 : 0 < b := by rw [hb]; exact Nat.pow_pos (by decide)
            have HBI := Lib.hid hb
            have hr := HXX.out.dropL (m := k) (by omega)
            have HR := Lib.hid hr
            have hwd : Wds ((dig X).drop k) := (dig_wds X).drop k
            have hrest : nv ((dig X).drop k) / b = X / 2 ^ N := by
              rw [← nv_div (dig_wds X), nv_dig, HBI.out, Nat.div_div_eq_div_mul, HNN.out, Nat.pow_add, Nat.mul_comm k 32, ← W32_pow]
            have hlost : lostB X N = (lb || ((nv ((dig X).drop k) % b : Nat) : Int) != 0) := by
              have h := down_lost (X := X) (h := k) (s := i) (Nat.pow_pos (by decide))
              rw [← HNN.out, ← HBI.out] at h
              unfold lostB
              rw [HLB.out]
              by_cases g1 : nv ((dig X).take k) ≠ 0
              · rw [decide_eq_true (h.2 (.inl g1)), decide_eq_true g1]; rfl
              · by_cases g2 : nv ((dig X).drop k) % b ≠ 0
                · rw [decide_eq_true (h.2 (.inr g2)), decide_eq_false g1]
                  have : (((nv ((dig X).drop k) % b : Nat) : Int) != 0) = true := by simp; omega
                  rw [this]; rfl
                · rw [decide_eq_false (fun hh => (h.1 hh).elim g1 g2), decide_eq_false g1]
                  have : (((nv ((dig X).drop k) % b : Nat) : Int) != 0) = false := by simp; omega
                  rw [this]; rfl
            have HRE := Lib.hid hrest
            have HLO := Lib.hid hlost
            have HWD := Lib.hid hwd
            clear hb hr hwd hrest hlost
            go_wp2_with fail
            (try rw [e1])
            have hcc : k ≤ c1 := by omega
            refine (short_any _ (n - k) _ b ((dig X).drop k) w1 HR.out HWD.out (by omega) hb0 (by omega)).mono ?_
            rintro e w2 ⟨v2, rfl, hv2, hb2⟩
            rw [HRE.out] at hv2
            obtain ⟨R, hR⟩ : ∃ R, R = nv ((dig X).drop k) % b := ⟨_, rfl⟩
            rw [← hR] at HLO ⊢
            have HV2 := Lib.hid hv2
            have HB2 := Lib.hid (HB1.out.trans (hb2.mono HB1.out.size))
            obtain ⟨A2, c2, rfl, _, _⟩ := hv2
            clear hb2 hR
            go_wp2_with fail
            refine (limbs_any _ _ w2 HV2.out (dig_wds _) (Nat.le_trans (dig_len_mono (Nat.div_le_self _ _)) (by rw [← HN.out]; omega))).mono ?_
            rintro e w3 ⟨v3, rfl, hv3, hb3⟩
            rw [nv_dig] at hv3
            have HV3 := Lib.hid hv3
            have HB3 := Lib.hid (HB2.out.trans (hb3.mono HB2.out.size))
            clear hv3 hb3
            cases lb
            · go_wp2_with fail
              go_ret2
              exact ⟨v3, by rw [← HXV.out, HLO.out]; rfl, by rw [← HXV.out]; exact HV3.out, HB3.out⟩
            · go_wp2_with fail
              go_ret2
              exact ⟨v3, by rw [← HXV.out, HLO.out]; rfl, by rw [← HXV.out]; exact HV3.out, HB3.out⟩

end Go.Proofs.YtjokpfgncmdomaaGreatDoor

/- girderref02: NatBits, NatCmp: the walks -/
namespace Go.Proofs.YtjokpfgncmdomaaGreatDoor
open Go.RowKit Go.Sort

theorem lim_top {N k x : Nat} (hl : (lim N).length = k + 1) (hx : (lim N)[k]? = some x) : x ≠ 0 ∧ blen N = 64 * k + blen x := by
  have hne : lim N ≠ [] := by intro e; rw [e] at hl; simp at hl
  have hlast := (lim_isLim N).2 hne
  have e : (lim N)[k]? = some ((lim N).getLast hne) := by
    rw [List.getLast_eq_getElem]
    have h2 := List.getElem?_eq_getElem (l := lim N) (i := (lim N).length - 1) (by omega)
    rw [← h2, hl]; rfl
  rw [hx] at e
  injection e with e
  have hx0 : x ≠ 0 := by rw [e]; exact hlast
  refine ⟨hx0, ?_⟩
  have h := ln_split (lim N) k
  rw [ln_dig] at h
  have hd : (lim N).drop k = [x] := by
    obtain ⟨h1, h2⟩ := List.getElem?_eq_some_iff.1 hx
    rw [List.drop_eq_getElem_cons h1, h2, List.drop_of_length_le (by omega)]
  rw [hd] at h
  have e2 : ln [x] = x := by simp [ln]
  have h3 := ln_take_lt (lim_lds N) k
  rw [e2, W64_pow] at h
  rw [W64_pow] at h3
  rw [h]
  exact blen_join hx0 h3

set_option maxRecDepth 100000 in
set_option maxHeartbeats 4000000 in
theorem natBits_any (v : Value) (a : List Nat) (w : World) (ha : LAt w v a) (la : Lds a) (na : a.length ≤ 10000000000) :
    Calls Tryz.prog 116 #[v] w fun e w' => e = .returned (.int .i64 ((blen (ln a) : Nat) : Int)) ∧ Below w.heap.size w w' := by
  have HA := Lib.hid ha
  have LA := Lib.hid la
  clear ha la
  go_enter Tryz.func116, Tryz.ntmps116
  go_wp2_with fail
  refine (natTrim_any v a w HA.out LA.out (by omega)).mono ?_
  rintro e w1 ⟨v1, rfl, hv1, hb1⟩
  have HB1 := Lib.hid hb1
  obtain ⟨X, hX⟩ : ∃ X, X = ln a := ⟨_, rfl⟩
  rw [← hX] at hv1
  obtain ⟨A1, c1, rfl, hc1, hx1⟩ := hv1
  obtain ⟨n, hn⟩ : ∃ n, n = (lim X).length := ⟨_, rfl⟩
  rw [← hn] at hx1 hc1 ⊢
  have hl : n ≤ 10000000000 := by
    rw [hn]
    refine Nat.le_trans (lim_len_le (k := a.length) ?_) na
    rw [hX]; exact ln_lt LA.out
  have HXX := Lib.hid hx1
  have HN := Lib.hid hn
  have HXV := Lib.hid hX
  clear hb1 hx1 hn hX
  by_cases h0 : n = 0
  · subst h0
    have hx0 : X = 0 := lim_len_zero.1 HN.out.symm
    have HX0 : Hid (blen (ln a) = 0) := Lib.hid (by rw [← HXV.out, hx0]; rfl)
    clear hx0
    go_wp2_with fail
    go_ret
    exact ⟨by rw [HX0.out]; rfl, HB1.out⟩
  · have e0 : ((n : Int) == 0) = false := by simp; omega
    obtain ⟨k, rfl⟩ : ∃ k, n = k + 1 := ⟨n - 1, by omega⟩
    obtain ⟨x, hx⟩ := get_some HXX.out.num (show k < k + 1 by omega)
    obtain ⟨b1, o1, rfl, hSb, hc⟩ := HXX.out.elem Lc.clen hx (by omega)
    have q0 : w1.cell? ⟨b1, o1 + k, none⟩ = some (.int .u64 (x : Int)) := by have h := hc 0 _ rfl; rw [Nat.mul_one, Nat.add_zero] at h; exact h
    have hxl : x < 18446744073709551616 := (lim_lds X).get hx
    have hbl : blen (ln a) = 64 * k + blen x := by rw [← HXV.out]; exact (lim_top HN.out.symm hx).2
    have HBL := Lib.hid hbl
    have hb64 : blen x ≤ 64 := blen_le_of_lt (by omega)
    clear hx hc hbl h0
    go_wp2_with fail
    go_loopw [4, 5] (fun nv tv wr => ∃ (y m : Nat), tv = .int .u64 y ∧ nv = .int .i64 m ∧ y < 18446744073709551616 ∧ m + blen y = 64 * k + blen x ∧ w1 = wr) (fun _ tv _ => (intOf tv).toNat)
    case atStart => exact ⟨x, 64 * k, rfl, by go_num, hxl, rfl, rfl⟩
    case round =>
      obtain ⟨y, m, rfl, rfl, hy, hm, rfl⟩ := hrel
      by_cases hy0 : y = 0
      · subst hy0
        have HM : Hid (m = 64 * k + blen x) := Lib.hid (by rw [blen_zero] at hm; omega)
        clear hm
        go_wp2_with fail
        go_ret
        exact ⟨by rw [HBL.out, ← HM.out]; rfl, HB1.out⟩
      · have hlt : decide (0 < (y : Int)) = true := by simp; omega
        have HM := Lib.hid hm
        have hh := blen_half hy0
        have HH := Lib.hid hh
        have hmb : m ≤ 64 * k + 64 := by omega
        clear hm hh
        go_wp2_with fail
        refine ⟨⟨y / 2, m + 1, by go_num, by go_num, by omega, by have := HM.out; have := HH.out; omega, by first | rfl | trivial⟩, by simp [intOf]; omega⟩

theorem lim_lt {x y : Nat} (h : (lim x).length < (lim y).length) : x < y := Nat.lt_of_not_le fun h1 => by have := lim_len_mono h1; omega
theorem ln_drop_get {ws : List Nat} {i x : Nat} (h : ws[i]? = some x) : ln (ws.drop i) = x + W64 * ln (ws.drop (i + 1)) := by
  obtain ⟨hl, e⟩ := List.getElem?_eq_some_iff.1 h
  rw [List.drop_eq_getElem_cons hl, e, ln]
theorem ldrop_lt {a b : List Nat} {i x y : Nat} (ha : Lds a) (hx : a[i]? = some x) (hy : b[i]? = some y) (he : ln (a.drop (i + 1)) = ln (b.drop (i + 1))) (hlt : x < y) : ln a < ln b := by
  rw [ln_split a i, ln_split b i, ln_drop_get hx, ln_drop_get hy, he]
  have h1 := ln_take_lt ha i
  have h2 : W64 ^ i * (x + W64 * ln (b.drop (i + 1))) + W64 ^ i ≤ W64 ^ i * (y + W64 * ln (b.drop (i + 1))) := by
    rw [← Nat.mul_succ]
    exact Nat.mul_le_mul_left _ (by omega)
  omega
theorem lim_ln_len {a : List Nat} (h : Lds a) : (lim (ln a)).length ≤ a.length := lim_len_le (ln_lt h)

set_option maxRecDepth 100000 in
set_option maxHeartbeats 8000000 in
theorem natCmp_any (va vb : Value) (a b : List Nat) (w : World) (ha : LAt w va a) (hb : LAt w vb b) (la : Lds a) (lb_ : Lds b) (na : a.length ≤ 10000000000) (nb : b.length ≤ 10000000000) :
    Calls Tryz.prog 80 #[va, vb] w fun e w' => e = .returned (.int .i64 (cmpN (ln a) (ln b))) ∧ Below w.heap.size w w' := by
  have HA := Lib.hid ha
  have HB := Lib.hid hb
  have LA := Lib.hid la
  have LB := Lib.hid lb_
  clear ha hb la lb_
  go_enter Tryz.func80, Tryz.ntmps80
  go_wp2_with fail
  refine (natTrim_any va a w HA.out LA.out (by omega)).mono ?_
  rintro e w1 ⟨v1, rfl, hv1, hb1⟩
  have HV1 := Lib.hid hv1
  have HBb := Lib.hid (HB.out.below hb1)
  have HW1 := Lib.hid hb1
  clear hv1 hb1
  go_wp2_with fail
  refine (natTrim_any vb b w1 HBb.out LB.out (by omega)).mono ?_
  rintro e w2 ⟨v2, rfl, hv2, hb2⟩
  have hx1 := HV1.out.below hb2
  have HW2 := Lib.hid (HW1.out.trans (hb2.mono HW1.out.size))
  obtain ⟨x, hx⟩ : ∃ x, x = ln a := ⟨_, rfl⟩
  obtain ⟨y, hy⟩ : ∃ y, y = ln b := ⟨_, rfl⟩
  rw [← hx] at hx1
  rw [← hy] at hv2
  obtain ⟨A1, c1, rfl, hc1, hx1⟩ := hx1
  obtain ⟨A2, c2, rfl, hc2, hx2⟩ := hv2
  obtain ⟨n, hn⟩ : ∃ n, n = (lim x).length := ⟨_, rfl⟩
  obtain ⟨m, hm⟩ : ∃ n, n = (lim y).length := ⟨_, rfl⟩
  rw [← hn] at hx1 hc1
  rw [← hm] at hx2 hc2
  have hnl : n ≤ 10000000000 := by rw [hn, hx]; exact Nat.le_trans (lim_ln_len LA.out) na
  have hml : m ≤ 10000000000 := by rw [hm, hy]; exact Nat.le_trans (lim_ln_len LB.out) nb
  have HX := Lib.hid hx1
  have HY := Lib.hid hx2
  have XV := Lib.hid hx
  have YV := Lib.hid hy
  have HN := Lib.hid hn
  have HM := Lib.hid hm
  rw [← hn, ← hm]
  clear hb2 hx1 hx2 HBb hx hy hn hm HV1
  by_cases h1 : n < m
  · have hlt : x < y := lim_lt (by rw [← HN.out, ← HM.out]; exact h1)
    have HC := Lib.hid (show cmpN (ln a) (ln b) = -1 by rw [← XV.out, ← YV.out]; simp [cmpN, hlt])
    have e0 : ((n : Int) != (m : Int)) = true := by simp; omega
    clear hlt
    go_wp2_with fail
    go_ret
    exact ⟨by rw [HC.out]; rfl, HW2.out⟩
  · by_cases h2 : m < n
    · have hlt : y < x := lim_lt (by rw [← HN.out, ← HM.out]; exact h2)
      have HC := Lib.hid (show cmpN (ln a) (ln b) = 1 by rw [← XV.out, ← YV.out]
                                                         have : ¬ x < y := by omega
                                                         simp [cmpN, hlt, this])
      have e0 : ((n : Int) != (m : Int)) = true := by simp; omega
      clear hlt
      go_wp2_with fail
      go_ret
      exact ⟨by rw [HC.out]; rfl, HW2.out⟩
    · obtain rfl : n = m := by omega
      clear h1 h2
      go_wp2_with fail
      go_loopw [7] (fun iv wr => ∃ t : Nat, t ≤ n ∧ (∃ z : Int, iv = .int .i64 z ∧ z = (t : Int) - 1) ∧ ln ((lim x).drop t) = ln ((lim y).drop t) ∧ Below w2.heap.size w2 wr) (fun iv _ => (intOf iv + 1).toNat)
      case atStart => exact ⟨n, Nat.le_refl _, ⟨_, rfl, rfl⟩, by rw [List.drop_of_length_le (by rw [HX.out.num]; omega), List.drop_of_length_le (by rw [HY.out.num]; omega)], Below.refl _ _⟩
      case round =>
        obtain ⟨t, ht, ⟨z, rfl, hz⟩, heq, hbw⟩ := hrel
        have HEQ := Lib.hid heq
        have HBW := Lib.hid hbw
        clear heq hbw
        by_cases h0 : t = 0
        · subst h0
          obtain rfl : z = -1 := by omega
          have he := HEQ.out
          rw [List.drop_zero, List.drop_zero, ln_dig, ln_dig] at he
          have HC := Lib.hid (show cmpN (ln a) (ln b) = 0 by rw [← XV.out, ← YV.out, he]; simp [cmpN])
          clear hz he
          go_wp2_with fail
          go_ret
          exact ⟨by rw [HC.out]; rfl, HW2.out.trans (HBW.out.mono HW2.out.size)⟩
        · obtain ⟨j, rfl⟩ : ∃ j, t = j + 1 := ⟨t - 1, by omega⟩
          obtain rfl : z = (j : Int) := by omega
          clear hz
          obtain ⟨p, hp⟩ := get_some HX.out.num (show j < n by omega)
          obtain ⟨q, hq⟩ := get_some HY.out.num (show j < n by omega)
          obtain ⟨b1, o1, rfl, hSb1, hc⟩ := HX.out.elem Lc.clen hp (by omega)
          obtain ⟨b2, o2, rfl, hSb2, hc2⟩ := HY.out.elem Lc.clen hq (by omega)
          have q1 : wr.cell? ⟨b1, o1 + j, none⟩ = some (.int .u64 (p : Int)) := by have h := hc 0 _ rfl; rw [Nat.mul_one, Nat.add_zero] at h; exact bat HBW.out h
          have q2 : wr.cell? ⟨b2, o2 + j, none⟩ = some (.int .u64 (q : Int)) := by have h := hc2 0 _ rfl; rw [Nat.mul_one, Nat.add_zero] at h; exact bat HBW.out h
          have HP := Lib.hid hp
          have HQ := Lib.hid hq
          have g1 : (0 : Int) ≤ (j : Int) := by omega
          clear hp hq hc hc2
          rcases Nat.lt_trichotomy p q with h1 | h1 | h1
          · have d1 : decide ((p : Int) < q) = true := by simp; omega
            have hlt := ldrop_lt (lim_lds x) HP.out HQ.out HEQ.out h1
            rw [ln_dig, ln_dig] at hlt
            have HC := Lib.hid (show cmpN (ln a) (ln b) = -1 by rw [← XV.out, ← YV.out]; simp [cmpN, hlt])
            clear hlt
            go_wp2_with fail
            go_quiet (fail)
            go_wp2_with fail
            go_ret
            exact ⟨by rw [HC.out]; rfl, HW2.out.trans ((below_drewN HBW.out _).mono HW2.out.size)⟩
          · subst h1
            have d1 : decide ((p : Int) < p) = false := by simp
            have HE := Lib.hid (show ln ((lim x).drop j) = ln ((lim y).drop j) by rw [ln_drop_get HP.out, ln_drop_get HQ.out, HEQ.out])
            go_wp2_with fail
            go_quiet (fail)
            go_wp2_with fail
            go_quiet (fail)
            go_wp2_with fail
            go_roundw
            case rel => exact ⟨j, by omega, ⟨_, rfl, by omega⟩, HE.out, by first | exact below_drewN HBW.out _ | exact below_drewN (below_drewN HBW.out _) _⟩
            case measure => simp [intOf]
          · have d1 : decide ((p : Int) < q) = false := by simp; omega
            have d2 : decide ((q : Int) < p) = true := by simp; omega
            have hlt := ldrop_lt (lim_lds y) HQ.out HP.out HEQ.out.symm h1
            rw [ln_dig, ln_dig] at hlt
            have HC := Lib.hid (show cmpN (ln a) (ln b) = 1 by rw [← XV.out, ← YV.out]
                                                               have : ¬ x < y := by omega
                                                               simp [cmpN, hlt, this])
            clear hlt
            go_wp2_with fail
            go_quiet (fail)
            go_wp2_with fail
            go_quiet (fail)
            go_wp2_with fail
            go_ret
            exact ⟨by rw [HC.out]; rfl, HW2.out.trans ((below_drewN (below_drewN HBW.out _) _).mono HW2.out.size)⟩

end Go.Proofs.YtjokpfgncmdomaaGreatDoor
