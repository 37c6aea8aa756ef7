import Derived.Test.YtkfhbnfoiicioaaGreatDoorX10
import Derived.Deep.Cut
import Derived.Deep.DeepCutAuto
set_option linter.unusedSimpArgs false
set_option linter.unusedVariables false
/- girderref00: product, NatMul: the walks -/
namespace Go.Proofs.YtkfhbnfoiicioaaGreatDoor
open Go.RowKit Go.Sort

set_option maxRecDepth 100000 in
set_option maxHeartbeats 4000000 in
theorem product_any (A B : Option Addr) (n m c d : Nat) (a b : List Nat) (w : World) (hx : RdE Lc 1 w (fun b => b < w.heap.size) A n a) (hy : RdE Lc 1 w (fun b => b < w.heap.size) B m b) (ha : Wds a) (hb : Wds b)
    (hn : n ≤ 100000000000) (hm : m ≤ 100000000000) :
    Calls Tryz.prog 133 #[.slice A n c, .slice B m d] w fun e w' => ∃ v', e = .returned v' ∧ LAt w' v' (dig (nv a * nv b)) ∧ Below w.heap.size w w' := by
  obtain ⟨i0, hi0, hz0, hz1, hz2⟩ := info_parts' info_u64
  have HX := Lib.hid hx
  have HY := Lib.hid hy
  have HA := Lib.hid ha
  have HB := Lib.hid hb
  clear hx hy ha hb
  go_enter Tryz.func133, Tryz.ntmps133
  go_wp2_with (at_make; go_must (refine wpList_make_full _ rfl _ _ _ rfl w.heap.size 58 i0 _ 1 Tryz.underlying76 hi0 hz0 hz1 .i64 .i64 _ _ (n + m) rfl rfl (by omega) (by omega) (by rw [hz2]; omega) (by simp only [maxLen]; omega) (Nat.le_refl _) ?_); intro w1 hown1 hg1)
  have hinv := hown1
  rw [made_u64] at hinv
  have HI := Lib.hid hinv
  have HB1 := Lib.hid (below_of_grown hg1 (fun g hg => by cases hg))
  clear hown1 hg1 hinv
  go_loopw [6] (fun i wr => ∃ (k : Nat) (xs : List Nat), k ≤ n ∧ i = .int .i64 k ∧ xs.length = n + m ∧ Wds xs ∧ nv xs = nv (a.take k) * nv b ∧ ZeroFrom xs (k + m) ∧ wr.ownsRow w.heap.size 58 1 (.slice (some ⟨w.heap.size, 0, none⟩) (n + m) (n + m)) (n + m) (xs.flatMap Lc) ∧ Below w.heap.size w wr) (fun i _ => n - (intOf i).toNat)
  case atStart => exact ⟨0, List.replicate (n + m) 0, Nat.zero_le _, rfl, by simp, fun x hx => by rw [(List.mem_replicate.1 hx).2]; decide, by rw [(zero_rep (n + m) 0).val]; simp [nv], zero_rep _ _, HI.out, HB1.out⟩
  case round =>
    obtain ⟨k, xs, hk, rfl, hxl, hxw, hsum, hzf, hown, hbw⟩ := hrel
    by_cases hlt : k < n
    · obtain ⟨x, hx⟩ := get_some HX.out.num hlt
      obtain ⟨b1, o1, rfl, hSb1, hc⟩ := HX.out.elem Lc.clen hx (by omega)
      have q1 : ∀ wi : World, Below w.heap.size w wi → wi.cell? ⟨b1, o1 + k, none⟩ = some (.int .u64 (x : Int)) := fun wi hbi => by have h := (hbi.cell (p := ⟨b1, _, none⟩) hSb1).trans (hc 0 _ rfl); rw [Nat.mul_one, Nat.add_zero] at h; exact h
      have Q1 := Lib.hid q1
      have hxlt := hw0 HA.out hx
      have HO := Lib.hid hown
      have HBW := Lib.hid hbw
      have HSUM := Lib.hid hsum
      have HXX := Lib.hid hx
      have HXW := Lib.hid hxw
      have HZF := Lib.hid hzf
      clear hown hbw hsum hx hc hxw hzf q1
      obtain ⟨wo, rfl⟩ : ∃ wo : World, wo = wr := ⟨_, rfl⟩
      go_wp2_with fail
      have hxlt' : (x : Int) < 4294967296 := by omega
      go_loopw [7, 8] (fun cv jv wr => ∃ (l q : Nat) (ys : List Nat), l ≤ m ∧ cv = .int .u64 q ∧ jv = .int .i64 l ∧ q < 4294967296 ∧ ys.length = n + m ∧ Wds ys ∧ nv ys + W32 ^ (k + l) * q = nv xs + W32 ^ k * (x * nv (b.take l)) ∧ ZeroFrom ys (k + m) ∧ wr.ownsRow w.heap.size 58 1 (.slice (some ⟨w.heap.size, 0, none⟩) (n + m) (n + m)) (n + m) (ys.flatMap Lc) ∧ Below w.heap.size w wr) (fun _ j _ => m - (intOf j).toNat)
      case atStart => exact ⟨0, 0, xs, Nat.zero_le _, rfl, rfl, by decide, hxl, HXW.out, by simp [nv], HZF.out, HO.out, HBW.out⟩
      case round =>
        clear HO HBW
        obtain ⟨l, q, ys, hl, rfl, rfl, hq, hyl, hyw, hsm, hzf, hown, hbw⟩ := hrel
        have q1 := Q1.out wr hbw
        by_cases hlm : l < m
        · obtain ⟨y, hy⟩ := get_some HY.out.num hlm
          obtain ⟨b2, o2, rfl, hSb2, hc2⟩ := HY.out.elem Lc.clen hy (by omega)
          have q2 : wr.cell? ⟨b2, o2 + l, none⟩ = some (.int .u64 (y : Int)) := by have h := (hbw.cell (p := ⟨b2, _, none⟩) hSb2).trans (hc2 0 _ rfl); rw [Nat.mul_one, Nat.add_zero] at h; exact h
          have hylt := hw0 HB.out hy
          obtain ⟨o, ho⟩ := get_some hyl (show k + l < n + m by omega)
          have holt := hw0 hyw ho
          have q0 : wr.cell? ⟨w.heap.size, k + l, none⟩ = some (.int .u64 (o : Int)) := own_lc hown ho
          have hf := hown.frozenAt (k + l)
          have hxy : x * y ≤ 18446744065119617025 := Nat.le_trans (Nat.mul_le_mul (show x ≤ 4294967295 by omega) (show y ≤ 4294967295 by omega)) (by decide)
          have hxy1 : (x : Int) * (y : Int) ≤ 18446744065119617025 := by rw [← Int.natCast_mul]; omega
          have hxy0 : 0 ≤ (x : Int) * (y : Int) := by rw [← Int.natCast_mul]; omega
          have hs1 : IntKind.i64.wrap ((k : Int) + l) = (k : Int) + l := IntWalk.i64_in _ (by omega)
          have hs2 : 0 ≤ (k : Int) + l := by omega
          have hs3 : ((k : Int) + l).toNat = k + l := by omega
          have HO := Lib.hid hown
          have HBW := Lib.hid hbw
          have HSM := Lib.hid hsm
          have HYY := Lib.hid hy
          have HYW := Lib.hid hyw
          have HZ := Lib.hid hzf
          have HOO := Lib.hid ho
          clear hown hbw hsm hy hyw hzf ho hc2
          go_wp2_with fail
          go_quiet (fail)
          go_wp2_with fail
          have ho1 := own_set_lc (own_drewN HO.out nq) (i := k + l) (by omega) ((x * y + o + q) % W32)
          have HO1 := Lib.hid ho1.1
          have HB2 := Lib.hid ((below_drewN HBW.out nq).grown ho1.2 (Nat.le_of_lt (HO.out.lt w.heap.size rfl).2) (fun g hg => by injection hg with hg; omega))
          clear ho1
          have hplt : x * y + o + q < 18446744073709551616 := by omega
          refine ⟨⟨l + 1, (x * y + o + q) / W32, ys.set (k + l) ((x * y + o + q) % W32), by omega, ?_, by go_num, ?_, by simp [hyl], wds_set HYW.out (Nat.mod_lt _ (by decide)), ?_, HZ.out.set (by omega), HO1.out, HB2.out⟩, by simp [intOf]; omega⟩
          · rfl
          · show (x * y + o + q) / 4294967296 < 4294967296; omega
          · rw [nv_take_succ HYY.out]; exact mul_step HOO.out HSM.out (by omega)
        · obtain rfl : m = l := by omega
          have hzq : ∃ o, ys[k + m]? = some o := get_some hyl (show k + m < n + m by omega)
          obtain ⟨o, ho⟩ := hzq
          obtain rfl : o = 0 := hzf _ _ (Nat.le_refl _) ho
          have q0 := own_lc hown ho
          have hf := hown.frozenAt (k + m)
          have HO := Lib.hid hown
          have HBW := Lib.hid hbw
          have hfin : nv (ys.set (k + m) q) = nv (a.take (k + 1)) * nv b := by
            have h := nv_set (v := q) ho
            have e : b.take m = b := List.take_of_length_le (by rw [HY.out.num]; omega)
            rw [hsm, HSUM.out, Nat.mul_zero, Nat.add_zero, e] at h
            rw [h, nv_take_succ HXX.out, Nat.add_mul, Nat.mul_assoc]
          have HFIN := Lib.hid hfin
          have HZ := Lib.hid (ZeroFrom.set_at (v := q) hzf)
          have HYW := Lib.hid (wds_set (k := k + m) (v := q) hyw hq)
          have ho1 := own_set_lc hown (i := k + m) (by omega) q
          have HO1 := Lib.hid ho1.1
          have HB2 := Lib.hid (hbw.grown ho1.2 (Nat.le_of_lt (hown.lt w.heap.size rfl).2) (fun g hg => by injection hg with hg; omega))
          clear hown hbw hsm hzf hyw hfin ho1 ho
          go_wp2_with fail
          refine ⟨⟨k + 1, ys.set (k + m) q, by omega, by go_num, by simp [hyl], HYW.out, HFIN.out, HZ.out.mono (by omega), HO1.out, HB2.out⟩, by simp [intOf]; omega⟩
    · obtain rfl : n = k := by omega
      have HO := Lib.hid hown
      have HBW := Lib.hid hbw
      have HXW := Lib.hid hxw
      have hfin : nv xs = nv a * nv b := by
        rw [hsum, List.take_of_length_le (by rw [HX.out.num]; exact Nat.le_refl _)]
      have HFIN := Lib.hid hfin
      have hr := (RdE.of_own Lc.clen (by omega) hown).imp (S' := fun b => b < wr.heap.size) (fun b h => h.2.1)
      have HR := Lib.hid hr
      clear hown hbw hxw hsum hfin hzf hr
      go_wp2_with fail
      refine (low_any (some ⟨w.heap.size, 0, none⟩) (n + m) (n + m) xs _ HR.out (wds_lds HXW.out) (by omega) (Nat.le_refl _)).mono ?_
      rintro e w' ⟨k, rfl, hk2, ht, rfl⟩
      have htk := trim_dig (by rw [HR.out.num]; exact hk2) HXW.out ht
      rw [HFIN.out] at htk
      have e : k = (dig (nv a * nv b)).length := by rw [← htk, List.length_take, HR.out.num]; omega
      have hr2 := HR.out.take Lc.clen hk2
      rw [htk] at hr2
      have HR2 := Lib.hid hr2
      have HE := Lib.hid e
      clear hr2 ht htk e
      go_wp2_with fail
      go_ret
      refine ⟨_, rfl, ⟨some ⟨w.heap.size, 0, none⟩, n + m, ?_, ?_, ?_⟩, HBW.out⟩
      · rw [← HE.out]; rfl
      · rw [← HE.out]; omega
      · rw [← HE.out]; exact HR2.out

set_option maxRecDepth 100000 in
set_option maxHeartbeats 4000000 in
theorem natMul_any (va vb : Value) (a b : List Nat) (w : World) (ha : LAt w va a) (hb : LAt w vb b) (la : Lds a) (lb_ : Lds b) (na : a.length ≤ 10000000000) (nb : b.length ≤ 10000000000) :
    Calls Tryz.prog 105 #[va, vb] w fun e w' => ∃ v', e = .returned v' ∧ LAt w' v' (lim (ln a * ln b)) ∧ Below w.heap.size w w' := by
  have HA := Lib.hid ha
  have HB := Lib.hid hb
  have LA := Lib.hid la
  have LB := Lib.hid lb_
  clear ha hb la lb_
  go_enter Tryz.func105, Tryz.ntmps105
  go_wp2_with fail
  refine (halves_any va a w HA.out LA.out (by omega)).mono ?_
  rintro e w1 ⟨v1, rfl, hv1, hb1⟩
  have HV1 := Lib.hid hv1
  have HBb := Lib.hid (HB.out.below hb1)
  have HW1 := Lib.hid hb1
  clear hv1 hb1
  go_wp2_with fail
  refine (halves_any vb b w1 HBb.out LB.out (by omega)).mono ?_
  rintro e w2 ⟨v2, rfl, hv2, hb2⟩
  have hx1 := HV1.out.below hb2
  have HW2 := Lib.hid (HW1.out.trans (hb2.mono HW1.out.size))
  obtain ⟨A1, c1, rfl, hc1, hx1⟩ := hx1
  obtain ⟨A2, c2, rfl, hc2, hx2⟩ := hv2
  have hl1 := dig_len2 LA.out
  have hl2 := dig_len2 LB.out
  have HX1 := Lib.hid hx1
  have HX2 := Lib.hid hx2
  have HL := Lib.hid (And.intro hl1 hl2)
  clear hb2 hx1 hx2 HBb hl1 hl2
  go_wp2_with fail
  refine (product_any A1 A2 _ _ c1 c2 _ _ w2 HX1.out HX2.out (dig_wds _) (dig_wds _) (by have := HL.out; omega) (by have := HL.out; omega)).mono ?_
  rintro e w3 ⟨v3, rfl, hv3, hb3⟩
  rw [nv_dig, nv_dig] at hv3
  have HV3 := Lib.hid hv3
  have HW3 := Lib.hid (HW2.out.trans (hb3.mono HW2.out.size))
  have hz := mul_len (ln a) (ln b)
  have HZ := Lib.hid hz
  clear hv3 hb3 hz
  go_wp2_with fail
  refine (limbs_any v3 _ w3 HV3.out (dig_wds _) (by have := HL.out; have := HZ.out; omega)).mono ?_
  rintro e w4 ⟨v4, rfl, hv4, hb4⟩
  rw [nv_dig] at hv4
  have HV4 := Lib.hid hv4
  have HW4 := Lib.hid (HW3.out.trans (hb4.mono HW3.out.size))
  clear hv4 hb4
  go_wp2_with fail
  go_ret
  exact ⟨_, rfl, HV4.out, HW4.out⟩

end Go.Proofs.YtkfhbnfoiicioaaGreatDoor

/- girderref00: NatBits, NatCmp: the walks -/
namespace Go.Proofs.YtkfhbnfoiicioaaGreatDoor
open Go.RowKit Go.Sort

theorem lim_top {N k x : Nat} (hl : (lim N).length = k + 1) (hx : (lim N)[k]? = some x) : x ≠ 0 ∧ blen N = 64 * k + blen x := by
  have hne : lim N ≠ [] := by intro e; rw [e] at hl; simp at hl
  have hlast := (lim_isLim N).2 hne
  have e : (lim N)[k]? = some ((lim N).getLast hne) := by
    rw [List.getLast_eq_getElem]
    have h2 := List.getElem?_eq_getElem (l := lim N) (i := (lim N).length - 1) (by omega)
    rw [← h2, hl]; rfl
  rw [hx] at e
  injection e with e
  have hx0 : x ≠ 0 := by rw [e]; exact hlast
  refine ⟨hx0, ?_⟩
  have h := ln_split (lim N) k
  rw [ln_dig] at h
  have hd : (lim N).drop k = [x] := by
    obtain ⟨h1, h2⟩ := List.getElem?_eq_some_iff.1 hx
    rw [List.drop_eq_getElem_cons h1, h2, List.drop_of_length_le (by omega)]
  rw [hd] at h
  have e2 : ln [x] = x := by simp [ln]
  have h3 := ln_take_lt (lim_lds N) k
  rw [e2, W64_pow] at h
  rw [W64_pow] at h3
  rw [h]
  exact blen_join hx0 h3

set_option maxRecDepth 100000 in
set_option maxHeartbeats 4000000 in
theorem natBits_any (v : Value) (a : List Nat) (w : World) (ha : LAt w v a) (la : Lds a) (na : a.length ≤ 10000000000) :
    Calls Tryz.prog 128 #[v] w fun e w' => e = .returned (.int .i64 ((blen (ln a) : Nat) : Int)) ∧ Below w.heap.size w w' := by
  have HA := Lib.hid ha
  have LA := Lib.hid la
  clear ha la
  go_enter Tryz.func128, Tryz.ntmps128
  go_wp2_with fail
  refine (natTrim_any v a w HA.out LA.out (by omega)).mono ?_
  rintro e w1 ⟨v1, rfl, hv1, hb1⟩
  have HB1 := Lib.hid hb1
  obtain ⟨X, hX⟩ : ∃ X, X = ln a := ⟨_, rfl⟩
  rw [← hX] at hv1
  obtain ⟨A1, c1, rfl, hc1, hx1⟩ := hv1
  obtain ⟨n, hn⟩ : ∃ n, n = (lim X).length := ⟨_, rfl⟩
  rw [← hn] at hx1 hc1 ⊢
  have hl : n ≤ 10000000000 := by
    rw [hn]
    refine Nat.le_trans (lim_len_le (k := a.length) ?_) na
    rw [hX]; exact ln_lt LA.out
  have HXX := Lib.hid hx1
  have HN := Lib.hid hn
  have HXV := Lib.hid hX
  clear hb1 hx1 hn hX
  by_cases h0 : n = 0
  · subst h0
    have hx0 : X = 0 := lim_len_zero.1 HN.out.symm
    have HX0 : Hid (blen (ln a) = 0) := Lib.hid (by rw [← HXV.out, hx0]; rfl)
    clear hx0
    go_wp2_with fail
    go_ret
    exact ⟨by rw [HX0.out]; rfl, HB1.out⟩
  · have e0 : ((n : Int) == 0) = false := by simp; omega
    obtain ⟨k, rfl⟩ : ∃ k, n = k + 1 := ⟨n - 1, by omega⟩
    obtain ⟨x, hx⟩ := get_some HXX.out.num (show k < k + 1 by omega)
    obtain ⟨b1, o1, rfl, hSb, hc⟩ := HXX.out.elem Lc.clen hx (by omega)
    have q0 : w1.cell? ⟨b1, o1 + k, none⟩ = some (.int .u64 (x : Int)) := by have h := hc 0 _ rfl; rw [Nat.mul_one, Nat.add_zero] at h; exact h
    have hxl : x < 18446744073709551616 := (lim_lds X).get hx
    have hbl : blen (ln a) = 64 * k + blen x := by rw [← HXV.out]; exact (lim_top HN.out.symm hx).2
    have HBL := Lib.hid hbl
    have hb64 : blen x ≤ 64 := blen_le_of_lt (by omega)
    clear hx hc hbl h0
    go_wp2_with fail
    go_loopw [4, 5] (fun nv tv wr => ∃ (y m : Nat), tv = .int .u64 y ∧ nv = .int .i64 m ∧ y < 18446744073709551616 ∧ m + blen y = 64 * k + blen x ∧ w1 = wr) (fun _ tv _ => (intOf tv).toNat)
    case atStart => exact ⟨x, 64 * k, rfl, by go_num, hxl, rfl, rfl⟩
    case round =>
      obtain ⟨y, m, rfl, rfl, hy, hm, rfl⟩ := hrel
      by_cases hy0 : y = 0
      · subst hy0
        have HM : Hid (m = 64 * k + blen x) := Lib.hid (by rw [blen_zero] at hm; omega)
        clear hm
        go_wp2_with fail
        go_ret
        exact ⟨by rw [HBL.out, ← HM.out]; rfl, HB1.out⟩
      · have hlt : decide (0 < (y : Int)) = true := by simp; omega
        have HM := Lib.hid hm
        have hh := blen_half hy0
        have HH := Lib.hid hh
        have hmb : m ≤ 64 * k + 64 := by omega
        clear hm hh
        go_wp2_with fail
        refine ⟨⟨y / 2, m + 1, by go_num, by go_num, by omega, by have := HM.out; have := HH.out; omega, by first | rfl | trivial⟩, by simp [intOf]; omega⟩

theorem lim_lt {x y : Nat} (h : (lim x).length < (lim y).length) : x < y := Nat.lt_of_not_le fun h1 => by have := lim_len_mono h1; omega
theorem ln_drop_get {ws : List Nat} {i x : Nat} (h : ws[i]? = some x) : ln (ws.drop i) = x + W64 * ln (ws.drop (i + 1)) := by
  obtain ⟨hl, e⟩ := List.getElem?_eq_some_iff.1 h
  rw [List.drop_eq_getElem_cons hl, e, ln]
theorem ldrop_lt {a b : List Nat} {i x y : Nat} (ha : Lds a) (hx : a[i]? = some x) (hy : b[i]? = some y) (he : ln (a.drop (i + 1)) = ln (b.drop (i + 1))) (hlt : x < y) : ln a < ln b := by
  rw [ln_split a i, ln_split b i, ln_drop_get hx, ln_drop_get hy, he]
  have h1 := ln_take_lt ha i
  have h2 : W64 ^ i * (x + W64 * ln (b.drop (i + 1))) + W64 ^ i ≤ W64 ^ i * (y + W64 * ln (b.drop (i + 1))) := by
    rw [← Nat.mul_succ]
    exact Nat.mul_le_mul_left _ (by omega)
  omega
theorem lim_ln_len {a : List Nat} (h : Lds a) : (lim (ln a)).length ≤ a.length := lim_len_le (ln_lt h)

set_option maxRecDepth 100000 in
set_option maxHeartbeats 8000000 in
theorem natCmp_any (va vb : Value) (a b : List Nat) (w : World) (ha : LAt w va a) (hb : LAt w vb b) (la : Lds a) (lb_ : Lds b) (na : a.length ≤ 10000000000) (nb : b.length ≤ 10000000000) :
    Calls Tryz.prog 154 #[va, vb] w fun e w' => e = .returned (.int .i64 (cmpN (ln a) (ln b))) ∧ Below w.heap.size w w' := by
  have HA := Lib.hid ha
  have HB := Lib.hid hb
  have LA := Lib.hid la
  have LB := Lib.hid lb_
  clear ha hb la lb_
  go_enter Tryz.func154, Tryz.ntmps154
  go_wp2_with fail
  refine (natTrim_any va a w HA.out LA.out (by omega)).mono ?_
  rintro e w1 ⟨v1, rfl, hv1, hb1⟩
  have HV1 := Lib.hid hv1
  have HBb := Lib.hid (HB.out.below hb1)
  have HW1 := Lib.hid hb1
  clear hv1 hb1
  go_wp2_with fail
  refine (natTrim_any vb b w1 HBb.out LB.out (by omega)).mono ?_
  rintro e w2 ⟨v2, rfl, hv2, hb2⟩
  have hx1 := HV1.out.below hb2
  have HW2 := Lib.hid (HW1.out.trans (hb2.mono HW1.out.size))
  obtain ⟨x, hx⟩ : ∃ x, x = ln a := ⟨_, rfl⟩
  obtain ⟨y, hy⟩ : ∃ y, y = ln b := ⟨_, rfl⟩
  rw [← hx] at hx1
  rw [← hy] at hv2
  obtain ⟨A1, c1, rfl, hc1, hx1⟩ := hx1
  obtain ⟨A2, c2, rfl, hc2, hx2⟩ := hv2
  obtain ⟨n, hn⟩ : ∃ n, n = (lim x).length := ⟨_, rfl⟩
  obtain ⟨m, hm⟩ : ∃ n, n = (lim y).length := ⟨_, rfl⟩
  rw [← hn] at hx1 hc1
  rw [← hm] at hx2 hc2
  have hnl : n ≤ 10000000000 := by rw [hn, hx]; exact Nat.le_trans (lim_ln_len LA.out) na
  have hml : m ≤ 10000000000 := by rw [hm, hy]; exact Nat.le_trans (lim_ln_len LB.out) nb
  have HX := Lib.hid hx1
  have HY := Lib.hid hx2
  have XV := Lib.hid hx
  have YV := Lib.hid hy
  have HN := Lib.hid hn
  have HM := Lib.hid hm
  rw [← hn, ← hm]
  clear hb2 hx1 hx2 HBb hx hy hn hm HV1
  by_cases h1 : n < m
  · have hlt : x < y := lim_lt (by rw [← HN.out, ← HM.out]; exact h1)
    have HC := Lib.hid (show cmpN (ln a) (ln b) = -1 by rw [← XV.out, ← YV.out]; simp [cmpN, hlt])
    have e0 : ((n : Int) != (m : Int)) = true := by simp; omega
    clear hlt
    go_wp2_with fail
    go_ret
    exact ⟨by rw [HC.out]; rfl, HW2.out⟩
  · by_cases h2 : m < n
    · have hlt : y < x := lim_lt (by rw [← HN.out, ← HM.out]; exact h2)
      have HC := Lib.hid (show cmpN (ln a) (ln b) = 1 by rw [← XV.out, ← YV.out]
                                                         have : ¬ x < y := by omega
                                                         simp [cmpN, hlt, this])
      have e0 : ((n : Int) != (m : Int)) = true := by simp; omega
      clear hlt
      go_wp2_with fail
      go_ret
      exact ⟨by rw [HC.out]; rfl, HW2.out⟩
    · obtain rfl : n = m := by omega
      clear h1 h2
      go_wp2_with fail
      go_loopw [7] (fun iv wr => ∃ t : Nat, t ≤ n ∧ (∃ z : Int, iv = .int .i64 z ∧ z = (t : Int) - 1) ∧ ln ((lim x).drop t) = ln ((lim y).drop t) ∧ Below w2.heap.size w2 wr) (fun iv _ => (intOf iv + 1).toNat)
      case atStart => exact ⟨n, Nat.le_refl _, ⟨_, rfl, rfl⟩, by rw [List.drop_of_length_le (by rw [HX.out.num]; omega), List.drop_of_length_le (by rw [HY.out.num]; omega)], Below.refl _ _⟩
      case round =>
        obtain ⟨t, ht, ⟨z, rfl, hz⟩, heq, hbw⟩ := hrel
        have HEQ := Lib.hid heq
        have HBW := Lib.hid hbw
        clear heq hbw
        by_cases h0 : t = 0
        · subst h0
          obtain rfl : z = -1 := by omega
          have he := HEQ.out
          rw [List.drop_zero, List.drop_zero, ln_dig, ln_dig] at he
          have HC := Lib.hid (show cmpN (ln a) (ln b) = 0 by rw [← XV.out, ← YV.out, he]; simp [cmpN])
          clear hz he
          go_wp2_with fail
          go_ret
          exact ⟨by rw [HC.out]; rfl, HW2.out.trans (HBW.out.mono HW2.out.size)⟩
        · obtain ⟨j, rfl⟩ : ∃ j, t = j + 1 := ⟨t - 1, by omega⟩
          obtain rfl : z = (j : Int) := by omega
          clear hz
          obtain ⟨p, hp⟩ := get_some HX.out.num (show j < n by omega)
          obtain ⟨q, hq⟩ := get_some HY.out.num (show j < n by omega)
          obtain ⟨b1, o1, rfl, hSb1, hc⟩ := HX.out.elem Lc.clen hp (by omega)
          obtain ⟨b2, o2, rfl, hSb2, hc2⟩ := HY.out.elem Lc.clen hq (by omega)
          have q1 : wr.cell? ⟨b1, o1 + j, none⟩ = some (.int .u64 (p : Int)) := by have h := hc 0 _ rfl; rw [Nat.mul_one, Nat.add_zero] at h; exact bat HBW.out h
          have q2 : wr.cell? ⟨b2, o2 + j, none⟩ = some (.int .u64 (q : Int)) := by have h := hc2 0 _ rfl; rw [Nat.mul_one, Nat.add_zero] at h; exact bat HBW.out h
          have HP := Lib.hid hp
          have HQ := Lib.hid hq
          have g1 : (0 : Int) ≤ (j : Int) := by omega
          clear hp hq hc hc2
          rcases Nat.lt_trichotomy p q with h1 | h1 | h1
          · have d1 : decide ((p : Int) < q) = true := by simp; omega
            have hlt := ldrop_lt (lim_lds x) HP.out HQ.out HEQ.out h1
            rw [ln_dig, ln_dig] at hlt
            have HC := Lib.hid (show cmpN (ln a) (ln b) = -1 by rw [← XV.out, ← YV.out]; simp [cmpN, hlt])
            clear hlt
            go_wp2_with fail
            go_quiet (fail)
            go_wp2_with fail
            go_ret
            exact ⟨by rw [HC.out]; rfl, HW2.out.trans ((below_drewN HBW.out _).mono HW2.out.size)⟩
          · subst h1
            have d1 : decide ((p : Int) < p) = false := by simp
            have HE := Lib.hid (show ln ((lim x).drop j) = ln ((lim y).drop j) by rw [ln_drop_get HP.out, ln_drop_get HQ.out, HEQ.out])
            go_wp2_with fail
            go_quiet (fail)
            go_wp2_with fail
            go_quiet (fail)
            go_wp2_with fail
            go_roundw
            case rel => exact ⟨j, by omega, ⟨_, rfl, by omega⟩, HE.out, by first | exact below_drewN HBW.out _ | exact below_drewN (below_drewN HBW.out _) _⟩
            case measure => simp [intOf]
          · have d1 : decide ((p : Int) < q) = false := by simp; omega
            have d2 : decide ((q : Int) < p) = true := by simp; omega
            have hlt := ldrop_lt (lim_lds y) HQ.out HP.out HEQ.out.symm h1
            rw [ln_dig, ln_dig] at hlt
            have HC := Lib.hid (show cmpN (ln a) (ln b) = 1 by rw [← XV.out, ← YV.out]
                                                               have : ¬ x < y := by omega
                                                               simp [cmpN, hlt, this])
            clear hlt
            go_wp2_with fail
            go_quiet (fail)
            go_wp2_with fail
            go_quiet (fail)
            go_wp2_with fail
            go_ret
            exact ⟨by rw [HC.out]; rfl, HW2.out.trans ((below_drewN (below_drewN HBW.out _) _).mono HW2.out.size)⟩

end Go.Proofs.YtkfhbnfoiicioaaGreatDoor

/- girderref00: NatSub: the walk -/
namespace Go.Proofs.YtkfhbnfoiicioaaGreatDoor
open Go.RowKit Go.Sort

theorem sub_step {P W Z Y X q x y s : Nat} (hI : Z + Y = X + P * q) (hs : s + y + q = W + x) (hb : s / W ≤ 1) :
    (Z + P * (s % W)) + (Y + P * y) = (X + P * x) + P * W * (1 - s / W) := by
  have h := Nat.mod_add_div s W
  have e1 : P * (s % W) + P * (W * (s / W)) = P * s := by rw [← Nat.mul_add, h]
  have e2 : P * s + P * y + P * q = P * W + P * x := by rw [← Nat.mul_add, ← Nat.mul_add, hs, Nat.mul_add]
  have e3 : P * W * (1 - s / W) + P * (W * (s / W)) = P * W := by
    rw [← Nat.mul_assoc, ← Nat.mul_add, show 1 - s / W + s / W = 1 by omega, Nat.mul_one]
  omega

set_option maxRecDepth 100000 in
set_option maxHeartbeats 8000000 in
theorem natSub_any (va vb : Value) (a b : List Nat) (w : World) (ha : LAt w va a) (hb : LAt w vb b) (la : Lds a) (lb_ : Lds b) (na : a.length ≤ 10000000000) (nb : b.length ≤ 10000000000) (hle : ln b ≤ ln a) :
    Calls Tryz.prog 155 #[va, vb] w fun e w' => ∃ v', e = .returned v' ∧ LAt w' v' (lim (ln a - ln b)) ∧ Below w.heap.size w w' := by
  obtain ⟨i0, hi0, hz0, hz1, hz2⟩ := info_parts' info_u64
  have HA := Lib.hid ha
  have HB := Lib.hid hb
  have LA := Lib.hid la
  have LB := Lib.hid lb_
  have HLE := Lib.hid hle
  clear ha hb la lb_ hle
  go_enter Tryz.func155, Tryz.ntmps155
  go_wp2_with fail
  refine (halves_any va a w HA.out LA.out (by omega)).mono ?_
  rintro e w1 ⟨v1, rfl, hv1, hb1⟩
  have HV1 := Lib.hid hv1
  have HBb := Lib.hid (HB.out.below hb1)
  have HW1 := Lib.hid hb1
  clear hv1 hb1
  go_wp2_with fail
  refine (halves_any vb b w1 HBb.out LB.out (by omega)).mono ?_
  rintro e w2 ⟨v2, rfl, hv2, hb2⟩
  have hx1 := HV1.out.below hb2
  have HW2 := Lib.hid (HW1.out.trans (hb2.mono HW1.out.size))
  obtain ⟨A1, c1, rfl, hc1, hx1⟩ := hx1
  obtain ⟨A2, c2, rfl, hc2, hx2⟩ := hv2
  obtain ⟨n1, hn1⟩ : ∃ n, n = (dig (ln a)).length := ⟨_, rfl⟩
  obtain ⟨n2, hn2⟩ : ∃ n, n = (dig (ln b)).length := ⟨_, rfl⟩
  rw [← hn1] at hx1 hc1
  rw [← hn2] at hx2 hc2
  have hl1 : n1 ≤ 20000000000 := by rw [hn1]; exact Nat.le_trans (dig_len2 LA.out) (by omega)
  have hl2 : n2 ≤ 20000000000 := by rw [hn2]; exact Nat.le_trans (dig_len2 LB.out) (by omega)
  have h21 : n2 ≤ n1 := by
    rw [hn1, hn2]
    exact dig_len_le (Nat.lt_of_le_of_lt HLE.out (lt_dig_len _))
  have HX1 := Lib.hid hx1
  have HX2 := Lib.hid hx2
  have HN1 := Lib.hid hn1
  have HN2 := Lib.hid hn2
  clear hb2 hx1 hx2 HBb
  rw [← hn1, ← hn2]
  clear hn1 hn2
  go_wp2_with fail
  go_loopw [7, 8, 9] (fun ov cv iv wr => ∃ (k q : Nat) (zs : List Nat), k ≤ n1 ∧ cv = .int .u64 q ∧ iv = .int .i64 k ∧ q < 2 ∧ zs.length = k ∧ Wds zs ∧ nv zs + nv ((dig (ln b)).take k) = nv ((dig (ln a)).take k) + W32 ^ k * q ∧ wr.ownsRow w2.heap.size 58 1 ov k (zs.flatMap Lc) ∧ Below w2.heap.size w2 wr) (fun _ _ iv _ => n1 - (intOf iv).toNat)
  case atStart => exact ⟨0, 0, [], Nat.zero_le _, rfl, rfl, by decide, rfl, fun x hx => by simp at hx, by simp [nv], World.ownsRow_nil .., Below.refl _ _⟩
  case round =>
    obtain ⟨k, q, zs, hk, rfl, rfl, hq, hzl, hzw, hsum, hown, hbw⟩ := hrel
    have HO := Lib.hid hown
    have HBW := Lib.hid hbw
    have HS := Lib.hid hsum
    have HZ := Lib.hid hzw
    have HZL := Lib.hid hzl
    obtain ⟨A3, c3, rfl, hc3, _⟩ := own_slice hown
    clear hown hbw hsum hzw hzl
    by_cases hgo : k < n1
    · obtain ⟨x, hx⟩ := get_some HX1.out.num hgo
      obtain ⟨b1, o1, rfl, hSb1, hc⟩ := HX1.out.elem Lc.clen hx (by omega)
      have q1 : wr.cell? ⟨b1, o1 + k, none⟩ = some (.int .u64 (x : Int)) := by have h := (HBW.out.cell (p := ⟨b1, _, none⟩) hSb1).trans (hc 0 _ rfl); rw [Nat.mul_one, Nat.add_zero] at h; exact h
      have hxl : x < 4294967296 := hw0 (dig_wds _) hx
      have hxd : (dig (ln a)).getD k 0 = x := by simp [List.getD, hx]
      obtain ⟨d2, hd2⟩ : ∃ d, d = (dig (ln b)).getD k 0 := ⟨_, rfl⟩
      have hd2l : d2 < 4294967296 := by rw [hd2]; exact getD_wds (dig_wds _) k
      have HR2 := Lib.hid (HX2.out.keep (Keeps.below HBW.out (fun b hb => hb)))
      obtain ⟨s, hs⟩ : ∃ s : Nat, s = 4294967296 + x - d2 - q := ⟨_, rfl⟩
      have e1 : IntKind.u64.wrap (4294967296 + (x : Int)) = 4294967296 + (x : Int) := by rw [IntKind.wrap_u64]; omega
      have e2 : IntKind.u64.wrap (4294967296 + (x : Int) - (d2 : Int)) = 4294967296 + (x : Int) - (d2 : Int) := by rw [IntKind.wrap_u64]; omega
      have e3 : IntKind.u64.wrap (4294967296 + (x : Int) - (d2 : Int) - (q : Int)) = (s : Int) := by rw [IntKind.wrap_u64]; omega
      have hsl : s < 8589934592 := by omega
      have hst : nv (zs ++ [s % 4294967296]) + nv ((dig (ln b)).take (k + 1)) = nv ((dig (ln a)).take (k + 1)) + W32 ^ (k + 1) * (1 - s / 4294967296) := by
        rw [getD_take, getD_take, nv_append, HZL.out, hxd, ← hd2, Nat.pow_succ]
        have e2 : nv [s % 4294967296] = s % 4294967296 := by simp [nv]
        rw [e2]
        exact sub_step (W := 4294967296) HS.out (by omega) (by omega)
      have e4 : IntKind.u64.wrap (1 - (s : Int) / 4294967296) = ((1 - s / 4294967296 : Nat) : Int) := by rw [IntKind.wrap_u64]; omega
      have HST := Lib.hid hst
      have HD2 := Lib.hid hd2
      have hkb : k ≤ 30000000000 := by omega
      have hqb : (q : Int) < 2 := by omega
      have hq2 : (s : Int) / 4294967296 ≤ 1 := by omega
      have hq3 : 0 ≤ (s : Int) / 4294967296 := by omega
      clear hst hxd hx hc hd2 hs
      go_wp2_with fail
      refine wp_region_held_drew (S := (fun w' => w'.cell? ⟨b1, o1 + k, none⟩ = some (.int .u64 (x : Int)))) (by kernel_rfl) ?_ (fun hHeld => ?_)
      · first | exact True.intro | ((try dsimp only); go_keep)
      clear q1
      refine tkH (i := 0) (v := ?_) rfl (by kernel_rfl) (Or.inl ⟨by kernel_rfl, ?_⟩) (by assumption) ?_
      rotate_left 1
      · (intro w hSw; (try dsimp only at hSw); go_simp; try with_reducible rfl)
      try simp only [lyA, lyB, lyC, Act.put, lyD, lyE, lyF]
      refine tkH (i := 1) (v := ?_) rfl (by kernel_rfl) (Or.inl ⟨by kernel_rfl, ?_⟩) (by assumption) ?_
      rotate_left 1
      · (intro w hSw; (try dsimp only at hSw); go_simp; try with_reducible rfl)
      try simp only [lyA, lyB, lyC, Act.put, lyD, lyE, lyF]
      refine tkH (i := 2) (v := ?_) rfl (by kernel_rfl) (Or.inl ⟨by kernel_rfl, ?_⟩) (by assumption) ?_
      rotate_left 1
      · (intro w hSw; (try dsimp only at hSw); go_simp; try with_reducible rfl)
      try simp only [lyA, lyB, lyC, Act.put, lyD, lyE, lyF]
      refine tkH (i := 3) (v := ?_) rfl (by kernel_rfl) (Or.inl ⟨by kernel_rfl, ?_⟩) (by assumption) ?_
      rotate_left 1
      · (intro w hSw; (try dsimp only at hSw); go_simp; try with_reducible rfl)
      try simp only [lyA, lyB, lyC, Act.put, lyD, lyE, lyF]
      refine tkH (i := 4) (v := ?_) rfl (by kernel_rfl) (Or.inl ⟨by kernel_rfl, ?_⟩) (by assumption) ?_
      rotate_left 1
      · (intro w hSw; (try dsimp only at hSw); go_simp; try with_reducible rfl)
      try simp only [lyA, lyB, lyC, Act.put, lyD, lyE, lyF]
      refine tkH (i := 5) (v := ?_) rfl (by kernel_rfl) (Or.inl ⟨by kernel_rfl, ?_⟩) (by assumption) ?_
      rotate_left 1
      · (intro w hSw; (try dsimp only at hSw); go_simp; try with_reducible rfl)
      try simp only [lyA, lyB, lyC, Act.put, lyD, lyE, lyF]
      refine tkH (i := 6) (v := ?_) rfl (by kernel_rfl) (Or.inl ⟨by kernel_rfl, ?_⟩) (by assumption) ?_
      rotate_left 1
      · (intro w hSw; (try dsimp only at hSw); go_simp; try with_reducible rfl)
      try simp only [lyA, lyB, lyC, Act.put, lyD, lyE, lyF]
      refine tkH (i := 9) (v := ?_) rfl (by kernel_rfl) (Or.inl ⟨by kernel_rfl, ?_⟩) (by assumption) ?_
      rotate_left 1
      · (intro w hSw; (try dsimp only at hSw); go_simp; try with_reducible rfl)
      try simp only [lyA, lyB, lyC, Act.put, lyD, lyE, lyF]
      refine wpAnyH_ready (rs := [7]) (by kernel_rfl) (by simp) ?_
      refine AllReadyH.cons rfl (fun K hK => ?_) AllReadyH.nil
      go_simp
      (refine (digit_any A2 n2 c2 (dig (ln b)) k _ wr.drew (HR2.out.keep (Keeps.below ((Below.refl _ _).drew) (fun b hb => hb))) (by omega) (by omega)).mono ?_; rintro e w' ⟨rfl, rfl⟩; rw [← HD2.out])
      try go_wp2_with fail
      refine hK.out _ _ ?_ (fun hHeld => ?_)
      · first | exact True.intro | ((try dsimp only); go_keep)
      clear hK K
      try simp only [lyA, lyB, lyC, Act.put, lyD, lyE, lyF]
      refine tkH (i := 8) (v := ?_) rfl (by kernel_rfl) (Or.inl ⟨by kernel_rfl, ?_⟩) (by assumption) ?_
      rotate_left 1
      · (intro w hSw; (try dsimp only at hSw); go_simp; try with_reducible rfl)
      try simp only [lyA, lyB, lyC, Act.put, lyD, lyE, lyF]
      refine tkH (i := 10) (v := ?_) rfl (by kernel_rfl) (Or.inl ⟨by kernel_rfl, ?_⟩) (by assumption) ?_
      rotate_left 1
      · (intro w hSw; (try dsimp only at hSw); go_simp; try with_reducible rfl)
      try simp only [lyA, lyB, lyC, Act.put, lyD, lyE, lyF]
      refine wpAnyH_ready (rs := [11]) (by kernel_rfl) (by simp) ?_
      refine AllReadyH.cons rfl (fun K hK => ?_) AllReadyH.nil
      go_simp
      refine hK.out _ _ ?_ (fun hHeld => ?_)
      · first | exact True.intro | ((try dsimp only); go_keep)
      clear hK K
      try simp only [lyA, lyB, lyC, Act.put, lyD, lyE, lyF]
      refine wpAnyH_done (by kernel_rfl) ?_ _
      obtain ⟨wq, hwq⟩ : ∃ wq, wq = wr.drew := ⟨_, rfl⟩
      have HOq := Lib.hid (show wq.ownsRow w2.heap.size 58 1 (.slice A3 k c3) k (zs.flatMap Lc) by rw [hwq]; exact HO.out.drew)
      have HBq := Lib.hid (show Below w2.heap.size w2 wq by rw [hwq]; exact HBW.out.drew)
      rw [← hwq]
      clear hwq hHeld
      have hoA := HOq.out.alloc (.cells #[Value.int .u64 ((s : Int) % 4294967296)] 58)
      have HOA := Lib.hid hoA
      clear hoA
      go_wp2_with (at_builtin; go_must (refine wpList_append_rd _ rfl _ _ _ rfl w2.heap.size 58 i0 _ 1 8 Tryz.underlying76 hi0 hz0 hz1 hz2 rfl (by omega) (.slice A3 k c3) k (zs.flatMap Lc) rfl HOA.out (fun _ => True) (some ⟨wq.heap.size, 0, none⟩) 1 1 [.int .u64 ((s : Int) % 4294967296)] rfl (rd_blk (blk_new ..) rfl trivial) (by simp [Value.oneCell']) (by simp only [maxLen]; omega) (by omega) (by have := HBq.out.size; simp; omega) ?_); intro v2 w4 hown4 hg4 hat4)
      have HB4 := Lib.hid ((HBq.out.alloc HBq.out.size (.cells #[Value.int .u64 ((s : Int) % 4294967296)] 58)).grown hg4 (by have := HBq.out.size; simp; omega) (fun g hg => (HOA.out.lt g hg).1))
      have HO4 := Lib.hid hown4
      clear hown4 hg4 hat4
      go_wp2_with fail
      refine ⟨⟨k + 1, 1 - s / 4294967296, zs ++ [s % 4294967296], by omega, ?_, by first | rfl | go_num, by omega, by simp [HZL.out], HZ.out.append (fun y hy => by simp at hy; subst hy; exact Nat.mod_lt _ (by decide)), HST.out, ?_, HB4.out⟩, by simp [intOf]; omega⟩
      · congr 1
      · rw [List.flatMap_append]
        exact HO4.out
    · obtain rfl : n1 = k := by omega
      have ea : (dig (ln a)).take n1 = dig (ln a) := List.take_of_length_le (by rw [← HN1.out]; exact Nat.le_refl _)
      have eb : (dig (ln b)).take n1 = dig (ln b) := List.take_of_length_le (by rw [← HN2.out]; exact h21)
      have hv : nv zs = ln a - ln b := by
        have h := HS.out
        rw [ea, eb, nv_dig, nv_dig] at h
        have hlt : nv zs < W32 ^ n1 := by have := nv_lt HZ.out; rwa [HZL.out] at this
        have hle := HLE.out
        have hq1 : q = 0 := by
          rcases (show q = 0 ∨ q = 1 by omega) with h1 | h1
          · exact h1
          · subst h1
            rw [Nat.mul_one] at h
            omega
        subst hq1
        omega
      have HVV := Lib.hid hv
      have HLa := Lib.hid (own_lat HO.out)
      have hzb : zs.length ≤ 30000000000 := by rw [HZL.out]; omega
      clear ea eb hv
      go_wp2_with fail
      refine (limbs_any _ zs _ HLa.out HZ.out (by omega)).mono ?_
      rintro e w5 ⟨v5, rfl, hv5, hb5⟩
      rw [HVV.out] at hv5
      have HV5 := Lib.hid hv5
      have HB5 := Lib.hid ((HW2.out.trans (HBW.out.mono HW2.out.size)).trans (hb5.mono (Nat.le_trans HW2.out.size HBW.out.size)))
      clear hv5 hb5
      go_wp2_with fail
      go_ret
      exact ⟨_, rfl, HV5.out, HB5.out⟩

end Go.Proofs.YtkfhbnfoiicioaaGreatDoor

/- girderref00: NatUp, NatDown: the walks -/
namespace Go.Proofs.YtkfhbnfoiicioaaGreatDoor
open Go.RowKit Go.Sort

theorem up_step {W H P q b R x s Y : Nat} (hI : Y + H * P * q = H * b * R) (hs : s = x * b + q) : Y + H * P * (s % W) + H * P * W * (s / W) = H * b * (R + P * x) := by
  have h := Nat.mod_add_div s W
  have e : H * P * (s % W) + H * P * W * (s / W) = H * P * s := by rw [Nat.mul_assoc (H * P), ← Nat.mul_add, h]
  rw [Nat.add_assoc, e, hs, Nat.mul_add, Nat.mul_add, ← hI]
  have : H * P * (x * b) = H * b * (P * x) := by ac_rfl
  omega
theorem dbl {i s b : Nat} (hb : b = 2 ^ i) (hi : i < s) (hs : s < 32) : 2 * b = 2 ^ (i + 1) ∧ 2 * b < 4294967296 := by
  have h : 2 ^ (i + 1) ≤ 2 ^ 31 := Nat.pow_le_pow_right (by decide) (by omega)
  have e : 2 ^ (i + 1) = 2 * 2 ^ i := Nat.pow_succ'
  rw [hb]
  exact ⟨e.symm, by omega⟩

set_option maxRecDepth 100000 in
set_option maxHeartbeats 8000000 in
theorem natUp_any (v : Value) (a : List Nat) (N : Nat) (w : World) (ha : LAt w v a) (la : Lds a) (na : a.length ≤ 10000000000) (hN : N ≤ 1000000000) :
    Calls Tryz.prog 152 #[v, .int .i64 (N : Int)] w fun e w' => ∃ v', e = .returned v' ∧ LAt w' v' (lim (ln a * 2 ^ N)) ∧ Below w.heap.size w w' := by
  obtain ⟨i0, hi0, hz0, hz1, hz2⟩ := info_parts' info_u64
  have HA := Lib.hid ha
  have LA := Lib.hid la
  clear ha la
  go_enter Tryz.func152, Tryz.ntmps152
  go_wp2_with fail
  refine (halves_any v a w HA.out LA.out (by omega)).mono ?_
  rintro e w1 ⟨v1, rfl, hv1, hb1⟩
  have HB1 := Lib.hid hb1
  obtain ⟨A1, c1, rfl, hc1, hx1⟩ := hv1
  obtain ⟨n, hn⟩ : ∃ n, n = (dig (ln a)).length := ⟨_, rfl⟩
  rw [← hn] at hx1 hc1 ⊢
  have hl : n ≤ 20000000000 := by rw [hn]; exact Nat.le_trans (dig_len2 LA.out) (by omega)
  obtain ⟨X, hX⟩ : ∃ X, X = ln a := ⟨_, rfl⟩
  rw [← hX] at hx1 hn
  have HXX := Lib.hid hx1
  have HN := Lib.hid hn
  have HXV := Lib.hid hX
  clear hb1 hx1 hn hX
  by_cases h0 : n = 0
  · subst h0
    have hx0 : X = 0 := dig_len_zero.1 HN.out.symm
    have HX0 := Lib.hid hx0
    clear hx0
    go_wp2_with fail
    go_ret
    exact ⟨_, rfl, by rw [← HXV.out, HX0.out, Nat.zero_mul]; exact LAt.nil .., HB1.out⟩
  · have e0 : ((n : Int) == 0) = false := by simp; omega
    obtain ⟨h, hh⟩ : ∃ h, h = N / 32 := ⟨_, rfl⟩
    obtain ⟨s, hs⟩ : ∃ s, s = N % 32 := ⟨_, rfl⟩
    have e1 : (N : Int) / 32 = (h : Int) := by omega
    have e2 : (N : Int) % 32 = (s : Int) := by omega
    have hs32 : s < 32 := by omega
    have HNN : Hid (N = h * 32 + s) := Lib.hid (by omega)
    have hhb : h ≤ 1000000000 := by omega
    have e1h : 0 ≤ (N : Int) / 32 := by omega
    clear hh hs
    go_wp2_with (at_make; go_must (refine wpList_make_full _ rfl _ _ _ rfl w1.heap.size 58 i0 _ 1 Tryz.underlying76 hi0 hz0 hz1 .i64 .i64 _ _ h (by first | rfl | rw [e1]) (by first | rfl | rw [e1]) (by omega) (by omega) (by rw [hz2]; omega) (by simp only [maxLen]; omega) (Nat.le_refl _) ?_); intro w2 hown2 hg2)
    have hinv := hown2
    rw [made_u64] at hinv
    have HI := Lib.hid hinv
    have HB2 := Lib.hid (below_of_grown hg2 (fun g hg => by cases hg))
    clear hown2 hg2 hinv
    go_loopw [8, 9] (fun bv iv wr => ∃ (i b : Nat), i ≤ s ∧ bv = .int .u64 b ∧ iv = .int .i64 i ∧ b = 2 ^ i ∧ w2 = wr) (fun _ i _ => s - (intOf i).toNat)
    case atStart => exact ⟨0, 1, Nat.zero_le _, rfl, rfl, rfl, rfl⟩
    case round =>
      obtain ⟨i, b, hi, rfl, rfl, hb, rfl⟩ := hrel
      by_cases hlt : i < s
      · have hd := dbl hb hlt hs32
        have h1 : (i : Int) < (N : Int) % 32 := by omega
        have HD := Lib.hid hd.1
        have hd2 := hd.2
        clear hb hd
        go_wp2_with fail
        refine ⟨⟨i + 1, 2 * b, by omega, by go_num, by go_num, HD.out, by first | rfl | trivial⟩, by simp [intOf]; omega⟩
      · obtain rfl : i = s := by omega
        have h1 : ¬ (i : Int) < (N : Int) % 32 := by omega
        have hbl : b ≤ 2147483648 := by rw [hb]; exact Nat.pow_le_pow_right (show 0 < 2 by decide) (show i ≤ 31 by omega)
        have HBI := Lib.hid hb
        clear hb
        go_wp2_with fail
        go_loopw [6, 7, 10] (fun ov cv iv wx => ∃ (k q : Nat) (zs : List Nat), k ≤ n ∧ cv = .int .u64 q ∧ iv = .int .i64 k ∧ q < 4294967296 ∧ zs.length = h + k ∧ Wds zs ∧ nv zs + W32 ^ h * W32 ^ k * q = W32 ^ h * b * nv ((dig X).take k) ∧ wx.ownsRow w1.heap.size 58 1 ov (h + k) (zs.flatMap Lc) ∧ Below w1.heap.size w1 wx) (fun _ _ iv _ => n - (intOf iv).toNat)
        case atStart => exact ⟨0, 0, List.replicate h 0, Nat.zero_le _, rfl, rfl, by decide, by simp, fun x hx => by rw [(List.mem_replicate.1 hx).2]; decide, by rw [(zero_rep h 0).val]; simp [nv], by simpa using HI.out, HB2.out⟩
        case round =>
          obtain ⟨k, q, zs, hk, rfl, rfl, hq, hzl, hzw, hsum, hown, hbw⟩ := hrel
          have HO := Lib.hid hown
          have HBW := Lib.hid hbw
          have HS := Lib.hid hsum
          have HZ := Lib.hid hzw
          have HZL := Lib.hid hzl
          obtain ⟨A3, c3, rfl, hc3, _⟩ := own_slice hown
          clear hown hbw hsum hzw hzl
          by_cases hlt2 : k < n
          · obtain ⟨x, hx⟩ := get_some HXX.out.num hlt2
            obtain ⟨b1, o1, rfl, hSb, hc⟩ := HXX.out.elem Lc.clen hx (by omega)
            have q0 : wr.cell? ⟨b1, o1 + k, none⟩ = some (.int .u64 (x : Int)) := by have h := (HBW.out.cell (p := ⟨b1, _, none⟩) hSb).trans (hc 0 _ rfl); rw [Nat.mul_one, Nat.add_zero] at h; exact h
            have hxl : x < 4294967296 := (dig_wds X).get hx
            have HXG := Lib.hid hx
            obtain ⟨t, ht⟩ : ∃ t : Nat, t = x * b + q := ⟨_, rfl⟩
            obtain ⟨m, hm⟩ : ∃ m, m = x * b := ⟨_, rfl⟩
            have hmul : m ≤ 4294967295 * 2147483648 := by rw [hm]; exact Nat.mul_le_mul (by omega) hbl
            have hmi : (x : Int) * (b : Int) = (m : Int) := by rw [hm]; simp
            have hte : (m : Int) + (q : Int) = (t : Int) := by omega
            have htl : t < 18446744073709551616 := by omega
            have HT := Lib.hid ht
            clear hx hc ht hm
            have hoA := HO.out.alloc (.cells #[Value.int .u64 ((t : Int) % 4294967296)] 58)
            have HOA := Lib.hid hoA
            clear hoA
            go_wp2_with (at_builtin; go_must (refine wpList_append_rd _ rfl _ _ _ rfl w1.heap.size 58 i0 _ 1 8 Tryz.underlying76 hi0 hz0 hz1 hz2 rfl (by omega) (.slice A3 (h + k) c3) (h + k) (zs.flatMap Lc) rfl HOA.out (fun _ => True) (some ⟨wr.heap.size, 0, none⟩) 1 1 [.int .u64 ((t : Int) % 4294967296)] rfl (rd_blk (blk_new ..) rfl trivial) (by simp [Value.oneCell']) (by simp only [maxLen]; omega) (by omega) (by have := HBW.out.size; simp; omega) ?_); intro v2 w4 hown4 hg4 hat4)
            have HB4 := Lib.hid ((HBW.out.alloc HBW.out.size (.cells #[Value.int .u64 ((t : Int) % 4294967296)] 58)).grown hg4 (by have := HBW.out.size; simp; omega) (fun g hg => (HOA.out.lt g hg).1))
            have hle : zs.flatMap Lc ++ [Value.int .u64 ((t : Int) % 4294967296)] = (zs ++ [t % 4294967296]).flatMap Lc := by rw [List.flatMap_append]; rfl
            rw [hle] at hown4
            have HO4 := Lib.hid hown4
            clear hown4 hg4 hat4 hle
            go_wp2_with fail
            refine ⟨⟨k + 1, t / 4294967296, zs ++ [t % 4294967296], by omega, rfl, by go_num, by omega, by simp [HZL.out]; omega, HZ.out.append (fun y hy => by simp at hy; subst hy; exact Nat.mod_lt _ (by decide)), ?_, HO4.out, HB4.out⟩, by simp [intOf]; omega⟩
            rw [nv_append, HZL.out, nv_take_succ HXG.out, Nat.pow_add, Nat.pow_succ, ← Nat.mul_assoc (W32 ^ h)]
            have e5 : nv [t % 4294967296] = t % 4294967296 := by simp [nv]
            rw [e5]
            exact up_step HS.out HT.out
          · obtain rfl : k = n := by omega
            have hoA := HO.out.alloc (.cells #[Value.int .u64 (q : Int)] 58)
            have HOA := Lib.hid hoA
            have e6 : (dig X).take k = dig X := List.take_of_length_le (by rw [HXX.out.num]; exact Nat.le_refl _)
            have hfin : nv (zs ++ [q]) = X * 2 ^ N := by
              have hh := HS.out
              rw [e6, nv_dig] at hh
              rw [nv_append, HZL.out, Nat.pow_add]
              have e5 : nv [q] = q := by simp [nv]
              rw [e5, hh, HNN.out, Nat.pow_add, HBI.out, Nat.mul_comm h 32, ← W32_pow, Nat.mul_comm]
            have HFIN := Lib.hid hfin
            clear hoA e6 hfin
            go_wp2_with (at_builtin; go_must (refine wpList_append_rd _ rfl _ _ _ rfl w1.heap.size 58 i0 _ 1 8 Tryz.underlying76 hi0 hz0 hz1 hz2 rfl (by omega) (.slice A3 (h + k) c3) (h + k) (zs.flatMap Lc) rfl HOA.out (fun _ => True) (some ⟨wr.heap.size, 0, none⟩) 1 1 [.int .u64 (q : Int)] rfl (rd_blk (blk_new ..) rfl trivial) (by simp [Value.oneCell']) (by simp only [maxLen]; omega) (by omega) (by have := HBW.out.size; simp; omega) ?_); intro v2 w4 hown4 hg4 hat4)
            have HB4 := Lib.hid ((HBW.out.alloc HBW.out.size (.cells #[Value.int .u64 (q : Int)] 58)).grown hg4 (by have := HBW.out.size; simp; omega) (fun g hg => (HOA.out.lt g hg).1))
            have hle : zs.flatMap Lc ++ [Value.int .u64 (q : Int)] = (zs ++ [q]).flatMap Lc := by rw [List.flatMap_append]; rfl
            rw [hle] at hown4
            have HLa := Lib.hid (own_lat hown4)
            have hzb : (zs ++ [q]).length ≤ 30000000000 := by rw [List.length_append, HZL.out]; simp; omega
            clear hown4 hg4 hat4 hle
            (try go_wp2_with fail)
            refine (limbs_any _ (zs ++ [q]) _ HLa.out (HZ.out.append (fun y hy => by simp at hy; subst hy; exact hq)) (by omega)).mono ?_
            rintro e w5 ⟨v5, rfl, hv5, hb5⟩
            rw [HFIN.out] at hv5
            have HV5 := Lib.hid hv5
            have HB5 := Lib.hid ((HB1.out.trans (HB4.out.mono HB1.out.size)).trans (hb5.mono (Nat.le_trans HB1.out.size HB4.out.size)))
            clear hv5 hb5
            go_wp2_with fail
            go_ret
            exact ⟨_, rfl, by rw [← HXV.out]; exact HV5.out, HB5.out⟩

end Go.Proofs.YtkfhbnfoiicioaaGreatDoor

/- girderref00: Zero, top and Rounded of a number: the walks -/
namespace Go.Proofs.YtkfhbnfoiicioaaGreatDoor
open Go.RowKit Go.Sort

theorem bz {N : Nat} : ((blen N : Int) == 0) = decide (N = 0) := by
  by_cases h : N = 0
  · subst h; rfl
  · have := blen_pos h
    have h2 : blen N ≠ 0 := by omega
    simp [h, h2]
/-- a number of girderref00 -/
def NAt (w : World) (v : Value) (s : Bool) (xs : List Nat) (e : Int) : Prop := ∃ A n c, v = .agg #[.bool s, .slice A n c, .int .i64 e] ∧ LAt w (.slice A n c) xs

set_option maxRecDepth 100000 in
set_option maxHeartbeats 4000000 in
theorem zeroN_any (v : Value) (s : Bool) (xs : List Nat) (e : Int) (w : World) (h : NAt w v s xs e) (hl : Lds xs) (hn : xs.length ≤ 10000000000) :
    Calls Tryz.prog 127 #[v] w fun r w' => r = .returned (.bool (decide (ln xs = 0))) ∧ Below w.heap.size w w' := by
  obtain ⟨A, n, c, rfl, hx⟩ := h
  have HX := Lib.hid hx
  have HL := Lib.hid hl
  obtain ⟨z, hz⟩ : ∃ z, z = decide (ln xs = 0) := ⟨_, rfl⟩
  have hb := bz (N := ln xs)
  rw [← hz] at hb ⊢
  clear hx hl hz
  go_enter Tryz.func127, Tryz.ntmps127
  go_wp2_with fail
  refine (natBits_any _ xs _ (HX.out.below (below1 ..)) HL.out hn).mono ?_
  rintro e w1 ⟨rfl, hb1⟩
  have HB1 := Lib.hid (below_then (below1 w _) hb1)
  clear hb1
  go_wp2_with fail
  go_ret
  exact ⟨rfl, HB1.out⟩
set_option maxRecDepth 100000 in
set_option maxHeartbeats 4000000 in
theorem topN_any (v : Value) (s : Bool) (xs : List Nat) (e : Int) (w : World) (h : NAt w v s xs e) (hl : Lds xs) (hn : xs.length ≤ 1000000000) (he : -1000000000 ≤ e) (he2 : e ≤ 1000000000) :
    Calls Tryz.prog 102 #[v] w fun r w' => r = .returned (.int .i64 (e + blen (ln xs))) ∧ Below w.heap.size w w' := by
  obtain ⟨A, n, c, rfl, hx⟩ := h
  have HX := Lib.hid hx
  have HL := Lib.hid hl
  obtain ⟨b, hb⟩ : ∃ b, b = blen (ln xs) := ⟨_, rfl⟩
  have hbl : b ≤ 100000000000 := by
    rw [hb]
    have h1 := ln_lt hl
    rw [W64_pow] at h1
    have := blen_le_of_lt h1
    omega
  rw [← hb]
  have HBB := Lib.hid hb
  have hbx := below1 w (.cells #[.bool s, .slice A n c, .int .i64 e] 100)
  have k1 := new_cell w #[.bool s, .slice A n c, .int .i64 e] 100 1 _ rfl
  have k2 := new_cell w #[.bool s, .slice A n c, .int .i64 e] 100 2 _ rfl
  obtain ⟨w0, hw0⟩ : ∃ w0, w0 = w.alloc (.cells #[.bool s, .slice A n c, .int .i64 e] 100) := ⟨_, rfl⟩
  rw [← hw0] at hbx k1 k2
  have HB0 := Lib.hid hbx
  have HW0 := Lib.hid hw0
  have hwr : IntKind.i64.wrap (e + (b : Int)) = e + b := IntWalk.i64_in _ (by omega)
  clear hx hl hb hbx hw0
  go_enter Tryz.func102, Tryz.ntmps102
  go_wp2_with fail
  rw [← HW0.out]
  refine wp_region_held_drew (S := (fun w' => w'.cell? ⟨w.heap.size, 1, none⟩ = some (.slice A n c) ∧ w'.cell? ⟨w.heap.size, 2, none⟩ = some (.int .i64 e))) (by kernel_rfl) ?_ (fun hHeld => ?_)
  · first | exact True.intro | ((try dsimp only); go_keep)
  clear k1 k2
  refine tkH (i := 0) (v := ?_) rfl (by kernel_rfl) (Or.inl ⟨by kernel_rfl, ?_⟩) (by assumption) ?_
  rotate_left 1
  · (intro w hSw; (try dsimp only at hSw); go_simp; try with_reducible rfl)
  try simp only [lyA, lyB, lyC, Act.put, lyD, lyE, lyF]
  refine tkH (i := 1) (v := ?_) rfl (by kernel_rfl) (Or.inl ⟨by kernel_rfl, ?_⟩) (by assumption) ?_
  rotate_left 1
  · (intro w hSw; (try dsimp only at hSw); go_simp; try with_reducible rfl)
  try simp only [lyA, lyB, lyC, Act.put, lyD, lyE, lyF]
  refine tkH (i := 2) (v := ?_) rfl (by kernel_rfl) (Or.inl ⟨by kernel_rfl, ?_⟩) (by assumption) ?_
  rotate_left 1
  · (intro w hSw; (try dsimp only at hSw); go_simp; try with_reducible rfl)
  try simp only [lyA, lyB, lyC, Act.put, lyD, lyE, lyF]
  refine tkH (i := 3) (v := ?_) rfl (by kernel_rfl) (Or.inl ⟨by kernel_rfl, ?_⟩) (by assumption) ?_
  rotate_left 1
  · (intro w hSw; (try dsimp only at hSw); go_simp; try with_reducible rfl)
  try simp only [lyA, lyB, lyC, Act.put, lyD, lyE, lyF]
  refine wpAnyH_ready (rs := [4]) (by kernel_rfl) (by simp) ?_
  refine AllReadyH.cons rfl (fun K hK => ?_) AllReadyH.nil
  go_simp
  (refine (natBits_any _ xs w0.drew (HX.out.below HB0.out.drew) HL.out (by omega)).mono ?_; rw [← HBB.out]; rintro e w4 ⟨rfl, hb4⟩; have hHeld := And.intro (bat hb4 hHeld.1) (bat hb4 hHeld.2); have HB4 := Lib.hid (HB0.out.drew.trans (hb4.mono HB0.out.size)); clear hb4)
  try go_wp2_with fail
  refine hK.out _ _ ?_ (fun hHeld => ?_)
  · first | exact True.intro | ((try dsimp only); go_keep)
  clear hK K
  try simp only [lyA, lyB, lyC, Act.put, lyD, lyE, lyF]
  refine tkH (i := 5) (v := ?_) rfl (by kernel_rfl) (Or.inl ⟨by kernel_rfl, ?_⟩) (by assumption) ?_
  rotate_left 1
  · (intro w hSw; (try dsimp only at hSw); go_simp; try with_reducible rfl)
  try simp only [lyA, lyB, lyC, Act.put, lyD, lyE, lyF]
  refine wpAnyH_ready (rs := [6]) (by kernel_rfl) (by simp) ?_
  refine AllReadyH.cons rfl (fun K hK => ?_) AllReadyH.nil
  go_simp
  refine hK.out _ _ ?_ (fun hHeld => ?_)
  · first | exact True.intro | ((try dsimp only); go_keep)
  clear hK K
  try simp only [lyA, lyB, lyC, Act.put, lyD, lyE, lyF]
  refine wpAnyH_done (by kernel_rfl) ?_ _
  go_wp2_with fail
  go_ret
  exact ⟨rfl, HB4.out⟩

end Go.Proofs.YtkfhbnfoiicioaaGreatDoor

/- a float as a fraction (plain) -/
namespace Go.Proofs.YtkfhbnfoiicioaaGreatDoor
theorem split_sub {g : Nat} (h : g / 4503599627370496 = 0) : Vr g = g % 4503599627370496 * 2 ^ ((-1074 : Int) + 1074).toNat := by
  have h1 : g < 2 ^ 52 := by have : (2 : Nat) ^ 52 = 4503599627370496 := by decide
                             omega
  unfold Vr
  rw [if_pos h1, show ((-1074 : Int) + 1074).toNat = 0 from rfl, Nat.pow_zero, Nat.mul_one]
  omega
theorem split_nor {g E : Nat} (hE : E = g / 4503599627370496) (h : 0 < E) : Vr g = (g % 4503599627370496 + 4503599627370496) * 2 ^ (((E : Int) - 1075) + 1074).toNat := by
  have e52 : (2 : Nat) ^ 52 = 4503599627370496 := by decide
  have h1 : ¬ g < 2 ^ 52 := by omega
  unfold Vr
  rw [if_neg h1, e52, ← hE, show (((E : Int) - 1075) + 1074).toNat = E - 1 by omega, Nat.add_comm]

end Go.Proofs.YtkfhbnfoiicioaaGreatDoor
