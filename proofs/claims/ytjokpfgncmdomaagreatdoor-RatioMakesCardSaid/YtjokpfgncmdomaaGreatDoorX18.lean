import Derived.Test.YtjokpfgncmdomaaGreatDoorX17
set_option linter.unusedSimpArgs false
set_option linter.unusedVariables false
/- girderref02: low, NatTrim, digit, halves, limbs, NatOf: the walks -/
namespace Go.Proofs.YtjokpfgncmdomaaGreatDoor
open Go.RowKit Go.Sort

/-- a list of limbs (or of digits of 32 bits in cells of 64) -/
def LAt (w : World) (v : Value) (xs : List Nat) : Prop := ∃ A c, v = .slice A xs.length c ∧ xs.length ≤ c ∧ RdE Lc 1 w (fun b => b < w.heap.size) A xs.length xs
theorem LAt.below {w w' : World} {v : Value} {xs : List Nat} (h : LAt w v xs) (hb : Below w.heap.size w w') : LAt w' v xs := by
  obtain ⟨A, c, e, hc, hr⟩ := h
  exact ⟨A, c, e, hc, (hr.keep (Keeps.below hb (fun b hb => hb))).imp fun b h => Nat.lt_of_lt_of_le h hb.size⟩
theorem dig_len2 {ls : List Nat} (h : Lds ls) : (dig (ln ls)).length ≤ 2 * ls.length := dig_len_le (by
  have h1 := ln_lt h
  rw [W64_pow] at h1
  rw [W32_pow]
  refine Nat.lt_of_lt_of_le h1 (Nat.pow_le_pow_right (by decide) (by omega)))
theorem LAt.nil (w : World) (A : Option Addr) (c : Nat) : LAt w (.slice A 0 c) [] := ⟨A, c, rfl, Nat.zero_le _, RdE.nil ..⟩
/-- the first k are something, what is behind is not -/
def Trim (xs : List Nat) (k : Nat) : Prop := (∀ (i x : Nat), k ≤ i → xs[i]? = some x → x = 0) ∧ (∀ x : Nat, 0 < k → xs[k - 1]? = some x → x ≠ 0)
theorem trim_last {xs : List Nat} {k : Nat} (hk : k ≤ xs.length) (h : Trim xs k) : ∀ hn : xs.take k ≠ [], (xs.take k).getLast hn ≠ 0 := by
  intro hn
  have hk0 : 0 < k := by
    rcases Nat.eq_zero_or_pos k with h0 | h0
    · subst h0; simp at hn
    · exact h0
  have e : (xs.take k)[k - 1]? = some ((xs.take k).getLast hn) := by
    rw [List.getLast_eq_getElem]
    have : (xs.take k).length = k := by rw [List.length_take]; omega
    have h2 := List.getElem?_eq_getElem (l := xs.take k) (i := (xs.take k).length - 1) (by omega)
    rw [← h2, this]
  rw [List.getElem?_take_of_lt (by omega)] at e
  exact h.2 _ hk0 e
theorem trim_dig {xs : List Nat} {k : Nat} (hk : k ≤ xs.length) (hw : Wds xs) (h : Trim xs k) : xs.take k = dig (nv xs) := by
  have e : nv xs = nv (xs.take k) := ZeroFrom.val h.1
  rw [e]
  exact dig_of_wds (hw.take k) (trim_last hk h)
theorem trim_lim {xs : List Nat} {k : Nat} (hk : k ≤ xs.length) (hw : Lds xs) (h : Trim xs k) : xs.take k = lim (ln xs) := by
  have e : ln xs = ln (xs.take k) := LZeroFrom.val h.1
  rw [e]
  exact lim_of_lds (hw.take k) (trim_last hk h)
theorem wds_lds {xs : List Nat} (h : Wds xs) : Lds xs := fun x hx => Nat.lt_trans (h x hx) (by decide)

set_option maxRecDepth 100000 in
set_option maxHeartbeats 2000000 in
theorem low_any (A : Option Addr) (n c : Nat) (xs : List Nat) (w : World) (hx : RdE Lc 1 w (fun b => b < w.heap.size) A n xs) (hl : Lds xs) (hn : n ≤ 1000000000000) (hnc : n ≤ c) :
    Calls Tryz.prog 172 #[.slice A n c] w fun e w' => ∃ k, e = .returned (.slice A k c) ∧ k ≤ n ∧ Trim xs k ∧ w = w' := by
  have HX := Lib.hid hx
  have HL := Lib.hid hl
  clear hx hl
  go_enter Tryz.func172, Tryz.ntmps172
  go_wp2_with fail
  go_loop [3] (fun i => ∃ k : Nat, k ≤ n ∧ i = .int .i64 k ∧ (∀ (i x : Nat), k ≤ i → xs[i]? = some x → x = 0)) (fun i => (intOf i).toNat)
  case atStart => exact ⟨n, Nat.le_refl _, rfl, fun i x hi hx => by rw [List.getElem?_eq_none (by rw [HX.out.num]; exact hi)] at hx; cases hx⟩
  case round =>
    obtain ⟨k, hk, rfl, hv⟩ := hrel
    have HV := Lib.hid hv
    clear hv
    by_cases h0 : k = 0
    · subst h0
      go_wp2_with fail
      go_ret
      exact ⟨0, rfl, Nat.zero_le _, ⟨HV.out, fun x h => absurd h (by decide)⟩, rfl⟩
    · obtain ⟨j, rfl⟩ : ∃ j, k = j + 1 := ⟨k - 1, by omega⟩
      obtain ⟨x, hx⟩ := get_some HX.out.num (show j < n by omega)
      obtain ⟨b, o, rfl, hSb, hc⟩ := HX.out.elem Lc.clen hx (by omega)
      have q0 : w.cell? ⟨b, o + j, none⟩ = some (.int .u64 (x : Int)) := by have h := hc 0 _ rfl; rw [Nat.mul_one, Nat.add_zero] at h; exact h
      have hxl : x < 18446744073709551616 := HL.out.get hx
      have HXX := Lib.hid hx
      clear hx hc
      by_cases hz : x = 0
      · subst hz
        go_wp2_with fail
        go_round
        case rel =>
          refine ⟨j, by omega, by go_num, fun i x hi hx => ?_⟩
          rcases Nat.lt_or_eq_of_le hi with h | h
          · exact HV.out i x h hx
          · subst h; rw [HXX.out] at hx; cases hx; rfl
        case measure => simp [intOf]
      · have hzb : ((x : Int) == 0) = false := by simp; omega
        have HZ := Lib.hid hz
        clear hz
        go_wp2_with fail
        go_ret
        refine ⟨j + 1, rfl, by omega, ⟨HV.out, fun y _ hy => ?_⟩, rfl⟩
        rw [Nat.add_sub_cancel, HXX.out] at hy
        cases hy
        exact HZ.out
set_option maxRecDepth 100000 in
set_option maxHeartbeats 2000000 in
theorem natTrim_any (v : Value) (xs : List Nat) (w : World) (h : LAt w v xs) (hl : Lds xs) (hn : xs.length ≤ 1000000000000) :
    Calls Tryz.prog 74 #[v] w fun e w' => ∃ v', e = .returned v' ∧ LAt w' v' (lim (ln xs)) ∧ Below w.heap.size w w' := by
  obtain ⟨i0, hi0, hz0, hz1, hz2⟩ := info_parts' info_u64
  obtain ⟨A, c, rfl, hnc, hx⟩ := h
  obtain ⟨n, hnn⟩ : ∃ n, n = xs.length := ⟨_, rfl⟩
  rw [← hnn] at hx hnc hn ⊢
  have HX := Lib.hid hx
  have HL := Lib.hid hl
  clear hx hl hnn
  go_enter Tryz.func74, Tryz.ntmps74
  go_wp2_with fail
  go_loop [3] (fun i => ∃ k : Nat, k ≤ n ∧ i = .int .i64 k ∧ (∀ (i x : Nat), k ≤ i → xs[i]? = some x → x = 0)) (fun i => (intOf i).toNat)
  case atStart => exact ⟨n, Nat.le_refl _, rfl, fun i x hi hx => by rw [List.getElem?_eq_none (by rw [HX.out.num]; exact hi)] at hx; cases hx⟩
  case round =>
    obtain ⟨k, hk, rfl, hv⟩ := hrel
    have HV := Lib.hid hv
    clear hv
    have fin : ∀ (k : Nat), k ≤ n → Trim xs k → ∀ (v1 : Value) (w1 : World), w1.ownsRow w.heap.size 58 1 v1 (0 + k) ([] ++ (xs.take k).flatMap Lc) → LAt w1 v1 (lim (ln xs)) := by
      intro k hk ht v1 w1 hown
      rw [Nat.zero_add, List.nil_append] at hown
      obtain ⟨A', c', rfl, hc', _⟩ := own_slice hown
      have e : k = (lim (ln xs)).length := by rw [← trim_lim (by rw [HX.out.num]; exact hk) HL.out ht, List.length_take, HX.out.num]; omega
      have hr := (RdE.of_own Lc.clen (by omega) hown).imp (S' := fun b => b < w1.heap.size) (fun b h => h.2.1)
      rw [trim_lim (by rw [HX.out.num]; exact hk) HL.out ht] at hr
      rw [e] at hr hc' ⊢
      exact ⟨A', c', rfl, hc', hr⟩
    have FIN := Lib.hid fin
    clear fin
    by_cases h0 : k = 0
    · subst h0
      have HT : Hid (Trim xs 0) := Lib.hid ⟨HV.out, fun x h => absurd h (by decide)⟩
      have hr0 := Lib.hid ((HX.out.take Lc.clen (Nat.zero_le n)).rd)
      go_wp2_with (at_builtin; go_must (refine wpList_append_rd _ rfl _ _ _ rfl w.heap.size 58 i0 _ 1 8 Tryz.underlying22 hi0 hz0 hz1 hz2 rfl (by omega) (.slice none 0 0) 0 [] rfl (World.ownsRow_nil _ _ _ _) _ A 0 c ((xs.take 0).flatMap Lc) rfl hr0.out (lc_one _) (by simp only [maxLen]; omega) (by omega) (Nat.le_refl _) ?_); intro v1 w1 hown1 hg1 hat1)
      go_ret
      exact ⟨v1, rfl, FIN.out 0 hk HT.out v1 w1 hown1, below_of_grown hg1 (by simp [Value.ownBlock])⟩
    · obtain ⟨j, rfl⟩ : ∃ j, k = j + 1 := ⟨k - 1, by omega⟩
      obtain ⟨x, hx⟩ := get_some HX.out.num (show j < n by omega)
      obtain ⟨b, o, rfl, hSb, hc⟩ := HX.out.elem Lc.clen hx (by omega)
      have q0 : w.cell? ⟨b, o + j, none⟩ = some (.int .u64 (x : Int)) := by have h := hc 0 _ rfl; rw [Nat.mul_one, Nat.add_zero] at h; exact h
      have hxl : x < 18446744073709551616 := HL.out.get hx
      have HXX := Lib.hid hx
      clear hx hc
      by_cases hz : x = 0
      · subst hz
        go_wp2_with fail
        go_round
        case rel =>
          refine ⟨j, by omega, by go_num, fun i x hi hx => ?_⟩
          rcases Nat.lt_or_eq_of_le hi with h | h
          · exact HV.out i x h hx
          · subst h; rw [HXX.out] at hx; cases hx; rfl
        case measure => simp [intOf]
      · have hzb : ((x : Int) == 0) = false := by simp; omega
        have HT : Hid (Trim xs (j + 1)) := Lib.hid ⟨HV.out, fun y _ hy => by rw [Nat.add_sub_cancel, HXX.out] at hy; cases hy; exact hz⟩
        have hr0 := Lib.hid ((HX.out.take Lc.clen hk).rd)
        clear hz
        go_wp2_with (at_builtin; go_must (refine wpList_append_rd _ rfl _ _ _ rfl w.heap.size 58 i0 _ 1 8 Tryz.underlying22 hi0 hz0 hz1 hz2 rfl (by omega) (.slice none 0 0) 0 [] rfl (World.ownsRow_nil _ _ _ _) _ (some ⟨b, o, none⟩) (j + 1) c ((xs.take (j + 1)).flatMap Lc) rfl hr0.out (lc_one _) (by simp only [maxLen]; omega) (by omega) (Nat.le_refl _) ?_); intro v1 w1 hown1 hg1 hat1)
        go_ret
        exact ⟨v1, rfl, FIN.out _ hk HT.out v1 w1 hown1, below_of_grown hg1 (by simp [Value.ownBlock])⟩

set_option maxRecDepth 100000 in
set_option maxHeartbeats 2000000 in
theorem digit_any (A : Option Addr) (n c : Nat) (xs : List Nat) (i : Nat) (S : Nat → Prop) (w : World) (hx : RdE Lc 1 w S A n xs) (hi : i ≤ 1000000000000) (hn : n ≤ 1000000000000) :
    Calls Tryz.prog 156 #[.slice A n c, .int .i64 (i : Int)] w fun e w' => e = .returned (.int .u64 ((xs.getD i 0 : Nat) : Int)) ∧ w = w' := by
  by_cases h : i < n
  · obtain ⟨x, hxx⟩ := get_some hx.num h
    obtain ⟨b, o, rfl, hSb, hc⟩ := hx.elem Lc.clen hxx (by omega)
    have q0 : w.cell? ⟨b, o + i, none⟩ = some (.int .u64 (x : Int)) := by have h := hc 0 _ rfl; rw [Nat.mul_one, Nat.add_zero] at h; exact h
    have HE : Hid (xs.getD i 0 = x) := Lib.hid (by simp [List.getD, hxx])
    clear hx hxx hc
    go_enter Tryz.func156, Tryz.ntmps156
    go_wp2_with fail
    go_ret
    exact ⟨by rw [HE.out]; rfl, rfl⟩
  · have HE : Hid (xs.getD i 0 = 0) := Lib.hid (by simp [List.getD, List.getElem?_eq_none (show xs.length ≤ i by rw [hx.num]; omega)])
    clear hx
    go_enter Tryz.func156, Tryz.ntmps156
    go_wp2_with fail
    go_ret
    exact ⟨by rw [HE.out]; rfl, rfl⟩

set_option maxRecDepth 100000 in
set_option maxHeartbeats 2000000 in
theorem halves_any (v : Value) (xs : List Nat) (w : World) (h : LAt w v xs) (hl : Lds xs) (hn : xs.length ≤ 100000000000) :
    Calls Tryz.prog 152 #[v] w fun e w' => ∃ v', e = .returned v' ∧ LAt w' v' (dig (ln xs)) ∧ Below w.heap.size w w' := by
  obtain ⟨i0, hi0, hz0, hz1, hz2⟩ := info_parts' info_u64
  obtain ⟨A, c, rfl, hnc, hx⟩ := h
  obtain ⟨n, hnn⟩ : ∃ n, n = xs.length := ⟨_, rfl⟩
  rw [← hnn] at hx hnc hn ⊢
  have HX := Lib.hid hx
  have HL := Lib.hid hl
  clear hx hl
  have NN := Lib.hid hnn
  clear hnn
  go_enter Tryz.func152, Tryz.ntmps152
  go_wp2_with fail
  go_loopw [3, 4] (fun ov iv wr => ∃ k : Nat, k ≤ n ∧ iv = .int .i64 k ∧ wr.ownsRow w.heap.size 58 1 ov (2 * k) ((hv (xs.take k)).flatMap Lc) ∧ Below w.heap.size w wr) (fun _ iv _ => n - (intOf iv).toNat)
  case atStart => exact ⟨0, Nat.zero_le _, rfl, World.ownsRow_nil .., Below.refl _ _⟩
  case round =>
    obtain ⟨k, hk, rfl, hown, hbw⟩ := hrel
    by_cases hlt : k < n
    · obtain ⟨x, hx⟩ := get_some HX.out.num hlt
      obtain ⟨b, o, rfl, hSb, hc⟩ := HX.out.elem Lc.clen hx (by omega)
      have q0 : wr.cell? ⟨b, o + k, none⟩ = some (.int .u64 (x : Int)) := by have h := (hbw.cell (p := ⟨b, _, none⟩) hSb).trans (hc 0 _ rfl); rw [Nat.mul_one, Nat.add_zero] at h; exact h
      have hxl : x < 18446744073709551616 := HL.out.get hx
      have HXX := Lib.hid hx
      have HO := Lib.hid hown
      have HB := Lib.hid hbw
      clear hx hc hown hbw
      have n0 := cell_regrown q0
      go_wp2_with fail
      refine wp_region_early_below [0] [1, 2, 3, 4, 5, 6, 7, 8, 9, 10] 11 (by kernel_rfl) (by kernel_rfl) (fun _ _ d _ _ h => by cases d <;> exact h) ?_
      simp only [pick, early, List.filterMap_cons, List.filterMap_nil, List.getElem?_cons_succ, List.getElem?_cons_zero, List.size_toArray, List.getElem?_toArray]
      repeat (first | go_big_quiet_step (fail) | quiet_step (fail))
      refine wpQuiet_nil ?_
      intro wq hwq
      have hbq := below_class hwq
      clear hwq n0
      obtain ⟨A3, c3, rfl, hc3, _⟩ := own_slice HO.out
      have hoA := (own_below HO.out hbq).alloc (.cells #[Value.int .u64 ((x : Int) % 4294967296), Value.int .u64 ((x : Int) / 4294967296)] 58)
      have HOA := Lib.hid hoA
      have HBQ := Lib.hid (HB.out.trans (hbq.mono HB.out.size))
      clear hoA hbq
      go_wp2_with (at_builtin; go_must (refine wpList_append_rd _ rfl _ _ _ rfl w.heap.size 58 i0 _ 1 8 Tryz.underlying22 hi0 hz0 hz1 hz2 rfl (by omega) (.slice A3 (2 * k) c3) (2 * k) ((hv (xs.take k)).flatMap Lc) rfl HOA.out (fun _ => True) (some ⟨wq.heap.size, 0, none⟩) 2 2 [.int .u64 ((x : Int) % 4294967296), .int .u64 ((x : Int) / 4294967296)] rfl (rd_blk (blk_new ..) rfl trivial) (by simp [Value.oneCell']) (by simp only [maxLen]; omega) (by omega) (by have := HBQ.out.size; simp; omega) ?_); intro v2 w4 hown4 hg4 hat4)
      have hle : (hv (xs.take k)).flatMap Lc ++ [.int .u64 ((x : Int) % 4294967296), .int .u64 ((x : Int) / 4294967296)] = (hv (xs.take (k + 1))).flatMap Lc := by
        have e : xs.take (k + 1) = xs.take k ++ [x] := by
          obtain ⟨hl, e⟩ := List.getElem?_eq_some_iff.1 HXX.out
          rw [List.take_succ_eq_append_getElem hl, e]
        rw [e, hv_snoc, List.flatMap_append]
        rfl
      rw [hle] at hown4
      have HO4 := Lib.hid hown4
      have HB4 := Lib.hid ((HBQ.out.alloc HBQ.out.size _).grown hg4 (by have := HBQ.out.size; simp; omega) (fun g hg => (HOA.out.lt g hg).1))
      clear hown4 hg4 hle hat4
      first
      | (go_roundw
         case rel => exact ⟨k + 1, by omega, by go_num, HO4.out, HB4.out⟩
         case measure => simp [intOf]; omega)
      | refine ⟨⟨k + 1, by omega, by go_num, HO4.out, HB4.out⟩, by simp [intOf]; omega⟩
    · obtain rfl : n = k := by omega
      have HO := Lib.hid hown
      have HB := Lib.hid hbw
      obtain ⟨A3, c3, rfl, hc3, _⟩ := own_slice hown
      have e : xs.take n = xs := List.take_of_length_le (by rw [HX.out.num]; exact Nat.le_refl _)
      have hr := (RdE.of_own Lc.clen (by omega) hown).imp (S' := fun b => b < wr.heap.size) (fun b h => h.2.1)
      rw [e] at hr
      have HR := Lib.hid hr
      have hlw := hv_wds HL.out
      have HLW := Lib.hid hlw
      clear hown hbw hr e hlw
      go_wp2_with fail
      refine (low_any A3 (2 * n) c3 (hv xs) _ HR.out (wds_lds HLW.out) (by omega) hc3).mono ?_
      rintro e w' ⟨k, rfl, hk2, ht, rfl⟩
      have htk := trim_dig (by rw [HR.out.num]; exact hk2) HLW.out ht
      rw [nv_hv] at htk
      have e : k = (dig (ln xs)).length := by rw [← htk, List.length_take, HR.out.num]; omega
      have hr2 := HR.out.take Lc.clen hk2
      rw [htk] at hr2
      have HR2 := Lib.hid hr2
      have HE := Lib.hid e
      clear hr2 ht htk e
      go_wp2_with fail
      go_ret
      refine ⟨_, rfl, ⟨A3, c3, ?_, ?_, ?_⟩, HB.out⟩
      · rw [← HE.out]; rfl
      · rw [← HE.out]; omega
      · rw [← HE.out]; exact HR2.out

end Go.Proofs.YtjokpfgncmdomaaGreatDoor

/- girderref02: limbs, NatOf, NatAdd: the walks -/
namespace Go.Proofs.YtjokpfgncmdomaaGreatDoor
open Go.RowKit Go.Sort

theorem lb_append : ∀ (a b : List Nat), a.length % 2 = 0 → lb (a ++ b) = lb a ++ lb b
  | [], b, _ => rfl
  | [x], b, h => by simp at h
  | x :: y :: r, b, h => by
    have h2 : r.length % 2 = 0 := by simp only [List.length_cons] at h; omega
    show lb (x :: y :: (r ++ b)) = lb (x :: y :: r) ++ lb b
    rw [lb, lb, lb_append r b h2]
    rfl
theorem lb_two {xs : List Nat} {j x y : Nat} (hx : xs[2 * j]? = some x) (hy : xs[2 * j + 1]? = some y) : lb (xs.take (2 * (j + 1))) = lb (xs.take (2 * j)) ++ [x + W32 * y] := by
  obtain ⟨h1, e1⟩ := List.getElem?_eq_some_iff.1 hx
  obtain ⟨h2, e2⟩ := List.getElem?_eq_some_iff.1 hy
  have e : xs.take (2 * (j + 1)) = xs.take (2 * j) ++ [x, y] := by
    rw [show 2 * (j + 1) = 2 * j + 1 + 1 by omega, List.take_succ_eq_append_getElem h2, e2, List.take_succ_eq_append_getElem h1, e1, List.append_assoc]
    rfl
  rw [e, lb_append _ _ (by rw [List.length_take]; omega)]
  rfl
theorem lb_one {xs : List Nat} {j x : Nat} (hx : xs[2 * j]? = some x) (hl : xs.length = 2 * j + 1) : lb xs = lb (xs.take (2 * j)) ++ [x] := by
  obtain ⟨h1, e1⟩ := List.getElem?_eq_some_iff.1 hx
  have e : xs = xs.take (2 * j) ++ [x] := by
    have h := List.take_succ_eq_append_getElem h1
    rw [e1, List.take_of_length_le (by omega)] at h
    exact h
  have h2 := lb_append (xs.take (2 * j)) [x] (by rw [List.length_take]; omega)
  rw [← e] at h2
  exact h2
theorem own_lat {w : World} {base n : Nat} {v : Value} {xs : List Nat} (h : w.ownsRow base 58 1 v n (xs.flatMap Lc)) : LAt w v xs := by
  have hn := own_num Lc.clen (by omega) h
  obtain ⟨A, c, rfl, hc, _⟩ := own_slice h
  have hr := (RdE.of_own Lc.clen (by omega) h).imp (S' := fun b => b < w.heap.size) (fun b h => h.2.1)
  rw [← hn] at hr hc ⊢
  exact ⟨A, c, rfl, hc, hr⟩

set_option maxRecDepth 100000 in
set_option maxHeartbeats 4000000 in
theorem limbs_any (v : Value) (xs : List Nat) (w : World) (h : LAt w v xs) (hl : Wds xs) (hn : xs.length ≤ 100000000000) :
    Calls Tryz.prog 153 #[v] w fun e w' => ∃ v', e = .returned v' ∧ LAt w' v' (lim (nv xs)) ∧ Below w.heap.size w w' := by
  obtain ⟨i0, hi0, hz0, hz1, hz2⟩ := info_parts' info_u64
  obtain ⟨A, c, rfl, hnc, hx⟩ := h
  obtain ⟨n, hnn⟩ : ∃ n, n = xs.length := ⟨_, rfl⟩
  rw [← hnn] at hx hnc hn ⊢
  have HX := Lib.hid hx
  have HL := Lib.hid hl
  have NN := Lib.hid hnn
  clear hx hl hnn
  go_enter Tryz.func153, Tryz.ntmps153
  go_wp2_with fail
  go_loopw [3, 4] (fun ov iv wr => ∃ k : Nat, 2 * k ≤ n + 1 ∧ iv = .int .i64 ((2 * k : Nat) : Int) ∧ wr.ownsRow w.heap.size 58 1 ov k ((lb (xs.take (2 * k))).flatMap Lc) ∧ Below w.heap.size w wr) (fun _ iv _ => n + 2 - (intOf iv).toNat)
  case atStart => exact ⟨0, by omega, rfl, World.ownsRow_nil .., Below.refl _ _⟩
  case round =>
    obtain ⟨k, hk, rfl, hown, hbw⟩ := hrel
    obtain ⟨i, hi⟩ : ∃ i, i = 2 * k := ⟨_, rfl⟩
    rw [← hi] at hown hk ⊢
    have HI := Lib.hid hi
    clear hi
    by_cases hlt : i < n
    · obtain ⟨x, hx⟩ := get_some HX.out.num hlt
      obtain ⟨b, o, rfl, hSb, hc⟩ := HX.out.elem Lc.clen hx (by omega)
      have q0 : wr.cell? ⟨b, o + i, none⟩ = some (.int .u64 (x : Int)) := by have h := (hbw.cell (p := ⟨b, _, none⟩) hSb).trans (hc 0 _ rfl); rw [Nat.mul_one, Nat.add_zero] at h; exact h
      have hxl : x < 4294967296 := HL.out.get hx
      have HXX := Lib.hid hx
      have HO := Lib.hid hown
      have HB := Lib.hid hbw
      obtain ⟨A3, c3, rfl, hc3, _⟩ := own_slice hown
      have hkb : k ≤ 100000000000 := by have := HI.out; omega
      clear hx hc hown hbw
      by_cases hlt2 : i + 1 < n
      · obtain ⟨y, hy⟩ := get_some HX.out.num hlt2
        obtain ⟨b', o', e', _, hc'⟩ := HX.out.elem Lc.clen hy (by omega)
        cases e'
        have q1 : wr.cell? ⟨b, o + (i + 1), none⟩ = some (.int .u64 (y : Int)) := by have h := (HB.out.cell (p := ⟨b, _, none⟩) hSb).trans (hc' 0 _ rfl); rw [Nat.mul_one, Nat.add_zero] at h; exact h
        have hyl : y < 4294967296 := HL.out.get hy
        have HYY := Lib.hid hy
        obtain ⟨z, hz⟩ : ∃ z : Nat, z = x + 4294967296 * y := ⟨_, rfl⟩
        have hze : (x : Int) + 4294967296 * (y : Int) = (z : Int) := by omega
        have HZ := Lib.hid hz
        clear hy hc' hz
        have hoA := HO.out.alloc (.cells #[Value.int .u64 (z : Int)] 58)
        have HOA := Lib.hid hoA
        clear hoA
        go_wp2_with (at_builtin; go_must (refine wpList_append_rd _ rfl _ _ _ rfl w.heap.size 58 i0 _ 1 8 Tryz.underlying22 hi0 hz0 hz1 hz2 rfl (by omega) (.slice A3 k c3) k ((lb (xs.take i)).flatMap Lc) rfl HOA.out (fun _ => True) (some ⟨wr.heap.size, 0, none⟩) 1 1 [.int .u64 (z : Int)] rfl (rd_blk (blk_new ..) rfl trivial) (by simp [Value.oneCell']) (by simp only [maxLen]; omega) (by omega) (by have := HB.out.size; simp; omega) ?_); intro v2 w4 hown4 hg4 hat4)
        have hle : (lb (xs.take i)).flatMap Lc ++ [.int .u64 (z : Int)] = (lb (xs.take (2 * (k + 1)))).flatMap Lc := by
          have h1 := HXX.out
          have h2 := HYY.out
          rw [HI.out] at h1 h2 ⊢
          rw [lb_two h1 h2, List.flatMap_append, HZ.out]
          rfl
        rw [hle] at hown4
        have HO4 := Lib.hid hown4
        have HB4 := Lib.hid ((HB.out.alloc HB.out.size (.cells #[Value.int .u64 (z : Int)] 58)).grown hg4 (by have := HB.out.size; simp; omega) (fun g hg => (HOA.out.lt g hg).1))
        clear hown4 hg4 hle hat4
        go_wp2_with fail
        refine ⟨⟨k + 1, by have := HI.out; omega, ?_, HO4.out, HB4.out⟩, by simp [intOf]; omega⟩
        rw [HI.out]; go_num
      · have hnx : ¬ i + 1 < n := by omega
        have hoA := HO.out.alloc (.cells #[Value.int .u64 (x : Int)] 58)
        have HOA := Lib.hid hoA
        clear hoA
        go_wp2_with (at_builtin; go_must (refine wpList_append_rd _ rfl _ _ _ rfl w.heap.size 58 i0 _ 1 8 Tryz.underlying22 hi0 hz0 hz1 hz2 rfl (by omega) (.slice A3 k c3) k ((lb (xs.take i)).flatMap Lc) rfl HOA.out (fun _ => True) (some ⟨wr.heap.size, 0, none⟩) 1 1 [.int .u64 (x : Int)] rfl (rd_blk (blk_new ..) rfl trivial) (by simp [Value.oneCell']) (by simp only [maxLen]; omega) (by omega) (by have := HB.out.size; simp; omega) ?_); intro v2 w4 hown4 hg4 hat4)
        have hle : (lb (xs.take i)).flatMap Lc ++ [.int .u64 (x : Int)] = (lb (xs.take (2 * (k + 1)))).flatMap Lc := by
          have h1 := HXX.out
          have h3 := HX.out.num
          rw [HI.out] at h1 ⊢
          rw [List.take_of_length_le (i := 2 * (k + 1)) (by have := HI.out; omega), lb_one h1 (by have := HI.out; omega), List.flatMap_append]
          rfl
        rw [hle] at hown4
        have HO4 := Lib.hid hown4
        have HB4 := Lib.hid ((HB.out.alloc HB.out.size (.cells #[Value.int .u64 (x : Int)] 58)).grown hg4 (by have := HB.out.size; simp; omega) (fun g hg => (HOA.out.lt g hg).1))
        clear hown4 hg4 hle hat4
        go_wp2_with fail
        refine ⟨⟨k + 1, by have := HI.out; omega, ?_, HO4.out, HB4.out⟩, by simp [intOf]; omega⟩
        rw [HI.out]; go_num
    · have HB := Lib.hid hbw
      have e : xs.take i = xs := List.take_of_length_le (by rw [HX.out.num]; omega)
      rw [e] at hown
      have HLa := Lib.hid (own_lat hown)
      have hll : (lb xs).length ≤ 100000000000 := by
        have := own_num Lc.clen (by omega) hown
        have := HI.out
        omega
      have HLD := Lib.hid (lb_lds HL.out)
      clear hown hbw e
      go_wp2_with fail
      refine (natTrim_any _ (lb xs) _ HLa.out HLD.out (by omega)).mono ?_
      rintro e w1 ⟨v1, rfl, hv1, hb1⟩
      rw [ln_lb] at hv1
      have HV1 := Lib.hid hv1
      have HB1 := Lib.hid (HB.out.trans (hb1.mono HB.out.size))
      clear hv1 hb1
      go_wp2_with fail
      go_ret
      exact ⟨_, rfl, HV1.out, HB1.out⟩

set_option maxRecDepth 100000 in
set_option maxHeartbeats 2000000 in
theorem natOf_any (x : Nat) (w : World) (hx : x < 18446744073709551616) :
    Calls Tryz.prog 124 #[.int .u64 (x : Int)] w fun e w' => ∃ v', e = .returned v' ∧ LAt w' v' (lim x) ∧ Below w.heap.size w w' := by
  have hr : LAt (w.alloc (.cells #[.int .u64 (x : Int)] 58)) (.slice (some ⟨w.heap.size, 0, none⟩) 1 1) [x] :=
    ⟨some ⟨w.heap.size, 0, none⟩, 1, rfl, Nat.le_refl _, rde_blk (blk_new ..) rfl (by simp) rfl rfl⟩
  have HR := Lib.hid hr
  have HX := Lib.hid hx
  clear hr hx
  go_enter Tryz.func124, Tryz.ntmps124
  go_wp2_with fail
  refine (natTrim_any _ [x] _ HR.out (fun y hy => by simp at hy; subst hy; exact HX.out) (by simp)).mono ?_
  rintro e w1 ⟨v1, rfl, hv1, hb1⟩
  have e : ln [x] = x := by simp [ln]
  rw [e] at hv1
  have HV1 := Lib.hid hv1
  have HB1 := Lib.hid (below_then (below1 w _) hb1)
  clear hv1 hb1 e
  go_wp2_with fail
  go_ret
  exact ⟨_, rfl, HV1.out, HB1.out⟩

end Go.Proofs.YtjokpfgncmdomaaGreatDoor

/- girderref02: short, times: the walks -/
namespace Go.Proofs.YtjokpfgncmdomaaGreatDoor
open Go.RowKit Go.Sort

theorem getD_take {xs : List Nat} {k : Nat} : nv (xs.take (k + 1)) = nv (xs.take k) + W32 ^ k * xs.getD k 0 := by
  by_cases h : k < xs.length
  · have e := List.take_succ_eq_append_getElem h
    rw [e, nv_append, List.length_take, Nat.min_eq_left (Nat.le_of_lt h)]
    simp [nv, List.getD, List.getElem?_eq_getElem h]
  · rw [List.take_of_length_le (by omega), List.take_of_length_le (by omega)]
    simp [List.getD, List.getElem?_eq_none (show xs.length ≤ k by omega)]
theorem getD_wds {xs : List Nat} (h : Wds xs) (k : Nat) : xs.getD k 0 < 4294967296 := by
  simp only [List.getD]
  cases e : xs[k]? with
  | none => decide
  | some x => exact h.get e
theorem made_u64 (n : Nat) : (madeCells (Value.int .u64 0).cells (n * 1)).toList = (List.replicate n 0).flatMap Lc := made_flat Lc 1 Lc.clen (by omega) 0 n
theorem own_lc {w : World} {base e g n cap : Nat} {ys : List Nat} (h : w.ownsRow base e 1 (.slice (some ⟨g, 0, none⟩) n cap) n (ys.flatMap Lc)) {i o : Nat} (ho : ys[i]? = some o) : w.cell? ⟨g, i, none⟩ = some (.int .u64 (o : Int)) := by
  have h1 := own_elem Lc.clen h ho 0 _ rfl
  rw [Nat.mul_one, Nat.add_zero] at h1
  exact h1

theorem own_set_lc {w : World} {base e g n cap : Nat} {ys : List Nat} (h : w.ownsRow base e 1 (.slice (some ⟨g, 0, none⟩) n cap) n (ys.flatMap Lc)) {i : Nat} (hi : i < ys.length) (s : Nat) :
    (w.setCell ⟨g, i, none⟩ (.int .u64 (s : Int))).ownsRow base e 1 (.slice (some ⟨g, 0, none⟩) n cap) n ((ys.set i s).flatMap Lc) ∧ w.grownBy (w.setCell ⟨g, i, none⟩ (.int .u64 (s : Int))) (some g) := by
  have h1 := h.stored i (.int .u64 (s : Int))
  have h2 := putAll_flat (f := Lc) (size := 1) Lc.clen s ys i hi
  rw [Nat.mul_one] at h2
  rw [← h2]
  exact h1

set_option maxRecDepth 100000 in
set_option maxHeartbeats 4000000 in
theorem short_any (A : Option Addr) (n c d : Nat) (a : List Nat) (w : World) (hx : RdE Lc 1 w (fun b => b < w.heap.size) A n a) (ha : Wds a) (hn : n ≤ 100000000000) (hd0 : 0 < d) (hd : d ≤ 4294967296) :
    Calls Tryz.prog 154 #[.slice A n c, .int .u64 (d : Int)] w fun e w' => ∃ v', e = .returned (.tuple #[v', .int .u64 ((nv a % d : Nat) : Int)]) ∧ LAt w' v' (dig (nv a / d)) ∧ Below w.heap.size w w' := by
  obtain ⟨i0, hi0, hz0, hz1, hz2⟩ := info_parts' info_u64
  have HX := Lib.hid hx
  have HA := Lib.hid ha
  have hdi : (0 : Int) < (d : Int) := by omega
  have hdz : ((d : Int) == 0) = false := by simp; omega
  clear hx ha
  go_enter Tryz.func154, Tryz.ntmps154
  go_wp2_with (at_make; go_must (refine wpList_make_full _ rfl _ _ _ rfl w.heap.size 58 i0 _ 1 Tryz.underlying22 hi0 hz0 hz1 .i64 .i64 _ _ n rfl rfl (by omega) (by omega) (by rw [hz2]; omega) (by simp only [maxLen]; omega) (Nat.le_refl _) ?_); intro w1 hown1 hg1)
  have hinv := hown1
  rw [made_u64] at hinv
  have HI := Lib.hid hinv
  have HB1 := Lib.hid (below_of_grown hg1 (fun g hg => by cases hg))
  clear hown1 hg1 hinv
  go_loopw [7, 8] (fun rv iv wr => ∃ (t r : Nat) (xs : List Nat), t ≤ n ∧ rv = .int .u64 r ∧ (∃ z : Int, iv = .int .i64 z ∧ z = (t : Int) - 1) ∧ r < d ∧ xs.length = n ∧ Wds xs ∧ nv a = nv (a.take t) + W32 ^ t * r + d * nv xs ∧ ZeroTo xs t ∧ wr.ownsRow w.heap.size 58 1 (.slice (some ⟨w.heap.size, 0, none⟩) n n) n (xs.flatMap Lc) ∧ Below w.heap.size w wr) (fun _ i _ => (intOf i + 1).toNat)
  case atStart => exact ⟨n, 0, List.replicate n 0, Nat.le_refl _, rfl, ⟨_, rfl, rfl⟩, hd0, by simp, fun x hx => by rw [(List.mem_replicate.1 hx).2]; decide, by rw [List.take_of_length_le (by rw [HX.out.num]; exact Nat.le_refl _), (zero_rep n 0).val]; simp [nv], zeroTo_rep _ _, HI.out, HB1.out⟩
  case round =>
    obtain ⟨t, r, xs, ht, rfl, ⟨z, rfl, hz⟩, hr, hxl, hxw, hsum, hzt, hown, hbw⟩ := hrel
    have HO := Lib.hid hown
    have HBW := Lib.hid hbw
    have HXW := Lib.hid hxw
    have HSUM := Lib.hid hsum
    have HZT := Lib.hid hzt
    have hl := (RdE.of_own Lc.clen (by omega) hown).imp (S' := fun b => b < wr.heap.size) (fun b h => h.2.1)
    have HLR := Lib.hid hl
    clear hown hbw hxw hsum hzt hl
    by_cases h0 : t = 0
    · subst h0
      obtain rfl : z = -1 := by omega
      have hfin := HSUM.out
      have e : nv (a.take 0) = 0 := by simp [nv]
      rw [e, Nat.pow_zero, Nat.one_mul, Nat.zero_add] at hfin
      have hq : nv a / d = nv xs := by rw [hfin, Nat.add_mul_div_left _ _ hd0, Nat.div_eq_of_lt hr, Nat.zero_add]
      have hm : nv a % d = r := by rw [hfin, Nat.add_mul_mod_self_left, Nat.mod_eq_of_lt hr]
      have HQ := Lib.hid hq
      have HM := Lib.hid hm
      clear hfin e hq hm hz
      go_wp2_with fail
      refine (low_any _ n n xs _ HLR.out (wds_lds HXW.out) (by omega) (Nat.le_refl _)).mono ?_
      rintro e w9 ⟨k, rfl, hk, htr, rfl⟩
      have htk := trim_dig (by omega) HXW.out htr
      have hkl : k = (dig (nv xs)).length := by rw [← htk, List.length_take]; omega
      have hr9 := HLR.out.take Lc.clen hk
      rw [htk] at hr9
      have HR9 := Lib.hid hr9
      have HKL := Lib.hid hkl
      clear hr9 htk htr hkl
      go_wp2_with fail
      go_ret2
      rw [HQ.out, HM.out]
      refine ⟨_, rfl, ⟨some ⟨w.heap.size, 0, none⟩, n, ?_, ?_, ?_⟩, HBW.out⟩
      · rw [← HKL.out]; rfl
      · rw [← HKL.out]; exact hk
      · rw [← HKL.out]; exact HR9.out
    · obtain ⟨j, rfl⟩ : ∃ j, t = j + 1 := ⟨t - 1, by omega⟩
      obtain rfl : z = (j : Int) := by omega
      clear hz
      obtain ⟨x, hx⟩ := get_some HX.out.num (show j < n by omega)
      obtain ⟨b1, o1, rfl, hSb1, hc⟩ := HX.out.elem Lc.clen hx (by omega)
      have q1 : wr.cell? ⟨b1, o1 + j, none⟩ = some (.int .u64 (x : Int)) := by have h := (HBW.out.cell (p := ⟨b1, _, none⟩) hSb1).trans (hc 0 _ rfl); rw [Nat.mul_one, Nat.add_zero] at h; exact h
      have hxlt : x < 4294967296 := HA.out.get hx
      obtain ⟨o, ho⟩ := get_some hxl (show j < n by omega)
      obtain rfl : o = 0 := HZT.out _ _ (by omega) ho
      have q0 := own_lc HO.out ho
      have hf := HO.out.frozenAt j
      have HXX := Lib.hid hx
      have HOO := Lib.hid ho
      obtain ⟨s, hs⟩ : ∃ s : Nat, s = r * 4294967296 + x := ⟨_, rfl⟩
      have hse : (r : Int) * 4294967296 + (x : Int) = (s : Int) := by omega
      have hr4 : r < 4294967296 := by omega
      have hplt : s < d * 4294967296 := by
        have := Nat.mul_le_mul_right 4294967296 (show r + 1 ≤ d by omega)
        rw [Nat.add_mul, Nat.one_mul] at this
        omega
      have hqlt : s / d < 4294967296 := Nat.div_lt_of_lt_mul hplt
      have hsl : s < 18446744073709551616 := by omega
      have HSS := Lib.hid hs
      have HQL := Lib.hid hqlt
      clear hx hc ho hs hplt hqlt
      go_wp2_with fail
      have ho1 := own_set_lc HO.out (i := j) (by omega) (s / d)
      have hdm : (s : Int) / (d : Int) = ((s / d : Nat) : Int) := (Int.natCast_ediv s d).symm
      have hmm : (s : Int) % (d : Int) = ((s % d : Nat) : Int) := (Int.natCast_emod s d).symm
      have hwr : IntKind.u64.wrap ((s / d : Nat) : Int) = ((s / d : Nat) : Int) := by
        rw [IntKind.wrap_u64]
        have h : s / d < 4294967296 := HQL.out
        generalize s / d = z at *
        omega
      rw [hdm, hmm]
      (try rw [hwr])
      refine ⟨⟨j, s % d, xs.set j (s / d), by omega, rfl, ⟨_, rfl, rfl⟩, Nat.mod_lt _ hd0, by simp [hxl], wds_set HXW.out HQL.out, ?_, (HZT.out.mono (by omega)).set (Nat.le_refl _), ho1.1, HBW.out.grown ho1.2 (Nat.le_of_lt (HO.out.lt w.heap.size rfl).2) (fun g hg => by injection hg with hg; omega)⟩, by simp [intOf]⟩
      have h1 := HSUM.out
      rw [nv_take_succ HXX.out, Nat.pow_succ] at h1
      have h2 := nv_set (v := s / d) HOO.out
      rw [Nat.mul_zero, Nat.add_zero] at h2
      rw [h2]
      exact small_step h1 (by rw [← HSS.out]; exact (Nat.div_add_mod _ _).symm)

theorem times_step {W R q P x b s Y : Nat} (hI : Y + P * q = b * R) (hs : s = x * b + q) : Y + P * (s % W) + P * W * (s / W) = b * (R + P * x) := by
  have h := Nat.mod_add_div s W
  have e : P * (s % W) + P * W * (s / W) = P * s := by rw [Nat.mul_assoc, ← Nat.mul_add, h]
  rw [Nat.add_assoc, e, hs, Nat.mul_add, Nat.mul_add, ← hI]
  have : P * (x * b) = b * (P * x) := by rw [Nat.mul_comm x b, Nat.mul_left_comm]
  omega
set_option maxRecDepth 100000 in
set_option maxHeartbeats 4000000 in
theorem times_any (A : Option Addr) (n c b p : Nat) (x : List Nat) (S : Nat → Prop) (w : World) (hx : RdE Lc 1 w S A n x) (hS : ∀ b, S b → b < w.heap.size) (hw : Wds x) (hn : n ≤ 100000000000) (hb : b < 4294967296) (hp : p ≤ 100000000000) (hnp : n ≤ p) (hf : b * nv x < W32 ^ p) :
    Calls Tryz.prog 173 #[.slice A n c, .int .u64 (b : Int), .int .i64 (p : Int)] w fun e w' => ∃ xs, e = .returned (.slice (some ⟨w.heap.size, 0, none⟩) p p) ∧ w'.ownsRow w.heap.size 58 1 (.slice (some ⟨w.heap.size, 0, none⟩) p p) p (xs.flatMap Lc) ∧ xs.length = p ∧ Wds xs ∧ nv xs = b * nv x ∧ Below w.heap.size w w' := by
  obtain ⟨i0, hi0, hz0, hz1, hz2⟩ := info_parts' info_u64
  have HX := Lib.hid hx
  have HA := Lib.hid hw
  have HF := Lib.hid hf
  have HS := Lib.hid hS
  clear hx hw hf hS
  go_enter Tryz.func173, Tryz.ntmps173
  go_wp2_with (at_make; go_must (refine wpList_make_full _ rfl _ _ _ rfl w.heap.size 58 i0 _ 1 Tryz.underlying22 hi0 hz0 hz1 .i64 .i64 _ _ p rfl rfl (by omega) (by omega) (by rw [hz2]; omega) (by simp only [maxLen]; omega) (Nat.le_refl _) ?_); intro w1 hown1 hg1)
  have hinv := hown1
  rw [made_u64] at hinv
  have HI := Lib.hid hinv
  have HB1 := Lib.hid (below_of_grown hg1 (fun g hg => by cases hg))
  clear hown1 hg1 hinv
  go_loopw [8, 9] (fun cv iv wr => ∃ (k q : Nat) (xs : List Nat), k ≤ p ∧ cv = .int .u64 q ∧ iv = .int .i64 k ∧ q < 4294967296 ∧ xs.length = p ∧ Wds xs ∧ nv xs + W32 ^ k * q = b * nv (x.take k) ∧ ZeroFrom xs k ∧ wr.ownsRow w.heap.size 58 1 (.slice (some ⟨w.heap.size, 0, none⟩) p p) p (xs.flatMap Lc) ∧ Below w.heap.size w wr) (fun _ i _ => p - (intOf i).toNat)
  case atStart => exact ⟨0, 0, List.replicate p 0, Nat.zero_le _, rfl, rfl, by decide, by simp, fun x hx => by rw [(List.mem_replicate.1 hx).2]; decide, by rw [(zero_rep p 0).val]; simp [nv], zero_rep _ _, HI.out, HB1.out⟩
  case round =>
    obtain ⟨k, q, xs, hk, rfl, rfl, hq, hxl, hxw, hsum, hzf, hown, hbw⟩ := hrel
    have HO := Lib.hid hown
    have HBW := Lib.hid hbw
    have HXW := Lib.hid hxw
    have HSUM := Lib.hid hsum
    have HZF := Lib.hid hzf
    clear hown hbw hxw hsum hzf
    by_cases hlt : k < p
    · obtain ⟨o, ho⟩ := get_some hxl hlt
      obtain rfl : o = 0 := HZF.out _ _ (Nat.le_refl _) ho
      have q0 := own_lc HO.out ho
      have hf := HO.out.frozenAt k
      have HOO := Lib.hid ho
      have hr := Lib.hid (HX.out.keep (Keeps.below HBW.out HS.out))
      obtain ⟨d, hd⟩ : ∃ d, d = x.getD k 0 := ⟨_, rfl⟩
      have hdl : d < 4294967296 := by rw [hd]; exact getD_wds HA.out k
      have HD := Lib.hid hd
      obtain ⟨s, hs⟩ : ∃ s : Nat, s = d * b + q := ⟨_, rfl⟩
      have hse : (d : Int) * (b : Int) + (q : Int) = (s : Int) := by rw [hs]; simp
      have hmul : d * b ≤ 4294967295 * 4294967295 := Nat.mul_le_mul (by omega) (by omega)
      have hsl : s < 18446744073709551616 := by omega
      have hmi : (d : Int) * (b : Int) = ((d * b : Nat) : Int) := by simp
      obtain ⟨m, hm⟩ : ∃ m, m = d * b := ⟨_, rfl⟩
      rw [← hm] at hmi hmul hs
      have HSS := Lib.hid hs
      have HM := Lib.hid hm
      have hse2 : (m : Int) + (q : Int) = (s : Int) := by omega
      clear ho hd hs hm
      go_wp2_with fail
      refine (digit_any A n c x k _ wr hr.out (by omega) (by omega)).mono ?_
      rintro e w' ⟨rfl, rfl⟩
      rw [← HD.out]
      go_wp2_with fail
      have ho1 := own_set_lc HO.out (i := k) (by omega) (s % 4294967296)
      have hmod : (s : Int) % 4294967296 = ((s % 4294967296 : Nat) : Int) := by omega
      have hdiv : (s : Int) / 4294967296 = ((s / 4294967296 : Nat) : Int) := by omega
      rw [hmod, hdiv]
      refine ⟨⟨k + 1, s / 4294967296, xs.set k (s % 4294967296), by omega, rfl, by go_num, by omega, by simp [hxl], wds_set HXW.out (Nat.mod_lt _ (by decide)), ?_, HZF.out.set_at, ho1.1, HBW.out.grown ho1.2 (Nat.le_of_lt (HO.out.lt w.heap.size rfl).2) (fun g hg => by injection hg with hg; omega)⟩, by simp [intOf]; omega⟩
      have h1 := nv_set (v := s % 4294967296) HOO.out
      rw [Nat.mul_zero, Nat.add_zero] at h1
      rw [h1, getD_take, Nat.pow_succ, ← HD.out]
      exact times_step HSUM.out (by rw [HSS.out, HM.out])
    · obtain rfl : k = p := by omega
      have h := HSUM.out
      rw [List.take_of_length_le (by rw [HX.out.num]; exact hnp)] at h
      have hq0 : q = 0 := by
        by_cases h0 : q = 0
        · exact h0
        · have h1 : W32 ^ k * 1 ≤ W32 ^ k * q := Nat.mul_le_mul_left _ (by omega)
          have := HF.out
          omega
      subst hq0
      have HV := Lib.hid h
      clear h
      go_wp2_with fail
      go_ret
      exact ⟨xs, rfl, HO.out, hxl, HXW.out, by have h := HV.out; rw [Nat.mul_zero, Nat.add_zero] at h; exact h, HBW.out⟩

end Go.Proofs.YtjokpfgncmdomaaGreatDoor

/- girderref02: NatAdd: the walk -/
namespace Go.Proofs.YtjokpfgncmdomaaGreatDoor
open Go.RowKit Go.Sort
end Go.Proofs.YtjokpfgncmdomaaGreatDoor

/- girderref02: NatUp, NatDown: the walks -/
namespace Go.Proofs.YtjokpfgncmdomaaGreatDoor
open Go.RowKit Go.Sort

theorem up_step {W H P q b R x s Y : Nat} (hI : Y + H * P * q = H * b * R) (hs : s = x * b + q) : Y + H * P * (s % W) + H * P * W * (s / W) = H * b * (R + P * x) := by
  have h := Nat.mod_add_div s W
  have e : H * P * (s % W) + H * P * W * (s / W) = H * P * s := by rw [Nat.mul_assoc (H * P), ← Nat.mul_add, h]
  rw [Nat.add_assoc, e, hs, Nat.mul_add, Nat.mul_add, ← hI]
  have : H * P * (x * b) = H * b * (P * x) := by ac_rfl
  omega
theorem dbl {i s b : Nat} (hb : b = 2 ^ i) (hi : i < s) (hs : s < 32) : 2 * b = 2 ^ (i + 1) ∧ 2 * b < 4294967296 := by
  have h : 2 ^ (i + 1) ≤ 2 ^ 31 := Nat.pow_le_pow_right (by decide) (by omega)
  have e : 2 ^ (i + 1) = 2 * 2 ^ i := Nat.pow_succ'
  rw [hb]
  exact ⟨e.symm, by omega⟩

set_option maxRecDepth 100000 in
set_option maxHeartbeats 8000000 in
theorem natUp_any (v : Value) (a : List Nat) (N : Nat) (w : World) (ha : LAt w v a) (la : Lds a) (na : a.length ≤ 10000000000) (hN : N ≤ 1000000000) :
    Calls Tryz.prog 117 #[v, .int .i64 (N : Int)] w fun e w' => ∃ v', e = .returned v' ∧ LAt w' v' (lim (ln a * 2 ^ N)) ∧ Below w.heap.size w w' := by
  obtain ⟨i0, hi0, hz0, hz1, hz2⟩ := info_parts' info_u64
  have HA := Lib.hid ha
  have LA := Lib.hid la
  clear ha la
  go_enter Tryz.func117, Tryz.ntmps117
  go_wp2_with fail
  refine (halves_any v a w HA.out LA.out (by omega)).mono ?_
  rintro e w1 ⟨v1, rfl, hv1, hb1⟩
  have HB1 := Lib.hid hb1
  obtain ⟨A1, c1, rfl, hc1, hx1⟩ := hv1
  obtain ⟨n, hn⟩ : ∃ n, n = (dig (ln a)).length := ⟨_, rfl⟩
  rw [← hn] at hx1 hc1 ⊢
  have hl : n ≤ 20000000000 := by rw [hn]; exact Nat.le_trans (dig_len2 LA.out) (by omega)
  obtain ⟨X, hX⟩ : ∃ X, X = ln a := ⟨_, rfl⟩
  rw [← hX] at hx1 hn
  have HXX := Lib.hid hx1
  have HN := Lib.hid hn
  have HXV := Lib.hid hX
  clear hb1 hx1 hn hX
  by_cases h0 : n = 0
  · subst h0
    have hx0 : X = 0 := dig_len_zero.1 HN.out.symm
    have HX0 := Lib.hid hx0
    clear hx0
    go_wp2_with fail
    go_ret
    exact ⟨_, rfl, by rw [← HXV.out, HX0.out, Nat.zero_mul]; exact LAt.nil .., HB1.out⟩
  · have e0 : ((n : Int) == 0) = false := by simp; omega
    obtain ⟨h, hh⟩ : ∃ h, h = N / 32 := ⟨_, rfl⟩
    obtain ⟨s, hs⟩ : ∃ s, s = N % 32 := ⟨_, rfl⟩
    have e1 : (N : Int) / 32 = (h : Int) := by omega
    have e2 : (N : Int) % 32 = (s : Int) := by omega
    have hs32 : s < 32 := by omega
    have HNN : Hid (N = h * 32 + s) := Lib.hid (by omega)
    have hhb : h ≤ 1000000000 := by omega
    have e1h : 0 ≤ (N : Int) / 32 := by omega
    clear hh hs
    go_wp2_with (at_make; go_must (refine wpList_make_full _ rfl _ _ _ rfl w1.heap.size 58 i0 _ 1 Tryz.underlying22 hi0 hz0 hz1 .i64 .i64 _ _ h (by first | rfl | rw [e1]) (by first | rfl | rw [e1]) (by omega) (by omega) (by rw [hz2]; omega) (by simp only [maxLen]; omega) (Nat.le_refl _) ?_); intro w2 hown2 hg2)
    have hinv := hown2
    rw [made_u64] at hinv
    have HI := Lib.hid hinv
    have HB2 := Lib.hid (below_of_grown hg2 (fun g hg => by cases hg))
    clear hown2 hg2 hinv
    go_loopw [8, 9] (fun bv iv wr => ∃ (i b : Nat), i ≤ s ∧ bv = .int .u64 b ∧ iv = .int .i64 i ∧ b = 2 ^ i ∧ w2 = wr) (fun _ i _ => s - (intOf i).toNat)
    case atStart => exact ⟨0, 1, Nat.zero_le _, rfl, rfl, rfl, rfl⟩
    case round =>
      obtain ⟨i, b, hi, rfl, rfl, hb, rfl⟩ := hrel
      by_cases hlt : i < s
      · have hd := dbl hb hlt hs32
        have h1 : (i : Int) < (N : Int) % 32 := by omega
        have HD := Lib.hid hd.1
        have hd2 := hd.2
        clear hb hd
        go_wp2_with fail
        refine ⟨⟨i + 1, 2 * b, by omega, by go_num, by go_num, HD.out, by first | rfl | trivial⟩, by simp [intOf]; omega⟩
      · obtain rfl : i = s := by omega
        have h1 : ¬ (i : Int) < (N : Int) % 32 := by omega
        have hbl : b ≤ 2147483648 := by rw [hb]; exact Nat.pow_le_pow_right (show 0 < 2 by decide) (show i ≤ 31 by omega)
        have HBI := Lib.hid hb
        clear hb
        go_wp2_with fail
        go_loopw [6, 7, 10] (fun ov cv iv wx => ∃ (k q : Nat) (zs : List Nat), k ≤ n ∧ cv = .int .u64 q ∧ iv = .int .i64 k ∧ q < 4294967296 ∧ zs.length = h + k ∧ Wds zs ∧ nv zs + W32 ^ h * W32 ^ k * q = W32 ^ h * b * nv ((dig X).take k) ∧ wx.ownsRow w1.heap.size 58 1 ov (h + k) (zs.flatMap Lc) ∧ Below w1.heap.size w1 wx) (fun _ _ iv _ => n - (intOf iv).toNat)
        case atStart => exact ⟨0, 0, List.replicate h 0, Nat.zero_le _, rfl, rfl, by decide, by simp, fun x hx => by rw [(List.mem_replicate.1 hx).2]; decide, by rw [(zero_rep h 0).val]; simp [nv], by simpa using HI.out, HB2.out⟩
        case round =>
          obtain ⟨k, q, zs, hk, rfl, rfl, hq, hzl, hzw, hsum, hown, hbw⟩ := hrel
          have HO := Lib.hid hown
          have HBW := Lib.hid hbw
          have HS := Lib.hid hsum
          have HZ := Lib.hid hzw
          have HZL := Lib.hid hzl
          obtain ⟨A3, c3, rfl, hc3, _⟩ := own_slice hown
          clear hown hbw hsum hzw hzl
          by_cases hlt2 : k < n
          · obtain ⟨x, hx⟩ := get_some HXX.out.num hlt2
            obtain ⟨b1, o1, rfl, hSb, hc⟩ := HXX.out.elem Lc.clen hx (by omega)
            have q0 : wr.cell? ⟨b1, o1 + k, none⟩ = some (.int .u64 (x : Int)) := by have h := (HBW.out.cell (p := ⟨b1, _, none⟩) hSb).trans (hc 0 _ rfl); rw [Nat.mul_one, Nat.add_zero] at h; exact h
            have hxl : x < 4294967296 := (dig_wds X).get hx
            have HXG := Lib.hid hx
            obtain ⟨t, ht⟩ : ∃ t : Nat, t = x * b + q := ⟨_, rfl⟩
            obtain ⟨m, hm⟩ : ∃ m, m = x * b := ⟨_, rfl⟩
            have hmul : m ≤ 4294967295 * 2147483648 := by rw [hm]; exact Nat.mul_le_mul (by omega) hbl
            have hmi : (x : Int) * (b : Int) = (m : Int) := by rw [hm]; simp
            have hte : (m : Int) + (q : Int) = (t : Int) := by omega
            have htl : t < 18446744073709551616 := by omega
            have HT := Lib.hid ht
            clear hx hc ht hm
            have hoA := HO.out.alloc (.cells #[Value.int .u64 ((t : Int) % 4294967296)] 58)
            have HOA := Lib.hid hoA
            clear hoA
            go_wp2_with (at_builtin; go_must (refine wpList_append_rd _ rfl _ _ _ rfl w1.heap.size 58 i0 _ 1 8 Tryz.underlying22 hi0 hz0 hz1 hz2 rfl (by omega) (.slice A3 (h + k) c3) (h + k) (zs.flatMap Lc) rfl HOA.out (fun _ => True) (some ⟨wr.heap.size, 0, none⟩) 1 1 [.int .u64 ((t : Int) % 4294967296)] rfl (rd_blk (blk_new ..) rfl trivial) (by simp [Value.oneCell']) (by simp only [maxLen]; omega) (by omega) (by have := HBW.out.size; simp; omega) ?_); intro v2 w4 hown4 hg4 hat4)
            have HB4 := Lib.hid ((HBW.out.alloc HBW.out.size (.cells #[Value.int .u64 ((t : Int) % 4294967296)] 58)).grown hg4 (by have := HBW.out.size; simp; omega) (fun g hg => (HOA.out.lt g hg).1))
            have hle : zs.flatMap Lc ++ [Value.int .u64 ((t : Int) % 4294967296)] = (zs ++ [t % 4294967296]).flatMap Lc := by rw [List.flatMap_append]; rfl
            rw [hle] at hown4
            have HO4 := Lib.hid hown4
            clear hown4 hg4 hat4 hle
            go_wp2_with fail
            refine ⟨⟨k + 1, t / 4294967296, zs ++ [t % 4294967296], by omega, rfl, by go_num, by omega, by simp [HZL.out]; omega, HZ.out.append (fun y hy => by simp at hy; subst hy; exact Nat.mod_lt _ (by decide)), ?_, HO4.out, HB4.out⟩, by simp [intOf]; omega⟩
            rw [nv_append, HZL.out, nv_take_succ HXG.out, Nat.pow_add, Nat.pow_succ, ← Nat.mul_assoc (W32 ^ h)]
            have e5 : nv [t % 4294967296] = t % 4294967296 := by simp [nv]
            rw [e5]
            exact up_step HS.out HT.out
          · obtain rfl : k = n := by omega
            have hoA := HO.out.alloc (.cells #[Value.int .u64 (q : Int)] 58)
            have HOA := Lib.hid hoA
            have e6 : (dig X).take k = dig X := List.take_of_length_le (by rw [HXX.out.num]; exact Nat.le_refl _)
            have hfin : nv (zs ++ [q]) = X * 2 ^ N := by
              have hh := HS.out
              rw [e6, nv_dig] at hh
              rw [nv_append, HZL.out, Nat.pow_add]
              have e5 : nv [q] = q := by simp [nv]
              rw [e5, hh, HNN.out, Nat.pow_add, HBI.out, Nat.mul_comm h 32, ← W32_pow, Nat.mul_comm]
            have HFIN := Lib.hid hfin
            clear hoA e6 hfin
            go_wp2_with (at_builtin; go_must (refine wpList_append_rd _ rfl _ _ _ rfl w1.heap.size 58 i0 _ 1 8 Tryz.underlying22 hi0 hz0 hz1 hz2 rfl (by omega) (.slice A3 (h + k) c3) (h + k) (zs.flatMap Lc) rfl HOA.out (fun _ => True) (some ⟨wr.heap.size, 0, none⟩) 1 1 [.int .u64 (q : Int)] rfl (rd_blk (blk_new ..) rfl trivial) (by simp [Value.oneCell']) (by simp only [maxLen]; omega) (by omega) (by have := HBW.out.size; simp; omega) ?_); intro v2 w4 hown4 hg4 hat4)
            have HB4 := Lib.hid ((HBW.out.alloc HBW.out.size (.cells #[Value.int .u64 (q : Int)] 58)).grown hg4 (by have := HBW.out.size; simp; omega) (fun g hg => (HOA.out.lt g hg).1))
            have hle : zs.flatMap Lc ++ [Value.int .u64 (q : Int)] = (zs ++ [q]).flatMap Lc := by rw [List.flatMap_append]; rfl
            rw [hle] at hown4
            have HLa := Lib.hid (own_lat hown4)
            have hzb : (zs ++ [q]).length ≤ 30000000000 := by rw [List.length_append, HZL.out]; simp; omega
            clear hown4 hg4 hat4 hle
            (try go_wp2_with fail)
            refine (limbs_any _ (zs ++ [q]) _ HLa.out (HZ.out.append (fun y hy => by simp at hy; subst hy; exact hq)) (by omega)).mono ?_
            rintro e w5 ⟨v5, rfl, hv5, hb5⟩
            rw [HFIN.out] at hv5
            have HV5 := Lib.hid hv5
            have HB5 := Lib.hid ((HB1.out.trans (HB4.out.mono HB1.out.size)).trans (hb5.mono (Nat.le_trans HB1.out.size HB4.out.size)))
            clear hv5 hb5
            go_wp2_with fail
            go_ret
            exact ⟨_, rfl, by rw [← HXV.out]; exact HV5.out, HB5.out⟩

end Go.Proofs.YtjokpfgncmdomaaGreatDoor

/- girderref02: NatDown: the walk -/
namespace Go.Proofs.YtjokpfgncmdomaaGreatDoor
open Go.RowKit Go.Sort
end Go.Proofs.YtjokpfgncmdomaaGreatDoor

/- girderref02: NatBits, NatCmp: the walks -/
namespace Go.Proofs.YtjokpfgncmdomaaGreatDoor
open Go.RowKit Go.Sort

theorem lim_top {N k x : Nat} (hl : (lim N).length = k + 1) (hx : (lim N)[k]? = some x) : x ≠ 0 ∧ blen N = 64 * k + blen x := by
  have hne : lim N ≠ [] := by intro e; rw [e] at hl; simp at hl
  have hlast := (lim_isLim N).2 hne
  have e : (lim N)[k]? = some ((lim N).getLast hne) := by
    rw [List.getLast_eq_getElem]
    have h2 := List.getElem?_eq_getElem (l := lim N) (i := (lim N).length - 1) (by omega)
    rw [← h2, hl]; rfl
  rw [hx] at e
  injection e with e
  have hx0 : x ≠ 0 := by rw [e]; exact hlast
  refine ⟨hx0, ?_⟩
  have h := ln_split (lim N) k
  rw [ln_dig] at h
  have hd : (lim N).drop k = [x] := by
    obtain ⟨h1, h2⟩ := List.getElem?_eq_some_iff.1 hx
    rw [List.drop_eq_getElem_cons h1, h2, List.drop_of_length_le (by omega)]
  rw [hd] at h
  have e2 : ln [x] = x := by simp [ln]
  have h3 := ln_take_lt (lim_lds N) k
  rw [e2, W64_pow] at h
  rw [W64_pow] at h3
  rw [h]
  exact blen_join hx0 h3

set_option maxRecDepth 100000 in
set_option maxHeartbeats 4000000 in
theorem natBits_any (v : Value) (a : List Nat) (w : World) (ha : LAt w v a) (la : Lds a) (na : a.length ≤ 10000000000) :
    Calls Tryz.prog 116 #[v] w fun e w' => e = .returned (.int .i64 ((blen (ln a) : Nat) : Int)) ∧ Below w.heap.size w w' := by
  have HA := Lib.hid ha
  have LA := Lib.hid la
  clear ha la
  go_enter Tryz.func116, Tryz.ntmps116
  go_wp2_with fail
  refine (natTrim_any v a w HA.out LA.out (by omega)).mono ?_
  rintro e w1 ⟨v1, rfl, hv1, hb1⟩
  have HB1 := Lib.hid hb1
  obtain ⟨X, hX⟩ : ∃ X, X = ln a := ⟨_, rfl⟩
  rw [← hX] at hv1
  obtain ⟨A1, c1, rfl, hc1, hx1⟩ := hv1
  obtain ⟨n, hn⟩ : ∃ n, n = (lim X).length := ⟨_, rfl⟩
  rw [← hn] at hx1 hc1 ⊢
  have hl : n ≤ 10000000000 := by
    rw [hn]
    refine Nat.le_trans (lim_len_le (k := a.length) ?_) na
    rw [hX]; exact ln_lt LA.out
  have HXX := Lib.hid hx1
  have HN := Lib.hid hn
  have HXV := Lib.hid hX
  clear hb1 hx1 hn hX
  by_cases h0 : n = 0
  · subst h0
    have hx0 : X = 0 := lim_len_zero.1 HN.out.symm
    have HX0 : Hid (blen (ln a) = 0) := Lib.hid (by rw [← HXV.out, hx0]; rfl)
    clear hx0
    go_wp2_with fail
    go_ret
    exact ⟨by rw [HX0.out]; rfl, HB1.out⟩
  · have e0 : ((n : Int) == 0) = false := by simp; omega
    obtain ⟨k, rfl⟩ : ∃ k, n = k + 1 := ⟨n - 1, by omega⟩
    obtain ⟨x, hx⟩ := get_some HXX.out.num (show k < k + 1 by omega)
    obtain ⟨b1, o1, rfl, hSb, hc⟩ := HXX.out.elem Lc.clen hx (by omega)
    have q0 : w1.cell? ⟨b1, o1 + k, none⟩ = some (.int .u64 (x : Int)) := by have h := hc 0 _ rfl; rw [Nat.mul_one, Nat.add_zero] at h; exact h
    have hxl : x < 18446744073709551616 := (lim_lds X).get hx
    have hbl : blen (ln a) = 64 * k + blen x := by rw [← HXV.out]; exact (lim_top HN.out.symm hx).2
    have HBL := Lib.hid hbl
    have hb64 : blen x ≤ 64 := blen_le_of_lt (by omega)
    clear hx hc hbl h0
    go_wp2_with fail
    go_loopw [4, 5] (fun nv tv wr => ∃ (y m : Nat), tv = .int .u64 y ∧ nv = .int .i64 m ∧ y < 18446744073709551616 ∧ m + blen y = 64 * k + blen x ∧ w1 = wr) (fun _ tv _ => (intOf tv).toNat)
    case atStart => exact ⟨x, 64 * k, rfl, by go_num, hxl, rfl, rfl⟩
    case round =>
      obtain ⟨y, m, rfl, rfl, hy, hm, rfl⟩ := hrel
      by_cases hy0 : y = 0
      · subst hy0
        have HM : Hid (m = 64 * k + blen x) := Lib.hid (by rw [blen_zero] at hm; omega)
        clear hm
        go_wp2_with fail
        go_ret
        exact ⟨by rw [HBL.out, ← HM.out]; rfl, HB1.out⟩
      · have hlt : decide (0 < (y : Int)) = true := by simp; omega
        have HM := Lib.hid hm
        have hh := blen_half hy0
        have HH := Lib.hid hh
        have hmb : m ≤ 64 * k + 64 := by omega
        clear hm hh
        go_wp2_with fail
        refine ⟨⟨y / 2, m + 1, by go_num, by go_num, by omega, by have := HM.out; have := HH.out; omega, by first | rfl | trivial⟩, by simp [intOf]; omega⟩

theorem lim_lt {x y : Nat} (h : (lim x).length < (lim y).length) : x < y := Nat.lt_of_not_le fun h1 => by have := lim_len_mono h1; omega
theorem ln_drop_get {ws : List Nat} {i x : Nat} (h : ws[i]? = some x) : ln (ws.drop i) = x + W64 * ln (ws.drop (i + 1)) := by
  obtain ⟨hl, e⟩ := List.getElem?_eq_some_iff.1 h
  rw [List.drop_eq_getElem_cons hl, e, ln]
theorem ldrop_lt {a b : List Nat} {i x y : Nat} (ha : Lds a) (hx : a[i]? = some x) (hy : b[i]? = some y) (he : ln (a.drop (i + 1)) = ln (b.drop (i + 1))) (hlt : x < y) : ln a < ln b := by
  rw [ln_split a i, ln_split b i, ln_drop_get hx, ln_drop_get hy, he]
  have h1 := ln_take_lt ha i
  have h2 : W64 ^ i * (x + W64 * ln (b.drop (i + 1))) + W64 ^ i ≤ W64 ^ i * (y + W64 * ln (b.drop (i + 1))) := by
    rw [← Nat.mul_succ]
    exact Nat.mul_le_mul_left _ (by omega)
  omega
theorem lim_ln_len {a : List Nat} (h : Lds a) : (lim (ln a)).length ≤ a.length := lim_len_le (ln_lt h)

set_option maxRecDepth 100000 in
set_option maxHeartbeats 8000000 in
theorem natCmp_any (va vb : Value) (a b : List Nat) (w : World) (ha : LAt w va a) (hb : LAt w vb b) (la : Lds a) (lb_ : Lds b) (na : a.length ≤ 10000000000) (nb : b.length ≤ 10000000000) :
    Calls Tryz.prog 80 #[va, vb] w fun e w' => e = .returned (.int .i64 (cmpN (ln a) (ln b))) ∧ Below w.heap.size w w' := by
  have HA := Lib.hid ha
  have HB := Lib.hid hb
  have LA := Lib.hid la
  have LB := Lib.hid lb_
  clear ha hb la lb_
  go_enter Tryz.func80, Tryz.ntmps80
  go_wp2_with fail
  refine (natTrim_any va a w HA.out LA.out (by omega)).mono ?_
  rintro e w1 ⟨v1, rfl, hv1, hb1⟩
  have HV1 := Lib.hid hv1
  have HBb := Lib.hid (HB.out.below hb1)
  have HW1 := Lib.hid hb1
  clear hv1 hb1
  go_wp2_with fail
  refine (natTrim_any vb b w1 HBb.out LB.out (by omega)).mono ?_
  rintro e w2 ⟨v2, rfl, hv2, hb2⟩
  have hx1 := HV1.out.below hb2
  have HW2 := Lib.hid (HW1.out.trans (hb2.mono HW1.out.size))
  obtain ⟨x, hx⟩ : ∃ x, x = ln a := ⟨_, rfl⟩
  obtain ⟨y, hy⟩ : ∃ y, y = ln b := ⟨_, rfl⟩
  rw [← hx] at hx1
  rw [← hy] at hv2
  obtain ⟨A1, c1, rfl, hc1, hx1⟩ := hx1
  obtain ⟨A2, c2, rfl, hc2, hx2⟩ := hv2
  obtain ⟨n, hn⟩ : ∃ n, n = (lim x).length := ⟨_, rfl⟩
  obtain ⟨m, hm⟩ : ∃ n, n = (lim y).length := ⟨_, rfl⟩
  rw [← hn] at hx1 hc1
  rw [← hm] at hx2 hc2
  have hnl : n ≤ 10000000000 := by rw [hn, hx]; exact Nat.le_trans (lim_ln_len LA.out) na
  have hml : m ≤ 10000000000 := by rw [hm, hy]; exact Nat.le_trans (lim_ln_len LB.out) nb
  have HX := Lib.hid hx1
  have HY := Lib.hid hx2
  have XV := Lib.hid hx
  have YV := Lib.hid hy
  have HN := Lib.hid hn
  have HM := Lib.hid hm
  rw [← hn, ← hm]
  clear hb2 hx1 hx2 HBb hx hy hn hm HV1
  by_cases h1 : n < m
  · have hlt : x < y := lim_lt (by rw [← HN.out, ← HM.out]; exact h1)
    have HC := Lib.hid (show cmpN (ln a) (ln b) = -1 by rw [← XV.out, ← YV.out]; simp [cmpN, hlt])
    have e0 : ((n : Int) != (m : Int)) = true := by simp; omega
    clear hlt
    go_wp2_with fail
    go_ret
    exact ⟨by rw [HC.out]; rfl, HW2.out⟩
  · by_cases h2 : m < n
    · have hlt : y < x := lim_lt (by rw [← HN.out, ← HM.out]; exact h2)
      have HC := Lib.hid (show cmpN (ln a) (ln b) = 1 by rw [← XV.out, ← YV.out]
                                                         have : ¬ x < y := by omega
                                                         simp [cmpN, hlt, this])
      have e0 : ((n : Int) != (m : Int)) = true := by simp; omega
      clear hlt
      go_wp2_with fail
      go_ret
      exact ⟨by rw [HC.out]; rfl, HW2.out⟩
    · obtain rfl : n = m := by omega
      clear h1 h2
      go_wp2_with fail
      go_loopw [7] (fun iv wr => ∃ t : Nat, t ≤ n ∧ (∃ z : Int, iv = .int .i64 z ∧ z = (t : Int) - 1) ∧ ln ((lim x).drop t) = ln ((lim y).drop t) ∧ Below w2.heap.size w2 wr) (fun iv _ => (intOf iv + 1).toNat)
      case atStart => exact ⟨n, Nat.le_refl _, ⟨_, rfl, rfl⟩, by rw [List.drop_of_length_le (by rw [HX.out.num]; omega), List.drop_of_length_le (by rw [HY.out.num]; omega)], Below.refl _ _⟩
      case round =>
        obtain ⟨t, ht, ⟨z, rfl, hz⟩, heq, hbw⟩ := hrel
        have HEQ := Lib.hid heq
        have HBW := Lib.hid hbw
        clear heq hbw
        by_cases h0 : t = 0
        · subst h0
          obtain rfl : z = -1 := by omega
          have he := HEQ.out
          rw [List.drop_zero, List.drop_zero, ln_dig, ln_dig] at he
          have HC := Lib.hid (show cmpN (ln a) (ln b) = 0 by rw [← XV.out, ← YV.out, he]; simp [cmpN])
          clear hz he
          go_wp2_with fail
          go_ret
          exact ⟨by rw [HC.out]; rfl, HW2.out.trans (HBW.out.mono HW2.out.size)⟩
        · obtain ⟨j, rfl⟩ : ∃ j, t = j + 1 := ⟨t - 1, by omega⟩
          obtain rfl : z = (j : Int) := by omega
          clear hz
          obtain ⟨p, hp⟩ := get_some HX.out.num (show j < n by omega)
          obtain ⟨q, hq⟩ := get_some HY.out.num (show j < n by omega)
          obtain ⟨b1, o1, rfl, hSb1, hc⟩ := HX.out.elem Lc.clen hp (by omega)
          obtain ⟨b2, o2, rfl, hSb2, hc2⟩ := HY.out.elem Lc.clen hq (by omega)
          have q1 : wr.cell? ⟨b1, o1 + j, none⟩ = some (.int .u64 (p : Int)) := by have h := hc 0 _ rfl; rw [Nat.mul_one, Nat.add_zero] at h; exact bat HBW.out h
          have q2 : wr.cell? ⟨b2, o2 + j, none⟩ = some (.int .u64 (q : Int)) := by have h := hc2 0 _ rfl; rw [Nat.mul_one, Nat.add_zero] at h; exact bat HBW.out h
          have HP := Lib.hid hp
          have HQ := Lib.hid hq
          have g1 : (0 : Int) ≤ (j : Int) := by omega
          clear hp hq hc hc2
          rcases Nat.lt_trichotomy p q with h1 | h1 | h1
          · have d1 : decide ((p : Int) < q) = true := by simp; omega
            have hlt := ldrop_lt (lim_lds x) HP.out HQ.out HEQ.out h1
            rw [ln_dig, ln_dig] at hlt
            have HC := Lib.hid (show cmpN (ln a) (ln b) = -1 by rw [← XV.out, ← YV.out]; simp [cmpN, hlt])
            clear hlt
            go_wp2_with fail
            go_quiet (fail)
            go_wp2_with fail
            go_ret
            exact ⟨by rw [HC.out]; rfl, HW2.out.trans ((below_drewN HBW.out _).mono HW2.out.size)⟩
          · subst h1
            have d1 : decide ((p : Int) < p) = false := by simp
            have HE := Lib.hid (show ln ((lim x).drop j) = ln ((lim y).drop j) by rw [ln_drop_get HP.out, ln_drop_get HQ.out, HEQ.out])
            go_wp2_with fail
            go_quiet (fail)
            go_wp2_with fail
            go_quiet (fail)
            go_wp2_with fail
            go_roundw
            case rel => exact ⟨j, by omega, ⟨_, rfl, by omega⟩, HE.out, by first | exact below_drewN HBW.out _ | exact below_drewN (below_drewN HBW.out _) _⟩
            case measure => simp [intOf]
          · have d1 : decide ((p : Int) < q) = false := by simp; omega
            have d2 : decide ((q : Int) < p) = true := by simp; omega
            have hlt := ldrop_lt (lim_lds y) HQ.out HP.out HEQ.out.symm h1
            rw [ln_dig, ln_dig] at hlt
            have HC := Lib.hid (show cmpN (ln a) (ln b) = 1 by rw [← XV.out, ← YV.out]
                                                               have : ¬ x < y := by omega
                                                               simp [cmpN, hlt, this])
            clear hlt
            go_wp2_with fail
            go_quiet (fail)
            go_wp2_with fail
            go_quiet (fail)
            go_wp2_with fail
            go_ret
            exact ⟨by rw [HC.out]; rfl, HW2.out.trans ((below_drewN (below_drewN HBW.out _) _).mono HW2.out.size)⟩

end Go.Proofs.YtjokpfgncmdomaaGreatDoor
