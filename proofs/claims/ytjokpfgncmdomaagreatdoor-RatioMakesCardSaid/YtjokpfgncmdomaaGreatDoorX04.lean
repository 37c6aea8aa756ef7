import Derived.Test.YtjokpfgncmdomaaGreatDoorX03
set_option linter.unusedSimpArgs false
set_option linter.unusedVariables false
/- length, cmp: the walks -/
namespace Go.Proofs.YtjokpfgncmdomaaGreatDoor
open Go.RowKit Go.Sort

theorem blen_bound {N k : Nat} (h : (dig N).length ≤ k) : blen N ≤ 32 * k := by
  apply blen_le_of_lt
  rw [← W32_pow]
  exact Nat.lt_of_lt_of_le (lt_dig_len N) (Nat.pow_le_pow_right (by decide) h)

theorem length_any (A : Option Addr) (n c : Nat) (N : Nat) (S : Nat → Prop) (w : World) (hx : RdE Wc 1 w S A n (dig N)) (hn : n ≤ 100000000000) :
    Calls Tryz.prog 97 #[.slice A n c] w fun e w' => e = .returned (.int .i64 (blen N)) ∧ w = w' := by
  have HX := Lib.hid hx
  clear hx
  by_cases h0 : n = 0
  · subst h0
    have hN : N = 0 := dig_len_zero.1 HX.out.num
    subst hN
    go_enter Tryz.func97, Tryz.ntmps97
    go_wp2_with fail
    go_ret
    exact ⟨rfl, rfl⟩
  · obtain ⟨j, rfl⟩ : ∃ j, n = j + 1 := ⟨n - 1, by omega⟩
    obtain ⟨x, hx⟩ := get_some HX.out.num (show j < j + 1 by omega)
    obtain ⟨b1, o1, rfl, hSb1, hc⟩ := HX.out.elem Wc.clen hx (by omega)
    have q1 : w.cell? ⟨b1, o1 + j, none⟩ = some (.int .u32 (x : Int)) := by have h := hc 0 _ rfl; rw [Nat.mul_one, Nat.add_zero] at h; exact h
    have hxlt := hw0 (dig_wds N) hx
    have HBL := Lib.hid (blen_dig HX.out.num hx)
    have e0 : (((j : Int) + 1) == 0) = false := by simp; omega
    clear hx hc
    go_enter Tryz.func97, Tryz.ntmps97
    go_wp2_with fail
    go_loop [3, 4] (fun cv tv => ∃ k t : Nat, cv = .int .i64 k ∧ tv = .int .u32 t ∧ t < 4294967296 ∧ k ≤ 100 ∧ k + blen t = blen x) (fun _ tv => (intOf tv).toNat)
    case atStart => exact ⟨0, x, rfl, rfl, hxlt, by omega, by omega⟩
    case round =>
      obtain ⟨k, t, rfl, rfl, ht, hk, hkt⟩ := hrel
      have HKT := Lib.hid hkt
      clear hkt
      have hb32 : blen x ≤ 32 := blen_le_of_lt hxlt
      by_cases htz : t = 0
      · subst htz
        have e : blen x = k := by have := HKT.out; rw [blen_zero] at this; omega
        have hkl : k ≤ 32 := by omega
        have HE := Lib.hid e
        clear e hb32
        go_wp2_with fail
        go_ret
        refine ⟨?_, rfl⟩
        rw [HBL.out, HE.out]
        have : ((32 * j + k : Nat) : Int) = (j : Int) * 32 + k := by omega
        rw [this]; rfl
      · have e1 : ((t : Int) != 0) = true := by simp; omega
        have e2 : ((t : Int) == 0) = false := by simp; omega
        have hhalf := blen_half htz
        have hk2 : k + 1 ≤ 100 := by have := HKT.out; omega
        have HH := Lib.hid hhalf
        clear hhalf htz
        go_wp2_with fail
        go_round
        case rel => exact ⟨k + 1, t / 2, by go_num, rfl, by omega, by omega, by have := HKT.out; have := HH.out; omega⟩
        case measure => simp [intOf] at e1 ⊢; omega

/-- -1, 0, 1 -/
def cmpN (x y : Nat) : Int := if x < y then -1 else if y < x then 1 else 0
theorem dig_lt {x y : Nat} (h : (dig x).length < (dig y).length) : x < y := Nat.lt_of_not_le fun h1 => by have := dig_len_mono h1; omega
theorem nv_drop_get {ws : List Nat} {i x : Nat} (h : ws[i]? = some x) : nv (ws.drop i) = x + W32 * nv (ws.drop (i + 1)) := by
  obtain ⟨hl, e⟩ := List.getElem?_eq_some_iff.1 h
  rw [List.drop_eq_getElem_cons hl, e, nv]
theorem drop_lt {a b : List Nat} {i x y : Nat} (ha : Wds a) (hx : a[i]? = some x) (hy : b[i]? = some y) (he : nv (a.drop (i + 1)) = nv (b.drop (i + 1))) (hlt : x < y) : nv a < nv b := by
  rw [nv_split a i, nv_split b i, nv_drop_get hx, nv_drop_get hy, he]
  have h1 := nv_take_lt ha i
  have h2 : W32 ^ i * (x + W32 * nv (b.drop (i + 1))) + W32 ^ i ≤ W32 ^ i * (y + W32 * nv (b.drop (i + 1))) := by
    rw [← Nat.mul_succ]
    exact Nat.mul_le_mul_left _ (by omega)
  omega

set_option maxRecDepth 100000 in
set_option maxHeartbeats 4000000 in
theorem cmp_any (A B : Option Addr) (n m c d : Nat) (x y : Nat) (S S' : Nat → Prop) (w : World) (hx : RdE Wc 1 w S A n (dig x)) (hy : RdE Wc 1 w S' B m (dig y)) (hn : n ≤ 100000000000) (hm : m ≤ 100000000000) :
    Calls Tryz.prog 139 #[.slice A n c, .slice B m d] w fun e w' => e = .returned (.int .i64 (cmpN x y)) ∧ Below w.heap.size w w' := by
  have HX := Lib.hid hx
  have HY := Lib.hid hy
  clear hx hy
  by_cases h1 : n < m
  · have hlt : x < y := dig_lt (by rw [HX.out.num, HY.out.num]; exact h1)
    have HC := Lib.hid (show cmpN x y = -1 by simp [cmpN, hlt])
    have e0 : ((n : Int) != (m : Int)) = true := by simp; omega
    clear hlt
    go_enter Tryz.func139, Tryz.ntmps139
    go_wp2_with fail
    go_ret
    exact ⟨by rw [HC.out]; rfl, Below.refl _ _⟩
  · by_cases h2 : m < n
    · have hlt : y < x := dig_lt (by rw [HX.out.num, HY.out.num]; exact h2)
      have HC := Lib.hid (show cmpN x y = 1 by have : ¬ x < y := by omega
                                               simp [cmpN, hlt, this])
      have e0 : ((n : Int) != (m : Int)) = true := by simp; omega
      clear hlt
      go_enter Tryz.func139, Tryz.ntmps139
      go_wp2_with fail
      go_ret
      exact ⟨by rw [HC.out]; rfl, Below.refl _ _⟩
    · obtain rfl : n = m := by omega
      clear h1 h2
      go_enter Tryz.func139, Tryz.ntmps139
      go_wp2_with fail
      go_loopw [5] (fun iv wr => ∃ t : Nat, t ≤ n ∧ (∃ z : Int, iv = .int .i64 z ∧ z = (t : Int) - 1) ∧ nv ((dig x).drop t) = nv ((dig y).drop t) ∧ Below w.heap.size w wr) (fun iv _ => (intOf iv + 1).toNat)
      case atStart => exact ⟨n, Nat.le_refl _, ⟨_, rfl, rfl⟩, by rw [List.drop_of_length_le (by rw [HX.out.num]; omega), List.drop_of_length_le (by rw [HY.out.num]; omega)], Below.refl _ _⟩
      case round =>
        obtain ⟨t, ht, ⟨z, rfl, hz⟩, heq, hbw⟩ := hrel
        have HEQ := Lib.hid heq
        have HBW := Lib.hid hbw
        clear heq hbw
        by_cases h0 : t = 0
        · subst h0
          obtain rfl : z = -1 := by omega
          have he := HEQ.out
          rw [List.drop_zero, List.drop_zero, nv_dig, nv_dig] at he
          subst he
          have HC := Lib.hid (show cmpN x x = 0 by simp [cmpN])
          clear hz
          go_wp2_with fail
          go_ret
          exact ⟨by rw [HC.out]; rfl, HBW.out⟩
        · obtain ⟨j, rfl⟩ : ∃ j, t = j + 1 := ⟨t - 1, by omega⟩
          obtain rfl : z = (j : Int) := by omega
          clear hz
          obtain ⟨p, hp⟩ := get_some HX.out.num (show j < n by omega)
          obtain ⟨q, hq⟩ := get_some HY.out.num (show j < n by omega)
          obtain ⟨b1, o1, rfl, hSb1, hc⟩ := HX.out.elem Wc.clen hp (by omega)
          obtain ⟨b2, o2, rfl, hSb2, hc2⟩ := HY.out.elem Wc.clen hq (by omega)
          have q1 : wr.cell? ⟨b1, o1 + j, none⟩ = some (.int .u32 (p : Int)) := by have h := hc 0 _ rfl; rw [Nat.mul_one, Nat.add_zero] at h; exact bat HBW.out h
          have q2 : wr.cell? ⟨b2, o2 + j, none⟩ = some (.int .u32 (q : Int)) := by have h := hc2 0 _ rfl; rw [Nat.mul_one, Nat.add_zero] at h; exact bat HBW.out h
          have HP := Lib.hid hp
          have HQ := Lib.hid hq
          have g1 : (0 : Int) ≤ (j : Int) := by omega
          clear hp hq hc hc2
          by_cases h1 : p = q
          · subst h1
            have e1 : ((p : Int) != (p : Int)) = false := by simp
            have HE := Lib.hid (show nv ((dig x).drop j) = nv ((dig y).drop j) by rw [nv_drop_get HP.out, nv_drop_get HQ.out, HEQ.out])
            go_wp2_with fail
            go_quiet (fail)
            go_wp2_with fail
            go_roundw
            case rel => exact ⟨j, by omega, ⟨_, rfl, by omega⟩, HE.out, below_drewN HBW.out _⟩
            case measure => simp [intOf]
          · have e1 : ((p : Int) != (q : Int)) = true := by simp; omega
            by_cases h2 : p < q
            · have h2' : (p : Int) < (q : Int) := by omega
              have hlt := drop_lt (dig_wds x) HP.out HQ.out HEQ.out h2
              rw [nv_dig, nv_dig] at hlt
              have HC := Lib.hid (show cmpN x y = -1 by simp [cmpN, hlt])
              clear hlt
              go_wp2_with fail
              go_quiet (fail)
              go_wp2_with fail
              go_quiet (fail)
              go_wp2_with fail
              go_ret
              exact ⟨by rw [HC.out]; rfl, below_drewN (below_drewN HBW.out _) _⟩
            · have h2' : ¬ (p : Int) < (q : Int) := by omega
              have hlt := drop_lt (dig_wds y) HQ.out HP.out HEQ.out.symm (show q < p by omega)
              rw [nv_dig, nv_dig] at hlt
              have HC := Lib.hid (show cmpN x y = 1 by have : ¬ x < y := by omega
                                                       simp [cmpN, hlt, this])
              clear hlt
              go_wp2_with fail
              go_quiet (fail)
              go_wp2_with fail
              go_quiet (fail)
              go_wp2_with fail
              go_ret
              exact ⟨by rw [HC.out]; rfl, below_drewN (below_drewN HBW.out _) _⟩

end Go.Proofs.YtjokpfgncmdomaaGreatDoor

/- div: the easy cases -/
namespace Go.Proofs.YtjokpfgncmdomaaGreatDoor
open Go.RowKit Go.Sort

theorem dig_len_small {x : Nat} (h : x < 18446744073709551616) : (dig x).length ≤ 2 := dig_len_le (k := 2) h
theorem small_dig {x : Nat} (h : (dig x).length ≤ 2) : x < 18446744073709551616 := by
  have h2 := lt_dig_len x
  exact Nat.lt_of_lt_of_le h2 (Nat.pow_le_pow_right (by decide) h)

/-- what div answers -/
def DivPost (x y B : Nat) (w : World) (e : Ending) (w' : World) : Prop :=
  ∃ A' c' A'' c'', e = .returned (.tuple #[.slice A' (dig (x / y)).length c', .slice A'' (dig (x % y)).length c'']) ∧ (dig (x / y)).length ≤ c' ∧ (dig (x % y)).length ≤ c'' ∧
    RdE Wc 1 w' (fun b => B ≤ b ∧ b < w'.heap.size) A' (dig (x / y)).length (dig (x / y)) ∧ RdE Wc 1 w' (fun b => B ≤ b ∧ b < w'.heap.size) A'' (dig (x % y)).length (dig (x % y)) ∧ Below B w w'

theorem cmp_lt (A B : Option Addr) (n m c d : Nat) (x y : Nat) (S S' : Nat → Prop) (w : World) (hx : RdE Wc 1 w S A n (dig x)) (hy : RdE Wc 1 w S' B m (dig y)) (hn : n ≤ 100000000000) (hm : m ≤ 100000000000) (h : x < y) :
    Calls Tryz.prog 139 #[.slice A n c, .slice B m d] w fun e w' => e = .returned (.int .i64 (-1)) ∧ Below w.heap.size w w' :=
  (cmp_any A B n m c d x y S S' w hx hy hn hm).mono fun e w' h' => ⟨by rw [h'.1]; simp [cmpN, h], h'.2⟩
theorem cmp_ge (A B : Option Addr) (n m c d : Nat) (x y : Nat) (S S' : Nat → Prop) (w : World) (hx : RdE Wc 1 w S A n (dig x)) (hy : RdE Wc 1 w S' B m (dig y)) (hn : n ≤ 100000000000) (hm : m ≤ 100000000000) (h : y ≤ x) :
    Calls Tryz.prog 139 #[.slice A n c, .slice B m d] w fun e w' => ∃ z : Int, 0 ≤ z ∧ z ≤ 1 ∧ e = .returned (.int .i64 z) ∧ Below w.heap.size w w' :=
  (cmp_any A B n m c d x y S S' w hx hy hn hm).mono fun e w' h' => by
    have h1 : ¬ x < y := by omega
    by_cases h2 : y < x
    · exact ⟨1, by omega, by omega, by rw [h'.1]; simp [cmpN, h1, h2], h'.2⟩
    · exact ⟨0, by omega, by omega, by rw [h'.1]; simp [cmpN, h1, h2], h'.2⟩

set_option maxRecDepth 100000 in
set_option maxHeartbeats 2000000 in
theorem div_lt (A B : Option Addr) (n m c d : Nat) (x y : Nat) (w : World) (hx : RdE Wc 1 w (fun b => b < w.heap.size) A n (dig x)) (hy : RdE Wc 1 w (fun b => b < w.heap.size) B m (dig y)) (hn : n ≤ 10000000) (hm : m ≤ 10000000) (h : x < y) :
    Calls Tryz.prog 100 #[.slice A n c, .slice B m d] w (DivPost x y w.heap.size w) := by
  have HX := Lib.hid hx
  have HY := Lib.hid hy
  have hm0 : 0 < m := by
    rw [← HY.out.num]
    exact List.length_pos_iff.2 (dig_pos (by omega))
  have e0 : ((m : Int) == 0) = false := by simp; omega
  clear hx hy
  go_enter Tryz.func100, Tryz.ntmps100
  go_wp2_with fail
  refine (cmp_lt _ _ _ _ _ _ x y _ _ _ HX.out HY.out (by omega) (by omega) h).mono ?_
  rintro e w1 ⟨rfl, hb1⟩
  have hr1 := HX.out.keep (Keeps.below hb1 (fun b hb => hb))
  have HR1 := Lib.hid hr1
  have HB1 := Lib.hid hb1
  clear hb1 hr1
  go_wp2_with fail
  refine (twin_any _ _ _ _ _ _ HR1.out (by omega)).mono ?_
  rintro e w2 ⟨A2, c2, rfl, hc2, hr2, hb2⟩
  have HR2 := Lib.hid hr2
  have HB2 := Lib.hid (below_then HB1.out hb2)
  have hz := HB1.out.size
  clear hr2 hb2
  go_wp2_with fail
  go_ret2
  have e1 : x / y = 0 := Nat.div_eq_of_lt h
  have e2 : x % y = x := Nat.mod_eq_of_lt h
  have e3 : n = (dig x).length := HX.out.num.symm
  subst e3
  refine ⟨none, 0, A2, c2, ?_, ?_, ?_, ?_, ?_, HB2.out⟩
  · rw [e1, e2]; rfl
  · rw [e1]; exact Nat.le_refl _
  · rw [e2]; exact hc2
  · rw [e1]; exact RdE.nil ..
  · rw [e2]; exact HR2.out.imp fun b hb => ⟨by omega, hb.2⟩

set_option maxRecDepth 100000 in
set_option maxHeartbeats 2000000 in
theorem div_two (A B : Option Addr) (n m c d : Nat) (x y : Nat) (w : World) (hx : RdE Wc 1 w (fun b => b < w.heap.size) A n (dig x)) (hy : RdE Wc 1 w (fun b => b < w.heap.size) B m (dig y)) (hn : n ≤ 2) (hy0 : 0 < y) (h : y ≤ x) :
    Calls Tryz.prog 100 #[.slice A n c, .slice B m d] w (DivPost x y w.heap.size w) := by
  have HX := Lib.hid hx
  have HY := Lib.hid hy
  have hm0 : 0 < m := by
    rw [← HY.out.num]
    exact List.length_pos_iff.2 (dig_pos (by omega))
  have hm2 : m ≤ 2 := by
    have h1 := dig_len_mono h
    rw [HX.out.num, HY.out.num] at h1
    omega
  have hxs := small_dig (x := x) (by rw [HX.out.num]; exact hn)
  have hys := small_dig (x := y) (by rw [HY.out.num]; exact hm2)
  have px : pl (dig x) = x := nv_two (by rw [HX.out.num]; exact hn)
  have py : pl (dig y) = y := nv_two (by rw [HY.out.num]; exact hm2)
  have PX := Lib.hid px
  have PY := Lib.hid py
  have e0 : ((m : Int) == 0) = false := by simp; omega
  have e1 : ((y : Int) == 0) = false := by simp; omega
  have hy1 : ¬ y = 0 := by omega
  have hwd : IntKind.u64.wrap ((x : Int) / (y : Int)) = ((x / y : Nat) : Int) := by
    have h1 : x / y ≤ x := Nat.div_le_self _ _
    rw [← Int.natCast_ediv, IntKind.wrap_u64]; generalize x / y = q at *; omega
  have hmd : (x : Int).tmod (y : Int) = ((x % y : Nat) : Int) := by rw [Int.tmod_eq_emod_of_nonneg (by omega)]; rfl
  clear hx hy px py
  go_enter Tryz.func100, Tryz.ntmps100
  go_wp2_with fail
  refine (cmp_ge _ _ _ _ _ _ x y _ _ _ HX.out HY.out (by omega) (by omega) h).mono ?_
  rintro e w1 ⟨z, hz0, hz1, rfl, hb1⟩
  have hr1 := HX.out.keep (Keeps.below hb1 (fun b hb => hb))
  have hr2 := HY.out.keep (Keeps.below hb1 (fun b hb => hb))
  have HR1 := Lib.hid hr1
  have HR2 := Lib.hid hr2
  have HB1 := Lib.hid hb1
  clear hb1 hr1 hr2
  go_wp2_with fail
  refine (plain_any _ _ _ _ _ _ HR1.out (dig_wds x)).mono ?_
  rintro e w' ⟨rfl, rfl⟩
  rw [PX.out]
  go_wp2_with fail
  refine (plain_any _ _ _ _ _ _ HR2.out (dig_wds y)).mono ?_
  rintro e w' ⟨rfl, rfl⟩
  rw [PY.out]
  go_wp2_with fail
  refine wp_region_held_drew (S := (fun _ => True)) (by kernel_rfl) ?_ (fun hHeld => ?_)
  · first | exact True.intro | ((try dsimp only); go_keep)
  refine tkH (i := 0) (v := ?_) rfl (by kernel_rfl) (Or.inl ⟨by kernel_rfl, ?_⟩) (by assumption) ?_
  rotate_left 1
  · (intro w hSw; (try dsimp only at hSw); go_simp; try with_reducible rfl)
  try simp only [lyA, lyB, lyC, Act.put, lyD, lyE, lyF]
  refine tkH (i := 1) (v := ?_) rfl (by kernel_rfl) (Or.inl ⟨by kernel_rfl, ?_⟩) (by assumption) ?_
  rotate_left 1
  · (intro w hSw; (try dsimp only at hSw); go_simp; try with_reducible rfl)
  try simp only [lyA, lyB, lyC, Act.put, lyD, lyE, lyF]
  refine tkH (i := 2) (v := ?_) rfl (by kernel_rfl) (Or.inl ⟨by kernel_rfl, ?_⟩) (by assumption) ?_
  rotate_left 1
  · (intro w hSw; (try dsimp only at hSw); go_simp; try with_reducible rfl)
  try simp only [lyA, lyB, lyC, Act.put, lyD, lyE, lyF]
  refine tkH (i := 4) (v := ?_) rfl (by kernel_rfl) (Or.inl ⟨by kernel_rfl, ?_⟩) (by assumption) ?_
  rotate_left 1
  · (intro w hSw; (try dsimp only at hSw); go_simp; try with_reducible rfl)
  try simp only [lyA, lyB, lyC, Act.put, lyD, lyE, lyF]
  refine tkH (i := 5) (v := ?_) rfl (by kernel_rfl) (Or.inl ⟨by kernel_rfl, ?_⟩) (by assumption) ?_
  rotate_left 1
  · (intro w hSw; (try dsimp only at hSw); go_simp; try with_reducible rfl)
  try simp only [lyA, lyB, lyC, Act.put, lyD, lyE, lyF]
  refine tkH (i := 6) (v := ?_) rfl (by kernel_rfl) (Or.inl ⟨by kernel_rfl, ?_⟩) (by assumption) ?_
  rotate_left 1
  · (intro w hSw; (try dsimp only at hSw); go_simp; try with_reducible rfl)
  try simp only [lyA, lyB, lyC, Act.put, lyD, lyE, lyF]
  refine wpAnyH_ready (rs := [3]) (by kernel_rfl) (by simp) ?_
  refine AllReadyH.cons rfl (fun K hK => ?_) AllReadyH.nil
  go_simp
  (refine (words_any (x / y) _ (Nat.lt_of_le_of_lt (Nat.div_le_self _ _) hxs)).mono ?_; rintro e w2 ⟨A2, c2, rfl, hc2, hr2, hb2⟩; have HR3 := Lib.hid hr2; have HB2 : Hid (Below w1.heap.size w1 w2) := Lib.hid (((Below.refl w1.heap.size w1).drew).trans hb2); clear hr2 hb2)
  try go_wp2_with fail
  refine hK.out _ _ ?_ (fun hHeld => ?_)
  · first | exact True.intro | ((try dsimp only); go_keep)
  clear hK K
  try simp only [lyA, lyB, lyC, Act.put, lyD, lyE, lyF]
  refine wpAnyH_ready (rs := [7]) (by kernel_rfl) (by simp) ?_
  refine AllReadyH.cons rfl (fun K hK => ?_) AllReadyH.nil
  go_simp
  (refine (words_any (x % y) _ (Nat.lt_of_le_of_lt (Nat.mod_le _ _) hxs)).mono ?_; rintro e w3 ⟨A3, c3, rfl, hc3, hr3, hb3⟩; have HR4 := Lib.hid hr3; have HB3 := Lib.hid hb3; clear hr3 hb3)
  try go_wp2_with fail
  refine hK.out _ _ ?_ (fun hHeld => ?_)
  · first | exact True.intro | ((try dsimp only); go_keep)
  clear hK K
  try simp only [lyA, lyB, lyC, Act.put, lyD, lyE, lyF]
  refine tkH (i := 8) (v := ?_) rfl (by kernel_rfl) (Or.inl ⟨by kernel_rfl, ?_⟩) (by assumption) ?_
  rotate_left 1
  · (intro w hSw; (try dsimp only at hSw); go_simp; try with_reducible rfl)
  try simp only [lyA, lyB, lyC, Act.put, lyD, lyE, lyF]
  refine tkH (i := 9) (v := ?_) rfl (by kernel_rfl) (Or.inl ⟨by kernel_rfl, ?_⟩) (by assumption) ?_
  rotate_left 1
  · (intro w hSw; (try dsimp only at hSw); go_simp; try with_reducible rfl)
  try simp only [lyA, lyB, lyC, Act.put, lyD, lyE, lyF]
  refine wpAnyH_done (by kernel_rfl) ?_ _
  go_wp2_with fail
  go_ret2
  have z1 := HB1.out.size
  have z2 := HB2.out.size
  have z3 := HB3.out.size
  simp only [World.drew] at HR3
  exact ⟨A2, c2, A3, c3, by simp, hc2, hc3, (HR3.out.keep (Keeps.below HB3.out (fun b hb => hb.2))).imp fun b hb => ⟨by omega, by omega⟩, HR4.out.imp fun b hb => ⟨by omega, hb.2⟩, below_then (below_then HB1.out HB2.out) HB3.out⟩

set_option maxRecDepth 100000 in
set_option maxHeartbeats 2000000 in
theorem div_one (A B : Option Addr) (n c d : Nat) (x y : Nat) (w : World) (hx : RdE Wc 1 w (fun b => b < w.heap.size) A n (dig x)) (hy : RdE Wc 1 w (fun b => b < w.heap.size) B 1 (dig y)) (hn : 2 < n) (hn2 : n ≤ 10000000) (hy0 : 0 < y) (h : y ≤ x) :
    Calls Tryz.prog 100 #[.slice A n c, .slice B 1 d] w (DivPost x y w.heap.size w) := by
  have HX := Lib.hid hx
  have HY := Lib.hid hy
  have hyl : y < 4294967296 := by have h1 := lt_dig_len y; rw [HY.out.num] at h1; exact h1
  obtain ⟨y', hy'⟩ := get_some HY.out.num (show 0 < 1 by omega)
  have hyy : y' = y := by
    have h1 := nv_dig y
    have h2 := HY.out.num
    match hd : dig y, h2 with
    | [t], _ => rw [hd] at hy' h1; simp at hy'; simp [nv] at h1; omega
  subst hyy
  obtain ⟨b2, o2, rfl, hSb2, hc2⟩ := HY.out.elem Wc.clen hy' (by omega)
  have q2 : ∀ wi, Below w.heap.size w wi → wi.cell? ⟨b2, o2, none⟩ = some (.int .u32 (y' : Int)) := fun wi hb => bat hb (hc2 0 _ rfl)
  have Q2 := Lib.hid q2
  have e0 : ((y' : Int) == 0) = false := by simp; omega
  clear hx hy hc2 hy' q2
  go_enter Tryz.func100, Tryz.ntmps100
  go_wp2_with fail
  refine (cmp_ge _ _ _ _ _ _ x y' _ _ _ HX.out HY.out (by omega) (by omega) h).mono ?_
  rintro e w1 ⟨z, hz0, hz1, rfl, hb1⟩
  have hr1 := HX.out.keep (Keeps.below hb1 (fun b hb => hb))
  have HR1 := Lib.hid hr1
  have q2 := Q2.out w1 hb1
  have HB1 := Lib.hid hb1
  have z1 := HB1.out.size
  clear hb1 hr1
  go_wp2_with fail
  refine (small_any _ _ _ _ y' _ _ HR1.out (dig_wds x) (fun b hb => by omega) (by omega) hy0 hyl).mono ?_
  rintro e w2 ⟨A2, c2, rfl, hc2, hr2, hb2⟩
  rw [nv_dig] at hc2 hr2 ⊢
  have HR3 := Lib.hid hr2
  have HB2 := Lib.hid hb2
  clear hr2 hb2
  go_wp2_with fail
  have z2 := HB2.out.size
  have hrd : ∀ t, RdE Wc 1 (w2.alloc (.cells #[.int .u32 ((x % y' : Nat) : Int)] t)) (fun b => b = w2.heap.size) (some ⟨w2.heap.size, 0, none⟩) 1 [x % y'] := fun t => rde_blk (f := Wc) (n := 1) (size := 1) (S := fun b => b = w2.heap.size) (xs := [x % y']) (blk_new w2 #[.int .u32 ((x % y' : Nat) : Int)] t) rfl rfl rfl rfl
  have hwd : Wds [x % y'] := by
    intro z hz
    simp only [List.mem_cons, List.not_mem_nil, or_false] at hz
    rw [hz]
    exact Nat.lt_of_lt_of_le (Nat.mod_lt _ hy0) (by show y' ≤ 4294967296; omega)
  have hnv : nv [x % y'] = x % y' := by simp [nv]
  refine (trim_any _ 1 1 [x % y'] _ _ (hrd _) hwd (fun b hb => by rw [hb]; simp) (by omega) (by omega)).mono ?_
  rintro e w3 ⟨k, rfl, hk, htk, hb3⟩
  rw [hnv] at htk
  have hlen : k = (dig (x % y')).length := by rw [← htk, List.length_take]; simp; omega
  have hr3 := ((hrd _).keep (Keeps.below hb3 (fun b hb => by rw [hb]; simp))).take Wc.clen hk
  rw [htk] at hr3
  have z3 := hb3.size
  simp only [World.size_alloc] at z3
  subst hlen
  have HR4 := Lib.hid hr3
  have HB3 : Hid (Below w2.heap.size w2 w3) := Lib.hid (((Below.refl _ _).alloc (Nat.le_refl _) _).trans (hb3.mono (by simp)))
  clear hr3 htk hrd hwd hnv hb3
  go_wp2_with fail
  go_ret2
  refine ⟨A2, c2, _, 1, rfl, hc2, hk, (HR3.out.keep (Keeps.below HB3.out (fun b hb => hb.2))).imp fun b hb => ⟨by omega, by omega⟩, ?_, below_then (below_then HB1.out HB2.out) HB3.out⟩
  exact HR4.out.imp fun b hb => ⟨by omega, by omega⟩

end Go.Proofs.YtjokpfgncmdomaaGreatDoor

/- plain steps of the long division -/
namespace Go.Proofs.YtjokpfgncmdomaaGreatDoor
open Go.RowKit Go.Sort

theorem kn_h {VJ P h x0 ul top next vl : Nat} (hV : VJ = (top * W32 + next) * P + vl) (hvl : vl < P) (hn : next < W32) {U : Nat} (hU : U = (h * W32 + x0) * P + ul) (hlt : U < VJ * W32) : h < (top + 1) * W32 := by
  have h1 : VJ ≤ (top + 1) * W32 * P := by
    have h2 : (top * W32 + next + 1) * P ≤ (top + 1) * W32 * P := Nat.mul_le_mul_right _ (by rw [Nat.add_mul top 1, Nat.one_mul]; omega)
    rw [Nat.add_mul _ 1, Nat.one_mul] at h2
    omega
  have h3 : h * (W32 * P) ≤ U := by
    rw [hU, Nat.add_mul, Nat.mul_assoc]; omega
  have h4 : U < (top + 1) * W32 * (W32 * P) := by
    refine Nat.lt_of_lt_of_le hlt ?_
    have := Nat.mul_le_mul_right W32 h1
    rw [Nat.mul_assoc ((top + 1) * W32), Nat.mul_comm P] at this
    exact this
  exact Nat.lt_of_mul_lt_mul_right (Nat.lt_of_le_of_lt h3 h4)
theorem kn_u3 {us : List Nat} {V j k : Nat} (hV : (dig V).length = k + 2) (h : nv us < V * W32 ^ (j + 1)) : ZeroFrom us (j + k + 3) := by
  apply zeroFrom_of_lt
  have h1 := lt_dig_len V
  rw [hV] at h1
  refine Nat.lt_of_lt_of_le h ?_
  rw [show j + k + 3 = (k + 2) + (j + 1) by omega, Nat.pow_add W32 (k + 2) (j + 1)]
  exact Nat.mul_le_mul_right _ (Nat.le_of_lt h1)
theorem kn_qlt {us : List Nat} {V j : Nat} (h : nv us < V * W32 ^ (j + 1)) : nv us / (V * W32 ^ j) < W32 := by
  apply Nat.div_lt_of_lt_mul
  rw [Nat.mul_assoc, ← Nat.pow_succ]
  exact h
theorem kn_brk {g top r h : Nat} (hr : g * top + r = h) (hb : W32 ≤ r) (hh : h < (top + 1) * W32) : g < W32 := by
  apply Nat.lt_of_not_le
  intro hg
  have h1 := Nat.mul_le_mul_right top hg
  rw [Nat.add_mul, Nat.one_mul] at hh
  rw [Nat.mul_comm W32] at h1
  rw [Nat.mul_comm top W32] at h1 hh
  omega
theorem kn_ok {g next r x0 : Nat} (hg : g < W32) (hn : next < W32) (hb : W32 ≤ r) : g * next ≤ r * W32 + x0 := by
  have h1 : g * next ≤ W32 * W32 := Nat.mul_le_mul (Nat.le_of_lt hg) (Nat.le_of_lt hn)
  have h2 := Nat.mul_le_mul_right W32 hb
  omega
theorem borrow2 {x q y : Nat} (hx : x < 4294967296) (hq : q < 2) (hy : y < 4294967296) : ∃ q' s : Nat, IntKind.u64.wrap (IntKind.u64.wrap ((x : Int) - y) - q) / 9223372036854775808 = (q' : Int) ∧ IntKind.u64.wrap (IntKind.u64.wrap ((x : Int) - y) - q) % 4294967296 = (s : Int) ∧ q' < 2 ∧ s < W32 ∧ x + W32 * q' = s + y + q := by
  have e : IntKind.u64.wrap (IntKind.u64.wrap ((x : Int) - y) - q) = IntKind.u64.wrap (IntKind.u64.wrap ((x : Int) - q) - y) := by
    rw [IntKind.wrap_u64, IntKind.wrap_u64, IntKind.wrap_u64, IntKind.wrap_u64]; omega
  rw [e]
  obtain ⟨q', s, h1, h2, h3, h4, h5⟩ := borrow hx hq hy
  exact ⟨q', s, h1, h2, h3, h4, by omega⟩
theorem topw {x c d : Nat} (hx : x < 4294967296) (hc : c < 4294967296) (hd : d < 2) :
    (c + d ≤ x → IntKind.u64.wrap (IntKind.u64.wrap ((x : Int) - c) - d) = ((x - (c + d) : Nat) : Int)) ∧
    (x < c + d → IntKind.u64.wrap (IntKind.u64.wrap ((x : Int) - c) - d) / 9223372036854775808 = 1 ∧ IntKind.u64.wrap (IntKind.u64.wrap ((x : Int) - c) - d) % 4294967296 = ((x + W32 - (c + d) : Nat) : Int) ∧ c + d ≤ W32 + x ∧ x + W32 - (c + d) < W32) := by
  rw [IntKind.wrap_u64, IntKind.wrap_u64]
  show (c + d ≤ x → _) ∧ (x < c + d → _ ∧ _ = ((x + 4294967296 - (c + d) : Nat) : Int) ∧ c + d ≤ 4294967296 + x ∧ x + 4294967296 - (c + d) < 4294967296)
  constructor
  · intro h; omega
  · intro h; exact ⟨by omega, by omega, by omega, by omega⟩
theorem back_step {xs v : List Nat} {j i c o p vi R : Nat} (ho : xs[j + i]? = some o) (hI : nv xs + W32 ^ (j + i) * c = R + W32 ^ j * nv (v.take i)) (hv : v[i]? = some vi) (hp : p = c + (o + vi)) :
    nv (xs.set (j + i) (p % W32)) + W32 ^ (j + (i + 1)) * (p / W32) = R + W32 ^ j * nv (v.take (i + 1)) := by
  have h1 := nv_set (v := p % W32) ho
  have h2 : W32 ^ (j + i) * (p % W32) + W32 ^ (j + (i + 1)) * (p / W32) = W32 ^ (j + i) * p := by
    rw [← Nat.add_assoc, Nat.pow_succ, Nat.mul_assoc, ← Nat.mul_add, Nat.mod_add_div]
  have h3 : W32 ^ (j + i) * p = W32 ^ (j + i) * c + (W32 ^ (j + i) * o + W32 ^ (j + i) * vi) := by rw [hp, Nat.mul_add, Nat.mul_add]
  rw [nv_take_succ hv, Nat.mul_add, ← Nat.mul_assoc (W32 ^ j), ← Nat.pow_add]
  omega
theorem u64_pred {g : Nat} (h : 1 ≤ g) : Value.int .u64 ((g : Int) - 1) = Value.int .u64 ((g - 1 : Nat) : Int) := by congr 1; omega
theorem dec_eq {g top r h : Nat} (hg : 1 ≤ g) (e : g * top + r = h) : (g - 1) * top + (r + top) = h := by
  rw [← e]
  conv => rhs; rw [show g = g - 1 + 1 by omega, Nat.add_mul, Nat.one_mul]
  omega
theorem div_end {x y s a b : Nat} (hy : 0 < y) (h : x * 2 ^ s = a + y * 2 ^ s * b) (ha : a < y * 2 ^ s) : b = x / y ∧ a / 2 ^ s = x % y := by
  have hp : 0 < 2 ^ s := Nat.pow_pos (by decide)
  have hd : x * 2 ^ s / (y * 2 ^ s) = b := by rw [h, Nat.add_mul_div_left _ _ (Nat.mul_pos hy hp), Nat.div_eq_of_lt ha, Nat.zero_add]
  have hm : x * 2 ^ s % (y * 2 ^ s) = a := by rw [h, Nat.add_mul_mod_self_left, Nat.mod_eq_of_lt ha]
  rw [Nat.mul_div_mul_right _ _ hp] at hd
  rw [Nat.mul_mod_mul_right] at hm
  exact ⟨hd.symm, by rw [← hm, Nat.mul_div_cancel _ hp]⟩

end Go.Proofs.YtjokpfgncmdomaaGreatDoor
