import Derived.Test.YtfepmbpcdfdlhaaX02
import Derived.Laws.Pointers
import Derived.Deep.Fields
set_option linter.unusedSimpArgs false
set_option linter.unusedVariables false
/- left: the walk -/
namespace Go.Proofs.Ytfepmbpcdfdlhaa
open Go.RowKit Go.Sort

theorem left_words {x s o : Nat} (hx : x < 4294967296) (hs : s < 32) (ho : o < 2 ^ s) :
    bits .or .u32 (o : Int) (IntKind.u64.wrap ((x : Int) * 2 ^ s) % 4294967296) = ((o + x * 2 ^ s % W32 : Nat) : Int) ∧ o + x * 2 ^ s % W32 < W32 ∧
    bits .or .u32 0 (IntKind.u64.wrap ((x : Int) * 2 ^ s) / 4294967296 % 4294967296) = ((x * 2 ^ s / W32 : Nat) : Int) ∧ x * 2 ^ s / W32 < 2 ^ s := by
  have hp : 0 < 2 ^ s := Nat.pow_pos (by decide)
  have hp2 : 2 ^ s ≤ 2147483648 := Nat.le_trans (Nat.pow_le_pow_right (show 0 < 2 by decide) (show s ≤ 31 by omega)) (by decide)
  have hv : x * 2 ^ s < 4294967296 * 2 ^ s := Nat.mul_lt_mul_of_pos_right hx hp
  have hvv : x * 2 ^ s < 18446744073709551616 := by omega
  have hw : IntKind.u64.wrap ((x : Int) * 2 ^ s) = ((x * 2 ^ s : Nat) : Int) := by
    rw [IntKind.wrap_u64]
    have e : (x : Int) * 2 ^ s = ((x * 2 ^ s : Nat) : Int) := by push_cast; rfl
    rw [e]; omega
  rw [hw]
  obtain ⟨r, hr⟩ : ∃ r, 4294967296 = 2 ^ s * r := ⟨2 ^ (32 - s), by rw [← Nat.pow_add, show s + (32 - s) = 32 by omega]⟩
  have hdvd : x * 2 ^ s % 4294967296 = 2 ^ s * (x % r) := by
    rw [hr, Nat.mul_comm x, Nat.mul_mod_mul_left]
  have hlow : x * 2 ^ s % 4294967296 % 2 ^ s = 0 := by rw [hdvd, Nat.mul_mod_right]
  have hsum : o + x * 2 ^ s % 4294967296 < 4294967296 := by
    have h1 : x % r < r := Nat.mod_lt _ (by rcases Nat.eq_zero_or_pos r with h | h; · rw [h] at hr; omega
                                            · exact h)
    have h2 : 2 ^ s * (x % r) + 2 ^ s ≤ 2 ^ s * r := by rw [← Nat.mul_succ]; exact Nat.mul_le_mul_left _ h1
    omega
  have hm : x * 2 ^ s % 4294967296 < 4294967296 := Nat.mod_lt _ (by decide)
  have hq : x * 2 ^ s / 4294967296 < 2 ^ s := Nat.div_lt_of_lt_mul hv
  generalize x * 2 ^ s = v at *
  refine ⟨?_, hsum, ?_, hq⟩
  · have h := bits_join_low .u32 32 (by decide) wraps_u32 s (o : Int) ((v : Int) % 4294967296) (by omega) (by rw [show (2 : Int) ^ s = ((2 ^ s : Nat) : Int) from (Int.natCast_pow 2 s).symm]; omega) (by omega) (by omega) (by
      have g1 : (v : Int) % 4294967296 = ((v % 4294967296 : Nat) : Int) := by omega
      have g2 : (2 : Int) ^ s = ((2 ^ s : Nat) : Int) := (Int.natCast_pow 2 s).symm
      rw [g1, g2, ← Int.natCast_emod, hlow]; rfl) (by omega)
    rw [h]
    show (o : Int) + v % 4294967296 = ((o + v % 4294967296 : Nat) : Int)
    omega
  · have e : (v : Int) / 4294967296 % 4294967296 = ((v / 4294967296 : Nat) : Int) := by omega
    rw [e]
    have h := (bits_nat .u32 32 (by decide) wraps_u32 0 (v / 4294967296) (by decide) (by omega)).2
    rw [Nat.zero_or] at h
    exact h

set_option maxRecDepth 100000 in
set_option maxHeartbeats 2000000 in
theorem left_any (A : Option Addr) (n c : Nat) (a : List Nat) (h s : Nat) (S : Nat → Prop) (w : World) (hx : RdE Wc 1 w S A n a) (ha : Wds a) (hS : ∀ b, S b → b < w.heap.size) (hn : n ≤ 10000000000) (hh : h ≤ 10000000000) (hs : s < 32) :
    Calls Try.prog 74 #[.slice A n c, .int .u64 ((h * 32 + s : Nat) : Int)] w fun e w' => ∃ A' c', e = .returned (.slice A' (dig (nv a * 2 ^ (h * 32 + s))).length c') ∧ (dig (nv a * 2 ^ (h * 32 + s))).length ≤ c' ∧ RdE Wc 1 w' (fun b => w.heap.size ≤ b ∧ b < w'.heap.size) A' (dig (nv a * 2 ^ (h * 32 + s))).length (dig (nv a * 2 ^ (h * 32 + s))) ∧ Below w.heap.size w w' := by
  obtain ⟨i0, hi0, hz0, hz1, hz2⟩ := info_parts' info_u32
  have HX := Lib.hid hx
  have HA := Lib.hid ha
  have HS := Lib.hid hS
  clear hx ha hS
  by_cases h0 : n = 0
  · subst h0
    have e : a = [] := List.eq_nil_of_length_eq_zero HX.out.num
    subst e
    go_enter Try.func74, Try.ntmps74
    go_wp2_with fail
    go_ret
    refine ⟨none, 0, ?_, ?_, ?_, Below.refl _ _⟩
    · simp [nv, dig_zero]
    · simp [nv, dig_zero]
    · simp only [nv, Nat.zero_mul, dig_zero]; exact RdE.nil ..
  · have e0 : ((n : Int) == 0) = false := by simp; omega
    have e1 : ((h * 32 + s : Nat) : Int) / 32 = (h : Int) := by omega
    have e2 : ((h * 32 + s : Nat) : Int) % 32 = (s : Int) := by omega
    obtain ⟨N, hN⟩ : ∃ N : Nat, N = h * 32 + s := ⟨_, rfl⟩
    rw [← hN] at e1 e2 ⊢
    have HN := Lib.hid hN
    clear hN
    go_enter Try.func74, Try.ntmps74
    go_wp2_with (at_make; go_must (refine wpList_make_full _ rfl _ _ _ rfl w.heap.size 135 i0 _ 1 Try.underlying78 hi0 hz0 hz1 .i64 .i64 _ _ (n + h + 1) rfl rfl (by omega) (by omega) (by rw [hz2]; omega) (by simp only [maxLen]; omega) (Nat.le_refl _) ?_); intro w1 hown1 hg1)
    have hinv := hown1
    rw [made_u32] at hinv
    have HI := Lib.hid hinv
    have HB1 := Lib.hid (below_of_grown hg1 (fun g hg => by cases hg))
    clear hown1 hg1 hinv
    go_loopw [8] (fun i wr => ∃ (k : Nat) (xs : List Nat), k ≤ n ∧ i = .int .i64 k ∧ xs.length = n + h + 1 ∧ Wds xs ∧ nv xs = W32 ^ h * 2 ^ s * nv (a.take k) ∧ ZeroFrom xs (k + h + 1) ∧ (∀ o, xs[k + h]? = some o → o < 2 ^ s) ∧ wr.ownsRow w.heap.size 135 1 (.slice (some ⟨w.heap.size, 0, none⟩) (n + h + 1) (n + h + 1)) (n + h + 1) (xs.flatMap Wc) ∧ Below w.heap.size w wr) (fun i _ => n - (intOf i).toNat)
    case atStart => exact ⟨0, List.replicate (n + h + 1) 0, Nat.zero_le _, rfl, by simp, fun x hx => by rw [(List.mem_replicate.1 hx).2]; decide, by rw [(zero_rep (n + h + 1) 0).val]; simp [nv], zero_rep _ _, fun o ho => by rw [(List.mem_replicate.1 (List.mem_of_getElem? ho)).2]; exact Nat.pow_pos (by decide), HI.out, HB1.out⟩
    case round =>
      obtain ⟨k, xs, hk, rfl, hxl, hxw, hsum, hzf, hlow, hown, hbw⟩ := hrel
      by_cases hlt : k < n
      · obtain ⟨x, hx⟩ := get_some HX.out.num hlt
        obtain ⟨b1, o1, rfl, hSb1, hc⟩ := HX.out.elem Wc.clen hx (by omega)
        have q1 : wr.cell? ⟨b1, o1 + k, none⟩ = some (.int .u32 (x : Int)) := by have h := (hbw.cell (p := ⟨b1, _, none⟩) (HS.out _ hSb1)).trans (hc 0 _ rfl); rw [Nat.mul_one, Nat.add_zero] at h; exact h
        have hxlt := hw0 HA.out hx
        obtain ⟨o, ho⟩ := get_some hxl (show k + h < n + h + 1 by omega)
        have hos := hlow o ho
        have q0 := own_wc hown ho
        have hf := hown.frozenAt (k + h)
        obtain ⟨o', ho'⟩ := get_some hxl (show k + h + 1 < n + h + 1 by omega)
        obtain rfl : o' = 0 := hzf _ _ (Nat.le_refl _) ho'
        have q0' := own_wc hown ho'
        have hf' := hown.frozenAt (k + h + 1)
        have HO := Lib.hid hown
        have HBW := Lib.hid hbw
        have HSUM := Lib.hid hsum
        have HXX := Lib.hid hx
        have HXW := Lib.hid hxw
        have HZF := Lib.hid hzf
        have HOO := Lib.hid ho
        have HOO' := Lib.hid ho'
        have HOS := Lib.hid hos
        clear hown hbw hsum hx hc hxw hzf hlow ho ho' hos
        go_wp2_with fail
        obtain ⟨b1e, b1l, b2e, b2l⟩ := left_words hxlt hs HOS.out
        rw [b1e, b2e]
        have b2w : x * 2 ^ s / W32 < W32 := Nat.lt_of_lt_of_le b2l (Nat.le_trans (Nat.pow_le_pow_right (show 0 < 2 by decide) (show s ≤ 32 by omega)) (by decide))
        have ho1 := own_set_wc HO.out (i := k + h) (by omega) (o + x * 2 ^ s % W32)
        have ho2 := own_set_wc ho1.1 (i := k + h + 1) (by rw [List.length_set]; omega) (x * 2 ^ s / W32)
        have hB2 := (HBW.out.grown ho1.2 (Nat.le_of_lt (HO.out.lt w.heap.size rfl).2) (fun g hg => by injection hg with hg; omega)).grown ho2.2 (Nat.le_of_lt (ho1.1.lt w.heap.size rfl).2) (fun g hg => by injection hg with hg; omega)
        refine ⟨⟨k + 1, (xs.set (k + h) (o + x * 2 ^ s % W32)).set (k + h + 1) (x * 2 ^ s / W32), by omega, by go_num, by simp [hxl], wds_set (wds_set HXW.out b1l) b2w, ?_, ?_, ?_, ho2.1, hB2⟩, by simp [intOf]; omega⟩
        · have h1 := nv_set (v := o + x * 2 ^ s % W32) HOO.out
          have h2 : (xs.set (k + h) (o + x * 2 ^ s % W32))[k + h + 1]? = some 0 := by rw [List.getElem?_set_ne (by omega)]; exact HOO'.out
          have h3 := nv_set (v := x * 2 ^ s / W32) h2
          rw [Nat.mul_zero, Nat.add_zero] at h3
          rw [Nat.mul_add] at h1
          have h4 : nv (xs.set (k + h) (o + x * 2 ^ s % W32)) = nv xs + W32 ^ (k + h) * (x * 2 ^ s % W32) := by omega
          rw [h3, h4, nv_take_succ HXX.out]
          exact left_step HSUM.out rfl
        · have h5 := (HZF.out.set (v := o + x * 2 ^ s % W32) (show k + h < k + h + 1 by omega)).set_at (v := x * 2 ^ s / W32)
          rw [show k + 1 + h + 1 = k + h + 1 + 1 by omega]
          exact h5
        · intro z hz
          rw [show k + 1 + h = k + h + 1 by omega, List.getElem?_set_self (by rw [List.length_set]; omega)] at hz
          injection hz with hz
          rw [← hz]
          exact b2l
      · obtain rfl : n = k := by omega
        have HO := Lib.hid hown
        have HBW := Lib.hid hbw
        have HXW := Lib.hid hxw
        have hfin : nv xs = nv a * 2 ^ N := by
          rw [hsum, List.take_of_length_le (by rw [HX.out.num]; exact Nat.le_refl _), HN.out, Nat.pow_add, Nat.mul_comm h, Nat.pow_mul, Nat.mul_comm]
        have HFIN := Lib.hid hfin
        clear hown hbw hxw hsum hfin hzf hlow
        go_wp2_with fail
        refine (trim_own w.heap.size w.heap.size (n + h + 1) (n + h + 1) xs _ HO.out HXW.out (by omega) (Nat.le_refl _)).mono ?_
        rintro e w9 ⟨rfl, hl9, hr9, hb9⟩
        rw [HFIN.out] at hl9 hr9 ⊢
        have HR9 := Lib.hid hr9
        have HL9 := Lib.hid hl9
        have HB9 := Lib.hid (HBW.out.trans (hb9.mono HBW.out.size))
        clear hr9 hl9 hb9
        go_wp2_with fail
        go_ret
        exact ⟨_, _, rfl, HL9.out, HR9.out, HB9.out⟩

end Go.Proofs.Ytfepmbpcdfdlhaa

/- right: the walk -/
namespace Go.Proofs.Ytfepmbpcdfdlhaa
open Go.RowKit Go.Sort

theorem nv_div {a : List Nat} (ha : Wds a) (t : Nat) : nv a / W32 ^ t = nv (a.drop t) := by
  rw [nv_split a t, Nat.add_mul_div_left _ _ (w_pos t), Nat.div_eq_of_lt (nv_take_lt ha t), Nat.zero_add]
theorem nv_div_get {a : List Nat} (ha : Wds a) {t x : Nat} (hx : a[t]? = some x) : nv a / W32 ^ t = x + W32 * nv (a.drop (t + 1)) := by
  obtain ⟨hl, e⟩ := List.getElem?_eq_some_iff.1 hx
  rw [nv_div ha, List.drop_eq_getElem_cons hl, e, nv]
theorem nv_drop_get2 {ws : List Nat} {i x : Nat} (h : ws[i]? = some x) : nv (ws.drop i) = x + W32 * nv (ws.drop (i + 1)) := by
  obtain ⟨hl, e⟩ := List.getElem?_eq_some_iff.1 h
  rw [List.drop_eq_getElem_cons hl, e, nv]
theorem pow_split (h s : Nat) : 2 ^ (h * 32 + s) = W32 ^ h * 2 ^ s := by
  rw [Nat.pow_add, Nat.mul_comm h, Nat.pow_mul]
theorem right_dig {a : List Nat} (ha : Wds a) {h s i x y Z : Nat} (hs : s < 32) (hx : a[i + h]? = some x) (hy : nv (a.drop (i + h + 1)) = y + W32 * Z) : (x + W32 * y) / 2 ^ s % W32 = nv a / 2 ^ (h * 32 + s) / W32 ^ i % W32 := by
  have e := right_word (X := nv a / W32 ^ h) (i := i) (x := x) (y := y) (Z := Z) (s := s) hs (by
    rw [Nat.div_div_eq_div_mul, ← Nat.pow_add, Nat.add_comm h i, nv_div_get ha hx, hy])
  rw [e, pow_split, ← Nat.div_div_eq_div_mul (nv a) (W32 ^ h)]

theorem cast_shr (v s : Nat) : (v : Int) / 2 ^ s % 4294967296 = ((v / 2 ^ s % W32 : Nat) : Int) := by
  have g2 : (2 : Int) ^ s = ((2 ^ s : Nat) : Int) := (Int.natCast_pow 2 s).symm
  rw [g2, ← Int.natCast_ediv]
  generalize v / 2 ^ s = q
  show (q : Int) % 4294967296 = ((q % 4294967296 : Nat) : Int)
  omega
theorem right_words {x y s : Nat} (hx : x < 4294967296) (hy : y < 4294967296) : bits .or .u64 (x : Int) ((y : Int) * 4294967296) / 2 ^ s % 4294967296 = (((x + W32 * y) / 2 ^ s % W32 : Nat) : Int) := by
  have h := u64_or32 (y := (x : Int)) (x := (y : Int) * 4294967296) (by omega) (by omega) (by omega) (by omega) (by omega)
  rw [h, show (x : Int) + (y : Int) * 4294967296 = ((x + W32 * y : Nat) : Int) by show _ = ((x + 4294967296 * y : Nat) : Int); omega]
  exact cast_shr _ _
theorem set_keeps {xs : List Nat} {k v : Nat} {P : Nat → Nat → Prop} (h : ∀ (j x : Nat), j < k → xs[j]? = some x → P j x) (hv : P k v) : ∀ (j x : Nat), j < k + 1 → (xs.set k v)[j]? = some x → P j x := by
  intro j x hj hx
  by_cases e : j = k
  · subst e
    have hl : j < xs.length := by have := (List.getElem?_eq_some_iff.1 hx).1; simpa using this
    rw [List.getElem?_set_self hl] at hx
    injection hx with hx
    exact hx ▸ hv
  · rw [List.getElem?_set_ne (by omega)] at hx
    exact h j x (by omega) hx

set_option maxRecDepth 100000 in
set_option maxHeartbeats 2000000 in
theorem right_any (A : Option Addr) (n c : Nat) (a : List Nat) (h s : Nat) (S : Nat → Prop) (w : World) (hx : RdE Wc 1 w S A n a) (ha : Wds a) (hS : ∀ b, S b → b < w.heap.size) (hn : n ≤ 10000000000) (hh : h ≤ 10000000000) (hs : s < 32) :
    Calls Try.prog 109 #[.slice A n c, .int .u64 ((h * 32 + s : Nat) : Int)] w fun e w' => ∃ A' c', e = .returned (.slice A' (dig (nv a / 2 ^ (h * 32 + s))).length c') ∧ (dig (nv a / 2 ^ (h * 32 + s))).length ≤ c' ∧ RdE Wc 1 w' (fun b => w.heap.size ≤ b ∧ b < w'.heap.size) A' (dig (nv a / 2 ^ (h * 32 + s))).length (dig (nv a / 2 ^ (h * 32 + s))) ∧ Below w.heap.size w w' := by
  obtain ⟨i0, hi0, hz0, hz1, hz2⟩ := info_parts' info_u32
  have HX := Lib.hid hx
  have HA := Lib.hid ha
  have HS := Lib.hid hS
  clear hx ha hS
  have e1 : ((h * 32 + s : Nat) : Int) / 32 = (h : Int) := by omega
  have e2 : ((h * 32 + s : Nat) : Int) % 32 = (s : Int) := by omega
  obtain ⟨N, hN⟩ : ∃ N : Nat, N = h * 32 + s := ⟨_, rfl⟩
  rw [← hN] at e1 e2 ⊢
  have HN := Lib.hid hN
  clear hN
  by_cases h0 : n ≤ h
  · have hz : nv a / 2 ^ N = 0 := by
      rw [HN.out, pow_split, ← Nat.div_div_eq_div_mul]
      have h1 := nv_lt HA.out
      rw [HX.out.num] at h1
      rw [Nat.div_eq_of_lt (Nat.lt_of_lt_of_le h1 (Nat.pow_le_pow_right (by decide) h0)), Nat.zero_div]
    have HZ := Lib.hid hz
    clear hz
    go_enter Try.func109, Try.ntmps109
    go_wp2_with fail
    go_ret
    rw [HZ.out]
    exact ⟨none, 0, rfl, Nat.le_refl _, RdE.nil .., Below.refl _ _⟩
  · obtain ⟨l, hl⟩ : ∃ l, n = h + l := ⟨n - h, by omega⟩
    have hl0 : 0 < l := by omega
    subst hl
    go_enter Try.func109, Try.ntmps109
    go_wp2_with (at_make; go_must (refine wpList_make_full _ rfl _ _ _ rfl w.heap.size 135 i0 _ 1 Try.underlying78 hi0 hz0 hz1 .i64 .i64 _ _ l (by show _ = _; congr 1 <;> omega) (by show _ = _; congr 1 <;> omega) (by omega) (by omega) (by rw [hz2]; omega) (by simp only [maxLen]; omega) (Nat.le_refl _) ?_); intro w1 hown1 hg1)
    have hinv := hown1
    rw [made_u32] at hinv
    have HI := Lib.hid hinv
    have HB1 := Lib.hid (below_of_grown hg1 (fun g hg => by cases hg))
    clear hown1 hg1 hinv
    go_loopw [8] (fun i wr => ∃ (k : Nat) (xs : List Nat), k ≤ l ∧ i = .int .i64 k ∧ xs.length = l ∧ Wds xs ∧ (∀ (j x : Nat), j < k → xs[j]? = some x → x = nv a / 2 ^ N / W32 ^ j % W32) ∧ wr.ownsRow w.heap.size 135 1 (.slice (some ⟨w.heap.size, 0, none⟩) l l) l (xs.flatMap Wc) ∧ Below w.heap.size w wr) (fun i _ => l - (intOf i).toNat)
    case atStart => exact ⟨0, List.replicate l 0, Nat.zero_le _, rfl, by simp, fun x hx => by rw [(List.mem_replicate.1 hx).2]; decide, fun j x hj => absurd hj (Nat.not_lt_zero _), HI.out, HB1.out⟩
    case round =>
      obtain ⟨k, xs, hk, rfl, hxl, hxw, hsum, hown, hbw⟩ := hrel
      by_cases hlt : k < l
      · obtain ⟨x, hx⟩ := get_some HX.out.num (show k + h < h + l by omega)
        obtain ⟨b1, o1, rfl, hSb1, hc⟩ := HX.out.elem Wc.clen hx (by omega)
        have q1 : wr.cell? ⟨b1, o1 + (k + h), none⟩ = some (.int .u32 (x : Int)) := by have h := (hbw.cell (p := ⟨b1, _, none⟩) (HS.out _ hSb1)).trans (hc 0 _ rfl); rw [Nat.mul_one, Nat.add_zero] at h; exact h
        have hxlt := hw0 HA.out hx
        obtain ⟨o, ho⟩ := get_some hxl hlt
        have q0 := own_wc hown ho
        have hf := hown.frozenAt k
        have HO := Lib.hid hown
        have HBW := Lib.hid hbw
        have HSUM := Lib.hid hsum
        have HXX := Lib.hid hx
        have HXW := Lib.hid hxw
        by_cases hmore : k + h + 1 < h + l
        · obtain ⟨y, hy⟩ := get_some HX.out.num hmore
          obtain ⟨b2, o2, eb, _, hc2⟩ := HX.out.elem Wc.clen hy (by omega)
          cases eb
          have q2 : wr.cell? ⟨b1, o1 + (k + h + 1), none⟩ = some (.int .u32 (y : Int)) := by have h := (hbw.cell (p := ⟨b1, _, none⟩) (HS.out _ hSb1)).trans (hc2 0 _ rfl); rw [Nat.mul_one, Nat.add_zero] at h; exact h
          have hylt := hw0 HA.out hy
          have HYY := Lib.hid hy
          clear hown hbw hsum hx hc hxw ho hy hc2
          go_wp2_with fail
          rw [right_words hxlt hylt]
          have ho1 := own_set_wc HO.out (i := k) (by omega) ((x + W32 * y) / 2 ^ s % W32)
          refine ⟨⟨k + 1, xs.set k ((x + W32 * y) / 2 ^ s % W32), by omega, by go_num, by simp [hxl], wds_set HXW.out (Nat.mod_lt _ (by decide)), ?_, ho1.1, HBW.out.grown ho1.2 (Nat.le_of_lt (HO.out.lt w.heap.size rfl).2) (fun g hg => by injection hg with hg; omega)⟩, by simp [intOf]; omega⟩
          exact set_keeps HSUM.out (by rw [HN.out]; exact right_dig HA.out hs HXX.out (nv_drop_get2 HYY.out))
        · clear hown hbw hsum hx hc hxw ho
          go_wp2_with fail
          rw [cast_shr]
          have hz : nv (a.drop (k + h + 1)) = 0 + W32 * 0 := by rw [List.drop_of_length_le (by rw [HX.out.num]; omega)]; rfl
          have ho1 := own_set_wc HO.out (i := k) (by omega) (x / 2 ^ s % W32)
          refine ⟨⟨k + 1, xs.set k (x / 2 ^ s % W32), by omega, by go_num, by simp [hxl], wds_set HXW.out (Nat.mod_lt _ (by decide)), ?_, ho1.1, HBW.out.grown ho1.2 (Nat.le_of_lt (HO.out.lt w.heap.size rfl).2) (fun g hg => by injection hg with hg; omega)⟩, by simp [intOf]; omega⟩
          exact set_keeps HSUM.out (by rw [HN.out]; exact by have h2 := right_dig HA.out hs HXX.out hz; rw [Nat.mul_zero, Nat.add_zero] at h2; exact h2)
      · obtain rfl : l = k := by omega
        have HO := Lib.hid hown
        have HBW := Lib.hid hbw
        have HXW := Lib.hid hxw
        have hfin : nv xs = nv a / 2 ^ N := by
          have h1 := nv_of_get (nv a / 2 ^ N) xs 0 (fun j x hx => by rw [Nat.zero_add]; exact hsum j x (by have := (List.getElem?_eq_some_iff.1 hx).1; omega) hx) (by
            rw [Nat.pow_zero, Nat.div_one, HN.out, pow_split]
            have h2 := nv_lt HA.out
            rw [HX.out.num, Nat.pow_add, ← hxl] at h2
            exact Nat.lt_of_le_of_lt (by rw [← Nat.div_div_eq_div_mul]; exact Nat.div_le_self _ _) (Nat.div_lt_of_lt_mul h2))
          rwa [Nat.pow_zero, Nat.div_one] at h1
        have HFIN := Lib.hid hfin
        clear hown hbw hxw hsum hfin
        go_wp2_with fail
        refine (trim_own w.heap.size w.heap.size l l xs _ HO.out HXW.out (by omega) (Nat.le_refl _)).mono ?_
        rintro e w9 ⟨rfl, hl9, hr9, hb9⟩
        rw [HFIN.out] at hl9 hr9 ⊢
        have HR9 := Lib.hid hr9
        have HL9 := Lib.hid hl9
        have HB9 := Lib.hid (HBW.out.trans (hb9.mono HBW.out.size))
        clear hr9 hl9 hb9
        go_wp2_with fail
        go_ret
        exact ⟨_, _, rfl, HL9.out, HR9.out, HB9.out⟩

end Go.Proofs.Ytfepmbpcdfdlhaa

/- length, cmp: the walks -/
namespace Go.Proofs.Ytfepmbpcdfdlhaa
open Go.RowKit Go.Sort

theorem blen_bound {N k : Nat} (h : (dig N).length ≤ k) : blen N ≤ 32 * k := by
  apply blen_le_of_lt
  rw [← W32_pow]
  exact Nat.lt_of_lt_of_le (lt_dig_len N) (Nat.pow_le_pow_right (by decide) h)

theorem length_any (A : Option Addr) (n c : Nat) (N : Nat) (S : Nat → Prop) (w : World) (hx : RdE Wc 1 w S A n (dig N)) (hn : n ≤ 100000000000) :
    Calls Try.prog 98 #[.slice A n c] w fun e w' => e = .returned (.int .i64 (blen N)) ∧ w = w' := by
  have HX := Lib.hid hx
  clear hx
  by_cases h0 : n = 0
  · subst h0
    have hN : N = 0 := dig_len_zero.1 HX.out.num
    subst hN
    go_enter Try.func98, Try.ntmps98
    go_wp2_with fail
    go_ret
    exact ⟨rfl, rfl⟩
  · obtain ⟨j, rfl⟩ : ∃ j, n = j + 1 := ⟨n - 1, by omega⟩
    obtain ⟨x, hx⟩ := get_some HX.out.num (show j < j + 1 by omega)
    obtain ⟨b1, o1, rfl, hSb1, hc⟩ := HX.out.elem Wc.clen hx (by omega)
    have q1 : w.cell? ⟨b1, o1 + j, none⟩ = some (.int .u32 (x : Int)) := by have h := hc 0 _ rfl; rw [Nat.mul_one, Nat.add_zero] at h; exact h
    have hxlt := hw0 (dig_wds N) hx
    have HBL := Lib.hid (blen_dig HX.out.num hx)
    have e0 : (((j : Int) + 1) == 0) = false := by simp; omega
    clear hx hc
    go_enter Try.func98, Try.ntmps98
    go_wp2_with fail
    go_loop [3, 4] (fun cv tv => ∃ k t : Nat, cv = .int .i64 k ∧ tv = .int .u32 t ∧ t < 4294967296 ∧ k ≤ 100 ∧ k + blen t = blen x) (fun _ tv => (intOf tv).toNat)
    case atStart => exact ⟨0, x, rfl, rfl, hxlt, by omega, by omega⟩
    case round =>
      obtain ⟨k, t, rfl, rfl, ht, hk, hkt⟩ := hrel
      have HKT := Lib.hid hkt
      clear hkt
      have hb32 : blen x ≤ 32 := blen_le_of_lt hxlt
      by_cases htz : t = 0
      · subst htz
        have e : blen x = k := by have := HKT.out; rw [blen_zero] at this; omega
        have hkl : k ≤ 32 := by omega
        have HE := Lib.hid e
        clear e hb32
        go_wp2_with fail
        go_ret
        refine ⟨?_, rfl⟩
        rw [HBL.out, HE.out]
        have : ((32 * j + k : Nat) : Int) = (j : Int) * 32 + k := by omega
        rw [this]; rfl
      · have e1 : ((t : Int) != 0) = true := by simp; omega
        have e2 : ((t : Int) == 0) = false := by simp; omega
        have hhalf := blen_half htz
        have hk2 : k + 1 ≤ 100 := by have := HKT.out; omega
        have HH := Lib.hid hhalf
        clear hhalf htz
        go_wp2_with fail
        go_round
        case rel => exact ⟨k + 1, t / 2, by go_num, rfl, by omega, by omega, by have := HKT.out; have := HH.out; omega⟩
        case measure => simp [intOf] at e1 ⊢; omega

/-- -1, 0, 1 -/
def cmpN (x y : Nat) : Int := if x < y then -1 else if y < x then 1 else 0
theorem dig_lt {x y : Nat} (h : (dig x).length < (dig y).length) : x < y := Nat.lt_of_not_le fun h1 => by have := dig_len_mono h1; omega
theorem nv_drop_get {ws : List Nat} {i x : Nat} (h : ws[i]? = some x) : nv (ws.drop i) = x + W32 * nv (ws.drop (i + 1)) := by
  obtain ⟨hl, e⟩ := List.getElem?_eq_some_iff.1 h
  rw [List.drop_eq_getElem_cons hl, e, nv]
theorem drop_lt {a b : List Nat} {i x y : Nat} (ha : Wds a) (hx : a[i]? = some x) (hy : b[i]? = some y) (he : nv (a.drop (i + 1)) = nv (b.drop (i + 1))) (hlt : x < y) : nv a < nv b := by
  rw [nv_split a i, nv_split b i, nv_drop_get hx, nv_drop_get hy, he]
  have h1 := nv_take_lt ha i
  have h2 : W32 ^ i * (x + W32 * nv (b.drop (i + 1))) + W32 ^ i ≤ W32 ^ i * (y + W32 * nv (b.drop (i + 1))) := by
    rw [← Nat.mul_succ]
    exact Nat.mul_le_mul_left _ (by omega)
  omega

set_option maxRecDepth 100000 in
set_option maxHeartbeats 4000000 in
theorem cmp_any (A B : Option Addr) (n m c d : Nat) (x y : Nat) (S S' : Nat → Prop) (w : World) (hx : RdE Wc 1 w S A n (dig x)) (hy : RdE Wc 1 w S' B m (dig y)) (hn : n ≤ 100000000000) (hm : m ≤ 100000000000) :
    Calls Try.prog 111 #[.slice A n c, .slice B m d] w fun e w' => e = .returned (.int .i64 (cmpN x y)) ∧ Below w.heap.size w w' := by
  have HX := Lib.hid hx
  have HY := Lib.hid hy
  clear hx hy
  by_cases h1 : n < m
  · have hlt : x < y := dig_lt (by rw [HX.out.num, HY.out.num]; exact h1)
    have HC := Lib.hid (show cmpN x y = -1 by simp [cmpN, hlt])
    have e0 : ((n : Int) != (m : Int)) = true := by simp; omega
    clear hlt
    go_enter Try.func111, Try.ntmps111
    go_wp2_with fail
    go_ret
    exact ⟨by rw [HC.out]; rfl, Below.refl _ _⟩
  · by_cases h2 : m < n
    · have hlt : y < x := dig_lt (by rw [HX.out.num, HY.out.num]; exact h2)
      have HC := Lib.hid (show cmpN x y = 1 by have : ¬ x < y := by omega
                                               simp [cmpN, hlt, this])
      have e0 : ((n : Int) != (m : Int)) = true := by simp; omega
      clear hlt
      go_enter Try.func111, Try.ntmps111
      go_wp2_with fail
      go_ret
      exact ⟨by rw [HC.out]; rfl, Below.refl _ _⟩
    · obtain rfl : n = m := by omega
      clear h1 h2
      go_enter Try.func111, Try.ntmps111
      go_wp2_with fail
      go_loopw [5] (fun iv wr => ∃ t : Nat, t ≤ n ∧ (∃ z : Int, iv = .int .i64 z ∧ z = (t : Int) - 1) ∧ nv ((dig x).drop t) = nv ((dig y).drop t) ∧ Below w.heap.size w wr) (fun iv _ => (intOf iv + 1).toNat)
      case atStart => exact ⟨n, Nat.le_refl _, ⟨_, rfl, rfl⟩, by rw [List.drop_of_length_le (by rw [HX.out.num]; omega), List.drop_of_length_le (by rw [HY.out.num]; omega)], Below.refl _ _⟩
      case round =>
        obtain ⟨t, ht, ⟨z, rfl, hz⟩, heq, hbw⟩ := hrel
        have HEQ := Lib.hid heq
        have HBW := Lib.hid hbw
        clear heq hbw
        by_cases h0 : t = 0
        · subst h0
          obtain rfl : z = -1 := by omega
          have he := HEQ.out
          rw [List.drop_zero, List.drop_zero, nv_dig, nv_dig] at he
          subst he
          have HC := Lib.hid (show cmpN x x = 0 by simp [cmpN])
          clear hz
          go_wp2_with fail
          go_ret
          exact ⟨by rw [HC.out]; rfl, HBW.out⟩
        · obtain ⟨j, rfl⟩ : ∃ j, t = j + 1 := ⟨t - 1, by omega⟩
          obtain rfl : z = (j : Int) := by omega
          clear hz
          obtain ⟨p, hp⟩ := get_some HX.out.num (show j < n by omega)
          obtain ⟨q, hq⟩ := get_some HY.out.num (show j < n by omega)
          obtain ⟨b1, o1, rfl, hSb1, hc⟩ := HX.out.elem Wc.clen hp (by omega)
          obtain ⟨b2, o2, rfl, hSb2, hc2⟩ := HY.out.elem Wc.clen hq (by omega)
          have q1 : wr.cell? ⟨b1, o1 + j, none⟩ = some (.int .u32 (p : Int)) := by have h := hc 0 _ rfl; rw [Nat.mul_one, Nat.add_zero] at h; exact bat HBW.out h
          have q2 : wr.cell? ⟨b2, o2 + j, none⟩ = some (.int .u32 (q : Int)) := by have h := hc2 0 _ rfl; rw [Nat.mul_one, Nat.add_zero] at h; exact bat HBW.out h
          have HP := Lib.hid hp
          have HQ := Lib.hid hq
          have g1 : (0 : Int) ≤ (j : Int) := by omega
          clear hp hq hc hc2
          by_cases h1 : p = q
          · subst h1
            have e1 : ((p : Int) != (p : Int)) = false := by simp
            have HE := Lib.hid (show nv ((dig x).drop j) = nv ((dig y).drop j) by rw [nv_drop_get HP.out, nv_drop_get HQ.out, HEQ.out])
            go_wp2_with fail
            go_quiet (fail)
            go_wp2_with fail
            go_roundw
            case rel => exact ⟨j, by omega, ⟨_, rfl, by omega⟩, HE.out, below_drewN HBW.out _⟩
            case measure => simp [intOf]
          · have e1 : ((p : Int) != (q : Int)) = true := by simp; omega
            by_cases h2 : p < q
            · have h2' : (p : Int) < (q : Int) := by omega
              have hlt := drop_lt (dig_wds x) HP.out HQ.out HEQ.out h2
              rw [nv_dig, nv_dig] at hlt
              have HC := Lib.hid (show cmpN x y = -1 by simp [cmpN, hlt])
              clear hlt
              go_wp2_with fail
              go_quiet (fail)
              go_wp2_with fail
              go_quiet (fail)
              go_wp2_with fail
              go_ret
              exact ⟨by rw [HC.out]; rfl, below_drewN (below_drewN HBW.out _) _⟩
            · have h2' : ¬ (p : Int) < (q : Int) := by omega
              have hlt := drop_lt (dig_wds y) HQ.out HP.out HEQ.out.symm (show q < p by omega)
              rw [nv_dig, nv_dig] at hlt
              have HC := Lib.hid (show cmpN x y = 1 by have : ¬ x < y := by omega
                                                       simp [cmpN, hlt, this])
              clear hlt
              go_wp2_with fail
              go_quiet (fail)
              go_wp2_with fail
              go_quiet (fail)
              go_wp2_with fail
              go_ret
              exact ⟨by rw [HC.out]; rfl, below_drewN (below_drewN HBW.out _) _⟩

end Go.Proofs.Ytfepmbpcdfdlhaa

/- mul: the walk -/
namespace Go.Proofs.Ytfepmbpcdfdlhaa
open Go.RowKit Go.Sort

theorem mul_step {xs : List Nat} {i j q o p x y : Nat} {R Y : Nat} (ho : xs[i + j]? = some o) (h : nv xs + W32 ^ (i + j) * q = R + W32 ^ i * (x * Y)) (hp : p = q + (x * y + o)) :
    nv (xs.set (i + j) (p % W32)) + W32 ^ (i + (j + 1)) * (p / W32) = R + W32 ^ i * (x * (Y + W32 ^ j * y)) := by
  have h1 := nv_set (v := p % W32) ho
  have h2 : W32 ^ (i + j) * (p % W32) + W32 ^ (i + (j + 1)) * (p / W32) = W32 ^ (i + j) * p := by
    rw [show i + (j + 1) = i + j + 1 by omega, Nat.pow_succ, Nat.mul_assoc, ← Nat.mul_add, Nat.mod_add_div]
  have h3 : W32 ^ (i + j) * p = W32 ^ (i + j) * q + (W32 ^ (i + j) * (x * y) + W32 ^ (i + j) * o) := by rw [hp, Nat.mul_add, Nat.mul_add]
  have h4 : W32 ^ i * (x * (Y + W32 ^ j * y)) = W32 ^ i * (x * Y) + W32 ^ (i + j) * (x * y) := by
    rw [Nat.mul_add, Nat.mul_add, Nat.pow_add]
    congr 1
    rw [Nat.mul_left_comm x, Nat.mul_assoc]
  rw [h4]
  omega

set_option maxRecDepth 100000 in
theorem mul_any (A B : Option Addr) (n m c d : Nat) (a b : List Nat) (S S' : Nat → Prop) (w : World) (hx : RdE Wc 1 w S A n a) (hy : RdE Wc 1 w S' B m b) (ha : Wds a) (hb : Wds b) (hS : ∀ b, S b → b < w.heap.size) (hS' : ∀ b, S' b → b < w.heap.size)
    (hn : n ≤ 100000000000) (hm : m ≤ 100000000000) :
    Calls Try.prog 90 #[.slice A n c, .slice B m d] w fun e w' => ∃ A' c', e = .returned (.slice A' (dig (nv a * nv b)).length c') ∧ (dig (nv a * nv b)).length ≤ c' ∧ RdE Wc 1 w' (fun b => w.heap.size ≤ b ∧ b < w'.heap.size) A' (dig (nv a * nv b)).length (dig (nv a * nv b)) ∧ Below w.heap.size w w' := by
  obtain ⟨i0, hi0, hz0, hz1, hz2⟩ := info_parts' info_u32
  have HX := Lib.hid hx
  have HY := Lib.hid hy
  have HA := Lib.hid ha
  have HB := Lib.hid hb
  have HS := Lib.hid hS
  have HS' := Lib.hid hS'
  clear hx hy ha hb hS hS'
  have hzero : (n = 0 ∨ m = 0) → nv a * nv b = 0 := by
    rintro (h | h)
    · rw [List.eq_nil_of_length_eq_zero (HX.out.num.trans h)]; simp [nv]
    · rw [List.eq_nil_of_length_eq_zero (HY.out.num.trans h)]; simp [nv]
  by_cases h0 : n = 0
  · have HZ := Lib.hid (hzero (.inl h0))
    subst h0
    clear hzero
    go_enter Try.func90, Try.ntmps90
    go_wp2_with fail
    go_ret
    rw [HZ.out]
    exact ⟨none, 0, rfl, Nat.le_refl _, RdE.nil .., Below.refl _ _⟩
  · by_cases h1 : m = 0
    · have HZ := Lib.hid (hzero (.inr h1))
      subst h1
      clear hzero
      go_enter Try.func90, Try.ntmps90
      go_wp2_with fail
      go_ret
      rw [HZ.out]
      exact ⟨none, 0, rfl, Nat.le_refl _, RdE.nil .., Below.refl _ _⟩
    · clear hzero
      have e0 : ((n : Int) == 0) = false := by simp; omega
      have e1 : ((m : Int) == 0) = false := by simp; omega
      go_enter Try.func90, Try.ntmps90
      go_wp2_with (at_make; go_must (refine wpList_make_full _ rfl _ _ _ rfl w.heap.size 135 i0 _ 1 Try.underlying78 hi0 hz0 hz1 .i64 .i64 _ _ (n + m) rfl rfl (by omega) (by omega) (by rw [hz2]; omega) (by simp only [maxLen]; omega) (Nat.le_refl _) ?_); intro w1 hown1 hg1)
      have hinv := hown1
      rw [made_u32] at hinv
      have HI := Lib.hid hinv
      have HB1 := Lib.hid (below_of_grown hg1 (fun g hg => by cases hg))
      clear hown1 hg1 hinv
      go_loopw [6] (fun i wr => ∃ (k : Nat) (xs : List Nat), k ≤ n ∧ i = .int .i64 k ∧ xs.length = n + m ∧ Wds xs ∧ nv xs = nv (a.take k) * nv b ∧ ZeroFrom xs (k + m) ∧ wr.ownsRow w.heap.size 135 1 (.slice (some ⟨w.heap.size, 0, none⟩) (n + m) (n + m)) (n + m) (xs.flatMap Wc) ∧ Below w.heap.size w wr) (fun i _ => n - (intOf i).toNat)
      case atStart => exact ⟨0, List.replicate (n + m) 0, Nat.zero_le _, rfl, by simp, fun x hx => by rw [(List.mem_replicate.1 hx).2]; decide, by rw [(zero_rep (n + m) 0).val]; simp [nv], zero_rep _ _, HI.out, HB1.out⟩
      case round =>
        obtain ⟨k, xs, hk, rfl, hxl, hxw, hsum, hzf, hown, hbw⟩ := hrel
        by_cases hlt : k < n
        · obtain ⟨x, hx⟩ := get_some HX.out.num hlt
          obtain ⟨b1, o1, rfl, hSb1, hc⟩ := HX.out.elem Wc.clen hx (by omega)
          have q1 : ∀ wi : World, Below w.heap.size w wi → wi.cell? ⟨b1, o1 + k, none⟩ = some (.int .u32 (x : Int)) := fun wi hbi => by have h := (hbi.cell (p := ⟨b1, _, none⟩) (HS.out _ hSb1)).trans (hc 0 _ rfl); rw [Nat.mul_one, Nat.add_zero] at h; exact h
          have Q1 := Lib.hid q1
          have hxlt := hw0 HA.out hx
          have HO := Lib.hid hown
          have HBW := Lib.hid hbw
          have HSUM := Lib.hid hsum
          have HXX := Lib.hid hx
          have HXW := Lib.hid hxw
          have HZF := Lib.hid hzf
          clear hown hbw hsum hx hc hxw hzf q1
          obtain ⟨wo, rfl⟩ : ∃ wo : World, wo = wr := ⟨_, rfl⟩
          go_wp2_with fail
          have hxlt' : (x : Int) < 4294967296 := by omega
          go_loopw [7, 8] (fun cv jv wr => ∃ (l q : Nat) (ys : List Nat), l ≤ m ∧ cv = .int .u64 q ∧ jv = .int .i64 l ∧ q < 4294967296 ∧ ys.length = n + m ∧ Wds ys ∧ nv ys + W32 ^ (k + l) * q = nv xs + W32 ^ k * (x * nv (b.take l)) ∧ ZeroFrom ys (k + m) ∧ wr.ownsRow w.heap.size 135 1 (.slice (some ⟨w.heap.size, 0, none⟩) (n + m) (n + m)) (n + m) (ys.flatMap Wc) ∧ Below w.heap.size w wr) (fun _ j _ => m - (intOf j).toNat)
          case atStart => exact ⟨0, 0, xs, Nat.zero_le _, rfl, rfl, by decide, hxl, HXW.out, by simp [nv], HZF.out, HO.out, HBW.out⟩
          case round =>
            clear HO HBW
            obtain ⟨l, q, ys, hl, rfl, rfl, hq, hyl, hyw, hsm, hzf, hown, hbw⟩ := hrel
            have q1 := Q1.out wr hbw
            by_cases hlm : l < m
            · obtain ⟨y, hy⟩ := get_some HY.out.num hlm
              obtain ⟨b2, o2, rfl, hSb2, hc2⟩ := HY.out.elem Wc.clen hy (by omega)
              have q2 : wr.cell? ⟨b2, o2 + l, none⟩ = some (.int .u32 (y : Int)) := by have h := (hbw.cell (p := ⟨b2, _, none⟩) (HS'.out _ hSb2)).trans (hc2 0 _ rfl); rw [Nat.mul_one, Nat.add_zero] at h; exact h
              have hylt := hw0 HB.out hy
              obtain ⟨o, ho⟩ := get_some hyl (show k + l < n + m by omega)
              have holt := hw0 hyw ho
              have q0 : wr.cell? ⟨w.heap.size, k + l, none⟩ = some (.int .u32 (o : Int)) := own_wc hown ho
              have hf := hown.frozenAt (k + l)
              have hxy : x * y ≤ 18446744065119617025 := Nat.le_trans (Nat.mul_le_mul (show x ≤ 4294967295 by omega) (show y ≤ 4294967295 by omega)) (by decide)
              have hxy1 : (x : Int) * (y : Int) ≤ 18446744065119617025 := by rw [← Int.natCast_mul]; omega
              have hxy0 : 0 ≤ (x : Int) * (y : Int) := by rw [← Int.natCast_mul]; omega
              have hs1 : IntKind.i64.wrap ((k : Int) + l) = (k : Int) + l := IntWalk.i64_in _ (by omega)
              have hs2 : 0 ≤ (k : Int) + l := by omega
              have hs3 : ((k : Int) + l).toNat = k + l := by omega
              have HO := Lib.hid hown
              have HBW := Lib.hid hbw
              have HSM := Lib.hid hsm
              have HYY := Lib.hid hy
              have HYW := Lib.hid hyw
              have HZ := Lib.hid hzf
              have HOO := Lib.hid ho
              clear hown hbw hsm hy hyw hzf ho hc2
              go_wp2_with fail
              go_quiet (fail)
              go_wp2_with fail
              have ho1 := own_set_wc (own_drewN HO.out nq) (i := k + l) (by omega) ((q + (x * y + o)) % W32)
              have HO1 := Lib.hid ho1.1
              have HB2 := Lib.hid ((below_drewN HBW.out nq).grown ho1.2 (Nat.le_of_lt (HO.out.lt w.heap.size rfl).2) (fun g hg => by injection hg with hg; omega))
              clear ho1
              have hplt : q + (x * y + o) < 18446744073709551616 := by omega
              refine ⟨⟨l + 1, (q + (x * y + o)) / W32, ys.set (k + l) ((q + (x * y + o)) % W32), by omega, ?_, by go_num, ?_, by simp [hyl], wds_set HYW.out (Nat.mod_lt _ (by decide)), ?_, HZ.out.set (by omega), HO1.out, HB2.out⟩, by simp [intOf]; omega⟩
              · rfl
              · show (q + (x * y + o)) / 4294967296 < 4294967296; omega
              · rw [nv_take_succ HYY.out]; exact mul_step HOO.out HSM.out rfl
            · obtain rfl : m = l := by omega
              have hzq : ∃ o, ys[k + m]? = some o := get_some hyl (show k + m < n + m by omega)
              obtain ⟨o, ho⟩ := hzq
              obtain rfl : o = 0 := hzf _ _ (Nat.le_refl _) ho
              have q0 := own_wc hown ho
              have hf := hown.frozenAt (k + m)
              have HO := Lib.hid hown
              have HBW := Lib.hid hbw
              have hfin : nv (ys.set (k + m) q) = nv (a.take (k + 1)) * nv b := by
                have h := nv_set (v := q) ho
                have e : b.take m = b := List.take_of_length_le (by rw [HY.out.num]; omega)
                rw [hsm, HSUM.out, Nat.mul_zero, Nat.add_zero, e] at h
                rw [h, nv_take_succ HXX.out, Nat.add_mul, Nat.mul_assoc]
              have HFIN := Lib.hid hfin
              have HZ := Lib.hid (ZeroFrom.set_at (v := q) hzf)
              have HYW := Lib.hid (wds_set (k := k + m) (v := q) hyw hq)
              have ho1 := own_set_wc hown (i := k + m) (by omega) q
              have HO1 := Lib.hid ho1.1
              have HB2 := Lib.hid (hbw.grown ho1.2 (Nat.le_of_lt (hown.lt w.heap.size rfl).2) (fun g hg => by injection hg with hg; omega))
              clear hown hbw hsm hzf hyw hfin ho1 ho
              go_wp2_with fail
              refine ⟨⟨k + 1, ys.set (k + m) q, by omega, by go_num, by simp [hyl], HYW.out, HFIN.out, HZ.out.mono (by omega), HO1.out, HB2.out⟩, by simp [intOf]; omega⟩
        · obtain rfl : n = k := by omega
          have HO := Lib.hid hown
          have HBW := Lib.hid hbw
          have HXW := Lib.hid hxw
          have hfin : nv xs = nv a * nv b := by
            rw [hsum, List.take_of_length_le (by rw [HX.out.num]; exact Nat.le_refl _)]
          have HFIN := Lib.hid hfin
          clear hown hbw hxw hsum hfin hzf
          go_wp2_with fail
          refine (trim_own w.heap.size w.heap.size (n + m) (n + m) xs _ HO.out HXW.out (by omega) (Nat.le_refl _)).mono ?_
          rintro e w9 ⟨rfl, hl9, hr9, hb9⟩
          rw [HFIN.out] at hl9 hr9 ⊢
          have HR9 := Lib.hid hr9
          have HL9 := Lib.hid hl9
          have HB9 := Lib.hid (HBW.out.trans (hb9.mono HBW.out.size))
          clear hr9 hl9 hb9
          go_wp2_with fail
          go_ret
          exact ⟨_, _, rfl, HL9.out, HR9.out, HB9.out⟩

end Go.Proofs.Ytfepmbpcdfdlhaa

/- div: the easy cases -/
namespace Go.Proofs.Ytfepmbpcdfdlhaa
open Go.RowKit Go.Sort

theorem dig_len_small {x : Nat} (h : x < 18446744073709551616) : (dig x).length ≤ 2 := dig_len_le (k := 2) h
theorem small_dig {x : Nat} (h : (dig x).length ≤ 2) : x < 18446744073709551616 := by
  have h2 := lt_dig_len x
  exact Nat.lt_of_lt_of_le h2 (Nat.pow_le_pow_right (by decide) h)

/-- what div answers -/
def DivPost (x y B : Nat) (w : World) (e : Ending) (w' : World) : Prop :=
  ∃ A' c' A'' c'', e = .returned (.tuple #[.slice A' (dig (x / y)).length c', .slice A'' (dig (x % y)).length c'']) ∧ (dig (x / y)).length ≤ c' ∧ (dig (x % y)).length ≤ c'' ∧
    RdE Wc 1 w' (fun b => B ≤ b ∧ b < w'.heap.size) A' (dig (x / y)).length (dig (x / y)) ∧ RdE Wc 1 w' (fun b => B ≤ b ∧ b < w'.heap.size) A'' (dig (x % y)).length (dig (x % y)) ∧ Below B w w'

theorem cmp_lt (A B : Option Addr) (n m c d : Nat) (x y : Nat) (S S' : Nat → Prop) (w : World) (hx : RdE Wc 1 w S A n (dig x)) (hy : RdE Wc 1 w S' B m (dig y)) (hn : n ≤ 100000000000) (hm : m ≤ 100000000000) (h : x < y) :
    Calls Try.prog 111 #[.slice A n c, .slice B m d] w fun e w' => e = .returned (.int .i64 (-1)) ∧ Below w.heap.size w w' :=
  (cmp_any A B n m c d x y S S' w hx hy hn hm).mono fun e w' h' => ⟨by rw [h'.1]; simp [cmpN, h], h'.2⟩
theorem cmp_ge (A B : Option Addr) (n m c d : Nat) (x y : Nat) (S S' : Nat → Prop) (w : World) (hx : RdE Wc 1 w S A n (dig x)) (hy : RdE Wc 1 w S' B m (dig y)) (hn : n ≤ 100000000000) (hm : m ≤ 100000000000) (h : y ≤ x) :
    Calls Try.prog 111 #[.slice A n c, .slice B m d] w fun e w' => ∃ z : Int, 0 ≤ z ∧ z ≤ 1 ∧ e = .returned (.int .i64 z) ∧ Below w.heap.size w w' :=
  (cmp_any A B n m c d x y S S' w hx hy hn hm).mono fun e w' h' => by
    have h1 : ¬ x < y := by omega
    by_cases h2 : y < x
    · exact ⟨1, by omega, by omega, by rw [h'.1]; simp [cmpN, h1, h2], h'.2⟩
    · exact ⟨0, by omega, by omega, by rw [h'.1]; simp [cmpN, h1, h2], h'.2⟩

set_option maxRecDepth 100000 in
set_option maxHeartbeats 2000000 in
theorem div_lt (A B : Option Addr) (n m c d : Nat) (x y : Nat) (w : World) (hx : RdE Wc 1 w (fun b => b < w.heap.size) A n (dig x)) (hy : RdE Wc 1 w (fun b => b < w.heap.size) B m (dig y)) (hn : n ≤ 10000000) (hm : m ≤ 10000000) (h : x < y) :
    Calls Try.prog 107 #[.slice A n c, .slice B m d] w (DivPost x y w.heap.size w) := by
  have HX := Lib.hid hx
  have HY := Lib.hid hy
  have hm0 : 0 < m := by
    rw [← HY.out.num]
    exact List.length_pos_iff.2 (dig_pos (by omega))
  have e0 : ((m : Int) == 0) = false := by simp; omega
  clear hx hy
  go_enter Try.func107, Try.ntmps107
  go_wp2_with fail
  refine (cmp_lt _ _ _ _ _ _ x y _ _ _ HX.out HY.out (by omega) (by omega) h).mono ?_
  rintro e w1 ⟨rfl, hb1⟩
  have hr1 := HX.out.keep (Keeps.below hb1 (fun b hb => hb))
  have HR1 := Lib.hid hr1
  have HB1 := Lib.hid hb1
  clear hb1 hr1
  go_wp2_with fail
  refine (twin_any _ _ _ _ _ _ HR1.out (by omega)).mono ?_
  rintro e w2 ⟨A2, c2, rfl, hc2, hr2, hb2⟩
  have HR2 := Lib.hid hr2
  have HB2 := Lib.hid (below_then HB1.out hb2)
  have hz := HB1.out.size
  clear hr2 hb2
  go_wp2_with fail
  go_ret2
  have e1 : x / y = 0 := Nat.div_eq_of_lt h
  have e2 : x % y = x := Nat.mod_eq_of_lt h
  have e3 : n = (dig x).length := HX.out.num.symm
  subst e3
  refine ⟨none, 0, A2, c2, ?_, ?_, ?_, ?_, ?_, HB2.out⟩
  · rw [e1, e2]; rfl
  · rw [e1]; exact Nat.le_refl _
  · rw [e2]; exact hc2
  · rw [e1]; exact RdE.nil ..
  · rw [e2]; exact HR2.out.imp fun b hb => ⟨by omega, hb.2⟩

set_option maxRecDepth 100000 in
set_option maxHeartbeats 2000000 in
theorem div_two (A B : Option Addr) (n m c d : Nat) (x y : Nat) (w : World) (hx : RdE Wc 1 w (fun b => b < w.heap.size) A n (dig x)) (hy : RdE Wc 1 w (fun b => b < w.heap.size) B m (dig y)) (hn : n ≤ 2) (hy0 : 0 < y) (h : y ≤ x) :
    Calls Try.prog 107 #[.slice A n c, .slice B m d] w (DivPost x y w.heap.size w) := by
  have HX := Lib.hid hx
  have HY := Lib.hid hy
  have hm0 : 0 < m := by
    rw [← HY.out.num]
    exact List.length_pos_iff.2 (dig_pos (by omega))
  have hm2 : m ≤ 2 := by
    have h1 := dig_len_mono h
    rw [HX.out.num, HY.out.num] at h1
    omega
  have hxs := small_dig (x := x) (by rw [HX.out.num]; exact hn)
  have hys := small_dig (x := y) (by rw [HY.out.num]; exact hm2)
  have px : pl (dig x) = x := nv_two (by rw [HX.out.num]; exact hn)
  have py : pl (dig y) = y := nv_two (by rw [HY.out.num]; exact hm2)
  have PX := Lib.hid px
  have PY := Lib.hid py
  have e0 : ((m : Int) == 0) = false := by simp; omega
  have e1 : ((y : Int) == 0) = false := by simp; omega
  have hy1 : ¬ y = 0 := by omega
  have hwd : IntKind.u64.wrap ((x : Int) / (y : Int)) = ((x / y : Nat) : Int) := by
    have h1 : x / y ≤ x := Nat.div_le_self _ _
    rw [← Int.natCast_ediv, IntKind.wrap_u64]; generalize x / y = q at *; omega
  have hmd : (x : Int).tmod (y : Int) = ((x % y : Nat) : Int) := by rw [Int.tmod_eq_emod_of_nonneg (by omega)]; rfl
  clear hx hy px py
  go_enter Try.func107, Try.ntmps107
  go_wp2_with fail
  refine (cmp_ge _ _ _ _ _ _ x y _ _ _ HX.out HY.out (by omega) (by omega) h).mono ?_
  rintro e w1 ⟨z, hz0, hz1, rfl, hb1⟩
  have hr1 := HX.out.keep (Keeps.below hb1 (fun b hb => hb))
  have hr2 := HY.out.keep (Keeps.below hb1 (fun b hb => hb))
  have HR1 := Lib.hid hr1
  have HR2 := Lib.hid hr2
  have HB1 := Lib.hid hb1
  clear hb1 hr1 hr2
  go_wp2_with fail
  refine (plain_any _ _ _ _ _ _ HR1.out (dig_wds x)).mono ?_
  rintro e w' ⟨rfl, rfl⟩
  rw [PX.out]
  go_wp2_with fail
  refine (plain_any _ _ _ _ _ _ HR2.out (dig_wds y)).mono ?_
  rintro e w' ⟨rfl, rfl⟩
  rw [PY.out]
  go_wp2_with fail
  refine wp_region_held_drew (S := (fun _ => True)) (by kernel_rfl) ?_ (fun hHeld => ?_)
  · first | exact True.intro | ((try dsimp only); go_keep)
  refine tkH (i := 0) (v := ?_) rfl (by kernel_rfl) (Or.inl ⟨by kernel_rfl, ?_⟩) (by assumption) ?_
  rotate_left 1
  · (intro w hSw; (try dsimp only at hSw); go_simp; try with_reducible rfl)
  try simp only [lyA, lyB, lyC, Act.put, lyD, lyE, lyF]
  refine tkH (i := 1) (v := ?_) rfl (by kernel_rfl) (Or.inl ⟨by kernel_rfl, ?_⟩) (by assumption) ?_
  rotate_left 1
  · (intro w hSw; (try dsimp only at hSw); go_simp; try with_reducible rfl)
  try simp only [lyA, lyB, lyC, Act.put, lyD, lyE, lyF]
  refine tkH (i := 2) (v := ?_) rfl (by kernel_rfl) (Or.inl ⟨by kernel_rfl, ?_⟩) (by assumption) ?_
  rotate_left 1
  · (intro w hSw; (try dsimp only at hSw); go_simp; try with_reducible rfl)
  try simp only [lyA, lyB, lyC, Act.put, lyD, lyE, lyF]
  refine tkH (i := 4) (v := ?_) rfl (by kernel_rfl) (Or.inl ⟨by kernel_rfl, ?_⟩) (by assumption) ?_
  rotate_left 1
  · (intro w hSw; (try dsimp only at hSw); go_simp; try with_reducible rfl)
  try simp only [lyA, lyB, lyC, Act.put, lyD, lyE, lyF]
  refine tkH (i := 5) (v := ?_) rfl (by kernel_rfl) (Or.inl ⟨by kernel_rfl, ?_⟩) (by assumption) ?_
  rotate_left 1
  · (intro w hSw; (try dsimp only at hSw); go_simp; try with_reducible rfl)
  try simp only [lyA, lyB, lyC, Act.put, lyD, lyE, lyF]
  refine tkH (i := 6) (v := ?_) rfl (by kernel_rfl) (Or.inl ⟨by kernel_rfl, ?_⟩) (by assumption) ?_
  rotate_left 1
  · (intro w hSw; (try dsimp only at hSw); go_simp; try with_reducible rfl)
  try simp only [lyA, lyB, lyC, Act.put, lyD, lyE, lyF]
  refine wpAnyH_ready (rs := [3]) (by kernel_rfl) (by simp) ?_
  refine AllReadyH.cons rfl (fun K hK => ?_) AllReadyH.nil
  go_simp
  (refine (words_any (x / y) _ (Nat.lt_of_le_of_lt (Nat.div_le_self _ _) hxs)).mono ?_; rintro e w2 ⟨A2, c2, rfl, hc2, hr2, hb2⟩; have HR3 := Lib.hid hr2; have HB2 : Hid (Below w1.heap.size w1 w2) := Lib.hid (((Below.refl w1.heap.size w1).drew).trans hb2); clear hr2 hb2)
  try go_wp2_with fail
  refine hK.out _ _ ?_ (fun hHeld => ?_)
  · first | exact True.intro | ((try dsimp only); go_keep)
  clear hK K
  try simp only [lyA, lyB, lyC, Act.put, lyD, lyE, lyF]
  refine wpAnyH_ready (rs := [7]) (by kernel_rfl) (by simp) ?_
  refine AllReadyH.cons rfl (fun K hK => ?_) AllReadyH.nil
  go_simp
  (refine (words_any (x % y) _ (Nat.lt_of_le_of_lt (Nat.mod_le _ _) hxs)).mono ?_; rintro e w3 ⟨A3, c3, rfl, hc3, hr3, hb3⟩; have HR4 := Lib.hid hr3; have HB3 := Lib.hid hb3; clear hr3 hb3)
  try go_wp2_with fail
  refine hK.out _ _ ?_ (fun hHeld => ?_)
  · first | exact True.intro | ((try dsimp only); go_keep)
  clear hK K
  try simp only [lyA, lyB, lyC, Act.put, lyD, lyE, lyF]
  refine tkH (i := 8) (v := ?_) rfl (by kernel_rfl) (Or.inl ⟨by kernel_rfl, ?_⟩) (by assumption) ?_
  rotate_left 1
  · (intro w hSw; (try dsimp only at hSw); go_simp; try with_reducible rfl)
  try simp only [lyA, lyB, lyC, Act.put, lyD, lyE, lyF]
  refine tkH (i := 9) (v := ?_) rfl (by kernel_rfl) (Or.inl ⟨by kernel_rfl, ?_⟩) (by assumption) ?_
  rotate_left 1
  · (intro w hSw; (try dsimp only at hSw); go_simp; try with_reducible rfl)
  try simp only [lyA, lyB, lyC, Act.put, lyD, lyE, lyF]
  refine wpAnyH_done (by kernel_rfl) ?_ _
  go_wp2_with fail
  go_ret2
  have z1 := HB1.out.size
  have z2 := HB2.out.size
  have z3 := HB3.out.size
  simp only [World.drew] at HR3
  exact ⟨A2, c2, A3, c3, by simp, hc2, hc3, (HR3.out.keep (Keeps.below HB3.out (fun b hb => hb.2))).imp fun b hb => ⟨by omega, by omega⟩, HR4.out.imp fun b hb => ⟨by omega, hb.2⟩, below_then (below_then HB1.out HB2.out) HB3.out⟩

set_option maxRecDepth 100000 in
set_option maxHeartbeats 2000000 in
theorem div_one (A B : Option Addr) (n c d : Nat) (x y : Nat) (w : World) (hx : RdE Wc 1 w (fun b => b < w.heap.size) A n (dig x)) (hy : RdE Wc 1 w (fun b => b < w.heap.size) B 1 (dig y)) (hn : 2 < n) (hn2 : n ≤ 10000000) (hy0 : 0 < y) (h : y ≤ x) :
    Calls Try.prog 107 #[.slice A n c, .slice B 1 d] w (DivPost x y w.heap.size w) := by
  have HX := Lib.hid hx
  have HY := Lib.hid hy
  have hyl : y < 4294967296 := by have h1 := lt_dig_len y; rw [HY.out.num] at h1; exact h1
  obtain ⟨y', hy'⟩ := get_some HY.out.num (show 0 < 1 by omega)
  have hyy : y' = y := by
    have h1 := nv_dig y
    have h2 := HY.out.num
    match hd : dig y, h2 with
    | [t], _ => rw [hd] at hy' h1; simp at hy'; simp [nv] at h1; omega
  subst hyy
  obtain ⟨b2, o2, rfl, hSb2, hc2⟩ := HY.out.elem Wc.clen hy' (by omega)
  have q2 : ∀ wi, Below w.heap.size w wi → wi.cell? ⟨b2, o2, none⟩ = some (.int .u32 (y' : Int)) := fun wi hb => bat hb (hc2 0 _ rfl)
  have Q2 := Lib.hid q2
  have e0 : ((y' : Int) == 0) = false := by simp; omega
  clear hx hy hc2 hy' q2
  go_enter Try.func107, Try.ntmps107
  go_wp2_with fail
  refine (cmp_ge _ _ _ _ _ _ x y' _ _ _ HX.out HY.out (by omega) (by omega) h).mono ?_
  rintro e w1 ⟨z, hz0, hz1, rfl, hb1⟩
  have hr1 := HX.out.keep (Keeps.below hb1 (fun b hb => hb))
  have HR1 := Lib.hid hr1
  have q2 := Q2.out w1 hb1
  have HB1 := Lib.hid hb1
  have z1 := HB1.out.size
  clear hb1 hr1
  go_wp2_with fail
  refine (small_any _ _ _ _ y' _ _ HR1.out (dig_wds x) (fun b hb => by omega) (by omega) hy0 hyl).mono ?_
  rintro e w2 ⟨A2, c2, rfl, hc2, hr2, hb2⟩
  rw [nv_dig] at hc2 hr2 ⊢
  have HR3 := Lib.hid hr2
  have HB2 := Lib.hid hb2
  clear hr2 hb2
  go_wp2_with fail
  have z2 := HB2.out.size
  have hrd : ∀ t, RdE Wc 1 (w2.alloc (.cells #[.int .u32 ((x % y' : Nat) : Int)] t)) (fun b => b = w2.heap.size) (some ⟨w2.heap.size, 0, none⟩) 1 [x % y'] := fun t => rde_blk (f := Wc) (n := 1) (size := 1) (S := fun b => b = w2.heap.size) (xs := [x % y']) (blk_new w2 #[.int .u32 ((x % y' : Nat) : Int)] t) rfl rfl rfl rfl
  have hwd : Wds [x % y'] := by
    intro z hz
    simp only [List.mem_cons, List.not_mem_nil, or_false] at hz
    rw [hz]
    exact Nat.lt_of_lt_of_le (Nat.mod_lt _ hy0) (by show y' ≤ 4294967296; omega)
  have hnv : nv [x % y'] = x % y' := by simp [nv]
  refine (trim_any _ 1 1 [x % y'] _ _ (hrd _) hwd (fun b hb => by rw [hb]; simp) (by omega) (by omega)).mono ?_
  rintro e w3 ⟨k, rfl, hk, htk, hb3⟩
  rw [hnv] at htk
  have hlen : k = (dig (x % y')).length := by rw [← htk, List.length_take]; simp; omega
  have hr3 := ((hrd _).keep (Keeps.below hb3 (fun b hb => by rw [hb]; simp))).take Wc.clen hk
  rw [htk] at hr3
  have z3 := hb3.size
  simp only [World.size_alloc] at z3
  subst hlen
  have HR4 := Lib.hid hr3
  have HB3 : Hid (Below w2.heap.size w2 w3) := Lib.hid (((Below.refl _ _).alloc (Nat.le_refl _) _).trans (hb3.mono (by simp)))
  clear hr3 htk hrd hwd hnv hb3
  go_wp2_with fail
  go_ret2
  refine ⟨A2, c2, _, 1, rfl, hc2, hk, (HR3.out.keep (Keeps.below HB3.out (fun b hb => hb.2))).imp fun b hb => ⟨by omega, by omega⟩, ?_, below_then (below_then HB1.out HB2.out) HB3.out⟩
  exact HR4.out.imp fun b hb => ⟨by omega, by omega⟩

end Go.Proofs.Ytfepmbpcdfdlhaa

/- give: a number is set -/
namespace Go.Proofs.Ytfepmbpcdfdlhaa
open Go.RowKit Go.Sort

theorem two_set {w : World} {b o : Nat} {s : Bool} {A0 : Option Addr} {n0 c0 : Nat} (u : Bool) (A : Option Addr) (n c : Nat) (h0 : w.cell? ⟨b, o, none⟩ = some (.bool s)) (h1 : w.cell? ⟨b, o + 1, none⟩ = some (.slice A0 n0 c0)) :
    Upd w ((w.setCell ⟨b, o + 1, none⟩ (.slice A n c)).setCell ⟨b, o, none⟩ (.bool u)) b o ∧ ((w.setCell ⟨b, o + 1, none⟩ (.slice A n c)).setCell ⟨b, o, none⟩ (.bool u)).cell? ⟨b, o, none⟩ = some (.bool u) ∧
      ((w.setCell ⟨b, o + 1, none⟩ (.slice A n c)).setCell ⟨b, o, none⟩ (.bool u)).cell? ⟨b, o + 1, none⟩ = some (.slice A n c) := by
  refine ⟨⟨rfl, rfl, rfl, by simp, fun k hk hne => ?_, fun j h2 h3 => ?_, fun j => ?_, ⟨_, h0⟩, ⟨_, _, _, h1⟩⟩, ?_, ?_⟩
  · rw [Below.heap_setCell _ _ _ _ hne, Below.heap_setCell _ _ _ _ hne]
  · simp [go_sem, h2, h3]
  · simp [go_sem]
  · simp [go_sem, h0]
  · simp [go_sem, h1]

theorem give_int (b o : Nat) (z z0 : Int) (neg : Bool) (A : Option Addr) (n c : Nat) (w : World) (hz : IntAt w b o z0) (hn : n = (dig z.natAbs).length) (hc : n ≤ c) (hr : RdE Wc 1 w (fun d => d < w.heap.size) A n (dig z.natAbs))
    (hs : (neg && decide (0 < n)) = decide (z < 0)) :
    Calls Try.prog 67 #[.pointer (some ⟨b, o, none⟩), .bool neg, .slice A n c] w fun e w' => e = .returned (.pointer (some ⟨b, o, none⟩)) ∧ IntAt w' b o z ∧ Upd w w' b o := by
  obtain ⟨A0, c0, h1, _, _⟩ := hz.abs
  have h0 := hz.neg
  have hf := hz.fz
  have hf1 := hz.fz1
  have HZ := Lib.hid hz
  have HR := Lib.hid hr
  have HS := Lib.hid hs
  have HN := Lib.hid hn
  clear hz hr hs hn
  have H2 := fun u => Lib.hid (two_set u A n c h0 h1)
  cases neg
  · go_enter Try.func67, Try.ntmps67
    go_wp2_with fail
    go_ret
    obtain ⟨hu, k0, k1⟩ := (H2 false).out
    refine ⟨rfl, IntAt.of_cells k0 k1 ?_ HN.out hc ((hu.words HR.out).imp fun d hd => Nat.lt_of_lt_of_le hd hu.size) (by rw [hu.fz]; exact hf) (by rw [hu.fz]; exact hf1), hu⟩
    have := HS.out
    simpa using this
  · by_cases hp : 0 < n
    · have hp' : decide ((0 : Int) < (n : Int)) = true := by simp; omega
      go_enter Try.func67, Try.ntmps67
      go_wp2_with fail
      go_ret
      obtain ⟨hu, k0, k1⟩ := (H2 true).out
      refine ⟨rfl, IntAt.of_cells k0 k1 ?_ HN.out hc ((hu.words HR.out).imp fun d hd => Nat.lt_of_lt_of_le hd hu.size) (by rw [hu.fz]; exact hf) (by rw [hu.fz]; exact hf1), hu⟩
      have := HS.out
      simpa [hp] using this
    · have hp' : decide ((0 : Int) < (n : Int)) = false := by simp; omega
      go_enter Try.func67, Try.ntmps67
      go_wp2_with fail
      go_ret
      obtain ⟨hu, k0, k1⟩ := (H2 false).out
      refine ⟨rfl, IntAt.of_cells k0 k1 ?_ HN.out hc ((hu.words HR.out).imp fun d hd => Nat.lt_of_lt_of_le hd hu.size) (by rw [hu.fz]; exact hf) (by rw [hu.fz]; exact hf1), hu⟩
      have := HS.out
      simpa [hp] using this

theorem sgn_and {neg : Bool} {z : Int} {n : Nat} (hn : n = (dig z.natAbs).length) (h : z ≠ 0 → neg = decide (z < 0)) : (neg && decide (0 < n)) = decide (z < 0) := by
  by_cases hz : z = 0
  · subst hz
    rw [hn]; simp [dig_zero]
  · have h1 : 0 < n := by
      rw [hn]
      exact List.length_pos_iff.2 (dig_pos (by omega))
    rw [h hz]; simp [h1]
theorem drew_rd {α : Type} {f : α → List Value} {size : Nat} {w : World} {S : Nat → Prop} {A : Option Addr} {n : Nat} {xs : List α} (h : RdE f size w S A n xs) : RdE f size w.drew S A n xs := h.keep fun _ _ => rfl
theorem drew_int {w : World} {b o : Nat} {z : Int} (h : IntAt w b o z) : IntAt w.drew b o z := h.below ((Below.refl _ _).drew)
/-- the words of an Int, apart from its cells -/
theorem IntAt.open {w : World} {b o : Nat} {x : Int} (h : IntAt w b o x) : ∃ (A : Option Addr) (n c : Nat) (s : Bool), Hid (n = (dig x.natAbs).length) ∧ Hid (s = decide (x < 0)) ∧ w.cell? ⟨b, o, none⟩ = some (.bool s) ∧ w.cell? ⟨b, o + 1, none⟩ = some (.slice A n c) ∧ n ≤ c ∧ Hid (RdE Wc 1 w.drew (fun d => d < w.drew.heap.size) A n (dig x.natAbs)) := by
  obtain ⟨A, c, h1, hc, hr⟩ := h.abs
  exact ⟨A, _, c, _, rfl, rfl, h.neg, h1, hc, drew_rd hr⟩

end Go.Proofs.Ytfepmbpcdfdlhaa
