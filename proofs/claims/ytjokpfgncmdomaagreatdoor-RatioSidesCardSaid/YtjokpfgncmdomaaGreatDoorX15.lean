import Derived.Test.YtjokpfgncmdomaaGreatDoorX14
set_option linter.unusedSimpArgs false
set_option linter.unusedVariables false
/- ratio.Sign, Int: the walks -/
namespace Go.Proofs.YtjokpfgncmdomaaGreatDoor
open Go.RowKit Go.Sort

def SignPost (r : RV) (w : World) (e : Ending) (w' : World) : Prop := (if rightB r = true then e = .returned (.tuple #[.int .i64 (sgnI r.q.num), .int .i64 0]) else e = .returned (.tuple #[.int .i64 0, .int .i64 2])) ∧ Below w.heap.size w w'

set_option maxRecDepth 100000 in
set_option maxHeartbeats 4000000 in
theorem sign_ratio (v : Value) (r : RV) (w : World) (hr : RAt w v r) (l1 : r.num.length ≤ 1000000000000000) (l2 : r.den.length ≤ 1000000000000000) :
    Calls Tryz.prog 20 #[v] w (SignPost r w) := by
  have HR := Lib.hid hr
  obtain ⟨s, A, n, c, A', n', c', rfl⟩ : ∃ s A n c A' n' c', v = .agg #[.bool s, .slice A n c, .slice A' n' c'] := by obtain ⟨A, n, c, A', n', c', h, _⟩ := hr; exact ⟨_, _, _, _, _, _, _, h⟩
  clear hr
  go_enter Tryz.func20, Tryz.ntmps20
  go_wp2_with fail
  refine (right_ratio _ r _ (HR.out.below (below1 ..)) l1 l2).mono ?_
  rintro e w1 ⟨rfl, hb1⟩
  have q0 := bat hb1 (new_cell w #[.bool s, .slice A n c, .slice A' n' c'] 24 0 _ rfl)
  have q1 := bat hb1 (new_cell w #[.bool s, .slice A n c, .slice A' n' c'] 24 1 _ rfl)
  have q2 := bat hb1 (new_cell w #[.bool s, .slice A n c, .slice A' n' c'] 24 2 _ rfl)
  have HB1 := Lib.hid ((below1 w (.cells #[.bool s, .slice A n c, .slice A' n' c'] 24)).trans (hb1.mono (by simp)))
  clear hb1
  cases h : rightB r
  · have H := Lib.hid h
    clear h
    go_wp2_with fail
    go_ret2
    unfold SignPost
    rw [if_neg (by rw [H.out]; decide)]
    exact ⟨rfl, HB1.out⟩
  · have H := Lib.hid h
    clear h
    have LA := Lib.hid (right_len H.out)
    have DA := Lib.hid (right_den H.out HR.out.ldsD)
    go_wp2_with fail
    refine (fraction_ratio _ r w1 (HR.out.below HB1.out) DA.out (by have := LA.out; omega) (by have := LA.out; omega)).mono ?_
    rintro e w2 ⟨g, rfl, hg, hr2, hb2⟩
    have HR2 := Lib.hid hr2
    have HB2 := Lib.hid (HB1.out.trans (hb2.mono HB1.out.size))
    clear hr2 hb2
    go_wp2_with fail
    refine (sign_rat g r.q _ HR2.out).mono ?_
    rintro e w' ⟨rfl, rfl⟩
    go_wp2_with fail
    go_ret2
    unfold SignPost
    rw [if_pos H.out]
    exact ⟨rfl, HB2.out⟩

theorem told_to {w w' : World} {q : Rat} {e : Ending} (h : Told w q e w') (hf : fits q) : ∃ v, e = .returned (.tuple #[v, .int .i64 0]) ∧ RAt w' v (rv q) ∧ Below w.heap.size w w' := by
  obtain ⟨v, h1, h2, h3⟩ := h
  rw [toldE, if_pos hf] at h1
  rw [toldR, if_pos hf] at h2
  exact ⟨v, h1, h2, h3⟩
theorem blk2 (w : World) (o1 : Obj) (cs : Array Value) (t : TypeId) : ((w.alloc o1).alloc (.cells cs t)).heap[w.heap.size + 1]? = some (.cells cs t (0, 0)) := by
  have h := blk_new (w.alloc o1) cs t
  rwa [World.size_alloc] at h
theorem fits_int {x : Int} (hx : -9223372036854775808 ≤ x) (hx2 : x ≤ 9223372036854775807) : fits (Rat.divInt x 1) := by
  have h1 := rn_pos (a := x) (b := 1) (by decide)
  have e1 : (Rat.divInt x 1).num = x := by rw [h1.1]; simp
  have e2 : (Rat.divInt x 1).den = 1 := by rw [h1.2]; simp
  unfold fits
  rw [e1, e2]
  exact ⟨Nat.le_trans (lim_len_le (k := 1) (by show _ < 18446744073709551616 ^ 1; omega)) (by decide), by decide⟩
theorem sz_int {x : Int} (hx : -9223372036854775808 ≤ x) (hx2 : x ≤ 9223372036854775807) : Sz 2 (Rat.divInt x 1) := by
  have h1 := rn_pos (a := x) (b := 1) (by decide)
  have e1 : (Rat.divInt x 1).num = x := by rw [h1.1]; simp
  have e2 : (Rat.divInt x 1).den = 1 := by rw [h1.2]; simp
  unfold Sz
  rw [e1, e2]
  exact ⟨dig_len_small (by omega), by decide⟩

set_option maxRecDepth 100000 in
set_option maxHeartbeats 4000000 in
theorem int_ratio (x : Int) (w : World) (hx : -9223372036854775808 ≤ x) (hx2 : x ≤ 9223372036854775807) :
    Calls Tryz.prog 15 #[.int .i64 x] w fun e w' => ∃ v, e = .returned v ∧ RAt w' v (rv (Rat.divInt x 1)) ∧ Below w.heap.size w w' := by
  have HF := Lib.hid (fits_int hx hx2)
  have HS := Lib.hid (sz_int hx hx2)
  go_enter Tryz.func15, Tryz.ntmps15
  go_wp2_with fail
  refine (setI_rat (w.heap.size + 1) x _ (by have h := new_rat (w.alloc (.cells #[.bool false, .slice none 0 0, .slice none 0 0] 24)); rwa [World.size_alloc] at h) hx hx2).mono ?_
  rintro e w1 ⟨rfl, hr1, hu1⟩
  have hblk : w1.heap[w.heap.size]? = some (.cells #[.bool false, .slice none 0 0, .slice none 0 0] 24 (0, 0)) := by
    rw [hu1.blk w.heap.size (by simp; omega) (by omega)]
    exact ((below1 (w.alloc (.cells #[.bool false, .slice none 0 0, .slice none 0 0] 24)) newR).block w.heap.size (by simp)).trans (blk_new w _ _)
  have HR1 := Lib.hid hr1
  have HB1 := Lib.hid ((below1 w (.cells #[.bool false, .slice none 0 0, .slice none 0 0] 24)).trans (((below1 (w.alloc (.cells #[.bool false, .slice none 0 0, .slice none 0 0] 24)) newR).mono (by simp)).trans (hu1.below (by omega) (by simp; omega))))
  have z1 : w.heap.size + 1 ≤ w1.heap.size := by have := hu1.size; simp at this; omega
  clear hr1 hu1
  go_wp2_with fail
  refine (told_ratio _ (Rat.divInt x 1) w1 HR1.out (Nat.le_trans HS.out.1 (by omega)) (Nat.le_trans HS.out.2 (by omega))).mono ?_
  rintro e w2 ht
  obtain ⟨v, rfl, hv2, hb2⟩ := told_to ht HF.out
  have HV2 := Lib.hid hv2
  have hblk2 := (hb2.block w.heap.size (by omega)).trans hblk
  have HB2 := Lib.hid (HB1.out.trans (hb2.mono HB1.out.size))
  have z2 : w.heap.size + 1 ≤ w2.heap.size := by have := hb2.size; omega
  obtain ⟨s, B, m, d, B', m', d', rfl⟩ : ∃ s A n c A' n' c', v = .agg #[.bool s, .slice A n c, .slice A' n' c'] := by obtain ⟨A, n, c, A', n', c', h, _⟩ := hv2; exact ⟨_, _, _, _, _, _, _, h⟩
  have hblk3 := ((below1 w2 (.cells #[.bool s, .slice B m d, .slice B' m' d'] 24)).block w.heap.size (by omega)).trans hblk2
  obtain ⟨kc, kf⟩ := blk_cells hblk3
  have kc0 := kc 0
  have kc1 := kc 1
  have kc2 := kc 2
  have kf0 := kf 0
  have kf1 := kf 1
  have kf2 := kf 2
  simp only [List.getElem?_toArray, List.getElem?_cons_zero, List.getElem?_cons_succ] at kc0 kc1 kc2
  clear hv2 hb2 ht hblk hblk2 hblk3 kc kf
  obtain ⟨w3, hw3⟩ : ∃ w3, w3 = w2.alloc (.cells #[.bool s, .slice B m d, .slice B' m' d'] 24) := ⟨_, rfl⟩
  have HW3 := Lib.hid hw3
  have HB3 := Lib.hid (show Below w2.heap.size w2 w3 by rw [hw3]; exact below1 ..)
  clear hw3
  go_wp2_with fail
  rw [← HW3.out] at kc0 kc1 kc2 ⊢
  obtain ⟨w6, hw6⟩ : ∃ w6, w6 = ((w3.setCell ⟨w.heap.size, 0, none⟩ (.bool s)).setCell ⟨w.heap.size, 1, none⟩ (.slice B m d)).setCell ⟨w.heap.size, 2, none⟩ (.slice B' m' d') := ⟨_, rfl⟩
  obtain ⟨hu6, q0, q1, q2⟩ := rat_set kc0 kc1 kc2 _ _ _ _ _ _ _ _ hw6
  rw [← hw6]
  (try simp only [Exit.inBlock, Exit.then])
  refine bodyPost_ret (v := .agg #[.bool s, .slice B m d, .slice B' m' d']) (by simp [results, Tryz.results15, go_sem, q0, q1, q2]; done) rfl ?_
  have z3 := HB3.out.size
  exact ⟨_, rfl, (HV2.out.below HB3.out).upb hu6, (HB2.out.trans (HB3.out.mono HB2.out.size)).trans (hu6.below (by omega) (by omega))⟩

end Go.Proofs.YtjokpfgncmdomaaGreatDoor

/- Rat.Cmp, ratio.Cmp: the walks (printed by wip/Rat/gen_t15.py) -/
namespace Go.Proofs.YtjokpfgncmdomaaGreatDoor
open Go.RowKit Go.Sort

/-- what the memory is while the last statement of Cmp is worked off -/
def CmpMF (w0 : World) (m1 m2 : Int) (listed : Array Bool) (p0 p7 : Nat) (w : World) : Prop :=
  Below w0.heap.size w0 w ∧ (lst listed 0 = true → w0.heap.size ≤ p0 ∧ IntAt w p0 0 (if lst listed 6 = true then m1 else 0)) ∧ (lst listed 7 = true → w0.heap.size ≤ p7 ∧ IntAt w p7 0 (if lst listed 13 = true then m2 else 0)) ∧ (lst listed 0 = true → lst listed 7 = true → p0 ≠ p7)
theorem CmpMF.set {w0 : World} {m1 m2 : Int} {listed : Array Bool} {p0 p7 : Nat} {w : World} (h : CmpMF w0 m1 m2 listed p0 p7 w) {i : Nat} (h0 : i ≠ 0) (h6 : i ≠ 6) (h7 : i ≠ 7) (h13 : i ≠ 13) : CmpMF w0 m1 m2 (listed.setIfInBounds i true) p0 p7 w := by
  unfold CmpMF at h ⊢
  rw [lst_ne h0, lst_ne h6, lst_ne h7, lst_ne h13]
  exact h
theorem cmpI_zero {x y : Int} : (cmpI x y == 0) = decide (x = y) := by
  unfold cmpI
  by_cases h1 : x < y
  · have : x ≠ y := by omega
    simp [h1, this]
  · by_cases h2 : y < x
    · have : x ≠ y := by omega
      simp [h1, h2, this]
    · have : x = y := by omega
      simp [this]
/-- -1, 0, 1: held together as fractions -/
def cmpQ (x y : Rat) : Int := cmpI (x.num * (y.den : Int)) (y.num * (x.den : Int))
theorem cmpQ_den {x y : Rat} (h : (x.den : Int) = y.den) : cmpI x.num y.num = cmpQ x y := by
  unfold cmpQ cmpI
  rw [h]
  have hp : (0 : Int) < y.den := by have := y.den_pos; omega
  have e1 : x.num * (y.den : Int) < y.num * (y.den : Int) ↔ x.num < y.num := ⟨fun h => Int.lt_of_mul_lt_mul_right h (by omega), fun h => Int.mul_lt_mul_of_pos_right h hp⟩
  have e2 : y.num * (y.den : Int) < x.num * (y.den : Int) ↔ y.num < x.num := ⟨fun h => Int.lt_of_mul_lt_mul_right h (by omega), fun h => Int.mul_lt_mul_of_pos_right h hp⟩
  simp only [e1, e2]

set_option maxRecDepth 100000 in
def CmpJ (b1 b2 : Nat) (k : Int) (w0 : World) (m1 m2 : Int) (listed : Array Bool) (a : Act) (w : World) : Prop := ∃ p0 p7 : Nat, a = ⟨#[(.pointer (some ⟨b1, 0, none⟩)), (.pointer (some ⟨b2, 0, none⟩)), (undef), (undef), ((iv (lst listed 15) (.int .i64 (cmpI m1 m2)) (.int .i64 0))), (.pointer (some ⟨b1, 0, none⟩)), (.pointer (some ⟨b1, 2, none⟩)), (.pointer (some ⟨b2, 0, none⟩)), (.pointer (some ⟨b2, 2, none⟩)), (.int .i64 k), (.bool false), (undef), (undef), (undef), (undef), (undef), (undef), (undef), ((iv (lst listed 0) (.pointer (some ⟨p0, 0, none⟩)) (undef))), ((iv (lst listed 1) (.pointer (some ⟨b1, 0, none⟩)) (undef))), ((iv (lst listed 2) (.pointer (some ⟨b1, 0, none⟩)) (undef))), ((iv (lst listed 3) (.pointer (some ⟨b1, 0, none⟩)) (undef))), ((iv (lst listed 4) (.pointer (some ⟨b2, 0, none⟩)) (undef))), ((iv (lst listed 5) (.pointer (some ⟨b2, 2, none⟩)) (undef))), ((iv (lst listed 6) (.pointer (some ⟨p0, 0, none⟩)) (undef))), ((iv (lst listed 7) (.pointer (some ⟨p7, 0, none⟩)) (undef))), ((iv (lst listed 8) (.pointer (some ⟨b2, 0, none⟩)) (undef))), ((iv (lst listed 9) (.pointer (some ⟨b2, 0, none⟩)) (undef))), ((iv (lst listed 10) (.pointer (some ⟨b2, 0, none⟩)) (undef))), ((iv (lst listed 11) (.pointer (some ⟨b1, 0, none⟩)) (undef))), ((iv (lst listed 12) (.pointer (some ⟨b1, 2, none⟩)) (undef))), ((iv (lst listed 13) (.pointer (some ⟨p7, 0, none⟩)) (undef))), ((iv (lst listed 14) (.int .i64 (cmpI m1 m2)) (undef)))], []⟩ ∧ CmpMF w0 m1 m2 listed p0 p7 w

set_option maxRecDepth 100000 in
set_option maxHeartbeats 8000000 in
theorem cmp_rat (b1 b2 : Nat) (x y : Rat) (w : World) (hx : RatAt w b1 x) (hy : RatAt w b2 y)
    (hxn : (dig x.num.natAbs).length ≤ 200000) (hxd : (dig x.den).length ≤ 200000) (hyn : (dig y.num.natAbs).length ≤ 200000) (hyd : (dig y.den).length ≤ 200000) :
    Calls Tryz.prog 65 #[.pointer (some ⟨b1, 0, none⟩), .pointer (some ⟨b2, 0, none⟩)] w fun e w' => e = .returned (.int .i64 (cmpQ x y)) ∧ Below w.heap.size w w' := by
  have HX := Lib.hid hx
  have HY := Lib.hid hy
  clear hx hy
  go_enter Tryz.func65, Tryz.ntmps65
  go_wp2_with fail
  refine (den_rat b1 x _ HX.out).mono ?_
  rintro e w' ⟨rfl, rfl⟩
  go_wp2_with fail
  refine (den_rat b2 y _ HY.out).mono ?_
  rintro e w' ⟨rfl, rfl⟩
  go_wp2_with fail
  refine (cmp_int b1 2 b2 2 (x.den : Int) (y.den : Int) _ HX.out.2 HY.out.2 (by rw [Int.natAbs_natCast]; omega) (by rw [Int.natAbs_natCast]; omega)).mono ?_
  rintro e wn ⟨rfl, hb0⟩
  have HX0 := Lib.hid (HX.out.below hb0)
  have HY0 := Lib.hid (HY.out.below hb0)
  have HB0 := Lib.hid hb0
  clear hb0
  by_cases hd : (x.den : Int) = y.den
  · have e0 : (cmpI (x.den : Int) (y.den : Int) == 0) = true := by rw [cmpI_zero]; simp [hd]
    have HC := Lib.hid (cmpQ_den hd)
    clear hd
    obtain ⟨k, hk⟩ : ∃ k, k = cmpI (x.den : Int) (y.den : Int) := ⟨_, rfl⟩
    rw [← hk] at e0 ⊢
    clear hk
    go_wp2_with fail
    refine wp_region_G (S := (fun _ => True)) 6 (by kernel_rfl) ?_ (fun hHeld => ?_)
    · first | exact True.intro | ((try dsimp only); go_keep)
    refine wpAnyG_take (i := 0) (v := ?_) rfl (by kernel_rfl) (by kernel_rfl) (by kernel_rfl) (by kernel_rfl) 8 (by kernel_rfl) (fun _ _ _ h => h) (Or.inl ⟨by kernel_rfl, ?_⟩) (by assumption) ?_
    rotate_left 1
    · (intro w hSw; (try dsimp only at hSw); go_simp; try with_reducible rfl)
    try simp only [List.getElem_toArray, List.getElem_cons_succ, List.getElem_cons_zero, Act.put, List.setIfInBounds_toArray, List.set_cons_zero, List.set_cons_succ]
    refine wpAnyG_take (i := 1) (v := ?_) rfl (by kernel_rfl) (by kernel_rfl) (by kernel_rfl) (by kernel_rfl) 8 (by kernel_rfl) (fun _ _ _ h => h) (Or.inl ⟨by kernel_rfl, ?_⟩) (by assumption) ?_
    rotate_left 1
    · (intro w hSw; (try dsimp only at hSw); go_simp; try with_reducible rfl)
    try simp only [List.getElem_toArray, List.getElem_cons_succ, List.getElem_cons_zero, Act.put, List.setIfInBounds_toArray, List.set_cons_zero, List.set_cons_succ]
    refine wpAnyG_take (i := 2) (v := ?_) rfl (by kernel_rfl) (by kernel_rfl) (by kernel_rfl) (by kernel_rfl) 8 (by kernel_rfl) (fun _ _ _ h => h) (Or.inl ⟨by kernel_rfl, ?_⟩) (by assumption) ?_
    rotate_left 1
    · (intro w hSw; (try dsimp only at hSw); go_simp; try with_reducible rfl)
    try simp only [List.getElem_toArray, List.getElem_cons_succ, List.getElem_cons_zero, Act.put, List.setIfInBounds_toArray, List.set_cons_zero, List.set_cons_succ]
    refine wpAnyG_take (i := 3) (v := ?_) rfl (by kernel_rfl) (by kernel_rfl) (by kernel_rfl) (by kernel_rfl) 8 (by kernel_rfl) (fun _ _ _ h => h) (Or.inl ⟨by kernel_rfl, ?_⟩) (by assumption) ?_
    rotate_left 1
    · (intro w hSw; (try dsimp only at hSw); go_simp; try with_reducible rfl)
    try simp only [List.getElem_toArray, List.getElem_cons_succ, List.getElem_cons_zero, Act.put, List.setIfInBounds_toArray, List.set_cons_zero, List.set_cons_succ]
    refine wpAnyG_take (i := 4) (v := ?_) rfl (by kernel_rfl) (by kernel_rfl) (by kernel_rfl) (by kernel_rfl) 8 (by kernel_rfl) (fun _ _ _ h => h) (Or.inl ⟨by kernel_rfl, ?_⟩) (by assumption) ?_
    rotate_left 1
    · (intro w hSw; (try dsimp only at hSw); go_simp; try with_reducible rfl)
    try simp only [List.getElem_toArray, List.getElem_cons_succ, List.getElem_cons_zero, Act.put, List.setIfInBounds_toArray, List.set_cons_zero, List.set_cons_succ]
    refine wpAnyG_take (i := 5) (v := ?_) rfl (by kernel_rfl) (by kernel_rfl) (by kernel_rfl) (by kernel_rfl) 8 (by kernel_rfl) (fun _ _ _ h => h) (Or.inl ⟨by kernel_rfl, ?_⟩) (by assumption) ?_
    rotate_left 1
    · (intro w hSw; (try dsimp only at hSw); go_simp; try with_reducible rfl)
    try simp only [List.getElem_toArray, List.getElem_cons_succ, List.getElem_cons_zero, Act.put, List.setIfInBounds_toArray, List.set_cons_zero, List.set_cons_succ]
    refine wpAnyG_one (i := 6) (by kernel_rfl) rfl (fun K hK => ?_)
    go_simp
    (refine (cmp_int b1 0 b2 0 x.num y.num wn.drew (HX0.out.below ((Below.refl _ _).drew)).1 (HY0.out.below ((Below.refl _ _).drew)).1 (by omega) (by omega)).mono ?_; rintro e w5 ⟨rfl, hb5⟩)
    try go_wp2_with fail
    refine hK.out _ _ ?_ (fun hHeld => ?_)
    · exact .inr (by kernel_rfl)
    clear hK K
    try simp only [List.getElem_toArray, List.getElem_cons_succ, List.getElem_cons_zero, Act.put, List.setIfInBounds_toArray, List.set_cons_zero, List.set_cons_succ]
    refine wpAnyG_one (i := 7) (by kernel_rfl) rfl (fun K hK => ?_)
    go_simp
    refine hK.out _ _ ?_ (fun hHeld => ?_)
    · exact .inr (by kernel_rfl)
    clear hK K
    try simp only [List.getElem_toArray, List.getElem_cons_succ, List.getElem_cons_zero, Act.put, List.setIfInBounds_toArray, List.set_cons_zero, List.set_cons_succ]
    refine wpAnyG_done (by kernel_rfl) ?_ _
    go_wp2_with fail
    go_ret
    exact ⟨by rw [HC.out]; rfl, HB0.out.trans (((Below.refl wn.heap.size wn).drew.trans hb5).mono HB0.out.size)⟩
  · have e0 : (cmpI (x.den : Int) (y.den : Int) == 0) = false := by rw [cmpI_zero]; simp [hd]
    clear hd
    obtain ⟨k, hk⟩ : ∃ k, k = cmpI (x.den : Int) (y.den : Int) := ⟨_, rfl⟩
    rw [← hk] at e0 ⊢
    clear hk
    obtain ⟨m1, hm1⟩ : ∃ m1, m1 = x.num * (y.den : Int) := ⟨_, rfl⟩
    obtain ⟨m2, hm2⟩ : ∃ m2, m2 = y.num * (x.den : Int) := ⟨_, rfl⟩
    have E1 := Lib.hid hm1.symm
    have E2 := Lib.hid hm2.symm
    have L1 := Lib.hid (show (dig m1.natAbs).length ≤ 10000000000 by rw [hm1]; have := mul_len x.num.natAbs y.den; rw [Int.natAbs_mul, Int.natAbs_natCast]; omega)
    have L2 := Lib.hid (show (dig m2.natAbs).length ≤ 10000000000 by rw [hm2]; have := mul_len y.num.natAbs x.den; rw [Int.natAbs_mul, Int.natAbs_natCast]; omega)
    have HC := Lib.hid (show cmpQ x y = cmpI m1 m2 by unfold cmpQ; rw [hm1, hm2])
    clear hm1 hm2
    go_upto_region 3 with fail
    refine wp_region_inv (CmpJ b1 b2 k wn m1 m2) (by kernel_rfl) ?_ ?_ ?_
    · refine ⟨0, 0, rfl, (Below.refl _ _).drew, ?_, ?_, ?_⟩
      all_goals (intro h; exact absurd h (by decide))
    · intro listed a w1 hs hcl hJ i hi
      obtain ⟨p0, p7, rfl, hmf⟩ := hJ
      have hlt : i < 16 := by
        obtain ⟨_, o, ho, _⟩ := mem_ready.1 hi
        exact (Array.getElem?_eq_some_iff.1 ho).1
      have HSZ : Hid (listed.size = 16) := Lib.hid hs
      refine inv_deps (J := CmpJ b1 b2 k wn m1 m2) hi fun hu hdep => ?_
      clear hs hi
      rcases (show i = 0 ∨ i = 1 ∨ i = 2 ∨ i = 3 ∨ i = 4 ∨ i = 5 ∨ i = 6 ∨ i = 7 ∨ i = 8 ∨ i = 9 ∨ i = 10 ∨ i = 11 ∨ i = 12 ∨ i = 13 ∨ i = 14 ∨ i = 15 by omega) with rfl | rfl | rfl | rfl | rfl | rfl | rfl | rfl | rfl | rfl | rfl | rfl | rfl | rfl | rfl | rfl
      · -- operation 0
        refine inv_op rfl (fun K hK => ?_)
        go_simp
        have hm2 := hmf
        unfold CmpMF at hm2
        have zw := hm2.1.size
        have nst : lst listed 6 = false := closed_not hcl 8 (by kernel_rfl) hu
        refine hK.out _ _ ⟨w1.heap.size, p7, ?_, ?_⟩
        · skip
          try simp only [Act.put, List.setIfInBounds_toArray, List.set_cons_zero, List.set_cons_succ]
          rw [lst_self (show 0 < listed.size by rw [HSZ.out]; decide)]
          simp only [lst_ne (show 0 ≠ 1 by decide), lst_ne (show 0 ≠ 2 by decide), lst_ne (show 0 ≠ 3 by decide), lst_ne (show 0 ≠ 4 by decide), lst_ne (show 0 ≠ 5 by decide), lst_ne (show 0 ≠ 6 by decide), lst_ne (show 0 ≠ 7 by decide), lst_ne (show 0 ≠ 8 by decide), lst_ne (show 0 ≠ 9 by decide), lst_ne (show 0 ≠ 10 by decide), lst_ne (show 0 ≠ 11 by decide), lst_ne (show 0 ≠ 12 by decide), lst_ne (show 0 ≠ 13 by decide), lst_ne (show 0 ≠ 14 by decide), lst_ne (show 0 ≠ 15 by decide), iv_true, nst, iv_false]
        · unfold CmpMF
          refine ⟨hm2.1.alloc zw _, ?_, ?_, ?_⟩
          · intro _
            rw [lst_ne (show 0 ≠ 6 by decide), nst]
            exact ⟨zw, new_intAt w1⟩
          · intro h
            rw [lst_ne (show 0 ≠ 7 by decide)] at h
            rw [lst_ne (show 0 ≠ 13 by decide)]
            exact ⟨(hm2.2.2.1 h).1, (hm2.2.2.1 h).2.below (below1 w1 _)⟩
          · intro h h'
            rw [lst_ne (show 0 ≠ 7 by decide)] at h'
            have := (hm2.2.2.1 h').2.lt
            omega
      · -- operation 1
        refine inv_op rfl (fun K hK => ?_)
        go_simp
        refine hK.out _ _ ⟨p0, p7, ?_, hmf.set (by decide) (by decide) (by decide) (by decide)⟩
        · skip
          try simp only [Act.put, List.setIfInBounds_toArray, List.set_cons_zero, List.set_cons_succ]
          rw [lst_self (show 1 < listed.size by rw [HSZ.out]; decide)]
          simp only [lst_ne (show 1 ≠ 0 by decide), lst_ne (show 1 ≠ 2 by decide), lst_ne (show 1 ≠ 3 by decide), lst_ne (show 1 ≠ 4 by decide), lst_ne (show 1 ≠ 5 by decide), lst_ne (show 1 ≠ 6 by decide), lst_ne (show 1 ≠ 7 by decide), lst_ne (show 1 ≠ 8 by decide), lst_ne (show 1 ≠ 9 by decide), lst_ne (show 1 ≠ 10 by decide), lst_ne (show 1 ≠ 11 by decide), lst_ne (show 1 ≠ 12 by decide), lst_ne (show 1 ≠ 13 by decide), lst_ne (show 1 ≠ 14 by decide), lst_ne (show 1 ≠ 15 by decide), iv_true]
      · -- operation 2
        have d1 : lst listed 1 = true := hdep 1 (by kernel_rfl)
        refine inv_op rfl (fun K hK => ?_)
        simp only [d1, iv_true]
        go_simp
        refine hK.out _ _ ⟨p0, p7, ?_, hmf.set (by decide) (by decide) (by decide) (by decide)⟩
        · skip
          try simp only [Act.put, List.setIfInBounds_toArray, List.set_cons_zero, List.set_cons_succ]
          rw [lst_self (show 2 < listed.size by rw [HSZ.out]; decide)]
          simp only [lst_ne (show 2 ≠ 0 by decide), lst_ne (show 2 ≠ 1 by decide), lst_ne (show 2 ≠ 3 by decide), lst_ne (show 2 ≠ 4 by decide), lst_ne (show 2 ≠ 5 by decide), lst_ne (show 2 ≠ 6 by decide), lst_ne (show 2 ≠ 7 by decide), lst_ne (show 2 ≠ 8 by decide), lst_ne (show 2 ≠ 9 by decide), lst_ne (show 2 ≠ 10 by decide), lst_ne (show 2 ≠ 11 by decide), lst_ne (show 2 ≠ 12 by decide), lst_ne (show 2 ≠ 13 by decide), lst_ne (show 2 ≠ 14 by decide), lst_ne (show 2 ≠ 15 by decide), iv_true, d1]
      · -- operation 3
        have d2 : lst listed 2 = true := hdep 2 (by kernel_rfl)
        refine inv_op rfl (fun K hK => ?_)
        simp only [d2, iv_true]
        go_simp
        refine hK.out _ _ ⟨p0, p7, ?_, hmf.set (by decide) (by decide) (by decide) (by decide)⟩
        · skip
          try simp only [Act.put, List.setIfInBounds_toArray, List.set_cons_zero, List.set_cons_succ]
          rw [lst_self (show 3 < listed.size by rw [HSZ.out]; decide)]
          simp only [lst_ne (show 3 ≠ 0 by decide), lst_ne (show 3 ≠ 1 by decide), lst_ne (show 3 ≠ 2 by decide), lst_ne (show 3 ≠ 4 by decide), lst_ne (show 3 ≠ 5 by decide), lst_ne (show 3 ≠ 6 by decide), lst_ne (show 3 ≠ 7 by decide), lst_ne (show 3 ≠ 8 by decide), lst_ne (show 3 ≠ 9 by decide), lst_ne (show 3 ≠ 10 by decide), lst_ne (show 3 ≠ 11 by decide), lst_ne (show 3 ≠ 12 by decide), lst_ne (show 3 ≠ 13 by decide), lst_ne (show 3 ≠ 14 by decide), lst_ne (show 3 ≠ 15 by decide), iv_true, d2]
      · -- operation 4
        refine inv_op rfl (fun K hK => ?_)
        go_simp
        refine hK.out _ _ ⟨p0, p7, ?_, hmf.set (by decide) (by decide) (by decide) (by decide)⟩
        · skip
          try simp only [Act.put, List.setIfInBounds_toArray, List.set_cons_zero, List.set_cons_succ]
          rw [lst_self (show 4 < listed.size by rw [HSZ.out]; decide)]
          simp only [lst_ne (show 4 ≠ 0 by decide), lst_ne (show 4 ≠ 1 by decide), lst_ne (show 4 ≠ 2 by decide), lst_ne (show 4 ≠ 3 by decide), lst_ne (show 4 ≠ 5 by decide), lst_ne (show 4 ≠ 6 by decide), lst_ne (show 4 ≠ 7 by decide), lst_ne (show 4 ≠ 8 by decide), lst_ne (show 4 ≠ 9 by decide), lst_ne (show 4 ≠ 10 by decide), lst_ne (show 4 ≠ 11 by decide), lst_ne (show 4 ≠ 12 by decide), lst_ne (show 4 ≠ 13 by decide), lst_ne (show 4 ≠ 14 by decide), lst_ne (show 4 ≠ 15 by decide), iv_true]
      · -- operation 5
        have d4 : lst listed 4 = true := hdep 4 (by kernel_rfl)
        refine inv_op rfl (fun K hK => ?_)
        simp only [d4, iv_true]
        go_simp
        have hm2 := hmf
        unfold CmpMF at hm2
        have zw := hm2.1.size
        refine (den_rat b2 y w1 (HY0.out.below hm2.1)).mono ?_
        rintro e w' ⟨rfl, rfl⟩
        clear hm2
        try go_wp2_with fail
        refine hK.out _ _ ⟨p0, p7, ?_, hmf.set (by decide) (by decide) (by decide) (by decide)⟩
        · skip
          try simp only [Act.put, List.setIfInBounds_toArray, List.set_cons_zero, List.set_cons_succ]
          rw [lst_self (show 5 < listed.size by rw [HSZ.out]; decide)]
          simp only [lst_ne (show 5 ≠ 0 by decide), lst_ne (show 5 ≠ 1 by decide), lst_ne (show 5 ≠ 2 by decide), lst_ne (show 5 ≠ 3 by decide), lst_ne (show 5 ≠ 4 by decide), lst_ne (show 5 ≠ 6 by decide), lst_ne (show 5 ≠ 7 by decide), lst_ne (show 5 ≠ 8 by decide), lst_ne (show 5 ≠ 9 by decide), lst_ne (show 5 ≠ 10 by decide), lst_ne (show 5 ≠ 11 by decide), lst_ne (show 5 ≠ 12 by decide), lst_ne (show 5 ≠ 13 by decide), lst_ne (show 5 ≠ 14 by decide), lst_ne (show 5 ≠ 15 by decide), iv_true, d4]
      · -- operation 6
        have d0 : lst listed 0 = true := hdep 0 (by kernel_rfl)
        have d3 : lst listed 3 = true := hdep 3 (by kernel_rfl)
        have d5 : lst listed 5 = true := hdep 5 (by kernel_rfl)
        refine inv_op rfl (fun K hK => ?_)
        simp only [d0, d3, d5, iv_true]
        go_simp
        have hm2 := hmf
        unfold CmpMF at hm2
        have zw := hm2.1.size
        have nI : lst listed 6 = false := hu
        have hme := hm2.2.1 d0
        rw [nI] at hme
        refine (mul_int p0 0 b1 0 b2 2 0 x.num (y.den : Int) w1 hme.2 (HX0.out.below hm2.1).1 (HY0.out.below hm2.1).2 (by omega) (by rw [Int.natAbs_natCast]; omega)).mono ?_
        rintro e w2 ⟨rfl, hi2, hu2⟩
        rw [E1.out] at hi2
        clear nI
        try go_wp2_with fail
        refine hK.out _ _ ⟨p0, p7, ?_, ?_⟩
        · skip
          try simp only [Act.put, List.setIfInBounds_toArray, List.set_cons_zero, List.set_cons_succ]
          rw [lst_self (show 6 < listed.size by rw [HSZ.out]; decide)]
          simp only [lst_ne (show 6 ≠ 0 by decide), lst_ne (show 6 ≠ 1 by decide), lst_ne (show 6 ≠ 2 by decide), lst_ne (show 6 ≠ 3 by decide), lst_ne (show 6 ≠ 4 by decide), lst_ne (show 6 ≠ 5 by decide), lst_ne (show 6 ≠ 7 by decide), lst_ne (show 6 ≠ 8 by decide), lst_ne (show 6 ≠ 9 by decide), lst_ne (show 6 ≠ 10 by decide), lst_ne (show 6 ≠ 11 by decide), lst_ne (show 6 ≠ 12 by decide), lst_ne (show 6 ≠ 13 by decide), lst_ne (show 6 ≠ 14 by decide), lst_ne (show 6 ≠ 15 by decide), iv_true, d0, d3, d5]
        · unfold CmpMF
          refine ⟨hm2.1.trans (hu2.toB.below hme.1 zw), ?_, ?_, ?_⟩
          · intro _
            rw [lst_self (show 6 < listed.size by rw [HSZ.out]; decide)]
            exact ⟨hme.1, hi2⟩
          · intro h
            rw [lst_ne (show 6 ≠ 7 by decide)] at h
            rw [lst_ne (show 6 ≠ 13 by decide)]
            have hne := hm2.2.2.2 d0 h
            exact ⟨(hm2.2.2.1 h).1, (hm2.2.2.1 h).2.upd hu2 (fun e => absurd e (by omega))⟩
          · intro h h'
            rw [lst_ne (show 6 ≠ 0 by decide)] at h
            rw [lst_ne (show 6 ≠ 7 by decide)] at h'
            exact hm2.2.2.2 h h'
      · -- operation 7
        refine inv_op rfl (fun K hK => ?_)
        go_simp
        have hm2 := hmf
        unfold CmpMF at hm2
        have zw := hm2.1.size
        have nst : lst listed 13 = false := closed_not hcl 8 (by kernel_rfl) hu
        refine hK.out _ _ ⟨p0, w1.heap.size, ?_, ?_⟩
        · skip
          try simp only [Act.put, List.setIfInBounds_toArray, List.set_cons_zero, List.set_cons_succ]
          rw [lst_self (show 7 < listed.size by rw [HSZ.out]; decide)]
          simp only [lst_ne (show 7 ≠ 0 by decide), lst_ne (show 7 ≠ 1 by decide), lst_ne (show 7 ≠ 2 by decide), lst_ne (show 7 ≠ 3 by decide), lst_ne (show 7 ≠ 4 by decide), lst_ne (show 7 ≠ 5 by decide), lst_ne (show 7 ≠ 6 by decide), lst_ne (show 7 ≠ 8 by decide), lst_ne (show 7 ≠ 9 by decide), lst_ne (show 7 ≠ 10 by decide), lst_ne (show 7 ≠ 11 by decide), lst_ne (show 7 ≠ 12 by decide), lst_ne (show 7 ≠ 13 by decide), lst_ne (show 7 ≠ 14 by decide), lst_ne (show 7 ≠ 15 by decide), iv_true, nst, iv_false]
        · unfold CmpMF
          refine ⟨hm2.1.alloc zw _, ?_, ?_, ?_⟩
          · intro h
            rw [lst_ne (show 7 ≠ 0 by decide)] at h
            rw [lst_ne (show 7 ≠ 6 by decide)]
            exact ⟨(hm2.2.1 h).1, (hm2.2.1 h).2.below (below1 w1 _)⟩
          · intro _
            rw [lst_ne (show 7 ≠ 13 by decide), nst]
            exact ⟨zw, new_intAt w1⟩
          · intro h h'
            rw [lst_ne (show 7 ≠ 0 by decide)] at h
            have := (hm2.2.1 h).2.lt
            omega
      · -- operation 8
        refine inv_op rfl (fun K hK => ?_)
        go_simp
        refine hK.out _ _ ⟨p0, p7, ?_, hmf.set (by decide) (by decide) (by decide) (by decide)⟩
        · skip
          try simp only [Act.put, List.setIfInBounds_toArray, List.set_cons_zero, List.set_cons_succ]
          rw [lst_self (show 8 < listed.size by rw [HSZ.out]; decide)]
          simp only [lst_ne (show 8 ≠ 0 by decide), lst_ne (show 8 ≠ 1 by decide), lst_ne (show 8 ≠ 2 by decide), lst_ne (show 8 ≠ 3 by decide), lst_ne (show 8 ≠ 4 by decide), lst_ne (show 8 ≠ 5 by decide), lst_ne (show 8 ≠ 6 by decide), lst_ne (show 8 ≠ 7 by decide), lst_ne (show 8 ≠ 9 by decide), lst_ne (show 8 ≠ 10 by decide), lst_ne (show 8 ≠ 11 by decide), lst_ne (show 8 ≠ 12 by decide), lst_ne (show 8 ≠ 13 by decide), lst_ne (show 8 ≠ 14 by decide), lst_ne (show 8 ≠ 15 by decide), iv_true]
      · -- operation 9
        have d8 : lst listed 8 = true := hdep 8 (by kernel_rfl)
        refine inv_op rfl (fun K hK => ?_)
        simp only [d8, iv_true]
        go_simp
        refine hK.out _ _ ⟨p0, p7, ?_, hmf.set (by decide) (by decide) (by decide) (by decide)⟩
        · skip
          try simp only [Act.put, List.setIfInBounds_toArray, List.set_cons_zero, List.set_cons_succ]
          rw [lst_self (show 9 < listed.size by rw [HSZ.out]; decide)]
          simp only [lst_ne (show 9 ≠ 0 by decide), lst_ne (show 9 ≠ 1 by decide), lst_ne (show 9 ≠ 2 by decide), lst_ne (show 9 ≠ 3 by decide), lst_ne (show 9 ≠ 4 by decide), lst_ne (show 9 ≠ 5 by decide), lst_ne (show 9 ≠ 6 by decide), lst_ne (show 9 ≠ 7 by decide), lst_ne (show 9 ≠ 8 by decide), lst_ne (show 9 ≠ 10 by decide), lst_ne (show 9 ≠ 11 by decide), lst_ne (show 9 ≠ 12 by decide), lst_ne (show 9 ≠ 13 by decide), lst_ne (show 9 ≠ 14 by decide), lst_ne (show 9 ≠ 15 by decide), iv_true, d8]
      · -- operation 10
        have d9 : lst listed 9 = true := hdep 9 (by kernel_rfl)
        refine inv_op rfl (fun K hK => ?_)
        simp only [d9, iv_true]
        go_simp
        refine hK.out _ _ ⟨p0, p7, ?_, hmf.set (by decide) (by decide) (by decide) (by decide)⟩
        · skip
          try simp only [Act.put, List.setIfInBounds_toArray, List.set_cons_zero, List.set_cons_succ]
          rw [lst_self (show 10 < listed.size by rw [HSZ.out]; decide)]
          simp only [lst_ne (show 10 ≠ 0 by decide), lst_ne (show 10 ≠ 1 by decide), lst_ne (show 10 ≠ 2 by decide), lst_ne (show 10 ≠ 3 by decide), lst_ne (show 10 ≠ 4 by decide), lst_ne (show 10 ≠ 5 by decide), lst_ne (show 10 ≠ 6 by decide), lst_ne (show 10 ≠ 7 by decide), lst_ne (show 10 ≠ 8 by decide), lst_ne (show 10 ≠ 9 by decide), lst_ne (show 10 ≠ 11 by decide), lst_ne (show 10 ≠ 12 by decide), lst_ne (show 10 ≠ 13 by decide), lst_ne (show 10 ≠ 14 by decide), lst_ne (show 10 ≠ 15 by decide), iv_true, d9]
      · -- operation 11
        refine inv_op rfl (fun K hK => ?_)
        go_simp
        refine hK.out _ _ ⟨p0, p7, ?_, hmf.set (by decide) (by decide) (by decide) (by decide)⟩
        · skip
          try simp only [Act.put, List.setIfInBounds_toArray, List.set_cons_zero, List.set_cons_succ]
          rw [lst_self (show 11 < listed.size by rw [HSZ.out]; decide)]
          simp only [lst_ne (show 11 ≠ 0 by decide), lst_ne (show 11 ≠ 1 by decide), lst_ne (show 11 ≠ 2 by decide), lst_ne (show 11 ≠ 3 by decide), lst_ne (show 11 ≠ 4 by decide), lst_ne (show 11 ≠ 5 by decide), lst_ne (show 11 ≠ 6 by decide), lst_ne (show 11 ≠ 7 by decide), lst_ne (show 11 ≠ 8 by decide), lst_ne (show 11 ≠ 9 by decide), lst_ne (show 11 ≠ 10 by decide), lst_ne (show 11 ≠ 12 by decide), lst_ne (show 11 ≠ 13 by decide), lst_ne (show 11 ≠ 14 by decide), lst_ne (show 11 ≠ 15 by decide), iv_true]
      · -- operation 12
        have d11 : lst listed 11 = true := hdep 11 (by kernel_rfl)
        refine inv_op rfl (fun K hK => ?_)
        simp only [d11, iv_true]
        go_simp
        have hm2 := hmf
        unfold CmpMF at hm2
        have zw := hm2.1.size
        refine (den_rat b1 x w1 (HX0.out.below hm2.1)).mono ?_
        rintro e w' ⟨rfl, rfl⟩
        clear hm2
        try go_wp2_with fail
        refine hK.out _ _ ⟨p0, p7, ?_, hmf.set (by decide) (by decide) (by decide) (by decide)⟩
        · skip
          try simp only [Act.put, List.setIfInBounds_toArray, List.set_cons_zero, List.set_cons_succ]
          rw [lst_self (show 12 < listed.size by rw [HSZ.out]; decide)]
          simp only [lst_ne (show 12 ≠ 0 by decide), lst_ne (show 12 ≠ 1 by decide), lst_ne (show 12 ≠ 2 by decide), lst_ne (show 12 ≠ 3 by decide), lst_ne (show 12 ≠ 4 by decide), lst_ne (show 12 ≠ 5 by decide), lst_ne (show 12 ≠ 6 by decide), lst_ne (show 12 ≠ 7 by decide), lst_ne (show 12 ≠ 8 by decide), lst_ne (show 12 ≠ 9 by decide), lst_ne (show 12 ≠ 10 by decide), lst_ne (show 12 ≠ 11 by decide), lst_ne (show 12 ≠ 13 by decide), lst_ne (show 12 ≠ 14 by decide), lst_ne (show 12 ≠ 15 by decide), iv_true, d11]
      · -- operation 13
        have d7 : lst listed 7 = true := hdep 7 (by kernel_rfl)
        have d10 : lst listed 10 = true := hdep 10 (by kernel_rfl)
        have d12 : lst listed 12 = true := hdep 12 (by kernel_rfl)
        refine inv_op rfl (fun K hK => ?_)
        simp only [d7, d10, d12, iv_true]
        go_simp
        have hm2 := hmf
        unfold CmpMF at hm2
        have zw := hm2.1.size
        have nI : lst listed 13 = false := hu
        have hme := hm2.2.2.1 d7
        rw [nI] at hme
        refine (mul_int p7 0 b2 0 b1 2 0 y.num (x.den : Int) w1 hme.2 (HY0.out.below hm2.1).1 (HX0.out.below hm2.1).2 (by omega) (by rw [Int.natAbs_natCast]; omega)).mono ?_
        rintro e w2 ⟨rfl, hi2, hu2⟩
        rw [E2.out] at hi2
        clear nI
        try go_wp2_with fail
        refine hK.out _ _ ⟨p0, p7, ?_, ?_⟩
        · skip
          try simp only [Act.put, List.setIfInBounds_toArray, List.set_cons_zero, List.set_cons_succ]
          rw [lst_self (show 13 < listed.size by rw [HSZ.out]; decide)]
          simp only [lst_ne (show 13 ≠ 0 by decide), lst_ne (show 13 ≠ 1 by decide), lst_ne (show 13 ≠ 2 by decide), lst_ne (show 13 ≠ 3 by decide), lst_ne (show 13 ≠ 4 by decide), lst_ne (show 13 ≠ 5 by decide), lst_ne (show 13 ≠ 6 by decide), lst_ne (show 13 ≠ 7 by decide), lst_ne (show 13 ≠ 8 by decide), lst_ne (show 13 ≠ 9 by decide), lst_ne (show 13 ≠ 10 by decide), lst_ne (show 13 ≠ 11 by decide), lst_ne (show 13 ≠ 12 by decide), lst_ne (show 13 ≠ 14 by decide), lst_ne (show 13 ≠ 15 by decide), iv_true, d7, d10, d12]
        · unfold CmpMF
          refine ⟨hm2.1.trans (hu2.toB.below hme.1 zw), ?_, ?_, ?_⟩
          · intro h
            rw [lst_ne (show 13 ≠ 0 by decide)] at h
            rw [lst_ne (show 13 ≠ 6 by decide)]
            have hne := hm2.2.2.2 h d7
            exact ⟨(hm2.2.1 h).1, (hm2.2.1 h).2.upd hu2 (fun e => absurd e (by omega))⟩
          · intro _
            rw [lst_self (show 13 < listed.size by rw [HSZ.out]; decide)]
            exact ⟨hme.1, hi2⟩
          · intro h h'
            rw [lst_ne (show 13 ≠ 0 by decide)] at h
            rw [lst_ne (show 13 ≠ 7 by decide)] at h'
            exact hm2.2.2.2 h h'
      · -- operation 14
        have d6 : lst listed 6 = true := hdep 6 (by kernel_rfl)
        have d13 : lst listed 13 = true := hdep 13 (by kernel_rfl)
        refine inv_op rfl (fun K hK => ?_)
        simp only [d6, d13, iv_true]
        go_simp
        have hm2 := hmf
        unfold CmpMF at hm2
        have zw := hm2.1.size
        have d0 : lst listed 0 = true := closed_dep hcl 8 (by kernel_rfl) d6
        have d7 : lst listed 7 = true := closed_dep hcl 8 (by kernel_rfl) d13
        have h1 := hm2.2.1 d0
        have h8 := hm2.2.2.1 d7
        rw [d6] at h1
        rw [d13] at h8
        refine (cmp_int p0 0 p7 0 m1 m2 w1 h1.2 h8.2 L1.out L2.out).mono ?_
        rintro e w2 ⟨rfl, hb2⟩
        clear d0 d7
        try go_wp2_with fail
        refine hK.out _ _ ⟨p0, p7, ?_, ?_⟩
        · skip
          try simp only [Act.put, List.setIfInBounds_toArray, List.set_cons_zero, List.set_cons_succ]
          rw [lst_self (show 14 < listed.size by rw [HSZ.out]; decide)]
          simp only [lst_ne (show 14 ≠ 0 by decide), lst_ne (show 14 ≠ 1 by decide), lst_ne (show 14 ≠ 2 by decide), lst_ne (show 14 ≠ 3 by decide), lst_ne (show 14 ≠ 4 by decide), lst_ne (show 14 ≠ 5 by decide), lst_ne (show 14 ≠ 6 by decide), lst_ne (show 14 ≠ 7 by decide), lst_ne (show 14 ≠ 8 by decide), lst_ne (show 14 ≠ 9 by decide), lst_ne (show 14 ≠ 10 by decide), lst_ne (show 14 ≠ 11 by decide), lst_ne (show 14 ≠ 12 by decide), lst_ne (show 14 ≠ 13 by decide), lst_ne (show 14 ≠ 15 by decide), iv_true, d6, d13]
        · unfold CmpMF
          refine ⟨hm2.1.trans (hb2.mono zw), ?_, ?_, ?_⟩
          · intro h
            rw [lst_ne (show 14 ≠ 0 by decide)] at h
            rw [lst_ne (show 14 ≠ 6 by decide)]
            exact ⟨(hm2.2.1 h).1, (hm2.2.1 h).2.below hb2⟩
          · intro h
            rw [lst_ne (show 14 ≠ 7 by decide)] at h
            rw [lst_ne (show 14 ≠ 13 by decide)]
            exact ⟨(hm2.2.2.1 h).1, (hm2.2.2.1 h).2.below hb2⟩
          · intro h h'
            rw [lst_ne (show 14 ≠ 0 by decide)] at h
            rw [lst_ne (show 14 ≠ 7 by decide)] at h'
            exact hm2.2.2.2 h h'
      · -- operation 15
        have d14 : lst listed 14 = true := hdep 14 (by kernel_rfl)
        refine inv_op rfl (fun K hK => ?_)
        simp only [d14, iv_true]
        go_simp
        refine hK.out _ _ ⟨p0, p7, ?_, hmf.set (by decide) (by decide) (by decide) (by decide)⟩
        · skip
          try simp only [Act.put, List.setIfInBounds_toArray, List.set_cons_zero, List.set_cons_succ]
          rw [lst_self (show 15 < listed.size by rw [HSZ.out]; decide)]
          simp only [lst_ne (show 15 ≠ 0 by decide), lst_ne (show 15 ≠ 1 by decide), lst_ne (show 15 ≠ 2 by decide), lst_ne (show 15 ≠ 3 by decide), lst_ne (show 15 ≠ 4 by decide), lst_ne (show 15 ≠ 5 by decide), lst_ne (show 15 ≠ 6 by decide), lst_ne (show 15 ≠ 7 by decide), lst_ne (show 15 ≠ 8 by decide), lst_ne (show 15 ≠ 9 by decide), lst_ne (show 15 ≠ 10 by decide), lst_ne (show 15 ≠ 11 by decide), lst_ne (show 15 ≠ 12 by decide), lst_ne (show 15 ≠ 13 by decide), lst_ne (show 15 ≠ 14 by decide), iv_true, d14]
    · intro listed a w1 hs hr hJ
      obtain ⟨p0, p7, rfl, hmf⟩ := hJ
      have hall := all_listed hs hr (by kernel_rfl)
      have HB := Lib.hid hmf.1
      simp only [(show lst listed 0 = true from hall 0 (by decide)), (show lst listed 1 = true from hall 1 (by decide)), (show lst listed 2 = true from hall 2 (by decide)), (show lst listed 3 = true from hall 3 (by decide)), (show lst listed 4 = true from hall 4 (by decide)), (show lst listed 5 = true from hall 5 (by decide)), (show lst listed 6 = true from hall 6 (by decide)), (show lst listed 7 = true from hall 7 (by decide)), (show lst listed 8 = true from hall 8 (by decide)), (show lst listed 9 = true from hall 9 (by decide)), (show lst listed 10 = true from hall 10 (by decide)), (show lst listed 11 = true from hall 11 (by decide)), (show lst listed 12 = true from hall 12 (by decide)), (show lst listed 13 = true from hall 13 (by decide)), (show lst listed 14 = true from hall 14 (by decide)), (show lst listed 15 = true from hall 15 (by decide)), iv_true]
      clear hmf hall hs hr
      go_wp2_with fail
      go_ret
      exact ⟨by rw [HC.out]; rfl, HB0.out.trans (HB.out.mono HB0.out.size)⟩

end Go.Proofs.YtjokpfgncmdomaaGreatDoor

/- right ratios are those of their numbers: plain; Add, Sub, Mul, Div of right ratios -/
namespace Go.Proofs.YtjokpfgncmdomaaGreatDoor
open Go.RowKit Go.Sort
theorem topB_lim {N : Nat} (h0 : N ≠ 0) (h : (lim N).length ≤ 256) : topB (lim N) = true := by
  have hne := lim_pos h0
  unfold topB
  simp only [Bool.and_eq_true, decide_eq_true_eq]
  refine ⟨⟨List.length_pos_iff.2 hne, h⟩, fun e => ?_⟩
  rw [List.getLast?_eq_some_getLast hne] at e
  exact (lim_isLim N).2 hne (Option.some.inj e)
theorem rv_right {q : Rat} (h : fits q) : rightB (rv q) = true := by
  unfold rightB rv
  simp only
  by_cases h0 : q.num = 0
  · have hq0 : q = 0 := (Rat.num_divInt_den q).symm.trans (by rw [h0, Rat.zero_divInt])
    subst hq0
    decide
  · have n0 : q.num.natAbs ≠ 0 := by omega
    rw [if_neg (fun e => n0 (lim_len_zero.1 e))]
    simp only [Bool.and_eq_true, decide_eq_true_eq]
    refine ⟨⟨topB_lim n0 h.1, topB_lim q.den_nz h.2⟩, ?_⟩
    rw [ln_dig, ln_dig]
    exact q.reduced
theorem fits_len {q : Rat} (h : fits q) : (rv q).num.length ≤ 1000 ∧ (rv q).den.length ≤ 1000 := ⟨Nat.le_trans h.1 (by omega), Nat.le_trans h.2 (by omega)⟩
/-- a right ratio of that number -/
def At (w : World) (v : Value) (q : Rat) : Prop := RAt w v (rv q) ∧ fits q
theorem At.below {w w' : World} {v : Value} {q : Rat} (h : At w v q) (hb : Below w.heap.size w w') : At w' v q := ⟨h.1.below hb, h.2⟩
theorem told_at {w w' : World} {q : Rat} {e : Ending} (h : Told w q e w') (hf : fits q) : ∃ v, e = .returned (.tuple #[v, .int .i64 0]) ∧ At w' v q ∧ Below w.heap.size w w' := by
  obtain ⟨v, h1, h2, h3⟩ := h
  rw [toldE, if_pos hf] at h1
  rw [toldR, if_pos hf] at h2
  exact ⟨v, h1, ⟨h2, hf⟩, h3⟩
theorem both_right {x y : Rat} (hx : fits x) (hy : fits y) : rightB (rv x) = true ∧ rightB (rv y) = true := ⟨rv_right hx, rv_right hy⟩
theorem bin_told {x y q : Rat} {w w' : World} {e : Ending} (hx : fits x) (hy : fits y) (h : BinPost (rv x) (rv y) q w e w') : Told w q e w' := by
  unfold BinPost at h
  rwa [if_pos (both_right hx hy)] at h
theorem addQ (va vb : Value) (x y : Rat) (w : World) (ha : At w va x) (hb : At w vb y) : Calls Tryz.prog 21 #[va, vb] w (Told w (x + y)) := by
  have l1 := fits_len ha.2
  have l2 := fits_len hb.2
  refine (add_ratio va vb (rv x) (rv y) w ha.1 hb.1 (by omega) (by omega) (by omega) (by omega)).mono fun e w' h => ?_
  rw [rv_q, rv_q] at h
  exact bin_told ha.2 hb.2 h
end Go.Proofs.YtjokpfgncmdomaaGreatDoor

/- ratio.Cmp, girderkit.SameRatio: the walks -/
namespace Go.Proofs.YtjokpfgncmdomaaGreatDoor
open Go.RowKit Go.Sort

def CmpPost (a b : RV) (w : World) (e : Ending) (w' : World) : Prop := (if rightB a = true ∧ rightB b = true then e = .returned (.tuple #[.int .i64 (cmpQ a.q b.q), .int .i64 0]) else e = .returned (.tuple #[.int .i64 0, .int .i64 2])) ∧ Below w.heap.size w w'

set_option maxRecDepth 100000 in
set_option maxHeartbeats 4000000 in
theorem cmp_ratio (va vb : Value) (a b : RV) (w : World) (ha : RAt w va a) (hb : RAt w vb b) (l1 : a.num.length ≤ 1000000000000000) (l2 : a.den.length ≤ 1000000000000000) (l3 : b.num.length ≤ 1000000000000000) (l4 : b.den.length ≤ 1000000000000000) :
    Calls Tryz.prog 18 #[va, vb] w (CmpPost a b w) := by
  have HA := Lib.hid ha
  have HB := Lib.hid hb
  have hA1 : ∃ s A n c A' n' c', va = .agg #[.bool s, .slice A n c, .slice A' n' c'] := by obtain ⟨A, n, c, A', n', c', h, _⟩ := ha; exact ⟨_, _, _, _, _, _, _, h⟩
  have hB1 : ∃ s A n c A' n' c', vb = .agg #[.bool s, .slice A n c, .slice A' n' c'] := by obtain ⟨A, n, c, A', n', c', h, _⟩ := hb; exact ⟨_, _, _, _, _, _, _, h⟩
  obtain ⟨s, A, n, c, A', n', c', rfl⟩ := hA1
  obtain ⟨s2, A2, n2, c2, A2', n2', c2', rfl⟩ := hB1
  clear ha hb
  go_enter Tryz.func18, Tryz.ntmps18
  go_wp2_with fail
  refine (both_ratio _ _ a b _ (HA.out.below (below2 ..)) (HB.out.below (below2 ..)) l1 l2 l3 l4).mono ?_
  rintro e w1 ⟨hp, hb1⟩
  have HB1 := Lib.hid ((below2 w _ _).trans (hb1.mono (by simp; omega)))
  clear hb1
  by_cases hr : rightB a = true ∧ rightB b = true
  · rw [if_pos hr] at hp
    obtain ⟨g1, g2, rfl, hg1, hg2, hr1, hr2⟩ := hp
    have SA := Lib.hid (sz_right hr.1 HA.out.ldsN HA.out.ldsD)
    have SB := Lib.hid (sz_right hr.2 HB.out.ldsN HB.out.ldsD)
    have HRR := Lib.hid hr
    have HR1 := Lib.hid hr1
    have HR2 := Lib.hid hr2
    clear hr hr1 hr2
    go_wp2_with fail
    refine (cmp_rat g1 g2 a.q b.q w1 HR1.out HR2.out (by have := SA.out.1; omega) (by have := SA.out.2; omega) (by have := SB.out.1; omega) (by have := SB.out.2; omega)).mono ?_
    rintro e w2 ⟨rfl, hb2⟩
    have HB2 := Lib.hid (HB1.out.trans (hb2.mono HB1.out.size))
    clear hb2
    go_wp2_with fail
    go_ret2
    unfold CmpPost
    rw [if_pos HRR.out]
    exact ⟨rfl, HB2.out⟩
  · rw [if_neg hr] at hp
    subst hp
    have HRR := Lib.hid hr
    clear hr
    go_wp2_with fail
    go_ret2
    unfold CmpPost
    rw [if_neg HRR.out]
    exact ⟨rfl, HB1.out⟩

set_option maxRecDepth 100000 in
set_option maxHeartbeats 4000000 in
theorem same_ratio (va vb : Value) (a b : RV) (w : World) (ha : RAt w va a) (hb : RAt w vb b) (l1 : a.num.length ≤ 1000000000000000) (l2 : a.den.length ≤ 1000000000000000) (l3 : b.num.length ≤ 1000000000000000) (l4 : b.den.length ≤ 1000000000000000) :
    Calls Tryz.prog 14 #[va, vb] w fun e w' => e = .returned (.bool (decide (a = b))) ∧ Below w.heap.size w w' := by
  obtain ⟨s, xs, ys⟩ := a
  obtain ⟨s2, zs, ts⟩ := b
  obtain ⟨A, n, c, A', n', c', rfl, hx, hy, _, _⟩ := ha
  obtain ⟨A2, n2, c2, A2', n2', c2', rfl, hz, ht, _, _⟩ := hb
  simp only at hx hy hz ht l1 l2 l3 l4
  have en := hx.num
  have en' := hy.num
  have en2 := hz.num
  have en2' := ht.num
  have hn : n ≤ 1000000000000000 := by omega
  have hn' : n' ≤ 1000000000000000 := by omega
  have hn2 : n2 ≤ 1000000000000000 := by omega
  have hn2' : n2' ≤ 1000000000000000 := by omega
  have HX := Lib.hid hx
  have HY := Lib.hid hy
  have HZ := Lib.hid hz
  have HT := Lib.hid ht
  clear hx hy hz ht l1 l2 l3 l4 en en' en2 en2'
  have hp := pair_cells w s s2 A A' A2 A2' n n' n2 n2' c c' c2 c2'
  obtain ⟨ka0, ka1, ka2, kb0, kb1, kb2⟩ := hp
  have K := Lib.hid (And.intro ka2 kb2)
  by_cases h0 : s = s2
  · subst h0
    have e0 : (s == s) = true := by simp
    go_enter Tryz.func14, Tryz.ntmps14
    go_wp2_with fail
    refine (same_limbs A A2 n n2 c c2 xs zs _ _ _ (HX.out.belowL (below2 ..)) (HZ.out.belowL (below2 ..)) hn hn2).mono ?_
    rintro e w1 ⟨rfl, hb1⟩
    have q2 := bat hb1 K.out.1
    have q3 := bat hb1 K.out.2
    have HB1 := Lib.hid ((below2 w _ _).trans (hb1.mono (by simp; omega)))
    clear hb1 ka0 ka1 ka2 kb0 kb1 kb2
    by_cases h1 : xs = zs
    · have HE := Lib.hid h1
      rw [decide_eq_true h1]
      clear h1
      go_wp2_with fail
      refine (same_limbs A' A2' n' n2' c' c2' ys ts _ _ w1 (HY.out.belowL HB1.out) (HT.out.belowL HB1.out) hn' hn2').mono ?_
      rintro e w2 ⟨rfl, hb2⟩
      have HB2 := Lib.hid (HB1.out.trans (hb2.mono HB1.out.size))
      clear hb2
      obtain ⟨d, hd⟩ : ∃ d, d = decide (ys = ts) := ⟨_, rfl⟩
      rw [← hd]
      have HD := Lib.hid hd
      clear hd
      go_wp2_with fail
      go_ret
      refine ⟨?_, HB2.out⟩
      have h1 := HE.out
      subst h1
      show Ending.returned (.bool d) = _
      rw [HD.out]
      simp
    · have HE := Lib.hid h1
      rw [decide_eq_false h1]
      clear h1
      go_wp2_with fail
      go_ret
      refine ⟨?_, HB1.out⟩
      rw [decide_eq_false (fun e => HE.out (congrArg RV.num e))]
      rfl
  · have e0 : (s == s2) = false := by simp [h0]
    have HE := Lib.hid h0
    clear h0
    go_enter Tryz.func14, Tryz.ntmps14
    go_wp2_with fail
    go_ret
    refine ⟨?_, below2 ..⟩
    show Ending.returned (.bool false) = _
    simp [HE.out]

end Go.Proofs.YtjokpfgncmdomaaGreatDoor

/- the laws' helpers: small, is, known, like: the walks -/
namespace Go.Proofs.YtjokpfgncmdomaaGreatDoor
open Go.RowKit Go.Sort

theorem norm_below {r : RV} {w w' : World} {e : Ending} (h : NormPost r w e w') : Below w.heap.size w w' := by
  unfold NormPost at h
  split at h
  · obtain ⟨_, _, _, h⟩ := h; exact h
  · obtain ⟨_, _, _, h⟩ := h; exact h

theorem norm_cases {r : RV} {w w' : World} {e : Ending} (h : NormPost r w e w') : ∃ v k r', e = .returned (.tuple #[v, .int .i64 k]) ∧ RAt w' v r' ∧ ((k = 0 → ∃ q, r' = rv q ∧ fits q) ∧ True) := by
  unfold NormPost at h
  split at h
  · obtain ⟨v, h1, h2, h3⟩ := h
    exact ⟨v, 7, noR, h1, h2, fun h => absurd h (by decide), trivial⟩
  · obtain ⟨v, h1, h2, h3⟩ := h
    refine ⟨v, _, _, h1, h2, fun h => ?_, trivial⟩
    unfold toldE at h
    unfold toldR
    by_cases hf : fits r.q
    · rw [if_pos hf]; exact ⟨_, rfl, hf⟩
    · rw [if_neg hf] at h; cases h

set_option maxRecDepth 100000 in
set_option maxHeartbeats 4000000 in
theorem small_law (s : Bool) (n d : Nat) (w : World) (hn : n < W64) (hd : d < W64) :
    Calls Tryz.prog 46 #[.bool s, .int .u64 (n : Int), .int .u64 (d : Int)] w fun e w' => ∃ v, e = .returned v ∧ RAt w' v ⟨s, [n], [d]⟩ ∧ Below w.heap.size w w' := by
  go_enter Tryz.func46, Tryz.ntmps46
  go_wp2_with fail
  (try simp only [Exit.inBlock, Exit.then])
  have k := bat (below2 (w.alloc (.cells #[.bool s, .slice (some ⟨w.heap.size + 1, 0, none⟩) 1 1, .slice (some ⟨w.heap.size + 1 + 1, 0, none⟩) 1 1] 24)) (.cells #[.int .u64 (n : Int)] 58) (.cells #[.int .u64 (d : Int)] 58)) (new_cell w #[.bool s, .slice (some ⟨w.heap.size + 1, 0, none⟩) 1 1, .slice (some ⟨w.heap.size + 1 + 1, 0, none⟩) 1 1] 24 0 _ rfl)
  have k1 := bat (below2 (w.alloc (.cells #[.bool s, .slice (some ⟨w.heap.size + 1, 0, none⟩) 1 1, .slice (some ⟨w.heap.size + 1 + 1, 0, none⟩) 1 1] 24)) (.cells #[.int .u64 (n : Int)] 58) (.cells #[.int .u64 (d : Int)] 58)) (new_cell w #[.bool s, .slice (some ⟨w.heap.size + 1, 0, none⟩) 1 1, .slice (some ⟨w.heap.size + 1 + 1, 0, none⟩) 1 1] 24 1 _ rfl)
  have k2 := bat (below2 (w.alloc (.cells #[.bool s, .slice (some ⟨w.heap.size + 1, 0, none⟩) 1 1, .slice (some ⟨w.heap.size + 1 + 1, 0, none⟩) 1 1] 24)) (.cells #[.int .u64 (n : Int)] 58) (.cells #[.int .u64 (d : Int)] 58)) (new_cell w #[.bool s, .slice (some ⟨w.heap.size + 1, 0, none⟩) 1 1, .slice (some ⟨w.heap.size + 1 + 1, 0, none⟩) 1 1] 24 2 _ rfl)
  refine bodyPost_ret (v := .agg #[.bool s, .slice (some ⟨w.heap.size + 1, 0, none⟩) 1 1, .slice (some ⟨w.heap.size + 1 + 1, 0, none⟩) 1 1]) (by simp [results, Tryz.results46, go_sem, k, k1, k2]; done) rfl ?_
  refine ⟨_, rfl, ⟨_, _, _, _, _, _, rfl, ?_, ?_, fun x hx => ?_, fun x hx => ?_⟩, below3 ..⟩
  · refine RdE.belowL (w := (w.alloc _).alloc _) ?_ (below1 ..)
    exact rde_blk (blk2 w _ _ _) rfl (by simp) rfl rfl
  · exact rde_blk (blk3 w _ _ _ _) rfl (by simp) rfl rfl
  · simp at hx; omega
  · simp at hx; omega

set_option maxRecDepth 100000 in
set_option maxHeartbeats 4000000 in
theorem is_law (va vb : Value) (e f : Int) (a b : RV) (w : World) (ha : RAt w va a) (hb : RAt w vb b) (l1 : a.num.length ≤ 1000000000000000) (l2 : a.den.length ≤ 1000000000000000) (l3 : b.num.length ≤ 1000000000000000) (l4 : b.den.length ≤ 1000000000000000) :
    Calls Tryz.prog 28 #[va, .int .i64 e, vb, .int .i64 f] w fun r w' => r = .returned (.bool (decide (e = f) && decide (a = b))) ∧ Below w.heap.size w w' := by
  have HA := Lib.hid ha
  have HB := Lib.hid hb
  have hA1 : ∃ s A n c A' n' c', va = .agg #[.bool s, .slice A n c, .slice A' n' c'] := by obtain ⟨A, n, c, A', n', c', h, _⟩ := ha; exact ⟨_, _, _, _, _, _, _, h⟩
  have hB1 : ∃ s A n c A' n' c', vb = .agg #[.bool s, .slice A n c, .slice A' n' c'] := by obtain ⟨A, n, c, A', n', c', h, _⟩ := hb; exact ⟨_, _, _, _, _, _, _, h⟩
  obtain ⟨s, A, n, c, A', n', c', rfl⟩ := hA1
  obtain ⟨s2, A2, n2, c2, A2', n2', c2', rfl⟩ := hB1
  clear ha hb
  by_cases h0 : e = f
  · subst h0
    have e0 : (e == e) = true := by simp
    go_enter Tryz.func28, Tryz.ntmps28
    go_wp2_with fail
    refine (same_ratio _ _ a b _ (HA.out.below (below2 ..)) (HB.out.below (below2 ..)) l1 l2 l3 l4).mono ?_
    rintro e w1 ⟨rfl, hb1⟩
    have HB1 := Lib.hid ((below2 w _ _).trans (hb1.mono (by simp; omega)))
    clear hb1
    go_wp2_with fail
    go_ret
    refine ⟨?_, HB1.out⟩
    show Ending.returned (.bool (decide (a = b))) = _
    simp
  · have e0 : (e == f) = false := by simp [h0]
    have HE := Lib.hid h0
    clear h0
    go_enter Tryz.func28, Tryz.ntmps28
    go_wp2_with fail
    go_ret
    refine ⟨?_, below2 ..⟩
    show Ending.returned (.bool false) = _
    simp [HE.out]

set_option maxRecDepth 100000 in
set_option maxHeartbeats 4000000 in
theorem known_law (v : Value) (r : RV) (w : World) (hr : RAt w v r) (l1 : r.num.length ≤ 1000) (l2 : r.den.length ≤ 1000) :
    Calls Tryz.prog 17 #[v] w fun e w' => ∃ v' q, e = .returned v' ∧ At w' v' q ∧ Below w.heap.size w w' := by
  have HR := Lib.hid hr
  have hA1 : ∃ s A n c A' n' c', v = .agg #[.bool s, .slice A n c, .slice A' n' c'] := by obtain ⟨A, n, c, A', n', c', h, _⟩ := hr; exact ⟨_, _, _, _, _, _, _, h⟩
  obtain ⟨s, A, n, c, A', n', c', rfl⟩ := hA1
  clear hr
  go_enter Tryz.func17, Tryz.ntmps17
  go_wp2_with fail
  refine (norm_ratio _ r _ (HR.out.below (below2 ..)) l1 l2).mono ?_
  rintro e w1 hp
  have hbn : Below w.heap.size w w1 ∧ w.heap.size + 2 ≤ w1.heap.size ∧ w1.heap[w.heap.size + 1]? = some (.cells #[.bool false, .slice none 0 0, .slice none 0 0] 24 (0, 0)) := by
    have hb := norm_below hp
    refine ⟨(below2 w _ _).trans (hb.mono (by simp; omega)), by have := hb.size; simp at this; omega, ?_⟩
    rw [hb.block (w.heap.size + 1) (by simp)]
    exact blk2 w _ _ _
  obtain ⟨hb1, z1, hblk⟩ := hbn
  have HB1 := Lib.hid hb1
  clear hb1
  obtain ⟨v, k, r', rfl, hv, hk⟩ := norm_cases hp
  have HV := Lib.hid hv
  obtain ⟨s', B, m, d, B', m', d', rfl⟩ : ∃ s A n c A' n' c', v = .agg #[.bool s, .slice A n c, .slice A' n' c'] := by obtain ⟨A, n, c, A', n', c', h, _⟩ := hv; exact ⟨_, _, _, _, _, _, _, h⟩
  have HK := Lib.hid hk
  have HBL := Lib.hid hblk
  clear hp hv hk hblk
  obtain ⟨w2, hw2⟩ : ∃ w2, w2 = w1.alloc (.cells #[.bool s', .slice B m d, .slice B' m' d'] 24) := ⟨_, rfl⟩
  have HW2 := Lib.hid hw2
  have HB2 := Lib.hid (show Below w1.heap.size w1 w2 by rw [hw2]; exact below1 ..)
  clear hw2
  by_cases h0 : k = 0
  · subst h0
    obtain ⟨q, rfl, hq⟩ := HK.out.1 rfl
    obtain ⟨kc, kf⟩ := blk_cells ((HB2.out.block _ (by omega)).trans HBL.out)
    rw [HW2.out] at kc kf
    have kc0 := kc 0
    have kc1 := kc 1
    have kc2 := kc 2
    have kf0 := kf 0
    have kf1 := kf 1
    have kf2 := kf 2
    simp only [List.getElem?_toArray, List.getElem?_cons_zero, List.getElem?_cons_succ] at kc0 kc1 kc2
    have HQ := Lib.hid hq
    clear kc kf hq
    go_wp2_with fail
    rw [← HW2.out] at kc0 kc1 kc2 ⊢
    obtain ⟨w6, hw6⟩ : ∃ w6, w6 = ((w2.setCell ⟨w.heap.size + 1, 0, none⟩ (.bool s')).setCell ⟨w.heap.size + 1, 1, none⟩ (.slice B m d)).setCell ⟨w.heap.size + 1, 2, none⟩ (.slice B' m' d') := ⟨_, rfl⟩
    obtain ⟨hu6, q0, q1, q2⟩ := rat_set kc0 kc1 kc2 _ _ _ _ _ _ _ _ hw6
    rw [← hw6]
    (try simp only [Exit.inBlock, Exit.then])
    refine bodyPost_ret (v := .agg #[.bool s', .slice B m d, .slice B' m' d']) (by simp [results, Tryz.results17, go_sem, q0, q1, q2]; done) rfl ?_
    have z2 := HB2.out.size
    exact ⟨_, q, rfl, ⟨(HV.out.below HB2.out).upb hu6, HQ.out⟩, (HB1.out.trans (HB2.out.mono HB1.out.size)).trans (hu6.below (by omega) (by omega))⟩
  · have e0 : (k != 0) = true := by simp [h0]
    clear h0
    go_wp2_with fail
    refine (int_ratio 1 _ (by omega) (by omega)).mono ?_
    rw [← HW2.out]
    rintro e w3 ⟨v3, rfl, hv3, hb3⟩
    obtain ⟨s3, B3, m3, d3, B3', m3', d3', rfl⟩ : ∃ s A n c A' n' c', v3 = .agg #[.bool s, .slice A n c, .slice A' n' c'] := by obtain ⟨A, n, c, A', n', c', h, _⟩ := hv3; exact ⟨_, _, _, _, _, _, _, h⟩
    have HV3 := Lib.hid hv3
    have HB3 := Lib.hid hb3
    have z2 := HB2.out.size
    have z3 := hb3.size
    obtain ⟨kc, kf⟩ := blk_cells ((hb3.block _ (by omega)).trans ((HB2.out.block _ (by omega)).trans HBL.out))
    have kc0 := kc 0
    have kc1 := kc 1
    have kc2 := kc 2
    have kf0 := kf 0
    have kf1 := kf 1
    have kf2 := kf 2
    simp only [List.getElem?_toArray, List.getElem?_cons_zero, List.getElem?_cons_succ] at kc0 kc1 kc2
    clear kc kf hv3 hb3
    go_wp2_with fail
    obtain ⟨w6, hw6⟩ : ∃ w6, w6 = ((w3.setCell ⟨w.heap.size + 1, 0, none⟩ (.bool s3)).setCell ⟨w.heap.size + 1, 1, none⟩ (.slice B3 m3 d3)).setCell ⟨w.heap.size + 1, 2, none⟩ (.slice B3' m3' d3') := ⟨_, rfl⟩
    obtain ⟨hu6, q0, q1, q2⟩ := rat_set kc0 kc1 kc2 _ _ _ _ _ _ _ _ hw6
    rw [← hw6]
    (try simp only [Exit.inBlock, Exit.then])
    refine bodyPost_ret (v := .agg #[.bool s3, .slice B3 m3 d3, .slice B3' m3' d3']) (by simp [results, Tryz.results17, go_sem, q0, q1, q2]; done) rfl ?_
    exact ⟨_, _, rfl, ⟨HV3.out.upb hu6, fits_int (by omega) (by omega)⟩, ((HB1.out.trans (HB2.out.mono HB1.out.size)).trans (HB3.out.mono (by omega))).trans (hu6.below (by omega) (by omega))⟩

end Go.Proofs.YtjokpfgncmdomaaGreatDoor

/- the laws' helper like: the walk -/
namespace Go.Proofs.YtjokpfgncmdomaaGreatDoor
open Go.RowKit Go.Sort
end Go.Proofs.YtjokpfgncmdomaaGreatDoor
