import Derived.Test.YtfepmbpcdfdlhaaX06
set_option linter.unusedSimpArgs false
set_option linter.unusedVariables false
/- And, Or (numbers not below 0): the walks (printed by wip/Int/gen_i11.py) -/
namespace Go.Proofs.Ytfepmbpcdfdlhaa
open Go.RowKit Go.Sort

theorem zip_step {f : Nat → Nat → Nat} {xs ys zs : List Nat} {k r q v : Nat} (h : ∀ (j p q r : Nat), xs[j]? = some p → ys[j]? = some q → zs[j]? = some r → r = if j < k then f p q else p) (hp : xs[k]? = some r) (hq : ys[k]? = some q) (hv : v = f r q) :
    ∀ (j p q r : Nat), xs[j]? = some p → ys[j]? = some q → (zs.set k v)[j]? = some r → r = if j < k + 1 then f p q else p := by
  intro j p' q' r' h1 h2 h3
  by_cases e : j = k
  · subst e
    have hl : j < zs.length := by have := (List.getElem?_eq_some_iff.1 h3).1; simpa using this
    rw [List.getElem?_set_self hl] at h3
    injection h3 with h3
    rw [hp] at h1
    rw [hq] at h2
    injection h1 with h1
    injection h2 with h2
    rw [if_pos (by omega), ← h3, hv, h1, h2]
  · rw [List.getElem?_set_ne (by omega)] at h3
    rw [h j p' q' r' h1 h2 h3]
    by_cases hj : j < k
    · rw [if_pos hj, if_pos (by omega)]
    · rw [if_neg hj, if_neg (by omega)]

theorem get_zip_and {xs ys zs : List Nat} {n : Nat} (hx : xs.length = n) (hy : ys.length = n) (hz : zs.length = n) (h : ∀ (i x y z : Nat), xs[i]? = some x → ys[i]? = some y → zs[i]? = some z → z = x &&& y) : zs = List.zipWith (· &&& ·) xs ys := by
  apply List.ext_getElem?
  intro i
  by_cases hi : i < n
  · obtain ⟨x, hxi⟩ := get_some hx hi
    obtain ⟨y, hyi⟩ := get_some hy hi
    obtain ⟨z, hzi⟩ := get_some hz hi
    rw [List.getElem?_zipWith, hxi, hyi, hzi, h i x y z hxi hyi hzi]
  · rw [List.getElem?_eq_none (by omega), List.getElem?_eq_none (by rw [List.length_zipWith]; omega)]

set_option maxRecDepth 100000 in
set_option maxHeartbeats 4000000 in
theorem and_int (b o b1 o1 b2 o2 : Nat) (z x y : Int) (w : World) (hz : IntAt w b o z) (hx : IntAt w b1 o1 x) (hy : IntAt w b2 o2 y) (hx0 : 0 ≤ x) (hy0 : 0 ≤ y) (hl : (dig x.natAbs).length ≤ 10000000) (hl' : (dig y.natAbs).length ≤ 10000000) :
    Calls Try.prog 93 #[.pointer (some ⟨b, o, none⟩), .pointer (some ⟨b1, o1, none⟩), .pointer (some ⟨b2, o2, none⟩)] w fun e w' => e = .returned (.pointer (some ⟨b, o, none⟩)) ∧ IntAt w' b o ((x.natAbs &&& y.natAbs : Nat) : Int) ∧ Upd w w' b o := by
  have HX := Lib.hid hx
  have HY := Lib.hid hy
  have HZ := Lib.hid hz
  have hblt := hz.lt
  obtain ⟨A, n, c, s, HN, HS, h0, h1, hc, HR⟩ := hx.open
  rw [← HN.out] at hl
  obtain ⟨A', n', c', s', HN', HS', h0', h1', hc', HR'⟩ := hy.open
  rw [← HN'.out] at hl'
  clear hx hy hz
  rcases Nat.lt_trichotomy n n' with hc1 | hc1 | hc1
  · have hw1 : IntKind.i64.wrap ((n' : Int) + 1) = (n' : Int) + 1 := IntWalk.i64_in _ (by omega)
    go_enter Try.func93, Try.ntmps93
    go_wp2_with fail
    go_quiet (fail)
    clear hw1
    go_wp2_with fail
    refine (low_int b1 o1 (n' + 1) x _ (HX.out.below (below_drewN (Below.refl _ _) nq)) hx0 (by rw [← HN.out]; omega) (by omega)).mono ?_
    rintro e w1 ⟨rfl, ho1, hb1⟩
    have z1 := hb1.size
    have hs1 : w.heap.size < w1.heap.size := (ho1.lt w.heap.size rfl).2
    have HO1 := Lib.hid ho1
    have HB1 : Hid (Below w.heap.size w w1) := Lib.hid ((below_drewN (Below.refl w.heap.size w) nq).trans hb1)
    clear ho1 hb1
    go_wp2_with fail
    refine (low_int b2 o2 (n' + 1) y _ (HY.out.below HB1.out) hy0 (by rw [← HN'.out]; omega) (by omega)).mono ?_
    rintro e w2 ⟨rfl, ho2, hb2⟩
    have z2 := hb2.size
    have HO2 := Lib.hid ho2
    have HO1b := Lib.hid (own_below HO1.out hb2)
    have HB2 : Hid (Below w.heap.size w w2) := Lib.hid (below_then HB1.out hb2)
    clear ho2 hb2
    obtain ⟨xs, hxs⟩ : ∃ xs, xs = padded x.natAbs (n' + 1) := ⟨_, rfl⟩
    obtain ⟨ys, hys⟩ : ∃ ys, ys = padded y.natAbs (n' + 1) := ⟨_, rfl⟩
    have hxl : xs.length = n' + 1 := by rw [hxs]; exact padded_len (by rw [← HN.out]; omega)
    have hyl : ys.length = n' + 1 := by rw [hys]; exact padded_len (by rw [← HN'.out]; omega)
    have hxw : Wds xs := by rw [hxs]; exact padded_wds _ _
    have hyw : Wds ys := by rw [hys]; exact padded_wds _ _
    have hxn : nv xs = x.natAbs := by rw [hxs]; exact padded_nv _ _
    have hyn : nv ys = y.natAbs := by rw [hys]; exact padded_nv _ _
    have hxz : ∀ v, xs[n']? = some v → v = 0 := fun v h => by rw [hxs] at h; exact padded_zero (by rw [← HN.out]; omega) h
    have hyz : ∀ v, ys[n']? = some v → v = 0 := fun v h => by rw [hys] at h; exact padded_zero (by rw [← HN'.out]; omega) h
    have HO1c : Hid (w2.ownsRow w.heap.size 135 1 (.slice (some ⟨w.heap.size, 0, none⟩) (n' + 1) (n' + 1)) (n' + 1) (xs.flatMap Wc)) := Lib.hid (by rw [hxs]; exact HO1b.out)
    have HO2c : Hid (w2.ownsRow w1.heap.size 135 1 (.slice (some ⟨w1.heap.size, 0, none⟩) (n' + 1) (n' + 1)) (n' + 1) (ys.flatMap Wc)) := Lib.hid (by rw [hys]; exact HO2.out)
    have HXW := Lib.hid hxw
    have HYW := Lib.hid hyw
    have HXN := Lib.hid hxn
    have HYN := Lib.hid hyn
    have HXZ := Lib.hid hxz
    have HYZ := Lib.hid hyz
    clear hxs hys hxw hyw hxn hyn hxz hyz HO1 HO2 HO1b
    go_wp2_with fail
    go_loopw [10] (fun iv wr => ∃ (k : Nat) (zs : List Nat), k ≤ n' + 1 ∧ iv = .int .i64 k ∧ zs.length = n' + 1 ∧ Wds zs ∧ (∀ (j p q r : Nat), xs[j]? = some p → ys[j]? = some q → zs[j]? = some r → r = if j < k then p &&& q else p) ∧ wr.ownsRow w.heap.size 135 1 (.slice (some ⟨w.heap.size, 0, none⟩) (n' + 1) (n' + 1)) (n' + 1) (zs.flatMap Wc) ∧ wr.ownsRow w1.heap.size 135 1 (.slice (some ⟨w1.heap.size, 0, none⟩) (n' + 1) (n' + 1)) (n' + 1) (ys.flatMap Wc) ∧ Below w.heap.size w wr) (fun iv _ => n' + 1 - (intOf iv).toNat)
    case atStart => exact ⟨0, xs, Nat.zero_le _, rfl, hxl, HXW.out, fun j p q r h1 _ h3 => by rw [h1] at h3; injection h3 with h3; rw [← h3]; simp, HO1c.out, HO2c.out, HB2.out⟩
    case round =>
      obtain ⟨k, zs, hk, rfl, hzl, hzw, hrel', hou, hov, hbw⟩ := hrel
      have HOU := Lib.hid hou
      have HOV := Lib.hid hov
      have HBW := Lib.hid hbw
      have HZW := Lib.hid hzw
      have HREL := Lib.hid hrel'
      clear hou hov hbw hzw hrel'
      by_cases hlt : k < n' + 1
      · have hlt' : (k : Int) < (n' : Int) + 1 := by omega
        have g1 : (0 : Int) ≤ (k : Int) := by omega
        obtain ⟨p, hp⟩ := get_some hxl hlt
        obtain ⟨q, hq⟩ := get_some hyl hlt
        obtain ⟨r, hr⟩ := get_some hzl hlt
        obtain rfl : r = p := by have h := HREL.out k p q r hp hq hr; simpa using h
        have lp := hw0 HZW.out hr
        have lq := hw0 HYW.out hq
        have q1 := own_wc HOU.out hr
        have q2 := own_wc HOV.out hq
        have hf := HOU.out.frozenAt k
        have hbits : bits .and .u32 (r : Int) (q : Int) = ((r &&& q : Nat) : Int) := (bits_nat .u32 32 (by decide) wraps_u32 r q lp lq).1
        have hlr : r &&& q < W32 := Nat.lt_of_le_of_lt Nat.and_le_left lp
        have HP := Lib.hid hp
        have HQ := Lib.hid hq
        have HR9 := Lib.hid hr
        clear hp hq hr
        go_wp2_with fail
        refine wp_region_G (S := (fun w' => w'.cell? ⟨w.heap.size, k, none⟩ = some (.int .u32 (r : Int)) ∧ w'.cell? ⟨w1.heap.size, k, none⟩ = some (.int .u32 (q : Int)))) 10 (by kernel_rfl) ?_ (fun hHeld => ?_)
        · first | exact True.intro | ((try dsimp only); go_keep)
        refine tkG (i := 0) (v := ?_) rfl (by kernel_rfl) (Or.inl ⟨by kernel_rfl, ?_⟩) (by assumption) ?_
        rotate_left 1
        · (intro w hSw; (try dsimp only at hSw); go_simp; try with_reducible rfl)
        try simp only [lyA, lyB, lyC, Act.put, lyD, lyE, lyF]
        refine tkG (i := 1) (v := ?_) rfl (by kernel_rfl) (Or.inl ⟨by kernel_rfl, ?_⟩) (by assumption) ?_
        rotate_left 1
        · (intro w hSw; (try dsimp only at hSw); go_simp; try with_reducible rfl)
        try simp only [lyA, lyB, lyC, Act.put, lyD, lyE, lyF]
        refine tkG (i := 2) (v := ?_) rfl (by kernel_rfl) (Or.inl ⟨by kernel_rfl, ?_⟩) (by assumption) ?_
        rotate_left 1
        · (intro w hSw; (try dsimp only at hSw); go_simp; try with_reducible rfl)
        try simp only [lyA, lyB, lyC, Act.put, lyD, lyE, lyF]
        refine tkG (i := 3) (v := ?_) rfl (by kernel_rfl) (Or.inl ⟨by kernel_rfl, ?_⟩) (by assumption) ?_
        rotate_left 1
        · (intro w hSw; (try dsimp only at hSw); go_simp; try with_reducible rfl)
        try simp only [lyA, lyB, lyC, Act.put, lyD, lyE, lyF]
        refine tkG (i := 4) (v := ?_) rfl (by kernel_rfl) (Or.inl ⟨by kernel_rfl, ?_⟩) (by assumption) ?_
        rotate_left 1
        · (intro w hSw; (try dsimp only at hSw); go_simp; try with_reducible rfl)
        try simp only [lyA, lyB, lyC, Act.put, lyD, lyE, lyF]
        refine tkG (i := 5) (v := ?_) rfl (by kernel_rfl) (Or.inl ⟨by kernel_rfl, ?_⟩) (by assumption) ?_
        rotate_left 1
        · (intro w hSw; (try dsimp only at hSw); go_simp; try with_reducible rfl)
        try simp only [lyA, lyB, lyC, Act.put, lyD, lyE, lyF]
        refine tkG (i := 6) (v := ?_) rfl (by kernel_rfl) (Or.inl ⟨by kernel_rfl, ?_⟩) (by assumption) ?_
        rotate_left 1
        · (intro w hSw; (try dsimp only at hSw); go_simp; try with_reducible rfl)
        try simp only [lyA, lyB, lyC, Act.put, lyD, lyE, lyF]
        refine tkG (i := 7) (v := ?_) rfl (by kernel_rfl) (Or.inl ⟨by kernel_rfl, ?_⟩) (by assumption) ?_
        rotate_left 1
        · (intro w hSw; (try dsimp only at hSw); go_simp; try with_reducible rfl)
        try simp only [lyA, lyB, lyC, Act.put, lyD, lyE, lyF]
        refine tkG (i := 8) (v := ?_) rfl (by kernel_rfl) (Or.inl ⟨by kernel_rfl, ?_⟩) (by assumption) ?_
        rotate_left 1
        · (intro w hSw; (try dsimp only at hSw); go_simp; try with_reducible rfl)
        try simp only [lyA, lyB, lyC, Act.put, lyD, lyE, lyF]
        refine tkG (i := 9) (v := ?_) rfl (by kernel_rfl) (Or.inl ⟨by kernel_rfl, ?_⟩) (by assumption) ?_
        rotate_left 1
        · (intro w hSw; (try dsimp only at hSw); go_simp; try with_reducible rfl)
        try simp only [lyA, lyB, lyC, Act.put, lyD, lyE, lyF]
        refine wpAnyG_one (i := 10) (by kernel_rfl) rfl (fun K hK => ?_)
        go_simp
        refine hK.out _ _ ?_ (fun hHeld => ?_)
        · exact .inr (by kernel_rfl)
        clear hK K
        try simp only [lyA, lyB, lyC, Act.put, lyD, lyE, lyF]
        refine wpAnyG_done (by kernel_rfl) ?_ _
        go_wp2_with fail
        have ho1 := own_set_wc (own_drewN HOU.out 1) (i := k) (by omega) (r &&& q)
        have hv1 := (own_drewN HOV.out 1).kept ho1.2 (.inr (by simp only [Value.ownBlock]; intro e; injection e with e; omega))
        have hb1 := (below_drewN HBW.out 1).grown ho1.2 (Nat.le_of_lt (HOU.out.lt w.heap.size rfl).2) (fun g hg => by injection hg with hg; omega)
        exact ⟨⟨k + 1, zs.set k (r &&& q), by omega, by go_num, by simp [hzl], wds_set HZW.out hlr, zip_step (f := fun p q => p &&& q) HREL.out HP.out HQ.out rfl, ho1.1, hv1, hb1⟩, by simp [intOf]; omega⟩
      · obtain rfl : n' + 1 = k := by omega
        have hzip : zs = List.zipWith (· &&& ·) xs ys := get_zip_and hxl hyl hzl fun i p q r h1 h2 h3 => by
          have h := HREL.out i p q r h1 h2 h3
          rw [if_pos (by have := (List.getElem?_eq_some_iff.1 h1).1; omega)] at h
          exact h
        have hval : nv zs = x.natAbs &&& y.natAbs := by rw [hzip, nv_and xs ys (by omega) HXW.out HYW.out, HXN.out, HYN.out]
        obtain ⟨p, hp⟩ := get_some hxl (show n' < n' + 1 by omega)
        obtain ⟨q, hq⟩ := get_some hyl (show n' < n' + 1 by omega)
        obtain ⟨r, hr⟩ := get_some hzl (show n' < n' + 1 by omega)
        have hr0 : r = 0 := by
          have h := HREL.out n' p q r hp hq hr
          rw [HXZ.out p hp, HYZ.out q hq] at h
          simpa using h
        subst hr0
        have HVAL := Lib.hid hval
        have HR9 := Lib.hid hr
        clear hzip hval hp hq hr
        go_wp2_with fail
        refine (of_int b o n' w.heap.size w.heap.size z zs _ (HZ.out.below (HBW.out)) HOU.out HZW.out HR9.out (by omega)).mono ?_
        rintro e w5 ⟨rfl, hi5, hu5⟩
        rw [HVAL.out] at hi5
        have HI5 := Lib.hid hi5
        have HU5 := Lib.hid hu5
        clear hi5 hu5
        go_wp2_with fail
        go_ret
        exact ⟨rfl, HI5.out, Upd.after HBW.out HU5.out hblt⟩
  · subst hc1
    have hw1 : IntKind.i64.wrap ((n : Int) + 1) = (n : Int) + 1 := IntWalk.i64_in _ (by omega)
    go_enter Try.func93, Try.ntmps93
    go_wp2_with fail
    go_quiet (fail)
    clear hw1
    go_wp2_with fail
    refine (low_int b1 o1 (n + 1) x _ (HX.out.below (below_drewN (Below.refl _ _) nq)) hx0 (by rw [← HN.out]; omega) (by omega)).mono ?_
    rintro e w1 ⟨rfl, ho1, hb1⟩
    have z1 := hb1.size
    have hs1 : w.heap.size < w1.heap.size := (ho1.lt w.heap.size rfl).2
    have HO1 := Lib.hid ho1
    have HB1 : Hid (Below w.heap.size w w1) := Lib.hid ((below_drewN (Below.refl w.heap.size w) nq).trans hb1)
    clear ho1 hb1
    go_wp2_with fail
    refine (low_int b2 o2 (n + 1) y _ (HY.out.below HB1.out) hy0 (by rw [← HN'.out]; omega) (by omega)).mono ?_
    rintro e w2 ⟨rfl, ho2, hb2⟩
    have z2 := hb2.size
    have HO2 := Lib.hid ho2
    have HO1b := Lib.hid (own_below HO1.out hb2)
    have HB2 : Hid (Below w.heap.size w w2) := Lib.hid (below_then HB1.out hb2)
    clear ho2 hb2
    obtain ⟨xs, hxs⟩ : ∃ xs, xs = padded x.natAbs (n + 1) := ⟨_, rfl⟩
    obtain ⟨ys, hys⟩ : ∃ ys, ys = padded y.natAbs (n + 1) := ⟨_, rfl⟩
    have hxl : xs.length = n + 1 := by rw [hxs]; exact padded_len (by rw [← HN.out]; omega)
    have hyl : ys.length = n + 1 := by rw [hys]; exact padded_len (by rw [← HN'.out]; omega)
    have hxw : Wds xs := by rw [hxs]; exact padded_wds _ _
    have hyw : Wds ys := by rw [hys]; exact padded_wds _ _
    have hxn : nv xs = x.natAbs := by rw [hxs]; exact padded_nv _ _
    have hyn : nv ys = y.natAbs := by rw [hys]; exact padded_nv _ _
    have hxz : ∀ v, xs[n]? = some v → v = 0 := fun v h => by rw [hxs] at h; exact padded_zero (by rw [← HN.out]; omega) h
    have hyz : ∀ v, ys[n]? = some v → v = 0 := fun v h => by rw [hys] at h; exact padded_zero (by rw [← HN'.out]; omega) h
    have HO1c : Hid (w2.ownsRow w.heap.size 135 1 (.slice (some ⟨w.heap.size, 0, none⟩) (n + 1) (n + 1)) (n + 1) (xs.flatMap Wc)) := Lib.hid (by rw [hxs]; exact HO1b.out)
    have HO2c : Hid (w2.ownsRow w1.heap.size 135 1 (.slice (some ⟨w1.heap.size, 0, none⟩) (n + 1) (n + 1)) (n + 1) (ys.flatMap Wc)) := Lib.hid (by rw [hys]; exact HO2.out)
    have HXW := Lib.hid hxw
    have HYW := Lib.hid hyw
    have HXN := Lib.hid hxn
    have HYN := Lib.hid hyn
    have HXZ := Lib.hid hxz
    have HYZ := Lib.hid hyz
    clear hxs hys hxw hyw hxn hyn hxz hyz HO1 HO2 HO1b
    go_wp2_with fail
    go_loopw [10] (fun iv wr => ∃ (k : Nat) (zs : List Nat), k ≤ n + 1 ∧ iv = .int .i64 k ∧ zs.length = n + 1 ∧ Wds zs ∧ (∀ (j p q r : Nat), xs[j]? = some p → ys[j]? = some q → zs[j]? = some r → r = if j < k then p &&& q else p) ∧ wr.ownsRow w.heap.size 135 1 (.slice (some ⟨w.heap.size, 0, none⟩) (n + 1) (n + 1)) (n + 1) (zs.flatMap Wc) ∧ wr.ownsRow w1.heap.size 135 1 (.slice (some ⟨w1.heap.size, 0, none⟩) (n + 1) (n + 1)) (n + 1) (ys.flatMap Wc) ∧ Below w.heap.size w wr) (fun iv _ => n + 1 - (intOf iv).toNat)
    case atStart => exact ⟨0, xs, Nat.zero_le _, rfl, hxl, HXW.out, fun j p q r h1 _ h3 => by rw [h1] at h3; injection h3 with h3; rw [← h3]; simp, HO1c.out, HO2c.out, HB2.out⟩
    case round =>
      obtain ⟨k, zs, hk, rfl, hzl, hzw, hrel', hou, hov, hbw⟩ := hrel
      have HOU := Lib.hid hou
      have HOV := Lib.hid hov
      have HBW := Lib.hid hbw
      have HZW := Lib.hid hzw
      have HREL := Lib.hid hrel'
      clear hou hov hbw hzw hrel'
      by_cases hlt : k < n + 1
      · have hlt' : (k : Int) < (n : Int) + 1 := by omega
        have g1 : (0 : Int) ≤ (k : Int) := by omega
        obtain ⟨p, hp⟩ := get_some hxl hlt
        obtain ⟨q, hq⟩ := get_some hyl hlt
        obtain ⟨r, hr⟩ := get_some hzl hlt
        obtain rfl : r = p := by have h := HREL.out k p q r hp hq hr; simpa using h
        have lp := hw0 HZW.out hr
        have lq := hw0 HYW.out hq
        have q1 := own_wc HOU.out hr
        have q2 := own_wc HOV.out hq
        have hf := HOU.out.frozenAt k
        have hbits : bits .and .u32 (r : Int) (q : Int) = ((r &&& q : Nat) : Int) := (bits_nat .u32 32 (by decide) wraps_u32 r q lp lq).1
        have hlr : r &&& q < W32 := Nat.lt_of_le_of_lt Nat.and_le_left lp
        have HP := Lib.hid hp
        have HQ := Lib.hid hq
        have HR9 := Lib.hid hr
        clear hp hq hr
        go_wp2_with fail
        refine wp_region_G (S := (fun w' => w'.cell? ⟨w.heap.size, k, none⟩ = some (.int .u32 (r : Int)) ∧ w'.cell? ⟨w1.heap.size, k, none⟩ = some (.int .u32 (q : Int)))) 10 (by kernel_rfl) ?_ (fun hHeld => ?_)
        · first | exact True.intro | ((try dsimp only); go_keep)
        refine tkG (i := 0) (v := ?_) rfl (by kernel_rfl) (Or.inl ⟨by kernel_rfl, ?_⟩) (by assumption) ?_
        rotate_left 1
        · (intro w hSw; (try dsimp only at hSw); go_simp; try with_reducible rfl)
        try simp only [lyA, lyB, lyC, Act.put, lyD, lyE, lyF]
        refine tkG (i := 1) (v := ?_) rfl (by kernel_rfl) (Or.inl ⟨by kernel_rfl, ?_⟩) (by assumption) ?_
        rotate_left 1
        · (intro w hSw; (try dsimp only at hSw); go_simp; try with_reducible rfl)
        try simp only [lyA, lyB, lyC, Act.put, lyD, lyE, lyF]
        refine tkG (i := 2) (v := ?_) rfl (by kernel_rfl) (Or.inl ⟨by kernel_rfl, ?_⟩) (by assumption) ?_
        rotate_left 1
        · (intro w hSw; (try dsimp only at hSw); go_simp; try with_reducible rfl)
        try simp only [lyA, lyB, lyC, Act.put, lyD, lyE, lyF]
        refine tkG (i := 3) (v := ?_) rfl (by kernel_rfl) (Or.inl ⟨by kernel_rfl, ?_⟩) (by assumption) ?_
        rotate_left 1
        · (intro w hSw; (try dsimp only at hSw); go_simp; try with_reducible rfl)
        try simp only [lyA, lyB, lyC, Act.put, lyD, lyE, lyF]
        refine tkG (i := 4) (v := ?_) rfl (by kernel_rfl) (Or.inl ⟨by kernel_rfl, ?_⟩) (by assumption) ?_
        rotate_left 1
        · (intro w hSw; (try dsimp only at hSw); go_simp; try with_reducible rfl)
        try simp only [lyA, lyB, lyC, Act.put, lyD, lyE, lyF]
        refine tkG (i := 5) (v := ?_) rfl (by kernel_rfl) (Or.inl ⟨by kernel_rfl, ?_⟩) (by assumption) ?_
        rotate_left 1
        · (intro w hSw; (try dsimp only at hSw); go_simp; try with_reducible rfl)
        try simp only [lyA, lyB, lyC, Act.put, lyD, lyE, lyF]
        refine tkG (i := 6) (v := ?_) rfl (by kernel_rfl) (Or.inl ⟨by kernel_rfl, ?_⟩) (by assumption) ?_
        rotate_left 1
        · (intro w hSw; (try dsimp only at hSw); go_simp; try with_reducible rfl)
        try simp only [lyA, lyB, lyC, Act.put, lyD, lyE, lyF]
        refine tkG (i := 7) (v := ?_) rfl (by kernel_rfl) (Or.inl ⟨by kernel_rfl, ?_⟩) (by assumption) ?_
        rotate_left 1
        · (intro w hSw; (try dsimp only at hSw); go_simp; try with_reducible rfl)
        try simp only [lyA, lyB, lyC, Act.put, lyD, lyE, lyF]
        refine tkG (i := 8) (v := ?_) rfl (by kernel_rfl) (Or.inl ⟨by kernel_rfl, ?_⟩) (by assumption) ?_
        rotate_left 1
        · (intro w hSw; (try dsimp only at hSw); go_simp; try with_reducible rfl)
        try simp only [lyA, lyB, lyC, Act.put, lyD, lyE, lyF]
        refine tkG (i := 9) (v := ?_) rfl (by kernel_rfl) (Or.inl ⟨by kernel_rfl, ?_⟩) (by assumption) ?_
        rotate_left 1
        · (intro w hSw; (try dsimp only at hSw); go_simp; try with_reducible rfl)
        try simp only [lyA, lyB, lyC, Act.put, lyD, lyE, lyF]
        refine wpAnyG_one (i := 10) (by kernel_rfl) rfl (fun K hK => ?_)
        go_simp
        refine hK.out _ _ ?_ (fun hHeld => ?_)
        · exact .inr (by kernel_rfl)
        clear hK K
        try simp only [lyA, lyB, lyC, Act.put, lyD, lyE, lyF]
        refine wpAnyG_done (by kernel_rfl) ?_ _
        go_wp2_with fail
        have ho1 := own_set_wc (own_drewN HOU.out 1) (i := k) (by omega) (r &&& q)
        have hv1 := (own_drewN HOV.out 1).kept ho1.2 (.inr (by simp only [Value.ownBlock]; intro e; injection e with e; omega))
        have hb1 := (below_drewN HBW.out 1).grown ho1.2 (Nat.le_of_lt (HOU.out.lt w.heap.size rfl).2) (fun g hg => by injection hg with hg; omega)
        exact ⟨⟨k + 1, zs.set k (r &&& q), by omega, by go_num, by simp [hzl], wds_set HZW.out hlr, zip_step (f := fun p q => p &&& q) HREL.out HP.out HQ.out rfl, ho1.1, hv1, hb1⟩, by simp [intOf]; omega⟩
      · obtain rfl : n + 1 = k := by omega
        have hzip : zs = List.zipWith (· &&& ·) xs ys := get_zip_and hxl hyl hzl fun i p q r h1 h2 h3 => by
          have h := HREL.out i p q r h1 h2 h3
          rw [if_pos (by have := (List.getElem?_eq_some_iff.1 h1).1; omega)] at h
          exact h
        have hval : nv zs = x.natAbs &&& y.natAbs := by rw [hzip, nv_and xs ys (by omega) HXW.out HYW.out, HXN.out, HYN.out]
        obtain ⟨p, hp⟩ := get_some hxl (show n < n + 1 by omega)
        obtain ⟨q, hq⟩ := get_some hyl (show n < n + 1 by omega)
        obtain ⟨r, hr⟩ := get_some hzl (show n < n + 1 by omega)
        have hr0 : r = 0 := by
          have h := HREL.out n p q r hp hq hr
          rw [HXZ.out p hp, HYZ.out q hq] at h
          simpa using h
        subst hr0
        have HVAL := Lib.hid hval
        have HR9 := Lib.hid hr
        clear hzip hval hp hq hr
        go_wp2_with fail
        refine (of_int b o n w.heap.size w.heap.size z zs _ (HZ.out.below (HBW.out)) HOU.out HZW.out HR9.out (by omega)).mono ?_
        rintro e w5 ⟨rfl, hi5, hu5⟩
        rw [HVAL.out] at hi5
        have HI5 := Lib.hid hi5
        have HU5 := Lib.hid hu5
        clear hi5 hu5
        go_wp2_with fail
        go_ret
        exact ⟨rfl, HI5.out, Upd.after HBW.out HU5.out hblt⟩
  · have hw1 : IntKind.i64.wrap ((n : Int) + 1) = (n : Int) + 1 := IntWalk.i64_in _ (by omega)
    go_enter Try.func93, Try.ntmps93
    go_wp2_with fail
    go_quiet (fail)
    clear hw1
    go_wp2_with fail
    refine (low_int b1 o1 (n + 1) x _ (HX.out.below (below_drewN (Below.refl _ _) nq)) hx0 (by rw [← HN.out]; omega) (by omega)).mono ?_
    rintro e w1 ⟨rfl, ho1, hb1⟩
    have z1 := hb1.size
    have hs1 : w.heap.size < w1.heap.size := (ho1.lt w.heap.size rfl).2
    have HO1 := Lib.hid ho1
    have HB1 : Hid (Below w.heap.size w w1) := Lib.hid ((below_drewN (Below.refl w.heap.size w) nq).trans hb1)
    clear ho1 hb1
    go_wp2_with fail
    refine (low_int b2 o2 (n + 1) y _ (HY.out.below HB1.out) hy0 (by rw [← HN'.out]; omega) (by omega)).mono ?_
    rintro e w2 ⟨rfl, ho2, hb2⟩
    have z2 := hb2.size
    have HO2 := Lib.hid ho2
    have HO1b := Lib.hid (own_below HO1.out hb2)
    have HB2 : Hid (Below w.heap.size w w2) := Lib.hid (below_then HB1.out hb2)
    clear ho2 hb2
    obtain ⟨xs, hxs⟩ : ∃ xs, xs = padded x.natAbs (n + 1) := ⟨_, rfl⟩
    obtain ⟨ys, hys⟩ : ∃ ys, ys = padded y.natAbs (n + 1) := ⟨_, rfl⟩
    have hxl : xs.length = n + 1 := by rw [hxs]; exact padded_len (by rw [← HN.out]; omega)
    have hyl : ys.length = n + 1 := by rw [hys]; exact padded_len (by rw [← HN'.out]; omega)
    have hxw : Wds xs := by rw [hxs]; exact padded_wds _ _
    have hyw : Wds ys := by rw [hys]; exact padded_wds _ _
    have hxn : nv xs = x.natAbs := by rw [hxs]; exact padded_nv _ _
    have hyn : nv ys = y.natAbs := by rw [hys]; exact padded_nv _ _
    have hxz : ∀ v, xs[n]? = some v → v = 0 := fun v h => by rw [hxs] at h; exact padded_zero (by rw [← HN.out]; omega) h
    have hyz : ∀ v, ys[n]? = some v → v = 0 := fun v h => by rw [hys] at h; exact padded_zero (by rw [← HN'.out]; omega) h
    have HO1c : Hid (w2.ownsRow w.heap.size 135 1 (.slice (some ⟨w.heap.size, 0, none⟩) (n + 1) (n + 1)) (n + 1) (xs.flatMap Wc)) := Lib.hid (by rw [hxs]; exact HO1b.out)
    have HO2c : Hid (w2.ownsRow w1.heap.size 135 1 (.slice (some ⟨w1.heap.size, 0, none⟩) (n + 1) (n + 1)) (n + 1) (ys.flatMap Wc)) := Lib.hid (by rw [hys]; exact HO2.out)
    have HXW := Lib.hid hxw
    have HYW := Lib.hid hyw
    have HXN := Lib.hid hxn
    have HYN := Lib.hid hyn
    have HXZ := Lib.hid hxz
    have HYZ := Lib.hid hyz
    clear hxs hys hxw hyw hxn hyn hxz hyz HO1 HO2 HO1b
    go_wp2_with fail
    go_loopw [10] (fun iv wr => ∃ (k : Nat) (zs : List Nat), k ≤ n + 1 ∧ iv = .int .i64 k ∧ zs.length = n + 1 ∧ Wds zs ∧ (∀ (j p q r : Nat), xs[j]? = some p → ys[j]? = some q → zs[j]? = some r → r = if j < k then p &&& q else p) ∧ wr.ownsRow w.heap.size 135 1 (.slice (some ⟨w.heap.size, 0, none⟩) (n + 1) (n + 1)) (n + 1) (zs.flatMap Wc) ∧ wr.ownsRow w1.heap.size 135 1 (.slice (some ⟨w1.heap.size, 0, none⟩) (n + 1) (n + 1)) (n + 1) (ys.flatMap Wc) ∧ Below w.heap.size w wr) (fun iv _ => n + 1 - (intOf iv).toNat)
    case atStart => exact ⟨0, xs, Nat.zero_le _, rfl, hxl, HXW.out, fun j p q r h1 _ h3 => by rw [h1] at h3; injection h3 with h3; rw [← h3]; simp, HO1c.out, HO2c.out, HB2.out⟩
    case round =>
      obtain ⟨k, zs, hk, rfl, hzl, hzw, hrel', hou, hov, hbw⟩ := hrel
      have HOU := Lib.hid hou
      have HOV := Lib.hid hov
      have HBW := Lib.hid hbw
      have HZW := Lib.hid hzw
      have HREL := Lib.hid hrel'
      clear hou hov hbw hzw hrel'
      by_cases hlt : k < n + 1
      · have hlt' : (k : Int) < (n : Int) + 1 := by omega
        have g1 : (0 : Int) ≤ (k : Int) := by omega
        obtain ⟨p, hp⟩ := get_some hxl hlt
        obtain ⟨q, hq⟩ := get_some hyl hlt
        obtain ⟨r, hr⟩ := get_some hzl hlt
        obtain rfl : r = p := by have h := HREL.out k p q r hp hq hr; simpa using h
        have lp := hw0 HZW.out hr
        have lq := hw0 HYW.out hq
        have q1 := own_wc HOU.out hr
        have q2 := own_wc HOV.out hq
        have hf := HOU.out.frozenAt k
        have hbits : bits .and .u32 (r : Int) (q : Int) = ((r &&& q : Nat) : Int) := (bits_nat .u32 32 (by decide) wraps_u32 r q lp lq).1
        have hlr : r &&& q < W32 := Nat.lt_of_le_of_lt Nat.and_le_left lp
        have HP := Lib.hid hp
        have HQ := Lib.hid hq
        have HR9 := Lib.hid hr
        clear hp hq hr
        go_wp2_with fail
        refine wp_region_G (S := (fun w' => w'.cell? ⟨w.heap.size, k, none⟩ = some (.int .u32 (r : Int)) ∧ w'.cell? ⟨w1.heap.size, k, none⟩ = some (.int .u32 (q : Int)))) 10 (by kernel_rfl) ?_ (fun hHeld => ?_)
        · first | exact True.intro | ((try dsimp only); go_keep)
        refine tkG (i := 0) (v := ?_) rfl (by kernel_rfl) (Or.inl ⟨by kernel_rfl, ?_⟩) (by assumption) ?_
        rotate_left 1
        · (intro w hSw; (try dsimp only at hSw); go_simp; try with_reducible rfl)
        try simp only [lyA, lyB, lyC, Act.put, lyD, lyE, lyF]
        refine tkG (i := 1) (v := ?_) rfl (by kernel_rfl) (Or.inl ⟨by kernel_rfl, ?_⟩) (by assumption) ?_
        rotate_left 1
        · (intro w hSw; (try dsimp only at hSw); go_simp; try with_reducible rfl)
        try simp only [lyA, lyB, lyC, Act.put, lyD, lyE, lyF]
        refine tkG (i := 2) (v := ?_) rfl (by kernel_rfl) (Or.inl ⟨by kernel_rfl, ?_⟩) (by assumption) ?_
        rotate_left 1
        · (intro w hSw; (try dsimp only at hSw); go_simp; try with_reducible rfl)
        try simp only [lyA, lyB, lyC, Act.put, lyD, lyE, lyF]
        refine tkG (i := 3) (v := ?_) rfl (by kernel_rfl) (Or.inl ⟨by kernel_rfl, ?_⟩) (by assumption) ?_
        rotate_left 1
        · (intro w hSw; (try dsimp only at hSw); go_simp; try with_reducible rfl)
        try simp only [lyA, lyB, lyC, Act.put, lyD, lyE, lyF]
        refine tkG (i := 4) (v := ?_) rfl (by kernel_rfl) (Or.inl ⟨by kernel_rfl, ?_⟩) (by assumption) ?_
        rotate_left 1
        · (intro w hSw; (try dsimp only at hSw); go_simp; try with_reducible rfl)
        try simp only [lyA, lyB, lyC, Act.put, lyD, lyE, lyF]
        refine tkG (i := 5) (v := ?_) rfl (by kernel_rfl) (Or.inl ⟨by kernel_rfl, ?_⟩) (by assumption) ?_
        rotate_left 1
        · (intro w hSw; (try dsimp only at hSw); go_simp; try with_reducible rfl)
        try simp only [lyA, lyB, lyC, Act.put, lyD, lyE, lyF]
        refine tkG (i := 6) (v := ?_) rfl (by kernel_rfl) (Or.inl ⟨by kernel_rfl, ?_⟩) (by assumption) ?_
        rotate_left 1
        · (intro w hSw; (try dsimp only at hSw); go_simp; try with_reducible rfl)
        try simp only [lyA, lyB, lyC, Act.put, lyD, lyE, lyF]
        refine tkG (i := 7) (v := ?_) rfl (by kernel_rfl) (Or.inl ⟨by kernel_rfl, ?_⟩) (by assumption) ?_
        rotate_left 1
        · (intro w hSw; (try dsimp only at hSw); go_simp; try with_reducible rfl)
        try simp only [lyA, lyB, lyC, Act.put, lyD, lyE, lyF]
        refine tkG (i := 8) (v := ?_) rfl (by kernel_rfl) (Or.inl ⟨by kernel_rfl, ?_⟩) (by assumption) ?_
        rotate_left 1
        · (intro w hSw; (try dsimp only at hSw); go_simp; try with_reducible rfl)
        try simp only [lyA, lyB, lyC, Act.put, lyD, lyE, lyF]
        refine tkG (i := 9) (v := ?_) rfl (by kernel_rfl) (Or.inl ⟨by kernel_rfl, ?_⟩) (by assumption) ?_
        rotate_left 1
        · (intro w hSw; (try dsimp only at hSw); go_simp; try with_reducible rfl)
        try simp only [lyA, lyB, lyC, Act.put, lyD, lyE, lyF]
        refine wpAnyG_one (i := 10) (by kernel_rfl) rfl (fun K hK => ?_)
        go_simp
        refine hK.out _ _ ?_ (fun hHeld => ?_)
        · exact .inr (by kernel_rfl)
        clear hK K
        try simp only [lyA, lyB, lyC, Act.put, lyD, lyE, lyF]
        refine wpAnyG_done (by kernel_rfl) ?_ _
        go_wp2_with fail
        have ho1 := own_set_wc (own_drewN HOU.out 1) (i := k) (by omega) (r &&& q)
        have hv1 := (own_drewN HOV.out 1).kept ho1.2 (.inr (by simp only [Value.ownBlock]; intro e; injection e with e; omega))
        have hb1 := (below_drewN HBW.out 1).grown ho1.2 (Nat.le_of_lt (HOU.out.lt w.heap.size rfl).2) (fun g hg => by injection hg with hg; omega)
        exact ⟨⟨k + 1, zs.set k (r &&& q), by omega, by go_num, by simp [hzl], wds_set HZW.out hlr, zip_step (f := fun p q => p &&& q) HREL.out HP.out HQ.out rfl, ho1.1, hv1, hb1⟩, by simp [intOf]; omega⟩
      · obtain rfl : n + 1 = k := by omega
        have hzip : zs = List.zipWith (· &&& ·) xs ys := get_zip_and hxl hyl hzl fun i p q r h1 h2 h3 => by
          have h := HREL.out i p q r h1 h2 h3
          rw [if_pos (by have := (List.getElem?_eq_some_iff.1 h1).1; omega)] at h
          exact h
        have hval : nv zs = x.natAbs &&& y.natAbs := by rw [hzip, nv_and xs ys (by omega) HXW.out HYW.out, HXN.out, HYN.out]
        obtain ⟨p, hp⟩ := get_some hxl (show n < n + 1 by omega)
        obtain ⟨q, hq⟩ := get_some hyl (show n < n + 1 by omega)
        obtain ⟨r, hr⟩ := get_some hzl (show n < n + 1 by omega)
        have hr0 : r = 0 := by
          have h := HREL.out n p q r hp hq hr
          rw [HXZ.out p hp, HYZ.out q hq] at h
          simpa using h
        subst hr0
        have HVAL := Lib.hid hval
        have HR9 := Lib.hid hr
        clear hzip hval hp hq hr
        go_wp2_with fail
        refine (of_int b o n w.heap.size w.heap.size z zs _ (HZ.out.below (HBW.out)) HOU.out HZW.out HR9.out (by omega)).mono ?_
        rintro e w5 ⟨rfl, hi5, hu5⟩
        rw [HVAL.out] at hi5
        have HI5 := Lib.hid hi5
        have HU5 := Lib.hid hu5
        clear hi5 hu5
        go_wp2_with fail
        go_ret
        exact ⟨rfl, HI5.out, Upd.after HBW.out HU5.out hblt⟩

theorem get_zip_or {xs ys zs : List Nat} {n : Nat} (hx : xs.length = n) (hy : ys.length = n) (hz : zs.length = n) (h : ∀ (i x y z : Nat), xs[i]? = some x → ys[i]? = some y → zs[i]? = some z → z = x ||| y) : zs = List.zipWith (· ||| ·) xs ys := by
  apply List.ext_getElem?
  intro i
  by_cases hi : i < n
  · obtain ⟨x, hxi⟩ := get_some hx hi
    obtain ⟨y, hyi⟩ := get_some hy hi
    obtain ⟨z, hzi⟩ := get_some hz hi
    rw [List.getElem?_zipWith, hxi, hyi, hzi, h i x y z hxi hyi hzi]
  · rw [List.getElem?_eq_none (by omega), List.getElem?_eq_none (by rw [List.length_zipWith]; omega)]

set_option maxRecDepth 100000 in
set_option maxHeartbeats 4000000 in
theorem or_int (b o b1 o1 b2 o2 : Nat) (z x y : Int) (w : World) (hz : IntAt w b o z) (hx : IntAt w b1 o1 x) (hy : IntAt w b2 o2 y) (hx0 : 0 ≤ x) (hy0 : 0 ≤ y) (hl : (dig x.natAbs).length ≤ 10000000) (hl' : (dig y.natAbs).length ≤ 10000000) :
    Calls Try.prog 72 #[.pointer (some ⟨b, o, none⟩), .pointer (some ⟨b1, o1, none⟩), .pointer (some ⟨b2, o2, none⟩)] w fun e w' => e = .returned (.pointer (some ⟨b, o, none⟩)) ∧ IntAt w' b o ((x.natAbs ||| y.natAbs : Nat) : Int) ∧ Upd w w' b o := by
  have HX := Lib.hid hx
  have HY := Lib.hid hy
  have HZ := Lib.hid hz
  have hblt := hz.lt
  obtain ⟨A, n, c, s, HN, HS, h0, h1, hc, HR⟩ := hx.open
  rw [← HN.out] at hl
  obtain ⟨A', n', c', s', HN', HS', h0', h1', hc', HR'⟩ := hy.open
  rw [← HN'.out] at hl'
  clear hx hy hz
  rcases Nat.lt_trichotomy n n' with hc1 | hc1 | hc1
  · have hw1 : IntKind.i64.wrap ((n' : Int) + 1) = (n' : Int) + 1 := IntWalk.i64_in _ (by omega)
    go_enter Try.func72, Try.ntmps72
    go_wp2_with fail
    go_quiet (fail)
    clear hw1
    go_wp2_with fail
    refine (low_int b1 o1 (n' + 1) x _ (HX.out.below (below_drewN (Below.refl _ _) nq)) hx0 (by rw [← HN.out]; omega) (by omega)).mono ?_
    rintro e w1 ⟨rfl, ho1, hb1⟩
    have z1 := hb1.size
    have hs1 : w.heap.size < w1.heap.size := (ho1.lt w.heap.size rfl).2
    have HO1 := Lib.hid ho1
    have HB1 : Hid (Below w.heap.size w w1) := Lib.hid ((below_drewN (Below.refl w.heap.size w) nq).trans hb1)
    clear ho1 hb1
    go_wp2_with fail
    refine (low_int b2 o2 (n' + 1) y _ (HY.out.below HB1.out) hy0 (by rw [← HN'.out]; omega) (by omega)).mono ?_
    rintro e w2 ⟨rfl, ho2, hb2⟩
    have z2 := hb2.size
    have HO2 := Lib.hid ho2
    have HO1b := Lib.hid (own_below HO1.out hb2)
    have HB2 : Hid (Below w.heap.size w w2) := Lib.hid (below_then HB1.out hb2)
    clear ho2 hb2
    obtain ⟨xs, hxs⟩ : ∃ xs, xs = padded x.natAbs (n' + 1) := ⟨_, rfl⟩
    obtain ⟨ys, hys⟩ : ∃ ys, ys = padded y.natAbs (n' + 1) := ⟨_, rfl⟩
    have hxl : xs.length = n' + 1 := by rw [hxs]; exact padded_len (by rw [← HN.out]; omega)
    have hyl : ys.length = n' + 1 := by rw [hys]; exact padded_len (by rw [← HN'.out]; omega)
    have hxw : Wds xs := by rw [hxs]; exact padded_wds _ _
    have hyw : Wds ys := by rw [hys]; exact padded_wds _ _
    have hxn : nv xs = x.natAbs := by rw [hxs]; exact padded_nv _ _
    have hyn : nv ys = y.natAbs := by rw [hys]; exact padded_nv _ _
    have hxz : ∀ v, xs[n']? = some v → v = 0 := fun v h => by rw [hxs] at h; exact padded_zero (by rw [← HN.out]; omega) h
    have hyz : ∀ v, ys[n']? = some v → v = 0 := fun v h => by rw [hys] at h; exact padded_zero (by rw [← HN'.out]; omega) h
    have HO1c : Hid (w2.ownsRow w.heap.size 135 1 (.slice (some ⟨w.heap.size, 0, none⟩) (n' + 1) (n' + 1)) (n' + 1) (xs.flatMap Wc)) := Lib.hid (by rw [hxs]; exact HO1b.out)
    have HO2c : Hid (w2.ownsRow w1.heap.size 135 1 (.slice (some ⟨w1.heap.size, 0, none⟩) (n' + 1) (n' + 1)) (n' + 1) (ys.flatMap Wc)) := Lib.hid (by rw [hys]; exact HO2.out)
    have HXW := Lib.hid hxw
    have HYW := Lib.hid hyw
    have HXN := Lib.hid hxn
    have HYN := Lib.hid hyn
    have HXZ := Lib.hid hxz
    have HYZ := Lib.hid hyz
    clear hxs hys hxw hyw hxn hyn hxz hyz HO1 HO2 HO1b
    go_wp2_with fail
    go_loopw [10] (fun iv wr => ∃ (k : Nat) (zs : List Nat), k ≤ n' + 1 ∧ iv = .int .i64 k ∧ zs.length = n' + 1 ∧ Wds zs ∧ (∀ (j p q r : Nat), xs[j]? = some p → ys[j]? = some q → zs[j]? = some r → r = if j < k then p ||| q else p) ∧ wr.ownsRow w.heap.size 135 1 (.slice (some ⟨w.heap.size, 0, none⟩) (n' + 1) (n' + 1)) (n' + 1) (zs.flatMap Wc) ∧ wr.ownsRow w1.heap.size 135 1 (.slice (some ⟨w1.heap.size, 0, none⟩) (n' + 1) (n' + 1)) (n' + 1) (ys.flatMap Wc) ∧ Below w.heap.size w wr) (fun iv _ => n' + 1 - (intOf iv).toNat)
    case atStart => exact ⟨0, xs, Nat.zero_le _, rfl, hxl, HXW.out, fun j p q r h1 _ h3 => by rw [h1] at h3; injection h3 with h3; rw [← h3]; simp, HO1c.out, HO2c.out, HB2.out⟩
    case round =>
      obtain ⟨k, zs, hk, rfl, hzl, hzw, hrel', hou, hov, hbw⟩ := hrel
      have HOU := Lib.hid hou
      have HOV := Lib.hid hov
      have HBW := Lib.hid hbw
      have HZW := Lib.hid hzw
      have HREL := Lib.hid hrel'
      clear hou hov hbw hzw hrel'
      by_cases hlt : k < n' + 1
      · have hlt' : (k : Int) < (n' : Int) + 1 := by omega
        have g1 : (0 : Int) ≤ (k : Int) := by omega
        obtain ⟨p, hp⟩ := get_some hxl hlt
        obtain ⟨q, hq⟩ := get_some hyl hlt
        obtain ⟨r, hr⟩ := get_some hzl hlt
        obtain rfl : r = p := by have h := HREL.out k p q r hp hq hr; simpa using h
        have lp := hw0 HZW.out hr
        have lq := hw0 HYW.out hq
        have q1 := own_wc HOU.out hr
        have q2 := own_wc HOV.out hq
        have hf := HOU.out.frozenAt k
        have hbits : bits .or .u32 (r : Int) (q : Int) = ((r ||| q : Nat) : Int) := (bits_nat .u32 32 (by decide) wraps_u32 r q lp lq).2
        have hlr : r ||| q < W32 := Nat.or_lt_two_pow (n := 32) lp lq
        have HP := Lib.hid hp
        have HQ := Lib.hid hq
        have HR9 := Lib.hid hr
        clear hp hq hr
        go_wp2_with fail
        refine wp_region_G (S := (fun w' => w'.cell? ⟨w.heap.size, k, none⟩ = some (.int .u32 (r : Int)) ∧ w'.cell? ⟨w1.heap.size, k, none⟩ = some (.int .u32 (q : Int)))) 10 (by kernel_rfl) ?_ (fun hHeld => ?_)
        · first | exact True.intro | ((try dsimp only); go_keep)
        refine tkG (i := 0) (v := ?_) rfl (by kernel_rfl) (Or.inl ⟨by kernel_rfl, ?_⟩) (by assumption) ?_
        rotate_left 1
        · (intro w hSw; (try dsimp only at hSw); go_simp; try with_reducible rfl)
        try simp only [lyA, lyB, lyC, Act.put, lyD, lyE, lyF]
        refine tkG (i := 1) (v := ?_) rfl (by kernel_rfl) (Or.inl ⟨by kernel_rfl, ?_⟩) (by assumption) ?_
        rotate_left 1
        · (intro w hSw; (try dsimp only at hSw); go_simp; try with_reducible rfl)
        try simp only [lyA, lyB, lyC, Act.put, lyD, lyE, lyF]
        refine tkG (i := 2) (v := ?_) rfl (by kernel_rfl) (Or.inl ⟨by kernel_rfl, ?_⟩) (by assumption) ?_
        rotate_left 1
        · (intro w hSw; (try dsimp only at hSw); go_simp; try with_reducible rfl)
        try simp only [lyA, lyB, lyC, Act.put, lyD, lyE, lyF]
        refine tkG (i := 3) (v := ?_) rfl (by kernel_rfl) (Or.inl ⟨by kernel_rfl, ?_⟩) (by assumption) ?_
        rotate_left 1
        · (intro w hSw; (try dsimp only at hSw); go_simp; try with_reducible rfl)
        try simp only [lyA, lyB, lyC, Act.put, lyD, lyE, lyF]
        refine tkG (i := 4) (v := ?_) rfl (by kernel_rfl) (Or.inl ⟨by kernel_rfl, ?_⟩) (by assumption) ?_
        rotate_left 1
        · (intro w hSw; (try dsimp only at hSw); go_simp; try with_reducible rfl)
        try simp only [lyA, lyB, lyC, Act.put, lyD, lyE, lyF]
        refine tkG (i := 5) (v := ?_) rfl (by kernel_rfl) (Or.inl ⟨by kernel_rfl, ?_⟩) (by assumption) ?_
        rotate_left 1
        · (intro w hSw; (try dsimp only at hSw); go_simp; try with_reducible rfl)
        try simp only [lyA, lyB, lyC, Act.put, lyD, lyE, lyF]
        refine tkG (i := 6) (v := ?_) rfl (by kernel_rfl) (Or.inl ⟨by kernel_rfl, ?_⟩) (by assumption) ?_
        rotate_left 1
        · (intro w hSw; (try dsimp only at hSw); go_simp; try with_reducible rfl)
        try simp only [lyA, lyB, lyC, Act.put, lyD, lyE, lyF]
        refine tkG (i := 7) (v := ?_) rfl (by kernel_rfl) (Or.inl ⟨by kernel_rfl, ?_⟩) (by assumption) ?_
        rotate_left 1
        · (intro w hSw; (try dsimp only at hSw); go_simp; try with_reducible rfl)
        try simp only [lyA, lyB, lyC, Act.put, lyD, lyE, lyF]
        refine tkG (i := 8) (v := ?_) rfl (by kernel_rfl) (Or.inl ⟨by kernel_rfl, ?_⟩) (by assumption) ?_
        rotate_left 1
        · (intro w hSw; (try dsimp only at hSw); go_simp; try with_reducible rfl)
        try simp only [lyA, lyB, lyC, Act.put, lyD, lyE, lyF]
        refine tkG (i := 9) (v := ?_) rfl (by kernel_rfl) (Or.inl ⟨by kernel_rfl, ?_⟩) (by assumption) ?_
        rotate_left 1
        · (intro w hSw; (try dsimp only at hSw); go_simp; try with_reducible rfl)
        try simp only [lyA, lyB, lyC, Act.put, lyD, lyE, lyF]
        refine wpAnyG_one (i := 10) (by kernel_rfl) rfl (fun K hK => ?_)
        go_simp
        refine hK.out _ _ ?_ (fun hHeld => ?_)
        · exact .inr (by kernel_rfl)
        clear hK K
        try simp only [lyA, lyB, lyC, Act.put, lyD, lyE, lyF]
        refine wpAnyG_done (by kernel_rfl) ?_ _
        go_wp2_with fail
        have ho1 := own_set_wc (own_drewN HOU.out 1) (i := k) (by omega) (r ||| q)
        have hv1 := (own_drewN HOV.out 1).kept ho1.2 (.inr (by simp only [Value.ownBlock]; intro e; injection e with e; omega))
        have hb1 := (below_drewN HBW.out 1).grown ho1.2 (Nat.le_of_lt (HOU.out.lt w.heap.size rfl).2) (fun g hg => by injection hg with hg; omega)
        exact ⟨⟨k + 1, zs.set k (r ||| q), by omega, by go_num, by simp [hzl], wds_set HZW.out hlr, zip_step (f := fun p q => p ||| q) HREL.out HP.out HQ.out rfl, ho1.1, hv1, hb1⟩, by simp [intOf]; omega⟩
      · obtain rfl : n' + 1 = k := by omega
        have hzip : zs = List.zipWith (· ||| ·) xs ys := get_zip_or hxl hyl hzl fun i p q r h1 h2 h3 => by
          have h := HREL.out i p q r h1 h2 h3
          rw [if_pos (by have := (List.getElem?_eq_some_iff.1 h1).1; omega)] at h
          exact h
        have hval : nv zs = x.natAbs ||| y.natAbs := by rw [hzip, nv_or xs ys (by omega) HXW.out HYW.out, HXN.out, HYN.out]
        obtain ⟨p, hp⟩ := get_some hxl (show n' < n' + 1 by omega)
        obtain ⟨q, hq⟩ := get_some hyl (show n' < n' + 1 by omega)
        obtain ⟨r, hr⟩ := get_some hzl (show n' < n' + 1 by omega)
        have hr0 : r = 0 := by
          have h := HREL.out n' p q r hp hq hr
          rw [HXZ.out p hp, HYZ.out q hq] at h
          simpa using h
        subst hr0
        have HVAL := Lib.hid hval
        have HR9 := Lib.hid hr
        clear hzip hval hp hq hr
        go_wp2_with fail
        refine (of_int b o n' w.heap.size w.heap.size z zs _ (HZ.out.below (HBW.out)) HOU.out HZW.out HR9.out (by omega)).mono ?_
        rintro e w5 ⟨rfl, hi5, hu5⟩
        rw [HVAL.out] at hi5
        have HI5 := Lib.hid hi5
        have HU5 := Lib.hid hu5
        clear hi5 hu5
        go_wp2_with fail
        go_ret
        exact ⟨rfl, HI5.out, Upd.after HBW.out HU5.out hblt⟩
  · subst hc1
    have hw1 : IntKind.i64.wrap ((n : Int) + 1) = (n : Int) + 1 := IntWalk.i64_in _ (by omega)
    go_enter Try.func72, Try.ntmps72
    go_wp2_with fail
    go_quiet (fail)
    clear hw1
    go_wp2_with fail
    refine (low_int b1 o1 (n + 1) x _ (HX.out.below (below_drewN (Below.refl _ _) nq)) hx0 (by rw [← HN.out]; omega) (by omega)).mono ?_
    rintro e w1 ⟨rfl, ho1, hb1⟩
    have z1 := hb1.size
    have hs1 : w.heap.size < w1.heap.size := (ho1.lt w.heap.size rfl).2
    have HO1 := Lib.hid ho1
    have HB1 : Hid (Below w.heap.size w w1) := Lib.hid ((below_drewN (Below.refl w.heap.size w) nq).trans hb1)
    clear ho1 hb1
    go_wp2_with fail
    refine (low_int b2 o2 (n + 1) y _ (HY.out.below HB1.out) hy0 (by rw [← HN'.out]; omega) (by omega)).mono ?_
    rintro e w2 ⟨rfl, ho2, hb2⟩
    have z2 := hb2.size
    have HO2 := Lib.hid ho2
    have HO1b := Lib.hid (own_below HO1.out hb2)
    have HB2 : Hid (Below w.heap.size w w2) := Lib.hid (below_then HB1.out hb2)
    clear ho2 hb2
    obtain ⟨xs, hxs⟩ : ∃ xs, xs = padded x.natAbs (n + 1) := ⟨_, rfl⟩
    obtain ⟨ys, hys⟩ : ∃ ys, ys = padded y.natAbs (n + 1) := ⟨_, rfl⟩
    have hxl : xs.length = n + 1 := by rw [hxs]; exact padded_len (by rw [← HN.out]; omega)
    have hyl : ys.length = n + 1 := by rw [hys]; exact padded_len (by rw [← HN'.out]; omega)
    have hxw : Wds xs := by rw [hxs]; exact padded_wds _ _
    have hyw : Wds ys := by rw [hys]; exact padded_wds _ _
    have hxn : nv xs = x.natAbs := by rw [hxs]; exact padded_nv _ _
    have hyn : nv ys = y.natAbs := by rw [hys]; exact padded_nv _ _
    have hxz : ∀ v, xs[n]? = some v → v = 0 := fun v h => by rw [hxs] at h; exact padded_zero (by rw [← HN.out]; omega) h
    have hyz : ∀ v, ys[n]? = some v → v = 0 := fun v h => by rw [hys] at h; exact padded_zero (by rw [← HN'.out]; omega) h
    have HO1c : Hid (w2.ownsRow w.heap.size 135 1 (.slice (some ⟨w.heap.size, 0, none⟩) (n + 1) (n + 1)) (n + 1) (xs.flatMap Wc)) := Lib.hid (by rw [hxs]; exact HO1b.out)
    have HO2c : Hid (w2.ownsRow w1.heap.size 135 1 (.slice (some ⟨w1.heap.size, 0, none⟩) (n + 1) (n + 1)) (n + 1) (ys.flatMap Wc)) := Lib.hid (by rw [hys]; exact HO2.out)
    have HXW := Lib.hid hxw
    have HYW := Lib.hid hyw
    have HXN := Lib.hid hxn
    have HYN := Lib.hid hyn
    have HXZ := Lib.hid hxz
    have HYZ := Lib.hid hyz
    clear hxs hys hxw hyw hxn hyn hxz hyz HO1 HO2 HO1b
    go_wp2_with fail
    go_loopw [10] (fun iv wr => ∃ (k : Nat) (zs : List Nat), k ≤ n + 1 ∧ iv = .int .i64 k ∧ zs.length = n + 1 ∧ Wds zs ∧ (∀ (j p q r : Nat), xs[j]? = some p → ys[j]? = some q → zs[j]? = some r → r = if j < k then p ||| q else p) ∧ wr.ownsRow w.heap.size 135 1 (.slice (some ⟨w.heap.size, 0, none⟩) (n + 1) (n + 1)) (n + 1) (zs.flatMap Wc) ∧ wr.ownsRow w1.heap.size 135 1 (.slice (some ⟨w1.heap.size, 0, none⟩) (n + 1) (n + 1)) (n + 1) (ys.flatMap Wc) ∧ Below w.heap.size w wr) (fun iv _ => n + 1 - (intOf iv).toNat)
    case atStart => exact ⟨0, xs, Nat.zero_le _, rfl, hxl, HXW.out, fun j p q r h1 _ h3 => by rw [h1] at h3; injection h3 with h3; rw [← h3]; simp, HO1c.out, HO2c.out, HB2.out⟩
    case round =>
      obtain ⟨k, zs, hk, rfl, hzl, hzw, hrel', hou, hov, hbw⟩ := hrel
      have HOU := Lib.hid hou
      have HOV := Lib.hid hov
      have HBW := Lib.hid hbw
      have HZW := Lib.hid hzw
      have HREL := Lib.hid hrel'
      clear hou hov hbw hzw hrel'
      by_cases hlt : k < n + 1
      · have hlt' : (k : Int) < (n : Int) + 1 := by omega
        have g1 : (0 : Int) ≤ (k : Int) := by omega
        obtain ⟨p, hp⟩ := get_some hxl hlt
        obtain ⟨q, hq⟩ := get_some hyl hlt
        obtain ⟨r, hr⟩ := get_some hzl hlt
        obtain rfl : r = p := by have h := HREL.out k p q r hp hq hr; simpa using h
        have lp := hw0 HZW.out hr
        have lq := hw0 HYW.out hq
        have q1 := own_wc HOU.out hr
        have q2 := own_wc HOV.out hq
        have hf := HOU.out.frozenAt k
        have hbits : bits .or .u32 (r : Int) (q : Int) = ((r ||| q : Nat) : Int) := (bits_nat .u32 32 (by decide) wraps_u32 r q lp lq).2
        have hlr : r ||| q < W32 := Nat.or_lt_two_pow (n := 32) lp lq
        have HP := Lib.hid hp
        have HQ := Lib.hid hq
        have HR9 := Lib.hid hr
        clear hp hq hr
        go_wp2_with fail
        refine wp_region_G (S := (fun w' => w'.cell? ⟨w.heap.size, k, none⟩ = some (.int .u32 (r : Int)) ∧ w'.cell? ⟨w1.heap.size, k, none⟩ = some (.int .u32 (q : Int)))) 10 (by kernel_rfl) ?_ (fun hHeld => ?_)
        · first | exact True.intro | ((try dsimp only); go_keep)
        refine tkG (i := 0) (v := ?_) rfl (by kernel_rfl) (Or.inl ⟨by kernel_rfl, ?_⟩) (by assumption) ?_
        rotate_left 1
        · (intro w hSw; (try dsimp only at hSw); go_simp; try with_reducible rfl)
        try simp only [lyA, lyB, lyC, Act.put, lyD, lyE, lyF]
        refine tkG (i := 1) (v := ?_) rfl (by kernel_rfl) (Or.inl ⟨by kernel_rfl, ?_⟩) (by assumption) ?_
        rotate_left 1
        · (intro w hSw; (try dsimp only at hSw); go_simp; try with_reducible rfl)
        try simp only [lyA, lyB, lyC, Act.put, lyD, lyE, lyF]
        refine tkG (i := 2) (v := ?_) rfl (by kernel_rfl) (Or.inl ⟨by kernel_rfl, ?_⟩) (by assumption) ?_
        rotate_left 1
        · (intro w hSw; (try dsimp only at hSw); go_simp; try with_reducible rfl)
        try simp only [lyA, lyB, lyC, Act.put, lyD, lyE, lyF]
        refine tkG (i := 3) (v := ?_) rfl (by kernel_rfl) (Or.inl ⟨by kernel_rfl, ?_⟩) (by assumption) ?_
        rotate_left 1
        · (intro w hSw; (try dsimp only at hSw); go_simp; try with_reducible rfl)
        try simp only [lyA, lyB, lyC, Act.put, lyD, lyE, lyF]
        refine tkG (i := 4) (v := ?_) rfl (by kernel_rfl) (Or.inl ⟨by kernel_rfl, ?_⟩) (by assumption) ?_
        rotate_left 1
        · (intro w hSw; (try dsimp only at hSw); go_simp; try with_reducible rfl)
        try simp only [lyA, lyB, lyC, Act.put, lyD, lyE, lyF]
        refine tkG (i := 5) (v := ?_) rfl (by kernel_rfl) (Or.inl ⟨by kernel_rfl, ?_⟩) (by assumption) ?_
        rotate_left 1
        · (intro w hSw; (try dsimp only at hSw); go_simp; try with_reducible rfl)
        try simp only [lyA, lyB, lyC, Act.put, lyD, lyE, lyF]
        refine tkG (i := 6) (v := ?_) rfl (by kernel_rfl) (Or.inl ⟨by kernel_rfl, ?_⟩) (by assumption) ?_
        rotate_left 1
        · (intro w hSw; (try dsimp only at hSw); go_simp; try with_reducible rfl)
        try simp only [lyA, lyB, lyC, Act.put, lyD, lyE, lyF]
        refine tkG (i := 7) (v := ?_) rfl (by kernel_rfl) (Or.inl ⟨by kernel_rfl, ?_⟩) (by assumption) ?_
        rotate_left 1
        · (intro w hSw; (try dsimp only at hSw); go_simp; try with_reducible rfl)
        try simp only [lyA, lyB, lyC, Act.put, lyD, lyE, lyF]
        refine tkG (i := 8) (v := ?_) rfl (by kernel_rfl) (Or.inl ⟨by kernel_rfl, ?_⟩) (by assumption) ?_
        rotate_left 1
        · (intro w hSw; (try dsimp only at hSw); go_simp; try with_reducible rfl)
        try simp only [lyA, lyB, lyC, Act.put, lyD, lyE, lyF]
        refine tkG (i := 9) (v := ?_) rfl (by kernel_rfl) (Or.inl ⟨by kernel_rfl, ?_⟩) (by assumption) ?_
        rotate_left 1
        · (intro w hSw; (try dsimp only at hSw); go_simp; try with_reducible rfl)
        try simp only [lyA, lyB, lyC, Act.put, lyD, lyE, lyF]
        refine wpAnyG_one (i := 10) (by kernel_rfl) rfl (fun K hK => ?_)
        go_simp
        refine hK.out _ _ ?_ (fun hHeld => ?_)
        · exact .inr (by kernel_rfl)
        clear hK K
        try simp only [lyA, lyB, lyC, Act.put, lyD, lyE, lyF]
        refine wpAnyG_done (by kernel_rfl) ?_ _
        go_wp2_with fail
        have ho1 := own_set_wc (own_drewN HOU.out 1) (i := k) (by omega) (r ||| q)
        have hv1 := (own_drewN HOV.out 1).kept ho1.2 (.inr (by simp only [Value.ownBlock]; intro e; injection e with e; omega))
        have hb1 := (below_drewN HBW.out 1).grown ho1.2 (Nat.le_of_lt (HOU.out.lt w.heap.size rfl).2) (fun g hg => by injection hg with hg; omega)
        exact ⟨⟨k + 1, zs.set k (r ||| q), by omega, by go_num, by simp [hzl], wds_set HZW.out hlr, zip_step (f := fun p q => p ||| q) HREL.out HP.out HQ.out rfl, ho1.1, hv1, hb1⟩, by simp [intOf]; omega⟩
      · obtain rfl : n + 1 = k := by omega
        have hzip : zs = List.zipWith (· ||| ·) xs ys := get_zip_or hxl hyl hzl fun i p q r h1 h2 h3 => by
          have h := HREL.out i p q r h1 h2 h3
          rw [if_pos (by have := (List.getElem?_eq_some_iff.1 h1).1; omega)] at h
          exact h
        have hval : nv zs = x.natAbs ||| y.natAbs := by rw [hzip, nv_or xs ys (by omega) HXW.out HYW.out, HXN.out, HYN.out]
        obtain ⟨p, hp⟩ := get_some hxl (show n < n + 1 by omega)
        obtain ⟨q, hq⟩ := get_some hyl (show n < n + 1 by omega)
        obtain ⟨r, hr⟩ := get_some hzl (show n < n + 1 by omega)
        have hr0 : r = 0 := by
          have h := HREL.out n p q r hp hq hr
          rw [HXZ.out p hp, HYZ.out q hq] at h
          simpa using h
        subst hr0
        have HVAL := Lib.hid hval
        have HR9 := Lib.hid hr
        clear hzip hval hp hq hr
        go_wp2_with fail
        refine (of_int b o n w.heap.size w.heap.size z zs _ (HZ.out.below (HBW.out)) HOU.out HZW.out HR9.out (by omega)).mono ?_
        rintro e w5 ⟨rfl, hi5, hu5⟩
        rw [HVAL.out] at hi5
        have HI5 := Lib.hid hi5
        have HU5 := Lib.hid hu5
        clear hi5 hu5
        go_wp2_with fail
        go_ret
        exact ⟨rfl, HI5.out, Upd.after HBW.out HU5.out hblt⟩
  · have hw1 : IntKind.i64.wrap ((n : Int) + 1) = (n : Int) + 1 := IntWalk.i64_in _ (by omega)
    go_enter Try.func72, Try.ntmps72
    go_wp2_with fail
    go_quiet (fail)
    clear hw1
    go_wp2_with fail
    refine (low_int b1 o1 (n + 1) x _ (HX.out.below (below_drewN (Below.refl _ _) nq)) hx0 (by rw [← HN.out]; omega) (by omega)).mono ?_
    rintro e w1 ⟨rfl, ho1, hb1⟩
    have z1 := hb1.size
    have hs1 : w.heap.size < w1.heap.size := (ho1.lt w.heap.size rfl).2
    have HO1 := Lib.hid ho1
    have HB1 : Hid (Below w.heap.size w w1) := Lib.hid ((below_drewN (Below.refl w.heap.size w) nq).trans hb1)
    clear ho1 hb1
    go_wp2_with fail
    refine (low_int b2 o2 (n + 1) y _ (HY.out.below HB1.out) hy0 (by rw [← HN'.out]; omega) (by omega)).mono ?_
    rintro e w2 ⟨rfl, ho2, hb2⟩
    have z2 := hb2.size
    have HO2 := Lib.hid ho2
    have HO1b := Lib.hid (own_below HO1.out hb2)
    have HB2 : Hid (Below w.heap.size w w2) := Lib.hid (below_then HB1.out hb2)
    clear ho2 hb2
    obtain ⟨xs, hxs⟩ : ∃ xs, xs = padded x.natAbs (n + 1) := ⟨_, rfl⟩
    obtain ⟨ys, hys⟩ : ∃ ys, ys = padded y.natAbs (n + 1) := ⟨_, rfl⟩
    have hxl : xs.length = n + 1 := by rw [hxs]; exact padded_len (by rw [← HN.out]; omega)
    have hyl : ys.length = n + 1 := by rw [hys]; exact padded_len (by rw [← HN'.out]; omega)
    have hxw : Wds xs := by rw [hxs]; exact padded_wds _ _
    have hyw : Wds ys := by rw [hys]; exact padded_wds _ _
    have hxn : nv xs = x.natAbs := by rw [hxs]; exact padded_nv _ _
    have hyn : nv ys = y.natAbs := by rw [hys]; exact padded_nv _ _
    have hxz : ∀ v, xs[n]? = some v → v = 0 := fun v h => by rw [hxs] at h; exact padded_zero (by rw [← HN.out]; omega) h
    have hyz : ∀ v, ys[n]? = some v → v = 0 := fun v h => by rw [hys] at h; exact padded_zero (by rw [← HN'.out]; omega) h
    have HO1c : Hid (w2.ownsRow w.heap.size 135 1 (.slice (some ⟨w.heap.size, 0, none⟩) (n + 1) (n + 1)) (n + 1) (xs.flatMap Wc)) := Lib.hid (by rw [hxs]; exact HO1b.out)
    have HO2c : Hid (w2.ownsRow w1.heap.size 135 1 (.slice (some ⟨w1.heap.size, 0, none⟩) (n + 1) (n + 1)) (n + 1) (ys.flatMap Wc)) := Lib.hid (by rw [hys]; exact HO2.out)
    have HXW := Lib.hid hxw
    have HYW := Lib.hid hyw
    have HXN := Lib.hid hxn
    have HYN := Lib.hid hyn
    have HXZ := Lib.hid hxz
    have HYZ := Lib.hid hyz
    clear hxs hys hxw hyw hxn hyn hxz hyz HO1 HO2 HO1b
    go_wp2_with fail
    go_loopw [10] (fun iv wr => ∃ (k : Nat) (zs : List Nat), k ≤ n + 1 ∧ iv = .int .i64 k ∧ zs.length = n + 1 ∧ Wds zs ∧ (∀ (j p q r : Nat), xs[j]? = some p → ys[j]? = some q → zs[j]? = some r → r = if j < k then p ||| q else p) ∧ wr.ownsRow w.heap.size 135 1 (.slice (some ⟨w.heap.size, 0, none⟩) (n + 1) (n + 1)) (n + 1) (zs.flatMap Wc) ∧ wr.ownsRow w1.heap.size 135 1 (.slice (some ⟨w1.heap.size, 0, none⟩) (n + 1) (n + 1)) (n + 1) (ys.flatMap Wc) ∧ Below w.heap.size w wr) (fun iv _ => n + 1 - (intOf iv).toNat)
    case atStart => exact ⟨0, xs, Nat.zero_le _, rfl, hxl, HXW.out, fun j p q r h1 _ h3 => by rw [h1] at h3; injection h3 with h3; rw [← h3]; simp, HO1c.out, HO2c.out, HB2.out⟩
    case round =>
      obtain ⟨k, zs, hk, rfl, hzl, hzw, hrel', hou, hov, hbw⟩ := hrel
      have HOU := Lib.hid hou
      have HOV := Lib.hid hov
      have HBW := Lib.hid hbw
      have HZW := Lib.hid hzw
      have HREL := Lib.hid hrel'
      clear hou hov hbw hzw hrel'
      by_cases hlt : k < n + 1
      · have hlt' : (k : Int) < (n : Int) + 1 := by omega
        have g1 : (0 : Int) ≤ (k : Int) := by omega
        obtain ⟨p, hp⟩ := get_some hxl hlt
        obtain ⟨q, hq⟩ := get_some hyl hlt
        obtain ⟨r, hr⟩ := get_some hzl hlt
        obtain rfl : r = p := by have h := HREL.out k p q r hp hq hr; simpa using h
        have lp := hw0 HZW.out hr
        have lq := hw0 HYW.out hq
        have q1 := own_wc HOU.out hr
        have q2 := own_wc HOV.out hq
        have hf := HOU.out.frozenAt k
        have hbits : bits .or .u32 (r : Int) (q : Int) = ((r ||| q : Nat) : Int) := (bits_nat .u32 32 (by decide) wraps_u32 r q lp lq).2
        have hlr : r ||| q < W32 := Nat.or_lt_two_pow (n := 32) lp lq
        have HP := Lib.hid hp
        have HQ := Lib.hid hq
        have HR9 := Lib.hid hr
        clear hp hq hr
        go_wp2_with fail
        refine wp_region_G (S := (fun w' => w'.cell? ⟨w.heap.size, k, none⟩ = some (.int .u32 (r : Int)) ∧ w'.cell? ⟨w1.heap.size, k, none⟩ = some (.int .u32 (q : Int)))) 10 (by kernel_rfl) ?_ (fun hHeld => ?_)
        · first | exact True.intro | ((try dsimp only); go_keep)
        refine tkG (i := 0) (v := ?_) rfl (by kernel_rfl) (Or.inl ⟨by kernel_rfl, ?_⟩) (by assumption) ?_
        rotate_left 1
        · (intro w hSw; (try dsimp only at hSw); go_simp; try with_reducible rfl)
        try simp only [lyA, lyB, lyC, Act.put, lyD, lyE, lyF]
        refine tkG (i := 1) (v := ?_) rfl (by kernel_rfl) (Or.inl ⟨by kernel_rfl, ?_⟩) (by assumption) ?_
        rotate_left 1
        · (intro w hSw; (try dsimp only at hSw); go_simp; try with_reducible rfl)
        try simp only [lyA, lyB, lyC, Act.put, lyD, lyE, lyF]
        refine tkG (i := 2) (v := ?_) rfl (by kernel_rfl) (Or.inl ⟨by kernel_rfl, ?_⟩) (by assumption) ?_
        rotate_left 1
        · (intro w hSw; (try dsimp only at hSw); go_simp; try with_reducible rfl)
        try simp only [lyA, lyB, lyC, Act.put, lyD, lyE, lyF]
        refine tkG (i := 3) (v := ?_) rfl (by kernel_rfl) (Or.inl ⟨by kernel_rfl, ?_⟩) (by assumption) ?_
        rotate_left 1
        · (intro w hSw; (try dsimp only at hSw); go_simp; try with_reducible rfl)
        try simp only [lyA, lyB, lyC, Act.put, lyD, lyE, lyF]
        refine tkG (i := 4) (v := ?_) rfl (by kernel_rfl) (Or.inl ⟨by kernel_rfl, ?_⟩) (by assumption) ?_
        rotate_left 1
        · (intro w hSw; (try dsimp only at hSw); go_simp; try with_reducible rfl)
        try simp only [lyA, lyB, lyC, Act.put, lyD, lyE, lyF]
        refine tkG (i := 5) (v := ?_) rfl (by kernel_rfl) (Or.inl ⟨by kernel_rfl, ?_⟩) (by assumption) ?_
        rotate_left 1
        · (intro w hSw; (try dsimp only at hSw); go_simp; try with_reducible rfl)
        try simp only [lyA, lyB, lyC, Act.put, lyD, lyE, lyF]
        refine tkG (i := 6) (v := ?_) rfl (by kernel_rfl) (Or.inl ⟨by kernel_rfl, ?_⟩) (by assumption) ?_
        rotate_left 1
        · (intro w hSw; (try dsimp only at hSw); go_simp; try with_reducible rfl)
        try simp only [lyA, lyB, lyC, Act.put, lyD, lyE, lyF]
        refine tkG (i := 7) (v := ?_) rfl (by kernel_rfl) (Or.inl ⟨by kernel_rfl, ?_⟩) (by assumption) ?_
        rotate_left 1
        · (intro w hSw; (try dsimp only at hSw); go_simp; try with_reducible rfl)
        try simp only [lyA, lyB, lyC, Act.put, lyD, lyE, lyF]
        refine tkG (i := 8) (v := ?_) rfl (by kernel_rfl) (Or.inl ⟨by kernel_rfl, ?_⟩) (by assumption) ?_
        rotate_left 1
        · (intro w hSw; (try dsimp only at hSw); go_simp; try with_reducible rfl)
        try simp only [lyA, lyB, lyC, Act.put, lyD, lyE, lyF]
        refine tkG (i := 9) (v := ?_) rfl (by kernel_rfl) (Or.inl ⟨by kernel_rfl, ?_⟩) (by assumption) ?_
        rotate_left 1
        · (intro w hSw; (try dsimp only at hSw); go_simp; try with_reducible rfl)
        try simp only [lyA, lyB, lyC, Act.put, lyD, lyE, lyF]
        refine wpAnyG_one (i := 10) (by kernel_rfl) rfl (fun K hK => ?_)
        go_simp
        refine hK.out _ _ ?_ (fun hHeld => ?_)
        · exact .inr (by kernel_rfl)
        clear hK K
        try simp only [lyA, lyB, lyC, Act.put, lyD, lyE, lyF]
        refine wpAnyG_done (by kernel_rfl) ?_ _
        go_wp2_with fail
        have ho1 := own_set_wc (own_drewN HOU.out 1) (i := k) (by omega) (r ||| q)
        have hv1 := (own_drewN HOV.out 1).kept ho1.2 (.inr (by simp only [Value.ownBlock]; intro e; injection e with e; omega))
        have hb1 := (below_drewN HBW.out 1).grown ho1.2 (Nat.le_of_lt (HOU.out.lt w.heap.size rfl).2) (fun g hg => by injection hg with hg; omega)
        exact ⟨⟨k + 1, zs.set k (r ||| q), by omega, by go_num, by simp [hzl], wds_set HZW.out hlr, zip_step (f := fun p q => p ||| q) HREL.out HP.out HQ.out rfl, ho1.1, hv1, hb1⟩, by simp [intOf]; omega⟩
      · obtain rfl : n + 1 = k := by omega
        have hzip : zs = List.zipWith (· ||| ·) xs ys := get_zip_or hxl hyl hzl fun i p q r h1 h2 h3 => by
          have h := HREL.out i p q r h1 h2 h3
          rw [if_pos (by have := (List.getElem?_eq_some_iff.1 h1).1; omega)] at h
          exact h
        have hval : nv zs = x.natAbs ||| y.natAbs := by rw [hzip, nv_or xs ys (by omega) HXW.out HYW.out, HXN.out, HYN.out]
        obtain ⟨p, hp⟩ := get_some hxl (show n < n + 1 by omega)
        obtain ⟨q, hq⟩ := get_some hyl (show n < n + 1 by omega)
        obtain ⟨r, hr⟩ := get_some hzl (show n < n + 1 by omega)
        have hr0 : r = 0 := by
          have h := HREL.out n p q r hp hq hr
          rw [HXZ.out p hp, HYZ.out q hq] at h
          simpa using h
        subst hr0
        have HVAL := Lib.hid hval
        have HR9 := Lib.hid hr
        clear hzip hval hp hq hr
        go_wp2_with fail
        refine (of_int b o n w.heap.size w.heap.size z zs _ (HZ.out.below (HBW.out)) HOU.out HZW.out HR9.out (by omega)).mono ?_
        rintro e w5 ⟨rfl, hi5, hu5⟩
        rw [HVAL.out] at hi5
        have HI5 := Lib.hid hi5
        have HU5 := Lib.hid hu5
        clear hi5 hu5
        go_wp2_with fail
        go_ret
        exact ⟨rfl, HI5.out, Upd.after HBW.out HU5.out hblt⟩

end Go.Proofs.Ytfepmbpcdfdlhaa
