import Derived.Test.YtkfhbnfoiicioaaGreatDoorX03
import Derived.Lib.BitFns
import Derived.Lib.TrailingZeros
import Derived.Laws.Bits64b
set_option linter.unusedSimpArgs false
set_option linter.unusedVariables false
/- low, of (numbers not below 0): the walks -/
namespace Go.Proofs.YtkfhbnfoiicioaaGreatDoor
open Go.RowKit Go.Sort

/-- the words of N, and noughts, n in all -/
def padded (N n : Nat) : List Nat := dig N ++ List.replicate (n - (dig N).length) 0
theorem padded_len {N n : Nat} (h : (dig N).length ≤ n) : (padded N n).length = n := by simp [padded]; omega
theorem padded_nv (N n : Nat) : nv (padded N n) = N := by
  have hz : nv (List.replicate (n - (dig N).length) 0) = 0 := nv_zero fun i x hx => (List.mem_replicate.1 (List.mem_of_getElem? hx)).2
  rw [padded, nv_append, nv_dig, hz, Nat.mul_zero, Nat.add_zero]
theorem padded_wds (N n : Nat) : Wds (padded N n) := (dig_wds N).append fun x hx => by rw [(List.mem_replicate.1 hx).2]; decide
theorem padded_zero {N n i x : Nat} (hi : (dig N).length ≤ i) (h : (padded N n)[i]? = some x) : x = 0 := by
  rw [padded, List.getElem?_append_right hi] at h
  exact (List.mem_replicate.1 (List.mem_of_getElem? h)).2

set_option maxRecDepth 100000 in
set_option maxHeartbeats 2000000 in
theorem low_int (b o n : Nat) (x : Int) (w : World) (hx : IntAt w b o x) (hx0 : 0 ≤ x) (hn : (dig x.natAbs).length < n) (hn2 : n ≤ 100000000) :
    Calls Tryz.prog 135 #[.pointer (some ⟨b, o, none⟩), .int .i64 n] w fun e w' => e = .returned (.slice (some ⟨w.heap.size, 0, none⟩) n n) ∧
      w'.ownsRow w.heap.size 139 1 (.slice (some ⟨w.heap.size, 0, none⟩) n n) n ((padded x.natAbs n).flatMap Wc) ∧ Below w.heap.size w w' := by
  obtain ⟨i0, hi0, hz0, hz1, hz2⟩ := info_parts' info_u32
  have hlt := hx.lt
  obtain ⟨A, m, c, s, HN, HS, h0, h1, hc, HR⟩ := hx.open
  rw [← HN.out] at hn
  have HR' : Hid (RdE Wc 1 w (fun d => d < w.heap.size) A m (dig x.natAbs)) := Lib.hid (HR.out.keep (fun _ _ => rfl))
  obtain rfl : s = false := by rw [HS.out]; simp; omega
  clear hx
  have hszk : (Tryz.prog.info? 139).map (·.size) = some 1 := by rw [hi0]; simp [hz1]
  have HSZK := Lib.hid hszk
  have C1 : Hid (((dig x.natAbs).flatMap Wc).length = Nat.min m n) := Lib.hid (by rw [flat_len Wc 1 Wc.clen, Nat.mul_one, ← HN.out]; exact (Nat.min_eq_left (by omega)).symm)
  have C3 : Hid (0 + ((dig x.natAbs).flatMap Wc).length ≤ ((List.replicate n 0).flatMap Wc).length) := Lib.hid (by rw [flat_len Wc 1 Wc.clen, flat_len Wc 1 Wc.clen, List.length_replicate, ← HN.out]; omega)
  clear hszk
  go_enter Tryz.func135, Tryz.ntmps135
  go_wp2_with (first | (refine wpList_copy_splice rfl _ _ _ _ rfl 139 Tryz.underlying120 HSZK.out _ _ n n _ c (by rfl) (by rfl) w.heap.size 0 ((List.replicate n 0).flatMap Wc) _ (own_blk HO3.out).1 ((dig x.natAbs).flatMap Wc) C1.out (fun hp => ⟨rfl, rd_src HR3.out.rd hp⟩) C3.out (wc_one _) w.heap.size w HB3.out (Nat.le_refl _) ?_; intro w5 hg5 hb5; have k3 := bat hb5 h0; have HG5 := Lib.hid hg5.out; have HB5 := Lib.hid hb5; clear hg5 hb5) | (at_make; go_must (refine wpList_make_full _ rfl _ _ _ rfl w.heap.size 139 i0 _ 1 Tryz.underlying120 hi0 hz0 hz1 .i64 .i64 _ _ n rfl rfl (by omega) (by omega) (by rw [hz2]; omega) (by simp only [maxLen]; omega) (Nat.le_refl _) ?_); intro w3 hown3 hg3; have hb3 : Below w.heap.size w w3 := below_of_grown hg3 (fun g hg => by cases hg); have k1 := bat hb3 h1; have HO3 : Hid (w3.ownsRow w.heap.size 139 1 (.slice (some ⟨w.heap.size, 0, none⟩) n n) n ((List.replicate n 0).flatMap Wc)) := Lib.hid (by rw [made_u32] at hown3; exact hown3); have HB3 := Lib.hid hb3; have HR3 := Lib.hid (HR'.out.keep (Keeps.below hb3 (fun b hb => hb))); clear hown3 hg3 hb3))
  go_ret
  have hg5 := HG5.out
  rw [splice_wc (by rw [← HN.out]; omega)] at hg5
  exact ⟨rfl, own_of_blk hg5 (by rw [flat_len Wc 1 Wc.clen, Nat.mul_one]; exact padded_len (by rw [← HN.out]; omega)) (Nat.le_refl _) (by simp only [maxLen]; omega), HB5.out⟩

set_option maxRecDepth 100000 in
set_option maxHeartbeats 2000000 in
theorem of_int (b o n B g : Nat) (z : Int) (xs : List Nat) (w : World) (hz : IntAt w b o z) (ho : w.ownsRow B 139 1 (.slice (some ⟨g, 0, none⟩) (n + 1) (n + 1)) (n + 1) (xs.flatMap Wc)) (hw : Wds xs) (ht : xs[n]? = some 0) (hn : n ≤ 100000000) :
    Calls Tryz.prog 136 #[.pointer (some ⟨b, o, none⟩), .slice (some ⟨g, 0, none⟩) (n + 1) (n + 1)] w fun e w' => e = .returned (.pointer (some ⟨b, o, none⟩)) ∧ IntAt w' b o (nv xs : Int) ∧ Upd w w' b o := by
  have q0 := own_wc ho ht
  have HZ := Lib.hid hz
  have HO := Lib.hid ho
  have HW := Lib.hid hw
  clear hz ho hw ht
  go_enter Tryz.func136, Tryz.ntmps136
  go_wp2_with fail
  refine (trim_own B g (n + 1) (n + 1) xs _ HO.out HW.out (by omega) (Nat.le_refl _)).mono ?_
  rintro e w1 ⟨rfl, hl1, hr1, hb1⟩
  have HR1 := Lib.hid hr1
  have HB1 := Lib.hid hb1
  clear hr1 hb1
  go_wp2_with fail
  refine (give_int _ _ (nv xs : Int) z false _ _ _ w1 (HZ.out.below HB1.out) rfl hl1 (HR1.out.imp fun d hd => hd.2) (by simp)).mono ?_
  rintro e w2 ⟨rfl, hi2, hu2⟩
  have HI2 := Lib.hid hi2
  have HU2 := Lib.hid hu2
  clear hi2 hu2
  go_wp2_with fail
  go_ret
  exact ⟨rfl, HI2.out, Upd.after HB1.out HU2.out HZ.out.lt⟩

end Go.Proofs.YtkfhbnfoiicioaaGreatDoor

/- And, Or (numbers not below 0): the walks (printed by wip/Int/gen_i11.py) -/
namespace Go.Proofs.YtkfhbnfoiicioaaGreatDoor
open Go.RowKit Go.Sort

theorem zip_step {f : Nat → Nat → Nat} {xs ys zs : List Nat} {k r q v : Nat} (h : ∀ (j p q r : Nat), xs[j]? = some p → ys[j]? = some q → zs[j]? = some r → r = if j < k then f p q else p) (hp : xs[k]? = some r) (hq : ys[k]? = some q) (hv : v = f r q) :
    ∀ (j p q r : Nat), xs[j]? = some p → ys[j]? = some q → (zs.set k v)[j]? = some r → r = if j < k + 1 then f p q else p := by
  intro j p' q' r' h1 h2 h3
  by_cases e : j = k
  · subst e
    have hl : j < zs.length := by have := (List.getElem?_eq_some_iff.1 h3).1; simpa using this
    rw [List.getElem?_set_self hl] at h3
    injection h3 with h3
    rw [hp] at h1
    rw [hq] at h2
    injection h1 with h1
    injection h2 with h2
    rw [if_pos (by omega), ← h3, hv, h1, h2]
  · rw [List.getElem?_set_ne (by omega)] at h3
    rw [h j p' q' r' h1 h2 h3]
    by_cases hj : j < k
    · rw [if_pos hj, if_pos (by omega)]
    · rw [if_neg hj, if_neg (by omega)]

theorem get_zip_and {xs ys zs : List Nat} {n : Nat} (hx : xs.length = n) (hy : ys.length = n) (hz : zs.length = n) (h : ∀ (i x y z : Nat), xs[i]? = some x → ys[i]? = some y → zs[i]? = some z → z = x &&& y) : zs = List.zipWith (· &&& ·) xs ys := by
  apply List.ext_getElem?
  intro i
  by_cases hi : i < n
  · obtain ⟨x, hxi⟩ := get_some hx hi
    obtain ⟨y, hyi⟩ := get_some hy hi
    obtain ⟨z, hzi⟩ := get_some hz hi
    rw [List.getElem?_zipWith, hxi, hyi, hzi, h i x y z hxi hyi hzi]
  · rw [List.getElem?_eq_none (by omega), List.getElem?_eq_none (by rw [List.length_zipWith]; omega)]

theorem get_zip_or {xs ys zs : List Nat} {n : Nat} (hx : xs.length = n) (hy : ys.length = n) (hz : zs.length = n) (h : ∀ (i x y z : Nat), xs[i]? = some x → ys[i]? = some y → zs[i]? = some z → z = x ||| y) : zs = List.zipWith (· ||| ·) xs ys := by
  apply List.ext_getElem?
  intro i
  by_cases hi : i < n
  · obtain ⟨x, hxi⟩ := get_some hx hi
    obtain ⟨y, hyi⟩ := get_some hy hi
    obtain ⟨z, hzi⟩ := get_some hz hi
    rw [List.getElem?_zipWith, hxi, hyi, hzi, h i x y z hxi hyi hzi]
  · rw [List.getElem?_eq_none (by omega), List.getElem?_eq_none (by rw [List.length_zipWith]; omega)]

set_option maxRecDepth 100000 in
set_option maxHeartbeats 4000000 in
theorem or_int (b o b1 o1 b2 o2 : Nat) (z x y : Int) (w : World) (hz : IntAt w b o z) (hx : IntAt w b1 o1 x) (hy : IntAt w b2 o2 y) (hx0 : 0 ≤ x) (hy0 : 0 ≤ y) (hl : (dig x.natAbs).length ≤ 10000000) (hl' : (dig y.natAbs).length ≤ 10000000) :
    Calls Tryz.prog 110 #[.pointer (some ⟨b, o, none⟩), .pointer (some ⟨b1, o1, none⟩), .pointer (some ⟨b2, o2, none⟩)] w fun e w' => e = .returned (.pointer (some ⟨b, o, none⟩)) ∧ IntAt w' b o ((x.natAbs ||| y.natAbs : Nat) : Int) ∧ Upd w w' b o := by
  have HX := Lib.hid hx
  have HY := Lib.hid hy
  have HZ := Lib.hid hz
  have hblt := hz.lt
  obtain ⟨A, n, c, s, HN, HS, h0, h1, hc, HR⟩ := hx.open
  rw [← HN.out] at hl
  obtain ⟨A', n', c', s', HN', HS', h0', h1', hc', HR'⟩ := hy.open
  rw [← HN'.out] at hl'
  clear hx hy hz
  rcases Nat.lt_trichotomy n n' with hc1 | hc1 | hc1
  · have hw1 : IntKind.i64.wrap ((n' : Int) + 1) = (n' : Int) + 1 := IntWalk.i64_in _ (by omega)
    go_enter Tryz.func110, Tryz.ntmps110
    go_wp2_with fail
    go_quiet (fail)
    clear hw1
    go_wp2_with fail
    refine (low_int b1 o1 (n' + 1) x _ (HX.out.below (below_drewN (Below.refl _ _) nq)) hx0 (by rw [← HN.out]; omega) (by omega)).mono ?_
    rintro e w1 ⟨rfl, ho1, hb1⟩
    have z1 := hb1.size
    have hs1 : w.heap.size < w1.heap.size := (ho1.lt w.heap.size rfl).2
    have HO1 := Lib.hid ho1
    have HB1 : Hid (Below w.heap.size w w1) := Lib.hid ((below_drewN (Below.refl w.heap.size w) nq).trans hb1)
    clear ho1 hb1
    go_wp2_with fail
    refine (low_int b2 o2 (n' + 1) y _ (HY.out.below HB1.out) hy0 (by rw [← HN'.out]; omega) (by omega)).mono ?_
    rintro e w2 ⟨rfl, ho2, hb2⟩
    have z2 := hb2.size
    have HO2 := Lib.hid ho2
    have HO1b := Lib.hid (own_below HO1.out hb2)
    have HB2 : Hid (Below w.heap.size w w2) := Lib.hid (below_then HB1.out hb2)
    clear ho2 hb2
    obtain ⟨xs, hxs⟩ : ∃ xs, xs = padded x.natAbs (n' + 1) := ⟨_, rfl⟩
    obtain ⟨ys, hys⟩ : ∃ ys, ys = padded y.natAbs (n' + 1) := ⟨_, rfl⟩
    have hxl : xs.length = n' + 1 := by rw [hxs]; exact padded_len (by rw [← HN.out]; omega)
    have hyl : ys.length = n' + 1 := by rw [hys]; exact padded_len (by rw [← HN'.out]; omega)
    have hxw : Wds xs := by rw [hxs]; exact padded_wds _ _
    have hyw : Wds ys := by rw [hys]; exact padded_wds _ _
    have hxn : nv xs = x.natAbs := by rw [hxs]; exact padded_nv _ _
    have hyn : nv ys = y.natAbs := by rw [hys]; exact padded_nv _ _
    have hxz : ∀ v, xs[n']? = some v → v = 0 := fun v h => by rw [hxs] at h; exact padded_zero (by rw [← HN.out]; omega) h
    have hyz : ∀ v, ys[n']? = some v → v = 0 := fun v h => by rw [hys] at h; exact padded_zero (by rw [← HN'.out]; omega) h
    have HO1c : Hid (w2.ownsRow w.heap.size 139 1 (.slice (some ⟨w.heap.size, 0, none⟩) (n' + 1) (n' + 1)) (n' + 1) (xs.flatMap Wc)) := Lib.hid (by rw [hxs]; exact HO1b.out)
    have HO2c : Hid (w2.ownsRow w1.heap.size 139 1 (.slice (some ⟨w1.heap.size, 0, none⟩) (n' + 1) (n' + 1)) (n' + 1) (ys.flatMap Wc)) := Lib.hid (by rw [hys]; exact HO2.out)
    have HXW := Lib.hid hxw
    have HYW := Lib.hid hyw
    have HXN := Lib.hid hxn
    have HYN := Lib.hid hyn
    have HXZ := Lib.hid hxz
    have HYZ := Lib.hid hyz
    clear hxs hys hxw hyw hxn hyn hxz hyz HO1 HO2 HO1b
    go_wp2_with fail
    go_loopw [10] (fun iv wr => ∃ (k : Nat) (zs : List Nat), k ≤ n' + 1 ∧ iv = .int .i64 k ∧ zs.length = n' + 1 ∧ Wds zs ∧ (∀ (j p q r : Nat), xs[j]? = some p → ys[j]? = some q → zs[j]? = some r → r = if j < k then p ||| q else p) ∧ wr.ownsRow w.heap.size 139 1 (.slice (some ⟨w.heap.size, 0, none⟩) (n' + 1) (n' + 1)) (n' + 1) (zs.flatMap Wc) ∧ wr.ownsRow w1.heap.size 139 1 (.slice (some ⟨w1.heap.size, 0, none⟩) (n' + 1) (n' + 1)) (n' + 1) (ys.flatMap Wc) ∧ Below w.heap.size w wr) (fun iv _ => n' + 1 - (intOf iv).toNat)
    case atStart => exact ⟨0, xs, Nat.zero_le _, rfl, hxl, HXW.out, fun j p q r h1 _ h3 => by rw [h1] at h3; injection h3 with h3; rw [← h3]; simp, HO1c.out, HO2c.out, HB2.out⟩
    case round =>
      obtain ⟨k, zs, hk, rfl, hzl, hzw, hrel', hou, hov, hbw⟩ := hrel
      have HOU := Lib.hid hou
      have HOV := Lib.hid hov
      have HBW := Lib.hid hbw
      have HZW := Lib.hid hzw
      have HREL := Lib.hid hrel'
      clear hou hov hbw hzw hrel'
      by_cases hlt : k < n' + 1
      · have hlt' : (k : Int) < (n' : Int) + 1 := by omega
        have g1 : (0 : Int) ≤ (k : Int) := by omega
        obtain ⟨p, hp⟩ := get_some hxl hlt
        obtain ⟨q, hq⟩ := get_some hyl hlt
        obtain ⟨r, hr⟩ := get_some hzl hlt
        obtain rfl : r = p := by have h := HREL.out k p q r hp hq hr; simpa using h
        have lp := hw0 HZW.out hr
        have lq := hw0 HYW.out hq
        have q1 := own_wc HOU.out hr
        have q2 := own_wc HOV.out hq
        have hf := HOU.out.frozenAt k
        have hbits : bits .or .u32 (r : Int) (q : Int) = ((r ||| q : Nat) : Int) := (bits_nat .u32 32 (by decide) wraps_u32 r q lp lq).2
        have hlr : r ||| q < W32 := Nat.or_lt_two_pow (n := 32) lp lq
        have HP := Lib.hid hp
        have HQ := Lib.hid hq
        have HR9 := Lib.hid hr
        clear hp hq hr
        go_wp2_with fail
        refine wp_region_G (S := (fun w' => w'.cell? ⟨w.heap.size, k, none⟩ = some (.int .u32 (r : Int)) ∧ w'.cell? ⟨w1.heap.size, k, none⟩ = some (.int .u32 (q : Int)))) 10 (by kernel_rfl) ?_ (fun hHeld => ?_)
        · first | exact True.intro | ((try dsimp only); go_keep)
        refine tkG (i := 0) (v := ?_) rfl (by kernel_rfl) (Or.inl ⟨by kernel_rfl, ?_⟩) (by assumption) ?_
        rotate_left 1
        · (intro w hSw; (try dsimp only at hSw); go_simp; try with_reducible rfl)
        try simp only [lyA, lyB, lyC, Act.put, lyD, lyE, lyF]
        refine tkG (i := 1) (v := ?_) rfl (by kernel_rfl) (Or.inl ⟨by kernel_rfl, ?_⟩) (by assumption) ?_
        rotate_left 1
        · (intro w hSw; (try dsimp only at hSw); go_simp; try with_reducible rfl)
        try simp only [lyA, lyB, lyC, Act.put, lyD, lyE, lyF]
        refine tkG (i := 2) (v := ?_) rfl (by kernel_rfl) (Or.inl ⟨by kernel_rfl, ?_⟩) (by assumption) ?_
        rotate_left 1
        · (intro w hSw; (try dsimp only at hSw); go_simp; try with_reducible rfl)
        try simp only [lyA, lyB, lyC, Act.put, lyD, lyE, lyF]
        refine tkG (i := 3) (v := ?_) rfl (by kernel_rfl) (Or.inl ⟨by kernel_rfl, ?_⟩) (by assumption) ?_
        rotate_left 1
        · (intro w hSw; (try dsimp only at hSw); go_simp; try with_reducible rfl)
        try simp only [lyA, lyB, lyC, Act.put, lyD, lyE, lyF]
        refine tkG (i := 4) (v := ?_) rfl (by kernel_rfl) (Or.inl ⟨by kernel_rfl, ?_⟩) (by assumption) ?_
        rotate_left 1
        · (intro w hSw; (try dsimp only at hSw); go_simp; try with_reducible rfl)
        try simp only [lyA, lyB, lyC, Act.put, lyD, lyE, lyF]
        refine tkG (i := 5) (v := ?_) rfl (by kernel_rfl) (Or.inl ⟨by kernel_rfl, ?_⟩) (by assumption) ?_
        rotate_left 1
        · (intro w hSw; (try dsimp only at hSw); go_simp; try with_reducible rfl)
        try simp only [lyA, lyB, lyC, Act.put, lyD, lyE, lyF]
        refine tkG (i := 6) (v := ?_) rfl (by kernel_rfl) (Or.inl ⟨by kernel_rfl, ?_⟩) (by assumption) ?_
        rotate_left 1
        · (intro w hSw; (try dsimp only at hSw); go_simp; try with_reducible rfl)
        try simp only [lyA, lyB, lyC, Act.put, lyD, lyE, lyF]
        refine tkG (i := 7) (v := ?_) rfl (by kernel_rfl) (Or.inl ⟨by kernel_rfl, ?_⟩) (by assumption) ?_
        rotate_left 1
        · (intro w hSw; (try dsimp only at hSw); go_simp; try with_reducible rfl)
        try simp only [lyA, lyB, lyC, Act.put, lyD, lyE, lyF]
        refine tkG (i := 8) (v := ?_) rfl (by kernel_rfl) (Or.inl ⟨by kernel_rfl, ?_⟩) (by assumption) ?_
        rotate_left 1
        · (intro w hSw; (try dsimp only at hSw); go_simp; try with_reducible rfl)
        try simp only [lyA, lyB, lyC, Act.put, lyD, lyE, lyF]
        refine tkG (i := 9) (v := ?_) rfl (by kernel_rfl) (Or.inl ⟨by kernel_rfl, ?_⟩) (by assumption) ?_
        rotate_left 1
        · (intro w hSw; (try dsimp only at hSw); go_simp; try with_reducible rfl)
        try simp only [lyA, lyB, lyC, Act.put, lyD, lyE, lyF]
        refine wpAnyG_one (i := 10) (by kernel_rfl) rfl (fun K hK => ?_)
        go_simp
        refine hK.out _ _ ?_ (fun hHeld => ?_)
        · exact .inr (by kernel_rfl)
        clear hK K
        try simp only [lyA, lyB, lyC, Act.put, lyD, lyE, lyF]
        refine wpAnyG_done (by kernel_rfl) ?_ _
        go_wp2_with fail
        have ho1 := own_set_wc (own_drewN HOU.out 1) (i := k) (by omega) (r ||| q)
        have hv1 := (own_drewN HOV.out 1).kept ho1.2 (.inr (by simp only [Value.ownBlock]; intro e; injection e with e; omega))
        have hb1 := (below_drewN HBW.out 1).grown ho1.2 (Nat.le_of_lt (HOU.out.lt w.heap.size rfl).2) (fun g hg => by injection hg with hg; omega)
        exact ⟨⟨k + 1, zs.set k (r ||| q), by omega, by go_num, by simp [hzl], wds_set HZW.out hlr, zip_step (f := fun p q => p ||| q) HREL.out HP.out HQ.out rfl, ho1.1, hv1, hb1⟩, by simp [intOf]; omega⟩
      · obtain rfl : n' + 1 = k := by omega
        have hzip : zs = List.zipWith (· ||| ·) xs ys := get_zip_or hxl hyl hzl fun i p q r h1 h2 h3 => by
          have h := HREL.out i p q r h1 h2 h3
          rw [if_pos (by have := (List.getElem?_eq_some_iff.1 h1).1; omega)] at h
          exact h
        have hval : nv zs = x.natAbs ||| y.natAbs := by rw [hzip, nv_or xs ys (by omega) HXW.out HYW.out, HXN.out, HYN.out]
        obtain ⟨p, hp⟩ := get_some hxl (show n' < n' + 1 by omega)
        obtain ⟨q, hq⟩ := get_some hyl (show n' < n' + 1 by omega)
        obtain ⟨r, hr⟩ := get_some hzl (show n' < n' + 1 by omega)
        have hr0 : r = 0 := by
          have h := HREL.out n' p q r hp hq hr
          rw [HXZ.out p hp, HYZ.out q hq] at h
          simpa using h
        subst hr0
        have HVAL := Lib.hid hval
        have HR9 := Lib.hid hr
        clear hzip hval hp hq hr
        go_wp2_with fail
        refine (of_int b o n' w.heap.size w.heap.size z zs _ (HZ.out.below (HBW.out)) HOU.out HZW.out HR9.out (by omega)).mono ?_
        rintro e w5 ⟨rfl, hi5, hu5⟩
        rw [HVAL.out] at hi5
        have HI5 := Lib.hid hi5
        have HU5 := Lib.hid hu5
        clear hi5 hu5
        go_wp2_with fail
        go_ret
        exact ⟨rfl, HI5.out, Upd.after HBW.out HU5.out hblt⟩
  · subst hc1
    have hw1 : IntKind.i64.wrap ((n : Int) + 1) = (n : Int) + 1 := IntWalk.i64_in _ (by omega)
    go_enter Tryz.func110, Tryz.ntmps110
    go_wp2_with fail
    go_quiet (fail)
    clear hw1
    go_wp2_with fail
    refine (low_int b1 o1 (n + 1) x _ (HX.out.below (below_drewN (Below.refl _ _) nq)) hx0 (by rw [← HN.out]; omega) (by omega)).mono ?_
    rintro e w1 ⟨rfl, ho1, hb1⟩
    have z1 := hb1.size
    have hs1 : w.heap.size < w1.heap.size := (ho1.lt w.heap.size rfl).2
    have HO1 := Lib.hid ho1
    have HB1 : Hid (Below w.heap.size w w1) := Lib.hid ((below_drewN (Below.refl w.heap.size w) nq).trans hb1)
    clear ho1 hb1
    go_wp2_with fail
    refine (low_int b2 o2 (n + 1) y _ (HY.out.below HB1.out) hy0 (by rw [← HN'.out]; omega) (by omega)).mono ?_
    rintro e w2 ⟨rfl, ho2, hb2⟩
    have z2 := hb2.size
    have HO2 := Lib.hid ho2
    have HO1b := Lib.hid (own_below HO1.out hb2)
    have HB2 : Hid (Below w.heap.size w w2) := Lib.hid (below_then HB1.out hb2)
    clear ho2 hb2
    obtain ⟨xs, hxs⟩ : ∃ xs, xs = padded x.natAbs (n + 1) := ⟨_, rfl⟩
    obtain ⟨ys, hys⟩ : ∃ ys, ys = padded y.natAbs (n + 1) := ⟨_, rfl⟩
    have hxl : xs.length = n + 1 := by rw [hxs]; exact padded_len (by rw [← HN.out]; omega)
    have hyl : ys.length = n + 1 := by rw [hys]; exact padded_len (by rw [← HN'.out]; omega)
    have hxw : Wds xs := by rw [hxs]; exact padded_wds _ _
    have hyw : Wds ys := by rw [hys]; exact padded_wds _ _
    have hxn : nv xs = x.natAbs := by rw [hxs]; exact padded_nv _ _
    have hyn : nv ys = y.natAbs := by rw [hys]; exact padded_nv _ _
    have hxz : ∀ v, xs[n]? = some v → v = 0 := fun v h => by rw [hxs] at h; exact padded_zero (by rw [← HN.out]; omega) h
    have hyz : ∀ v, ys[n]? = some v → v = 0 := fun v h => by rw [hys] at h; exact padded_zero (by rw [← HN'.out]; omega) h
    have HO1c : Hid (w2.ownsRow w.heap.size 139 1 (.slice (some ⟨w.heap.size, 0, none⟩) (n + 1) (n + 1)) (n + 1) (xs.flatMap Wc)) := Lib.hid (by rw [hxs]; exact HO1b.out)
    have HO2c : Hid (w2.ownsRow w1.heap.size 139 1 (.slice (some ⟨w1.heap.size, 0, none⟩) (n + 1) (n + 1)) (n + 1) (ys.flatMap Wc)) := Lib.hid (by rw [hys]; exact HO2.out)
    have HXW := Lib.hid hxw
    have HYW := Lib.hid hyw
    have HXN := Lib.hid hxn
    have HYN := Lib.hid hyn
    have HXZ := Lib.hid hxz
    have HYZ := Lib.hid hyz
    clear hxs hys hxw hyw hxn hyn hxz hyz HO1 HO2 HO1b
    go_wp2_with fail
    go_loopw [10] (fun iv wr => ∃ (k : Nat) (zs : List Nat), k ≤ n + 1 ∧ iv = .int .i64 k ∧ zs.length = n + 1 ∧ Wds zs ∧ (∀ (j p q r : Nat), xs[j]? = some p → ys[j]? = some q → zs[j]? = some r → r = if j < k then p ||| q else p) ∧ wr.ownsRow w.heap.size 139 1 (.slice (some ⟨w.heap.size, 0, none⟩) (n + 1) (n + 1)) (n + 1) (zs.flatMap Wc) ∧ wr.ownsRow w1.heap.size 139 1 (.slice (some ⟨w1.heap.size, 0, none⟩) (n + 1) (n + 1)) (n + 1) (ys.flatMap Wc) ∧ Below w.heap.size w wr) (fun iv _ => n + 1 - (intOf iv).toNat)
    case atStart => exact ⟨0, xs, Nat.zero_le _, rfl, hxl, HXW.out, fun j p q r h1 _ h3 => by rw [h1] at h3; injection h3 with h3; rw [← h3]; simp, HO1c.out, HO2c.out, HB2.out⟩
    case round =>
      obtain ⟨k, zs, hk, rfl, hzl, hzw, hrel', hou, hov, hbw⟩ := hrel
      have HOU := Lib.hid hou
      have HOV := Lib.hid hov
      have HBW := Lib.hid hbw
      have HZW := Lib.hid hzw
      have HREL := Lib.hid hrel'
      clear hou hov hbw hzw hrel'
      by_cases hlt : k < n + 1
      · have hlt' : (k : Int) < (n : Int) + 1 := by omega
        have g1 : (0 : Int) ≤ (k : Int) := by omega
        obtain ⟨p, hp⟩ := get_some hxl hlt
        obtain ⟨q, hq⟩ := get_some hyl hlt
        obtain ⟨r, hr⟩ := get_some hzl hlt
        obtain rfl : r = p := by have h := HREL.out k p q r hp hq hr; simpa using h
        have lp := hw0 HZW.out hr
        have lq := hw0 HYW.out hq
        have q1 := own_wc HOU.out hr
        have q2 := own_wc HOV.out hq
        have hf := HOU.out.frozenAt k
        have hbits : bits .or .u32 (r : Int) (q : Int) = ((r ||| q : Nat) : Int) := (bits_nat .u32 32 (by decide) wraps_u32 r q lp lq).2
        have hlr : r ||| q < W32 := Nat.or_lt_two_pow (n := 32) lp lq
        have HP := Lib.hid hp
        have HQ := Lib.hid hq
        have HR9 := Lib.hid hr
        clear hp hq hr
        go_wp2_with fail
        refine wp_region_G (S := (fun w' => w'.cell? ⟨w.heap.size, k, none⟩ = some (.int .u32 (r : Int)) ∧ w'.cell? ⟨w1.heap.size, k, none⟩ = some (.int .u32 (q : Int)))) 10 (by kernel_rfl) ?_ (fun hHeld => ?_)
        · first | exact True.intro | ((try dsimp only); go_keep)
        refine tkG (i := 0) (v := ?_) rfl (by kernel_rfl) (Or.inl ⟨by kernel_rfl, ?_⟩) (by assumption) ?_
        rotate_left 1
        · (intro w hSw; (try dsimp only at hSw); go_simp; try with_reducible rfl)
        try simp only [lyA, lyB, lyC, Act.put, lyD, lyE, lyF]
        refine tkG (i := 1) (v := ?_) rfl (by kernel_rfl) (Or.inl ⟨by kernel_rfl, ?_⟩) (by assumption) ?_
        rotate_left 1
        · (intro w hSw; (try dsimp only at hSw); go_simp; try with_reducible rfl)
        try simp only [lyA, lyB, lyC, Act.put, lyD, lyE, lyF]
        refine tkG (i := 2) (v := ?_) rfl (by kernel_rfl) (Or.inl ⟨by kernel_rfl, ?_⟩) (by assumption) ?_
        rotate_left 1
        · (intro w hSw; (try dsimp only at hSw); go_simp; try with_reducible rfl)
        try simp only [lyA, lyB, lyC, Act.put, lyD, lyE, lyF]
        refine tkG (i := 3) (v := ?_) rfl (by kernel_rfl) (Or.inl ⟨by kernel_rfl, ?_⟩) (by assumption) ?_
        rotate_left 1
        · (intro w hSw; (try dsimp only at hSw); go_simp; try with_reducible rfl)
        try simp only [lyA, lyB, lyC, Act.put, lyD, lyE, lyF]
        refine tkG (i := 4) (v := ?_) rfl (by kernel_rfl) (Or.inl ⟨by kernel_rfl, ?_⟩) (by assumption) ?_
        rotate_left 1
        · (intro w hSw; (try dsimp only at hSw); go_simp; try with_reducible rfl)
        try simp only [lyA, lyB, lyC, Act.put, lyD, lyE, lyF]
        refine tkG (i := 5) (v := ?_) rfl (by kernel_rfl) (Or.inl ⟨by kernel_rfl, ?_⟩) (by assumption) ?_
        rotate_left 1
        · (intro w hSw; (try dsimp only at hSw); go_simp; try with_reducible rfl)
        try simp only [lyA, lyB, lyC, Act.put, lyD, lyE, lyF]
        refine tkG (i := 6) (v := ?_) rfl (by kernel_rfl) (Or.inl ⟨by kernel_rfl, ?_⟩) (by assumption) ?_
        rotate_left 1
        · (intro w hSw; (try dsimp only at hSw); go_simp; try with_reducible rfl)
        try simp only [lyA, lyB, lyC, Act.put, lyD, lyE, lyF]
        refine tkG (i := 7) (v := ?_) rfl (by kernel_rfl) (Or.inl ⟨by kernel_rfl, ?_⟩) (by assumption) ?_
        rotate_left 1
        · (intro w hSw; (try dsimp only at hSw); go_simp; try with_reducible rfl)
        try simp only [lyA, lyB, lyC, Act.put, lyD, lyE, lyF]
        refine tkG (i := 8) (v := ?_) rfl (by kernel_rfl) (Or.inl ⟨by kernel_rfl, ?_⟩) (by assumption) ?_
        rotate_left 1
        · (intro w hSw; (try dsimp only at hSw); go_simp; try with_reducible rfl)
        try simp only [lyA, lyB, lyC, Act.put, lyD, lyE, lyF]
        refine tkG (i := 9) (v := ?_) rfl (by kernel_rfl) (Or.inl ⟨by kernel_rfl, ?_⟩) (by assumption) ?_
        rotate_left 1
        · (intro w hSw; (try dsimp only at hSw); go_simp; try with_reducible rfl)
        try simp only [lyA, lyB, lyC, Act.put, lyD, lyE, lyF]
        refine wpAnyG_one (i := 10) (by kernel_rfl) rfl (fun K hK => ?_)
        go_simp
        refine hK.out _ _ ?_ (fun hHeld => ?_)
        · exact .inr (by kernel_rfl)
        clear hK K
        try simp only [lyA, lyB, lyC, Act.put, lyD, lyE, lyF]
        refine wpAnyG_done (by kernel_rfl) ?_ _
        go_wp2_with fail
        have ho1 := own_set_wc (own_drewN HOU.out 1) (i := k) (by omega) (r ||| q)
        have hv1 := (own_drewN HOV.out 1).kept ho1.2 (.inr (by simp only [Value.ownBlock]; intro e; injection e with e; omega))
        have hb1 := (below_drewN HBW.out 1).grown ho1.2 (Nat.le_of_lt (HOU.out.lt w.heap.size rfl).2) (fun g hg => by injection hg with hg; omega)
        exact ⟨⟨k + 1, zs.set k (r ||| q), by omega, by go_num, by simp [hzl], wds_set HZW.out hlr, zip_step (f := fun p q => p ||| q) HREL.out HP.out HQ.out rfl, ho1.1, hv1, hb1⟩, by simp [intOf]; omega⟩
      · obtain rfl : n + 1 = k := by omega
        have hzip : zs = List.zipWith (· ||| ·) xs ys := get_zip_or hxl hyl hzl fun i p q r h1 h2 h3 => by
          have h := HREL.out i p q r h1 h2 h3
          rw [if_pos (by have := (List.getElem?_eq_some_iff.1 h1).1; omega)] at h
          exact h
        have hval : nv zs = x.natAbs ||| y.natAbs := by rw [hzip, nv_or xs ys (by omega) HXW.out HYW.out, HXN.out, HYN.out]
        obtain ⟨p, hp⟩ := get_some hxl (show n < n + 1 by omega)
        obtain ⟨q, hq⟩ := get_some hyl (show n < n + 1 by omega)
        obtain ⟨r, hr⟩ := get_some hzl (show n < n + 1 by omega)
        have hr0 : r = 0 := by
          have h := HREL.out n p q r hp hq hr
          rw [HXZ.out p hp, HYZ.out q hq] at h
          simpa using h
        subst hr0
        have HVAL := Lib.hid hval
        have HR9 := Lib.hid hr
        clear hzip hval hp hq hr
        go_wp2_with fail
        refine (of_int b o n w.heap.size w.heap.size z zs _ (HZ.out.below (HBW.out)) HOU.out HZW.out HR9.out (by omega)).mono ?_
        rintro e w5 ⟨rfl, hi5, hu5⟩
        rw [HVAL.out] at hi5
        have HI5 := Lib.hid hi5
        have HU5 := Lib.hid hu5
        clear hi5 hu5
        go_wp2_with fail
        go_ret
        exact ⟨rfl, HI5.out, Upd.after HBW.out HU5.out hblt⟩
  · have hw1 : IntKind.i64.wrap ((n : Int) + 1) = (n : Int) + 1 := IntWalk.i64_in _ (by omega)
    go_enter Tryz.func110, Tryz.ntmps110
    go_wp2_with fail
    go_quiet (fail)
    clear hw1
    go_wp2_with fail
    refine (low_int b1 o1 (n + 1) x _ (HX.out.below (below_drewN (Below.refl _ _) nq)) hx0 (by rw [← HN.out]; omega) (by omega)).mono ?_
    rintro e w1 ⟨rfl, ho1, hb1⟩
    have z1 := hb1.size
    have hs1 : w.heap.size < w1.heap.size := (ho1.lt w.heap.size rfl).2
    have HO1 := Lib.hid ho1
    have HB1 : Hid (Below w.heap.size w w1) := Lib.hid ((below_drewN (Below.refl w.heap.size w) nq).trans hb1)
    clear ho1 hb1
    go_wp2_with fail
    refine (low_int b2 o2 (n + 1) y _ (HY.out.below HB1.out) hy0 (by rw [← HN'.out]; omega) (by omega)).mono ?_
    rintro e w2 ⟨rfl, ho2, hb2⟩
    have z2 := hb2.size
    have HO2 := Lib.hid ho2
    have HO1b := Lib.hid (own_below HO1.out hb2)
    have HB2 : Hid (Below w.heap.size w w2) := Lib.hid (below_then HB1.out hb2)
    clear ho2 hb2
    obtain ⟨xs, hxs⟩ : ∃ xs, xs = padded x.natAbs (n + 1) := ⟨_, rfl⟩
    obtain ⟨ys, hys⟩ : ∃ ys, ys = padded y.natAbs (n + 1) := ⟨_, rfl⟩
    have hxl : xs.length = n + 1 := by rw [hxs]; exact padded_len (by rw [← HN.out]; omega)
    have hyl : ys.length = n + 1 := by rw [hys]; exact padded_len (by rw [← HN'.out]; omega)
    have hxw : Wds xs := by rw [hxs]; exact padded_wds _ _
    have hyw : Wds ys := by rw [hys]; exact padded_wds _ _
    have hxn : nv xs = x.natAbs := by rw [hxs]; exact padded_nv _ _
    have hyn : nv ys = y.natAbs := by rw [hys]; exact padded_nv _ _
    have hxz : ∀ v, xs[n]? = some v → v = 0 := fun v h => by rw [hxs] at h; exact padded_zero (by rw [← HN.out]; omega) h
    have hyz : ∀ v, ys[n]? = some v → v = 0 := fun v h => by rw [hys] at h; exact padded_zero (by rw [← HN'.out]; omega) h
    have HO1c : Hid (w2.ownsRow w.heap.size 139 1 (.slice (some ⟨w.heap.size, 0, none⟩) (n + 1) (n + 1)) (n + 1) (xs.flatMap Wc)) := Lib.hid (by rw [hxs]; exact HO1b.out)
    have HO2c : Hid (w2.ownsRow w1.heap.size 139 1 (.slice (some ⟨w1.heap.size, 0, none⟩) (n + 1) (n + 1)) (n + 1) (ys.flatMap Wc)) := Lib.hid (by rw [hys]; exact HO2.out)
    have HXW := Lib.hid hxw
    have HYW := Lib.hid hyw
    have HXN := Lib.hid hxn
    have HYN := Lib.hid hyn
    have HXZ := Lib.hid hxz
    have HYZ := Lib.hid hyz
    clear hxs hys hxw hyw hxn hyn hxz hyz HO1 HO2 HO1b
    go_wp2_with fail
    go_loopw [10] (fun iv wr => ∃ (k : Nat) (zs : List Nat), k ≤ n + 1 ∧ iv = .int .i64 k ∧ zs.length = n + 1 ∧ Wds zs ∧ (∀ (j p q r : Nat), xs[j]? = some p → ys[j]? = some q → zs[j]? = some r → r = if j < k then p ||| q else p) ∧ wr.ownsRow w.heap.size 139 1 (.slice (some ⟨w.heap.size, 0, none⟩) (n + 1) (n + 1)) (n + 1) (zs.flatMap Wc) ∧ wr.ownsRow w1.heap.size 139 1 (.slice (some ⟨w1.heap.size, 0, none⟩) (n + 1) (n + 1)) (n + 1) (ys.flatMap Wc) ∧ Below w.heap.size w wr) (fun iv _ => n + 1 - (intOf iv).toNat)
    case atStart => exact ⟨0, xs, Nat.zero_le _, rfl, hxl, HXW.out, fun j p q r h1 _ h3 => by rw [h1] at h3; injection h3 with h3; rw [← h3]; simp, HO1c.out, HO2c.out, HB2.out⟩
    case round =>
      obtain ⟨k, zs, hk, rfl, hzl, hzw, hrel', hou, hov, hbw⟩ := hrel
      have HOU := Lib.hid hou
      have HOV := Lib.hid hov
      have HBW := Lib.hid hbw
      have HZW := Lib.hid hzw
      have HREL := Lib.hid hrel'
      clear hou hov hbw hzw hrel'
      by_cases hlt : k < n + 1
      · have hlt' : (k : Int) < (n : Int) + 1 := by omega
        have g1 : (0 : Int) ≤ (k : Int) := by omega
        obtain ⟨p, hp⟩ := get_some hxl hlt
        obtain ⟨q, hq⟩ := get_some hyl hlt
        obtain ⟨r, hr⟩ := get_some hzl hlt
        obtain rfl : r = p := by have h := HREL.out k p q r hp hq hr; simpa using h
        have lp := hw0 HZW.out hr
        have lq := hw0 HYW.out hq
        have q1 := own_wc HOU.out hr
        have q2 := own_wc HOV.out hq
        have hf := HOU.out.frozenAt k
        have hbits : bits .or .u32 (r : Int) (q : Int) = ((r ||| q : Nat) : Int) := (bits_nat .u32 32 (by decide) wraps_u32 r q lp lq).2
        have hlr : r ||| q < W32 := Nat.or_lt_two_pow (n := 32) lp lq
        have HP := Lib.hid hp
        have HQ := Lib.hid hq
        have HR9 := Lib.hid hr
        clear hp hq hr
        go_wp2_with fail
        refine wp_region_G (S := (fun w' => w'.cell? ⟨w.heap.size, k, none⟩ = some (.int .u32 (r : Int)) ∧ w'.cell? ⟨w1.heap.size, k, none⟩ = some (.int .u32 (q : Int)))) 10 (by kernel_rfl) ?_ (fun hHeld => ?_)
        · first | exact True.intro | ((try dsimp only); go_keep)
        refine tkG (i := 0) (v := ?_) rfl (by kernel_rfl) (Or.inl ⟨by kernel_rfl, ?_⟩) (by assumption) ?_
        rotate_left 1
        · (intro w hSw; (try dsimp only at hSw); go_simp; try with_reducible rfl)
        try simp only [lyA, lyB, lyC, Act.put, lyD, lyE, lyF]
        refine tkG (i := 1) (v := ?_) rfl (by kernel_rfl) (Or.inl ⟨by kernel_rfl, ?_⟩) (by assumption) ?_
        rotate_left 1
        · (intro w hSw; (try dsimp only at hSw); go_simp; try with_reducible rfl)
        try simp only [lyA, lyB, lyC, Act.put, lyD, lyE, lyF]
        refine tkG (i := 2) (v := ?_) rfl (by kernel_rfl) (Or.inl ⟨by kernel_rfl, ?_⟩) (by assumption) ?_
        rotate_left 1
        · (intro w hSw; (try dsimp only at hSw); go_simp; try with_reducible rfl)
        try simp only [lyA, lyB, lyC, Act.put, lyD, lyE, lyF]
        refine tkG (i := 3) (v := ?_) rfl (by kernel_rfl) (Or.inl ⟨by kernel_rfl, ?_⟩) (by assumption) ?_
        rotate_left 1
        · (intro w hSw; (try dsimp only at hSw); go_simp; try with_reducible rfl)
        try simp only [lyA, lyB, lyC, Act.put, lyD, lyE, lyF]
        refine tkG (i := 4) (v := ?_) rfl (by kernel_rfl) (Or.inl ⟨by kernel_rfl, ?_⟩) (by assumption) ?_
        rotate_left 1
        · (intro w hSw; (try dsimp only at hSw); go_simp; try with_reducible rfl)
        try simp only [lyA, lyB, lyC, Act.put, lyD, lyE, lyF]
        refine tkG (i := 5) (v := ?_) rfl (by kernel_rfl) (Or.inl ⟨by kernel_rfl, ?_⟩) (by assumption) ?_
        rotate_left 1
        · (intro w hSw; (try dsimp only at hSw); go_simp; try with_reducible rfl)
        try simp only [lyA, lyB, lyC, Act.put, lyD, lyE, lyF]
        refine tkG (i := 6) (v := ?_) rfl (by kernel_rfl) (Or.inl ⟨by kernel_rfl, ?_⟩) (by assumption) ?_
        rotate_left 1
        · (intro w hSw; (try dsimp only at hSw); go_simp; try with_reducible rfl)
        try simp only [lyA, lyB, lyC, Act.put, lyD, lyE, lyF]
        refine tkG (i := 7) (v := ?_) rfl (by kernel_rfl) (Or.inl ⟨by kernel_rfl, ?_⟩) (by assumption) ?_
        rotate_left 1
        · (intro w hSw; (try dsimp only at hSw); go_simp; try with_reducible rfl)
        try simp only [lyA, lyB, lyC, Act.put, lyD, lyE, lyF]
        refine tkG (i := 8) (v := ?_) rfl (by kernel_rfl) (Or.inl ⟨by kernel_rfl, ?_⟩) (by assumption) ?_
        rotate_left 1
        · (intro w hSw; (try dsimp only at hSw); go_simp; try with_reducible rfl)
        try simp only [lyA, lyB, lyC, Act.put, lyD, lyE, lyF]
        refine tkG (i := 9) (v := ?_) rfl (by kernel_rfl) (Or.inl ⟨by kernel_rfl, ?_⟩) (by assumption) ?_
        rotate_left 1
        · (intro w hSw; (try dsimp only at hSw); go_simp; try with_reducible rfl)
        try simp only [lyA, lyB, lyC, Act.put, lyD, lyE, lyF]
        refine wpAnyG_one (i := 10) (by kernel_rfl) rfl (fun K hK => ?_)
        go_simp
        refine hK.out _ _ ?_ (fun hHeld => ?_)
        · exact .inr (by kernel_rfl)
        clear hK K
        try simp only [lyA, lyB, lyC, Act.put, lyD, lyE, lyF]
        refine wpAnyG_done (by kernel_rfl) ?_ _
        go_wp2_with fail
        have ho1 := own_set_wc (own_drewN HOU.out 1) (i := k) (by omega) (r ||| q)
        have hv1 := (own_drewN HOV.out 1).kept ho1.2 (.inr (by simp only [Value.ownBlock]; intro e; injection e with e; omega))
        have hb1 := (below_drewN HBW.out 1).grown ho1.2 (Nat.le_of_lt (HOU.out.lt w.heap.size rfl).2) (fun g hg => by injection hg with hg; omega)
        exact ⟨⟨k + 1, zs.set k (r ||| q), by omega, by go_num, by simp [hzl], wds_set HZW.out hlr, zip_step (f := fun p q => p ||| q) HREL.out HP.out HQ.out rfl, ho1.1, hv1, hb1⟩, by simp [intOf]; omega⟩
      · obtain rfl : n + 1 = k := by omega
        have hzip : zs = List.zipWith (· ||| ·) xs ys := get_zip_or hxl hyl hzl fun i p q r h1 h2 h3 => by
          have h := HREL.out i p q r h1 h2 h3
          rw [if_pos (by have := (List.getElem?_eq_some_iff.1 h1).1; omega)] at h
          exact h
        have hval : nv zs = x.natAbs ||| y.natAbs := by rw [hzip, nv_or xs ys (by omega) HXW.out HYW.out, HXN.out, HYN.out]
        obtain ⟨p, hp⟩ := get_some hxl (show n < n + 1 by omega)
        obtain ⟨q, hq⟩ := get_some hyl (show n < n + 1 by omega)
        obtain ⟨r, hr⟩ := get_some hzl (show n < n + 1 by omega)
        have hr0 : r = 0 := by
          have h := HREL.out n p q r hp hq hr
          rw [HXZ.out p hp, HYZ.out q hq] at h
          simpa using h
        subst hr0
        have HVAL := Lib.hid hval
        have HR9 := Lib.hid hr
        clear hzip hval hp hq hr
        go_wp2_with fail
        refine (of_int b o n w.heap.size w.heap.size z zs _ (HZ.out.below (HBW.out)) HOU.out HZW.out HR9.out (by omega)).mono ?_
        rintro e w5 ⟨rfl, hi5, hu5⟩
        rw [HVAL.out] at hi5
        have HI5 := Lib.hid hi5
        have HU5 := Lib.hid hu5
        clear hi5 hu5
        go_wp2_with fail
        go_ret
        exact ⟨rfl, HI5.out, Upd.after HBW.out HU5.out hblt⟩

end Go.Proofs.YtkfhbnfoiicioaaGreatDoor

/- Rsh (numbers not below 0), ratio.limbs: the walks -/
namespace Go.Proofs.YtkfhbnfoiicioaaGreatDoor
open Go.RowKit Go.Sort

set_option maxRecDepth 100000 in
set_option maxHeartbeats 2000000 in
theorem rsh_int (b o b1 o1 : Nat) (z : Int) (x k : Nat) (w : World) (hz : IntAt w b o z) (hx : IntAt w b1 o1 (x : Int)) (hl : (dig x).length ≤ 10000000) (hk : k ≤ 100000000) :
    Calls Tryz.prog 124 #[.pointer (some ⟨b, o, none⟩), .pointer (some ⟨b1, o1, none⟩), .int .u64 (k : Int)] w (IntGot b o ((x / 2 ^ k : Nat) : Int) w) := by
  obtain ⟨A, n, c, s, HN, HS, h0, h1, hc, HR⟩ := hx.open
  rw [Int.natAbs_natCast] at HN HR
  rw [← HN.out] at hl
  have HZ := Lib.hid hz
  obtain rfl : s = false := by rw [HS.out]; simp
  clear hz hx
  have hR : RdE Wc 1 w (fun d => d < w.heap.size) A n (dig x) := HR.out.keep (fun _ _ => rfl)
  have HR' := Lib.hid hR
  obtain ⟨y, hy⟩ : ∃ y, y = x / 2 ^ k := ⟨_, rfl⟩
  rw [← hy]
  have HY := Lib.hid hy
  clear hR hy
  go_enter Tryz.func124, Tryz.ntmps124
  go_wp2_with fail
  refine (right_k _ _ _ x k _ _ HR'.out (fun b hb => hb) (by omega) hk).mono ?_
  rw [← HY.out]
  rintro e w1 ⟨A1, c1, rfl, hc1, hr1, hb1⟩
  have HR1 := Lib.hid hr1
  have HB1 := Lib.hid hb1
  clear hr1 hb1
  go_wp2_with fail
  refine (give_int _ _ (y : Int) z false A1 _ c1 w1 (HZ.out.below HB1.out) rfl hc1 (HR1.out.imp fun d hd => hd.2) (by simp)).mono ?_
  rintro e w2 ⟨rfl, hi2, hu2⟩
  have HI2 := Lib.hid hi2
  have HU2 := Lib.hid hu2
  clear hi2 hu2
  go_wp2_with fail
  go_ret
  exact ⟨rfl, HI2.out, Upd.after HB1.out HU2.out HZ.out.lt⟩

def M64 : Nat := 18446744073709551615
theorem M64_and (x : Nat) : x &&& M64 = x % 18446744073709551616 := Nat.and_two_pow_sub_one_eq_mod x 64
theorem setU_mask (b o : Nat) (z : Int) (w : World) (hz : IntAt w b o z) :
    Calls Tryz.prog 111 #[.pointer (some ⟨b, o, none⟩), .int .u64 18446744073709551615] w (IntGot b o (M64 : Int) w) :=
  setU_int b o z M64 w hz (by decide)
theorem M64_len : (dig M64).length ≤ 2 := dig_len_small (by decide)

theorem info_u64 : (Tryz.prog.info? 58).map (fun i => (i.zero, i.size, i.bytes)) = some (some (.int .u64 0), 1, 8) := by kernel_rfl
theorem lc_one (xs : List Nat) : ∀ u ∈ xs.flatMap Lc, u.oneCell' = true := by
  intro u hu
  obtain ⟨x, _, hx⟩ := List.mem_flatMap.1 hu
  simp [Lc] at hx
  subst hx
  rfl
end Go.Proofs.YtkfhbnfoiicioaaGreatDoor

/-
  A region that draws its order, by an invariant: J is shown behind each operation, whichever came before.
-/
namespace Go.Proofs.YtkfhbnfoiicioaaGreatDoor
open Go.RowKit Go.Sort

section
variable {P : Program} {ops : Array Oper} {md : Region.Mode} {Q : Exit → Act → World → Prop}
/-- a slot that an operation fills -/
def iv (c : Bool) (v u : Value) : Value := if c then v else u
end

end Go.Proofs.YtkfhbnfoiicioaaGreatDoor

/- Rat: Mul, Quo, Add, Sub: the walks (printed by wip/Int/gen_r3.py) -/
namespace Go.Proofs.YtkfhbnfoiicioaaGreatDoor
open Go.RowKit Go.Sort
theorem mul_len (a b : Nat) : (dig (a * b)).length ≤ (dig a).length + (dig b).length := by
  apply dig_len_le
  rw [Nat.pow_add]
  exact Nat.mul_lt_mul_of_lt_of_lt (lt_dig_len a) (lt_dig_len b)

end Go.Proofs.YtkfhbnfoiicioaaGreatDoor

/- ratio.fraction, told: the walks -/
namespace Go.Proofs.YtkfhbnfoiicioaaGreatDoor
open Go.RowKit Go.Sort
theorem dig_ln_len {ls : List Nat} (h : Lds ls) : (dig (ln ls)).length ≤ 2 * ls.length := dig_len_le (by
  have := ln_lt h
  rw [Nat.pow_mul]
  exact this)
end Go.Proofs.YtkfhbnfoiicioaaGreatDoor

/- ratio.told: the walk -/
namespace Go.Proofs.YtkfhbnfoiicioaaGreatDoor
open Go.RowKit Go.Sort
theorem sgnI_zero {x : Int} : (sgnI x == 0) = decide (x = 0) := by
  unfold sgnI
  by_cases h : x < 0
  · have : x ≠ 0 := by omega
    simp [h, this]
  · by_cases h0 : x = 0 <;> simp [h, h0]
theorem sgnI_lt {x : Int} : decide (sgnI x < 0) = decide (x < 0) := by
  unfold sgnI
  by_cases h : x < 0
  · simp [h]; try omega
  · by_cases h0 : x = 0
    · simp [h0]
    · simp [h, h0]
theorem blk_cells {w : World} {g : Nat} {cs : Array Value} {t : TypeId} (h : w.heap[g]? = some (.cells cs t (0, 0))) : (∀ i, w.cell? ⟨g, i, none⟩ = cs[i]?) ∧ (∀ i, w.frozen? ⟨g, i, none⟩ = false) :=
  ⟨fun i => by simp [World.cell?, h], fun i => by simp [World.frozen?, h]⟩
end Go.Proofs.YtkfhbnfoiicioaaGreatDoor

/- Int.Cmp; ratio.Sign, Int: the walks -/
namespace Go.Proofs.YtkfhbnfoiicioaaGreatDoor
open Go.RowKit Go.Sort

/-- -1, 0, 1 -/
def cmpI (x y : Int) : Int := if x < y then -1 else if y < x then 1 else 0
theorem cmpI_nat {x y : Int} (hx : 0 ≤ x) (hy : 0 ≤ y) : cmpI x y = cmpN x.natAbs y.natAbs := by
  unfold cmpI cmpN
  have e1 : x < y ↔ x.natAbs < y.natAbs := by omega
  have e2 : y < x ↔ y.natAbs < x.natAbs := by omega
  simp only [e1, e2]
theorem cmpI_neg {x y : Int} (hx : x < 0) (hy : y < 0) : cmpI x y = -cmpN x.natAbs y.natAbs := by
  unfold cmpI cmpN
  have e1 : x < y ↔ y.natAbs < x.natAbs := by omega
  have e2 : y < x ↔ x.natAbs < y.natAbs := by omega
  simp only [e1, e2]
  by_cases h1 : x.natAbs < y.natAbs
  · have : ¬ y.natAbs < x.natAbs := by omega
    simp [h1, this]
  · by_cases h2 : y.natAbs < x.natAbs <;> simp [h1, h2]
theorem cmpN_mem (x y : Nat) : -1 ≤ cmpN x y ∧ cmpN x y ≤ 1 := by
  unfold cmpN
  split
  · omega
  · split <;> omega
theorem neg_wrap (x y : Nat) : wrap64 (-cmpN x y) = -cmpN x y := by
  have := cmpN_mem x y
  unfold wrap64
  omega

set_option maxRecDepth 100000 in
set_option maxHeartbeats 4000000 in
theorem cmp_int (b o b1 o1 : Nat) (x y : Int) (w : World) (hx : IntAt w b o x) (hy : IntAt w b1 o1 y) (hl : (dig x.natAbs).length ≤ 10000000000) (hl' : (dig y.natAbs).length ≤ 10000000000) :
    Calls Tryz.prog 96 #[.pointer (some ⟨b, o, none⟩), .pointer (some ⟨b1, o1, none⟩)] w fun e w' => e = .returned (.int .i64 (cmpI x y)) ∧ Below w.heap.size w w' := by
  obtain ⟨A, n, c, s, HN, HS, h0, h1, hc, HR⟩ := hx.open
  rw [← HN.out] at hl
  obtain ⟨A', n', c', s', HN', HS', h0', h1', hc', HR'⟩ := hy.open
  rw [← HN'.out] at hl'
  have LX := Lib.hid hl
  have LY := Lib.hid hl'
  clear hx hy hc hc' HN HN' hl hl'
  cases s <;> cases s'
  · have hC : Hid (cmpI x y = cmpN x.natAbs y.natAbs) := Lib.hid (cmpI_nat (by have := HS.out; simp at this; exact this) (by have := HS'.out; simp at this; exact this))
    go_enter Tryz.func96, Tryz.ntmps96
    go_wp2_with fail
    go_quiet (fail)
    go_wp2_with fail
    refine wp_region_G (S := (fun w' => w'.cell? ⟨b, o + 1, none⟩ = some (.slice A n c) ∧ w'.cell? ⟨b1, o1 + 1, none⟩ = some (.slice A' n' c'))) 8 (by kernel_rfl) ?_ (fun hHeld => ?_)
    · first | exact True.intro | ((try dsimp only); go_keep)
    refine tkG (i := 0) (v := ?_) rfl (by kernel_rfl) (Or.inl ⟨by kernel_rfl, ?_⟩) (by assumption) ?_
    rotate_left 1
    · (intro w hSw; (try dsimp only at hSw); go_simp; try with_reducible rfl)
    try simp only [lyA, lyB, lyC, Act.put, lyD, lyE, lyF]
    refine tkG (i := 1) (v := ?_) rfl (by kernel_rfl) (Or.inl ⟨by kernel_rfl, ?_⟩) (by assumption) ?_
    rotate_left 1
    · (intro w hSw; (try dsimp only at hSw); go_simp; try with_reducible rfl)
    try simp only [lyA, lyB, lyC, Act.put, lyD, lyE, lyF]
    refine tkG (i := 2) (v := ?_) rfl (by kernel_rfl) (Or.inl ⟨by kernel_rfl, ?_⟩) (by assumption) ?_
    rotate_left 1
    · (intro w hSw; (try dsimp only at hSw); go_simp; try with_reducible rfl)
    try simp only [lyA, lyB, lyC, Act.put, lyD, lyE, lyF]
    refine tkG (i := 3) (v := ?_) rfl (by kernel_rfl) (Or.inl ⟨by kernel_rfl, ?_⟩) (by assumption) ?_
    rotate_left 1
    · (intro w hSw; (try dsimp only at hSw); go_simp; try with_reducible rfl)
    try simp only [lyA, lyB, lyC, Act.put, lyD, lyE, lyF]
    refine tkG (i := 4) (v := ?_) rfl (by kernel_rfl) (Or.inl ⟨by kernel_rfl, ?_⟩) (by assumption) ?_
    rotate_left 1
    · (intro w hSw; (try dsimp only at hSw); go_simp; try with_reducible rfl)
    try simp only [lyA, lyB, lyC, Act.put, lyD, lyE, lyF]
    refine tkG (i := 5) (v := ?_) rfl (by kernel_rfl) (Or.inl ⟨by kernel_rfl, ?_⟩) (by assumption) ?_
    rotate_left 1
    · (intro w hSw; (try dsimp only at hSw); go_simp; try with_reducible rfl)
    try simp only [lyA, lyB, lyC, Act.put, lyD, lyE, lyF]
    refine tkG (i := 6) (v := ?_) rfl (by kernel_rfl) (Or.inl ⟨by kernel_rfl, ?_⟩) (by assumption) ?_
    rotate_left 1
    · (intro w hSw; (try dsimp only at hSw); go_simp; try with_reducible rfl)
    try simp only [lyA, lyB, lyC, Act.put, lyD, lyE, lyF]
    refine tkG (i := 7) (v := ?_) rfl (by kernel_rfl) (Or.inl ⟨by kernel_rfl, ?_⟩) (by assumption) ?_
    rotate_left 1
    · (intro w hSw; (try dsimp only at hSw); go_simp; try with_reducible rfl)
    try simp only [lyA, lyB, lyC, Act.put, lyD, lyE, lyF]
    refine wpAnyG_one (i := 8) (by kernel_rfl) rfl (fun K hK => ?_)
    go_simp
    (refine (cmp_any A A' n n' c c' x.natAbs y.natAbs _ _ (w.drewN nq).drew (HR.out.keep (w' := (w.drewN nq).drew) fun _ _ => rfl) (HR'.out.keep (w' := (w.drewN nq).drew) fun _ _ => rfl) (by have := LX.out; omega) (by have := LY.out; omega)).mono ?_; rintro e w1 ⟨rfl, hb1⟩; have k1 := bat hb1 hHeld.1; have k2 := bat hb1 hHeld.2; have k3 := bat hb1 (show (w.drewN nq).drew.cell? _ = _ from h0))
    try go_wp2_with fail
    refine hK.out _ _ ?_ (fun hHeld => ?_)
    · exact .inr (by kernel_rfl)
    clear hK K
    try simp only [lyA, lyB, lyC, Act.put, lyD, lyE, lyF]
    refine wpAnyG_one (i := 9) (by kernel_rfl) rfl (fun K hK => ?_)
    go_simp
    refine hK.out _ _ ?_ (fun hHeld => ?_)
    · exact .inr (by kernel_rfl)
    clear hK K
    try simp only [lyA, lyB, lyC, Act.put, lyD, lyE, lyF]
    refine wpAnyG_done (by kernel_rfl) ?_ _
    go_wp2_with fail
    go_ret
    exact ⟨by rw [hC.out]; rfl, ((below_drewN (Below.refl w.heap.size w) nq).drew).trans hb1⟩
  · have hC : Hid (cmpI x y = 1) := Lib.hid (by have h1 := HS.out; have h2 := HS'.out; simp at h1 h2; unfold cmpI; rw [if_neg (by omega), if_pos (by omega)])
    go_enter Tryz.func96, Tryz.ntmps96
    go_wp2_with fail
    go_quiet (fail)
    go_wp2_with fail
    go_ret
    exact ⟨by rw [hC.out]; rfl, below_drewN (Below.refl _ _) _⟩
  · have hC : Hid (cmpI x y = -1) := Lib.hid (by have h1 := HS.out; have h2 := HS'.out; simp at h1 h2; unfold cmpI; rw [if_pos (by omega)])
    go_enter Tryz.func96, Tryz.ntmps96
    go_wp2_with fail
    go_quiet (fail)
    go_wp2_with fail
    go_ret
    exact ⟨by rw [hC.out]; rfl, below_drewN (Below.refl _ _) _⟩
  · have hC : Hid (cmpI x y = -cmpN x.natAbs y.natAbs) := Lib.hid (cmpI_neg (by have := HS.out; simp at this; exact this) (by have := HS'.out; simp at this; exact this))
    go_enter Tryz.func96, Tryz.ntmps96
    go_wp2_with fail
    go_quiet (fail)
    go_wp2_with fail
    refine wp_region_G (S := (fun w' => w'.cell? ⟨b, o + 1, none⟩ = some (.slice A n c) ∧ w'.cell? ⟨b1, o1 + 1, none⟩ = some (.slice A' n' c'))) 8 (by kernel_rfl) ?_ (fun hHeld => ?_)
    · first | exact True.intro | ((try dsimp only); go_keep)
    refine tkG (i := 0) (v := ?_) rfl (by kernel_rfl) (Or.inl ⟨by kernel_rfl, ?_⟩) (by assumption) ?_
    rotate_left 1
    · (intro w hSw; (try dsimp only at hSw); go_simp; try with_reducible rfl)
    try simp only [lyA, lyB, lyC, Act.put, lyD, lyE, lyF]
    refine tkG (i := 1) (v := ?_) rfl (by kernel_rfl) (Or.inl ⟨by kernel_rfl, ?_⟩) (by assumption) ?_
    rotate_left 1
    · (intro w hSw; (try dsimp only at hSw); go_simp; try with_reducible rfl)
    try simp only [lyA, lyB, lyC, Act.put, lyD, lyE, lyF]
    refine tkG (i := 2) (v := ?_) rfl (by kernel_rfl) (Or.inl ⟨by kernel_rfl, ?_⟩) (by assumption) ?_
    rotate_left 1
    · (intro w hSw; (try dsimp only at hSw); go_simp; try with_reducible rfl)
    try simp only [lyA, lyB, lyC, Act.put, lyD, lyE, lyF]
    refine tkG (i := 3) (v := ?_) rfl (by kernel_rfl) (Or.inl ⟨by kernel_rfl, ?_⟩) (by assumption) ?_
    rotate_left 1
    · (intro w hSw; (try dsimp only at hSw); go_simp; try with_reducible rfl)
    try simp only [lyA, lyB, lyC, Act.put, lyD, lyE, lyF]
    refine tkG (i := 4) (v := ?_) rfl (by kernel_rfl) (Or.inl ⟨by kernel_rfl, ?_⟩) (by assumption) ?_
    rotate_left 1
    · (intro w hSw; (try dsimp only at hSw); go_simp; try with_reducible rfl)
    try simp only [lyA, lyB, lyC, Act.put, lyD, lyE, lyF]
    refine tkG (i := 5) (v := ?_) rfl (by kernel_rfl) (Or.inl ⟨by kernel_rfl, ?_⟩) (by assumption) ?_
    rotate_left 1
    · (intro w hSw; (try dsimp only at hSw); go_simp; try with_reducible rfl)
    try simp only [lyA, lyB, lyC, Act.put, lyD, lyE, lyF]
    refine tkG (i := 6) (v := ?_) rfl (by kernel_rfl) (Or.inl ⟨by kernel_rfl, ?_⟩) (by assumption) ?_
    rotate_left 1
    · (intro w hSw; (try dsimp only at hSw); go_simp; try with_reducible rfl)
    try simp only [lyA, lyB, lyC, Act.put, lyD, lyE, lyF]
    refine tkG (i := 7) (v := ?_) rfl (by kernel_rfl) (Or.inl ⟨by kernel_rfl, ?_⟩) (by assumption) ?_
    rotate_left 1
    · (intro w hSw; (try dsimp only at hSw); go_simp; try with_reducible rfl)
    try simp only [lyA, lyB, lyC, Act.put, lyD, lyE, lyF]
    refine wpAnyG_one (i := 8) (by kernel_rfl) rfl (fun K hK => ?_)
    go_simp
    (refine (cmp_any A A' n n' c c' x.natAbs y.natAbs _ _ (w.drewN nq).drew (HR.out.keep (w' := (w.drewN nq).drew) fun _ _ => rfl) (HR'.out.keep (w' := (w.drewN nq).drew) fun _ _ => rfl) (by have := LX.out; omega) (by have := LY.out; omega)).mono ?_; rintro e w1 ⟨rfl, hb1⟩; have k1 := bat hb1 hHeld.1; have k2 := bat hb1 hHeld.2; have k3 := bat hb1 (show (w.drewN nq).drew.cell? _ = _ from h0))
    try go_wp2_with fail
    refine hK.out _ _ ?_ (fun hHeld => ?_)
    · exact .inr (by kernel_rfl)
    clear hK K
    try simp only [lyA, lyB, lyC, Act.put, lyD, lyE, lyF]
    refine wpAnyG_one (i := 9) (by kernel_rfl) rfl (fun K hK => ?_)
    go_simp
    refine hK.out _ _ ?_ (fun hHeld => ?_)
    · exact .inr (by kernel_rfl)
    clear hK K
    try simp only [lyA, lyB, lyC, Act.put, lyD, lyE, lyF]
    refine wpAnyG_done (by kernel_rfl) ?_ _
    go_wp2_with fail
    go_ret
    exact ⟨by show Ending.returned (.int .i64 (wrap64 _)) = _; rw [neg_wrap, hC.out], ((below_drewN (Below.refl w.heap.size w) nq).drew).trans hb1⟩

end Go.Proofs.YtkfhbnfoiicioaaGreatDoor

/- math/bits.Len64, TrailingZeros64: the walks (the lines of Len64 and TrailingZeros64 are the shelf's, turned to this program) -/
namespace Go.Proofs.YtkfhbnfoiicioaaGreatDoor
open Go.RowKit Go.Sort

theorem bitLen_blen : ∀ (f x : Nat), x < 2 ^ f → f ≤ 64 → Lib.bitLen x = blen x
  | 0, x, h, _ => by
    obtain rfl : x = 0 := by simp at h; exact h
    rfl
  | f + 1, x, h, hf => by
    by_cases h0 : x = 0
    · subst h0; rfl
    · rw [Lib.bitLen_half x h0 (Nat.lt_of_lt_of_le h (Nat.pow_le_pow_right (by decide) hf)), blen_half h0, bitLen_blen f (x / 2) (by rw [Nat.pow_succ] at h; omega) (by omega)]
      omega

theorem len8_nat (i : Int) (h0 : 0 ≤ i) (h1 : i ≤ 255) (hp : i.toNat < Lib.len8tab.size) : ((Lib.len8tab[i.toNat]'hp).toNat : Int) = (Lib.bitLen i.toNat : Int) := by
  rw [← Lib.len8_of i h0 h1]
  unfold Lib.len8
  rw [getElem?_pos Lib.len8tab i.toNat hp]
  rfl
theorem len8_fin {i : Int} {c X : Nat} (hp : i.toNat < Lib.len8tab.size) (h0 : 0 ≤ i) (h1 : i ≤ 255) (hc : c ≤ 56) (hb : Lib.bitLen X = c + Lib.bitLen i.toNat) : wrap64 ((c : Int) + wrap64 ((Lib.len8tab[i.toNat]'hp).toNat : Int)) = (Lib.bitLen X : Int) := by
  rw [len8_nat i h0 h1 hp, hb]
  have l := Lib.bitLen_le8' i h0 h1
  unfold wrap64
  omega
set_option maxRecDepth 100000 in
set_option maxHeartbeats 4000000 in
theorem len64_any (x : Int) (w : World) (h0 : 0 ≤ x) (h1 : x ≤ 18446744073709551615) :
    Calls Tryz.prog 109 #[.int .u64 x] w fun e w' => e = .returned (.int .i64 (Lib.bitLen x.toNat)) ∧ w = w' := by
  have hsz := Lib.len8tab_size
  go_enter Tryz.func109, Tryz.ntmps109
  go_wp2
  all_goals first | (rename_i h; exfalso; apply h; rw [hsz]; clear hsz; omega) | skip
  all_goals (go_ret; refine ⟨congrArg Ending.returned (congrArg (Value.int IntKind.i64) ?_), rfl⟩)
  · exact len8_fin (c := 56) _ (by clear hsz; omega) (by clear hsz; omega) (by omega) (by rw [show (x / 4294967296 / 65536 / 256).toNat = x.toNat / 72057594037927936 by clear hsz; omega]; exact Lib.bitLen_shift56 x.toNat (by clear hsz; omega) (by clear hsz; omega))
  · exact len8_fin (c := 48) _ (by clear hsz; omega) (by clear hsz; omega) (by omega) (by rw [show (x / 4294967296 / 65536).toNat = x.toNat / 281474976710656 by clear hsz; omega]; exact Lib.bitLen_shift48 x.toNat (by clear hsz; omega) (by clear hsz; omega))
  · exact len8_fin (c := 40) _ (by clear hsz; omega) (by clear hsz; omega) (by omega) (by rw [show (x / 4294967296 / 256).toNat = x.toNat / 1099511627776 by clear hsz; omega]; exact Lib.bitLen_shift40 x.toNat (by clear hsz; omega) (by clear hsz; omega))
  · exact len8_fin (c := 32) _ (by clear hsz; omega) (by clear hsz; omega) (by omega) (by rw [show (x / 4294967296).toNat = x.toNat / 4294967296 by clear hsz; omega]; exact Lib.bitLen_shift32 x.toNat (by clear hsz; omega) (by clear hsz; omega))
  · exact len8_fin (c := 24) _ (by clear hsz; omega) (by clear hsz; omega) (by omega) (by rw [show (x / 65536 / 256).toNat = x.toNat / 16777216 by clear hsz; omega]; exact Lib.bitLen_shift24 x.toNat (by clear hsz; omega) (by clear hsz; omega))
  · exact len8_fin (c := 16) _ (by clear hsz; omega) (by clear hsz; omega) (by omega) (by rw [show (x / 65536).toNat = x.toNat / 65536 by clear hsz; omega]; exact Lib.bitLen_shift16 x.toNat (by clear hsz; omega) (by clear hsz; omega))
  · exact len8_fin (c := 8) _ (by clear hsz; omega) (by clear hsz; omega) (by omega) (by rw [show (x / 256).toNat = x.toNat / 256 by clear hsz; omega]; exact Lib.bitLen_shift8 x.toNat (by clear hsz; omega) (by clear hsz; omega))
  · have e := len8_fin (i := x) (c := 0) (X := x.toNat) (by rw [hsz]; clear hsz; omega) (by clear hsz; omega) (by clear hsz; omega) (by omega) (by omega)
    rw [Int.natCast_zero, Int.zero_add] at e
    exact e
theorem len64 (x : Nat) (w : World) (h : x < W64) :
    Calls Tryz.prog 109 #[.int .u64 (x : Int)] w fun e w' => e = .returned (.int .i64 (blen x)) ∧ w = w' := by
  have h' : x < 18446744073709551616 := h
  refine (len64_any (x : Int) w (by omega) (by omega)).mono fun e w' he => ?_
  rw [Int.toNat_natCast, bitLen_blen 64 x h (by omega)] at he
  exact he

/-- the variable math/bits.deBruijn64tab, as its initialiser lays it -/
def Laid (w : World) : Prop := ∀ j, j < Lib.deBruijn64tab.length → w.cell? ⟨1, j, none⟩ = some (.int .u8 (Lib.deBruijn64tab.getD j 0))
theorem Laid.below {w w' : World} (h : Laid w) (hb : Below w.heap.size w w') : Laid w' := fun j hj => bat hb (h j hj)
theorem tz64_key (x a : Nat) (hx : x < 18446744073709551616) (hlow : x &&& (18446744073709551616 - x) = a) (hx0 : x ≠ 0) :
    IntKind.u64.wrap (bits BinOp.and IntKind.u64 (x : Int) (IntKind.u64.wrap (-(x : Int))) * 285870213051353865) / 288230376151711744 = ((a * 285870213051353865 % 18446744073709551616 / 288230376151711744 : Nat) : Int) := by
  have e1 : IntKind.u64.wrap (-(x : Int)) = ((18446744073709551616 - x : Nat) : Int) := by rw [IntKind.wrap_u64]; omega
  rw [e1, bits_and_u64_nat x _ hx (by omega), hlow, IntKind.wrap_u64]
  omega

set_option maxRecDepth 100000 in
set_option maxHeartbeats 4000000 in
theorem tz64_core (x k idx : Nat) (w : World) (hx0 : ((x : Int) == 0) = false)
    (key : IntKind.u64.wrap (bits BinOp.and IntKind.u64 (x : Int) (IntKind.u64.wrap (-(x : Int))) * 285870213051353865) / 288230376151711744 = (idx : Int))
    (hi : idx < 64) (hk : k < 64) (hcell : w.cell? ⟨1, idx, none⟩ = some (.int .u8 k)) :
    Calls Tryz.prog 119 #[.int .u64 (x : Int)] w fun e w' => e = .returned (.int .i64 k) ∧ w' = w := by
  go_enter Tryz.func119, Tryz.ntmps119
  go_wp2_with (simp only [key])
  go_ret
  exact ⟨rfl, rfl⟩
theorem tz64 (x : Nat) (w : World) (hx : x < 18446744073709551616) (hx0 : x ≠ 0) (hL : Laid w) :
    Calls Tryz.prog 119 #[.int .u64 (x : Int)] w fun e w' => e = .returned (.int .i64 (Lib.ctz 64 x)) ∧ w' = w := by
  obtain ⟨hlow, hk⟩ := Lib.lowest_bit 64 x hx0 hx
  obtain ⟨hi, htab⟩ := Lib.deBruijn64_at _ hk
  have hcell := hL _ hi
  rw [htab] at hcell
  exact tz64_core x _ _ w (by simp; omega) (tz64_key x _ hx hlow hx0) hi hk hcell

end Go.Proofs.YtkfhbnfoiicioaaGreatDoor
