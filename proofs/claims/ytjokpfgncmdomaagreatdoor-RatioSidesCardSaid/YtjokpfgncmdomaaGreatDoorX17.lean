import Derived.Test.YtjokpfgncmdomaaGreatDoorX16
set_option linter.unusedSimpArgs false
set_option linter.unusedVariables false
/- receivers that are objects, whatever they hold: give, of, And, Rsh (turned from I2, I10, I11, T2 by wip/Dy/gen_u5a; the answer's data is told apart) -/
namespace Go.Proofs.YtjokpfgncmdomaaGreatDoor
open Go.RowKit Go.Sort

/-- an Int's two cells, whatever they hold -/
def IObj (w : World) (b o : Nat) : Prop := ∃ (s : Bool) (A : Option Addr) (n c : Nat), w.cell? ⟨b, o, none⟩ = some (.bool s) ∧ w.cell? ⟨b, o + 1, none⟩ = some (.slice A n c) ∧ w.frozen? ⟨b, o, none⟩ = false ∧ w.frozen? ⟨b, o + 1, none⟩ = false
theorem IntAt.iobj {w : World} {b o : Nat} {z : Int} (h : IntAt w b o z) : IObj w b o := by
  obtain ⟨A, c, h1, _, _⟩ := h.abs
  exact ⟨_, _, _, _, h.neg, h1, h.fz, h.fz1⟩
theorem IObj.lt {w : World} {b o : Nat} (h : IObj w b o) : b < w.heap.size := by
  obtain ⟨s, _, _, _, h0, _⟩ := h
  exact World.block_lt_of_cell? w ⟨b, o, none⟩ h0
theorem IObj.below {w w' : World} {b o : Nat} (h : IObj w b o) (hb : Below w.heap.size w w') : IObj w' b o := by
  have hlt := h.lt
  obtain ⟨s, A, n, c, h0, h1, f0, f1⟩ := h
  exact ⟨s, A, n, c, bat hb h0, bat hb h1, bfz hb hlt f0, bfz hb hlt f1⟩
theorem IObj.upd {w w' : World} {b o b' o' : Nat} (h : IObj w b' o') (hu : Upd w w' b o) (hne : b' ≠ b) : IObj w' b' o' := by
  have hlt := h.lt
  obtain ⟨s, A, n, c, h0, h1, f0, f1⟩ := h
  exact ⟨s, A, n, c, hu.cellOf h0 (fun e => absurd e hne), hu.cellOf h1 (fun e => absurd e hne), by rw [hu.frozenOf hlt]; exact f0, by rw [hu.frozenOf hlt]; exact f1⟩
theorem IObj.grown {w w' : World} {b o : Nat} {row : Option Nat} (h : IObj w b o) (hg : w.grownBy w' row) (hne : some b ≠ row) : IObj w' b o := by
  have hlt := h.lt
  obtain ⟨s, A, n, c, h0, h1, f0, f1⟩ := h
  have hk := hg.block b hlt hne
  exact ⟨s, A, n, c, (World.cell?_of_block (a := ⟨b, o, none⟩) hk).trans h0, (World.cell?_of_block (a := ⟨b, o + 1, none⟩) hk).trans h1, (World.frozen?_of_block (a := ⟨b, o, none⟩) hk).trans f0, (World.frozen?_of_block (a := ⟨b, o + 1, none⟩) hk).trans f1⟩
/-- an Int of which the words lie in blocks of S -/
def IntS (S : Nat → Prop) (w : World) (b o : Nat) (z : Int) : Prop := IntAt w b o z ∧ ∃ A n c, w.cell? ⟨b, o + 1, none⟩ = some (.slice A n c) ∧ RdE Wc 1 w S A n (dig z.natAbs)
theorem IntS.imp {S S' : Nat → Prop} {w : World} {b o : Nat} {z : Int} (h : IntS S w b o z) (hS : ∀ d, S d → S' d) : IntS S' w b o z := by
  obtain ⟨h0, A, n, c, h1, h2⟩ := h
  exact ⟨h0, A, n, c, h1, h2.imp hS⟩
theorem IntAt.toS {w : World} {b o : Nat} {z : Int} (h : IntAt w b o z) : IntS (fun d => d < w.heap.size) w b o z := by
  obtain ⟨A, c, h1, _, h2⟩ := h.abs
  exact ⟨h, A, _, c, h1, h2⟩
theorem IntS.upd {S : Nat → Prop} {w w' : World} {b o b' o' : Nat} {z : Int} (h : IntS S w b' o' z) (hu : Upd w w' b o) (hne : b' ≠ b) : IntS S w' b' o' z := by
  obtain ⟨h0, A, n, c, h1, h2⟩ := h
  exact ⟨h0.upd hu (fun e => absurd e hne), A, n, c, hu.cellOf h1 (fun e => absurd e hne), hu.words h2⟩
theorem IntS.below {S : Nat → Prop} {w w' : World} {b o : Nat} {z : Int} (h : IntS S w b o z) (hb : Below w.heap.size w w') (hS : ∀ d, S d → d < w.heap.size) : IntS S w' b o z := by
  obtain ⟨h0, A, n, c, h1, h2⟩ := h
  exact ⟨h0.below hb, A, n, c, bat hb h1, h2.keep (Keeps.below hb hS)⟩
theorem IntS.grown {S : Nat → Prop} {w w' : World} {b o : Nat} {z : Int} {row : Option Nat} (h : IntS S w b o z) (hg : w.grownBy w' row) (hne : some b ≠ row) (hS : ∀ d, S d → d < w.heap.size ∧ some d ≠ row) : IntS S w' b o z := by
  obtain ⟨h0, A, n, c, h1, h2⟩ := h
  have hlt := h0.lt
  have hk := hg.block b hlt hne
  have h1' := (World.cell?_of_block (a := ⟨b, o + 1, none⟩) hk).trans h1
  obtain ⟨A0, c0, k1, k2, k3⟩ := h0.abs
  rw [h1] at k1
  simp only [Option.some.injEq, Value.slice.injEq] at k1
  obtain ⟨rfl, rfl, rfl⟩ := k1
  have h2' := h2.keep (Keeps.grown hg hS)
  exact ⟨⟨(World.cell?_of_block (a := ⟨b, o, none⟩) hk).trans h0.neg, ⟨A, c, h1', k2, h2'.imp fun d hd => Nat.lt_of_lt_of_le (hS d hd).1 hg.size⟩, (World.frozen?_of_block (a := ⟨b, o, none⟩) hk).trans h0.fz, (World.frozen?_of_block (a := ⟨b, o + 1, none⟩) hk).trans h0.fz1⟩, A, _, c, h1', h2'⟩

theorem give_obj (b o : Nat) (z : Int) (neg : Bool) (A : Option Addr) (n c : Nat) (w : World) (hz : IObj w b o) (hn : n = (dig z.natAbs).length) (hc : n ≤ c) (hr : RdE Wc 1 w (fun d => d < w.heap.size) A n (dig z.natAbs))
    (hs : (neg && decide (0 < n)) = decide (z < 0)) :
    Calls Tryz.prog 98 #[.pointer (some ⟨b, o, none⟩), .bool neg, .slice A n c] w fun e w' => e = .returned (.pointer (some ⟨b, o, none⟩)) ∧ IntAt w' b o z ∧ w'.cell? ⟨b, o + 1, none⟩ = some (.slice A n c) ∧ Upd w w' b o := by
  obtain ⟨s0, A0, n0, c0, h0, h1, hff⟩ := hz
  obtain ⟨hf, hf1⟩ := hff
  have HR := Lib.hid hr
  have HS := Lib.hid hs
  have HN := Lib.hid hn
  clear hr hs hn
  have H2 := fun u => Lib.hid (two_set u A n c h0 h1)
  cases neg
  · go_enter Tryz.func98, Tryz.ntmps98
    go_wp2_with fail
    go_ret
    obtain ⟨hu, k0, k1⟩ := (H2 false).out
    refine ⟨rfl, IntAt.of_cells k0 k1 ?_ HN.out hc ((hu.words HR.out).imp fun d hd => Nat.lt_of_lt_of_le hd hu.size) (by rw [hu.fz]; exact hf) (by rw [hu.fz]; exact hf1), k1, hu⟩
    have := HS.out
    simpa using this
  · by_cases hp : 0 < n
    · have hp' : decide ((0 : Int) < (n : Int)) = true := by simp; omega
      go_enter Tryz.func98, Tryz.ntmps98
      go_wp2_with fail
      go_ret
      obtain ⟨hu, k0, k1⟩ := (H2 true).out
      refine ⟨rfl, IntAt.of_cells k0 k1 ?_ HN.out hc ((hu.words HR.out).imp fun d hd => Nat.lt_of_lt_of_le hd hu.size) (by rw [hu.fz]; exact hf) (by rw [hu.fz]; exact hf1), k1, hu⟩
      have := HS.out
      simpa [hp] using this
    · have hp' : decide ((0 : Int) < (n : Int)) = false := by simp; omega
      go_enter Tryz.func98, Tryz.ntmps98
      go_wp2_with fail
      go_ret
      obtain ⟨hu, k0, k1⟩ := (H2 false).out
      refine ⟨rfl, IntAt.of_cells k0 k1 ?_ HN.out hc ((hu.words HR.out).imp fun d hd => Nat.lt_of_lt_of_le hd hu.size) (by rw [hu.fz]; exact hf) (by rw [hu.fz]; exact hf1), k1, hu⟩
      have := HS.out
      simpa [hp] using this


set_option maxRecDepth 100000 in
set_option maxHeartbeats 2000000 in
theorem of_obj (b o n B g : Nat) (xs : List Nat) (w : World) (hz : IObj w b o) (ho : w.ownsRow B 119 1 (.slice (some ⟨g, 0, none⟩) (n + 1) (n + 1)) (n + 1) (xs.flatMap Wc)) (hw : Wds xs) (ht : xs[n]? = some 0) (hn : n ≤ 100000000) :
    Calls Tryz.prog 103 #[.pointer (some ⟨b, o, none⟩), .slice (some ⟨g, 0, none⟩) (n + 1) (n + 1)] w fun e w' => e = .returned (.pointer (some ⟨b, o, none⟩)) ∧ IntAt w' b o (nv xs : Int) ∧ Upd w w' b o := by
  have q0 := own_wc ho ht
  have HZ := Lib.hid hz
  have HO := Lib.hid ho
  have HW := Lib.hid hw
  clear hz ho hw ht
  go_enter Tryz.func103, Tryz.ntmps103
  go_wp2_with fail
  refine (trim_own B g (n + 1) (n + 1) xs _ HO.out HW.out (by omega) (Nat.le_refl _)).mono ?_
  rintro e w1 ⟨rfl, hl1, hr1, hb1⟩
  have HR1 := Lib.hid hr1
  have HB1 := Lib.hid hb1
  clear hr1 hb1
  go_wp2_with fail
  refine (give_obj _ _ (nv xs : Int) false _ _ _ w1 (HZ.out.below HB1.out) rfl hl1 (HR1.out.imp fun d hd => hd.2) (by simp)).mono ?_
  rintro e w2 ⟨rfl, hi2, _, hu2⟩
  have HI2 := Lib.hid hi2
  have HU2 := Lib.hid hu2
  clear hi2 hu2
  go_wp2_with fail
  go_ret
  exact ⟨rfl, HI2.out, Upd.after HB1.out HU2.out HZ.out.lt⟩


set_option maxRecDepth 100000 in
set_option maxHeartbeats 4000000 in
theorem and_obj (b o b1 o1 b2 o2 : Nat) (x y : Int) (w : World) (hz : IObj w b o) (hx : IntAt w b1 o1 x) (hy : IntAt w b2 o2 y) (hx0 : 0 ≤ x) (hy0 : 0 ≤ y) (hl : (dig x.natAbs).length ≤ 10000000) (hl' : (dig y.natAbs).length ≤ 10000000) :
    Calls Tryz.prog 108 #[.pointer (some ⟨b, o, none⟩), .pointer (some ⟨b1, o1, none⟩), .pointer (some ⟨b2, o2, none⟩)] w fun e w' => e = .returned (.pointer (some ⟨b, o, none⟩)) ∧ IntAt w' b o ((x.natAbs &&& y.natAbs : Nat) : Int) ∧ Upd w w' b o := by
  have HX := Lib.hid hx
  have HY := Lib.hid hy
  have HZ := Lib.hid hz
  have hblt := hz.lt
  obtain ⟨A, n, c, s, HN, HS, h0, h1, hc, HR⟩ := hx.open
  rw [← HN.out] at hl
  obtain ⟨A', n', c', s', HN', HS', h0', h1', hc', HR'⟩ := hy.open
  rw [← HN'.out] at hl'
  clear hx hy hz
  rcases Nat.lt_trichotomy n n' with hc1 | hc1 | hc1
  · have hw1 : IntKind.i64.wrap ((n' : Int) + 1) = (n' : Int) + 1 := IntWalk.i64_in _ (by omega)
    go_enter Tryz.func108, Tryz.ntmps108
    go_wp2_with fail
    go_quiet (fail)
    clear hw1
    go_wp2_with fail
    refine (low_int b1 o1 (n' + 1) x _ (HX.out.below (below_drewN (Below.refl _ _) nq)) hx0 (by rw [← HN.out]; omega) (by omega)).mono ?_
    rintro e w1 ⟨rfl, ho1, hb1⟩
    have z1 := hb1.size
    have hs1 : w.heap.size < w1.heap.size := (ho1.lt w.heap.size rfl).2
    have HO1 := Lib.hid ho1
    have HB1 : Hid (Below w.heap.size w w1) := Lib.hid ((below_drewN (Below.refl w.heap.size w) nq).trans hb1)
    clear ho1 hb1
    go_wp2_with fail
    refine (low_int b2 o2 (n' + 1) y _ (HY.out.below HB1.out) hy0 (by rw [← HN'.out]; omega) (by omega)).mono ?_
    rintro e w2 ⟨rfl, ho2, hb2⟩
    have z2 := hb2.size
    have HO2 := Lib.hid ho2
    have HO1b := Lib.hid (own_below HO1.out hb2)
    have HB2 : Hid (Below w.heap.size w w2) := Lib.hid (below_then HB1.out hb2)
    clear ho2 hb2
    obtain ⟨xs, hxs⟩ : ∃ xs, xs = padded x.natAbs (n' + 1) := ⟨_, rfl⟩
    obtain ⟨ys, hys⟩ : ∃ ys, ys = padded y.natAbs (n' + 1) := ⟨_, rfl⟩
    have hxl : xs.length = n' + 1 := by rw [hxs]; exact padded_len (by rw [← HN.out]; omega)
    have hyl : ys.length = n' + 1 := by rw [hys]; exact padded_len (by rw [← HN'.out]; omega)
    have hxw : Wds xs := by rw [hxs]; exact padded_wds _ _
    have hyw : Wds ys := by rw [hys]; exact padded_wds _ _
    have hxn : nv xs = x.natAbs := by rw [hxs]; exact padded_nv _ _
    have hyn : nv ys = y.natAbs := by rw [hys]; exact padded_nv _ _
    have hxz : ∀ v, xs[n']? = some v → v = 0 := fun v h => by rw [hxs] at h; exact padded_zero (by rw [← HN.out]; omega) h
    have hyz : ∀ v, ys[n']? = some v → v = 0 := fun v h => by rw [hys] at h; exact padded_zero (by rw [← HN'.out]; omega) h
    have HO1c : Hid (w2.ownsRow w.heap.size 119 1 (.slice (some ⟨w.heap.size, 0, none⟩) (n' + 1) (n' + 1)) (n' + 1) (xs.flatMap Wc)) := Lib.hid (by rw [hxs]; exact HO1b.out)
    have HO2c : Hid (w2.ownsRow w1.heap.size 119 1 (.slice (some ⟨w1.heap.size, 0, none⟩) (n' + 1) (n' + 1)) (n' + 1) (ys.flatMap Wc)) := Lib.hid (by rw [hys]; exact HO2.out)
    have HXW := Lib.hid hxw
    have HYW := Lib.hid hyw
    have HXN := Lib.hid hxn
    have HYN := Lib.hid hyn
    have HXZ := Lib.hid hxz
    have HYZ := Lib.hid hyz
    clear hxs hys hxw hyw hxn hyn hxz hyz HO1 HO2 HO1b
    go_wp2_with fail
    go_loopw [10] (fun iv wr => ∃ (k : Nat) (zs : List Nat), k ≤ n' + 1 ∧ iv = .int .i64 k ∧ zs.length = n' + 1 ∧ Wds zs ∧ (∀ (j p q r : Nat), xs[j]? = some p → ys[j]? = some q → zs[j]? = some r → r = if j < k then p &&& q else p) ∧ wr.ownsRow w.heap.size 119 1 (.slice (some ⟨w.heap.size, 0, none⟩) (n' + 1) (n' + 1)) (n' + 1) (zs.flatMap Wc) ∧ wr.ownsRow w1.heap.size 119 1 (.slice (some ⟨w1.heap.size, 0, none⟩) (n' + 1) (n' + 1)) (n' + 1) (ys.flatMap Wc) ∧ Below w.heap.size w wr) (fun iv _ => n' + 1 - (intOf iv).toNat)
    case atStart => exact ⟨0, xs, Nat.zero_le _, rfl, hxl, HXW.out, fun j p q r h1 _ h3 => by rw [h1] at h3; injection h3 with h3; rw [← h3]; simp, HO1c.out, HO2c.out, HB2.out⟩
    case round =>
      obtain ⟨k, zs, hk, rfl, hzl, hzw, hrel', hou, hov, hbw⟩ := hrel
      have HOU := Lib.hid hou
      have HOV := Lib.hid hov
      have HBW := Lib.hid hbw
      have HZW := Lib.hid hzw
      have HREL := Lib.hid hrel'
      clear hou hov hbw hzw hrel'
      by_cases hlt : k < n' + 1
      · have hlt' : (k : Int) < (n' : Int) + 1 := by omega
        have g1 : (0 : Int) ≤ (k : Int) := by omega
        obtain ⟨p, hp⟩ := get_some hxl hlt
        obtain ⟨q, hq⟩ := get_some hyl hlt
        obtain ⟨r, hr⟩ := get_some hzl hlt
        obtain rfl : r = p := by have h := HREL.out k p q r hp hq hr; simpa using h
        have lp := hw0 HZW.out hr
        have lq := hw0 HYW.out hq
        have q1 := own_wc HOU.out hr
        have q2 := own_wc HOV.out hq
        have hf := HOU.out.frozenAt k
        have hbits : bits .and .u32 (r : Int) (q : Int) = ((r &&& q : Nat) : Int) := (bits_nat .u32 32 (by decide) wraps_u32 r q lp lq).1
        have hlr : r &&& q < W32 := Nat.lt_of_le_of_lt Nat.and_le_left lp
        have HP := Lib.hid hp
        have HQ := Lib.hid hq
        have HR9 := Lib.hid hr
        clear hp hq hr
        go_wp2_with fail
        refine wp_region_G (S := (fun w' => w'.cell? ⟨w.heap.size, k, none⟩ = some (.int .u32 (r : Int)) ∧ w'.cell? ⟨w1.heap.size, k, none⟩ = some (.int .u32 (q : Int)))) 10 (by kernel_rfl) ?_ (fun hHeld => ?_)
        · first | exact True.intro | ((try dsimp only); go_keep)
        refine wpAnyG_take (i := 0) (v := ?_) rfl (by kernel_rfl) (by kernel_rfl) (by kernel_rfl) (by kernel_rfl) 8 (by kernel_rfl) (fun _ _ _ h => h) (Or.inl ⟨by kernel_rfl, ?_⟩) (by assumption) ?_
        rotate_left 1
        · (intro w hSw; (try dsimp only at hSw); go_simp; try with_reducible rfl)
        try simp only [List.getElem_toArray, List.getElem_cons_succ, List.getElem_cons_zero, Act.put, List.setIfInBounds_toArray, List.set_cons_zero, List.set_cons_succ]
        refine wpAnyG_take (i := 1) (v := ?_) rfl (by kernel_rfl) (by kernel_rfl) (by kernel_rfl) (by kernel_rfl) 8 (by kernel_rfl) (fun _ _ _ h => h) (Or.inl ⟨by kernel_rfl, ?_⟩) (by assumption) ?_
        rotate_left 1
        · (intro w hSw; (try dsimp only at hSw); go_simp; try with_reducible rfl)
        try simp only [List.getElem_toArray, List.getElem_cons_succ, List.getElem_cons_zero, Act.put, List.setIfInBounds_toArray, List.set_cons_zero, List.set_cons_succ]
        refine wpAnyG_take (i := 2) (v := ?_) rfl (by kernel_rfl) (by kernel_rfl) (by kernel_rfl) (by kernel_rfl) 8 (by kernel_rfl) (fun _ _ _ h => h) (Or.inl ⟨by kernel_rfl, ?_⟩) (by assumption) ?_
        rotate_left 1
        · (intro w hSw; (try dsimp only at hSw); go_simp; try with_reducible rfl)
        try simp only [List.getElem_toArray, List.getElem_cons_succ, List.getElem_cons_zero, Act.put, List.setIfInBounds_toArray, List.set_cons_zero, List.set_cons_succ]
        refine wpAnyG_take (i := 3) (v := ?_) rfl (by kernel_rfl) (by kernel_rfl) (by kernel_rfl) (by kernel_rfl) 8 (by kernel_rfl) (fun _ _ _ h => h) (Or.inl ⟨by kernel_rfl, ?_⟩) (by assumption) ?_
        rotate_left 1
        · (intro w hSw; (try dsimp only at hSw); go_simp; try with_reducible rfl)
        try simp only [List.getElem_toArray, List.getElem_cons_succ, List.getElem_cons_zero, Act.put, List.setIfInBounds_toArray, List.set_cons_zero, List.set_cons_succ]
        refine wpAnyG_take (i := 4) (v := ?_) rfl (by kernel_rfl) (by kernel_rfl) (by kernel_rfl) (by kernel_rfl) 8 (by kernel_rfl) (fun _ _ _ h => h) (Or.inl ⟨by kernel_rfl, ?_⟩) (by assumption) ?_
        rotate_left 1
        · (intro w hSw; (try dsimp only at hSw); go_simp; try with_reducible rfl)
        try simp only [List.getElem_toArray, List.getElem_cons_succ, List.getElem_cons_zero, Act.put, List.setIfInBounds_toArray, List.set_cons_zero, List.set_cons_succ]
        refine wpAnyG_take (i := 5) (v := ?_) rfl (by kernel_rfl) (by kernel_rfl) (by kernel_rfl) (by kernel_rfl) 8 (by kernel_rfl) (fun _ _ _ h => h) (Or.inl ⟨by kernel_rfl, ?_⟩) (by assumption) ?_
        rotate_left 1
        · (intro w hSw; (try dsimp only at hSw); go_simp; try with_reducible rfl)
        try simp only [List.getElem_toArray, List.getElem_cons_succ, List.getElem_cons_zero, Act.put, List.setIfInBounds_toArray, List.set_cons_zero, List.set_cons_succ]
        refine wpAnyG_take (i := 6) (v := ?_) rfl (by kernel_rfl) (by kernel_rfl) (by kernel_rfl) (by kernel_rfl) 8 (by kernel_rfl) (fun _ _ _ h => h) (Or.inl ⟨by kernel_rfl, ?_⟩) (by assumption) ?_
        rotate_left 1
        · (intro w hSw; (try dsimp only at hSw); go_simp; try with_reducible rfl)
        try simp only [List.getElem_toArray, List.getElem_cons_succ, List.getElem_cons_zero, Act.put, List.setIfInBounds_toArray, List.set_cons_zero, List.set_cons_succ]
        refine wpAnyG_take (i := 7) (v := ?_) rfl (by kernel_rfl) (by kernel_rfl) (by kernel_rfl) (by kernel_rfl) 8 (by kernel_rfl) (fun _ _ _ h => h) (Or.inl ⟨by kernel_rfl, ?_⟩) (by assumption) ?_
        rotate_left 1
        · (intro w hSw; (try dsimp only at hSw); go_simp; try with_reducible rfl)
        try simp only [List.getElem_toArray, List.getElem_cons_succ, List.getElem_cons_zero, Act.put, List.setIfInBounds_toArray, List.set_cons_zero, List.set_cons_succ]
        refine wpAnyG_take (i := 8) (v := ?_) rfl (by kernel_rfl) (by kernel_rfl) (by kernel_rfl) (by kernel_rfl) 8 (by kernel_rfl) (fun _ _ _ h => h) (Or.inl ⟨by kernel_rfl, ?_⟩) (by assumption) ?_
        rotate_left 1
        · (intro w hSw; (try dsimp only at hSw); go_simp; try with_reducible rfl)
        try simp only [List.getElem_toArray, List.getElem_cons_succ, List.getElem_cons_zero, Act.put, List.setIfInBounds_toArray, List.set_cons_zero, List.set_cons_succ]
        refine wpAnyG_take (i := 9) (v := ?_) rfl (by kernel_rfl) (by kernel_rfl) (by kernel_rfl) (by kernel_rfl) 8 (by kernel_rfl) (fun _ _ _ h => h) (Or.inl ⟨by kernel_rfl, ?_⟩) (by assumption) ?_
        rotate_left 1
        · (intro w hSw; (try dsimp only at hSw); go_simp; try with_reducible rfl)
        try simp only [List.getElem_toArray, List.getElem_cons_succ, List.getElem_cons_zero, Act.put, List.setIfInBounds_toArray, List.set_cons_zero, List.set_cons_succ]
        refine wpAnyG_one (i := 10) (by kernel_rfl) rfl (fun K hK => ?_)
        go_simp
        refine hK.out _ _ ?_ (fun hHeld => ?_)
        · exact .inr (by kernel_rfl)
        clear hK K
        try simp only [List.getElem_toArray, List.getElem_cons_succ, List.getElem_cons_zero, Act.put, List.setIfInBounds_toArray, List.set_cons_zero, List.set_cons_succ]
        refine wpAnyG_done (by kernel_rfl) ?_ _
        go_wp2_with fail
        have ho1 := own_set_wc (own_drewN HOU.out 1) (i := k) (by omega) (r &&& q)
        have hv1 := (own_drewN HOV.out 1).kept ho1.2 (.inr (by simp only [Value.ownBlock]; intro e; injection e with e; omega))
        have hb1 := (below_drewN HBW.out 1).grown ho1.2 (Nat.le_of_lt (HOU.out.lt w.heap.size rfl).2) (fun g hg => by injection hg with hg; omega)
        exact ⟨⟨k + 1, zs.set k (r &&& q), by omega, by go_num, by simp [hzl], wds_set HZW.out hlr, zip_step (f := fun p q => p &&& q) HREL.out HP.out HQ.out rfl, ho1.1, hv1, hb1⟩, by simp [intOf]; omega⟩
      · obtain rfl : n' + 1 = k := by omega
        have hzip : zs = List.zipWith (· &&& ·) xs ys := get_zip_and hxl hyl hzl fun i p q r h1 h2 h3 => by
          have h := HREL.out i p q r h1 h2 h3
          rw [if_pos (by have := (List.getElem?_eq_some_iff.1 h1).1; omega)] at h
          exact h
        have hval : nv zs = x.natAbs &&& y.natAbs := by rw [hzip, nv_and xs ys (by omega) HXW.out HYW.out, HXN.out, HYN.out]
        obtain ⟨p, hp⟩ := get_some hxl (show n' < n' + 1 by omega)
        obtain ⟨q, hq⟩ := get_some hyl (show n' < n' + 1 by omega)
        obtain ⟨r, hr⟩ := get_some hzl (show n' < n' + 1 by omega)
        have hr0 : r = 0 := by
          have h := HREL.out n' p q r hp hq hr
          rw [HXZ.out p hp, HYZ.out q hq] at h
          simpa using h
        subst hr0
        have HVAL := Lib.hid hval
        have HR9 := Lib.hid hr
        clear hzip hval hp hq hr
        go_wp2_with fail
        refine (of_obj b o n' w.heap.size w.heap.size zs _ (HZ.out.below (HBW.out)) HOU.out HZW.out HR9.out (by omega)).mono ?_
        rintro e w5 ⟨rfl, hi5, hu5⟩
        rw [HVAL.out] at hi5
        have HI5 := Lib.hid hi5
        have HU5 := Lib.hid hu5
        clear hi5 hu5
        go_wp2_with fail
        go_ret
        exact ⟨rfl, HI5.out, Upd.after HBW.out HU5.out hblt⟩
  · subst hc1
    have hw1 : IntKind.i64.wrap ((n : Int) + 1) = (n : Int) + 1 := IntWalk.i64_in _ (by omega)
    go_enter Tryz.func108, Tryz.ntmps108
    go_wp2_with fail
    go_quiet (fail)
    clear hw1
    go_wp2_with fail
    refine (low_int b1 o1 (n + 1) x _ (HX.out.below (below_drewN (Below.refl _ _) nq)) hx0 (by rw [← HN.out]; omega) (by omega)).mono ?_
    rintro e w1 ⟨rfl, ho1, hb1⟩
    have z1 := hb1.size
    have hs1 : w.heap.size < w1.heap.size := (ho1.lt w.heap.size rfl).2
    have HO1 := Lib.hid ho1
    have HB1 : Hid (Below w.heap.size w w1) := Lib.hid ((below_drewN (Below.refl w.heap.size w) nq).trans hb1)
    clear ho1 hb1
    go_wp2_with fail
    refine (low_int b2 o2 (n + 1) y _ (HY.out.below HB1.out) hy0 (by rw [← HN'.out]; omega) (by omega)).mono ?_
    rintro e w2 ⟨rfl, ho2, hb2⟩
    have z2 := hb2.size
    have HO2 := Lib.hid ho2
    have HO1b := Lib.hid (own_below HO1.out hb2)
    have HB2 : Hid (Below w.heap.size w w2) := Lib.hid (below_then HB1.out hb2)
    clear ho2 hb2
    obtain ⟨xs, hxs⟩ : ∃ xs, xs = padded x.natAbs (n + 1) := ⟨_, rfl⟩
    obtain ⟨ys, hys⟩ : ∃ ys, ys = padded y.natAbs (n + 1) := ⟨_, rfl⟩
    have hxl : xs.length = n + 1 := by rw [hxs]; exact padded_len (by rw [← HN.out]; omega)
    have hyl : ys.length = n + 1 := by rw [hys]; exact padded_len (by rw [← HN'.out]; omega)
    have hxw : Wds xs := by rw [hxs]; exact padded_wds _ _
    have hyw : Wds ys := by rw [hys]; exact padded_wds _ _
    have hxn : nv xs = x.natAbs := by rw [hxs]; exact padded_nv _ _
    have hyn : nv ys = y.natAbs := by rw [hys]; exact padded_nv _ _
    have hxz : ∀ v, xs[n]? = some v → v = 0 := fun v h => by rw [hxs] at h; exact padded_zero (by rw [← HN.out]; omega) h
    have hyz : ∀ v, ys[n]? = some v → v = 0 := fun v h => by rw [hys] at h; exact padded_zero (by rw [← HN'.out]; omega) h
    have HO1c : Hid (w2.ownsRow w.heap.size 119 1 (.slice (some ⟨w.heap.size, 0, none⟩) (n + 1) (n + 1)) (n + 1) (xs.flatMap Wc)) := Lib.hid (by rw [hxs]; exact HO1b.out)
    have HO2c : Hid (w2.ownsRow w1.heap.size 119 1 (.slice (some ⟨w1.heap.size, 0, none⟩) (n + 1) (n + 1)) (n + 1) (ys.flatMap Wc)) := Lib.hid (by rw [hys]; exact HO2.out)
    have HXW := Lib.hid hxw
    have HYW := Lib.hid hyw
    have HXN := Lib.hid hxn
    have HYN := Lib.hid hyn
    have HXZ := Lib.hid hxz
    have HYZ := Lib.hid hyz
    clear hxs hys hxw hyw hxn hyn hxz hyz HO1 HO2 HO1b
    go_wp2_with fail
    go_loopw [10] (fun iv wr => ∃ (k : Nat) (zs : List Nat), k ≤ n + 1 ∧ iv = .int .i64 k ∧ zs.length = n + 1 ∧ Wds zs ∧ (∀ (j p q r : Nat), xs[j]? = some p → ys[j]? = some q → zs[j]? = some r → r = if j < k then p &&& q else p) ∧ wr.ownsRow w.heap.size 119 1 (.slice (some ⟨w.heap.size, 0, none⟩) (n + 1) (n + 1)) (n + 1) (zs.flatMap Wc) ∧ wr.ownsRow w1.heap.size 119 1 (.slice (some ⟨w1.heap.size, 0, none⟩) (n + 1) (n + 1)) (n + 1) (ys.flatMap Wc) ∧ Below w.heap.size w wr) (fun iv _ => n + 1 - (intOf iv).toNat)
    case atStart => exact ⟨0, xs, Nat.zero_le _, rfl, hxl, HXW.out, fun j p q r h1 _ h3 => by rw [h1] at h3; injection h3 with h3; rw [← h3]; simp, HO1c.out, HO2c.out, HB2.out⟩
    case round =>
      obtain ⟨k, zs, hk, rfl, hzl, hzw, hrel', hou, hov, hbw⟩ := hrel
      have HOU := Lib.hid hou
      have HOV := Lib.hid hov
      have HBW := Lib.hid hbw
      have HZW := Lib.hid hzw
      have HREL := Lib.hid hrel'
      clear hou hov hbw hzw hrel'
      by_cases hlt : k < n + 1
      · have hlt' : (k : Int) < (n : Int) + 1 := by omega
        have g1 : (0 : Int) ≤ (k : Int) := by omega
        obtain ⟨p, hp⟩ := get_some hxl hlt
        obtain ⟨q, hq⟩ := get_some hyl hlt
        obtain ⟨r, hr⟩ := get_some hzl hlt
        obtain rfl : r = p := by have h := HREL.out k p q r hp hq hr; simpa using h
        have lp := hw0 HZW.out hr
        have lq := hw0 HYW.out hq
        have q1 := own_wc HOU.out hr
        have q2 := own_wc HOV.out hq
        have hf := HOU.out.frozenAt k
        have hbits : bits .and .u32 (r : Int) (q : Int) = ((r &&& q : Nat) : Int) := (bits_nat .u32 32 (by decide) wraps_u32 r q lp lq).1
        have hlr : r &&& q < W32 := Nat.lt_of_le_of_lt Nat.and_le_left lp
        have HP := Lib.hid hp
        have HQ := Lib.hid hq
        have HR9 := Lib.hid hr
        clear hp hq hr
        go_wp2_with fail
        refine wp_region_G (S := (fun w' => w'.cell? ⟨w.heap.size, k, none⟩ = some (.int .u32 (r : Int)) ∧ w'.cell? ⟨w1.heap.size, k, none⟩ = some (.int .u32 (q : Int)))) 10 (by kernel_rfl) ?_ (fun hHeld => ?_)
        · first | exact True.intro | ((try dsimp only); go_keep)
        refine wpAnyG_take (i := 0) (v := ?_) rfl (by kernel_rfl) (by kernel_rfl) (by kernel_rfl) (by kernel_rfl) 8 (by kernel_rfl) (fun _ _ _ h => h) (Or.inl ⟨by kernel_rfl, ?_⟩) (by assumption) ?_
        rotate_left 1
        · (intro w hSw; (try dsimp only at hSw); go_simp; try with_reducible rfl)
        try simp only [List.getElem_toArray, List.getElem_cons_succ, List.getElem_cons_zero, Act.put, List.setIfInBounds_toArray, List.set_cons_zero, List.set_cons_succ]
        refine wpAnyG_take (i := 1) (v := ?_) rfl (by kernel_rfl) (by kernel_rfl) (by kernel_rfl) (by kernel_rfl) 8 (by kernel_rfl) (fun _ _ _ h => h) (Or.inl ⟨by kernel_rfl, ?_⟩) (by assumption) ?_
        rotate_left 1
        · (intro w hSw; (try dsimp only at hSw); go_simp; try with_reducible rfl)
        try simp only [List.getElem_toArray, List.getElem_cons_succ, List.getElem_cons_zero, Act.put, List.setIfInBounds_toArray, List.set_cons_zero, List.set_cons_succ]
        refine wpAnyG_take (i := 2) (v := ?_) rfl (by kernel_rfl) (by kernel_rfl) (by kernel_rfl) (by kernel_rfl) 8 (by kernel_rfl) (fun _ _ _ h => h) (Or.inl ⟨by kernel_rfl, ?_⟩) (by assumption) ?_
        rotate_left 1
        · (intro w hSw; (try dsimp only at hSw); go_simp; try with_reducible rfl)
        try simp only [List.getElem_toArray, List.getElem_cons_succ, List.getElem_cons_zero, Act.put, List.setIfInBounds_toArray, List.set_cons_zero, List.set_cons_succ]
        refine wpAnyG_take (i := 3) (v := ?_) rfl (by kernel_rfl) (by kernel_rfl) (by kernel_rfl) (by kernel_rfl) 8 (by kernel_rfl) (fun _ _ _ h => h) (Or.inl ⟨by kernel_rfl, ?_⟩) (by assumption) ?_
        rotate_left 1
        · (intro w hSw; (try dsimp only at hSw); go_simp; try with_reducible rfl)
        try simp only [List.getElem_toArray, List.getElem_cons_succ, List.getElem_cons_zero, Act.put, List.setIfInBounds_toArray, List.set_cons_zero, List.set_cons_succ]
        refine wpAnyG_take (i := 4) (v := ?_) rfl (by kernel_rfl) (by kernel_rfl) (by kernel_rfl) (by kernel_rfl) 8 (by kernel_rfl) (fun _ _ _ h => h) (Or.inl ⟨by kernel_rfl, ?_⟩) (by assumption) ?_
        rotate_left 1
        · (intro w hSw; (try dsimp only at hSw); go_simp; try with_reducible rfl)
        try simp only [List.getElem_toArray, List.getElem_cons_succ, List.getElem_cons_zero, Act.put, List.setIfInBounds_toArray, List.set_cons_zero, List.set_cons_succ]
        refine wpAnyG_take (i := 5) (v := ?_) rfl (by kernel_rfl) (by kernel_rfl) (by kernel_rfl) (by kernel_rfl) 8 (by kernel_rfl) (fun _ _ _ h => h) (Or.inl ⟨by kernel_rfl, ?_⟩) (by assumption) ?_
        rotate_left 1
        · (intro w hSw; (try dsimp only at hSw); go_simp; try with_reducible rfl)
        try simp only [List.getElem_toArray, List.getElem_cons_succ, List.getElem_cons_zero, Act.put, List.setIfInBounds_toArray, List.set_cons_zero, List.set_cons_succ]
        refine wpAnyG_take (i := 6) (v := ?_) rfl (by kernel_rfl) (by kernel_rfl) (by kernel_rfl) (by kernel_rfl) 8 (by kernel_rfl) (fun _ _ _ h => h) (Or.inl ⟨by kernel_rfl, ?_⟩) (by assumption) ?_
        rotate_left 1
        · (intro w hSw; (try dsimp only at hSw); go_simp; try with_reducible rfl)
        try simp only [List.getElem_toArray, List.getElem_cons_succ, List.getElem_cons_zero, Act.put, List.setIfInBounds_toArray, List.set_cons_zero, List.set_cons_succ]
        refine wpAnyG_take (i := 7) (v := ?_) rfl (by kernel_rfl) (by kernel_rfl) (by kernel_rfl) (by kernel_rfl) 8 (by kernel_rfl) (fun _ _ _ h => h) (Or.inl ⟨by kernel_rfl, ?_⟩) (by assumption) ?_
        rotate_left 1
        · (intro w hSw; (try dsimp only at hSw); go_simp; try with_reducible rfl)
        try simp only [List.getElem_toArray, List.getElem_cons_succ, List.getElem_cons_zero, Act.put, List.setIfInBounds_toArray, List.set_cons_zero, List.set_cons_succ]
        refine wpAnyG_take (i := 8) (v := ?_) rfl (by kernel_rfl) (by kernel_rfl) (by kernel_rfl) (by kernel_rfl) 8 (by kernel_rfl) (fun _ _ _ h => h) (Or.inl ⟨by kernel_rfl, ?_⟩) (by assumption) ?_
        rotate_left 1
        · (intro w hSw; (try dsimp only at hSw); go_simp; try with_reducible rfl)
        try simp only [List.getElem_toArray, List.getElem_cons_succ, List.getElem_cons_zero, Act.put, List.setIfInBounds_toArray, List.set_cons_zero, List.set_cons_succ]
        refine wpAnyG_take (i := 9) (v := ?_) rfl (by kernel_rfl) (by kernel_rfl) (by kernel_rfl) (by kernel_rfl) 8 (by kernel_rfl) (fun _ _ _ h => h) (Or.inl ⟨by kernel_rfl, ?_⟩) (by assumption) ?_
        rotate_left 1
        · (intro w hSw; (try dsimp only at hSw); go_simp; try with_reducible rfl)
        try simp only [List.getElem_toArray, List.getElem_cons_succ, List.getElem_cons_zero, Act.put, List.setIfInBounds_toArray, List.set_cons_zero, List.set_cons_succ]
        refine wpAnyG_one (i := 10) (by kernel_rfl) rfl (fun K hK => ?_)
        go_simp
        refine hK.out _ _ ?_ (fun hHeld => ?_)
        · exact .inr (by kernel_rfl)
        clear hK K
        try simp only [List.getElem_toArray, List.getElem_cons_succ, List.getElem_cons_zero, Act.put, List.setIfInBounds_toArray, List.set_cons_zero, List.set_cons_succ]
        refine wpAnyG_done (by kernel_rfl) ?_ _
        go_wp2_with fail
        have ho1 := own_set_wc (own_drewN HOU.out 1) (i := k) (by omega) (r &&& q)
        have hv1 := (own_drewN HOV.out 1).kept ho1.2 (.inr (by simp only [Value.ownBlock]; intro e; injection e with e; omega))
        have hb1 := (below_drewN HBW.out 1).grown ho1.2 (Nat.le_of_lt (HOU.out.lt w.heap.size rfl).2) (fun g hg => by injection hg with hg; omega)
        exact ⟨⟨k + 1, zs.set k (r &&& q), by omega, by go_num, by simp [hzl], wds_set HZW.out hlr, zip_step (f := fun p q => p &&& q) HREL.out HP.out HQ.out rfl, ho1.1, hv1, hb1⟩, by simp [intOf]; omega⟩
      · obtain rfl : n + 1 = k := by omega
        have hzip : zs = List.zipWith (· &&& ·) xs ys := get_zip_and hxl hyl hzl fun i p q r h1 h2 h3 => by
          have h := HREL.out i p q r h1 h2 h3
          rw [if_pos (by have := (List.getElem?_eq_some_iff.1 h1).1; omega)] at h
          exact h
        have hval : nv zs = x.natAbs &&& y.natAbs := by rw [hzip, nv_and xs ys (by omega) HXW.out HYW.out, HXN.out, HYN.out]
        obtain ⟨p, hp⟩ := get_some hxl (show n < n + 1 by omega)
        obtain ⟨q, hq⟩ := get_some hyl (show n < n + 1 by omega)
        obtain ⟨r, hr⟩ := get_some hzl (show n < n + 1 by omega)
        have hr0 : r = 0 := by
          have h := HREL.out n p q r hp hq hr
          rw [HXZ.out p hp, HYZ.out q hq] at h
          simpa using h
        subst hr0
        have HVAL := Lib.hid hval
        have HR9 := Lib.hid hr
        clear hzip hval hp hq hr
        go_wp2_with fail
        refine (of_obj b o n w.heap.size w.heap.size zs _ (HZ.out.below (HBW.out)) HOU.out HZW.out HR9.out (by omega)).mono ?_
        rintro e w5 ⟨rfl, hi5, hu5⟩
        rw [HVAL.out] at hi5
        have HI5 := Lib.hid hi5
        have HU5 := Lib.hid hu5
        clear hi5 hu5
        go_wp2_with fail
        go_ret
        exact ⟨rfl, HI5.out, Upd.after HBW.out HU5.out hblt⟩
  · have hw1 : IntKind.i64.wrap ((n : Int) + 1) = (n : Int) + 1 := IntWalk.i64_in _ (by omega)
    go_enter Tryz.func108, Tryz.ntmps108
    go_wp2_with fail
    go_quiet (fail)
    clear hw1
    go_wp2_with fail
    refine (low_int b1 o1 (n + 1) x _ (HX.out.below (below_drewN (Below.refl _ _) nq)) hx0 (by rw [← HN.out]; omega) (by omega)).mono ?_
    rintro e w1 ⟨rfl, ho1, hb1⟩
    have z1 := hb1.size
    have hs1 : w.heap.size < w1.heap.size := (ho1.lt w.heap.size rfl).2
    have HO1 := Lib.hid ho1
    have HB1 : Hid (Below w.heap.size w w1) := Lib.hid ((below_drewN (Below.refl w.heap.size w) nq).trans hb1)
    clear ho1 hb1
    go_wp2_with fail
    refine (low_int b2 o2 (n + 1) y _ (HY.out.below HB1.out) hy0 (by rw [← HN'.out]; omega) (by omega)).mono ?_
    rintro e w2 ⟨rfl, ho2, hb2⟩
    have z2 := hb2.size
    have HO2 := Lib.hid ho2
    have HO1b := Lib.hid (own_below HO1.out hb2)
    have HB2 : Hid (Below w.heap.size w w2) := Lib.hid (below_then HB1.out hb2)
    clear ho2 hb2
    obtain ⟨xs, hxs⟩ : ∃ xs, xs = padded x.natAbs (n + 1) := ⟨_, rfl⟩
    obtain ⟨ys, hys⟩ : ∃ ys, ys = padded y.natAbs (n + 1) := ⟨_, rfl⟩
    have hxl : xs.length = n + 1 := by rw [hxs]; exact padded_len (by rw [← HN.out]; omega)
    have hyl : ys.length = n + 1 := by rw [hys]; exact padded_len (by rw [← HN'.out]; omega)
    have hxw : Wds xs := by rw [hxs]; exact padded_wds _ _
    have hyw : Wds ys := by rw [hys]; exact padded_wds _ _
    have hxn : nv xs = x.natAbs := by rw [hxs]; exact padded_nv _ _
    have hyn : nv ys = y.natAbs := by rw [hys]; exact padded_nv _ _
    have hxz : ∀ v, xs[n]? = some v → v = 0 := fun v h => by rw [hxs] at h; exact padded_zero (by rw [← HN.out]; omega) h
    have hyz : ∀ v, ys[n]? = some v → v = 0 := fun v h => by rw [hys] at h; exact padded_zero (by rw [← HN'.out]; omega) h
    have HO1c : Hid (w2.ownsRow w.heap.size 119 1 (.slice (some ⟨w.heap.size, 0, none⟩) (n + 1) (n + 1)) (n + 1) (xs.flatMap Wc)) := Lib.hid (by rw [hxs]; exact HO1b.out)
    have HO2c : Hid (w2.ownsRow w1.heap.size 119 1 (.slice (some ⟨w1.heap.size, 0, none⟩) (n + 1) (n + 1)) (n + 1) (ys.flatMap Wc)) := Lib.hid (by rw [hys]; exact HO2.out)
    have HXW := Lib.hid hxw
    have HYW := Lib.hid hyw
    have HXN := Lib.hid hxn
    have HYN := Lib.hid hyn
    have HXZ := Lib.hid hxz
    have HYZ := Lib.hid hyz
    clear hxs hys hxw hyw hxn hyn hxz hyz HO1 HO2 HO1b
    go_wp2_with fail
    go_loopw [10] (fun iv wr => ∃ (k : Nat) (zs : List Nat), k ≤ n + 1 ∧ iv = .int .i64 k ∧ zs.length = n + 1 ∧ Wds zs ∧ (∀ (j p q r : Nat), xs[j]? = some p → ys[j]? = some q → zs[j]? = some r → r = if j < k then p &&& q else p) ∧ wr.ownsRow w.heap.size 119 1 (.slice (some ⟨w.heap.size, 0, none⟩) (n + 1) (n + 1)) (n + 1) (zs.flatMap Wc) ∧ wr.ownsRow w1.heap.size 119 1 (.slice (some ⟨w1.heap.size, 0, none⟩) (n + 1) (n + 1)) (n + 1) (ys.flatMap Wc) ∧ Below w.heap.size w wr) (fun iv _ => n + 1 - (intOf iv).toNat)
    case atStart => exact ⟨0, xs, Nat.zero_le _, rfl, hxl, HXW.out, fun j p q r h1 _ h3 => by rw [h1] at h3; injection h3 with h3; rw [← h3]; simp, HO1c.out, HO2c.out, HB2.out⟩
    case round =>
      obtain ⟨k, zs, hk, rfl, hzl, hzw, hrel', hou, hov, hbw⟩ := hrel
      have HOU := Lib.hid hou
      have HOV := Lib.hid hov
      have HBW := Lib.hid hbw
      have HZW := Lib.hid hzw
      have HREL := Lib.hid hrel'
      clear hou hov hbw hzw hrel'
      by_cases hlt : k < n + 1
      · have hlt' : (k : Int) < (n : Int) + 1 := by omega
        have g1 : (0 : Int) ≤ (k : Int) := by omega
        obtain ⟨p, hp⟩ := get_some hxl hlt
        obtain ⟨q, hq⟩ := get_some hyl hlt
        obtain ⟨r, hr⟩ := get_some hzl hlt
        obtain rfl : r = p := by have h := HREL.out k p q r hp hq hr; simpa using h
        have lp := hw0 HZW.out hr
        have lq := hw0 HYW.out hq
        have q1 := own_wc HOU.out hr
        have q2 := own_wc HOV.out hq
        have hf := HOU.out.frozenAt k
        have hbits : bits .and .u32 (r : Int) (q : Int) = ((r &&& q : Nat) : Int) := (bits_nat .u32 32 (by decide) wraps_u32 r q lp lq).1
        have hlr : r &&& q < W32 := Nat.lt_of_le_of_lt Nat.and_le_left lp
        have HP := Lib.hid hp
        have HQ := Lib.hid hq
        have HR9 := Lib.hid hr
        clear hp hq hr
        go_wp2_with fail
        refine wp_region_G (S := (fun w' => w'.cell? ⟨w.heap.size, k, none⟩ = some (.int .u32 (r : Int)) ∧ w'.cell? ⟨w1.heap.size, k, none⟩ = some (.int .u32 (q : Int)))) 10 (by kernel_rfl) ?_ (fun hHeld => ?_)
        · first | exact True.intro | ((try dsimp only); go_keep)
        refine wpAnyG_take (i := 0) (v := ?_) rfl (by kernel_rfl) (by kernel_rfl) (by kernel_rfl) (by kernel_rfl) 8 (by kernel_rfl) (fun _ _ _ h => h) (Or.inl ⟨by kernel_rfl, ?_⟩) (by assumption) ?_
        rotate_left 1
        · (intro w hSw; (try dsimp only at hSw); go_simp; try with_reducible rfl)
        try simp only [List.getElem_toArray, List.getElem_cons_succ, List.getElem_cons_zero, Act.put, List.setIfInBounds_toArray, List.set_cons_zero, List.set_cons_succ]
        refine wpAnyG_take (i := 1) (v := ?_) rfl (by kernel_rfl) (by kernel_rfl) (by kernel_rfl) (by kernel_rfl) 8 (by kernel_rfl) (fun _ _ _ h => h) (Or.inl ⟨by kernel_rfl, ?_⟩) (by assumption) ?_
        rotate_left 1
        · (intro w hSw; (try dsimp only at hSw); go_simp; try with_reducible rfl)
        try simp only [List.getElem_toArray, List.getElem_cons_succ, List.getElem_cons_zero, Act.put, List.setIfInBounds_toArray, List.set_cons_zero, List.set_cons_succ]
        refine wpAnyG_take (i := 2) (v := ?_) rfl (by kernel_rfl) (by kernel_rfl) (by kernel_rfl) (by kernel_rfl) 8 (by kernel_rfl) (fun _ _ _ h => h) (Or.inl ⟨by kernel_rfl, ?_⟩) (by assumption) ?_
        rotate_left 1
        · (intro w hSw; (try dsimp only at hSw); go_simp; try with_reducible rfl)
        try simp only [List.getElem_toArray, List.getElem_cons_succ, List.getElem_cons_zero, Act.put, List.setIfInBounds_toArray, List.set_cons_zero, List.set_cons_succ]
        refine wpAnyG_take (i := 3) (v := ?_) rfl (by kernel_rfl) (by kernel_rfl) (by kernel_rfl) (by kernel_rfl) 8 (by kernel_rfl) (fun _ _ _ h => h) (Or.inl ⟨by kernel_rfl, ?_⟩) (by assumption) ?_
        rotate_left 1
        · (intro w hSw; (try dsimp only at hSw); go_simp; try with_reducible rfl)
        try simp only [List.getElem_toArray, List.getElem_cons_succ, List.getElem_cons_zero, Act.put, List.setIfInBounds_toArray, List.set_cons_zero, List.set_cons_succ]
        refine wpAnyG_take (i := 4) (v := ?_) rfl (by kernel_rfl) (by kernel_rfl) (by kernel_rfl) (by kernel_rfl) 8 (by kernel_rfl) (fun _ _ _ h => h) (Or.inl ⟨by kernel_rfl, ?_⟩) (by assumption) ?_
        rotate_left 1
        · (intro w hSw; (try dsimp only at hSw); go_simp; try with_reducible rfl)
        try simp only [List.getElem_toArray, List.getElem_cons_succ, List.getElem_cons_zero, Act.put, List.setIfInBounds_toArray, List.set_cons_zero, List.set_cons_succ]
        refine wpAnyG_take (i := 5) (v := ?_) rfl (by kernel_rfl) (by kernel_rfl) (by kernel_rfl) (by kernel_rfl) 8 (by kernel_rfl) (fun _ _ _ h => h) (Or.inl ⟨by kernel_rfl, ?_⟩) (by assumption) ?_
        rotate_left 1
        · (intro w hSw; (try dsimp only at hSw); go_simp; try with_reducible rfl)
        try simp only [List.getElem_toArray, List.getElem_cons_succ, List.getElem_cons_zero, Act.put, List.setIfInBounds_toArray, List.set_cons_zero, List.set_cons_succ]
        refine wpAnyG_take (i := 6) (v := ?_) rfl (by kernel_rfl) (by kernel_rfl) (by kernel_rfl) (by kernel_rfl) 8 (by kernel_rfl) (fun _ _ _ h => h) (Or.inl ⟨by kernel_rfl, ?_⟩) (by assumption) ?_
        rotate_left 1
        · (intro w hSw; (try dsimp only at hSw); go_simp; try with_reducible rfl)
        try simp only [List.getElem_toArray, List.getElem_cons_succ, List.getElem_cons_zero, Act.put, List.setIfInBounds_toArray, List.set_cons_zero, List.set_cons_succ]
        refine wpAnyG_take (i := 7) (v := ?_) rfl (by kernel_rfl) (by kernel_rfl) (by kernel_rfl) (by kernel_rfl) 8 (by kernel_rfl) (fun _ _ _ h => h) (Or.inl ⟨by kernel_rfl, ?_⟩) (by assumption) ?_
        rotate_left 1
        · (intro w hSw; (try dsimp only at hSw); go_simp; try with_reducible rfl)
        try simp only [List.getElem_toArray, List.getElem_cons_succ, List.getElem_cons_zero, Act.put, List.setIfInBounds_toArray, List.set_cons_zero, List.set_cons_succ]
        refine wpAnyG_take (i := 8) (v := ?_) rfl (by kernel_rfl) (by kernel_rfl) (by kernel_rfl) (by kernel_rfl) 8 (by kernel_rfl) (fun _ _ _ h => h) (Or.inl ⟨by kernel_rfl, ?_⟩) (by assumption) ?_
        rotate_left 1
        · (intro w hSw; (try dsimp only at hSw); go_simp; try with_reducible rfl)
        try simp only [List.getElem_toArray, List.getElem_cons_succ, List.getElem_cons_zero, Act.put, List.setIfInBounds_toArray, List.set_cons_zero, List.set_cons_succ]
        refine wpAnyG_take (i := 9) (v := ?_) rfl (by kernel_rfl) (by kernel_rfl) (by kernel_rfl) (by kernel_rfl) 8 (by kernel_rfl) (fun _ _ _ h => h) (Or.inl ⟨by kernel_rfl, ?_⟩) (by assumption) ?_
        rotate_left 1
        · (intro w hSw; (try dsimp only at hSw); go_simp; try with_reducible rfl)
        try simp only [List.getElem_toArray, List.getElem_cons_succ, List.getElem_cons_zero, Act.put, List.setIfInBounds_toArray, List.set_cons_zero, List.set_cons_succ]
        refine wpAnyG_one (i := 10) (by kernel_rfl) rfl (fun K hK => ?_)
        go_simp
        refine hK.out _ _ ?_ (fun hHeld => ?_)
        · exact .inr (by kernel_rfl)
        clear hK K
        try simp only [List.getElem_toArray, List.getElem_cons_succ, List.getElem_cons_zero, Act.put, List.setIfInBounds_toArray, List.set_cons_zero, List.set_cons_succ]
        refine wpAnyG_done (by kernel_rfl) ?_ _
        go_wp2_with fail
        have ho1 := own_set_wc (own_drewN HOU.out 1) (i := k) (by omega) (r &&& q)
        have hv1 := (own_drewN HOV.out 1).kept ho1.2 (.inr (by simp only [Value.ownBlock]; intro e; injection e with e; omega))
        have hb1 := (below_drewN HBW.out 1).grown ho1.2 (Nat.le_of_lt (HOU.out.lt w.heap.size rfl).2) (fun g hg => by injection hg with hg; omega)
        exact ⟨⟨k + 1, zs.set k (r &&& q), by omega, by go_num, by simp [hzl], wds_set HZW.out hlr, zip_step (f := fun p q => p &&& q) HREL.out HP.out HQ.out rfl, ho1.1, hv1, hb1⟩, by simp [intOf]; omega⟩
      · obtain rfl : n + 1 = k := by omega
        have hzip : zs = List.zipWith (· &&& ·) xs ys := get_zip_and hxl hyl hzl fun i p q r h1 h2 h3 => by
          have h := HREL.out i p q r h1 h2 h3
          rw [if_pos (by have := (List.getElem?_eq_some_iff.1 h1).1; omega)] at h
          exact h
        have hval : nv zs = x.natAbs &&& y.natAbs := by rw [hzip, nv_and xs ys (by omega) HXW.out HYW.out, HXN.out, HYN.out]
        obtain ⟨p, hp⟩ := get_some hxl (show n < n + 1 by omega)
        obtain ⟨q, hq⟩ := get_some hyl (show n < n + 1 by omega)
        obtain ⟨r, hr⟩ := get_some hzl (show n < n + 1 by omega)
        have hr0 : r = 0 := by
          have h := HREL.out n p q r hp hq hr
          rw [HXZ.out p hp, HYZ.out q hq] at h
          simpa using h
        subst hr0
        have HVAL := Lib.hid hval
        have HR9 := Lib.hid hr
        clear hzip hval hp hq hr
        go_wp2_with fail
        refine (of_obj b o n w.heap.size w.heap.size zs _ (HZ.out.below (HBW.out)) HOU.out HZW.out HR9.out (by omega)).mono ?_
        rintro e w5 ⟨rfl, hi5, hu5⟩
        rw [HVAL.out] at hi5
        have HI5 := Lib.hid hi5
        have HU5 := Lib.hid hu5
        clear hi5 hu5
        go_wp2_with fail
        go_ret
        exact ⟨rfl, HI5.out, Upd.after HBW.out HU5.out hblt⟩


set_option maxRecDepth 100000 in
set_option maxHeartbeats 2000000 in
theorem rsh_obj (b o b1 o1 : Nat) (x k : Nat) (w : World) (hz : IObj w b o) (hx : IntAt w b1 o1 (x : Int)) (hl : (dig x).length ≤ 10000000) (hk : k ≤ 100000000) :
    Calls Tryz.prog 107 #[.pointer (some ⟨b, o, none⟩), .pointer (some ⟨b1, o1, none⟩), .int .u64 (k : Int)] w fun e w' => e = .returned (.pointer (some ⟨b, o, none⟩)) ∧ IntS (fun d => w.heap.size ≤ d ∧ d < w'.heap.size) w' b o ((x / 2 ^ k : Nat) : Int) ∧ Upd w w' b o := by
  obtain ⟨A, n, c, s, HN, HS, h0, h1, hc, HR⟩ := hx.open
  rw [Int.natAbs_natCast] at HN HR
  rw [← HN.out] at hl
  have HZ := Lib.hid hz
  obtain rfl : s = false := by rw [HS.out]; simp
  clear hz hx
  have hR : RdE Wc 1 w (fun d => d < w.heap.size) A n (dig x) := HR.out.keep (fun _ _ => rfl)
  have HR' := Lib.hid hR
  obtain ⟨y, hy⟩ : ∃ y, y = x / 2 ^ k := ⟨_, rfl⟩
  rw [← hy]
  have HY := Lib.hid hy
  clear hR hy
  go_enter Tryz.func107, Tryz.ntmps107
  go_wp2_with fail
  refine (right_k _ _ _ x k _ _ HR'.out (fun b hb => hb) (by omega) hk).mono ?_
  rw [← HY.out]
  rintro e w1 ⟨A1, c1, rfl, hc1, hr1, hb1⟩
  have HR1 := Lib.hid hr1
  have HB1 := Lib.hid hb1
  clear hr1 hb1
  go_wp2_with fail
  refine (give_obj _ _ (y : Int) false A1 _ c1 w1 (HZ.out.below HB1.out) rfl hc1 (HR1.out.imp fun d hd => hd.2) (by simp)).mono ?_
  rintro e w2 ⟨rfl, hi2, hc2, hu2⟩
  have HC2 := Lib.hid hc2
  have HI2 := Lib.hid hi2
  have HU2 := Lib.hid hu2
  clear hi2 hu2 hc2
  go_wp2_with fail
  go_ret
  exact ⟨rfl, ⟨HI2.out, A1, _, c1, HC2.out, by rw [Int.natAbs_natCast]; exact (HU2.out.words HR1.out).imp fun d hd => ⟨hd.1, Nat.lt_of_lt_of_le hd.2 HU2.out.size⟩⟩, Upd.after HB1.out HU2.out HZ.out.lt⟩


end Go.Proofs.YtjokpfgncmdomaaGreatDoor

/- dyad.limbs: the walk -/
namespace Go.Proofs.YtjokpfgncmdomaaGreatDoor
open Go.RowKit Go.Sort

theorem own_upd {w w' : World} {base e size n b o : Nat} {v : Value} {xs : List Value} (h : w.ownsRow base e size v n xs) (hu : Upd w w' b o) (hb : b < base) : w'.ownsRow base e size v n xs := by
  refine ⟨h.1, ?_⟩
  rcases h.2 with h1 | ⟨g, cap, cur, hs, hbs, hg, hr⟩
  · exact .inl h1
  · exact .inr ⟨g, cap, cur, hs, hbs, (hu.blk g (Array.getElem?_eq_some_iff.1 hg).1 (by omega)).trans hg, hr⟩
def slLen : Value → Nat
  | .slice _ n _ => n
  | _ => 0

set_option maxRecDepth 100000 in
set_option maxHeartbeats 4000000 in
theorem limbs_dyad (b o : Nat) (x : Int) (w : World) (hx : IntAt w b o x) (hl : (dig x.natAbs).length ≤ 1000000) :
    Calls Tryz.prog 144 #[.pointer (some ⟨b, o, none⟩)] w fun e w' => ∃ A c, e = .returned (.slice A (lim x.natAbs).length c) ∧ (lim x.natAbs).length ≤ c ∧ RdE Lc 1 w' (fun b => w.heap.size ≤ b ∧ b < w'.heap.size) A (lim x.natAbs).length (lim x.natAbs) ∧ Below w.heap.size w w' := by
  obtain ⟨i0, hi0, hz0, hz1, hz2⟩ := info_parts' info_u64
  have HX := Lib.hid hx
  obtain ⟨X, hX⟩ : ∃ X, X = x.natAbs := ⟨_, rfl⟩
  rw [← hX] at hl ⊢
  have EX := Lib.hid hX
  have HXL := Lib.hid hl
  have hLL : (lim X).length ≤ 1000000 := by rw [lim_len]; have := blen_bound hl; omega
  have HLL := Lib.hid hLL
  clear hx hX hl hLL
  go_enter Tryz.func144, Tryz.ntmps144
  go_wp2_with fail
  refine (abs_int _ 0 b o 0 x _ (new_intAt w) (HX.out.below (below1 ..)) (by rw [← EX.out]; have := HXL.out; omega)).mono ?_
  rintro e w1 ⟨rfl, hi1, hu1⟩
  rw [← EX.out] at hi1
  have hb1 := newB hu1
  have HI1 := Lib.hid hi1
  have HB1 := Lib.hid hb1
  have hp1 := hi1.lt
  clear hi1 hu1 hb1
  go_wp2_with fail
  have hn2 : IntAt ((w1.alloc newI).alloc newI) (w1.heap.size + 1) 0 0 := by have h := new_intAt (w1.alloc newI); rwa [World.size_alloc] at h
  refine (setU_mask (w1.heap.size + 1) 0 0 ((w1.alloc newI).alloc newI) hn2).mono ?_
  rintro e w2 ⟨rfl, hi2, hu2⟩
  have hb2 : Below (w1.alloc newI).heap.size (w1.alloc newI) w2 := newB (w := w1.alloc newI) (by rwa [World.size_alloc])
  have z2 := hb2.size
  have HI2 := Lib.hid hi2
  have HQ2 := Lib.hid ((new_intAt w1).below hb2)
  have HP2 := Lib.hid ((HI1.out.below (below1 w1 newI)).below hb2)
  have HB2 := Lib.hid ((HB1.out.trans ((below1 w1 newI).mono HB1.out.size)).trans (hb2.mono (by simp; omega)))
  have hm2 := hi2.lt
  have hq2 := HQ2.out.lt
  have hs1 : (w1.alloc newI).heap.size = w1.heap.size + 1 := by simp
  clear hi2 hu2 hb2
  go_wp2_with fail
  go_loopw [3] (fun ov wr => ∃ (k y : Nat) (zs : List Nat), zs.length = k ∧ zs ++ lim y = lim X ∧ y ≤ X ∧ wr.ownsRow w2.heap.size 58 1 ov k (zs.flatMap Lc) ∧ IntS (fun d => d < wr.heap.size ∧ some d ≠ ov.ownBlock) wr w.heap.size 0 (y : Int) ∧ IObj wr w1.heap.size 0 ∧ IntS (fun d => d < w2.heap.size) wr (w1.heap.size + 1) 0 (M64 : Int) ∧ Below w.heap.size w wr ∧ w2.heap.size ≤ wr.heap.size) (fun ov _ => (lim X).length - slLen ov)
  case atStart => exact ⟨0, X, [], rfl, rfl, Nat.le_refl _, World.ownsRow_nil .., HP2.out.toS.imp (fun d h => ⟨h, by simp [Value.ownBlock]⟩), HQ2.out.iobj, HI2.out.toS, HB2.out, Nat.le_refl _⟩
  case round =>
    obtain ⟨k, y, zs, hzl, hzs, hyX, hown, hp, hq, hm, hb, hsz⟩ := hrel
    have HO := Lib.hid hown
    have HP := Lib.hid hp
    have HQ := Lib.hid hq
    have HM := Lib.hid hm
    have HB := Lib.hid hb
    have HZS := Lib.hid hzs
    have HZL := Lib.hid hzl
    clear hown hp hq hm hb
    go_wp2_with fail
    refine (sign_int _ 0 (y : Int) wr HP.out.1).mono ?_
    rintro e w' ⟨rfl, rfl⟩
    obtain ⟨A3, c3, rfl, hc3, _⟩ := own_slice HO.out
    have hyl : (dig y).length ≤ 1000000 := Nat.le_trans (dig_len_mono hyX) HXL.out
    have HYL := Lib.hid hyl
    have HYX := Lib.hid hyX
    by_cases h0 : y = 0
    · subst h0
      have e0 : sgnI ((0 : Nat) : Int) = 0 := rfl
      rw [e0]
      go_wp2_with fail
      go_ret
      have hz : zs = lim X := by rw [← HZS.out]; simp [lim_zero]
      subst hz
      have hk := HZL.out
      subst hk
      have hr := (RdE.of_own (f := Lc) (size := 1) (fun _ => rfl) (by decide) HO.out).imp (S' := fun b => w.heap.size ≤ b ∧ b < wr.heap.size) (fun b h => ⟨by have := HB2.out.size; omega, h.2.1⟩)
      exact ⟨A3, c3, rfl, hc3, hr, HB.out⟩
    · have e0 : sgnI (y : Int) = 1 := by unfold sgnI; rw [if_neg (by omega), if_neg (by omega)]
      rw [e0]
      have H0 := Lib.hid h0
      have ek : k < (lim X).length := by
        rw [← HZS.out, List.length_append, HZL.out]
        have := List.length_pos_iff.2 (lim_pos h0)
        omega
      have HEK := Lib.hid ek
      have LK : k ≤ 1000000 := by have := HLL.out; omega
      clear e0 h0 hyX hyl hzl hzs
      go_wp2_with fail
      refine (and_obj w1.heap.size 0 w.heap.size 0 (w1.heap.size + 1) 0 (y : Int) (M64 : Int) wr HQ.out HP.out.1 HM.out.1 (by omega) (by decide) (by rw [Int.natAbs_natCast]; have := HYL.out; omega) (by rw [Int.natAbs_natCast]; have := M64_len; omega)).mono ?_
      rintro e w3 ⟨rfl, hi3, hu3⟩
      rw [Int.natAbs_natCast, Int.natAbs_natCast, M64_and] at hi3
      have HI3 := Lib.hid hi3
      have z3 := hu3.size
      have HP3 := Lib.hid (HP.out.upd hu3 (by omega))
      have HM3 := Lib.hid (HM.out.upd hu3 (by omega))
      have HO3 := Lib.hid (own_upd HO.out hu3 (by omega))
      have HB3 := Lib.hid (HB.out.trans (hu3.below (by omega) HB.out.size))
      clear hi3 hu3
      go_wp2_with fail
      refine (uint64_int _ 0 ((y % 18446744073709551616 : Nat) : Int) _ HI3.out).mono ?_
      rintro e w' ⟨rfl, rfl⟩
      rw [Int.natAbs_natCast, Nat.mod_mod]
      obtain ⟨v, hv⟩ : ∃ v, v = y % 18446744073709551616 := ⟨_, rfl⟩
      rw [← hv] at HI3 ⊢
      have HV := Lib.hid hv
      clear hv
      have hoA := HO3.out.alloc (.cells #[Value.int .u64 (v : Int)] 58)
      have HOA := Lib.hid hoA
      clear hoA
      go_wp2_with (at_builtin; go_must (refine wpList_append_rd _ rfl (.tmp 16) (.tmp 22) _ rfl w2.heap.size 58 i0 _ 1 8 Tryz.underlying22 hi0 hz0 hz1 hz2 rfl (by omega) (.slice A3 k c3) k (zs.flatMap Lc) rfl HOA.out (fun _ => True) (some ⟨w3.heap.size, 0, none⟩) 1 1 [.int .u64 (v : Int)] rfl (rd_blk (blk_new ..) rfl trivial) (by simp [Value.oneCell']) (by simp only [maxLen]; omega) (by omega) (by simp; omega) ?_); intro v2 w4 hown4 hg4 hat4)
      have hle : zs.flatMap Lc ++ [Value.int .u64 (v : Int)] = (zs ++ [v]).flatMap Lc := by rw [List.flatMap_append]; rfl
      rw [hle] at hown4
      have HO4 := Lib.hid hown4
      have hb4 : Below w2.heap.size w3 w4 := ((below1 w3 (.cells #[Value.int .u64 (v : Int)] 58)).mono (by omega)).trans (Below.grown (B := w2.heap.size) (Below.refl w2.heap.size (w3.alloc (.cells #[Value.int .u64 (v : Int)] 58))) hg4 (by simp; omega) (fun g hg => (HOA.out.lt g hg).1))
      have HB4 := Lib.hid (HB3.out.trans (hb4.mono (by have := HB2.out.size; omega)))
      have hrow : ∀ q, q < w2.heap.size → some q ≠ (Value.slice A3 k c3).ownBlock := fun q hq e => by have := (HOA.out.lt q e.symm).1; omega
      have HP4 := Lib.hid ((HP3.out.below (below1 w3 (.cells #[Value.int .u64 (v : Int)] 58)) (fun d h => by omega)).grown hg4 (hrow _ (by omega)) (fun d h => ⟨by simp; omega, h.2⟩))
      have HM4 := Lib.hid ((HM3.out.below (below1 w3 (.cells #[Value.int .u64 (v : Int)] 58)) (fun d h => by omega)).grown hg4 (hrow _ (by omega)) (fun d h => ⟨by simp; omega, hrow d h⟩))
      have HQ4 := Lib.hid ((HI3.out.iobj.below (below1 w3 (.cells #[Value.int .u64 (v : Int)] 58))).grown hg4 (hrow _ (by omega)))
      have z4 := hb4.size
      obtain ⟨A5, c5, rfl, _, _⟩ := own_slice HO4.out
      clear hown4 hg4 hle hat4 hb4
      go_wp2_with fail
      refine (rsh_obj w.heap.size 0 w.heap.size 0 y 64 w4 HP4.out.1.iobj HP4.out.1 (by have := HYL.out; omega) (by omega)).mono ?_
      rintro e w5 ⟨rfl, hi5, hu5⟩
      have HI5 := Lib.hid hi5
      have z5 := hu5.size
      have HM5 := Lib.hid (HM4.out.upd hu5 (by omega))
      have HQ5 := Lib.hid (HQ4.out.upd hu5 (by omega))
      have HO5 := Lib.hid (own_upd HO4.out hu5 (by omega))
      have HB5 := Lib.hid (HB4.out.trans (hu5.below (by omega) HB4.out.size))
      clear hi5 hu5
      go_wp2_with fail
      go_roundw
      case rel =>
        refine ⟨k + 1, y / 2 ^ 64, zs ++ [v], by rw [List.length_append, HZL.out]; rfl, ?_, Nat.le_trans (Nat.div_le_self _ _) HYX.out, HO5.out, HI5.out.imp (fun d h => ⟨h.2, fun e => by have := (HO4.out.lt d e.symm).2; omega⟩), HQ5.out, HM5.out, HB5.out, by omega⟩
        rw [List.append_assoc]
        have h := lim_succ H0.out
        rw [← HZS.out, h, HV.out]
        rfl
      case measure => simp [slLen]; have := HEK.out; omega

end Go.Proofs.YtjokpfgncmdomaaGreatDoor
