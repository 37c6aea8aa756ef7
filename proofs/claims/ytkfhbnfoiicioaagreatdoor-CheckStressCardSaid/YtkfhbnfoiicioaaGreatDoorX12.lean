import Derived.Test.YtkfhbnfoiicioaaGreatDoorX11
import Derived.Deep.Cut
import Derived.Deep.DeepCutAuto
set_option linter.unusedSimpArgs false
set_option linter.unusedVariables false
/- girderref00: Sign, Minus, Times, Float of a number: the walks -/
namespace Go.Proofs.YtkfhbnfoiicioaaGreatDoor
open Ieee Go.RowKit Go.Sort

/-- a number of girderref00 -/
def NA (w : World) (v : Value) (d : DV) : Prop := NAt w v d.neg d.mag d.exp ∧ Lds d.mag
theorem NA.below {w w' : World} {v : Value} {d : DV} (h : NA w v d) (hb : Below w.heap.size w w') : NA w' v d := by
  obtain ⟨⟨A, n, c, e, hl⟩, h2⟩ := h
  exact ⟨⟨A, n, c, e, hl.below hb⟩, h2⟩
theorem NA.agg {w : World} {v : Value} {d : DV} (h : NA w v d) : ∃ A n c, v = .agg #[.bool d.neg, .slice A n c, .int .i64 d.exp] ∧ LAt w (.slice A n c) d.mag := h.1
theorem num_out {W : World} {g n c : Nat} {b0 : Bool} {A : Option Addr} {m : Int} {t : TypeId} (hb : W.heap[g]? = some (.cells #[.bool b0, .slice A n c, .int .i64 m] t (0, 0))) {d : DV} {A2 : Option Addr} {n2 c2 : Nat} (hd : NA W (.agg #[.bool d.neg, .slice A2 n2 c2, .int .i64 d.exp]) d) :
    ∀ w', w' = ((W.setCell ⟨g, 0, none⟩ (.bool d.neg)).setCell ⟨g, 1, none⟩ (.slice A2 n2 c2)).setCell ⟨g, 2, none⟩ (.int .i64 d.exp) →
      NA w' (.agg #[.bool d.neg, .slice A2 n2 c2, .int .i64 d.exp]) d ∧ (∀ B, B ≤ g → Below B W w') ∧ w'.cell? ⟨g, 0, none⟩ = some (.bool d.neg) ∧ w'.cell? ⟨g, 1, none⟩ = some (.slice A2 n2 c2) ∧ w'.cell? ⟨g, 2, none⟩ = some (.int .i64 d.exp) := by
  intro w' hw
  obtain ⟨kc0, kc1, kc2, _⟩ := cells3 hb
  obtain ⟨hb6, hk6, hs6, q0, q1, q2⟩ := dy_set kc0 kc1 kc2 _ _ _ _ _ _ hw
  obtain ⟨⟨A3, n3, c3, e3, A4, c4, e4, hc4, hr4⟩, hl3⟩ := hd
  simp only [Value.agg.injEq, Array.mk.injEq, List.cons.injEq, Value.slice.injEq, and_true, true_and] at e3 e4
  obtain ⟨rfl, rfl, rfl⟩ := e3
  obtain ⟨rfl, rfl, rfl⟩ := e4
  exact ⟨⟨⟨A2, _, c2, rfl, A2, c2, rfl, hc4, (dy_limbs kc0 kc1 kc2 hw hr4).imp (fun d h => by rw [hs6]; exact h)⟩, hl3⟩, hb6, q0, q1, q2⟩
/-- the sign of a number -/
def sgN (d : DV) : Int := if ln d.mag = 0 then 0 else sgB d.neg

set_option maxRecDepth 100000 in
set_option maxHeartbeats 4000000 in
theorem signN_any (v : Value) (d : DV) (w : World) (h : NA w v d) (hn : d.mag.length ≤ 1000000) :
    Calls Tryz.prog 101 #[v] w fun e w' => e = .returned (.int .i64 (sgN d)) ∧ Below w.heap.size w w' := by
  have H1 := Lib.hid h
  obtain ⟨A, n, c, rfl, _⟩ := h.agg
  obtain ⟨s, m, x⟩ := d
  simp only at *
  have I1 := Lib.hid (fun w (h : NA w (.agg #[.bool s, .slice A n c, .int .i64 x]) ⟨s, m, x⟩) => zeroN_any _ s m x w h.1 h.2 (by omega))
  obtain ⟨z, hz⟩ : ∃ z, z = decide (ln m = 0) := ⟨_, rfl⟩
  rw [← hz] at I1
  obtain ⟨r, hr⟩ : ∃ r, r = sgN ⟨s, m, x⟩ := ⟨_, rfl⟩
  rw [← hr]
  have hr1 : z = true → r = 0 := fun h => by rw [hr]; unfold sgN; rw [if_pos (of_decide_eq_true (by rw [← hz]; exact h))]
  have hr2 : z = false → r = sgB s := fun h => by rw [hr]; unfold sgN; rw [if_neg (of_decide_eq_false (by rw [← hz]; exact h))]
  obtain ⟨w0, hw0⟩ : ∃ w0, w0 = w.alloc (.cells #[.bool s, .slice A n c, .int .i64 x] 100) := ⟨_, rfl⟩
  have g1 : w0.heap[w.heap.size]? = some (.cells #[.bool s, .slice A n c, .int .i64 x] 100 (0, 0)) := by rw [hw0]; exact blk_new ..
  have hb0 : Below w.heap.size w w0 := by rw [hw0]; exact below1 ..
  have z0 : w.heap.size < w0.heap.size := by rw [hw0]; simp
  have HB0 := Lib.hid hb0
  have HW := Lib.hid hw0
  have HG := Lib.hid g1
  have HZ := Lib.hid z0
  have HR := Lib.hid (And.intro hr1 hr2)
  obtain ⟨k0, k1, k2, _⟩ := cells3 g1
  clear hw0 hb0 g1 z0 h hz hr hr1 hr2 hn
  cases z
  · have HE := Lib.hid (HR.out.2 rfl)
    clear HR
    cases s
    · skip
      go_enter Tryz.func101, Tryz.ntmps101
      go_wp2_with fail
      rw [← HW.out]
      refine (I1.out w0 (H1.out.below HB0.out)).mono ?_
      rintro e w1 ⟨rfl, hb1⟩
      obtain ⟨k0, k1, k2, _⟩ := cells3 ((hb1.block _ HZ.out).trans HG.out)
      have HB1 := Lib.hid (HB0.out.trans (hb1.mono HB0.out.size))
      clear hb1
      go_wp2_with fail
      go_ret
      exact ⟨by rw [HE.out]; rfl, HB1.out⟩
    · skip
      go_enter Tryz.func101, Tryz.ntmps101
      go_wp2_with fail
      rw [← HW.out]
      refine (I1.out w0 (H1.out.below HB0.out)).mono ?_
      rintro e w1 ⟨rfl, hb1⟩
      obtain ⟨k0, k1, k2, _⟩ := cells3 ((hb1.block _ HZ.out).trans HG.out)
      have HB1 := Lib.hid (HB0.out.trans (hb1.mono HB0.out.size))
      clear hb1
      go_wp2_with fail
      go_ret
      exact ⟨by rw [HE.out]; rfl, HB1.out⟩
  · have HE := Lib.hid (HR.out.1 rfl)
    clear HR
    go_enter Tryz.func101, Tryz.ntmps101
    go_wp2_with fail
    rw [← HW.out]
    refine (I1.out w0 (H1.out.below HB0.out)).mono ?_
    rintro e w1 ⟨rfl, hb1⟩
    obtain ⟨k0, k1, k2, _⟩ := cells3 ((hb1.block _ HZ.out).trans HG.out)
    have HB1 := Lib.hid (HB0.out.trans (hb1.mono HB0.out.size))
    clear hb1
    go_wp2_with fail
    go_ret
    exact ⟨by rw [HE.out]; rfl, HB1.out⟩

set_option maxRecDepth 100000 in
set_option maxHeartbeats 4000000 in
theorem minusN_any (v : Value) (d : DV) (w : World) (h : NA w v d) :
    Calls Tryz.prog 130 #[v] w fun e w' => ∃ v', e = .returned v' ∧ NA w' v' ⟨!d.neg, d.mag, d.exp⟩ ∧ Below w.heap.size w w' := by
  have H1 := Lib.hid h
  obtain ⟨A, n, c, rfl, hl⟩ := h.agg
  obtain ⟨s, m, x⟩ := d
  simp only at *
  obtain ⟨w0, hw0⟩ : ∃ w0, w0 = (w.alloc (.cells #[.bool s, .slice A n c, .int .i64 x] 100)).alloc (.cells #[.bool false, .slice none 0 0, .int .i64 0] 100) := ⟨_, rfl⟩
  have g1 : w0.heap[w.heap.size]? = some (.cells #[.bool s, .slice A n c, .int .i64 x] 100 (0, 0)) := by rw [hw0]; exact blk_old (blk_new ..) _
  have g2 : w0.heap[w.heap.size + 1]? = some (.cells #[.bool false, .slice none 0 0, .int .i64 0] 100 (0, 0)) := by rw [hw0]; have h := blk_new (w.alloc (.cells #[.bool s, .slice A n c, .int .i64 x] 100)) #[.bool false, .slice none 0 0, .int .i64 0] 100; rwa [World.size_alloc] at h
  have hb0 : Below w.heap.size w w0 := by rw [hw0]; exact below2 ..
  have hd : NA w0 (.agg #[.bool (!s), .slice A n c, .int .i64 x]) ⟨!s, m, x⟩ := ⟨⟨A, n, c, rfl, hl.below hb0⟩, H1.out.2⟩
  obtain ⟨k0, k1, k2, f0, f1, f2⟩ := cells3 g1
  obtain ⟨j0, j1, j2, o0, o1, o2⟩ := cells3 g2
  have HB0 := Lib.hid hb0
  have HW := Lib.hid hw0
  have HG := Lib.hid g2
  have HD := Lib.hid hd
  clear hw0 hb0 g1 g2 h hl hd
  go_enter Tryz.func130, Tryz.ntmps130
  go_upto_region 1 with fail
  rw [← HW.out]
  go_wp2_with fail
  obtain ⟨w6, hw6⟩ : ∃ w6, w6 = ((w0.setCell ⟨w.heap.size + 1, 0, none⟩ (.bool (!s))).setCell ⟨w.heap.size + 1, 1, none⟩ (.slice A n c)).setCell ⟨w.heap.size + 1, 2, none⟩ (.int .i64 x) := ⟨_, rfl⟩
  obtain ⟨hD6, hB6, q0, q1, q2⟩ := num_out (d := ⟨!s, m, x⟩) HG.out HD.out w6 hw6
  (try simp only at q0 q1 q2)
  have hb6 := HB0.out.trans (hB6 w.heap.size (by omega))
  rw [← hw6]
  (try simp only [Exit.inBlock, Exit.then])
  refine bodyPost_ret (v := .agg #[.bool (!s), .slice A n c, .int .i64 x]) (by simp [results, Tryz.results130, go_sem, q0, q1, q2]; done) rfl ?_
  exact ⟨_, rfl, hD6, hb6⟩

set_option maxRecDepth 100000 in
set_option maxHeartbeats 4000000 in
theorem timesN_any (v1 v2 : Value) (d1 d2 : DV) (w : World) (h1 : NA w v1 d1) (h2 : NA w v2 d2) (l1 : d1.mag.length ≤ 1000000) (l2 : d2.mag.length ≤ 1000000) (e1 : -1000000 ≤ d1.exp ∧ d1.exp ≤ 1000000) (e2 : -1000000 ≤ d2.exp ∧ d2.exp ≤ 1000000) :
    Calls Tryz.prog 89 #[v1, v2] w fun e w' => ∃ v', e = .returned v' ∧ NA w' v' ⟨!(d1.neg == d2.neg), lim (ln d1.mag * ln d2.mag), d1.exp + d2.exp⟩ ∧ Below w.heap.size w w' := by
  have H1 := Lib.hid h1
  have H2 := Lib.hid h2
  obtain ⟨A1, n1, c1, rfl, hl1⟩ := h1.agg
  obtain ⟨A2, n2, c2, rfl, hl2⟩ := h2.agg
  obtain ⟨s1, m1, x1⟩ := d1
  obtain ⟨s2, m2, x2⟩ := d2
  simp only at *
  obtain ⟨nb, hnb⟩ : ∃ nb, nb = !(s1 == s2) := ⟨_, rfl⟩
  have hnb1 : (!(s1 == s2)) = nb := hnb.symm
  have hnb2 : ((!s1) == s2) = nb := by rw [hnb]; cases s1 <;> cases s2 <;> rfl
  have hnb3 : (s1 != s2) = nb := by rw [hnb]; rfl
  clear hnb
  rw [hnb1]
  obtain ⟨w0, hw0⟩ : ∃ w0, w0 = ((w.alloc (.cells #[.bool s1, .slice A1 n1 c1, .int .i64 x1] 100)).alloc (.cells #[.bool s2, .slice A2 n2 c2, .int .i64 x2] 100)).alloc (.cells #[.bool false, .slice none 0 0, .int .i64 0] 100) := ⟨_, rfl⟩
  have g1 : w0.heap[w.heap.size]? = some (.cells #[.bool s1, .slice A1 n1 c1, .int .i64 x1] 100 (0, 0)) := by rw [hw0]; exact blk_old (blk_old (blk_new ..) _) _
  have g2 : w0.heap[w.heap.size + 1]? = some (.cells #[.bool s2, .slice A2 n2 c2, .int .i64 x2] 100 (0, 0)) := by rw [hw0]; have h := blk_new (w.alloc (.cells #[.bool s1, .slice A1 n1 c1, .int .i64 x1] 100)) #[.bool s2, .slice A2 n2 c2, .int .i64 x2] 100; rw [World.size_alloc] at h; exact blk_old h _
  have g3 : w0.heap[w.heap.size + 1 + 1]? = some (.cells #[.bool false, .slice none 0 0, .int .i64 0] 100 (0, 0)) := by rw [hw0]; have h := blk_new ((w.alloc (.cells #[.bool s1, .slice A1 n1 c1, .int .i64 x1] 100)).alloc (.cells #[.bool s2, .slice A2 n2 c2, .int .i64 x2] 100)) #[.bool false, .slice none 0 0, .int .i64 0] 100; rwa [World.size_alloc, World.size_alloc] at h
  have z0 : w0.heap.size = w.heap.size + 1 + 1 + 1 := by rw [hw0]; simp
  have hb0 : Below w.heap.size w w0 := by rw [hw0]; exact (below2 ..).trans ((below1 ..).mono (by simp; omega))
  have HL1 := Lib.hid (hl1.below hb0)
  have HL2 := Lib.hid (hl2.below hb0)
  have M1 := Lib.hid H1.out.2
  have M2 := Lib.hid H2.out.2
  have HB0 := Lib.hid hb0
  have HG1 := Lib.hid g1
  have HG2 := Lib.hid g2
  have HG3 := Lib.hid g3
  have HZ := Lib.hid z0
  have HW0 := Lib.hid hw0
  obtain ⟨u, hu⟩ : ∃ u, u = w0.drew := ⟨_, rfl⟩
  have hbu : Below w0.heap.size w0 u := by rw [hu]; exact (Below.refl _ _).drew
  have HU := Lib.hid hu
  have HBU := Lib.hid hbu
  have ew : IntKind.i64.wrap (x1 + x2) = x1 + x2 := IntWalk.i64_in _ (by omega)
  obtain ⟨k0, k1, k2, _⟩ := cells3 g1
  obtain ⟨j0, j1, j2, _⟩ := cells3 g2
  clear hw0 hb0 g1 g2 g3 z0 hu hbu h1 h2 hl1 hl2 H1 H2
  go_enter Tryz.func89, Tryz.ntmps89
  go_upto_region 1 with fail
  rw [← HW0.out]
  refine wp_region_G (S := (fun w' => w'.cell? ⟨w.heap.size, 0, none⟩ = some (.bool s1) ∧ w'.cell? ⟨w.heap.size, 1, none⟩ = some (.slice A1 n1 c1) ∧ w'.cell? ⟨w.heap.size, 2, none⟩ = some (.int .i64 x1) ∧ w'.cell? ⟨w.heap.size + 1, 0, none⟩ = some (.bool s2) ∧ w'.cell? ⟨w.heap.size + 1, 1, none⟩ = some (.slice A2 n2 c2) ∧ w'.cell? ⟨w.heap.size + 1, 2, none⟩ = some (.int .i64 x2))) 16 (by kernel_rfl) ?_ (fun hHeld => ?_)
  · first | exact True.intro | ((try dsimp only); go_keep)
  refine tkG (i := 0) (v := ?_) rfl (by kernel_rfl) (Or.inl ⟨by kernel_rfl, ?_⟩) (by assumption) ?_
  rotate_left 1
  · (intro w hSw; (try dsimp only at hSw); go_simp; try with_reducible rfl)
  try simp only [lyA, lyB, lyC, Act.put, lyD, lyE, lyF]
  refine tkG (i := 1) (v := ?_) rfl (by kernel_rfl) (Or.inl ⟨by kernel_rfl, ?_⟩) (by assumption) ?_
  rotate_left 1
  · (intro w hSw; (try dsimp only at hSw); go_simp; try with_reducible rfl)
  try simp only [lyA, lyB, lyC, Act.put, lyD, lyE, lyF]
  refine tkG (i := 2) (v := ?_) rfl (by kernel_rfl) (Or.inl ⟨by kernel_rfl, ?_⟩) (by assumption) ?_
  rotate_left 1
  · (intro w hSw; (try dsimp only at hSw); go_simp; try with_reducible rfl)
  try simp only [lyA, lyB, lyC, Act.put, lyD, lyE, lyF]
  refine tkG (i := 3) (v := ?_) rfl (by kernel_rfl) (Or.inl ⟨by kernel_rfl, ?_⟩) (by assumption) ?_
  rotate_left 1
  · (intro w hSw; (try dsimp only at hSw); go_simp; try with_reducible rfl)
  try simp only [lyA, lyB, lyC, Act.put, lyD, lyE, lyF]
  refine tkG (i := 4) (v := ?_) rfl (by kernel_rfl) (Or.inl ⟨by kernel_rfl, ?_⟩) (by assumption) ?_
  rotate_left 1
  · (intro w hSw; (try dsimp only at hSw); go_simp; try with_reducible rfl)
  try simp only [lyA, lyB, lyC, Act.put, lyD, lyE, lyF]
  refine tkG (i := 5) (v := ?_) rfl (by kernel_rfl) (Or.inl ⟨by kernel_rfl, ?_⟩) (by assumption) ?_
  rotate_left 1
  · (intro w hSw; (try dsimp only at hSw); go_simp; try with_reducible rfl)
  try simp only [lyA, lyB, lyC, Act.put, lyD, lyE, lyF]
  refine tkG (i := 6) (v := ?_) rfl (by kernel_rfl) (Or.inl ⟨by kernel_rfl, ?_⟩) (by assumption) ?_
  rotate_left 1
  · (intro w hSw; (try dsimp only at hSw); go_simp; try with_reducible rfl)
  try simp only [lyA, lyB, lyC, Act.put, lyD, lyE, lyF]
  refine tkG (i := 7) (v := ?_) rfl (by kernel_rfl) (Or.inl ⟨by kernel_rfl, ?_⟩) (by assumption) ?_
  rotate_left 1
  · (intro w hSw; (try dsimp only at hSw); go_simp; try with_reducible rfl)
  try simp only [lyA, lyB, lyC, Act.put, lyD, lyE, lyF]
  refine tkG (i := 8) (v := ?_) rfl (by kernel_rfl) (Or.inl ⟨by kernel_rfl, ?_⟩) (by assumption) ?_
  rotate_left 1
  · (intro w hSw; (try dsimp only at hSw); go_simp; try with_reducible rfl)
  try simp only [lyA, lyB, lyC, Act.put, lyD, lyE, lyF]
  refine tkG (i := 10) (v := ?_) rfl (by kernel_rfl) (Or.inl ⟨by kernel_rfl, ?_⟩) (by assumption) ?_
  rotate_left 1
  · (intro w hSw; (try dsimp only at hSw); go_simp; try with_reducible rfl)
  try simp only [lyA, lyB, lyC, Act.put, lyD, lyE, lyF]
  refine tkG (i := 11) (v := ?_) rfl (by kernel_rfl) (Or.inl ⟨by kernel_rfl, ?_⟩) (by assumption) ?_
  rotate_left 1
  · (intro w hSw; (try dsimp only at hSw); go_simp; try with_reducible rfl)
  try simp only [lyA, lyB, lyC, Act.put, lyD, lyE, lyF]
  refine tkG (i := 12) (v := ?_) rfl (by kernel_rfl) (Or.inl ⟨by kernel_rfl, ?_⟩) (by assumption) ?_
  rotate_left 1
  · (intro w hSw; (try dsimp only at hSw); go_simp; try with_reducible rfl)
  try simp only [lyA, lyB, lyC, Act.put, lyD, lyE, lyF]
  refine tkG (i := 13) (v := ?_) rfl (by kernel_rfl) (Or.inl ⟨by kernel_rfl, ?_⟩) (by assumption) ?_
  rotate_left 1
  · (intro w hSw; (try dsimp only at hSw); go_simp; try with_reducible rfl)
  try simp only [lyA, lyB, lyC, Act.put, lyD, lyE, lyF]
  refine tkG (i := 14) (v := ?_) rfl (by kernel_rfl) (Or.inl ⟨by kernel_rfl, ?_⟩) (by assumption) ?_
  rotate_left 1
  · (intro w hSw; (try dsimp only at hSw); go_simp; try with_reducible rfl)
  try simp only [lyA, lyB, lyC, Act.put, lyD, lyE, lyF]
  rw [← HU.out]
  clear k0 k1 k2 j0 j1 j2
  refine wpAnyG_one (i := 9) (by kernel_rfl) rfl (fun K hK => ?_)
  go_simp
  (refine (natMul_any _ _ m1 m2 u (HL1.out.below HBU.out) (HL2.out.below HBU.out) M1.out M2.out (by omega) (by omega)).mono ?_; rintro e wb ⟨vb, rfl, hvb, hbb⟩; have HVB := Lib.hid hvb; have HBB := Lib.hid (HBU.out.trans (hbb.mono HBU.out.size)); obtain ⟨B', d', hvbe, _⟩ := hvb; subst hvbe; clear hbb; obtain ⟨k0, k1, k2, _⟩ := cells3 ((HBB.out.block _ (by have := HZ.out; omega)).trans HG1.out); obtain ⟨j0, j1, j2, _⟩ := cells3 ((HBB.out.block _ (by have := HZ.out; omega)).trans HG2.out); obtain ⟨r0, r1, r2, f0, f1, f2⟩ := cells3 ((HBB.out.block _ (by have := HZ.out; omega)).trans HG3.out))
  try go_wp2_with fail
  refine (fun hHeld => hK.out _ _ (.inl hHeld) (fun _ => ?_)) ?_
  rotate_left 1
  · first | exact True.intro | ((try dsimp only); go_keep)
  clear hK K
  try simp only [lyA, lyB, lyC, Act.put, lyD, lyE, lyF]
  (try rw [ew])
  refine wpAnyG_one (i := 15) (by kernel_rfl) rfl (fun K hK => ?_)
  go_simp
  refine (fun hHeld => hK.out _ _ (.inl hHeld) (fun _ => ?_)) ?_
  rotate_left 1
  · first | exact True.intro | ((try dsimp only); go_keep)
  clear hK K
  try simp only [lyA, lyB, lyC, Act.put, lyD, lyE, lyF]
  refine wpAnyG_one (i := 16) (by kernel_rfl) rfl (fun K hK => ?_)
  go_simp
  refine hK.out _ _ ?_ (fun hHeld => ?_)
  · exact .inr (by kernel_rfl)
  clear hK K
  try simp only [lyA, lyB, lyC, Act.put, lyD, lyE, lyF]
  refine wpAnyG_done (by kernel_rfl) ?_ _
  (try simp only [hnb1, hnb2, hnb3])
  obtain ⟨w6, hw6⟩ : ∃ w6, w6 = ((wb.setCell ⟨w.heap.size + 1 + 1, 0, none⟩ (.bool nb)).setCell ⟨w.heap.size + 1 + 1, 1, none⟩ (.slice B' (lim (ln m1 * ln m2)).length d')).setCell ⟨w.heap.size + 1 + 1, 2, none⟩ (.int .i64 (x1 + x2)) := ⟨_, rfl⟩
  obtain ⟨hD6, hB6, q0, q1, q2⟩ := num_out (d := ⟨nb, lim (ln m1 * ln m2), x1 + x2⟩) ((HBB.out.block _ (by have := HZ.out; omega)).trans HG3.out) ⟨⟨B', _, d', rfl, HVB.out⟩, lim_lds _⟩ w6 hw6
  (try simp only at q0 q1 q2)
  have hb6 := HB0.out.trans ((HBB.out.mono HB0.out.size).trans (hB6 w.heap.size (by omega)))
  go_wp2_with fail
  (try simp only [hnb1, hnb2, hnb3])
  rw [← hw6]
  (try simp only [Exit.inBlock, Exit.then])
  refine bodyPost_ret (v := .agg #[.bool nb, .slice B' (lim (ln m1 * ln m2)).length d', .int .i64 (x1 + x2)]) (by simp [results, Tryz.results89, go_sem, q0, q1, q2]; done) rfl ?_
  exact ⟨_, rfl, hD6, hb6⟩

/-- what Float tells of a float -/
structure NF (u : Nat) (d : DV) : Prop where
  neg : d.neg = decide (9223372036854775808 ≤ u)
  len : d.mag.length ≤ 1
  lo : -1074 ≤ d.exp
  hi : d.exp ≤ 1100
  val : Vr (u % 9223372036854775808) = ln d.mag * 2 ^ (d.exp + 1074).toNat
theorem lim_one {f : Nat} (h : f < 18446744073709551616) : (lim f).length ≤ 1 := lim_len_le (by have e : W64 ^ 1 = 18446744073709551616 := rfl; omega)
set_option maxRecDepth 100000 in
set_option maxHeartbeats 4000000 in
theorem float00_any (u : Nat) (w : World) (hu : u < 18446744073709551616) (hf : u % 9223372036854775808 < 9218868437227405312) :
    Calls Tryz.prog 104 #[.float .f64 u] w fun e w' => ∃ v d, e = .returned v ∧ NF u d ∧ NA w' v d ∧ Below w.heap.size w w' := by
  obtain ⟨g, hg⟩ : ∃ g, g = u % 9223372036854775808 := ⟨_, rfl⟩
  obtain ⟨s, hs⟩ : ∃ s, s = decide (9223372036854775808 ≤ u) := ⟨_, rfl⟩
  have hgE : g / 4503599627370496 = expo u := by unfold expo; omega
  have hgF : u % 4503599627370496 = g % 4503599627370496 := by omega
  have hE := shr52_any hu
  have e1 : ((u : Int) / 9223372036854775808 == 1) = s := by
    rw [hs]
    by_cases h : 9223372036854775808 ≤ u
    · rw [decide_eq_true h, show (u : Int) / 9223372036854775808 = 1 by omega]; rfl
    · rw [decide_eq_false h, show (u : Int) / 9223372036854775808 = 0 by omega]; rfl
  have e2 : (u : Int) % 4503599627370496 = ((g % 4503599627370496 : Nat) : Int) := by omega
  obtain ⟨F, hF⟩ : ∃ F, F = g % 4503599627370496 := ⟨_, rfl⟩
  have hFl : F < 4503599627370496 := by omega
  rw [← hF] at e2
  obtain ⟨E, hEE⟩ : ∃ E, E = expo u := ⟨_, rfl⟩
  rw [← hEE] at hE hgE
  have hEl : E < 2047 := by omega
  obtain ⟨w0, hw0⟩ : ∃ w0, w0 = w.alloc (.cells #[.bool false, .slice none 0 0, .int .i64 0] 100) := ⟨_, rfl⟩
  have g1 : w0.heap[w.heap.size]? = some (.cells #[.bool false, .slice none 0 0, .int .i64 0] 100 (0, 0)) := by rw [hw0]; exact blk_new ..
  have hb0 : Below w.heap.size w w0 := by rw [hw0]; exact below1 ..
  have z0 : w0.heap.size = w.heap.size + 1 := by rw [hw0]; simp
  have hbits := fun w : World => True
  have HB0 := Lib.hid hb0
  have HW := Lib.hid hw0
  have HG := Lib.hid g1
  have HZ := Lib.hid z0
  have HS := Lib.hid hs
  by_cases h0 : E = 0
  · have hval : Vr (u % 9223372036854775808) = F * 2 ^ ((-1074 : Int) + 1074).toNat := by rw [← hg, hF]; exact split_sub (by omega)
    have HV := Lib.hid hval
    subst h0
    clear hval hw0 hb0 g1 z0 hs hg hF hgE hgF hEE hf hbits
    go_enter Tryz.func104, Tryz.ntmps104
    go_upto_region 4 with fail
    rw [← HW.out]
    go_wp2_with fail
    refine (natOf_any F w0 (by omega)).mono ?_
    rintro e wb ⟨vb, rfl, hvb, hbb⟩
    have HVB := Lib.hid hvb
    have HBB := Lib.hid (HB0.out.trans (hbb.mono HB0.out.size))
    have HGB := Lib.hid ((hbb.block _ (by have := HZ.out; omega)).trans HG.out)
    obtain ⟨B', d', hvbe, _⟩ := hvb
    subst hvbe
    clear hbb
    obtain ⟨r0, r1, r2, f0, f1, f2⟩ := cells3 HGB.out
    go_wp2_with fail
    obtain ⟨w6, hw6⟩ : ∃ w6, w6 = ((wb.setCell ⟨w.heap.size, 0, none⟩ (.bool s)).setCell ⟨w.heap.size, 1, none⟩ (.slice B' (lim F).length d')).setCell ⟨w.heap.size, 2, none⟩ (.int .i64 (-1074)) := ⟨_, rfl⟩
    obtain ⟨hD6, hB6, q0, q1, q2⟩ := num_out (d := ⟨s, lim F, -1074⟩) HGB.out ⟨⟨B', _, d', rfl, HVB.out⟩, lim_lds _⟩ w6 hw6
    (try simp only at q0 q1 q2)
    have hb6 := HBB.out.trans (hB6 w.heap.size (by omega))
    rw [← hw6]
    (try simp only [Exit.inBlock, Exit.then])
    refine bodyPost_ret (v := .agg #[.bool s, .slice B' (lim F).length d', .int .i64 (-1074)]) (by simp [results, Tryz.results104, go_sem, q0, q1, q2]; done) rfl ?_
    exact ⟨_, ⟨s, lim F, -1074⟩, rfl, ⟨HS.out, lim_one (by omega), by simp, by simp, by rw [ln_dig]; exact HV.out⟩, hD6, hb6⟩
  · have hval : Vr (u % 9223372036854775808) = (F + 4503599627370496) * 2 ^ (((E : Int) - 1075) + 1074).toNat := by rw [← hg, hF]; exact split_nor hgE.symm (by omega)
    have HV := Lib.hid hval
    have h00 : ((E : Int) == 0) = false := by simp; omega
    have e3 : IntKind.u64.wrap ((F : Int) + 4503599627370496) = ((F + 4503599627370496 : Nat) : Int) := by rw [IntKind.wrap_u64]; omega
    obtain ⟨M, hM⟩ : ∃ M, M = F + 4503599627370496 := ⟨_, rfl⟩
    rw [← hM] at e3 HV
    have e4 : (F : Int) + 4503599627370496 = (M : Int) := by omega
    have hMl : M < 9007199254740992 := by omega
    clear hval hw0 hb0 g1 z0 hs hg hF hgE hgF hEE hf hbits hM
    go_enter Tryz.func104, Tryz.ntmps104
    go_upto_region 5 with fail
    rw [← HW.out]
    go_wp2_with fail
    refine (natOf_any M w0 (by omega)).mono ?_
    rintro e wb ⟨vb, rfl, hvb, hbb⟩
    have HVB := Lib.hid hvb
    have HBB := Lib.hid (HB0.out.trans (hbb.mono HB0.out.size))
    have HGB := Lib.hid ((hbb.block _ (by have := HZ.out; omega)).trans HG.out)
    obtain ⟨B', d', hvbe, _⟩ := hvb
    subst hvbe
    clear hbb
    obtain ⟨r0, r1, r2, f0, f1, f2⟩ := cells3 HGB.out
    go_wp2_with fail
    obtain ⟨w6, hw6⟩ : ∃ w6, w6 = ((wb.setCell ⟨w.heap.size, 0, none⟩ (.bool s)).setCell ⟨w.heap.size, 1, none⟩ (.slice B' (lim M).length d')).setCell ⟨w.heap.size, 2, none⟩ (.int .i64 ((E : Int) - 1075)) := ⟨_, rfl⟩
    obtain ⟨hD6, hB6, q0, q1, q2⟩ := num_out (d := ⟨s, lim M, (E : Int) - 1075⟩) HGB.out ⟨⟨B', _, d', rfl, HVB.out⟩, lim_lds _⟩ w6 hw6
    (try simp only at q0 q1 q2)
    have hb6 := HBB.out.trans (hB6 w.heap.size (by omega))
    rw [← hw6]
    (try simp only [Exit.inBlock, Exit.then])
    refine bodyPost_ret (v := .agg #[.bool s, .slice B' (lim M).length d', .int .i64 ((E : Int) - 1075)]) (by simp [results, Tryz.results104, go_sem, q0, q1, q2]; done) rfl ?_
    exact ⟨_, ⟨s, lim M, (E : Int) - 1075⟩, rfl, ⟨HS.out, lim_one (by omega), by simp only; omega, by simp only; omega, by rw [ln_dig]; exact HV.out⟩, hD6, hb6⟩

end Go.Proofs.YtkfhbnfoiicioaaGreatDoor

/- girderref00: Plus of numbers of unlike signs: the walk -/
namespace Go.Proofs.YtkfhbnfoiicioaaGreatDoor
open Ieee Go.RowKit Go.Sort

/-- the sum of two numbers of unlike signs, not 0, the first one's power not above -/
def plD (d1 d2 : DV) : DV := if ln d2.mag * 2 ^ (d2.exp - d1.exp).toNat ≤ ln d1.mag then ⟨d1.neg, lim (ln d1.mag - ln d2.mag * 2 ^ (d2.exp - d1.exp).toNat), d1.exp⟩ else ⟨d2.neg, lim (ln d2.mag * 2 ^ (d2.exp - d1.exp).toNat - ln d1.mag), d1.exp⟩

set_option maxRecDepth 100000 in
set_option maxHeartbeats 8000000 in
theorem plusN_core (v1 v2 : Value) (d1 d2 : DV) (w : World) (h1 : NA w v1 d1) (h2 : NA w v2 d2) (l1 : d1.mag.length ≤ 1000000) (l2 : d2.mag.length ≤ 1000000) (e1 : -1000000 ≤ d1.exp ∧ d1.exp ≤ 1000000) (e2 : -1000000 ≤ d2.exp ∧ d2.exp ≤ 1000000)
    (n1 : ln d1.mag ≠ 0) (n2 : ln d2.mag ≠ 0) (hs : d2.neg = !d1.neg) (hx : d1.exp ≤ d2.exp) :
    Calls Tryz.prog 129 #[v1, v2] w fun e w' => ∃ v', e = .returned v' ∧ NA w' v' (plD d1 d2) ∧ Below w.heap.size w w' := by
  have H1 := Lib.hid h1
  have H2 := Lib.hid h2
  obtain ⟨A1, k1, c1, rfl, hl1⟩ := h1.agg
  obtain ⟨A2, k2, c2, rfl, hl2⟩ := h2.agg
  obtain ⟨s1, m1, x1⟩ := d1
  obtain ⟨s2, m2, x2⟩ := d2
  simp only at *
  obtain ⟨N, hN⟩ : ∃ N : Nat, N = (x2 - x1).toNat := ⟨_, rfl⟩
  have hN2 : x2 - x1 = (N : Int) := by omega
  have hNl : N ≤ 2000000 := by omega
  obtain ⟨B, hB⟩ : ∃ B, B = lim (ln m2 * 2 ^ N) := ⟨_, rfl⟩
  have hBv : ln B = ln m2 * 2 ^ N := by rw [hB]; exact ln_dig _
  have hBl : B.length ≤ 3000000 := by
    rw [hB]
    refine Nat.le_trans (lim_len_le (k := m2.length + N) ?_) (by omega)
    rw [W64_pow]
    have a1 := ln_lt H2.out.2
    rw [W64_pow] at a1
    calc ln m2 * 2 ^ N < 2 ^ (64 * m2.length) * 2 ^ N := Nat.mul_lt_mul_of_pos_right a1 (Nat.two_pow_pos _)
      _ = 2 ^ (64 * m2.length + N) := by rw [Nat.pow_add]
      _ ≤ 2 ^ (64 * (m2.length + N)) := Nat.pow_le_pow_right (by decide) (by omega)
  have hBd : Lds B := by rw [hB]; exact lim_lds _
  obtain ⟨D, hD⟩ : ∃ D, D = plD ⟨s1, m1, x1⟩ ⟨s2, m2, x2⟩ := ⟨_, rfl⟩
  rw [← hD]
  have hD1 : ln B ≤ ln m1 → D = ⟨s1, lim (ln m1 - ln B), x1⟩ := fun h => by rw [hD]; unfold plD; simp only; rw [← hN, ← hBv, if_pos h]
  have hD2 : ¬ ln B ≤ ln m1 → D = ⟨s2, lim (ln B - ln m1), x1⟩ := fun h => by rw [hD]; unfold plD; simp only; rw [← hN, ← hBv, if_neg h]
  have hsb : (s1 == s2) = false := by rw [hs]; cases s1 <;> rfl
  have hz1 : decide (ln m1 = 0) = false := decide_eq_false n1
  have hz2 : decide (ln m2 = 0) = false := decide_eq_false n2
  have Z1 := Lib.hid (fun w (h : NA w (.agg #[.bool s1, .slice A1 k1 c1, .int .i64 x1]) ⟨s1, m1, x1⟩) => zeroN_any _ s1 m1 x1 w h.1 h.2 (by omega))
  have Z2 := Lib.hid (fun w (h : NA w (.agg #[.bool s2, .slice A2 k2 c2, .int .i64 x2]) ⟨s2, m2, x2⟩) => zeroN_any _ s2 m2 x2 w h.1 h.2 (by omega))
  rw [hz1] at Z1
  rw [hz2] at Z2
  have HD := Lib.hid (And.intro hD1 hD2)
  have HBB := Lib.hid hB
  have HBd := Lib.hid hBd
  have hgt : decide (x2 < x1) = false := decide_eq_false (by omega)
  have ew : IntKind.i64.wrap (x2 - x1) = (N : Int) := by rw [hN2]; exact IntWalk.i64_in _ (by omega)
  have M1 := Lib.hid H1.out.2
  have M2 := Lib.hid H2.out.2
  obtain ⟨w0, hw0⟩ : ∃ w0, w0 = ((w.alloc (.cells #[.bool s1, .slice A1 k1 c1, .int .i64 x1] 100)).alloc (.cells #[.bool s2, .slice A2 k2 c2, .int .i64 x2] 100)).alloc (.cells #[.bool false, .slice none 0 0, .int .i64 0] 100) := ⟨_, rfl⟩
  have g1 : w0.heap[w.heap.size]? = some (.cells #[.bool s1, .slice A1 k1 c1, .int .i64 x1] 100 (0, 0)) := by rw [hw0]; exact blk_old (blk_old (blk_new ..) _) _
  have g2 : w0.heap[w.heap.size + 1]? = some (.cells #[.bool s2, .slice A2 k2 c2, .int .i64 x2] 100 (0, 0)) := by rw [hw0]; have h := blk_new (w.alloc (.cells #[.bool s1, .slice A1 k1 c1, .int .i64 x1] 100)) #[.bool s2, .slice A2 k2 c2, .int .i64 x2] 100; rw [World.size_alloc] at h; exact blk_old h _
  have g3 : w0.heap[w.heap.size + 1 + 1]? = some (.cells #[.bool false, .slice none 0 0, .int .i64 0] 100 (0, 0)) := by rw [hw0]; have h := blk_new ((w.alloc (.cells #[.bool s1, .slice A1 k1 c1, .int .i64 x1] 100)).alloc (.cells #[.bool s2, .slice A2 k2 c2, .int .i64 x2] 100)) #[.bool false, .slice none 0 0, .int .i64 0] 100; rwa [World.size_alloc, World.size_alloc] at h
  have z0 : w0.heap.size = w.heap.size + 1 + 1 + 1 := by rw [hw0]; simp
  have hb0 : Below w.heap.size w w0 := by rw [hw0]; exact (below2 ..).trans ((below1 ..).mono (by simp; omega))
  have HL1 := Lib.hid (hl1.below hb0)
  have HL2 := Lib.hid (hl2.below hb0)
  have HB0 := Lib.hid hb0
  have HG1 := Lib.hid g1
  have HG2 := Lib.hid g2
  have HG3 := Lib.hid g3
  have HZ := Lib.hid z0
  have HW0 := Lib.hid hw0
  obtain ⟨y0, y1, y2, _⟩ := cells3 g1
  obtain ⟨j0, j1, j2, _⟩ := cells3 g2
  have N1 := Lib.hid (h1.below hb0)
  have N2 := Lib.hid (h2.below hb0)
  clear hw0 hb0 g1 g2 g3 z0 h1 h2 hl1 hl2 H1 H2 hN hN2 hB hBv hBd hD hD1 hD2 hz1 hz2 n1 n2 hs hx
  go_enter Tryz.func129, Tryz.ntmps129
  go_upto_region 1 with fail
  rw [← HW0.out]
  go_wp2_with fail
  refine (Z1.out w0 N1.out).mono ?_
  rintro e wa ⟨rfl, hba⟩
  have HBA := Lib.hid hba
  have HA1 := Lib.hid ((hba.block _ (by have := HZ.out; omega)).trans HG1.out)
  have HA2 := Lib.hid ((hba.block _ (by have := HZ.out; omega)).trans HG2.out)
  clear hba y0 y1 y2 j0 j1 j2
  obtain ⟨y0, y1, y2, _⟩ := cells3 HA1.out
  obtain ⟨j0, j1, j2, _⟩ := cells3 HA2.out
  go_wp2_with fail
  refine (Z2.out wa (N2.out.below HBA.out)).mono ?_
  rintro e wb ⟨rfl, hbb⟩
  have HBb := Lib.hid (HBA.out.trans (hbb.mono HBA.out.size))
  clear hbb y0 y1 y2 j0 j1 j2 HA1 HA2
  have HB1 := Lib.hid ((HBb.out.block _ (by have := HZ.out; omega)).trans HG1.out)
  have HB2 := Lib.hid ((HBb.out.block _ (by have := HZ.out; omega)).trans HG2.out)
  obtain ⟨y0, y1, y2, _⟩ := cells3 HB1.out
  obtain ⟨j0, j1, j2, _⟩ := cells3 HB2.out
  go_upto_region 7 with fail
  obtain ⟨u, hu⟩ : ∃ u, u = wb.drew := ⟨_, rfl⟩
  have HU := Lib.hid hu
  have HBU := Lib.hid (show Below w0.heap.size w0 u by rw [hu]; exact HBb.out.drew)
  clear hu
  refine wp_region_held_drew (S := (fun w' => w'.cell? ⟨w.heap.size, 0, none⟩ = some (.bool s1) ∧ w'.cell? ⟨w.heap.size, 1, none⟩ = some (.slice A1 k1 c1) ∧ w'.cell? ⟨w.heap.size, 2, none⟩ = some (.int .i64 x1) ∧ w'.cell? ⟨w.heap.size + 1, 0, none⟩ = some (.bool s2) ∧ w'.cell? ⟨w.heap.size + 1, 1, none⟩ = some (.slice A2 k2 c2) ∧ w'.cell? ⟨w.heap.size + 1, 2, none⟩ = some (.int .i64 x2))) (by kernel_rfl) ?_ (fun hHeld => ?_)
  · first | exact True.intro | ((try dsimp only); go_keep)
  refine tkH (i := 0) (v := ?_) rfl (by kernel_rfl) (Or.inl ⟨by kernel_rfl, ?_⟩) (by assumption) ?_
  rotate_left 1
  · (intro w hSw; (try dsimp only at hSw); go_simp; try with_reducible rfl)
  try simp only [lyA, lyB, lyC, Act.put, lyD, lyE, lyF]
  refine tkH (i := 1) (v := ?_) rfl (by kernel_rfl) (Or.inl ⟨by kernel_rfl, ?_⟩) (by assumption) ?_
  rotate_left 1
  · (intro w hSw; (try dsimp only at hSw); go_simp; try with_reducible rfl)
  try simp only [lyA, lyB, lyC, Act.put, lyD, lyE, lyF]
  refine tkH (i := 2) (v := ?_) rfl (by kernel_rfl) (Or.inl ⟨by kernel_rfl, ?_⟩) (by assumption) ?_
  rotate_left 1
  · (intro w hSw; (try dsimp only at hSw); go_simp; try with_reducible rfl)
  try simp only [lyA, lyB, lyC, Act.put, lyD, lyE, lyF]
  refine tkH (i := 3) (v := ?_) rfl (by kernel_rfl) (Or.inl ⟨by kernel_rfl, ?_⟩) (by assumption) ?_
  rotate_left 1
  · (intro w hSw; (try dsimp only at hSw); go_simp; try with_reducible rfl)
  try simp only [lyA, lyB, lyC, Act.put, lyD, lyE, lyF]
  refine tkH (i := 4) (v := ?_) rfl (by kernel_rfl) (Or.inl ⟨by kernel_rfl, ?_⟩) (by assumption) ?_
  rotate_left 1
  · (intro w hSw; (try dsimp only at hSw); go_simp; try with_reducible rfl)
  try simp only [lyA, lyB, lyC, Act.put, lyD, lyE, lyF]
  refine tkH (i := 5) (v := ?_) rfl (by kernel_rfl) (Or.inl ⟨by kernel_rfl, ?_⟩) (by assumption) ?_
  rotate_left 1
  · (intro w hSw; (try dsimp only at hSw); go_simp; try with_reducible rfl)
  try simp only [lyA, lyB, lyC, Act.put, lyD, lyE, lyF]
  refine tkH (i := 6) (v := ?_) rfl (by kernel_rfl) (Or.inl ⟨by kernel_rfl, ?_⟩) (by assumption) ?_
  rotate_left 1
  · (intro w hSw; (try dsimp only at hSw); go_simp; try with_reducible rfl)
  try simp only [lyA, lyB, lyC, Act.put, lyD, lyE, lyF]
  refine tkH (i := 7) (v := ?_) rfl (by kernel_rfl) (Or.inl ⟨by kernel_rfl, ?_⟩) (by assumption) ?_
  rotate_left 1
  · (intro w hSw; (try dsimp only at hSw); go_simp; try with_reducible rfl)
  try simp only [lyA, lyB, lyC, Act.put, lyD, lyE, lyF]
  refine tkH (i := 8) (v := ?_) rfl (by kernel_rfl) (Or.inl ⟨by kernel_rfl, ?_⟩) (by assumption) ?_
  rotate_left 1
  · (intro w hSw; (try dsimp only at hSw); go_simp; try with_reducible rfl)
  try simp only [lyA, lyB, lyC, Act.put, lyD, lyE, lyF]
  rw [← HU.out]
  clear y0 y1 y2 j0 j1 j2
  refine wpAnyH_ready (rs := [9]) (by kernel_rfl) (by simp) ?_
  refine AllReadyH.cons rfl (fun K hK => ?_) AllReadyH.nil
  go_simp
  ((try rw [ew]); refine (natUp_any _ m2 N u (HL2.out.below HBU.out) M2.out (by omega) (by omega)).mono ?_; rintro e wc ⟨vb, rfl, hvb, hbc⟩; rw [← HBB.out] at hvb; have HVB := Lib.hid hvb; have HBC := Lib.hid (HBU.out.trans (hbc.mono HBU.out.size)); obtain ⟨B', d', hvbe, _⟩ := hvb; subst hvbe; clear hbc; obtain ⟨y0, y1, y2, _⟩ := cells3 ((HBC.out.block _ (by have := HZ.out; omega)).trans HG1.out); obtain ⟨j0, j1, j2, _⟩ := cells3 ((HBC.out.block _ (by have := HZ.out; omega)).trans HG2.out))
  try go_wp2_with fail
  refine hK.out _ _ ?_ (fun hHeld => ?_)
  · first | exact True.intro | ((try dsimp only); go_keep)
  clear hK K
  try simp only [lyA, lyB, lyC, Act.put, lyD, lyE, lyF]
  refine tkH (i := 10) (v := ?_) rfl (by kernel_rfl) (Or.inl ⟨by kernel_rfl, ?_⟩) (by assumption) ?_
  rotate_left 1
  · (intro w hSw; (try dsimp only at hSw); go_simp; try with_reducible rfl)
  try simp only [lyA, lyB, lyC, Act.put, lyD, lyE, lyF]
  refine wpAnyH_ready (rs := [11]) (by kernel_rfl) (by simp) ?_
  refine AllReadyH.cons rfl (fun K hK => ?_) AllReadyH.nil
  go_simp
  refine hK.out _ _ ?_ (fun hHeld => ?_)
  · first | exact True.intro | ((try dsimp only); go_keep)
  clear hK K
  try simp only [lyA, lyB, lyC, Act.put, lyD, lyE, lyF]
  refine wpAnyH_done (by kernel_rfl) ?_ _
  go_upto_region 10 with fail
  go_wp2_with fail
  refine (natCmp_any _ _ m1 B wc (HL1.out.below HBC.out) HVB.out M1.out HBd.out (by omega) (by omega)).mono ?_
  rintro e wd ⟨rfl, hbd⟩
  have HBD := Lib.hid (HBC.out.trans (hbd.mono HBC.out.size))
  have HVD := Lib.hid (HVB.out.below hbd)
  clear hbd y0 y1 y2 j0 j1 j2
  have HD1 := Lib.hid ((HBD.out.block _ (by have := HZ.out; omega)).trans HG1.out)
  have HD2 := Lib.hid ((HBD.out.block _ (by have := HZ.out; omega)).trans HG2.out)
  obtain ⟨y0, y1, y2, _⟩ := cells3 HD1.out
  obtain ⟨j0, j1, j2, _⟩ := cells3 HD2.out
  obtain ⟨u2, hu2⟩ : ∃ u, u = wd.drew := ⟨_, rfl⟩
  have HU2 := Lib.hid hu2
  have HBU2 := Lib.hid (show Below w0.heap.size w0 u2 by rw [hu2]; exact HBD.out.drew)
  have HVU := Lib.hid (show LAt u2 (.slice B' B.length d') B from HVD.out.below (by rw [hu2]; exact (Below.refl _ _).drew))
  clear hu2
  by_cases hle : ln B ≤ ln m1
  · have hge : decide ((0 : Int) ≤ cmpN (ln m1) (ln B)) = true := by unfold cmpN; simp only [decide_eq_true_eq]; split <;> (try split) <;> omega
    have HE := Lib.hid (HD.out.1 hle)
    have HLE := Lib.hid hle
    generalize cmpN (ln m1) (ln B) = cc at hge ⊢
    clear hle
    go_upto_region 11 with fail
    refine wp_region_G (S := (fun w' => w'.cell? ⟨w.heap.size, 0, none⟩ = some (.bool s1) ∧ w'.cell? ⟨w.heap.size, 1, none⟩ = some (.slice A1 k1 c1) ∧ w'.cell? ⟨w.heap.size, 2, none⟩ = some (.int .i64 x1) ∧ w'.cell? ⟨w.heap.size + 1, 0, none⟩ = some (.bool s2) ∧ w'.cell? ⟨w.heap.size + 1, 1, none⟩ = some (.slice A2 k2 c2) ∧ w'.cell? ⟨w.heap.size + 1, 2, none⟩ = some (.int .i64 x2))) 8 (by kernel_rfl) ?_ (fun hHeld => ?_)
    · first | exact True.intro | ((try dsimp only); go_keep)
    refine tkG (i := 0) (v := ?_) rfl (by kernel_rfl) (Or.inl ⟨by kernel_rfl, ?_⟩) (by assumption) ?_
    rotate_left 1
    · (intro w hSw; (try dsimp only at hSw); go_simp; try with_reducible rfl)
    try simp only [lyA, lyB, lyC, Act.put, lyD, lyE, lyF]
    refine tkG (i := 1) (v := ?_) rfl (by kernel_rfl) (Or.inl ⟨by kernel_rfl, ?_⟩) (by assumption) ?_
    rotate_left 1
    · (intro w hSw; (try dsimp only at hSw); go_simp; try with_reducible rfl)
    try simp only [lyA, lyB, lyC, Act.put, lyD, lyE, lyF]
    refine tkG (i := 2) (v := ?_) rfl (by kernel_rfl) (Or.inl ⟨by kernel_rfl, ?_⟩) (by assumption) ?_
    rotate_left 1
    · (intro w hSw; (try dsimp only at hSw); go_simp; try with_reducible rfl)
    try simp only [lyA, lyB, lyC, Act.put, lyD, lyE, lyF]
    refine tkG (i := 3) (v := ?_) rfl (by kernel_rfl) (Or.inl ⟨by kernel_rfl, ?_⟩) (by assumption) ?_
    rotate_left 1
    · (intro w hSw; (try dsimp only at hSw); go_simp; try with_reducible rfl)
    try simp only [lyA, lyB, lyC, Act.put, lyD, lyE, lyF]
    refine tkG (i := 5) (v := ?_) rfl (by kernel_rfl) (Or.inl ⟨by kernel_rfl, ?_⟩) (by assumption) ?_
    rotate_left 1
    · (intro w hSw; (try dsimp only at hSw); go_simp; try with_reducible rfl)
    try simp only [lyA, lyB, lyC, Act.put, lyD, lyE, lyF]
    refine tkG (i := 6) (v := ?_) rfl (by kernel_rfl) (Or.inl ⟨by kernel_rfl, ?_⟩) (by assumption) ?_
    rotate_left 1
    · (intro w hSw; (try dsimp only at hSw); go_simp; try with_reducible rfl)
    try simp only [lyA, lyB, lyC, Act.put, lyD, lyE, lyF]
    rw [← HU2.out]
    clear y0 y1 y2 j0 j1 j2
    refine wpAnyG_one (i := 4) (by kernel_rfl) rfl (fun K hK => ?_)
    go_simp
    (refine (natSub_any _ _ m1 B u2 (HL1.out.below HBU2.out) HVU.out M1.out HBd.out (by omega) (by omega) HLE.out).mono ?_; rintro e we ⟨vc, rfl, hvc, hbe⟩; have HVC := Lib.hid hvc; have HBE := Lib.hid (HBU2.out.trans (hbe.mono HBU2.out.size)); obtain ⟨C', dc, hvce, _⟩ := hvc; subst hvce; clear hbe; obtain ⟨y0, y1, y2, _⟩ := cells3 ((HBE.out.block _ (by have := HZ.out; omega)).trans HG1.out); obtain ⟨j0, j1, j2, _⟩ := cells3 ((HBE.out.block _ (by have := HZ.out; omega)).trans HG2.out); obtain ⟨r0, r1, r2, f0, f1, f2⟩ := cells3 ((HBE.out.block _ (by have := HZ.out; omega)).trans HG3.out))
    try go_wp2_with fail
    refine (fun hHeld => hK.out _ _ (.inl hHeld) (fun _ => ?_)) ?_
    rotate_left 1
    · first | exact True.intro | ((try dsimp only); go_keep)
    clear hK K
    try simp only [lyA, lyB, lyC, Act.put, lyD, lyE, lyF]
    refine wpAnyG_one (i := 7) (by kernel_rfl) rfl (fun K hK => ?_)
    go_simp
    refine (fun hHeld => hK.out _ _ (.inl hHeld) (fun _ => ?_)) ?_
    rotate_left 1
    · first | exact True.intro | ((try dsimp only); go_keep)
    clear hK K
    try simp only [lyA, lyB, lyC, Act.put, lyD, lyE, lyF]
    refine wpAnyG_one (i := 8) (by kernel_rfl) rfl (fun K hK => ?_)
    go_simp
    refine hK.out _ _ ?_ (fun hHeld => ?_)
    · exact .inr (by kernel_rfl)
    clear hK K
    try simp only [lyA, lyB, lyC, Act.put, lyD, lyE, lyF]
    refine wpAnyG_done (by kernel_rfl) ?_ _
    obtain ⟨w6, hw6⟩ : ∃ w6, w6 = ((we.setCell ⟨w.heap.size + 1 + 1, 0, none⟩ (.bool s1)).setCell ⟨w.heap.size + 1 + 1, 1, none⟩ (.slice C' (lim (ln m1 - ln B)).length dc)).setCell ⟨w.heap.size + 1 + 1, 2, none⟩ (.int .i64 x1) := ⟨_, rfl⟩
    obtain ⟨hD6, hB6, q0, q1, q2⟩ := num_out (d := ⟨s1, lim (ln m1 - ln B), x1⟩) ((HBE.out.block _ (by have := HZ.out; omega)).trans HG3.out) ⟨⟨C', _, dc, rfl, HVC.out⟩, lim_lds _⟩ w6 hw6
    (try simp only at q0 q1 q2)
    have hb6 := HB0.out.trans ((HBE.out.mono HB0.out.size).trans (hB6 w.heap.size (by omega)))
    go_wp2_with fail
    rw [← hw6]
    (try simp only [Exit.inBlock, Exit.then])
    refine bodyPost_ret (v := .agg #[.bool s1, .slice C' (lim (ln m1 - ln B)).length dc, .int .i64 x1]) (by simp [results, Tryz.results129, go_sem, q0, q1, q2]; done) rfl ?_
    exact ⟨_, rfl, by rw [HE.out]; exact hD6, hb6⟩
  · have hge : decide ((0 : Int) ≤ cmpN (ln m1) (ln B)) = false := by unfold cmpN; simp only [decide_eq_false_iff_not]; split <;> (try split) <;> omega
    have HE := Lib.hid (HD.out.2 hle)
    have HLE := Lib.hid (show ln m1 ≤ ln B by omega)
    generalize cmpN (ln m1) (ln B) = cc at hge ⊢
    clear hle
    go_upto_region 12 with fail
    refine wp_region_G (S := (fun w' => w'.cell? ⟨w.heap.size, 0, none⟩ = some (.bool s1) ∧ w'.cell? ⟨w.heap.size, 1, none⟩ = some (.slice A1 k1 c1) ∧ w'.cell? ⟨w.heap.size, 2, none⟩ = some (.int .i64 x1) ∧ w'.cell? ⟨w.heap.size + 1, 0, none⟩ = some (.bool s2) ∧ w'.cell? ⟨w.heap.size + 1, 1, none⟩ = some (.slice A2 k2 c2) ∧ w'.cell? ⟨w.heap.size + 1, 2, none⟩ = some (.int .i64 x2))) 8 (by kernel_rfl) ?_ (fun hHeld => ?_)
    · first | exact True.intro | ((try dsimp only); go_keep)
    refine tkG (i := 0) (v := ?_) rfl (by kernel_rfl) (Or.inl ⟨by kernel_rfl, ?_⟩) (by assumption) ?_
    rotate_left 1
    · (intro w hSw; (try dsimp only at hSw); go_simp; try with_reducible rfl)
    try simp only [lyA, lyB, lyC, Act.put, lyD, lyE, lyF]
    refine tkG (i := 1) (v := ?_) rfl (by kernel_rfl) (Or.inl ⟨by kernel_rfl, ?_⟩) (by assumption) ?_
    rotate_left 1
    · (intro w hSw; (try dsimp only at hSw); go_simp; try with_reducible rfl)
    try simp only [lyA, lyB, lyC, Act.put, lyD, lyE, lyF]
    refine tkG (i := 2) (v := ?_) rfl (by kernel_rfl) (Or.inl ⟨by kernel_rfl, ?_⟩) (by assumption) ?_
    rotate_left 1
    · (intro w hSw; (try dsimp only at hSw); go_simp; try with_reducible rfl)
    try simp only [lyA, lyB, lyC, Act.put, lyD, lyE, lyF]
    refine tkG (i := 3) (v := ?_) rfl (by kernel_rfl) (Or.inl ⟨by kernel_rfl, ?_⟩) (by assumption) ?_
    rotate_left 1
    · (intro w hSw; (try dsimp only at hSw); go_simp; try with_reducible rfl)
    try simp only [lyA, lyB, lyC, Act.put, lyD, lyE, lyF]
    refine tkG (i := 5) (v := ?_) rfl (by kernel_rfl) (Or.inl ⟨by kernel_rfl, ?_⟩) (by assumption) ?_
    rotate_left 1
    · (intro w hSw; (try dsimp only at hSw); go_simp; try with_reducible rfl)
    try simp only [lyA, lyB, lyC, Act.put, lyD, lyE, lyF]
    refine tkG (i := 6) (v := ?_) rfl (by kernel_rfl) (Or.inl ⟨by kernel_rfl, ?_⟩) (by assumption) ?_
    rotate_left 1
    · (intro w hSw; (try dsimp only at hSw); go_simp; try with_reducible rfl)
    try simp only [lyA, lyB, lyC, Act.put, lyD, lyE, lyF]
    rw [← HU2.out]
    clear y0 y1 y2 j0 j1 j2
    refine wpAnyG_one (i := 4) (by kernel_rfl) rfl (fun K hK => ?_)
    go_simp
    (refine (natSub_any _ _ B m1 u2 HVU.out (HL1.out.below HBU2.out) HBd.out M1.out (by omega) (by omega) HLE.out).mono ?_; rintro e we ⟨vc, rfl, hvc, hbe⟩; have HVC := Lib.hid hvc; have HBE := Lib.hid (HBU2.out.trans (hbe.mono HBU2.out.size)); obtain ⟨C', dc, hvce, _⟩ := hvc; subst hvce; clear hbe; obtain ⟨y0, y1, y2, _⟩ := cells3 ((HBE.out.block _ (by have := HZ.out; omega)).trans HG1.out); obtain ⟨j0, j1, j2, _⟩ := cells3 ((HBE.out.block _ (by have := HZ.out; omega)).trans HG2.out); obtain ⟨r0, r1, r2, f0, f1, f2⟩ := cells3 ((HBE.out.block _ (by have := HZ.out; omega)).trans HG3.out))
    try go_wp2_with fail
    refine (fun hHeld => hK.out _ _ (.inl hHeld) (fun _ => ?_)) ?_
    rotate_left 1
    · first | exact True.intro | ((try dsimp only); go_keep)
    clear hK K
    try simp only [lyA, lyB, lyC, Act.put, lyD, lyE, lyF]
    refine wpAnyG_one (i := 7) (by kernel_rfl) rfl (fun K hK => ?_)
    go_simp
    refine (fun hHeld => hK.out _ _ (.inl hHeld) (fun _ => ?_)) ?_
    rotate_left 1
    · first | exact True.intro | ((try dsimp only); go_keep)
    clear hK K
    try simp only [lyA, lyB, lyC, Act.put, lyD, lyE, lyF]
    refine wpAnyG_one (i := 8) (by kernel_rfl) rfl (fun K hK => ?_)
    go_simp
    refine hK.out _ _ ?_ (fun hHeld => ?_)
    · exact .inr (by kernel_rfl)
    clear hK K
    try simp only [lyA, lyB, lyC, Act.put, lyD, lyE, lyF]
    refine wpAnyG_done (by kernel_rfl) ?_ _
    obtain ⟨w6, hw6⟩ : ∃ w6, w6 = ((we.setCell ⟨w.heap.size + 1 + 1, 0, none⟩ (.bool s2)).setCell ⟨w.heap.size + 1 + 1, 1, none⟩ (.slice C' (lim (ln B - ln m1)).length dc)).setCell ⟨w.heap.size + 1 + 1, 2, none⟩ (.int .i64 x1) := ⟨_, rfl⟩
    obtain ⟨hD6, hB6, q0, q1, q2⟩ := num_out (d := ⟨s2, lim (ln B - ln m1), x1⟩) ((HBE.out.block _ (by have := HZ.out; omega)).trans HG3.out) ⟨⟨C', _, dc, rfl, HVC.out⟩, lim_lds _⟩ w6 hw6
    (try simp only at q0 q1 q2)
    have hb6 := HB0.out.trans ((HBE.out.mono HB0.out.size).trans (hB6 w.heap.size (by omega)))
    go_wp2_with fail
    rw [← hw6]
    (try simp only [Exit.inBlock, Exit.then])
    refine bodyPost_ret (v := .agg #[.bool s2, .slice C' (lim (ln B - ln m1)).length dc, .int .i64 x1]) (by simp [results, Tryz.results129, go_sem, q0, q1, q2]; done) rfl ?_
    exact ⟨_, rfl, by rw [HE.out]; exact hD6, hb6⟩

end Go.Proofs.YtkfhbnfoiicioaaGreatDoor

/- girderref00: Plus in either order, Less, Compare: the walks -/
namespace Go.Proofs.YtkfhbnfoiicioaaGreatDoor
open Ieee Go.RowKit Go.Sort

def plX (d1 d2 : DV) : DV := if d1.exp ≤ d2.exp then plD d1 d2 else plD d2 d1
/-- what a sum of unlike signs is: its sign -/
theorem numD_neg (s : Bool) (a : Nat) : numD (!s) a = -numD s a := by cases s <;> simp [numD]
theorem sgB_neg (s : Bool) : sgB (!s) = -sgB s := by cases s <;> rfl
theorem sgN_lim (s : Bool) (n : Nat) (e : Int) : sgN ⟨s, lim n, e⟩ = if n = 0 then 0 else sgB s := by unfold sgN; rw [ln_dig]
theorem cmpI_eq (s : Bool) (n : Nat) : cmpI (numD s n) (numD s n) = 0 := by unfold cmpI; rw [if_neg (by omega), if_neg (by omega)]
theorem plX_sgn {d1 d2 : DV} (hs : d2.neg = d1.neg) (n1 : ln d1.mag ≠ 0) (n2 : ln d2.mag ≠ 0) :
    sgN (plX d1 ⟨!d2.neg, d2.mag, d2.exp⟩) = cmpE d1.top d1.exp d2.top d2.exp := by
  obtain ⟨s, m1, x1⟩ := d1
  obtain ⟨s2, m2, x2⟩ := d2
  simp only at hs n1 n2
  subst hs
  rw [top_num, top_num]
  simp only
  unfold plX plD
  simp only
  by_cases hx : x1 ≤ x2
  · rw [if_pos hx, cmpE_down (by omega), numD_mul]
    generalize ln m2 * 2 ^ (x2 - x1).toNat = B
    generalize ln m1 = A
    by_cases h : B ≤ A
    · rw [if_pos h, sgN_lim]
      by_cases h2 : A - B = 0
      · obtain rfl : A = B := by omega
        rw [if_pos h2, cmpI_eq]
      · rw [if_neg h2, (cmpI_num s2 B A (by omega)).2]
    · rw [if_neg h, sgN_lim, if_neg (by omega), (cmpI_num s2 A B (by omega)).1, sgB_neg]
  · rw [if_neg hx, cmpE_up (by omega), numD_mul]
    generalize ln m1 * 2 ^ (x1 - x2).toNat = A
    generalize ln m2 = B
    by_cases h : A ≤ B
    · rw [if_pos h, sgN_lim]
      by_cases h2 : B - A = 0
      · obtain rfl : A = B := by omega
        rw [if_pos h2, cmpI_eq]
      · rw [if_neg h2, (cmpI_num s2 A B (by omega)).1, sgB_neg]
    · rw [if_neg h, sgN_lim, if_neg (by omega), (cmpI_num s2 B A (by omega)).2]
theorem sgN_top (d : DV) : (sgN d = 1 ↔ 0 < d.top) ∧ (sgN d = -1 ↔ d.top < 0) ∧ (sgN d = 0 ↔ d.top = 0) ∧ (sgN d = 1 ∨ sgN d = -1 ∨ sgN d = 0) := by
  rw [top_num]
  unfold sgN numD sgB
  generalize ln d.mag = a
  by_cases h : a = 0
  · subst h
    cases d.neg <;> simp
  · rw [if_neg h]
    cases d.neg <;> simp <;> omega
theorem mul_sgn {z P : Int} (hP : 0 < P) : (0 < z * P ↔ 0 < z) ∧ (z * P < 0 ↔ z < 0) := by
  rcases Int.lt_trichotomy z 0 with h | h | h
  · have := Int.mul_neg_of_neg_of_pos h hP
    omega
  · subst h; simp
  · have := Int.mul_pos h hP
    omega
theorem cmpE_sgn (d1 d2 : DV) : (sgN d1 < sgN d2 → cmpE d1.top d1.exp d2.top d2.exp = -1) ∧ (sgN d2 < sgN d1 → cmpE d1.top d1.exp d2.top d2.exp = 1) ∧ (sgN d1 = 0 → sgN d2 = 0 → cmpE d1.top d1.exp d2.top d2.exp = 0) := by
  obtain ⟨a1, a2, a3, a4⟩ := sgN_top d1
  obtain ⟨b1, b2, b3, b4⟩ := sgN_top d2
  unfold cmpE
  have p1 := mul_sgn (z := d1.top) (show (0 : Int) < 2 ^ (d1.exp - min d1.exp d2.exp).toNat by exact_mod_cast Nat.two_pow_pos _)
  have p2 := mul_sgn (z := d2.top) (show (0 : Int) < 2 ^ (d2.exp - min d1.exp d2.exp).toNat by exact_mod_cast Nat.two_pow_pos _)
  generalize d1.top * 2 ^ (d1.exp - min d1.exp d2.exp).toNat = X at p1 ⊢
  generalize d2.top * 2 ^ (d2.exp - min d1.exp d2.exp).toNat = Y at p2 ⊢
  unfold cmpI
  refine ⟨fun h => ?_, fun h => ?_, fun h h' => ?_⟩
  · rw [if_pos]; omega
  · rw [if_neg (by omega), if_pos (by omega)]
  · rw [if_neg (by omega), if_neg (by omega)]

set_option maxRecDepth 100000 in
set_option maxHeartbeats 8000000 in
theorem plusN_any (v1 v2 : Value) (d1 d2 : DV) (w : World) (h1 : NA w v1 d1) (h2 : NA w v2 d2) (l1 : d1.mag.length ≤ 1000000) (l2 : d2.mag.length ≤ 1000000) (e1 : -1000000 ≤ d1.exp ∧ d1.exp ≤ 1000000) (e2 : -1000000 ≤ d2.exp ∧ d2.exp ≤ 1000000)
    (n1 : ln d1.mag ≠ 0) (n2 : ln d2.mag ≠ 0) (hs : d2.neg = !d1.neg) :
    Calls Tryz.prog 129 #[v1, v2] w fun e w' => ∃ v', e = .returned v' ∧ NA w' v' (plX d1 d2) ∧ Below w.heap.size w w' := by
  unfold plX
  by_cases hx : d1.exp ≤ d2.exp
  · rw [if_pos hx]
    exact plusN_core v1 v2 d1 d2 w h1 h2 l1 l2 e1 e2 n1 n2 hs hx
  · rw [if_neg hx]
    have CO := Lib.hid (fun w a b => plusN_core v2 v1 d2 d1 w a b l2 l1 e2 e1 n2 n1 (by rw [hs]; simp) (by omega))
    have H1 := Lib.hid h1
    have H2 := Lib.hid h2
    obtain ⟨D, hD⟩ : ∃ D, D = plD d2 d1 := ⟨_, rfl⟩
    rw [← hD] at CO ⊢
    obtain ⟨A1, k1, c1, rfl, hl1⟩ := h1.agg
    obtain ⟨A2, k2, c2, rfl, hl2⟩ := h2.agg
    obtain ⟨s1, m1, x1⟩ := d1
    obtain ⟨s2, m2, x2⟩ := d2
    simp only at *
    have hz1 : decide (ln m1 = 0) = false := decide_eq_false n1
    have hz2 : decide (ln m2 = 0) = false := decide_eq_false n2
    have Z1 := Lib.hid (fun w (h : NA w (.agg #[.bool s1, .slice A1 k1 c1, .int .i64 x1]) ⟨s1, m1, x1⟩) => zeroN_any _ s1 m1 x1 w h.1 h.2 (by omega))
    have Z2 := Lib.hid (fun w (h : NA w (.agg #[.bool s2, .slice A2 k2 c2, .int .i64 x2]) ⟨s2, m2, x2⟩) => zeroN_any _ s2 m2 x2 w h.1 h.2 (by omega))
    rw [hz1] at Z1
    rw [hz2] at Z2
    have hgt : decide (x2 < x1) = true := decide_eq_true (by omega)
    obtain ⟨w0, hw0⟩ : ∃ w0, w0 = ((w.alloc (.cells #[.bool s1, .slice A1 k1 c1, .int .i64 x1] 100)).alloc (.cells #[.bool s2, .slice A2 k2 c2, .int .i64 x2] 100)).alloc (.cells #[.bool false, .slice none 0 0, .int .i64 0] 100) := ⟨_, rfl⟩
    have g1 : w0.heap[w.heap.size]? = some (.cells #[.bool s1, .slice A1 k1 c1, .int .i64 x1] 100 (0, 0)) := by rw [hw0]; exact blk_old (blk_old (blk_new ..) _) _
    have g2 : w0.heap[w.heap.size + 1]? = some (.cells #[.bool s2, .slice A2 k2 c2, .int .i64 x2] 100 (0, 0)) := by rw [hw0]; have h := blk_new (w.alloc (.cells #[.bool s1, .slice A1 k1 c1, .int .i64 x1] 100)) #[.bool s2, .slice A2 k2 c2, .int .i64 x2] 100; rw [World.size_alloc] at h; exact blk_old h _
    have g3 : w0.heap[w.heap.size + 1 + 1]? = some (.cells #[.bool false, .slice none 0 0, .int .i64 0] 100 (0, 0)) := by rw [hw0]; have h := blk_new ((w.alloc (.cells #[.bool s1, .slice A1 k1 c1, .int .i64 x1] 100)).alloc (.cells #[.bool s2, .slice A2 k2 c2, .int .i64 x2] 100)) #[.bool false, .slice none 0 0, .int .i64 0] 100; rwa [World.size_alloc, World.size_alloc] at h
    have z0 : w0.heap.size = w.heap.size + 1 + 1 + 1 := by rw [hw0]; simp
    have hb0 : Below w.heap.size w w0 := by rw [hw0]; exact (below2 ..).trans ((below1 ..).mono (by simp; omega))
    have HB0 := Lib.hid hb0
    have HG1 := Lib.hid g1
    have HG2 := Lib.hid g2
    have HG3 := Lib.hid g3
    have HZ := Lib.hid z0
    have HW0 := Lib.hid hw0
    obtain ⟨y0, y1, y2, _⟩ := cells3 g1
    obtain ⟨j0, j1, j2, _⟩ := cells3 g2
    have N1 := Lib.hid (h1.below hb0)
    have N2 := Lib.hid (h2.below hb0)
    clear hw0 hb0 g1 g2 g3 z0 h1 h2 hl1 hl2 H1 H2 hz1 hz2 n1 n2 hs hx hD
    go_enter Tryz.func129, Tryz.ntmps129
    go_upto_region 1 with fail
    rw [← HW0.out]
    go_wp2_with fail
    refine (Z1.out w0 N1.out).mono ?_
    rintro e wa ⟨rfl, hba⟩
    have HBA := Lib.hid hba
    have HA1 := Lib.hid ((hba.block _ (by have := HZ.out; omega)).trans HG1.out)
    have HA2 := Lib.hid ((hba.block _ (by have := HZ.out; omega)).trans HG2.out)
    clear hba y0 y1 y2 j0 j1 j2
    obtain ⟨y0, y1, y2, _⟩ := cells3 HA1.out
    obtain ⟨j0, j1, j2, _⟩ := cells3 HA2.out
    go_wp2_with fail
    refine (Z2.out wa (N2.out.below HBA.out)).mono ?_
    rintro e wb ⟨rfl, hbb⟩
    have HBb := Lib.hid (HBA.out.trans (hbb.mono HBA.out.size))
    clear hbb y0 y1 y2 j0 j1 j2 HA1 HA2
    have HB1 := Lib.hid ((HBb.out.block _ (by have := HZ.out; omega)).trans HG1.out)
    have HB2 := Lib.hid ((HBb.out.block _ (by have := HZ.out; omega)).trans HG2.out)
    obtain ⟨y0, y1, y2, _⟩ := cells3 HB1.out
    obtain ⟨j0, j1, j2, _⟩ := cells3 HB2.out
    go_wp2_with fail
    refine (CO.out wb (N2.out.below HBb.out) (N1.out.below HBb.out)).mono ?_
    rintro e wc ⟨vd, rfl, hvd, hbc⟩
    have HVD := Lib.hid hvd
    have HBC := Lib.hid (HBb.out.trans (hbc.mono HBb.out.size))
    obtain ⟨C', nc, dc, rfl, _⟩ := hvd.agg
    clear hbc y0 y1 y2 j0 j1 j2 hvd
    obtain ⟨r0, r1, r2, f0, f1, f2⟩ := cells3 ((HBC.out.block _ (by have := HZ.out; omega)).trans HG3.out)
    go_wp2_with fail
    obtain ⟨w6, hw6⟩ : ∃ w6, w6 = ((wc.setCell ⟨w.heap.size + 1 + 1, 0, none⟩ (.bool D.neg)).setCell ⟨w.heap.size + 1 + 1, 1, none⟩ (.slice C' nc dc)).setCell ⟨w.heap.size + 1 + 1, 2, none⟩ (.int .i64 D.exp) := ⟨_, rfl⟩
    obtain ⟨hD6, hB6, q0, q1, q2⟩ := num_out (d := D) ((HBC.out.block _ (by have := HZ.out; omega)).trans HG3.out) HVD.out w6 hw6
    have hb6 := HB0.out.trans ((HBC.out.mono HB0.out.size).trans (hB6 w.heap.size (by omega)))
    rw [← hw6]
    (try simp only [Exit.inBlock, Exit.then])
    refine bodyPost_ret (v := .agg #[.bool D.neg, .slice C' nc dc, .int .i64 D.exp]) (by simp [results, Tryz.results129, go_sem, q0, q1, q2]; done) rfl ?_
    exact ⟨_, rfl, hD6, hb6⟩

set_option maxRecDepth 100000 in
set_option maxHeartbeats 8000000 in
theorem lessN_any (v1 v2 : Value) (d1 d2 : DV) (w : World) (h1 : NA w v1 d1) (h2 : NA w v2 d2) (l1 : d1.mag.length ≤ 1000000) (l2 : d2.mag.length ≤ 1000000) (e1 : -1000000 ≤ d1.exp ∧ d1.exp ≤ 1000000) (e2 : -1000000 ≤ d2.exp ∧ d2.exp ≤ 1000000)
    (n1 : ln d1.mag ≠ 0) (n2 : ln d2.mag ≠ 0) (hs : d2.neg = d1.neg) :
    Calls Tryz.prog 103 #[v1, v2] w fun e w' => ∃ v', e = .returned v' ∧ NA w' v' (plX d1 ⟨!d2.neg, d2.mag, d2.exp⟩) ∧ Below w.heap.size w w' := by
  have PL := Lib.hid (fun v2' w a b => plusN_any v1 v2' d1 ⟨!d2.neg, d2.mag, d2.exp⟩ w a b l1 l2 e1 e2 n1 n2 (by simp [hs]))
  have MI := Lib.hid (fun w a => minusN_any v2 d2 w a)
  obtain ⟨D, hD⟩ : ∃ D, D = plX d1 ⟨!d2.neg, d2.mag, d2.exp⟩ := ⟨_, rfl⟩
  rw [← hD] at PL ⊢
  obtain ⟨A1, k1, c1, rfl, hl1⟩ := h1.agg
  obtain ⟨A2, k2, c2, rfl, hl2⟩ := h2.agg
  obtain ⟨s1, m1, x1⟩ := d1
  obtain ⟨s2, m2, x2⟩ := d2
  simp only at *
  obtain ⟨w0, hw0⟩ : ∃ w0, w0 = ((w.alloc (.cells #[.bool s1, .slice A1 k1 c1, .int .i64 x1] 100)).alloc (.cells #[.bool s2, .slice A2 k2 c2, .int .i64 x2] 100)).alloc (.cells #[.bool false, .slice none 0 0, .int .i64 0] 100) := ⟨_, rfl⟩
  have g1 : w0.heap[w.heap.size]? = some (.cells #[.bool s1, .slice A1 k1 c1, .int .i64 x1] 100 (0, 0)) := by rw [hw0]; exact blk_old (blk_old (blk_new ..) _) _
  have g2 : w0.heap[w.heap.size + 1]? = some (.cells #[.bool s2, .slice A2 k2 c2, .int .i64 x2] 100 (0, 0)) := by rw [hw0]; have h := blk_new (w.alloc (.cells #[.bool s1, .slice A1 k1 c1, .int .i64 x1] 100)) #[.bool s2, .slice A2 k2 c2, .int .i64 x2] 100; rw [World.size_alloc] at h; exact blk_old h _
  have g3 : w0.heap[w.heap.size + 1 + 1]? = some (.cells #[.bool false, .slice none 0 0, .int .i64 0] 100 (0, 0)) := by rw [hw0]; have h := blk_new ((w.alloc (.cells #[.bool s1, .slice A1 k1 c1, .int .i64 x1] 100)).alloc (.cells #[.bool s2, .slice A2 k2 c2, .int .i64 x2] 100)) #[.bool false, .slice none 0 0, .int .i64 0] 100; rwa [World.size_alloc, World.size_alloc] at h
  have z0 : w0.heap.size = w.heap.size + 1 + 1 + 1 := by rw [hw0]; simp
  have hb0 : Below w.heap.size w w0 := by rw [hw0]; exact (below2 ..).trans ((below1 ..).mono (by simp; omega))
  have HB0 := Lib.hid hb0
  have HG1 := Lib.hid g1
  have HG2 := Lib.hid g2
  have HG3 := Lib.hid g3
  have HZ := Lib.hid z0
  have HW0 := Lib.hid hw0
  obtain ⟨y0, y1, y2, _⟩ := cells3 g1
  obtain ⟨j0, j1, j2, _⟩ := cells3 g2
  have N1 := Lib.hid (h1.below hb0)
  have N2 := Lib.hid (h2.below hb0)
  obtain ⟨u, hu⟩ : ∃ u, u = w0.drew := ⟨_, rfl⟩
  have HU := Lib.hid hu
  have HBU := Lib.hid (show Below w0.heap.size w0 u by rw [hu]; exact (Below.refl _ _).drew)
  clear hw0 hb0 g1 g2 g3 z0 h1 h2 hl1 hl2 n1 n2 hs hD hu
  go_enter Tryz.func103, Tryz.ntmps103
  go_upto_region 1 with fail
  rw [← HW0.out]
  refine wp_region_G (S := (fun w' => w'.cell? ⟨w.heap.size, 0, none⟩ = some (.bool s1) ∧ w'.cell? ⟨w.heap.size, 1, none⟩ = some (.slice A1 k1 c1) ∧ w'.cell? ⟨w.heap.size, 2, none⟩ = some (.int .i64 x1) ∧ w'.cell? ⟨w.heap.size + 1, 0, none⟩ = some (.bool s2) ∧ w'.cell? ⟨w.heap.size + 1, 1, none⟩ = some (.slice A2 k2 c2) ∧ w'.cell? ⟨w.heap.size + 1, 2, none⟩ = some (.int .i64 x2))) 4 (by kernel_rfl) ?_ (fun hHeld => ?_)
  · first | exact True.intro | ((try dsimp only); go_keep)
  refine tkG (i := 0) (v := ?_) rfl (by kernel_rfl) (Or.inl ⟨by kernel_rfl, ?_⟩) (by assumption) ?_
  rotate_left 1
  · (intro w hSw; (try dsimp only at hSw); go_simp; try with_reducible rfl)
  try simp only [lyA, lyB, lyC, Act.put, lyD, lyE, lyF]
  refine tkG (i := 1) (v := ?_) rfl (by kernel_rfl) (Or.inl ⟨by kernel_rfl, ?_⟩) (by assumption) ?_
  rotate_left 1
  · (intro w hSw; (try dsimp only at hSw); go_simp; try with_reducible rfl)
  try simp only [lyA, lyB, lyC, Act.put, lyD, lyE, lyF]
  rw [← HU.out]
  clear y0 y1 y2 j0 j1 j2
  refine wpAnyG_one (i := 2) (by kernel_rfl) rfl (fun K hK => ?_)
  go_simp
  (refine (MI.out u (N2.out.below HBU.out)).mono ?_; rintro e wb ⟨vb, rfl, hvb, hbb⟩; have HVB := Lib.hid hvb; have HBB := Lib.hid (HBU.out.trans (hbb.mono HBU.out.size)); clear hbb hvb; obtain ⟨y0, y1, y2, _⟩ := cells3 ((HBB.out.block _ (by have := HZ.out; omega)).trans HG1.out); obtain ⟨j0, j1, j2, _⟩ := cells3 ((HBB.out.block _ (by have := HZ.out; omega)).trans HG2.out))
  try go_wp2_with fail
  refine (fun hHeld => hK.out _ _ (.inl hHeld) (fun _ => ?_)) ?_
  rotate_left 1
  · first | exact True.intro | ((try dsimp only); go_keep)
  clear hK K
  try simp only [lyA, lyB, lyC, Act.put, lyD, lyE, lyF]
  clear y0 y1 y2 j0 j1 j2
  refine wpAnyG_one (i := 3) (by kernel_rfl) rfl (fun K hK => ?_)
  go_simp
  (refine (PL.out vb wb (N1.out.below HBB.out) HVB.out).mono ?_; rintro e wc ⟨vd, rfl, hvd, hbc⟩; have HVD := Lib.hid hvd; have HBC := Lib.hid (HBB.out.trans (hbc.mono HBB.out.size)); obtain ⟨C', nc, dc, rfl, _⟩ := hvd.agg; clear hbc hvd; obtain ⟨y0, y1, y2, _⟩ := cells3 ((HBC.out.block _ (by have := HZ.out; omega)).trans HG1.out); obtain ⟨j0, j1, j2, _⟩ := cells3 ((HBC.out.block _ (by have := HZ.out; omega)).trans HG2.out); obtain ⟨r0, r1, r2, f0, f1, f2⟩ := cells3 ((HBC.out.block _ (by have := HZ.out; omega)).trans HG3.out))
  try go_wp2_with fail
  refine (fun hHeld => hK.out _ _ (.inl hHeld) (fun _ => ?_)) ?_
  rotate_left 1
  · first | exact True.intro | ((try dsimp only); go_keep)
  clear hK K
  try simp only [lyA, lyB, lyC, Act.put, lyD, lyE, lyF]
  refine wpAnyG_one (i := 4) (by kernel_rfl) rfl (fun K hK => ?_)
  go_simp
  refine hK.out _ _ ?_ (fun hHeld => ?_)
  · exact .inr (by kernel_rfl)
  clear hK K
  try simp only [lyA, lyB, lyC, Act.put, lyD, lyE, lyF]
  refine wpAnyG_done (by kernel_rfl) ?_ _
  obtain ⟨w6, hw6⟩ : ∃ w6, w6 = ((wc.setCell ⟨w.heap.size + 1 + 1, 0, none⟩ (.bool D.neg)).setCell ⟨w.heap.size + 1 + 1, 1, none⟩ (.slice C' nc dc)).setCell ⟨w.heap.size + 1 + 1, 2, none⟩ (.int .i64 D.exp) := ⟨_, rfl⟩
  obtain ⟨hD6, hB6, q0, q1, q2⟩ := num_out (d := D) ((HBC.out.block _ (by have := HZ.out; omega)).trans HG3.out) HVD.out w6 hw6
  have hb6 := HB0.out.trans ((HBC.out.mono HB0.out.size).trans (hB6 w.heap.size (by omega)))
  go_wp2_with fail
  rw [← hw6]
  (try simp only [Exit.inBlock, Exit.then])
  refine bodyPost_ret (v := .agg #[.bool D.neg, .slice C' nc dc, .int .i64 D.exp]) (by simp [results, Tryz.results103, go_sem, q0, q1, q2]; done) rfl ?_
  exact ⟨_, rfl, hD6, hb6⟩

end Go.Proofs.YtkfhbnfoiicioaaGreatDoor
