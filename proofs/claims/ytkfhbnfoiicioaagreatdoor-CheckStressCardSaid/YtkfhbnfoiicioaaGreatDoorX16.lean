import Derived.Test.YtkfhbnfoiicioaaGreatDoorX15
import Derived.Deep.Cut
import Derived.Deep.DeepCutAuto
set_option linter.unusedSimpArgs false
set_option linter.unusedVariables false
/- span.Div, span.Add: the walks -/
namespace Go.Proofs.YtkfhbnfoiicioaaGreatDoor
open Go.RowKit Go.Sort

theorem div1_any (x y r : Nat) (m : Int) (hC : ∀ w, Laid w → Calls Tryz.prog 36 #[.float .f64 x, .float .f64 y, .int .i8 m] w fun e w' => e = .returned (.float .f64 r) ∧ Below w.heap.size w w') (hn : fnan r = false) (w : World) (hL : Laid w) :
    Calls Tryz.prog 35 #[.float .f64 x, .float .f64 y, .int .i8 m] w fun e w' => e = .returned (.float .f64 r) ∧ Below w.heap.size w w' := by
  have HC := Lib.hid hC
  have LW := Lib.hid hL
  have hself := feq_self r
  rw [hn] at hself
  unfold feq at hself
  simp only [Bool.not_false] at hself
  clear hC hn hL
  go_enter Tryz.func35, Tryz.ntmps35
  go_wp2_with fail
  refine (HC.out w LW.out).mono ?_
  rintro e w1 ⟨rfl, hb1⟩
  have HB := Lib.hid hb1
  clear hb1
  go_wp2_with fail
  go_ret
  exact ⟨rfl, HB.out⟩
theorem rd_spans (w : World) (a b : Spn) (t : TypeId) : RdE Spn.cells 2 (w.alloc (.cells #[.float .f64 a.lo, .float .f64 a.hi, .float .f64 b.lo, .float .f64 b.hi] t)) (fun x => x < (w.alloc (.cells #[.float .f64 a.lo, .float .f64 a.hi, .float .f64 b.lo, .float .f64 b.hi] t)).heap.size) (some ⟨w.heap.size, 0, none⟩) 2 [a, b] := rde_blk (blk_new ..) rfl (by simp) rfl rfl
set_option maxRecDepth 100000 in
set_option maxHeartbeats 4000000 in
theorem div_span (a b : Spn) (D : Nat → Nat → Int → Nat) (w : World) (h00 : DivC a.lo b.lo D) (h01 : DivC a.lo b.hi D) (h10 : DivC a.hi b.lo D) (h11 : DivC a.hi b.hi D) (ha : a.ok = true) (hb : b.ok = true) (hz : fle b.lo 0 = false) (hL : Laid w) :
    Calls Tryz.prog 18 #[a.val, b.val] w fun e w' => e = .returned (.tuple #[.agg #[.float .f64 (corL a b D 3), .float .f64 (corH a b D 3)], .int .i64 0]) ∧ Below w.heap.size w w' := by
  have LW := Lib.hid hL
  have IC := Lib.hid (fun w hL => corners_any a b D w h00 h01 h10 h11 hL)
  obtain ⟨rl, hrl⟩ : ∃ rl, rl = corL a b D 3 := ⟨_, rfl⟩
  obtain ⟨ru, hru⟩ : ∃ ru, ru = corH a b D 3 := ⟨_, rfl⟩
  rw [← hrl, ← hru] at IC ⊢
  have hall : [a, b].all Spn.ok = true := by simp [ha, hb]
  have IR := Lib.hid (fun A n c w hx hn => rights_any A n c [a, b] w hx hn)
  rw [hall] at IR
  obtain ⟨c, d⟩ := a
  obtain ⟨p, q⟩ := b
  obtain ⟨w0, hw0⟩ : ∃ w0, w0 = ((w.alloc (.cells #[.float .f64 c, .float .f64 d] 24)).alloc (.cells #[.float .f64 p, .float .f64 q] 24)).alloc (.cells #[.float .f64 0, .float .f64 0] 24) := ⟨_, rfl⟩
  have hb0 : Below w.heap.size w w0 := by rw [hw0]; exact below3 ..
  have z0 : w0.heap.size = w.heap.size + 3 := by rw [hw0]; simp
  have g1 : w0.heap[w.heap.size]? = some (.cells #[.float .f64 c, .float .f64 d] 24 (0, 0)) := by
    rw [hw0]; exact ((below2 (w.alloc _) _ _).block w.heap.size (by simp)).trans (blk_new w _ _)
  have g2 : w0.heap[w.heap.size + 1]? = some (.cells #[.float .f64 p, .float .f64 q] 24 (0, 0)) := by
    rw [hw0]
    have h := blk_new (w.alloc (.cells #[.float .f64 c, .float .f64 d] 24)) #[.float .f64 p, .float .f64 q] 24
    rw [World.size_alloc] at h
    exact ((below1 _ _).block (w.heap.size + 1) (by simp)).trans h
  have g3 : w0.heap[w.heap.size + 2]? = some (.cells #[.float .f64 0, .float .f64 0] 24 (0, 0)) := by
    rw [hw0]
    have h := blk_new ((w.alloc (.cells #[.float .f64 c, .float .f64 d] 24)).alloc (.cells #[.float .f64 p, .float .f64 q] 24)) #[.float .f64 0, .float .f64 0] 24
    rwa [World.size_alloc, World.size_alloc] at h
  obtain ⟨w1, hw1⟩ : ∃ w1, w1 = w0.alloc (.cells #[.float .f64 c, .float .f64 d, .float .f64 p, .float .f64 q] 24) := ⟨_, rfl⟩
  have hb1 : Below w0.heap.size w0 w1 := by rw [hw1]; exact below1 ..
  have hx1 := rd_spans w0 ⟨c, d⟩ ⟨p, q⟩ 24
  simp only at hx1
  rw [← hw1, show w0.heap.size = w.heap.size + 1 + 1 + 1 by omega] at hx1
  have HX := Lib.hid hx1
  have K1 := Lib.hid (BxS.of_blk (s := ⟨c, d⟩) g1)
  have K2 := Lib.hid (BxS.of_blk (s := ⟨p, q⟩) g2)
  have G3 := Lib.hid g3
  have HB0 := Lib.hid hb0
  have HB1 := Lib.hid hb1
  have HW0 := Lib.hid hw0
  have HW1 := Lib.hid hw1
  simp only at hz
  unfold fle at hz
  have LW0 := Lib.hid (hL.below hb0)
  clear hL h00 h01 h10 h11 hrl hru hall ha hb hw0 hb0 g1 g2 g3 hw1 hb1 hx1
  go_enter Tryz.func18, Tryz.ntmps18
  go_wp2_with fail
  rw [← HW0.out, ← HW1.out]
  refine (IR.out _ 2 2 w1 HX.out (by omega)).mono ?_
  rintro e w2 ⟨rfl, hb2⟩
  have HB2 := Lib.hid (HB1.out.trans (hb2.mono HB1.out.size))
  clear hb2
  have zz2 := HB2.out.size
  obtain ⟨k10, k11⟩ := (K1.out.below HB2.out)
  obtain ⟨k20, k21⟩ := (K2.out.below HB2.out)
  simp only at k10 k11 k20 k21
  go_wp2_with fail
  refine (IC.out w2 (LW0.out.below HB2.out)).mono ?_
  rintro e w3 ⟨rfl, hb3⟩
  have HB3 := Lib.hid (HB2.out.trans (hb3.mono HB2.out.size))
  clear hb3 k10 k11 k20 k21
  have zz3 := HB3.out.size
  obtain ⟨hk3, hf3⟩ := blk_cs ((HB3.out.block (w.heap.size + 2) (by omega)).trans G3.out)
  have k30 := hk3 0
  have k31 := hk3 1
  have f30 := hf3 0
  have f31 := hf3 1
  simp only [List.getElem?_toArray, List.getElem?_cons_zero, List.getElem?_cons_succ] at k30 k31
  obtain ⟨w8, hw8⟩ : ∃ w8, w8 = (w3.setCell ⟨w.heap.size + 2, 0, none⟩ (.float .f64 rl)).setCell ⟨w.heap.size + 2, 1, none⟩ (.float .f64 ru) := ⟨_, rfl⟩
  obtain ⟨hu8, hq⟩ := spn_set k30 k31 _ _ _ hw8
  have HQ := Lib.hid hq
  have HW8 := Lib.hid hw8
  have HB8 := Lib.hid (HB0.out.trans ((HB3.out.mono HB0.out.size).trans (hu8.below (by omega) (by omega))))
  clear hk3 hf3 hw8 hu8 hq
  go_wp2_with fail
  rw [← HW8.out]
  obtain ⟨q0, q1⟩ := HQ.out
  (try simp only [Exit.inBlock, Exit.then])
  refine bodyPost_ret (v := .tuple #[.agg #[.float .f64 rl, .float .f64 ru], .int .i64 0]) (by simp [results, Tryz.results18, go_sem, q0, q1]; done) rfl ?_
  exact ⟨rfl, HB8.out⟩
set_option maxRecDepth 100000 in
set_option maxHeartbeats 4000000 in
theorem add_span (a b : Spn) (rl ru : Nat) (w : World) (ha : a.ok = true) (hb : b.ok = true)
    (h1 : ∀ w, Calls Tryz.prog 37 #[.float .f64 a.lo, .float .f64 b.lo, .int .i8 1] w fun e w' => e = .returned (.float .f64 rl) ∧ Below w.heap.size w w')
    (h2 : ∀ w, Calls Tryz.prog 37 #[.float .f64 a.hi, .float .f64 b.hi, .int .i8 2] w fun e w' => e = .returned (.float .f64 ru) ∧ Below w.heap.size w w') :
    Calls Tryz.prog 19 #[a.val, b.val] w fun e w' => e = .returned (.tuple #[.agg #[.float .f64 rl, .float .f64 ru], .int .i64 0]) ∧ Below w.heap.size w w' := by
  have I1 := Lib.hid h1
  have I2 := Lib.hid h2
  have hall : [a, b].all Spn.ok = true := by simp [ha, hb]
  have IR := Lib.hid (fun A n c w hx hn => rights_any A n c [a, b] w hx hn)
  rw [hall] at IR
  obtain ⟨c, d⟩ := a
  obtain ⟨p, q⟩ := b
  simp only at I1 I2
  obtain ⟨w0, hw0⟩ : ∃ w0, w0 = ((w.alloc (.cells #[.float .f64 c, .float .f64 d] 24)).alloc (.cells #[.float .f64 p, .float .f64 q] 24)).alloc (.cells #[.float .f64 0, .float .f64 0] 24) := ⟨_, rfl⟩
  have hb0 : Below w.heap.size w w0 := by rw [hw0]; exact below3 ..
  have z0 : w0.heap.size = w.heap.size + 3 := by rw [hw0]; simp
  have g1 : w0.heap[w.heap.size]? = some (.cells #[.float .f64 c, .float .f64 d] 24 (0, 0)) := by
    rw [hw0]; exact ((below2 (w.alloc _) _ _).block w.heap.size (by simp)).trans (blk_new w _ _)
  have g2 : w0.heap[w.heap.size + 1]? = some (.cells #[.float .f64 p, .float .f64 q] 24 (0, 0)) := by
    rw [hw0]
    have h := blk_new (w.alloc (.cells #[.float .f64 c, .float .f64 d] 24)) #[.float .f64 p, .float .f64 q] 24
    rw [World.size_alloc] at h
    exact ((below1 _ _).block (w.heap.size + 1) (by simp)).trans h
  have g3 : w0.heap[w.heap.size + 2]? = some (.cells #[.float .f64 0, .float .f64 0] 24 (0, 0)) := by
    rw [hw0]
    have h := blk_new ((w.alloc (.cells #[.float .f64 c, .float .f64 d] 24)).alloc (.cells #[.float .f64 p, .float .f64 q] 24)) #[.float .f64 0, .float .f64 0] 24
    rwa [World.size_alloc, World.size_alloc] at h
  obtain ⟨w1, hw1⟩ : ∃ w1, w1 = w0.alloc (.cells #[.float .f64 c, .float .f64 d, .float .f64 p, .float .f64 q] 24) := ⟨_, rfl⟩
  have hb1 : Below w0.heap.size w0 w1 := by rw [hw1]; exact below1 ..
  have hx1 := rd_spans w0 ⟨c, d⟩ ⟨p, q⟩ 24
  simp only at hx1
  rw [← hw1, show w0.heap.size = w.heap.size + 1 + 1 + 1 by omega] at hx1
  have HX := Lib.hid hx1
  have K1 := Lib.hid (BxS.of_blk (s := ⟨c, d⟩) g1)
  have K2 := Lib.hid (BxS.of_blk (s := ⟨p, q⟩) g2)
  have G3 := Lib.hid g3
  have HB0 := Lib.hid hb0
  have HB1 := Lib.hid hb1
  have HW0 := Lib.hid hw0
  have HW1 := Lib.hid hw1
  clear h1 h2 hall ha hb hw0 hb0 g1 g2 g3 hw1 hb1 hx1
  go_enter Tryz.func19, Tryz.ntmps19
  go_wp2_with fail
  rw [← HW0.out, ← HW1.out]
  refine (IR.out _ 2 2 w1 HX.out (by omega)).mono ?_
  rintro e w2 ⟨rfl, hb2⟩
  have HB2 := Lib.hid (HB1.out.trans (hb2.mono HB1.out.size))
  clear hb2
  have zz2 := HB2.out.size
  obtain ⟨k10, k11⟩ := (K1.out.below HB2.out)
  obtain ⟨k20, k21⟩ := (K2.out.below HB2.out)
  simp only at k10 k11 k20 k21
  go_wp2_with fail
  refine wp_region_G (S := (fun w' => w'.cell? ⟨w.heap.size, 0, none⟩ = some (.float .f64 c) ∧ w'.cell? ⟨w.heap.size, 1, none⟩ = some (.float .f64 d) ∧ w'.cell? ⟨w.heap.size + 1, 0, none⟩ = some (.float .f64 p) ∧ w'.cell? ⟨w.heap.size + 1, 1, none⟩ = some (.float .f64 q))) 11 (by kernel_rfl) ?_ (fun hHeld => ?_)
  · first | exact True.intro | ((try dsimp only); go_keep)
  refine tkG (i := 0) (v := ?_) rfl (by kernel_rfl) (Or.inl ⟨by kernel_rfl, ?_⟩) (by assumption) ?_
  rotate_left 1
  · (intro w hSw; (try dsimp only at hSw); go_simp; try with_reducible rfl)
  try simp only [lyA, lyB, lyC, Act.put, lyD, lyE, lyF]
  refine tkG (i := 1) (v := ?_) rfl (by kernel_rfl) (Or.inl ⟨by kernel_rfl, ?_⟩) (by assumption) ?_
  rotate_left 1
  · (intro w hSw; (try dsimp only at hSw); go_simp; try with_reducible rfl)
  try simp only [lyA, lyB, lyC, Act.put, lyD, lyE, lyF]
  refine tkG (i := 2) (v := ?_) rfl (by kernel_rfl) (Or.inl ⟨by kernel_rfl, ?_⟩) (by assumption) ?_
  rotate_left 1
  · (intro w hSw; (try dsimp only at hSw); go_simp; try with_reducible rfl)
  try simp only [lyA, lyB, lyC, Act.put, lyD, lyE, lyF]
  refine tkG (i := 3) (v := ?_) rfl (by kernel_rfl) (Or.inl ⟨by kernel_rfl, ?_⟩) (by assumption) ?_
  rotate_left 1
  · (intro w hSw; (try dsimp only at hSw); go_simp; try with_reducible rfl)
  try simp only [lyA, lyB, lyC, Act.put, lyD, lyE, lyF]
  refine tkG (i := 5) (v := ?_) rfl (by kernel_rfl) (Or.inl ⟨by kernel_rfl, ?_⟩) (by assumption) ?_
  rotate_left 1
  · (intro w hSw; (try dsimp only at hSw); go_simp; try with_reducible rfl)
  try simp only [lyA, lyB, lyC, Act.put, lyD, lyE, lyF]
  refine tkG (i := 6) (v := ?_) rfl (by kernel_rfl) (Or.inl ⟨by kernel_rfl, ?_⟩) (by assumption) ?_
  rotate_left 1
  · (intro w hSw; (try dsimp only at hSw); go_simp; try with_reducible rfl)
  try simp only [lyA, lyB, lyC, Act.put, lyD, lyE, lyF]
  refine tkG (i := 7) (v := ?_) rfl (by kernel_rfl) (Or.inl ⟨by kernel_rfl, ?_⟩) (by assumption) ?_
  rotate_left 1
  · (intro w hSw; (try dsimp only at hSw); go_simp; try with_reducible rfl)
  try simp only [lyA, lyB, lyC, Act.put, lyD, lyE, lyF]
  refine tkG (i := 8) (v := ?_) rfl (by kernel_rfl) (Or.inl ⟨by kernel_rfl, ?_⟩) (by assumption) ?_
  rotate_left 1
  · (intro w hSw; (try dsimp only at hSw); go_simp; try with_reducible rfl)
  try simp only [lyA, lyB, lyC, Act.put, lyD, lyE, lyF]
  obtain ⟨u, hu⟩ : ∃ ux : World, ux = w2.drew := ⟨_, rfl⟩
  have HBU : Hid (Below w0.heap.size w0 u) := Lib.hid (by rw [hu]; exact HB2.out.drew)
  rw [← hu] at hHeld ⊢
  clear hu k10 k11 k20 k21
  refine wpAnyG_one (i := 4) (by kernel_rfl) rfl (fun K hK => ?_)
  go_simp
  (refine (I1.out u).mono ?_; rintro e w3 ⟨rfl, hb3⟩; obtain ⟨s0, s1, s2, s3⟩ := hHeld; have t0 := bat hb3 s0; have t1 := bat hb3 s1; have t2 := bat hb3 s2; have t3 := bat hb3 s3; have HB3 := Lib.hid (HBU.out.trans (hb3.mono HBU.out.size)); clear hb3 s0 s1 s2 s3)
  try go_wp2_with fail
  refine (fun hHeld => hK.out _ _ (.inl hHeld) (fun _ => ?_)) ?_
  rotate_left 1
  · first | exact True.intro | ((try dsimp only); go_keep)
  clear hK K
  try simp only [lyA, lyB, lyC, Act.put, lyD, lyE, lyF]
  refine wpAnyG_one (i := 9) (by kernel_rfl) rfl (fun K hK => ?_)
  go_simp
  (refine (I2.out w3).mono ?_; rintro e w4 ⟨rfl, hb4⟩; have p0 := bat hb4 t0; have p1 := bat hb4 t1; have p2 := bat hb4 t2; have p3 := bat hb4 t3; have HB4 := Lib.hid (HB3.out.trans (hb4.mono HB3.out.size)); clear hb4 t0 t1 t2 t3)
  try go_wp2_with fail
  refine (fun hHeld => hK.out _ _ (.inl hHeld) (fun _ => ?_)) ?_
  rotate_left 1
  · first | exact True.intro | ((try dsimp only); go_keep)
  clear hK K
  try simp only [lyA, lyB, lyC, Act.put, lyD, lyE, lyF]
  refine wpAnyG_one (i := 10) (by kernel_rfl) rfl (fun K hK => ?_)
  go_simp
  refine (fun hHeld => hK.out _ _ (.inl hHeld) (fun _ => ?_)) ?_
  rotate_left 1
  · first | exact True.intro | ((try dsimp only); go_keep)
  clear hK K
  try simp only [lyA, lyB, lyC, Act.put, lyD, lyE, lyF]
  have zz3 := HB4.out.size
  obtain ⟨hk3, hf3⟩ := blk_cs ((HB4.out.block (w.heap.size + 2) (by omega)).trans G3.out)
  have k30 := hk3 0
  have k31 := hk3 1
  have f30 := hf3 0
  have f31 := hf3 1
  simp only [List.getElem?_toArray, List.getElem?_cons_zero, List.getElem?_cons_succ] at k30 k31
  obtain ⟨w8, hw8⟩ : ∃ w8, w8 = (w4.setCell ⟨w.heap.size + 2, 0, none⟩ (.float .f64 rl)).setCell ⟨w.heap.size + 2, 1, none⟩ (.float .f64 ru) := ⟨_, rfl⟩
  obtain ⟨hu8, hq⟩ := spn_set k30 k31 _ _ _ hw8
  have HQ := Lib.hid hq
  have HW8 := Lib.hid hw8
  have HB8 := Lib.hid (HB0.out.trans ((HB4.out.mono HB0.out.size).trans (hu8.below (by omega) (by omega))))
  clear hk3 hf3 hw8 hu8 hq
  refine wpAnyG_one (i := 11) (by kernel_rfl) rfl (fun K hK => ?_)
  go_simp
  refine hK.out _ _ ?_ (fun hHeld => ?_)
  · exact .inr (by kernel_rfl)
  clear hK K
  try simp only [lyA, lyB, lyC, Act.put, lyD, lyE, lyF]
  refine wpAnyG_one (i := 12) (by kernel_rfl) rfl (fun K hK => ?_)
  go_simp
  refine hK.out _ _ ?_ (fun hHeld => ?_)
  · exact .inr (by kernel_rfl)
  clear hK K
  try simp only [lyA, lyB, lyC, Act.put, lyD, lyE, lyF]
  refine wpAnyG_done (by kernel_rfl) ?_ _
  rw [← HW8.out]
  go_wp2_with fail
  obtain ⟨q0, q1⟩ := HQ.out
  (try simp only [Exit.inBlock, Exit.then])
  refine bodyPost_ret (v := .tuple #[.agg #[.float .f64 rl, .float .f64 ru], .int .i64 0]) (by simp [results, Tryz.results19, go_sem, q0, q1]; done) rfl ?_
  exact ⟨rfl, HB8.out⟩

end Go.Proofs.YtkfhbnfoiicioaaGreatDoor

/- quotients: the sign of what a fused product tells is the exact one; round.Div of any numbers -/
namespace Go.Proofs.YtkfhbnfoiicioaaGreatDoor
open Ieee Go.RowKit Go.Sort

theorem log2_le {m k : Nat} (h : m < 2 ^ (k + 1)) : m.log2 ≤ k := by
  by_cases h0 : m = 0
  · subst h0; simp
  · have := (Nat.log2_lt h0).2 h
    omega
theorem plc_neg (u : Nat) : plc (negF u) = plc u := by
  have e : negF u / 4503599627370496 % 2048 = u / 4503599627370496 % 2048 := by unfold negF; split <;> omega
  unfold plc
  rw [e]
/-- a finite float's parts -/
theorem fin_parts2 {u : Nat} (h : finB u = true) : ∃ s m, Ieee.double.read u = .number s m (plc u) ∧ -1074 ≤ plc u ∧ m < 2 ^ 53 ∧ (4503599627370496 ≤ u % 9223372036854775808 → 2 ^ 52 ≤ m) ∧ (m = 0 → u % 9223372036854775808 = 0) := by
  have e1 : Ieee.double.signWeight = 9223372036854775808 := by decide
  have e2 : Ieee.double.binade = 4503599627370496 := by decide
  have e3 : Ieee.double.infRung = 9218868437227405312 := by decide
  have e4 : Ieee.double.leastPlace = -1074 := by decide
  have e5 : (2 : Nat) ^ 53 = 9007199254740992 := by decide
  have e6 : (2 : Nat) ^ 52 = 4503599627370496 := by decide
  have h : u % 9223372036854775808 < 9218868437227405312 := of_decide_eq_true h
  rw [e5, e6]
  unfold Ieee.Format.read plc
  simp only [e1, e2, e3, e4]
  by_cases h1 : u % 9223372036854775808 < 4503599627370496
  · rw [if_pos h1]
    have h2 : (u / 4503599627370496 % 2048 : Nat) = 0 := by omega
    rw [h2]
    exact ⟨u / 9223372036854775808 % 2 == 1, u % 9223372036854775808, rfl, by decide, by omega, by omega, fun h => h⟩
  · rw [if_neg h1, if_pos h]
    have h2 : (-1074 : Int) + ((u % 9223372036854775808 / 4503599627370496 - 1 : Nat) : Int) = max ((u / 4503599627370496 % 2048 : Nat) : Int) 1 - 1075 := by omega
    rw [h2]
    exact ⟨u / 9223372036854775808 % 2 == 1, _, rfl, by omega, by omega, by omega, by omega⟩
theorem fld_le {g K kept : Nat} (h : g = min (K * 4503599627370496 + kept) 9218868437227405312) (h1 : g < 9218868437227405312) : K ≤ g / 4503599627370496 := by omega
theorem word_mod (neg : Bool) {g : Nat} (h : g ≤ 9218868437227405312) : Ieee.double.word neg g % 9223372036854775808 = g := by
  have e1 : Ieee.double.signWeight = 9223372036854775808 := by decide
  unfold Ieee.Format.word
  rw [e1]
  cases neg
  · simp only [Bool.false_eq_true, if_false]; omega
  · simp only [if_true]; omega
theorem plc_le {q g : Nat} {x : Int} {K : Nat} (h : q % 9223372036854775808 = g) (hg : g < 9218868437227405312) (hK : K ≤ g / 4503599627370496) (hx : x ≤ (K : Int) - 1074) : x - 1 ≤ plc q := by
  have hfield : (q / 4503599627370496 % 2048 : Nat) = g / 4503599627370496 := by omega
  unfold plc
  rw [hfield]
  clear hfield h
  generalize g / 4503599627370496 = F at hK ⊢
  omega
theorem min_le_r {a b g : Nat} (h : g = min a b) : g ≤ b := by omega
/-- where the last digit of a rounded number stands -/
theorem nearest_plc {neg : Bool} {D : Nat} {p : Int} {q : Nat} (h0 : D ≠ 0) (hq : Ieee.double.nearest neg D p = q) (hf : finB q = true) : p + (D.log2 : Int) - 53 ≤ plc q := by
  have e2 : Ieee.double.binade = 4503599627370496 := by decide
  have e3 : Ieee.double.infRung = 9218868437227405312 := by decide
  have e4 : Ieee.double.leastPlace = -1074 := by decide
  have e5 : Ieee.double.fractionBits = 52 := by decide
  have hf := of_decide_eq_true hf
  obtain ⟨L, hL⟩ : ∃ L, L = D.log2 := ⟨_, rfl⟩
  unfold Ieee.Format.nearest at hq
  rw [if_neg h0] at hq
  simp only [e2, e3, e4, e5] at hq
  rw [← hL] at hq ⊢
  clear hL h0 e2 e3 e4 e5
  obtain ⟨last, hl⟩ : ∃ last, last = max (p + (L : Int) - ((52 : Nat) : Int)) (-1074) := ⟨_, rfl⟩
  rw [← hl] at hq
  obtain ⟨K, hK⟩ : ∃ K, K = (last - -1074).toNat := ⟨_, rfl⟩
  rw [← hK] at hq
  obtain ⟨g, ⟨kept, hg⟩, hq2⟩ : ∃ g, (∃ kept, g = min (K * 4503599627370496 + kept) 9218868437227405312) ∧ Ieee.double.word neg g = q := ⟨_, ⟨_, rfl⟩, hq⟩
  clear hq
  have hqg : q % 9223372036854775808 = g := by rw [← hq2]; exact word_mod neg (min_le_r hg)
  rw [hqg] at hf
  have := plc_le hqg hf (fld_le hg hf) (show last ≤ (K : Int) - 1074 by omega)
  omega
/-- a quotient of numbers is one -/
theorem quo_parts {a b : Nat} {s t : Bool} {m n : Nat} {i j : Int} (ha : Ieee.double.read a = .number s m i) (hb : Ieee.double.read b = .number t n j) (hn : n ≠ 0) :
    ∃ r : Bool, floatBits .quo .f64 a b = some (Ieee.double.nearest r (2 * ((m <<< (54 + n.log2 - m.log2)) / n) + ((m <<< (54 + n.log2 - m.log2)) % n != 0).toNat) (i - j - ((54 + n.log2 - m.log2 : Nat) : Int) - 1)) := by
  have e5 : Ieee.double.fractionBits = 52 := by decide
  have h : floatBits .quo .f64 a b = ((Ieee.double.read a).quotient (Ieee.double.fractionBits + 2) (Ieee.double.read b)).map Ieee.double.write := rfl
  rw [h, ha, hb, e5]
  simp only [Ieee.Datum.quotient, if_neg hn, Option.map_some]
  exact ⟨s ^^ t, rfl⟩
theorem nearest_lt (neg : Bool) (m : Nat) (p : Int) : Ieee.double.nearest neg m p < 18446744073709551616 := by
  have e1 : Ieee.double.signWeight = 9223372036854775808 := by decide
  obtain ⟨g, hg, hle, _⟩ := nearest_word neg m p
  rw [hg]
  unfold Ieee.Format.word
  rw [e1]
  split <;> omega
theorem quo_fin {a b : Nat} (ha : finB a = true) (hb : finB b = true) (hz : b % 9223372036854775808 ≠ 0) : ∃ q, floatBits .quo .f64 a b = some q ∧ fnan q = false ∧ q < 18446744073709551616 := by
  obtain ⟨s, m, h1, _⟩ := fin_parts2 ha
  obtain ⟨t, n, h2, _, _, _, h3⟩ := fin_parts2 hb
  obtain ⟨r, hr⟩ := quo_parts h1 h2 (fun h => hz (h3 h))
  exact ⟨_, hr, nearest_num _ _ _, nearest_lt _ _ _⟩
theorem quo_plc {a b q : Nat} (ha : finB a = true) (hb : finB b = true) (hq : finB q = true) (hz : b % 9223372036854775808 ≠ 0) (hno : 4503599627370496 ≤ a % 9223372036854775808) (hr : floatBits .quo .f64 a b = some q) : plc a - 54 ≤ plc q + plc b := by
  obtain ⟨s, m, h1, _, hm1, hm2, _⟩ := fin_parts2 ha
  obtain ⟨t, n, h2, _, hn1, _, h3⟩ := fin_parts2 hb
  have hn0 : n ≠ 0 := fun h => hz (h3 h)
  have hm52 := hm2 hno
  have hm0 : m ≠ 0 := by
    intro h; subst h
    exact absurd hm52 (by decide)
  obtain ⟨r, hr2⟩ := quo_parts h1 h2 hn0
  rw [hr] at hr2
  injection hr2 with hr2
  have lm1 : 52 ≤ m.log2 := (Nat.le_log2 hm0).2 hm52
  have lm2 : m.log2 ≤ 52 := log2_le hm1
  have ln1 : n.log2 ≤ 52 := log2_le hn1
  obtain ⟨L, hL⟩ : ∃ L, L = n.log2 := ⟨_, rfl⟩
  have hmore : 54 + n.log2 - m.log2 = L + 2 := by omega
  rw [hmore] at hr2
  have hnL : n < 2 ^ (L + 1) := by rw [hL]; exact Nat.lt_log2_self
  have hdv : 2 ^ 53 ≤ (m <<< (L + 2)) / n := by
    rw [Nat.shiftLeft_eq, Nat.le_div_iff_mul_le (by omega)]
    calc 2 ^ 53 * n ≤ 2 ^ 53 * 2 ^ (L + 1) := Nat.mul_le_mul_left _ (Nat.le_of_lt hnL)
      _ = 2 ^ 52 * 2 ^ (L + 2) := by rw [← Nat.pow_add, ← Nat.pow_add]; congr 1; omega
      _ ≤ m * 2 ^ (L + 2) := Nat.mul_le_mul_right _ hm52
  obtain ⟨D, hD⟩ : ∃ D, D = 2 * ((m <<< (L + 2)) / n) + ((m <<< (L + 2)) % n != 0).toNat := ⟨_, rfl⟩
  rw [← hD] at hr2
  have hD1 : 2 ^ 54 ≤ D := by
    rw [hD, show (2 : Nat) ^ 54 = 2 * 2 ^ 53 by decide]
    omega
  have hD0 : D ≠ 0 := by
    intro h; rw [h] at hD1; exact absurd hD1 (by decide)
  have lD : 54 ≤ D.log2 := (Nat.le_log2 hD0).2 hD1
  have := nearest_plc hD0 hr2.symm hq
  omega

theorem fk_neg {u : Nat} (hu : u < 18446744073709551616) (hf : finB u = true) : fk (negF u) = -fk u ∧ finB (negF u) = true := by
  have hf' : u % 9223372036854775808 < 9218868437227405312 := of_decide_eq_true hf
  have hm : negF u % 9223372036854775808 = u % 9223372036854775808 := by unfold negF; split <;> omega
  have hl : negF u < 18446744073709551616 := by unfold negF; split <;> omega
  have hs : sgbB (negF u) = !sgbB u := by
    unfold sgbB negF
    by_cases h : u < 9223372036854775808
    · rw [if_pos h, decide_eq_true (by omega), decide_eq_false (by omega)]; rfl
    · rw [if_neg h, decide_eq_false (by omega), decide_eq_true (by omega)]; rfl
  refine ⟨?_, by unfold finB; rw [hm]; exact decide_eq_true hf'⟩
  rw [fk_num hl (by rw [hm]; exact hf'), fk_num hu hf', hm, hs, numD_neg]
/-- what a fused product tells of a quotient -/
theorem fma_ex {a b q : Nat} (hq : q < 18446744073709551616) (fa : finB a = true) (fb : finB b = true) (fq : finB q = true) (hz : b % 9223372036854775808 ≠ 0) (hr : floatBits .quo .f64 a b = some q) (hno : 4503599627370496 ≤ a % 9223372036854775808) (hpl : -1020 ≤ plc a) :
    ∃ r, FloatKind.f64.format.fma (negF q) b a = some r ∧ fnan r = false ∧ sgF r = exS a b q := by
  have h1 := quo_plc fa fb fq hz hno hr
  obtain ⟨h2, h3⟩ := fk_neg hq fq
  obtain ⟨r, hr1, hr2, hr3⟩ := fma_sign h3 fb fa (by rw [plc_neg]; omega)
  refine ⟨r, hr1, hr2, ?_⟩
  rw [hr3, h2]
  unfold exS cmpI
  rw [Int.neg_mul]
  generalize fk q * fk b = Y
  generalize fk a * ((2 ^ 1074 : Nat) : Int) = X
  by_cases c1 : X < Y
  · rw [if_neg (by omega), if_pos (by omega), if_pos c1]
  · rw [if_neg c1]
    by_cases c2 : Y < X
    · rw [if_pos (by omega), if_pos c2]
    · rw [if_neg (by omega), if_neg (by omega), if_neg c2]

/-- a quotient, rounded to either side -/
def divX (a b : Nat) (m : Int) (q : Nat) : Nat :=
  if (finB a && finB b) = false ∨ feq a 0 = true ∨ feq b 0 = true then q
  else if infB q = true then setF q 0 m
  else setF q (exS a b q * sgF b) m
theorem plB_parts {u : Nat} (h : plB u = true) : finB u = true ∧ 4503599627370496 ≤ u % 9223372036854775808 ∧ -1020 ≤ plc u := by
  unfold plB expo at h
  simp only [Bool.not_eq_true', Bool.or_eq_false_iff, decide_eq_false_iff_not] at h
  unfold finB plc
  refine ⟨decide_eq_true (by omega), by omega, by omega⟩
theorem div_any (a b q : Nat) (m : Int) (w : World) (ha : a < 18446744073709551616) (hb : b < 18446744073709551616) (hq : q < 18446744073709551616) (hr : floatBits .quo .f64 a b = some q) (hn : fnan q = false) (hm : m = 1 ∨ m = 2) (hz : b % 9223372036854775808 ≠ 0) (hL : Laid w) :
    Calls Tryz.prog 36 #[.float .f64 a, .float .f64 b, .int .i8 m] w fun e w' => e = .returned (.float .f64 (divX a b m q)) ∧ Below w.heap.size w w' := by
  by_cases hx : ¬((finB a && finB b) = false ∨ feq a 0 = true ∨ feq b 0 = true) ∧ infB q = false ∧ (plB a && (plB b && plB q)) = false
  · obtain ⟨h1, h2, h3⟩ := hx
    have f1 : finB a = true ∧ finB b = true := by
      cases c1 : finB a <;> cases c2 : finB b <;> simp [c1, c2] at h1 <;> exact ⟨rfl, rfl⟩
    have z1 : feq a 0 = false := by cases c : feq a 0 <;> simp [c] at h1 ⊢
    have z2 : feq b 0 = false := by cases c : feq b 0 <;> simp [c] at h1 ⊢
    have fq : finB q = true := by have := fin_inf hn; rw [h2] at this; simpa using this.symm
    refine (div_exact a b q m w ha hb hq hr hm f1.1 f1.2 fq z1 z2 h3 hL).mono ?_
    rintro e w' ⟨rfl, hbw⟩
    refine ⟨?_, hbw⟩
    unfold divX
    rw [if_neg h1, if_neg (by rw [h2]; decide)]
  · have hpp : (plB a && (plB b && plB q)) = true → plB a = true ∧ plB b = true ∧ plB q = true := by
      intro h
      simpa using h
    refine (div_easy a b q m (exS a b q) w ha hb hq hr hn hm (fun h => ?_) ?_).mono ?_
    · obtain ⟨p1, p2, p3⟩ := hpp h
      have g1 := plB_parts p1
      obtain ⟨r, hr1, _, _⟩ := fma_ex hq g1.1 (plB_parts p2).1 (plB_parts p3).1 hz hr g1.2.1 g1.2.2
      exact ⟨r, hr1⟩
    · by_cases c1 : (finB a && finB b) = false ∨ feq a 0 = true ∨ feq b 0 = true
      · rcases c1 with c | c | c
        · exact .inl c
        · exact .inr (.inl c)
        · exact .inr (.inr (.inl c))
      · right; right; right
        cases c2 : infB q
        · left
          cases c3 : (plB a && (plB b && plB q))
          · exact absurd ⟨c1, c2, c3⟩ hx
          · rfl
        · right; rfl
    · rintro e w' ⟨rfl, hbw⟩
      refine ⟨?_, hbw⟩
      congr 2
      unfold divF divX
      by_cases c1 : (finB a && finB b) = false ∨ feq a 0 = true ∨ feq b 0 = true
      · rw [if_pos c1, if_pos c1]
      · rw [if_neg c1, if_neg c1]
        by_cases c2 : (plB a && (plB b && plB q)) = true
        · obtain ⟨p1, p2, p3⟩ := hpp c2
          have g1 := plB_parts p1
          obtain ⟨r, hr1, _, hr3⟩ := fma_ex hq g1.1 (plB_parts p2).1 (plB_parts p3).1 hz hr g1.2.1 g1.2.2
          have hfr : fmaF (negF q) b a = r := by unfold fmaF; rw [hr1]; rfl
          rw [if_pos c2, hfr, hr3, if_neg]
          rw [fin_inf hn, (plB_parts p3).1]
          decide
        · rw [if_neg c2]

end Go.Proofs.YtkfhbnfoiicioaaGreatDoor

/- girderref03: Finite, up, down, side, great, sign, middle, nought: the walks (printed by gen_q7.py) -/
namespace Go.Proofs.YtkfhbnfoiicioaaGreatDoor
open Ieee Go.RowKit Go.Sort

theorem fin03_any (u : Nat) (w : World) : Calls Tryz.prog 71 #[.float .f64 u] w fun e w' => e = .returned (.bool (finB u)) ∧ Below w.heap.size w w' := by
  obtain ⟨b, n, hrun, hb⟩ := sub_self 22 u w
  obtain ⟨f, hf⟩ : ∃ f, f = finB u := ⟨_, rfl⟩
  rw [← hf] at hb ⊢
  have HB : Hid (Below w.heap.size w (w.drewN n)) := Lib.hid (below_drewN (Below.refl _ _) n)
  clear hf
  go_enter Tryz.func71, Tryz.ntmps71
  go_wp2_with fail
  go_ret
  exact ⟨rfl, HB.out⟩
theorem further_any (u : Nat) (w : World) (hu : u + 1 < 18446744073709551616) : Calls Tryz.prog 106 #[.float .f64 u] w fun e w' => e = .returned (.float .f64 (u + 1)) ∧ w = w' := by
  have hd := run_f64bits u
  have hd2 := run_f64from ((u + 1 : Nat) : Int)
  have e1 : IntKind.u64.wrap ((u : Int) + 1) = ((u + 1 : Nat) : Int) := by rw [IntKind.wrap_u64]; omega
  go_enter Tryz.func106, Tryz.ntmps106
  go_wp2_with fail
  go_ret
  exact ⟨rfl, rfl⟩
theorem nearer_any (u : Nat) (w : World) (h0 : 0 < u) (hu : u < 18446744073709551616) : Calls Tryz.prog 107 #[.float .f64 u] w fun e w' => e = .returned (.float .f64 (u - 1)) ∧ w = w' := by
  have hd := run_f64bits u
  have hd2 := run_f64from ((u - 1 : Nat) : Int)
  have e1 : IntKind.u64.wrap ((u : Int) - 1) = ((u - 1 : Nat) : Int) := by rw [IntKind.wrap_u64]; omega
  go_enter Tryz.func107, Tryz.ntmps107
  go_wp2_with fail
  go_ret
  exact ⟨rfl, rfl⟩
theorem up03_any (u : Nat) (w : World) (hu : u < 18446744073709551616) (hn : fnan u = false) : Calls Tryz.prog 91 #[.float .f64 u] w fun e w' => e = .returned (.float .f64 (upF u)) ∧ w = w' := by
  obtain ⟨s1, s2⟩ := sgn_word hu hn
  have hz := feq_zero hu
  have hd2 := run_f64from 1
  obtain ⟨r, hr⟩ : ∃ r, r = upF u := ⟨_, rfl⟩
  rw [← hr]
  unfold upF at hr
  cases h0 : feq u 0
  · rw [h0] at hr hz
    replace hz := of_decide_eq_false hz.symm
    cases h1 : fgt u 0
    · rw [h1, if_neg (by decide), if_neg (by decide)] at hr
      have I2 := Lib.hid (fun w => nearer_any u w (by omega) hu)
      rw [← hr] at I2
      unfold feq at h0
      unfold fgt at h1
      clear s1 s2 hz hr
      go_enter Tryz.func91, Tryz.ntmps91
      go_wp2_with fail
      refine (I2.out _).mono ?_
      rintro e w1 ⟨rfl, rfl⟩
      go_wp2_with fail
      go_ret
      exact ⟨rfl, rfl⟩
    · have hlt := (s1.1 h1).1
      rw [h1, if_neg (by decide), if_pos rfl] at hr
      have I2 := Lib.hid (fun w => further_any u w (by omega))
      rw [← hr] at I2
      unfold feq at h0
      unfold fgt at h1
      clear s1 s2 hz hr
      go_enter Tryz.func91, Tryz.ntmps91
      go_wp2_with fail
      refine (I2.out _).mono ?_
      rintro e w1 ⟨rfl, rfl⟩
      go_wp2_with fail
      go_ret
      exact ⟨rfl, rfl⟩
  · rw [h0, if_pos rfl] at hr
    unfold feq at h0
    clear s1 s2 hz
    subst hr
    go_enter Tryz.func91, Tryz.ntmps91
    go_wp2_with fail
    go_ret
    exact ⟨rfl, rfl⟩
theorem down03_any (u : Nat) (w : World) (hu : u < 18446744073709551616) (hn : fnan u = false) : Calls Tryz.prog 90 #[.float .f64 u] w fun e w' => e = .returned (.float .f64 (downF u)) ∧ w = w' := by
  obtain ⟨n1, n2⟩ := negF_num hu hn
  have I1 := Lib.hid (fun w => up03_any (negF u) w n2 n1)
  have hup : upF (negF u) < 18446744073709551616 := by
    have := num_le n1
    unfold upF
    split
    · decide
    · split <;> omega
  have r1 := fun w => run_neg hu w
  have r2 := fun w => run_neg hup w
  obtain ⟨r, hr⟩ : ∃ r, r = downF u := ⟨_, rfl⟩
  rw [← hr]
  unfold downF at hr
  rw [← hr] at r2
  generalize negF u = v at *
  generalize upF v = x at *
  clear hup hr n1 n2
  go_enter Tryz.func90, Tryz.ntmps90
  go_wp2_with fail
  refine (I1.out _).mono ?_
  rintro e w1 ⟨rfl, rfl⟩
  go_wp2_with fail
  go_ret
  exact ⟨rfl, rfl⟩
theorem sign03_any (u : Nat) (w : World) : Calls Tryz.prog 75 #[.float .f64 u] w fun e w' => e = .returned (.int .i64 (sgF u)) ∧ w = w' := by
  have hx : fgt u 0 = true → flt u 0 = false := fun h => by
    cases h2 : flt u 0
    · rfl
    · have a := (fgt_iff u 0).1 h
      have b := (flt_iff u 0).1 h2
      omega
  unfold sgF
  cases h1 : fgt u 0
  · cases h2 : flt u 0
    · unfold fgt at h1
      unfold flt at h2
      clear hx
      rw [if_neg (by decide), if_neg (by decide)]
      go_enter Tryz.func75, Tryz.ntmps75
      go_wp2_with fail
      go_ret
      exact ⟨rfl, rfl⟩
    · unfold fgt at h1
      unfold flt at h2
      clear hx
      rw [if_neg (by decide), if_pos rfl]
      go_enter Tryz.func75, Tryz.ntmps75
      go_wp2_with fail
      go_ret
      exact ⟨rfl, rfl⟩
  · have h2 := hx h1
    unfold fgt at h1
    unfold flt at h2
    clear hx
    rw [if_pos rfl]
    go_enter Tryz.func75, Tryz.ntmps75
    go_wp2_with fail
    go_ret
    exact ⟨rfl, rfl⟩
/-- is its size from 2^-900 to 2^900? -/
def midB (u : Nat) : Bool := (FloatKind.f64.format.order (absF u) 553942754166571008 == some .gt || FloatKind.f64.format.order (absF u) 553942754166571008 == some .eq) && fle (absF u) 8660422083433463808
theorem middle_any (u : Nat) (w : World) (hu : u < 18446744073709551616) : Calls Tryz.prog 86 #[.float .f64 u] w fun e w' => e = .returned (.bool (midB u)) ∧ w = w' := by
  have I1 := Lib.hid (fun w => abs_any u w hu)
  unfold midB
  generalize absF u = v at *
  obtain ⟨b1, h1⟩ : ∃ b, (FloatKind.f64.format.order v 553942754166571008 == some .gt || FloatKind.f64.format.order v 553942754166571008 == some .eq) = b := ⟨_, rfl⟩
  obtain ⟨b2, h2⟩ : ∃ b, fle v 8660422083433463808 = b := ⟨_, rfl⟩
  rw [h1, h2]
  unfold fle at h2
  cases b1
  · skip
    go_enter Tryz.func86, Tryz.ntmps86
    go_wp2_with fail
    refine (I1.out _).mono ?_
    rintro e w1 ⟨rfl, rfl⟩
    go_wp2_with fail
    go_ret
    exact ⟨rfl, rfl⟩
  · cases b2
    · skip
      go_enter Tryz.func86, Tryz.ntmps86
      go_wp2_with fail
      refine (I1.out _).mono ?_
      rintro e w1 ⟨rfl, rfl⟩
      go_wp2_with fail
      go_ret
      exact ⟨rfl, rfl⟩
    · skip
      go_enter Tryz.func86, Tryz.ntmps86
      go_wp2_with fail
      refine (I1.out _).mono ?_
      rintro e w1 ⟨rfl, rfl⟩
      go_wp2_with fail
      go_ret
      exact ⟨rfl, rfl⟩
theorem midB_parts {u : Nat} (hu : u < 18446744073709551616) (h : midB u = true) : finB u = true ∧ 4503599627370496 ≤ u % 9223372036854775808 ∧ -1020 ≤ plc u := by
  unfold midB at h
  rw [Bool.and_eq_true, Bool.or_eq_true] at h
  obtain ⟨h1, h2⟩ := h
  have g1 : fnan (absF u) = false ∧ fk 553942754166571008 ≤ fk (absF u) := by
    rcases h1 with h | h
    · have := (fgt_iff _ _).1 h; exact ⟨this.1, by omega⟩
    · have := (feq_iff _ _).1 h; exact ⟨this.1, by omega⟩
  have g2 := ((fle_iff _ _).1 h2).2.2
  have hg : absF u = u % 9223372036854775808 := rfl
  obtain ⟨g, hgg⟩ : ∃ g, g = absF u := ⟨_, rfl⟩
  rw [← hgg] at g1 g2 hg
  have hgl : g % 9223372036854775808 = g := by omega
  have hle := num_le g1.1
  rw [hgl] at hle
  have hfin : g < 9218868437227405312 := by
    rcases Nat.lt_or_eq_of_le hle with h | h
    · exact h
    · exfalso
      have hf : finB g = false := by unfold finB; exact decide_eq_false (by omega)
      have hc := (fk_fin (u := 8660422083433463808) (by decide)).2.2
      have hpos : 0 ≤ fk 553942754166571008 := by rw [fk_vr (by decide)]; omega
      rcases fk_inf hf with h3 | h3
      · rw [g1.1] at h3; cases h3
      · have hN := bigN_pos
        rcases h3.2 with h4 | h4
        · rw [h4] at g2; omega
        · rw [h4] at g1; omega
  have hlo : 553942754166571008 ≤ g := by
    rcases Nat.lt_or_ge g 553942754166571008 with h | h
    · exfalso
      have h5 := Vr_lt h
      have h6 := g1.2
      rw [fk_vr hfin, fk_vr (by decide)] at h6
      omega
    · exact h
  refine ⟨by unfold finB; exact decide_eq_true (by omega), by omega, ?_⟩
  unfold plc
  omega
set_option maxRecDepth 100000 in
theorem great_any (s : Nat) (m : Int) (w : World) (hs : s < 18446744073709551616) (hm : m = 1 ∨ m = 2) (hx : ¬ (fgt s 0 = true ∧ flt s 0 = true)) : Calls Tryz.prog 72 #[.float .f64 s, .int .i8 m] w fun e w' => e = .returned (.float .f64 (greatF s m)) ∧ w = w' := by
  have I2 := Lib.hid (fun w => copysign_any 9218868437227405311 s w (by decide) hs)
  rw [maxF_cs] at I2
  unfold greatF
  cases h1 : fgt s 0 <;> cases h2 : flt s 0
  · unfold fgt at h1
    unfold flt at h2
    clear hx
    rcases hm with rfl | rfl
    · rw [if_neg (by simp)]
      go_enter Tryz.func72, Tryz.ntmps72
      go_wp2_with fail
      go_ret
      exact ⟨rfl, rfl⟩
    · rw [if_neg (by simp)]
      go_enter Tryz.func72, Tryz.ntmps72
      go_wp2_with fail
      go_ret
      exact ⟨rfl, rfl⟩
  · unfold fgt at h1
    unfold flt at h2
    clear hx
    rcases hm with rfl | rfl
    · rw [if_neg (by simp)]
      go_enter Tryz.func72, Tryz.ntmps72
      go_wp2_with fail
      go_ret
      exact ⟨rfl, rfl⟩
    · rw [if_pos (by simp)]
      go_enter Tryz.func72, Tryz.ntmps72
      go_wp2_with fail
      refine (I2.out _).mono ?_
      rintro e w1 ⟨rfl, rfl⟩
      go_wp2_with fail
      go_ret
      exact ⟨rfl, rfl⟩
  · unfold fgt at h1
    unfold flt at h2
    clear hx
    rcases hm with rfl | rfl
    · rw [if_pos (by simp)]
      go_enter Tryz.func72, Tryz.ntmps72
      go_wp2_with fail
      refine (I2.out _).mono ?_
      rintro e w1 ⟨rfl, rfl⟩
      go_wp2_with fail
      go_ret
      exact ⟨rfl, rfl⟩
    · rw [if_neg (by simp)]
      go_enter Tryz.func72, Tryz.ntmps72
      go_wp2_with fail
      go_ret
      exact ⟨rfl, rfl⟩
  · exact absurd ⟨h1, h2⟩ hx
set_option maxRecDepth 100000 in
set_option maxHeartbeats 4000000 in
theorem side_any (s : Nat) (e m : Int) (w : World) (hs : s < 18446744073709551616) (hn : fnan s = false) (hm : m = 1 ∨ m = 2) : Calls Tryz.prog 74 #[.float .f64 s, .int .i64 e, .int .i8 m] w fun r w' => r = .returned (.float .f64 (sideF s e m)) ∧ w = w' := by
  have I1 := Lib.hid (fun w => signbit_any s w hs)
  have I2 := Lib.hid (fun w => up03_any s w hs hn)
  have I3 := Lib.hid (fun w => down03_any s w hs hn)
  obtain ⟨d1, hd1⟩ : ∃ d, decide (e < 0) = d := ⟨_, rfl⟩
  obtain ⟨d2, hd2⟩ : ∃ d, decide (0 < e) = d := ⟨_, rfl⟩
  obtain ⟨r, hr⟩ : ∃ r, r = sideF s e m := ⟨_, rfl⟩
  rw [← hr]
  have hr1 : (d1 = true ∧ m = 1 → r = downF s) ∧ (d1 = false → d2 = true ∧ m = 2 → r = upF s) ∧ (¬ (d1 = true ∧ m = 1) → ¬ (d2 = true ∧ m = 2) → r = s) := by
    rw [hr, ← hd1, ← hd2]
    unfold sideF
    simp only [decide_eq_true_eq, decide_eq_false_iff_not]
    refine ⟨fun h => if_pos h, fun h1 h2 => ?_, fun h1 h2 => ?_⟩
    · rw [if_neg (by omega), if_pos h2]
    · rw [if_neg h1, if_neg h2]
  have hdd : ¬ (d1 = true ∧ d2 = true) := by rw [← hd1, ← hd2]; simp only [decide_eq_true_eq]; omega
  have HR := Lib.hid hr1
  have HDD := Lib.hid hdd
  clear hr hr1 hdd hn
  rcases hm with rfl | rfl
  · cases d1 <;> cases d2
    · have HE := Lib.hid (HR.out.2.2 (by decide) (by decide))
      go_enter Tryz.func74, Tryz.ntmps74
      go_wp2_with fail
      refine (I1.out _).mono ?_
      rintro e w1 ⟨rfl, rfl⟩
      go_wp2_with fail
      go_ret
      exact ⟨by rw [HE.out]; rfl, rfl⟩
    · have HE := Lib.hid (HR.out.2.2 (by decide) (by decide))
      go_enter Tryz.func74, Tryz.ntmps74
      go_wp2_with fail
      refine (I1.out _).mono ?_
      rintro e w1 ⟨rfl, rfl⟩
      go_wp2_with fail
      go_ret
      exact ⟨by rw [HE.out]; rfl, rfl⟩
    · have HE := Lib.hid (HR.out.1 ⟨rfl, rfl⟩)
      go_enter Tryz.func74, Tryz.ntmps74
      go_wp2_with fail
      refine (I1.out _).mono ?_
      rintro e w1 ⟨rfl, rfl⟩
      go_wp2_with fail
      refine (I3.out _).mono ?_
      rintro e w1 ⟨rfl, rfl⟩
      go_wp2_with fail
      go_ret
      exact ⟨by rw [HE.out]; rfl, rfl⟩
    · exact absurd ⟨rfl, rfl⟩ HDD.out
  · cases d1 <;> cases d2
    · have HE := Lib.hid (HR.out.2.2 (by decide) (by decide))
      go_enter Tryz.func74, Tryz.ntmps74
      go_wp2_with fail
      refine (I1.out _).mono ?_
      rintro e w1 ⟨rfl, rfl⟩
      go_wp2_with fail
      go_ret
      exact ⟨by rw [HE.out]; rfl, rfl⟩
    · have HE := Lib.hid (HR.out.2.1 rfl ⟨rfl, rfl⟩)
      go_enter Tryz.func74, Tryz.ntmps74
      go_wp2_with fail
      refine (I1.out _).mono ?_
      rintro e w1 ⟨rfl, rfl⟩
      go_wp2_with fail
      refine (I2.out _).mono ?_
      rintro e w1 ⟨rfl, rfl⟩
      go_wp2_with fail
      go_ret
      exact ⟨by rw [HE.out]; rfl, rfl⟩
    · have HE := Lib.hid (HR.out.2.2 (by decide) (by decide))
      go_enter Tryz.func74, Tryz.ntmps74
      go_wp2_with fail
      refine (I1.out _).mono ?_
      rintro e w1 ⟨rfl, rfl⟩
      go_wp2_with fail
      go_ret
      exact ⟨by rw [HE.out]; rfl, rfl⟩
    · exact absurd ⟨rfl, rfl⟩ HDD.out
theorem nought_any (z n : Bool) (b : Nat) (m : Int) (w : World) (hb : b < 18446744073709551616) (hm : m = 1 ∨ m = 2) : Calls Tryz.prog 73 #[.bool z, .bool n, .float .f64 b, .int .i8 m] w fun e w' => e = .returned (.float .f64 (noughtF z n b m)) ∧ w = w' := by
  have I1 := Lib.hid (fun w => signbit_any b w hb)
  have I2 := Lib.hid (fun w => copysign_any 0 13830554455654793216 w (by decide) (by decide))
  rw [show absF 0 + (if sgbB 13830554455654793216 = true then 9223372036854775808 else 0) = 9223372036854775808 by decide] at I2
  unfold noughtF noneF
  generalize sgbB b = sb at I1 ⊢
  cases h0 : feq b 0
  · unfold feq at h0
    rw [if_neg (by simp)]
    cases z
    · rcases hm with rfl | rfl
      · skip
        rw [if_pos rfl]
        go_enter Tryz.func73, Tryz.ntmps73
        go_wp2_with fail
        refine (I2.out _).mono ?_
        rintro e w1 ⟨rfl, rfl⟩
        go_wp2_with fail
        go_ret
        exact ⟨rfl, rfl⟩
      · skip
        rw [if_neg (by decide)]
        go_enter Tryz.func73, Tryz.ntmps73
        go_wp2_with fail
        go_ret
        exact ⟨rfl, rfl⟩
    · rcases hm with rfl | rfl
      · skip
        rw [if_pos rfl]
        go_enter Tryz.func73, Tryz.ntmps73
        go_wp2_with fail
        refine (I2.out _).mono ?_
        rintro e w1 ⟨rfl, rfl⟩
        go_wp2_with fail
        go_ret
        exact ⟨rfl, rfl⟩
      · skip
        rw [if_neg (by decide)]
        go_enter Tryz.func73, Tryz.ntmps73
        go_wp2_with fail
        go_ret
        exact ⟨rfl, rfl⟩
  · unfold feq at h0
    cases z
    · rw [if_neg (by simp)]
      rcases hm with rfl | rfl
      · skip
        rw [if_pos rfl]
        go_enter Tryz.func73, Tryz.ntmps73
        go_wp2_with fail
        refine (I2.out _).mono ?_
        rintro e w1 ⟨rfl, rfl⟩
        go_wp2_with fail
        go_ret
        exact ⟨rfl, rfl⟩
      · skip
        rw [if_neg (by decide)]
        go_enter Tryz.func73, Tryz.ntmps73
        go_wp2_with fail
        go_ret
        exact ⟨rfl, rfl⟩
    · cases n <;> cases sb
      · rw [if_pos (by simp)]
        go_enter Tryz.func73, Tryz.ntmps73
        go_wp2_with fail
        refine (I1.out _).mono ?_
        rintro e w1 ⟨rfl, rfl⟩
        go_wp2_with fail
        go_ret
        exact ⟨rfl, rfl⟩
      · rw [if_neg (by simp)]
        rcases hm with rfl | rfl
        · skip
          rw [if_pos rfl]
          go_enter Tryz.func73, Tryz.ntmps73
          go_wp2_with fail
          refine (I1.out _).mono ?_
          rintro e w1 ⟨rfl, rfl⟩
          go_wp2_with fail
          refine (I2.out _).mono ?_
          rintro e w1 ⟨rfl, rfl⟩
          go_wp2_with fail
          go_ret
          exact ⟨rfl, rfl⟩
        · skip
          rw [if_neg (by decide)]
          go_enter Tryz.func73, Tryz.ntmps73
          go_wp2_with fail
          refine (I1.out _).mono ?_
          rintro e w1 ⟨rfl, rfl⟩
          go_wp2_with fail
          go_ret
          exact ⟨rfl, rfl⟩
      · rw [if_neg (by simp)]
        rcases hm with rfl | rfl
        · skip
          rw [if_pos rfl]
          go_enter Tryz.func73, Tryz.ntmps73
          go_wp2_with fail
          refine (I1.out _).mono ?_
          rintro e w1 ⟨rfl, rfl⟩
          go_wp2_with fail
          refine (I2.out _).mono ?_
          rintro e w1 ⟨rfl, rfl⟩
          go_wp2_with fail
          go_ret
          exact ⟨rfl, rfl⟩
        · skip
          rw [if_neg (by decide)]
          go_enter Tryz.func73, Tryz.ntmps73
          go_wp2_with fail
          refine (I1.out _).mono ?_
          rintro e w1 ⟨rfl, rfl⟩
          go_wp2_with fail
          go_ret
          exact ⟨rfl, rfl⟩
      · rw [if_pos (by simp)]
        go_enter Tryz.func73, Tryz.ntmps73
        go_wp2_with fail
        refine (I1.out _).mono ?_
        rintro e w1 ⟨rfl, rfl⟩
        go_wp2_with fail
        go_ret
        exact ⟨rfl, rfl⟩

end Go.Proofs.YtkfhbnfoiicioaaGreatDoor
