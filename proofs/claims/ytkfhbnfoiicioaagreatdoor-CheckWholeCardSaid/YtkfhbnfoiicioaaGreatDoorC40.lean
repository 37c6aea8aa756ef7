import Derived.Test.YtkfhbnfoiicioaaGreatDoorC25
import Derived.Test.YtkfhbnfoiicioaaGreatDoorC2b
/- verdicts that are lent and kept; girderref29.Whole; girderlaw29.CheckWhole: the walks -/
set_option linter.unusedSimpArgs false
set_option linter.unusedVariables false
namespace Go.Proofs.YtkfhbnfoiicioaaGreatDoor
open Go.RowKit Go.Sort

theorem info_partsV {i : Option TypeInfo} {z : Value} {s b : Nat} (h : i.map (fun i => (i.zero, i.size, i.bytes)) = some (some z, s, b)) : ∃ j, i = some j ∧ j.zero = some z ∧ j.size = s ∧ j.bytes = b := by
  cases i with
  | none => cases h
  | some j => simp only [Option.map_some, Option.some.injEq, Prod.mk.injEq] at h; exact ⟨j, rfl, h.1, h.2.1, h.2.2⟩
theorem info_vd : (Tryz.prog.info? 42).map (fun i => (i.zero, i.size, i.bytes)) = some (some (.agg #[.bool false, .int .i64 0, .int .i8 0, .float .f64 0, .float .f64 0, .int .i64 0]), 6, 48) := by kernel_rfl
theorem own_belowV {w w' : World} {base e size n : Nat} {v : Value} {vs : List Value} (h : w.ownsRow base e size v n vs) (hb : Below w.heap.size w w') : w'.ownsRow base e size v n vs :=
  h.kept (row := none) ⟨hb.os, hb.tape, hb.output, hb.size, fun k hk _ => hb.block k hk⟩ (by cases v.ownBlock <;> simp)
theorem vd_one (xs : List Vd) : ∀ u ∈ xs.flatMap Vd.cells, u.oneCell' = true := by
  intro u hu
  obtain ⟨x, _, hx⟩ := List.mem_flatMap.1 hu
  simp [Vd.cells] at hx
  rcases hx with rfl | rfl | rfl | rfl | rfl | rfl <;> rfl
abbrev Vd.val (x : Vd) : Value := .agg #[.bool x.joint, .int .i64 x.for_, .int .i8 x.is_, .float .f64 x.lo, .float .f64 x.hi, .int .i64 x.of_]
def markV (i : Int) : Vd := ⟨false, 8000024 + i, 0, 0, 0, 0⟩
def marksV : List Vd := (List.range 12).map fun i : Nat => markV i
theorem marksV_len : marksV.length = 12 := by simp [marksV]
theorem marksV_take (i : Nat) (h : i < 12) : marksV.take i ++ [markV i] = marksV.take (i + 1) := by
  have hl : i < marksV.length := by rw [marksV_len]; exact h
  rw [List.take_succ_eq_append_getElem hl]
  congr 1
  simp [marksV]
theorem mark_num (i : Int) (w : World) (h1 : 0 ≤ i) (h2 : i ≤ 100) : Calls Tryz.prog 47 #[.int .i64 1, .int .i64 i] w fun e w' => e = .returned (.int .i64 (8000024 + i)) ∧ w = w' := by
  have e1 : wrap64 (8000024 + i) = 8000024 + i := by unfold wrap64; omega
  go_enter Tryz.func47, Tryz.ntmps47
  go_wp2_with fail
  go_ret
  exact ⟨rfl, rfl⟩
theorem mark_vd (i : Int) (w : World) (h1 : 0 ≤ i) (h2 : i ≤ 100) : Calls Tryz.prog 27 #[.int .i64 1, .int .i64 i] w fun e w' => e = .returned (markV i).val ∧ Below w.heap.size w w' := by
  have I1 := Lib.hid (fun w => mark_num i w h1 h2)
  go_enter Tryz.func27, Tryz.ntmps27
  go_wp2_with (go_at_call 47; refine (I1.out _).mono ?_; rintro e w' ⟨rfl, rfl⟩)
  exact bodyPost_ret (by simp [results, Tryz.results27, go_sem]; simp [markV]) rfl ⟨rfl, below1 ..⟩

set_option maxRecDepth 100000 in
set_option maxHeartbeats 4000000 in
theorem lentV_any (A : Option Addr) (n c : Nat) (xs : List Vd) (S : Nat → Prop) (w : World) (hx : RdE Vd.cells 6 w S A n xs) (hS : ∀ b, S b → b < w.heap.size) (hn : n * 48 ≤ 140737488351232) :
    Calls Tryz.prog 9 #[.slice A n c] w fun e w' => ∃ g d, e = .returned (.slice (some ⟨g, 0, none⟩) n d) ∧ n + 12 ≤ d ∧ RdE Vd.cells 6 w' (fun b => b < w'.heap.size) (some ⟨g, 0, none⟩) (n + 12) (xs ++ marksV) ∧ Below w.heap.size w w' := by
  obtain ⟨i0, hi0, hz0, hz1, hz2⟩ := info_partsV info_vd
  have HX := Lib.hid hx
  have HS := Lib.hid hS
  clear hx hS
  go_enter Tryz.func9, Tryz.ntmps9
  go_wp2_with (first
    | (at_make; go_must (refine wpList_make_own _ rfl _ _ _ rfl w.heap.size 42 i0 _ 6 Tryz.underlying33 hi0 hz0 hz1 .i64 .i64 _ (n + 12) rfl rfl (by omega) (by rw [hz2]; omega) (by simp only [maxLen]; omega) (Nat.le_refl _) ?_); intro w1 hown1 hg1; have HO1 := Lib.hid hown1; have HG1 := Lib.hid (below_of_grown hg1 (fun g hg => by cases hg)); have hsz1 := hg1.size; clear hown1 hg1)
    | (at_builtin; go_must (refine wpList_append_rd _ rfl _ _ _ rfl w.heap.size 42 i0 _ 6 48 Tryz.underlying33 hi0 hz0 hz1 hz2 rfl (by omega) _ 0 [] rfl HO1.out S A n c (xs.flatMap Vd.cells) rfl (HX.out.keep (Keeps.below HG1.out HS.out)).rd (vd_one xs) (by simp only [maxLen]; omega) (by omega) (by omega) ?_); intro v2 w2 hown2 hg2 hat2))
  have hown3 : w2.ownsRow w.heap.size 42 6 v2 (n + 0) ((xs ++ marksV.take 0).flatMap Vd.cells) := by simpa using hown2
  have HO3 := Lib.hid hown3
  have HB3 := Lib.hid (HG1.out.trans (Below.grown (Below.refl w.heap.size _) hg2 (by omega) (fun g hg => (HO1.out.lt g hg).1)))
  clear hown2 hown3 hg2 hat2
  have I1 := Lib.hid mark_vd
  go_loopw [3, 4] (fun v i wr => ∃ k : Nat, k ≤ 12 ∧ i = .int .i64 k ∧ wr.ownsRow w.heap.size 42 6 v (n + k) ((xs ++ marksV.take k).flatMap Vd.cells) ∧ Below w.heap.size w wr) (fun _ i _ => 12 - (intOf i).toNat)
  case atStart => exact ⟨0, by omega, rfl, HO3.out, HB3.out⟩
  case round =>
    obtain ⟨k, hk, rfl, hown, hb⟩ := hrel
    have HO := Lib.hid hown
    have HB := Lib.hid hb
    clear hown hb
    by_cases hlt : k < 12
    · obtain ⟨A2, c2, rfl, hc2, _⟩ := own_slice HO.out
      go_wp2_with (first
        | (go_at_call 27; refine (I1.out _ _ (by omega) (by omega)).mono ?_; rintro e w4 ⟨rfl, hb4⟩; have HB4 := Lib.hid hb4; have hs4 := hb4.size; have ho4 := Lib.hid ((own_belowV HO.out hb4).alloc (.cells (markV k).cells.toArray 42)); clear hb4)
        | (at_builtin; go_must (refine wpList_append_rd _ rfl _ _ _ rfl w.heap.size 42 i0 _ 6 48 Tryz.underlying33 hi0 hz0 hz1 hz2 rfl (by omega) _ (n + k) _ rfl ho4.out (fun _ => True) (some ⟨w4.heap.size, 0, none⟩) 1 1 (markV k).cells rfl (rd_blk (blk_new ..) rfl trivial) (by simpa using vd_one [markV k]) (by simp only [maxLen]; omega) (by omega) (by have := HB.out.size; simp; omega) ?_); intro v5 w5 hown5 hg5 hat5))
      have hown6 : w5.ownsRow w.heap.size 42 6 v5 (n + (k + 1)) ((xs ++ marksV.take (k + 1)).flatMap Vd.cells) := by
        have h := hown5
        have e : (markV k).cells = [markV k].flatMap Vd.cells := rfl
        rw [e, ← List.flatMap_append, List.append_assoc, marksV_take k hlt] at h
        exact h
      have HO6 := Lib.hid hown6
      have HB6 := Lib.hid (HB.out.trans ((below_then HB4.out (below1 ..)).mono HB.out.size |>.trans (Below.grown (Below.refl w.heap.size _) hg5 (by have := HB.out.size; simp; omega) (fun g hg => (ho4.out.lt g hg).1))))
      clear hown5 hown6 hg5 hat5
      go_roundw
      case rel => exact ⟨k + 1, by omega, by go_num, HO6.out, HB6.out⟩
      case measure => simp [intOf]; omega
    · obtain rfl : k = 12 := by omega
      rw [List.take_of_length_le (by rw [marksV_len]; exact Nat.le_refl _)] at HO
      rcases HO.out.2 with ⟨_, h⟩ | ⟨g, cap, cur, rfl, _, _, hnc, _⟩
      · exfalso
        omega
      · go_wp2_with fail
        go_ret
        exact ⟨g, cap, rfl, hnc, (RdE.of_own Vd.clen (by omega) HO.out).imp (fun b h => h.2.1), HB.out⟩
theorem sameF_self (u : Nat) : sameF u u = true := by simp [sameF]
set_option maxRecDepth 100000 in
set_option maxHeartbeats 4000000 in
theorem sameV_self (x : Vd) (w : World) : Calls Tryz.prog 28 #[x.val, x.val] w fun e w' => e = .returned (.bool true) ∧ Below w.heap.size w w' := by
  obtain ⟨j, fo, is, lo, hi, o⟩ := x
  have hs := fun w => sameSpan_any ⟨lo, hi⟩ ⟨lo, hi⟩ w
  simp only [sameF_self, Bool.and_self] at hs
  have I1 := Lib.hid hs
  have e1 : (j == j) = true := by simp
  have e2 : (fo == fo) = true := by simp
  have e3 : (is == is) = true := by simp
  have e4 : (o == o) = true := by simp
  obtain ⟨w0, hw0⟩ : ∃ w0, w0 = (w.alloc (.cells #[.bool j, .int .i64 fo, .int .i8 is, .float .f64 lo, .float .f64 hi, .int .i64 o] 42)).alloc (.cells #[.bool j, .int .i64 fo, .int .i8 is, .float .f64 lo, .float .f64 hi, .int .i64 o] 42) := ⟨_, rfl⟩
  have hb0 : Below w.heap.size w w0 := by rw [hw0]; exact below2 ..
  have g1 : w0.heap[w.heap.size]? = some (.cells #[.bool j, .int .i64 fo, .int .i8 is, .float .f64 lo, .float .f64 hi, .int .i64 o] 42 (0, 0)) := by
    rw [hw0]; exact ((below1 (w.alloc _) _).block w.heap.size (by simp)).trans (blk_new w _ _)
  have g2 : w0.heap[w.heap.size + 1]? = some (.cells #[.bool j, .int .i64 fo, .int .i8 is, .float .f64 lo, .float .f64 hi, .int .i64 o] 42 (0, 0)) := by
    rw [hw0]
    have h := blk_new (w.alloc (.cells #[.bool j, .int .i64 fo, .int .i8 is, .float .f64 lo, .float .f64 hi, .int .i64 o] 42)) #[.bool j, .int .i64 fo, .int .i8 is, .float .f64 lo, .float .f64 hi, .int .i64 o] 42
    rwa [World.size_alloc] at h
  have z0 : w0.heap.size = w.heap.size + 2 := by rw [hw0]; simp
  have G1 := Lib.hid g1
  have G2 := Lib.hid g2
  have HB0 := Lib.hid hb0
  have HW0 := Lib.hid hw0
  clear hs hw0 hb0 g1 g2
  go_enter Tryz.func28, Tryz.ntmps28
  go_wp2_with fail
  rw [← HW0.out]
  refine (I1.out w0).mono ?_
  rintro e w1 ⟨rfl, hb1⟩
  have HB1 := Lib.hid (HB0.out.trans (hb1.mono HB0.out.size))
  have k1 := (blk_cs ((hb1.block w.heap.size (by omega)).trans G1.out)).1 5
  have k2 := (blk_cs ((hb1.block (w.heap.size + 1) (by omega)).trans G2.out)).1 5
  simp only [List.getElem?_toArray, List.getElem?_cons_zero, List.getElem?_cons_succ] at k1 k2
  clear hb1
  go_wp2_with fail
  go_ret
  exact ⟨rfl, HB1.out⟩

set_option maxRecDepth 100000 in
set_option maxHeartbeats 4000000 in
theorem keptV_any (A : Option Addr) (g n c d : Nat) (xs : List Vd) (S S' : Nat → Prop) (w : World) (hx : RdE Vd.cells 6 w S A n xs) (hy : RdE Vd.cells 6 w S' (some ⟨g, 0, none⟩) (n + 12) (xs ++ marksV)) (hd : n + 12 ≤ d) (hn : n ≤ 1000000000000000) :
    Calls Tryz.prog 12 #[.slice (some ⟨g, 0, none⟩) n d, .slice A n c] w fun e w' => e = .returned (.bool true) ∧ Below w.heap.size w w' := by
  have HX := Lib.hid hx
  have HY := Lib.hid hy
  have I1 := Lib.hid sameV_self
  have I2 := Lib.hid mark_vd
  clear hx hy
  go_enter Tryz.func12, Tryz.ntmps12
  go_wp2_with fail
  go_loopw [6] (fun i wr => ∃ k : Nat, k ≤ n + 12 ∧ i = .int .i64 k ∧ Below w.heap.size w wr) (fun i _ => n + 12 - (intOf i).toNat)
  case atStart => exact ⟨0, Nat.zero_le _, rfl, Below.refl _ _⟩
  case round =>
    obtain ⟨k, hk, rfl, hb⟩ := hrel
    by_cases hlt : k < n + 12
    · obtain ⟨y, ey⟩ := get_some HY.out.num hlt
      obtain ⟨b2, o2, e2, hb2, hdd⟩ := HY.out.elem Vd.clen ey (by omega)
      cases e2
      have l0 := cell_regrown (bat hb (hdd 0 _ rfl))
      have l1 := cell_regrown (bat hb (hdd 1 _ rfl))
      have l2 := cell_regrown (bat hb (hdd 2 _ rfl))
      have l3 := cell_regrown (bat hb (hdd 3 _ rfl))
      have l4 := cell_regrown (bat hb (hdd 4 _ rfl))
      have l5 := cell_regrown (bat hb (hdd 5 _ rfl))
      rw [Nat.add_zero] at l0
      simp only [Nat.zero_add] at l0 l1 l2 l3 l4 l5
      have cQ : ∀ d os, Calls Tryz.prog 28 #[y.val, y.val] (grow (redrawn wr d) os) fun e w'' => e = .returned (.bool true) ∧ ∃ p : Regrown, w'' = grow (redrawn wr p.d) p.os := fun d os => Calls.regrown_of (I1.out y _)
      by_cases hkn : k < n
      · have hkn2 : ¬ n ≤ k := by omega
        obtain ⟨x, ex⟩ := get_some HX.out.num hkn
        have exy : x = y := by
          rw [List.getElem?_append_left (by rw [HX.out.num]; exact hkn), ex] at ey
          injection ey
        subst exy
        obtain ⟨b1, o1, rfl, hb1, hc⟩ := HX.out.elem Vd.clen ex (by omega)
        have k0 := cell_regrown (bat hb (hc 0 _ rfl))
        have k1 := cell_regrown (bat hb (hc 1 _ rfl))
        have k2 := cell_regrown (bat hb (hc 2 _ rfl))
        have k3 := cell_regrown (bat hb (hc 3 _ rfl))
        have k4 := cell_regrown (bat hb (hc 4 _ rfl))
        have k5 := cell_regrown (bat hb (hc 5 _ rfl))
        rw [Nat.add_zero] at k0
        have HB := Lib.hid hb
        clear hb hc hdd ex ey
        go_wp2_with fail
        refine wp_region_quiet_below (by kernel_rfl) (by kernel_rfl) ?_
        repeat (first | go_big_quiet_step (exact cQ _ _) | quiet_step (exact cQ _ _))
        refine wpQuiet_nil ?_
        intro wq hwq
        have hbq := below_class hwq
        clear hwq
        have HQ := Lib.hid hbq
        clear hbq
        go_wp2_with fail
        go_roundw
        case rel => exact ⟨k + 1, by omega, by go_num, HB.out.trans (HQ.out.mono HB.out.size)⟩
        case measure => simp [intOf]; omega
      · have hkn2 : n ≤ k := by omega
        have ey2 : y = markV ((k : Int) - n) := by
          rw [List.getElem?_append_right (by rw [HX.out.num]; exact hkn2), HX.out.num] at ey
          simp only [marksV, List.getElem?_map, Option.map_eq_some_iff] at ey
          obtain ⟨i, hi, rfl⟩ := ey
          obtain ⟨h1, h2⟩ := List.getElem?_eq_some_iff.1 hi
          rw [List.getElem_range] at h2
          subst h2
          congr 1
          omega
        have cM : ∀ d os, Calls Tryz.prog 27 #[.int .i64 1, .int .i64 ((k : Int) - n)] (grow (redrawn wr d) os) fun e w'' => e = .returned y.val ∧ ∃ p : Regrown, w'' = grow (redrawn wr p.d) p.os := fun d os => Calls.regrown_of (by rw [ey2]; exact I2.out ((k : Int) - n) _ (by omega) (by omega))
        have HB := Lib.hid hb
        clear hb hdd ey ey2
        go_wp2_with fail
        refine wp_region_quiet_below (by kernel_rfl) (by kernel_rfl) ?_
        repeat (first | go_big_quiet_step (first | exact cQ _ _ | exact cM _ _) | quiet_step (first | exact cQ _ _ | exact cM _ _))
        refine wpQuiet_nil ?_
        intro wq hwq
        have hbq := below_class hwq
        clear hwq
        have HQ := Lib.hid hbq
        clear hbq
        go_wp2_with fail
        go_roundw
        case rel => exact ⟨k + 1, by omega, by go_num, HB.out.trans (HQ.out.mono HB.out.size)⟩
        case measure => simp [intOf]; omega
    · have HB := Lib.hid hb
      clear hb
      go_wp2_with fail
      go_ret
      exact ⟨rfl, HB.out⟩

end Go.Proofs.YtkfhbnfoiicioaaGreatDoor
