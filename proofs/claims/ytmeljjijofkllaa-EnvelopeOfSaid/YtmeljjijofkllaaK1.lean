import Derived.Test.YtmeljjijofkllaaJ1
/- lists that are lent, kept, written over: spans -/
namespace Go.Proofs.Ytmeljjijofkllaa
open Go.RowKit Go.Sort

def marksS (k : Int) : List Spn := (List.range 12).map fun i : Nat => markS k i
theorem marksS_len (k : Int) : (marksS k).length = 12 := by simp [marksS]
theorem marksS_take (k : Int) (i : Nat) (h : i < 12) : (marksS k).take i ++ [markS k i] = (marksS k).take (i + 1) := by
  have hl : i < (marksS k).length := by rw [marksS_len]; exact h
  rw [List.take_succ_eq_append_getElem hl]
  congr 1
  simp [marksS]

set_option maxHeartbeats 1000000 in
theorem lentSpns_any (A : Option Addr) (n c : Nat) (xs : List Spn) (S : Nat → Prop) (w : World) (hx : RdE Spn.cells 2 w S A n xs) (hS : ∀ b, S b → b < w.heap.size) (hn : n ≤ 1000000000000) :
    Calls Try.prog 26 #[.slice A n c] w fun e w' => ∃ g d, e = .returned (.slice (some ⟨g, 0, none⟩) n d) ∧ n + 12 ≤ d ∧ w'.ownsRow w.heap.size 43 2 (.slice (some ⟨g, 0, none⟩) (n + 12) d) (n + 12) ((xs ++ marksS 1).flatMap Spn.cells) ∧ Below w.heap.size w w' := by
  obtain ⟨i0, hi0, hz0, hz1, hz2⟩ := info_parts info_span
  have HX := Lib.hid hx
  have HS := Lib.hid hS
  clear hx hS
  go_enter Try.func26, Try.ntmps26
  go_wp2_with (first
    | (at_make; go_must (refine wpList_make_own _ rfl _ _ _ rfl w.heap.size 43 i0 _ 2 Try.underlying31 hi0 hz0 hz1 .i64 .i64 _ (n + 12) rfl rfl (by omega) (by rw [hz2]; omega) (by simp only [maxLen]; omega) (Nat.le_refl _) ?_); intro w1 hown1 hg1; have HO1 := Lib.hid hown1; have HG1 := Lib.hid (below_of_grown hg1 (fun g hg => by cases hg)); have hsz1 := hg1.size; clear hown1 hg1)
    | (at_builtin; go_must (refine wpList_append_rd _ rfl _ _ _ rfl w.heap.size 43 i0 _ 2 16 Try.underlying31 hi0 hz0 hz1 hz2 rfl (by omega) _ 0 [] rfl HO1.out S A n c (xs.flatMap Spn.cells) rfl (HX.out.keep (Keeps.below HG1.out HS.out)).rd (spn_one xs) (by simp only [maxLen]; omega) (by omega) (by omega) ?_); intro v2 w2 hown2 hg2 hat2))
  have hown3 : w2.ownsRow w.heap.size 43 2 v2 (n + 0) ((xs ++ (marksS 1).take 0).flatMap Spn.cells) := by simpa using hown2
  have HO3 := Lib.hid hown3
  have HB3 := Lib.hid (HG1.out.trans (Below.grown (Below.refl w.heap.size _) hg2 (by omega) (fun g hg => (HO1.out.lt g hg).1)))
  clear hown2 hown3 hg2 hat2
  have i1 := markSpan_any
  have I1 := Lib.hid i1
  clear i1
  go_loopw [3, 4] (fun v i wr => ∃ k : Nat, k ≤ 12 ∧ i = .int .i64 k ∧ wr.ownsRow w.heap.size 43 2 v (n + k) ((xs ++ (marksS 1).take k).flatMap Spn.cells) ∧ Below w.heap.size w wr) (fun _ i _ => 12 - (intOf i).toNat)
  case atStart => exact ⟨0, by omega, rfl, HO3.out, HB3.out⟩
  case round =>
    obtain ⟨k, hk, rfl, hown, hb⟩ := hrel
    have HO := Lib.hid hown
    have HB := Lib.hid hb
    clear hown hb
    by_cases hlt : k < 12
    · obtain ⟨A2, c2, rfl, hc2, _⟩ := own_slice HO.out
      go_wp2_with (first
        | (go_at_call 27; refine (I1.out _ _ _ (by omega) (by omega) (by omega) (by omega)).mono ?_; rintro e w4 ⟨rfl, hb4⟩; have HB4 := Lib.hid hb4; have hs4 := hb4.size; have ho4 := Lib.hid ((own_below HO.out hb4).alloc (.cells (markS 1 k).cells.toArray 43)); clear hb4)
        | (at_builtin; go_must (refine wpList_append_rd _ rfl _ _ _ rfl w.heap.size 43 i0 _ 2 16 Try.underlying31 hi0 hz0 hz1 hz2 rfl (by omega) _ (n + k) _ rfl ho4.out (fun _ => True) (some ⟨w4.heap.size, 0, none⟩) 1 1 (markS 1 k).cells rfl (rd_blk (blk_new ..) rfl trivial) (by simpa using spn_one [markS 1 k]) (by simp only [maxLen]; omega) (by omega) (by have := HB.out.size; simp; omega) ?_); intro v5 w5 hown5 hg5 hat5))
      have hown6 : w5.ownsRow w.heap.size 43 2 v5 (n + (k + 1)) ((xs ++ (marksS 1).take (k + 1)).flatMap Spn.cells) := by
        have h := hown5
        have e : (markS 1 k).cells = [markS 1 k].flatMap Spn.cells := rfl
        rw [e, ← List.flatMap_append, List.append_assoc, marksS_take 1 k hlt] at h
        exact h
      have HO6 := Lib.hid hown6
      have HB6 := Lib.hid (HB.out.trans ((below_then HB4.out (below1 ..)).mono HB.out.size |>.trans (Below.grown (Below.refl w.heap.size _) hg5 (by have := HB.out.size; simp; omega) (fun g hg => (ho4.out.lt g hg).1))))
      clear hown5 hown6 hg5 hat5
      go_roundw
      case rel => exact ⟨k + 1, by omega, by go_num, HO6.out, HB6.out⟩
      case measure => simp [intOf]; omega
    · obtain rfl : k = 12 := by omega
      rw [List.take_of_length_le (by rw [marksS_len]; exact Nat.le_refl _)] at HO
      rcases HO.out.2 with ⟨_, h⟩ | ⟨g, cap, cur, rfl, _, _, hnc, _⟩
      · exfalso
        have h2 := own_num Spn.clen (by omega) HO.out
        simp [marksS] at h2 h
      · go_wp2_with fail
        go_ret
        exact ⟨g, cap, rfl, hnc, HO.out, HB.out⟩

def sameSp (p : Spn × Spn) : Bool := sameF p.1.lo p.2.lo && sameF p.1.hi p.2.hi
theorem same_selfS (x : Spn) : sameSp (x, x) = true := by simp [sameSp, sameF]

theorem sameSpan_self (y : Spn) (w : World) : Calls Try.prog 37 #[y.val, y.val] w fun e w' => e = .returned (.bool true) ∧ Below w.heap.size w w' := by
  have h := sameSpan_any y y w
  rw [show (sameF y.lo y.lo && sameF y.hi y.hi) = true from same_selfS y] at h
  exact h

set_option maxHeartbeats 2000000 in
theorem keptSpns_any (A : Option Addr) (g o n c d : Nat) (xs : List Spn) (S S' : Nat → Prop) (w : World) (hx : RdE Spn.cells 2 w S A n xs) (hy : RdE Spn.cells 2 w S' (some ⟨g, o, none⟩) (n + 12) (xs ++ marksS 1)) (hd : n + 12 ≤ d) (hn : n ≤ 1000000000000) :
    Calls Try.prog 28 #[.slice (some ⟨g, o, none⟩) n d, .slice A n c] w fun e w' => e = .returned (.bool true) ∧ Below w.heap.size w w' := by
  have HX := Lib.hid hx
  have HY := Lib.hid hy
  have i1 := sameSpan_self
  have I1 := Lib.hid i1
  have i2 := markSpan_any
  have I2 := Lib.hid i2
  clear i1 i2 hx hy
  go_enter Try.func28, Try.ntmps28
  go_wp2_with fail
  go_loopw [6] (fun i wr => ∃ k : Nat, k ≤ n + 12 ∧ i = .int .i64 k ∧ Below w.heap.size w wr) (fun i _ => n + 12 - (intOf i).toNat)
  case atStart => exact ⟨0, Nat.zero_le _, rfl, Below.refl _ _⟩
  case round =>
    obtain ⟨k, hk, rfl, hb⟩ := hrel
    by_cases hlt : k < n + 12
    · obtain ⟨y, ey⟩ := get_some HY.out.num hlt
      obtain ⟨b2, o2, e2, hb2, hdd⟩ := HY.out.elem Spn.clen ey (by omega)
      cases e2
      have l0 := cell_regrown (bat hb (hdd 0 _ rfl))
      have l1 := cell_regrown (bat hb (hdd 1 _ rfl))
      rw [Nat.add_zero] at l0
      have cQ : ∀ d os, Calls Try.prog 37 #[y.val, y.val] (grow (redrawn wr d) os) fun e w'' => e = .returned (.bool true) ∧ ∃ p : Regrown, w'' = grow (redrawn wr p.d) p.os := fun d os => Calls.regrown_of (I1.out y _)
      by_cases hkn : k < n
      · have hkn2 : ¬ n ≤ k := by omega
        obtain ⟨x, ex⟩ := get_some HX.out.num hkn
        have exy : x = y := by
          rw [List.getElem?_append_left (by rw [HX.out.num]; exact hkn), ex] at ey
          injection ey
        subst exy
        obtain ⟨b1, o1, rfl, hb1, hc⟩ := HX.out.elem Spn.clen ex (by omega)
        have k0 := cell_regrown (bat hb (hc 0 _ rfl))
        have k1 := cell_regrown (bat hb (hc 1 _ rfl))
        rw [Nat.add_zero] at k0
        have HB := Lib.hid hb
        clear hb hc hdd ex ey
        go_wp2_with fail
        refine wp_region_quiet_below (by kernel_rfl) (by kernel_rfl) ?_
        repeat (first | go_big_quiet_step (exact cQ _ _) | quiet_step (exact cQ _ _))
        refine wpQuiet_nil ?_
        intro wq hwq
        have hbq := below_class hwq
        clear hwq
        have HQ := Lib.hid hbq
        clear hbq
        go_wp2_with fail
        go_roundw
        case rel => exact ⟨k + 1, by omega, by go_num, HB.out.trans (HQ.out.mono HB.out.size)⟩
        case measure => simp [intOf]; omega
      · have hkn2 : n ≤ k := by omega
        have ey2 : y = markS 1 ((k : Int) - n) := by
          rw [List.getElem?_append_right (by rw [HX.out.num]; exact hkn2), HX.out.num] at ey
          simp only [marksS, List.getElem?_map, Option.map_eq_some_iff] at ey
          obtain ⟨i, hi, rfl⟩ := ey
          obtain ⟨h1, h2⟩ := List.getElem?_eq_some_iff.1 hi
          rw [List.getElem_range] at h2
          subst h2
          congr 1
          omega
        have cM : ∀ d os, Calls Try.prog 27 #[.int .i64 1, .int .i64 ((k : Int) - n)] (grow (redrawn wr d) os) fun e w'' => e = .returned y.val ∧ ∃ p : Regrown, w'' = grow (redrawn wr p.d) p.os := fun d os => Calls.regrown_of (by rw [ey2]; exact I2.out 1 ((k : Int) - n) _ (by omega) (by omega) (by omega) (by omega))
        have HB := Lib.hid hb
        clear hb hdd ey ey2
        go_wp2_with fail
        refine wp_region_quiet_below (by kernel_rfl) (by kernel_rfl) ?_
        repeat (first | go_big_quiet_step (first | exact cQ _ _ | exact cM _ _) | quiet_step (first | exact cQ _ _ | exact cM _ _))
        refine wpQuiet_nil ?_
        intro wq hwq
        have hbq := below_class hwq
        clear hwq
        have HQ := Lib.hid hbq
        clear hbq
        go_wp2_with fail
        go_roundw
        case rel => exact ⟨k + 1, by omega, by go_num, HB.out.trans (HQ.out.mono HB.out.size)⟩
        case measure => simp [intOf]; omega
    · have HB := Lib.hid hb
      clear hb
      go_wp2_with fail
      go_ret
      exact ⟨rfl, HB.out⟩

theorem overSpns_any (base g n d : Nat) (xs : List Value) (w : World) (hx : w.ownsRow base 43 2 (.slice (some ⟨g, 0, none⟩) (n + 12) d) (n + 12) xs) (hd : n + 12 ≤ d) (hn : n ≤ 1000000000000) :
    Calls Try.prog 30 #[.slice (some ⟨g, 0, none⟩) n d] w fun e w' => e = .returned (.tuple #[]) ∧ w.grownBy w' (some g) := by
  have HX := Lib.hid hx
  have i2 := markSpan_any
  have I2 := Lib.hid i2
  clear i2 hx
  go_enter Try.func30, Try.ntmps30
  go_wp2_with fail
  go_loopw [3] (fun i wr => ∃ k : Nat, k ≤ n + 12 ∧ i = .int .i64 k ∧ w.grownBy wr (some g) ∧ ∃ ys, wr.ownsRow base 43 2 (.slice (some ⟨g, 0, none⟩) (n + 12) d) (n + 12) ys) (fun i _ => n + 12 - (intOf i).toNat)
  case atStart => exact ⟨0, Nat.zero_le _, rfl, World.grownBy.refl .., _, HX.out⟩
  case round =>
    obtain ⟨k, hk, rfl, hg, ys, hown⟩ := hrel
    by_cases hlt : k < n + 12
    · have hf0 := hown.frozenAt (k * 2)
      have hf1 := hown.frozenAt (k * 2 + 1)
      have hgl : g < wr.heap.size := (hown.lt g rfl).2
      have HO := Lib.hid hown
      have HG := Lib.hid hg
      have hlen := HO.out.1
      have c0 := get_some (xs := ys) (k := k * 2) hlen (by omega)
      have c1 := get_some (xs := ys) (k := k * 2 + 1) hlen (by omega)
      obtain ⟨y0, c0⟩ := c0
      obtain ⟨y1, c1⟩ := c1
      have e0 : wr.cell? ⟨g, k * 2, none⟩ = some y0 := by rw [HO.out.cellAt _ (by omega)]; exact c0
      have e1 : wr.cell? ⟨g, k * 2 + 1, none⟩ = some y1 := by rw [HO.out.cellAt _ (by omega)]; exact c1
      clear hown hg c0 c1
      go_wp2_with (go_at_call 27; refine (I2.out _ _ _ (by omega) (by omega) (by omega) (by omega)).mono ?_; rintro e w4 ⟨rfl, hb4⟩; have HB4 := Lib.hid hb4; have hs4 := hb4.size; have d0 := bat hb4 e0; have d1 := bat hb4 e1; have f0 := bfz hb4 hgl hf0; have f1 := bfz hb4 hgl hf1; clear hb4)
      have HO4 := Lib.hid (own_setAll (markS 2 k).cells (k * 2) w4 _ (own_below HO.out HB4.out))
      go_roundw
      case rel => exact ⟨k + 1, by omega, by go_num, (grown_then HG.out HB4.out).trans HO4.out.2, _, HO4.out.1⟩
      case measure => simp [intOf]; omega
    · have HG := Lib.hid hg
      clear hg hown
      go_wp2_with fail
      exact bodyPost_end (results_none rfl _ _ _) rfl ⟨rfl, HG.out⟩

end Go.Proofs.Ytmeljjijofkllaa
