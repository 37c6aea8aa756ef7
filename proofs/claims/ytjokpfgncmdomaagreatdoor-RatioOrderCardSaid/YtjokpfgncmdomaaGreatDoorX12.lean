import Derived.Test.YtjokpfgncmdomaaGreatDoorX11
set_option linter.unusedSimpArgs false
set_option linter.unusedVariables false
/- Rat: SetFrac, SetInt64, den, Num, Denom, Sign: the walks -/
namespace Go.Proofs.YtjokpfgncmdomaaGreatDoor
open Go.RowKit Go.Sort

abbrev newR : Obj := .cells #[.bool false, .slice none 0 0, .bool false, .slice none 0 0] 84

/-- a Rat object, whatever it holds: two Ints -/
def RatObj (w : World) (b : Nat) : Prop := ∃ A B : Int, IntAt w b 0 A ∧ IntAt w b 2 B
theorem RatAt.obj {w : World} {b : Nat} {q : Rat} (h : RatAt w b q) : RatObj w b := ⟨_, _, h.1, h.2⟩
theorem RatAt.below {w w' : World} {b : Nat} {q : Rat} (h : RatAt w b q) (hb : Below w.heap.size w w') : RatAt w' b q := ⟨h.1.below hb, h.2.below hb⟩
theorem RatAt.upb {w w' : World} {b b' : Nat} {q : Rat} (h : RatAt w b q) (hu : UpB w w' b') (hne : b ≠ b') : RatAt w' b q := ⟨h.1.upb hu hne, h.2.upb hu hne⟩
theorem RatObj.below {w w' : World} {b : Nat} (h : RatObj w b) (hb : Below w.heap.size w w') : RatObj w' b := by obtain ⟨A, B, h1, h2⟩ := h; exact ⟨A, B, h1.below hb, h2.below hb⟩
theorem new_rat (w : World) : RatObj (w.alloc newR) w.heap.size :=
  ⟨0, 0, IntAt.of_cells (new_cell w _ _ 0 _ rfl) (new_cell w _ _ 1 _ rfl) (by simp) rfl (Nat.le_refl _) (RdE.nil ..) (by simp [go_sem]) (by simp [go_sem]),
    IntAt.of_cells (new_cell w _ _ 2 _ rfl) (new_cell w _ _ 3 _ rfl) (by simp) rfl (Nat.le_refl _) (RdE.nil ..) (by simp [go_sem]) (by simp [go_sem])⟩

/-- four cells set, as SetFrac does -/
theorem frac_set {w : World} {b : Nat} {A B : Int} {s1 s2 : Bool} {d1 d2 : Option Addr} {n1 n2 c1 c2 : Nat} (ho : RatObj w b) (hb : (dig B.natAbs).length ≤ c2) (ha : (dig A.natAbs).length ≤ c1)
    (hn1 : n1 = (dig A.natAbs).length) (hn2 : n2 = (dig B.natAbs).length) (hs1 : s1 = decide (A < 0)) (hs2 : s2 = decide (B < 0)) (r1 : RdE Wc 1 w (fun d => d < w.heap.size) d1 n1 (dig A.natAbs)) (r2 : RdE Wc 1 w (fun d => d < w.heap.size) d2 n2 (dig B.natAbs)) :
    ∀ w', w' = (((w.setCell ⟨b, 0, none⟩ (.bool s1)).setCell ⟨b, 1, none⟩ (.slice d1 n1 c1)).setCell ⟨b, 2, none⟩ (.bool s2)).setCell ⟨b, 3, none⟩ (.slice d2 n2 c2) → IntAt w' b 0 A ∧ IntAt w' b 2 B ∧ UpB w w' b := by
  intro w' hw'
  obtain ⟨A0, B0, h1, h2⟩ := ho
  obtain ⟨dA, cA, a1, _, _⟩ := h1.abs
  obtain ⟨dB, cB, b1, _, _⟩ := h2.abs
  have a0 := h1.neg
  have b0 := h2.neg
  have b1' : w.cell? ⟨b, 3, none⟩ = some (.slice dB (dig B0.natAbs).length cB) := b1
  have fa := h1.fz
  have fb := h2.fz
  have fa1 : w.frozen? ⟨b, 1, none⟩ = false := h1.fz1
  have fb1 : w.frozen? ⟨b, 3, none⟩ = false := h2.fz1
  have a1' : w.cell? ⟨b, 1, none⟩ = some (.slice dA (dig A0.natAbs).length cA) := a1
  have hU : UpB w w' b := by
    subst hw'
    refine ⟨rfl, rfl, rfl, by simp, fun k hk hne => ?_, fun o k x hv => ?_⟩
    · rw [Below.heap_setCell _ _ _ _ hne, Below.heap_setCell _ _ _ _ hne, Below.heap_setCell _ _ _ _ hne, Below.heap_setCell _ _ _ _ hne]
    · have e0 : o ≠ 0 := by rintro rfl; rw [a0] at hv; cases hv
      have e1 : o ≠ 1 := by rintro rfl; rw [a1'] at hv; cases hv
      have e2 : o ≠ 2 := by rintro rfl; rw [b0] at hv; cases hv
      have e3 : o ≠ 3 := by rintro rfl; rw [b1'] at hv; cases hv
      simp [go_sem, e0, e1, e2, e3, hv]
  refine ⟨IntAt.of_cells (s := s1) (A := d1) (n := n1) (c := c1) ?_ ?_ hs1 hn1 (by omega) ((hU.words r1).imp fun d hd => Nat.lt_of_lt_of_le hd hU.size) ?_ ?_,
    IntAt.of_cells (s := s2) (A := d2) (n := n2) (c := c2) ?_ ?_ hs2 hn2 (by omega) ((hU.words r2).imp fun d hd => Nat.lt_of_lt_of_le hd hU.size) ?_ ?_, hU⟩
  all_goals subst hw'
  · simp [go_sem, a0]
  · simp [go_sem, a1']
  · simp [go_sem, fa]
  · simp [go_sem, fa1]
  · simp [go_sem, b0]
  · simp [go_sem, b1']
  · simp [go_sem, fb]
  · simp [go_sem, fb1]

set_option maxRecDepth 100000 in
set_option maxHeartbeats 4000000 in
theorem setFrac_rat (b b1 o1 b2 o2 : Nat) (A B : Int) (w : World) (hz : RatObj w b) (hA : IntAt w b1 o1 A) (hB : IntAt w b2 o2 B) (hB0 : B ≠ 0) (hlA : (dig A.natAbs).length ≤ 1000000) (hlB : (dig B.natAbs).length ≤ 1000000) :
    Calls Tryz.prog 90 #[.pointer (some ⟨b, 0, none⟩), .pointer (some ⟨b1, o1, none⟩), .pointer (some ⟨b2, o2, none⟩)] w fun e w' => e = .returned (.pointer (some ⟨b, 0, none⟩)) ∧ RatAt w' b (Rat.divInt A B) ∧ UpB w w' b := by
  have HZ := Lib.hid hz
  have HA := Lib.hid hA
  have HB := Lib.hid hB
  have hblt : b < w.heap.size := by obtain ⟨_, _, h, _⟩ := hz; exact h.lt
  obtain ⟨dB, nB, cB, sB, HNB, HSB, b0, b1', hcB, HRB⟩ := hB.open
  have hnB : 0 < nB := by rw [HNB.out]; exact List.length_pos_iff.2 (dig_pos (by omega))
  have eB : ((nB : Int) == 0) = false := by simp; omega
  clear hz hA hB HRB HSB hcB HNB
  go_enter Tryz.func90, Tryz.ntmps90
  go_wp2_with fail
  refine (set_int _ 0 b1 o1 0 A _ (new_intAt w) (HA.out.below (below1 w _)) (by omega)).mono ?_
  rintro e w1 ⟨rfl, hi1, hu1⟩
  have hb1 := newB hu1
  have z1 := hb1.size
  have HI1 := Lib.hid hi1
  have HB1 := Lib.hid hb1
  have HBB := Lib.hid (HB.out.below hb1)
  clear hi1 hu1 hb1
  go_wp2_with fail
  refine (set_int _ 0 b2 o2 0 B _ (new_intAt w1) (HBB.out.below (below1 w1 _)) (by omega)).mono ?_
  rintro e w2 ⟨rfl, hi2, hu2⟩
  have hb2 := newB hu2
  have z2 := hb2.size
  have HI2 := Lib.hid hi2
  have HI1b := Lib.hid (HI1.out.below hb2)
  have HB2 := Lib.hid (below_then HB1.out hb2)
  clear hi2 hu2 hb2
  obtain ⟨e1, n1, c1, s1, HN1, HS1, p0, p1, hc1, HR1⟩ := HI1b.out.open
  obtain ⟨e2, n2, c2, s2, HN2, HS2, q0, q1, hc2, HR2⟩ := HI2.out.open
  obtain ⟨A0, B0, hz1, hz2⟩ := HZ.out.below HB2.out
  obtain ⟨dA, cA, ra1, _, _⟩ := hz1.abs
  obtain ⟨dB', cB', rb1, _, _⟩ := hz2.abs
  have ra0 := hz1.neg
  have rb0 := hz2.neg
  have fa := hz1.fz
  have fb := hz2.fz
  have fa1 := hz1.fz1
  have fb1 := hz2.fz1
  have hn1 : ¬ b = w.heap.size := by omega
  have hn2 : ¬ b = w1.heap.size := by omega
  have hn3 : ¬ w.heap.size = b := by omega
  have hn4 : ¬ w1.heap.size = b := by omega
  clear hz1 hz2
  go_wp2_with fail
  obtain ⟨ka, kb, hu⟩ := frac_set (HZ.out.below HB2.out) (by rw [← HN2.out]; exact hc2) (by rw [← HN1.out]; exact hc1) HN1.out HN2.out HS1.out HS2.out (HR1.out.keep (fun _ _ => rfl)) (HR2.out.keep (fun _ _ => rfl)) _ rfl
  refine (norm_rat b A B _ ka kb hB0 hlA hlB).mono ?_
  rintro e w6 ⟨rfl, hr6, hu6⟩
  have HR6 := Lib.hid hr6
  have HU6 := Lib.hid ((UpB.of_below b HB2.out).trans (hu.trans hu6))
  clear hr6 hu6 ka kb hu
  go_wp2_with fail
  go_ret
  exact ⟨rfl, HR6.out, HU6.out⟩

set_option maxRecDepth 100000 in
set_option maxHeartbeats 4000000 in
theorem setI_rat (b : Nat) (x : Int) (w : World) (hz : RatObj w b) (hx : -9223372036854775808 ≤ x) (hx2 : x ≤ 9223372036854775807) :
    Calls Tryz.prog 61 #[.pointer (some ⟨b, 0, none⟩), .int .i64 x] w fun e w' => e = .returned (.pointer (some ⟨b, 0, none⟩)) ∧ RatAt w' b (Rat.divInt x 1) ∧ UpB w w' b := by
  have HZ := Lib.hid hz
  have hblt : b < w.heap.size := by obtain ⟨_, _, h, _⟩ := hz; exact h.lt
  have hxl : (dig x.natAbs).length ≤ 2 := dig_len_small (by omega)
  clear hz
  go_enter Tryz.func61, Tryz.ntmps61
  go_wp2_with fail
  refine (newInt_int x _ hx hx2).mono ?_
  rintro e w1 ⟨g1, rfl, hg1, hg1', hi1, hb1⟩
  have HI1 := Lib.hid hi1
  have HB1 := Lib.hid hb1
  clear hi1 hb1
  go_wp2_with fail
  refine (newInt_int 1 _ (by omega) (by omega)).mono ?_
  rintro e w2 ⟨g2, rfl, hg2, hg2', hi2, hb2⟩
  have HI2 := Lib.hid hi2
  have HI1b := Lib.hid (HI1.out.below hb2)
  have HB2 := Lib.hid (below_then HB1.out hb2)
  clear hi2 hb2
  go_wp2_with fail
  refine (setFrac_rat b g1 0 g2 0 x 1 _ (HZ.out.below HB2.out) HI1b.out HI2.out (by decide) (by omega) (by decide)).mono ?_
  rintro e w3 ⟨rfl, hr3, hu3⟩
  have HR3 := Lib.hid hr3
  have HU3 := Lib.hid ((UpB.of_below b HB2.out).trans hu3)
  clear hr3 hu3
  go_wp2_with fail
  go_ret
  exact ⟨rfl, HR3.out, HU3.out⟩

theorem num_rat (b : Nat) (w : World) : Calls Tryz.prog 121 #[.pointer (some ⟨b, 0, none⟩)] w fun e w' => e = .returned (.pointer (some ⟨b, 0, none⟩)) ∧ w = w' := by
  go_enter Tryz.func121, Tryz.ntmps121
  go_wp2_with fail
  go_ret
  exact ⟨rfl, rfl⟩

theorem den_rat (b : Nat) (q : Rat) (w : World) (hq : RatAt w b q) : Calls Tryz.prog 125 #[.pointer (some ⟨b, 0, none⟩)] w fun e w' => e = .returned (.pointer (some ⟨b, 2, none⟩)) ∧ w = w' := by
  obtain ⟨dB, nB, cB, sB, HNB, HSB, b0, b1, hcB, HRB⟩ := hq.2.open
  have hnB : 0 < nB := by rw [HNB.out]; exact List.length_pos_iff.2 (dig_pos (by have := q.den_nz; omega))
  have eB : ((nB : Int) == 0) = false := by simp; omega
  have b1' : w.cell? ⟨b, 3, none⟩ = some (.slice dB nB cB) := b1
  clear hq HRB HSB HNB b1
  go_enter Tryz.func125, Tryz.ntmps125
  go_wp2_with fail
  go_ret
  exact ⟨rfl, rfl⟩

set_option maxRecDepth 100000 in
set_option maxHeartbeats 4000000 in
theorem denom_rat (b : Nat) (q : Rat) (w : World) (hq : RatAt w b q) (hl : (dig q.den).length ≤ 1000000) : Calls Tryz.prog 122 #[.pointer (some ⟨b, 0, none⟩)] w fun e w' => ∃ g, e = .returned (.pointer (some ⟨g, 0, none⟩)) ∧ w.heap.size ≤ g ∧ g < w'.heap.size ∧ IntAt w' g 0 (q.den : Int) ∧ Below w.heap.size w w' := by
  have HQ := Lib.hid hq
  clear hq
  go_enter Tryz.func122, Tryz.ntmps122
  go_wp2_with fail
  refine (den_rat b q _ (HQ.out.below (below1 w _))).mono ?_
  rintro e w' ⟨rfl, rfl⟩
  go_wp2_with fail
  refine (set_int _ 0 b 2 0 (q.den : Int) _ (new_intAt w) (HQ.out.below (below1 w _)).2 (by rw [Int.natAbs_natCast]; omega)).mono ?_
  rintro e w1 ⟨rfl, hi1, hu1⟩
  have hb1 := newB hu1
  have HI1 := Lib.hid hi1
  have HB1 := Lib.hid hb1
  clear hi1 hu1 hb1
  go_wp2_with fail
  go_ret
  exact ⟨_, rfl, Nat.le_refl _, HI1.out.lt, HI1.out, HB1.out⟩

theorem sign_rat (b : Nat) (q : Rat) (w : World) (hq : RatAt w b q) : Calls Tryz.prog 68 #[.pointer (some ⟨b, 0, none⟩)] w fun e w' => e = .returned (.int .i64 (sgnI q.num)) ∧ w = w' := by
  have HQ := Lib.hid hq
  clear hq
  go_enter Tryz.func68, Tryz.ntmps68
  go_wp2_with fail
  refine (sign_int b 0 q.num _ HQ.out.1).mono ?_
  rintro e w' ⟨rfl, rfl⟩
  go_wp2_with fail
  go_ret
  exact ⟨rfl, rfl⟩

end Go.Proofs.YtjokpfgncmdomaaGreatDoor
