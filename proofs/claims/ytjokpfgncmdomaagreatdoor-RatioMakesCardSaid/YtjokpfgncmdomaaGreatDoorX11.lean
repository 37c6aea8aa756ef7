import Derived.Test.YtjokpfgncmdomaaGreatDoorX10
set_option linter.unusedSimpArgs false
set_option linter.unusedVariables false
/- Rat: SetFrac, SetInt64, den, Num, Denom, Sign: the walks -/
namespace Go.Proofs.YtjokpfgncmdomaaGreatDoor
open Go.RowKit Go.Sort

abbrev newR : Obj := .cells #[.bool false, .slice none 0 0, .bool false, .slice none 0 0] 84

/-- a Rat object, whatever it holds: two Ints -/
def RatObj (w : World) (b : Nat) : Prop := ∃ A B : Int, IntAt w b 0 A ∧ IntAt w b 2 B
theorem RatAt.obj {w : World} {b : Nat} {q : Rat} (h : RatAt w b q) : RatObj w b := ⟨_, _, h.1, h.2⟩
theorem RatAt.below {w w' : World} {b : Nat} {q : Rat} (h : RatAt w b q) (hb : Below w.heap.size w w') : RatAt w' b q := ⟨h.1.below hb, h.2.below hb⟩
theorem RatObj.below {w w' : World} {b : Nat} (h : RatObj w b) (hb : Below w.heap.size w w') : RatObj w' b := by obtain ⟨A, B, h1, h2⟩ := h; exact ⟨A, B, h1.below hb, h2.below hb⟩
theorem new_rat (w : World) : RatObj (w.alloc newR) w.heap.size :=
  ⟨0, 0, IntAt.of_cells (new_cell w _ _ 0 _ rfl) (new_cell w _ _ 1 _ rfl) (by simp) rfl (Nat.le_refl _) (RdE.nil ..) (by simp [go_sem]) (by simp [go_sem]),
    IntAt.of_cells (new_cell w _ _ 2 _ rfl) (new_cell w _ _ 3 _ rfl) (by simp) rfl (Nat.le_refl _) (RdE.nil ..) (by simp [go_sem]) (by simp [go_sem])⟩

/-- four cells set, as SetFrac does -/
theorem frac_set {w : World} {b : Nat} {A B : Int} {s1 s2 : Bool} {d1 d2 : Option Addr} {n1 n2 c1 c2 : Nat} (ho : RatObj w b) (hb : (dig B.natAbs).length ≤ c2) (ha : (dig A.natAbs).length ≤ c1)
    (hn1 : n1 = (dig A.natAbs).length) (hn2 : n2 = (dig B.natAbs).length) (hs1 : s1 = decide (A < 0)) (hs2 : s2 = decide (B < 0)) (r1 : RdE Wc 1 w (fun d => d < w.heap.size) d1 n1 (dig A.natAbs)) (r2 : RdE Wc 1 w (fun d => d < w.heap.size) d2 n2 (dig B.natAbs)) :
    ∀ w', w' = (((w.setCell ⟨b, 0, none⟩ (.bool s1)).setCell ⟨b, 1, none⟩ (.slice d1 n1 c1)).setCell ⟨b, 2, none⟩ (.bool s2)).setCell ⟨b, 3, none⟩ (.slice d2 n2 c2) → IntAt w' b 0 A ∧ IntAt w' b 2 B ∧ UpB w w' b := by
  intro w' hw'
  obtain ⟨A0, B0, h1, h2⟩ := ho
  obtain ⟨dA, cA, a1, _, _⟩ := h1.abs
  obtain ⟨dB, cB, b1, _, _⟩ := h2.abs
  have a0 := h1.neg
  have b0 := h2.neg
  have b1' : w.cell? ⟨b, 3, none⟩ = some (.slice dB (dig B0.natAbs).length cB) := b1
  have fa := h1.fz
  have fb := h2.fz
  have fa1 : w.frozen? ⟨b, 1, none⟩ = false := h1.fz1
  have fb1 : w.frozen? ⟨b, 3, none⟩ = false := h2.fz1
  have a1' : w.cell? ⟨b, 1, none⟩ = some (.slice dA (dig A0.natAbs).length cA) := a1
  have hU : UpB w w' b := by
    subst hw'
    refine ⟨rfl, rfl, rfl, by simp, fun k hk hne => ?_, fun o k x hv => ?_⟩
    · rw [Below.heap_setCell _ _ _ _ hne, Below.heap_setCell _ _ _ _ hne, Below.heap_setCell _ _ _ _ hne, Below.heap_setCell _ _ _ _ hne]
    · have e0 : o ≠ 0 := by rintro rfl; rw [a0] at hv; cases hv
      have e1 : o ≠ 1 := by rintro rfl; rw [a1'] at hv; cases hv
      have e2 : o ≠ 2 := by rintro rfl; rw [b0] at hv; cases hv
      have e3 : o ≠ 3 := by rintro rfl; rw [b1'] at hv; cases hv
      simp [go_sem, e0, e1, e2, e3, hv]
  refine ⟨IntAt.of_cells (s := s1) (A := d1) (n := n1) (c := c1) ?_ ?_ hs1 hn1 (by omega) ((hU.words r1).imp fun d hd => Nat.lt_of_lt_of_le hd hU.size) ?_ ?_,
    IntAt.of_cells (s := s2) (A := d2) (n := n2) (c := c2) ?_ ?_ hs2 hn2 (by omega) ((hU.words r2).imp fun d hd => Nat.lt_of_lt_of_le hd hU.size) ?_ ?_, hU⟩
  all_goals subst hw'
  · simp [go_sem, a0]
  · simp [go_sem, a1']
  · simp [go_sem, fa]
  · simp [go_sem, fa1]
  · simp [go_sem, b0]
  · simp [go_sem, b1']
  · simp [go_sem, fb]
  · simp [go_sem, fb1]

set_option maxRecDepth 100000 in
set_option maxHeartbeats 4000000 in
theorem setFrac_rat (b b1 o1 b2 o2 : Nat) (A B : Int) (w : World) (hz : RatObj w b) (hA : IntAt w b1 o1 A) (hB : IntAt w b2 o2 B) (hB0 : B ≠ 0) (hlA : (dig A.natAbs).length ≤ 1000000) (hlB : (dig B.natAbs).length ≤ 1000000) :
    Calls Tryz.prog 90 #[.pointer (some ⟨b, 0, none⟩), .pointer (some ⟨b1, o1, none⟩), .pointer (some ⟨b2, o2, none⟩)] w fun e w' => e = .returned (.pointer (some ⟨b, 0, none⟩)) ∧ RatAt w' b (Rat.divInt A B) ∧ UpB w w' b := by
  have HZ := Lib.hid hz
  have HA := Lib.hid hA
  have HB := Lib.hid hB
  have hblt : b < w.heap.size := by obtain ⟨_, _, h, _⟩ := hz; exact h.lt
  obtain ⟨dB, nB, cB, sB, HNB, HSB, b0, b1', hcB, HRB⟩ := hB.open
  have hnB : 0 < nB := by rw [HNB.out]; exact List.length_pos_iff.2 (dig_pos (by omega))
  have eB : ((nB : Int) == 0) = false := by simp; omega
  clear hz hA hB HRB HSB hcB HNB
  go_enter Tryz.func90, Tryz.ntmps90
  go_wp2_with fail
  refine (set_int _ 0 b1 o1 0 A _ (new_intAt w) (HA.out.below (below1 w _)) (by omega)).mono ?_
  rintro e w1 ⟨rfl, hi1, hu1⟩
  have hb1 := newB hu1
  have z1 := hb1.size
  have HI1 := Lib.hid hi1
  have HB1 := Lib.hid hb1
  have HBB := Lib.hid (HB.out.below hb1)
  clear hi1 hu1 hb1
  go_wp2_with fail
  refine (set_int _ 0 b2 o2 0 B _ (new_intAt w1) (HBB.out.below (below1 w1 _)) (by omega)).mono ?_
  rintro e w2 ⟨rfl, hi2, hu2⟩
  have hb2 := newB hu2
  have z2 := hb2.size
  have HI2 := Lib.hid hi2
  have HI1b := Lib.hid (HI1.out.below hb2)
  have HB2 := Lib.hid (below_then HB1.out hb2)
  clear hi2 hu2 hb2
  obtain ⟨e1, n1, c1, s1, HN1, HS1, p0, p1, hc1, HR1⟩ := HI1b.out.open
  obtain ⟨e2, n2, c2, s2, HN2, HS2, q0, q1, hc2, HR2⟩ := HI2.out.open
  obtain ⟨A0, B0, hz1, hz2⟩ := HZ.out.below HB2.out
  obtain ⟨dA, cA, ra1, _, _⟩ := hz1.abs
  obtain ⟨dB', cB', rb1, _, _⟩ := hz2.abs
  have ra0 := hz1.neg
  have rb0 := hz2.neg
  have fa := hz1.fz
  have fb := hz2.fz
  have fa1 := hz1.fz1
  have fb1 := hz2.fz1
  have hn1 : ¬ b = w.heap.size := by omega
  have hn2 : ¬ b = w1.heap.size := by omega
  have hn3 : ¬ w.heap.size = b := by omega
  have hn4 : ¬ w1.heap.size = b := by omega
  clear hz1 hz2
  go_wp2_with fail
  obtain ⟨ka, kb, hu⟩ := frac_set (HZ.out.below HB2.out) (by rw [← HN2.out]; exact hc2) (by rw [← HN1.out]; exact hc1) HN1.out HN2.out HS1.out HS2.out (HR1.out.keep (fun _ _ => rfl)) (HR2.out.keep (fun _ _ => rfl)) _ rfl
  refine (norm_rat b A B _ ka kb hB0 hlA hlB).mono ?_
  rintro e w6 ⟨rfl, hr6, hu6⟩
  have HR6 := Lib.hid hr6
  have HU6 := Lib.hid ((UpB.of_below b HB2.out).trans (hu.trans hu6))
  clear hr6 hu6 ka kb hu
  go_wp2_with fail
  go_ret
  exact ⟨rfl, HR6.out, HU6.out⟩

theorem num_rat (b : Nat) (w : World) : Calls Tryz.prog 121 #[.pointer (some ⟨b, 0, none⟩)] w fun e w' => e = .returned (.pointer (some ⟨b, 0, none⟩)) ∧ w = w' := by
  go_enter Tryz.func121, Tryz.ntmps121
  go_wp2_with fail
  go_ret
  exact ⟨rfl, rfl⟩

theorem den_rat (b : Nat) (q : Rat) (w : World) (hq : RatAt w b q) : Calls Tryz.prog 125 #[.pointer (some ⟨b, 0, none⟩)] w fun e w' => e = .returned (.pointer (some ⟨b, 2, none⟩)) ∧ w = w' := by
  obtain ⟨dB, nB, cB, sB, HNB, HSB, b0, b1, hcB, HRB⟩ := hq.2.open
  have hnB : 0 < nB := by rw [HNB.out]; exact List.length_pos_iff.2 (dig_pos (by have := q.den_nz; omega))
  have eB : ((nB : Int) == 0) = false := by simp; omega
  have b1' : w.cell? ⟨b, 3, none⟩ = some (.slice dB nB cB) := b1
  clear hq HRB HSB HNB b1
  go_enter Tryz.func125, Tryz.ntmps125
  go_wp2_with fail
  go_ret
  exact ⟨rfl, rfl⟩

set_option maxRecDepth 100000 in
set_option maxHeartbeats 4000000 in
theorem denom_rat (b : Nat) (q : Rat) (w : World) (hq : RatAt w b q) (hl : (dig q.den).length ≤ 1000000) : Calls Tryz.prog 122 #[.pointer (some ⟨b, 0, none⟩)] w fun e w' => ∃ g, e = .returned (.pointer (some ⟨g, 0, none⟩)) ∧ w.heap.size ≤ g ∧ g < w'.heap.size ∧ IntAt w' g 0 (q.den : Int) ∧ Below w.heap.size w w' := by
  have HQ := Lib.hid hq
  clear hq
  go_enter Tryz.func122, Tryz.ntmps122
  go_wp2_with fail
  refine (den_rat b q _ (HQ.out.below (below1 w _))).mono ?_
  rintro e w' ⟨rfl, rfl⟩
  go_wp2_with fail
  refine (set_int _ 0 b 2 0 (q.den : Int) _ (new_intAt w) (HQ.out.below (below1 w _)).2 (by rw [Int.natAbs_natCast]; omega)).mono ?_
  rintro e w1 ⟨rfl, hi1, hu1⟩
  have hb1 := newB hu1
  have HI1 := Lib.hid hi1
  have HB1 := Lib.hid hb1
  clear hi1 hu1 hb1
  go_wp2_with fail
  go_ret
  exact ⟨_, rfl, Nat.le_refl _, HI1.out.lt, HI1.out, HB1.out⟩

theorem sign_rat (b : Nat) (q : Rat) (w : World) (hq : RatAt w b q) : Calls Tryz.prog 68 #[.pointer (some ⟨b, 0, none⟩)] w fun e w' => e = .returned (.int .i64 (sgnI q.num)) ∧ w = w' := by
  have HQ := Lib.hid hq
  clear hq
  go_enter Tryz.func68, Tryz.ntmps68
  go_wp2_with fail
  refine (sign_int b 0 q.num _ HQ.out.1).mono ?_
  rintro e w' ⟨rfl, rfl⟩
  go_wp2_with fail
  go_ret
  exact ⟨rfl, rfl⟩

end Go.Proofs.YtjokpfgncmdomaaGreatDoor

/- Rat: Mul, Quo, Add, Sub: the walks (printed by wip/Int/gen_r3.py) -/
namespace Go.Proofs.YtjokpfgncmdomaaGreatDoor
open Go.RowKit Go.Sort
theorem mul_len (a b : Nat) : (dig (a * b)).length ≤ (dig a).length + (dig b).length := by
  apply dig_len_le
  rw [Nat.pow_add]
  exact Nat.mul_lt_mul_of_lt_of_lt (lt_dig_len a) (lt_dig_len b)

end Go.Proofs.YtjokpfgncmdomaaGreatDoor

/- Rat: Add, Sub: the walks (printed by wip/Int/gen_r4.py) -/
namespace Go.Proofs.YtjokpfgncmdomaaGreatDoor
open Go.RowKit Go.Sort

/-- what the memory is while the first statement of Add is worked off -/
def AddMF (w0 : World) (m1 m2 res : Int) (listed : Array Bool) (p0 p1 p8 : Nat) (w : World) : Prop :=
  Below w0.heap.size w0 w ∧ (lst listed 0 = true → w0.heap.size ≤ p0 ∧ IntAt w p0 0 (if lst listed 15 = true then res else 0)) ∧ (lst listed 1 = true → w0.heap.size ≤ p1 ∧ IntAt w p1 0 (if lst listed 7 = true then m1 else 0)) ∧ (lst listed 8 = true → w0.heap.size ≤ p8 ∧ IntAt w p8 0 (if lst listed 14 = true then m2 else 0)) ∧
    (lst listed 0 = true → lst listed 1 = true → p0 ≠ p1) ∧ (lst listed 0 = true → lst listed 8 = true → p0 ≠ p8) ∧ (lst listed 1 = true → lst listed 8 = true → p1 ≠ p8)
theorem AddMF.set {w0 : World} {m1 m2 res : Int} {listed : Array Bool} {p0 p1 p8 : Nat} {w : World} (h : AddMF w0 m1 m2 res listed p0 p1 p8 w) {i : Nat} (h0 : i ≠ 0) (h1 : i ≠ 1) (h7 : i ≠ 7) (h8 : i ≠ 8) (h14 : i ≠ 14) (h15 : i ≠ 15) : AddMF w0 m1 m2 res (listed.setIfInBounds i true) p0 p1 p8 w := by
  unfold AddMF at h ⊢
  rw [lst_ne h0, lst_ne h1, lst_ne h7, lst_ne h8, lst_ne h14, lst_ne h15]
  exact h
theorem add_len (a b : Int) : (dig (a + b).natAbs).length ≤ (dig a.natAbs).length + (dig b.natAbs).length + 1 := by
  apply dig_len_le
  have h1 := lt_dig_len a.natAbs
  have h2 := lt_dig_len b.natAbs
  have h3 : (a + b).natAbs ≤ a.natAbs + b.natAbs := by omega
  have h4 := Nat.pow_le_pow_right (show 0 < W32 by decide) (show (dig a.natAbs).length ≤ (dig a.natAbs).length + (dig b.natAbs).length by omega)
  have h5 := Nat.pow_le_pow_right (show 0 < W32 by decide) (show (dig b.natAbs).length ≤ (dig a.natAbs).length + (dig b.natAbs).length by omega)
  rw [Nat.pow_succ]
  generalize W32 ^ ((dig a.natAbs).length + (dig b.natAbs).length) = k at *
  have : k * 2 ≤ k * W32 := Nat.mul_le_mul_left _ (by decide)
  omega
set_option maxRecDepth 100000 in
def AddJ (b b1 b2 : Nat) (w0 : World) (m1 m2 res : Int) (listed : Array Bool) (a : Act) (w : World) : Prop := ∃ p0 p1 p8 : Nat, a = ⟨#[(.pointer (some ⟨b, 0, none⟩)), (.pointer (some ⟨b1, 0, none⟩)), (.pointer (some ⟨b2, 0, none⟩)), (undef), (undef), (undef), (.pointer none), ((iv (lst listed 16) (.pointer (some ⟨p0, 0, none⟩)) (undef))), ((iv (lst listed 0) (.pointer (some ⟨p0, 0, none⟩)) (undef))), ((iv (lst listed 1) (.pointer (some ⟨p1, 0, none⟩)) (undef))), ((iv (lst listed 2) (.pointer (some ⟨b1, 0, none⟩)) (undef))), ((iv (lst listed 3) (.pointer (some ⟨b1, 0, none⟩)) (undef))), ((iv (lst listed 4) (.pointer (some ⟨b1, 0, none⟩)) (undef))), ((iv (lst listed 5) (.pointer (some ⟨b2, 0, none⟩)) (undef))), ((iv (lst listed 6) (.pointer (some ⟨b2, 2, none⟩)) (undef))), ((iv (lst listed 7) (.pointer (some ⟨p1, 0, none⟩)) (undef))), ((iv (lst listed 8) (.pointer (some ⟨p8, 0, none⟩)) (undef))), ((iv (lst listed 9) (.pointer (some ⟨b2, 0, none⟩)) (undef))), ((iv (lst listed 10) (.pointer (some ⟨b2, 0, none⟩)) (undef))), ((iv (lst listed 11) (.pointer (some ⟨b2, 0, none⟩)) (undef))), ((iv (lst listed 12) (.pointer (some ⟨b1, 0, none⟩)) (undef))), ((iv (lst listed 13) (.pointer (some ⟨b1, 2, none⟩)) (undef))), ((iv (lst listed 14) (.pointer (some ⟨p8, 0, none⟩)) (undef))), ((iv (lst listed 15) (.pointer (some ⟨p0, 0, none⟩)) (undef))), (undef), (undef), (undef), (undef), (undef), (undef), (undef), (undef), (undef)], []⟩ ∧ AddMF w0 m1 m2 res listed p0 p1 p8 w

set_option maxRecDepth 100000 in
set_option maxHeartbeats 8000000 in
theorem add_rat (b b1 b2 : Nat) (x y : Rat) (w : World) (hz : RatObj w b) (hx : RatAt w b1 x) (hy : RatAt w b2 y)
    (hxn : (dig x.num.natAbs).length ≤ 200000) (hxd : (dig x.den).length ≤ 200000) (hyn : (dig y.num.natAbs).length ≤ 200000) (hyd : (dig y.den).length ≤ 200000) :
    Calls Tryz.prog 69 #[.pointer (some ⟨b, 0, none⟩), .pointer (some ⟨b1, 0, none⟩), .pointer (some ⟨b2, 0, none⟩)] w fun e w' => e = .returned (.pointer (some ⟨b, 0, none⟩)) ∧ RatAt w' b (Rat.divInt (x.num * (y.den : Int) + y.num * (x.den : Int)) ((x.den : Int) * y.den)) ∧ UpB w w' b := by
  have HZ := Lib.hid hz
  have HX := Lib.hid hx
  have HY := Lib.hid hy
  have hblt : b < w.heap.size := by obtain ⟨_, _, h, _⟩ := hz; exact h.lt
  clear hz hx hy
  go_enter Tryz.func69, Tryz.ntmps69
  go_wp2_with fail
  go_upto_region 1 with fail
  go_cut [7] (fun sv wx => ∃ p0 : Nat, sv = .pointer (some ⟨p0, 0, none⟩) ∧ w.heap.size ≤ p0 ∧ IntAt wx p0 0 (x.num * (y.den : Int) + y.num * (x.den : Int)) ∧ Below w.heap.size w wx)
  case first =>
   refine wp_region_inv (AddJ b b1 b2 w (x.num * (y.den : Int)) (y.num * (x.den : Int)) (x.num * (y.den : Int) + y.num * (x.den : Int))) (by kernel_rfl) ?_ ?_ ?_
   · refine ⟨0, 0, 0, rfl, (Below.refl _ _).drew, ?_, ?_, ?_, ?_, ?_, ?_⟩
     all_goals (intro h; exact absurd h (by decide))
   · intro listed a w1 hs hcl hJ i hi
     obtain ⟨p0, p1, p8, rfl, hmf⟩ := hJ
     have hlt : i < 17 := by
       obtain ⟨_, o, ho, _⟩ := mem_ready.1 hi
       exact (Array.getElem?_eq_some_iff.1 ho).1
     have HSZ : Hid (listed.size = 17) := Lib.hid hs
     refine inv_deps (J := AddJ b b1 b2 w (x.num * (y.den : Int)) (y.num * (x.den : Int)) (x.num * (y.den : Int) + y.num * (x.den : Int))) hi fun hu hdep => ?_
     clear hs hi
     rcases (show i = 0 ∨ i = 1 ∨ i = 2 ∨ i = 3 ∨ i = 4 ∨ i = 5 ∨ i = 6 ∨ i = 7 ∨ i = 8 ∨ i = 9 ∨ i = 10 ∨ i = 11 ∨ i = 12 ∨ i = 13 ∨ i = 14 ∨ i = 15 ∨ i = 16 by omega) with rfl | rfl | rfl | rfl | rfl | rfl | rfl | rfl | rfl | rfl | rfl | rfl | rfl | rfl | rfl | rfl | rfl
     · -- operation 0
       refine inv_op rfl (fun K hK => ?_)
       go_simp
       have hm2 := hmf
       unfold AddMF at hm2
       have zw := hm2.1.size
       have nst : lst listed 15 = false := closed_not hcl 8 (by kernel_rfl) hu
       have nst2 : lst listed 16 = false := closed_not hcl 8 (by kernel_rfl) hu
       refine hK.out _ _ ⟨w1.heap.size, p1, p8, ?_, ?_⟩
       · skip
         try simp only [Act.put, lyD, lyE, lyF]
         rw [lst_self (show 0 < listed.size by rw [HSZ.out]; decide)]
         simp only [lst_ne (show 0 ≠ 1 by decide), lst_ne (show 0 ≠ 2 by decide), lst_ne (show 0 ≠ 3 by decide), lst_ne (show 0 ≠ 4 by decide), lst_ne (show 0 ≠ 5 by decide), lst_ne (show 0 ≠ 6 by decide), lst_ne (show 0 ≠ 7 by decide), lst_ne (show 0 ≠ 8 by decide), lst_ne (show 0 ≠ 9 by decide), lst_ne (show 0 ≠ 10 by decide), lst_ne (show 0 ≠ 11 by decide), lst_ne (show 0 ≠ 12 by decide), lst_ne (show 0 ≠ 13 by decide), lst_ne (show 0 ≠ 14 by decide), lst_ne (show 0 ≠ 15 by decide), lst_ne (show 0 ≠ 16 by decide), iv_true, nst, iv_false, nst2]
       · unfold AddMF
         refine ⟨hm2.1.alloc zw _, ?_, ?_, ?_, ?_, ?_, ?_⟩
         · intro _
           rw [lst_ne (show 0 ≠ 15 by decide), nst]
           exact ⟨zw, new_intAt w1⟩
         · intro h
           rw [lst_ne (show 0 ≠ 1 by decide)] at h
           rw [lst_ne (show 0 ≠ 7 by decide)]
           exact ⟨(hm2.2.2.1 h).1, (hm2.2.2.1 h).2.below (below1 w1 _)⟩
         · intro h
           rw [lst_ne (show 0 ≠ 8 by decide)] at h
           rw [lst_ne (show 0 ≠ 14 by decide)]
           exact ⟨(hm2.2.2.2.1 h).1, (hm2.2.2.2.1 h).2.below (below1 w1 _)⟩
         · intro h h'
           rw [lst_ne (show 0 ≠ 1 by decide)] at h'
           have := (hm2.2.2.1 h').2.lt
           omega
         · intro h h'
           rw [lst_ne (show 0 ≠ 8 by decide)] at h'
           have := (hm2.2.2.2.1 h').2.lt
           omega
         · intro h h'
           rw [lst_ne (show 0 ≠ 1 by decide)] at h
           rw [lst_ne (show 0 ≠ 8 by decide)] at h'
           exact hm2.2.2.2.2.2.2 h h'
     · -- operation 1
       refine inv_op rfl (fun K hK => ?_)
       go_simp
       have hm2 := hmf
       unfold AddMF at hm2
       have zw := hm2.1.size
       have nst : lst listed 7 = false := closed_not hcl 8 (by kernel_rfl) hu
       refine hK.out _ _ ⟨p0, w1.heap.size, p8, ?_, ?_⟩
       · skip
         try simp only [Act.put, lyD, lyE, lyF]
         rw [lst_self (show 1 < listed.size by rw [HSZ.out]; decide)]
         simp only [lst_ne (show 1 ≠ 0 by decide), lst_ne (show 1 ≠ 2 by decide), lst_ne (show 1 ≠ 3 by decide), lst_ne (show 1 ≠ 4 by decide), lst_ne (show 1 ≠ 5 by decide), lst_ne (show 1 ≠ 6 by decide), lst_ne (show 1 ≠ 7 by decide), lst_ne (show 1 ≠ 8 by decide), lst_ne (show 1 ≠ 9 by decide), lst_ne (show 1 ≠ 10 by decide), lst_ne (show 1 ≠ 11 by decide), lst_ne (show 1 ≠ 12 by decide), lst_ne (show 1 ≠ 13 by decide), lst_ne (show 1 ≠ 14 by decide), lst_ne (show 1 ≠ 15 by decide), lst_ne (show 1 ≠ 16 by decide), iv_true, nst, iv_false]
       · unfold AddMF
         refine ⟨hm2.1.alloc zw _, ?_, ?_, ?_, ?_, ?_, ?_⟩
         · intro h
           rw [lst_ne (show 1 ≠ 0 by decide)] at h
           rw [lst_ne (show 1 ≠ 15 by decide)]
           exact ⟨(hm2.2.1 h).1, (hm2.2.1 h).2.below (below1 w1 _)⟩
         · intro _
           rw [lst_ne (show 1 ≠ 7 by decide), nst]
           exact ⟨zw, new_intAt w1⟩
         · intro h
           rw [lst_ne (show 1 ≠ 8 by decide)] at h
           rw [lst_ne (show 1 ≠ 14 by decide)]
           exact ⟨(hm2.2.2.2.1 h).1, (hm2.2.2.2.1 h).2.below (below1 w1 _)⟩
         · intro h h'
           rw [lst_ne (show 1 ≠ 0 by decide)] at h
           have := (hm2.2.1 h).2.lt
           omega
         · intro h h'
           rw [lst_ne (show 1 ≠ 0 by decide)] at h
           rw [lst_ne (show 1 ≠ 8 by decide)] at h'
           exact hm2.2.2.2.2.2.1 h h'
         · intro h h'
           rw [lst_ne (show 1 ≠ 8 by decide)] at h'
           have := (hm2.2.2.2.1 h').2.lt
           omega
     · -- operation 2
       refine inv_op rfl (fun K hK => ?_)
       go_simp
       refine hK.out _ _ ⟨p0, p1, p8, ?_, hmf.set (by decide) (by decide) (by decide) (by decide) (by decide) (by decide)⟩
       · skip
         try simp only [Act.put, lyD, lyE, lyF]
         rw [lst_self (show 2 < listed.size by rw [HSZ.out]; decide)]
         simp only [lst_ne (show 2 ≠ 0 by decide), lst_ne (show 2 ≠ 1 by decide), lst_ne (show 2 ≠ 3 by decide), lst_ne (show 2 ≠ 4 by decide), lst_ne (show 2 ≠ 5 by decide), lst_ne (show 2 ≠ 6 by decide), lst_ne (show 2 ≠ 7 by decide), lst_ne (show 2 ≠ 8 by decide), lst_ne (show 2 ≠ 9 by decide), lst_ne (show 2 ≠ 10 by decide), lst_ne (show 2 ≠ 11 by decide), lst_ne (show 2 ≠ 12 by decide), lst_ne (show 2 ≠ 13 by decide), lst_ne (show 2 ≠ 14 by decide), lst_ne (show 2 ≠ 15 by decide), lst_ne (show 2 ≠ 16 by decide), iv_true]
     · -- operation 3
       have d2 : lst listed 2 = true := hdep 2 (by kernel_rfl)
       refine inv_op rfl (fun K hK => ?_)
       simp only [d2, iv_true]
       go_simp
       refine hK.out _ _ ⟨p0, p1, p8, ?_, hmf.set (by decide) (by decide) (by decide) (by decide) (by decide) (by decide)⟩
       · skip
         try simp only [Act.put, lyD, lyE, lyF]
         rw [lst_self (show 3 < listed.size by rw [HSZ.out]; decide)]
         simp only [lst_ne (show 3 ≠ 0 by decide), lst_ne (show 3 ≠ 1 by decide), lst_ne (show 3 ≠ 2 by decide), lst_ne (show 3 ≠ 4 by decide), lst_ne (show 3 ≠ 5 by decide), lst_ne (show 3 ≠ 6 by decide), lst_ne (show 3 ≠ 7 by decide), lst_ne (show 3 ≠ 8 by decide), lst_ne (show 3 ≠ 9 by decide), lst_ne (show 3 ≠ 10 by decide), lst_ne (show 3 ≠ 11 by decide), lst_ne (show 3 ≠ 12 by decide), lst_ne (show 3 ≠ 13 by decide), lst_ne (show 3 ≠ 14 by decide), lst_ne (show 3 ≠ 15 by decide), lst_ne (show 3 ≠ 16 by decide), iv_true, d2]
     · -- operation 4
       have d3 : lst listed 3 = true := hdep 3 (by kernel_rfl)
       refine inv_op rfl (fun K hK => ?_)
       simp only [d3, iv_true]
       go_simp
       refine hK.out _ _ ⟨p0, p1, p8, ?_, hmf.set (by decide) (by decide) (by decide) (by decide) (by decide) (by decide)⟩
       · skip
         try simp only [Act.put, lyD, lyE, lyF]
         rw [lst_self (show 4 < listed.size by rw [HSZ.out]; decide)]
         simp only [lst_ne (show 4 ≠ 0 by decide), lst_ne (show 4 ≠ 1 by decide), lst_ne (show 4 ≠ 2 by decide), lst_ne (show 4 ≠ 3 by decide), lst_ne (show 4 ≠ 5 by decide), lst_ne (show 4 ≠ 6 by decide), lst_ne (show 4 ≠ 7 by decide), lst_ne (show 4 ≠ 8 by decide), lst_ne (show 4 ≠ 9 by decide), lst_ne (show 4 ≠ 10 by decide), lst_ne (show 4 ≠ 11 by decide), lst_ne (show 4 ≠ 12 by decide), lst_ne (show 4 ≠ 13 by decide), lst_ne (show 4 ≠ 14 by decide), lst_ne (show 4 ≠ 15 by decide), lst_ne (show 4 ≠ 16 by decide), iv_true, d3]
     · -- operation 5
       refine inv_op rfl (fun K hK => ?_)
       go_simp
       refine hK.out _ _ ⟨p0, p1, p8, ?_, hmf.set (by decide) (by decide) (by decide) (by decide) (by decide) (by decide)⟩
       · skip
         try simp only [Act.put, lyD, lyE, lyF]
         rw [lst_self (show 5 < listed.size by rw [HSZ.out]; decide)]
         simp only [lst_ne (show 5 ≠ 0 by decide), lst_ne (show 5 ≠ 1 by decide), lst_ne (show 5 ≠ 2 by decide), lst_ne (show 5 ≠ 3 by decide), lst_ne (show 5 ≠ 4 by decide), lst_ne (show 5 ≠ 6 by decide), lst_ne (show 5 ≠ 7 by decide), lst_ne (show 5 ≠ 8 by decide), lst_ne (show 5 ≠ 9 by decide), lst_ne (show 5 ≠ 10 by decide), lst_ne (show 5 ≠ 11 by decide), lst_ne (show 5 ≠ 12 by decide), lst_ne (show 5 ≠ 13 by decide), lst_ne (show 5 ≠ 14 by decide), lst_ne (show 5 ≠ 15 by decide), lst_ne (show 5 ≠ 16 by decide), iv_true]
     · -- operation 6
       have d5 : lst listed 5 = true := hdep 5 (by kernel_rfl)
       refine inv_op rfl (fun K hK => ?_)
       simp only [d5, iv_true]
       go_simp
       have hm2 := hmf
       unfold AddMF at hm2
       have zw := hm2.1.size
       refine (den_rat b2 y w1 (HY.out.below hm2.1)).mono ?_
       rintro e w' ⟨rfl, rfl⟩
       clear hm2
       try go_wp2_with fail
       refine hK.out _ _ ⟨p0, p1, p8, ?_, hmf.set (by decide) (by decide) (by decide) (by decide) (by decide) (by decide)⟩
       · skip
         try simp only [Act.put, lyD, lyE, lyF]
         rw [lst_self (show 6 < listed.size by rw [HSZ.out]; decide)]
         simp only [lst_ne (show 6 ≠ 0 by decide), lst_ne (show 6 ≠ 1 by decide), lst_ne (show 6 ≠ 2 by decide), lst_ne (show 6 ≠ 3 by decide), lst_ne (show 6 ≠ 4 by decide), lst_ne (show 6 ≠ 5 by decide), lst_ne (show 6 ≠ 7 by decide), lst_ne (show 6 ≠ 8 by decide), lst_ne (show 6 ≠ 9 by decide), lst_ne (show 6 ≠ 10 by decide), lst_ne (show 6 ≠ 11 by decide), lst_ne (show 6 ≠ 12 by decide), lst_ne (show 6 ≠ 13 by decide), lst_ne (show 6 ≠ 14 by decide), lst_ne (show 6 ≠ 15 by decide), lst_ne (show 6 ≠ 16 by decide), iv_true, d5]
     · -- operation 7
       have d1 : lst listed 1 = true := hdep 1 (by kernel_rfl)
       have d4 : lst listed 4 = true := hdep 4 (by kernel_rfl)
       have d6 : lst listed 6 = true := hdep 6 (by kernel_rfl)
       refine inv_op rfl (fun K hK => ?_)
       simp only [d1, d4, d6, iv_true]
       go_simp
       have hm2 := hmf
       unfold AddMF at hm2
       have zw := hm2.1.size
       have nI : lst listed 7 = false := hu
       have hme := hm2.2.2.1 d1
       rw [nI] at hme
       refine (mul_int p1 0 b1 0 b2 2 0 x.num (y.den : Int) w1 hme.2 (HX.out.below hm2.1).1 (HY.out.below hm2.1).2 (by omega) (by rw [Int.natAbs_natCast]; omega)).mono ?_
       rintro e w2 ⟨rfl, hi2, hu2⟩
       clear nI
       try go_wp2_with fail
       refine hK.out _ _ ⟨p0, p1, p8, ?_, ?_⟩
       · skip
         try simp only [Act.put, lyD, lyE, lyF]
         rw [lst_self (show 7 < listed.size by rw [HSZ.out]; decide)]
         simp only [lst_ne (show 7 ≠ 0 by decide), lst_ne (show 7 ≠ 1 by decide), lst_ne (show 7 ≠ 2 by decide), lst_ne (show 7 ≠ 3 by decide), lst_ne (show 7 ≠ 4 by decide), lst_ne (show 7 ≠ 5 by decide), lst_ne (show 7 ≠ 6 by decide), lst_ne (show 7 ≠ 8 by decide), lst_ne (show 7 ≠ 9 by decide), lst_ne (show 7 ≠ 10 by decide), lst_ne (show 7 ≠ 11 by decide), lst_ne (show 7 ≠ 12 by decide), lst_ne (show 7 ≠ 13 by decide), lst_ne (show 7 ≠ 14 by decide), lst_ne (show 7 ≠ 15 by decide), lst_ne (show 7 ≠ 16 by decide), iv_true, d1, d4, d6]
       · unfold AddMF
         refine ⟨hm2.1.trans (hu2.toB.below hme.1 zw), ?_, ?_, ?_, ?_, ?_, ?_⟩
         · intro h
           rw [lst_ne (show 7 ≠ 0 by decide)] at h
           rw [lst_ne (show 7 ≠ 15 by decide)]
           have hne := hm2.2.2.2.2.1 h d1
           exact ⟨(hm2.2.1 h).1, (hm2.2.1 h).2.upd hu2 (fun e => absurd e (by omega))⟩
         · intro _
           rw [lst_self (show 7 < listed.size by rw [HSZ.out]; decide)]
           exact ⟨hme.1, hi2⟩
         · intro h
           rw [lst_ne (show 7 ≠ 8 by decide)] at h
           rw [lst_ne (show 7 ≠ 14 by decide)]
           have hne := hm2.2.2.2.2.2.2 d1 h
           exact ⟨(hm2.2.2.2.1 h).1, (hm2.2.2.2.1 h).2.upd hu2 (fun e => absurd e (by omega))⟩
         · intro h h'
           rw [lst_ne (show 7 ≠ 0 by decide)] at h
           rw [lst_ne (show 7 ≠ 1 by decide)] at h'
           exact hm2.2.2.2.2.1 h h'
         · intro h h'
           rw [lst_ne (show 7 ≠ 0 by decide)] at h
           rw [lst_ne (show 7 ≠ 8 by decide)] at h'
           exact hm2.2.2.2.2.2.1 h h'
         · intro h h'
           rw [lst_ne (show 7 ≠ 1 by decide)] at h
           rw [lst_ne (show 7 ≠ 8 by decide)] at h'
           exact hm2.2.2.2.2.2.2 h h'
     · -- operation 8
       refine inv_op rfl (fun K hK => ?_)
       go_simp
       have hm2 := hmf
       unfold AddMF at hm2
       have zw := hm2.1.size
       have nst : lst listed 14 = false := closed_not hcl 8 (by kernel_rfl) hu
       refine hK.out _ _ ⟨p0, p1, w1.heap.size, ?_, ?_⟩
       · skip
         try simp only [Act.put, lyD, lyE, lyF]
         rw [lst_self (show 8 < listed.size by rw [HSZ.out]; decide)]
         simp only [lst_ne (show 8 ≠ 0 by decide), lst_ne (show 8 ≠ 1 by decide), lst_ne (show 8 ≠ 2 by decide), lst_ne (show 8 ≠ 3 by decide), lst_ne (show 8 ≠ 4 by decide), lst_ne (show 8 ≠ 5 by decide), lst_ne (show 8 ≠ 6 by decide), lst_ne (show 8 ≠ 7 by decide), lst_ne (show 8 ≠ 9 by decide), lst_ne (show 8 ≠ 10 by decide), lst_ne (show 8 ≠ 11 by decide), lst_ne (show 8 ≠ 12 by decide), lst_ne (show 8 ≠ 13 by decide), lst_ne (show 8 ≠ 14 by decide), lst_ne (show 8 ≠ 15 by decide), lst_ne (show 8 ≠ 16 by decide), iv_true, nst, iv_false]
       · unfold AddMF
         refine ⟨hm2.1.alloc zw _, ?_, ?_, ?_, ?_, ?_, ?_⟩
         · intro h
           rw [lst_ne (show 8 ≠ 0 by decide)] at h
           rw [lst_ne (show 8 ≠ 15 by decide)]
           exact ⟨(hm2.2.1 h).1, (hm2.2.1 h).2.below (below1 w1 _)⟩
         · intro h
           rw [lst_ne (show 8 ≠ 1 by decide)] at h
           rw [lst_ne (show 8 ≠ 7 by decide)]
           exact ⟨(hm2.2.2.1 h).1, (hm2.2.2.1 h).2.below (below1 w1 _)⟩
         · intro _
           rw [lst_ne (show 8 ≠ 14 by decide), nst]
           exact ⟨zw, new_intAt w1⟩
         · intro h h'
           rw [lst_ne (show 8 ≠ 0 by decide)] at h
           rw [lst_ne (show 8 ≠ 1 by decide)] at h'
           exact hm2.2.2.2.2.1 h h'
         · intro h h'
           rw [lst_ne (show 8 ≠ 0 by decide)] at h
           have := (hm2.2.1 h).2.lt
           omega
         · intro h h'
           rw [lst_ne (show 8 ≠ 1 by decide)] at h
           have := (hm2.2.2.1 h).2.lt
           omega
     · -- operation 9
       refine inv_op rfl (fun K hK => ?_)
       go_simp
       refine hK.out _ _ ⟨p0, p1, p8, ?_, hmf.set (by decide) (by decide) (by decide) (by decide) (by decide) (by decide)⟩
       · skip
         try simp only [Act.put, lyD, lyE, lyF]
         rw [lst_self (show 9 < listed.size by rw [HSZ.out]; decide)]
         simp only [lst_ne (show 9 ≠ 0 by decide), lst_ne (show 9 ≠ 1 by decide), lst_ne (show 9 ≠ 2 by decide), lst_ne (show 9 ≠ 3 by decide), lst_ne (show 9 ≠ 4 by decide), lst_ne (show 9 ≠ 5 by decide), lst_ne (show 9 ≠ 6 by decide), lst_ne (show 9 ≠ 7 by decide), lst_ne (show 9 ≠ 8 by decide), lst_ne (show 9 ≠ 10 by decide), lst_ne (show 9 ≠ 11 by decide), lst_ne (show 9 ≠ 12 by decide), lst_ne (show 9 ≠ 13 by decide), lst_ne (show 9 ≠ 14 by decide), lst_ne (show 9 ≠ 15 by decide), lst_ne (show 9 ≠ 16 by decide), iv_true]
     · -- operation 10
       have d9 : lst listed 9 = true := hdep 9 (by kernel_rfl)
       refine inv_op rfl (fun K hK => ?_)
       simp only [d9, iv_true]
       go_simp
       refine hK.out _ _ ⟨p0, p1, p8, ?_, hmf.set (by decide) (by decide) (by decide) (by decide) (by decide) (by decide)⟩
       · skip
         try simp only [Act.put, lyD, lyE, lyF]
         rw [lst_self (show 10 < listed.size by rw [HSZ.out]; decide)]
         simp only [lst_ne (show 10 ≠ 0 by decide), lst_ne (show 10 ≠ 1 by decide), lst_ne (show 10 ≠ 2 by decide), lst_ne (show 10 ≠ 3 by decide), lst_ne (show 10 ≠ 4 by decide), lst_ne (show 10 ≠ 5 by decide), lst_ne (show 10 ≠ 6 by decide), lst_ne (show 10 ≠ 7 by decide), lst_ne (show 10 ≠ 8 by decide), lst_ne (show 10 ≠ 9 by decide), lst_ne (show 10 ≠ 11 by decide), lst_ne (show 10 ≠ 12 by decide), lst_ne (show 10 ≠ 13 by decide), lst_ne (show 10 ≠ 14 by decide), lst_ne (show 10 ≠ 15 by decide), lst_ne (show 10 ≠ 16 by decide), iv_true, d9]
     · -- operation 11
       have d10 : lst listed 10 = true := hdep 10 (by kernel_rfl)
       refine inv_op rfl (fun K hK => ?_)
       simp only [d10, iv_true]
       go_simp
       refine hK.out _ _ ⟨p0, p1, p8, ?_, hmf.set (by decide) (by decide) (by decide) (by decide) (by decide) (by decide)⟩
       · skip
         try simp only [Act.put, lyD, lyE, lyF]
         rw [lst_self (show 11 < listed.size by rw [HSZ.out]; decide)]
         simp only [lst_ne (show 11 ≠ 0 by decide), lst_ne (show 11 ≠ 1 by decide), lst_ne (show 11 ≠ 2 by decide), lst_ne (show 11 ≠ 3 by decide), lst_ne (show 11 ≠ 4 by decide), lst_ne (show 11 ≠ 5 by decide), lst_ne (show 11 ≠ 6 by decide), lst_ne (show 11 ≠ 7 by decide), lst_ne (show 11 ≠ 8 by decide), lst_ne (show 11 ≠ 9 by decide), lst_ne (show 11 ≠ 10 by decide), lst_ne (show 11 ≠ 12 by decide), lst_ne (show 11 ≠ 13 by decide), lst_ne (show 11 ≠ 14 by decide), lst_ne (show 11 ≠ 15 by decide), lst_ne (show 11 ≠ 16 by decide), iv_true, d10]
     · -- operation 12
       refine inv_op rfl (fun K hK => ?_)
       go_simp
       refine hK.out _ _ ⟨p0, p1, p8, ?_, hmf.set (by decide) (by decide) (by decide) (by decide) (by decide) (by decide)⟩
       · skip
         try simp only [Act.put, lyD, lyE, lyF]
         rw [lst_self (show 12 < listed.size by rw [HSZ.out]; decide)]
         simp only [lst_ne (show 12 ≠ 0 by decide), lst_ne (show 12 ≠ 1 by decide), lst_ne (show 12 ≠ 2 by decide), lst_ne (show 12 ≠ 3 by decide), lst_ne (show 12 ≠ 4 by decide), lst_ne (show 12 ≠ 5 by decide), lst_ne (show 12 ≠ 6 by decide), lst_ne (show 12 ≠ 7 by decide), lst_ne (show 12 ≠ 8 by decide), lst_ne (show 12 ≠ 9 by decide), lst_ne (show 12 ≠ 10 by decide), lst_ne (show 12 ≠ 11 by decide), lst_ne (show 12 ≠ 13 by decide), lst_ne (show 12 ≠ 14 by decide), lst_ne (show 12 ≠ 15 by decide), lst_ne (show 12 ≠ 16 by decide), iv_true]
     · -- operation 13
       have d12 : lst listed 12 = true := hdep 12 (by kernel_rfl)
       refine inv_op rfl (fun K hK => ?_)
       simp only [d12, iv_true]
       go_simp
       have hm2 := hmf
       unfold AddMF at hm2
       have zw := hm2.1.size
       refine (den_rat b1 x w1 (HX.out.below hm2.1)).mono ?_
       rintro e w' ⟨rfl, rfl⟩
       clear hm2
       try go_wp2_with fail
       refine hK.out _ _ ⟨p0, p1, p8, ?_, hmf.set (by decide) (by decide) (by decide) (by decide) (by decide) (by decide)⟩
       · skip
         try simp only [Act.put, lyD, lyE, lyF]
         rw [lst_self (show 13 < listed.size by rw [HSZ.out]; decide)]
         simp only [lst_ne (show 13 ≠ 0 by decide), lst_ne (show 13 ≠ 1 by decide), lst_ne (show 13 ≠ 2 by decide), lst_ne (show 13 ≠ 3 by decide), lst_ne (show 13 ≠ 4 by decide), lst_ne (show 13 ≠ 5 by decide), lst_ne (show 13 ≠ 6 by decide), lst_ne (show 13 ≠ 7 by decide), lst_ne (show 13 ≠ 8 by decide), lst_ne (show 13 ≠ 9 by decide), lst_ne (show 13 ≠ 10 by decide), lst_ne (show 13 ≠ 11 by decide), lst_ne (show 13 ≠ 12 by decide), lst_ne (show 13 ≠ 14 by decide), lst_ne (show 13 ≠ 15 by decide), lst_ne (show 13 ≠ 16 by decide), iv_true, d12]
     · -- operation 14
       have d8 : lst listed 8 = true := hdep 8 (by kernel_rfl)
       have d11 : lst listed 11 = true := hdep 11 (by kernel_rfl)
       have d13 : lst listed 13 = true := hdep 13 (by kernel_rfl)
       refine inv_op rfl (fun K hK => ?_)
       simp only [d8, d11, d13, iv_true]
       go_simp
       have hm2 := hmf
       unfold AddMF at hm2
       have zw := hm2.1.size
       have nI : lst listed 14 = false := hu
       have hme := hm2.2.2.2.1 d8
       rw [nI] at hme
       refine (mul_int p8 0 b2 0 b1 2 0 y.num (x.den : Int) w1 hme.2 (HY.out.below hm2.1).1 (HX.out.below hm2.1).2 (by omega) (by rw [Int.natAbs_natCast]; omega)).mono ?_
       rintro e w2 ⟨rfl, hi2, hu2⟩
       clear nI
       try go_wp2_with fail
       refine hK.out _ _ ⟨p0, p1, p8, ?_, ?_⟩
       · skip
         try simp only [Act.put, lyD, lyE, lyF]
         rw [lst_self (show 14 < listed.size by rw [HSZ.out]; decide)]
         simp only [lst_ne (show 14 ≠ 0 by decide), lst_ne (show 14 ≠ 1 by decide), lst_ne (show 14 ≠ 2 by decide), lst_ne (show 14 ≠ 3 by decide), lst_ne (show 14 ≠ 4 by decide), lst_ne (show 14 ≠ 5 by decide), lst_ne (show 14 ≠ 6 by decide), lst_ne (show 14 ≠ 7 by decide), lst_ne (show 14 ≠ 8 by decide), lst_ne (show 14 ≠ 9 by decide), lst_ne (show 14 ≠ 10 by decide), lst_ne (show 14 ≠ 11 by decide), lst_ne (show 14 ≠ 12 by decide), lst_ne (show 14 ≠ 13 by decide), lst_ne (show 14 ≠ 15 by decide), lst_ne (show 14 ≠ 16 by decide), iv_true, d8, d11, d13]
       · unfold AddMF
         refine ⟨hm2.1.trans (hu2.toB.below hme.1 zw), ?_, ?_, ?_, ?_, ?_, ?_⟩
         · intro h
           rw [lst_ne (show 14 ≠ 0 by decide)] at h
           rw [lst_ne (show 14 ≠ 15 by decide)]
           have hne := hm2.2.2.2.2.2.1 h d8
           exact ⟨(hm2.2.1 h).1, (hm2.2.1 h).2.upd hu2 (fun e => absurd e (by omega))⟩
         · intro h
           rw [lst_ne (show 14 ≠ 1 by decide)] at h
           rw [lst_ne (show 14 ≠ 7 by decide)]
           have hne := hm2.2.2.2.2.2.2 h d8
           exact ⟨(hm2.2.2.1 h).1, (hm2.2.2.1 h).2.upd hu2 (fun e => absurd e (by omega))⟩
         · intro _
           rw [lst_self (show 14 < listed.size by rw [HSZ.out]; decide)]
           exact ⟨hme.1, hi2⟩
         · intro h h'
           rw [lst_ne (show 14 ≠ 0 by decide)] at h
           rw [lst_ne (show 14 ≠ 1 by decide)] at h'
           exact hm2.2.2.2.2.1 h h'
         · intro h h'
           rw [lst_ne (show 14 ≠ 0 by decide)] at h
           rw [lst_ne (show 14 ≠ 8 by decide)] at h'
           exact hm2.2.2.2.2.2.1 h h'
         · intro h h'
           rw [lst_ne (show 14 ≠ 1 by decide)] at h
           rw [lst_ne (show 14 ≠ 8 by decide)] at h'
           exact hm2.2.2.2.2.2.2 h h'
     · -- operation 15
       have d0 : lst listed 0 = true := hdep 0 (by kernel_rfl)
       have d7 : lst listed 7 = true := hdep 7 (by kernel_rfl)
       have d14 : lst listed 14 = true := hdep 14 (by kernel_rfl)
       refine inv_op rfl (fun K hK => ?_)
       simp only [d0, d7, d14, iv_true]
       go_simp
       have hm2 := hmf
       unfold AddMF at hm2
       have zw := hm2.1.size
       have d1 : lst listed 1 = true := closed_dep hcl 8 (by kernel_rfl) d7
       have d8 : lst listed 8 = true := closed_dep hcl 8 (by kernel_rfl) d14
       have h1 := hm2.2.2.1 d1
       have h8 := hm2.2.2.2.1 d8
       rw [d7] at h1
       rw [d14] at h8
       have nI : lst listed 15 = false := hu
       have hme := hm2.2.1 d0
       rw [nI] at hme
       refine (add_int p0 0 p1 0 p8 0 0 (x.num * (y.den : Int)) (y.num * (x.den : Int)) w1 hme.2 h1.2 h8.2 (by have := mul_len x.num.natAbs y.den; rw [Int.natAbs_mul, Int.natAbs_natCast]; omega) (by have := mul_len y.num.natAbs x.den; rw [Int.natAbs_mul, Int.natAbs_natCast]; omega)).mono ?_
       rintro e w2 ⟨rfl, hi2, hu2⟩
       clear nI d1 d8
       try go_wp2_with fail
       refine hK.out _ _ ⟨p0, p1, p8, ?_, ?_⟩
       · skip
         try simp only [Act.put, lyD, lyE, lyF]
         rw [lst_self (show 15 < listed.size by rw [HSZ.out]; decide)]
         simp only [lst_ne (show 15 ≠ 0 by decide), lst_ne (show 15 ≠ 1 by decide), lst_ne (show 15 ≠ 2 by decide), lst_ne (show 15 ≠ 3 by decide), lst_ne (show 15 ≠ 4 by decide), lst_ne (show 15 ≠ 5 by decide), lst_ne (show 15 ≠ 6 by decide), lst_ne (show 15 ≠ 7 by decide), lst_ne (show 15 ≠ 8 by decide), lst_ne (show 15 ≠ 9 by decide), lst_ne (show 15 ≠ 10 by decide), lst_ne (show 15 ≠ 11 by decide), lst_ne (show 15 ≠ 12 by decide), lst_ne (show 15 ≠ 13 by decide), lst_ne (show 15 ≠ 14 by decide), lst_ne (show 15 ≠ 16 by decide), iv_true, d0, d7, d14]
       · unfold AddMF
         refine ⟨hm2.1.trans (hu2.toB.below hme.1 zw), ?_, ?_, ?_, ?_, ?_, ?_⟩
         · intro _
           rw [lst_self (show 15 < listed.size by rw [HSZ.out]; decide)]
           exact ⟨hme.1, hi2⟩
         · intro h
           rw [lst_ne (show 15 ≠ 1 by decide)] at h
           rw [lst_ne (show 15 ≠ 7 by decide)]
           have hne := hm2.2.2.2.2.1 d0 h
           exact ⟨(hm2.2.2.1 h).1, (hm2.2.2.1 h).2.upd hu2 (fun e => absurd e (by omega))⟩
         · intro h
           rw [lst_ne (show 15 ≠ 8 by decide)] at h
           rw [lst_ne (show 15 ≠ 14 by decide)]
           have hne := hm2.2.2.2.2.2.1 d0 h
           exact ⟨(hm2.2.2.2.1 h).1, (hm2.2.2.2.1 h).2.upd hu2 (fun e => absurd e (by omega))⟩
         · intro h h'
           rw [lst_ne (show 15 ≠ 0 by decide)] at h
           rw [lst_ne (show 15 ≠ 1 by decide)] at h'
           exact hm2.2.2.2.2.1 h h'
         · intro h h'
           rw [lst_ne (show 15 ≠ 0 by decide)] at h
           rw [lst_ne (show 15 ≠ 8 by decide)] at h'
           exact hm2.2.2.2.2.2.1 h h'
         · intro h h'
           rw [lst_ne (show 15 ≠ 1 by decide)] at h
           rw [lst_ne (show 15 ≠ 8 by decide)] at h'
           exact hm2.2.2.2.2.2.2 h h'
     · -- operation 16
       have d15 : lst listed 15 = true := hdep 15 (by kernel_rfl)
       refine inv_op rfl (fun K hK => ?_)
       simp only [d15, iv_true]
       go_simp
       refine hK.out _ _ ⟨p0, p1, p8, ?_, hmf.set (by decide) (by decide) (by decide) (by decide) (by decide) (by decide)⟩
       · skip
         try simp only [Act.put, lyD, lyE, lyF]
         rw [lst_self (show 16 < listed.size by rw [HSZ.out]; decide)]
         simp only [lst_ne (show 16 ≠ 0 by decide), lst_ne (show 16 ≠ 1 by decide), lst_ne (show 16 ≠ 2 by decide), lst_ne (show 16 ≠ 3 by decide), lst_ne (show 16 ≠ 4 by decide), lst_ne (show 16 ≠ 5 by decide), lst_ne (show 16 ≠ 6 by decide), lst_ne (show 16 ≠ 7 by decide), lst_ne (show 16 ≠ 8 by decide), lst_ne (show 16 ≠ 9 by decide), lst_ne (show 16 ≠ 10 by decide), lst_ne (show 16 ≠ 11 by decide), lst_ne (show 16 ≠ 12 by decide), lst_ne (show 16 ≠ 13 by decide), lst_ne (show 16 ≠ 14 by decide), lst_ne (show 16 ≠ 15 by decide), iv_true, d15]
   · intro listed a w1 hs hr hJ
     obtain ⟨p0, p1, p8, rfl, hmf⟩ := hJ
     have hall := all_listed hs hr (by kernel_rfl)
     have h0 := hmf.2.1 (hall 0 (by decide))
     rw [show lst listed 15 = true from hall 15 (by decide)] at h0
     have HM := Lib.hid h0
     have HB := Lib.hid hmf.1
     simp only [(show lst listed 0 = true from hall 0 (by decide)), (show lst listed 1 = true from hall 1 (by decide)), (show lst listed 2 = true from hall 2 (by decide)), (show lst listed 3 = true from hall 3 (by decide)), (show lst listed 4 = true from hall 4 (by decide)), (show lst listed 5 = true from hall 5 (by decide)), (show lst listed 6 = true from hall 6 (by decide)), (show lst listed 7 = true from hall 7 (by decide)), (show lst listed 8 = true from hall 8 (by decide)), (show lst listed 9 = true from hall 9 (by decide)), (show lst listed 10 = true from hall 10 (by decide)), (show lst listed 11 = true from hall 11 (by decide)), (show lst listed 12 = true from hall 12 (by decide)), (show lst listed 13 = true from hall 13 (by decide)), (show lst listed 14 = true from hall 14 (by decide)), (show lst listed 15 = true from hall 15 (by decide)), (show lst listed 16 = true from hall 16 (by decide)), iv_true]
     clear hmf hall h0 hs hr
     go_wp2_with fail
     go_meet
     exact ⟨p0, rfl, HM.out.1, HM.out.2, HB.out⟩
  case rest =>
    obtain ⟨p0, rfl, hp0, hi0, hb0⟩ := hcut
    have HI0 := Lib.hid hi0
    have HB0 := Lib.hid hb0
    have z0 := hb0.size
    have HX0 := Lib.hid (HX.out.below hb0)
    have HY0 := Lib.hid (HY.out.below hb0)
    clear hi0 hb0
    go_wp2_with fail
    refine (den_rat b1 x _ (HX0.out.below (below1 _ _))).mono ?_
    rintro e w' ⟨rfl, rfl⟩
    go_wp2_with fail
    refine (den_rat b2 y _ (HY0.out.below (below1 _ _))).mono ?_
    rintro e w' ⟨rfl, rfl⟩
    go_wp2_with fail
    refine (mul_int _ 0 b1 2 b2 2 0 (x.den : Int) (y.den : Int) _ (new_intAt _) (HX0.out.below (below1 _ _)).2 (HY0.out.below (below1 _ _)).2 (by rw [Int.natAbs_natCast]; omega) (by rw [Int.natAbs_natCast]; omega)).mono ?_
    rintro e w2 ⟨rfl, hi2, hu2⟩
    have hb2 := newB hu2
    have HI2 := Lib.hid hi2
    have HI0b := Lib.hid (HI0.out.below hb2)
    have HB2 := Lib.hid (HB0.out.trans (hb2.mono z0))
    clear hi2 hu2 hb2
    go_wp2_with fail
    refine (setFrac_rat b p0 0 _ 0 (x.num * (y.den : Int) + y.num * (x.den : Int)) ((x.den : Int) * y.den) w2 (HZ.out.below HB2.out) HI0b.out HI2.out (Int.mul_ne_zero (by have := x.den_nz; omega) (by have := y.den_nz; omega))
      (by have h1 := add_len (x.num * (y.den : Int)) (y.num * (x.den : Int)); have h2 := mul_len x.num.natAbs y.den; have h3 := mul_len y.num.natAbs x.den; rw [Int.natAbs_mul x.num, Int.natAbs_mul y.num, Int.natAbs_natCast, Int.natAbs_natCast] at h1; omega)
      (by have := mul_len x.den y.den; rw [Int.natAbs_mul, Int.natAbs_natCast, Int.natAbs_natCast]; omega)).mono ?_
    rintro e w3 ⟨rfl, hr3, hu3⟩
    have HR3 := Lib.hid hr3
    have HU3 := Lib.hid ((UpB.of_below b HB2.out).trans hu3)
    clear hr3 hu3
    go_wp2_with fail
    go_ret
    exact ⟨rfl, HR3.out, HU3.out⟩

end Go.Proofs.YtjokpfgncmdomaaGreatDoor

/- ratio.whole: the walk -/
namespace Go.Proofs.YtjokpfgncmdomaaGreatDoor
open Go.RowKit Go.Sort

theorem info_u8 : (Tryz.prog.info? 5).map (fun i => (i.zero, i.size, i.bytes)) = some (some (.int .u8 0), 1, 1) := by kernel_rfl
theorem made_u8 (n : Nat) : (madeCells (Value.int .u8 0).cells (n * 1)).toList = (List.replicate n 0).flatMap Bc := made_flat Bc 1 Bc.clen (by omega) 0 n
theorem own_bc {w : World} {base e g n cap : Nat} {ys : List Nat} (h : w.ownsRow base e 1 (.slice (some ⟨g, 0, none⟩) n cap) n (ys.flatMap Bc)) {i o : Nat} (ho : ys[i]? = some o) : w.cell? ⟨g, i, none⟩ = some (.int .u8 (o : Int)) := by
  have h1 := own_elem Bc.clen h ho 0 _ rfl
  rwa [Nat.mul_one, Nat.add_zero] at h1
theorem own_set_bc {w : World} {base e g n cap : Nat} {ys : List Nat} (h : w.ownsRow base e 1 (.slice (some ⟨g, 0, none⟩) n cap) n (ys.flatMap Bc)) {i : Nat} (hi : i < ys.length) (s : Nat) :
    (w.setCell ⟨g, i, none⟩ (.int .u8 (s : Int))).ownsRow base e 1 (.slice (some ⟨g, 0, none⟩) n cap) n ((ys.set i s).flatMap Bc) ∧ w.grownBy (w.setCell ⟨g, i, none⟩ (.int .u8 (s : Int))) (some g) := by
  have h1 := h.stored i (.int .u8 (s : Int))
  have h2 := putAll_flat (f := Bc) (size := 1) Bc.clen s ys i hi
  rw [Nat.mul_one] at h2
  rw [← h2]
  exact h1
theorem bys_set {xs : List Nat} {k v : Nat} (h : Bys xs) (hv : v < 256) : Bys (xs.set k v) := fun x hx => by
  rcases List.mem_or_eq_of_mem_set hx with h1 | rfl
  · exact h x h1
  · exact hv

theorem cast_shr8 (v s : Nat) : (v : Int) / 2 ^ s % 256 = ((v / 2 ^ s % 256 : Nat) : Int) := by
  have g2 : (2 : Int) ^ s = ((2 ^ s : Nat) : Int) := (Int.natCast_pow 2 s).symm
  rw [g2, ← Int.natCast_ediv]
  generalize v / 2 ^ s = q
  omega

set_option maxRecDepth 100000 in
set_option maxHeartbeats 4000000 in
theorem whole_ratio (A : Option Addr) (n c : Nat) (ls : List Nat) (w : World) (hx : RdE Lc 1 w (fun b => b < w.heap.size) A n ls) (hl : Lds ls) (hn : n ≤ 100000) :
    Calls Tryz.prog 47 #[.slice A n c] w fun e w' => ∃ g, e = .returned (.pointer (some ⟨g, 0, none⟩)) ∧ w.heap.size ≤ g ∧ g < w'.heap.size ∧ IntAt w' g 0 (ln ls : Int) ∧ Below w.heap.size w w' := by
  obtain ⟨i0, hi0, hz0, hz1, hz2⟩ := info_parts' info_u8
  have HX := Lib.hid hx
  have HL := Lib.hid hl
  clear hx hl
  go_enter Tryz.func47, Tryz.ntmps47
  go_wp2_with (at_make; go_must (refine wpList_make_full _ rfl _ _ _ rfl w.heap.size 5 i0 _ 1 Tryz.underlying111 hi0 hz0 hz1 .i64 .i64 _ _ (8 * n) (by show _ = _; congr 1 <;> omega) (by show _ = _; congr 1 <;> omega) (by omega) (by omega) (by rw [hz2]; omega) (by simp only [maxLen]; omega) (Nat.le_refl _) ?_); intro w1 hown1 hg1)
  rw [made_u8] at hown1
  have HI := Lib.hid hown1
  have HB1 := Lib.hid (below_of_grown hg1 (fun g hg => by cases hg))
  clear hown1 hg1
  go_loopw [12] (fun iv wr => ∃ (k : Nat) (bs : List Nat), k ≤ 8 * n ∧ iv = .int .i64 k ∧ bs.length = 8 * n ∧ Bys bs ∧ (∀ (j b : Nat), j < k → bs[j]? = some b → b = ln ls / 256 ^ (8 * n - 1 - j) % 256) ∧ wr.ownsRow w.heap.size 5 1 (.slice (some ⟨w.heap.size, 0, none⟩) (8 * n) (8 * n)) (8 * n) (bs.flatMap Bc) ∧ Below w.heap.size w wr) (fun iv _ => 8 * n - (intOf iv).toNat)
  case atStart => exact ⟨0, List.replicate (8 * n) 0, Nat.zero_le _, rfl, by simp, fun x hx => by rw [(List.mem_replicate.1 hx).2]; decide, fun j b h => absurd h (Nat.not_lt_zero _), HI.out, HB1.out⟩
  case round =>
    obtain ⟨k, bs, hk, rfl, hbl, hbb, hrel', hown, hbw⟩ := hrel
    have HO := Lib.hid hown
    have HBW := Lib.hid hbw
    have HBB := Lib.hid hbb
    have HREL := Lib.hid hrel'
    clear hown hbw hbb hrel'
    by_cases hlt : k < 8 * n
    · obtain ⟨bk, hbk⟩ : ∃ bk, bk = 8 * n - 1 - k := ⟨_, rfl⟩
      have e1 : 8 * (n : Int) - 1 - (k : Int) = (bk : Int) := by omega
      have hbl8 : bk / 8 < n := by omega
      obtain ⟨x, hx⟩ := get_some HX.out.num hbl8
      obtain ⟨b1, o1, rfl, hSb, hc⟩ := HX.out.elem Lc.clen hx (by omega)
      have q1 : wr.cell? ⟨b1, o1 + bk / 8, none⟩ = some (.int .u64 (x : Int)) := by have h := hc 0 _ rfl; rw [Nat.mul_one, Nat.add_zero] at h; exact bat HBW.out h
      obtain ⟨o, ho⟩ := get_some hbl hlt
      have q0 := own_bc HO.out ho
      have hf := HO.out.frozenAt k
      have hlb := limb_byte HL.out hx
      have HLB := Lib.hid hlb
      have hbkn : bk < 8 * n := by omega
      have HBK := Lib.hid hbk
      clear hlb hc ho hbk hx
      go_wp2_with fail
      rw [cast_shr8]
      have ho1 := own_set_bc HO.out (i := k) (by omega) (x / 2 ^ (8 * (bk % 8)) % 256)
      refine ⟨⟨k + 1, bs.set k (x / 2 ^ (8 * (bk % 8)) % 256), by omega, by go_num, by simp [hbl], bys_set HBB.out (Nat.mod_lt _ (by decide)), ?_, ho1.1, HBW.out.grown ho1.2 (Nat.le_of_lt (HO.out.lt w.heap.size rfl).2) (fun g hg => by injection hg with hg; omega)⟩, by simp [intOf]; omega⟩
      exact set_keeps HREL.out (by rw [HLB.out, HBK.out])
    · obtain rfl : 8 * n = k := by omega
      have hrd := RdE.of_own Bc.clen (by omega) HO.out
      have hbe : be bs 0 = ln ls := by
        apply be_all
        · have h1 := ln_lt HL.out
          rw [HX.out.num, W64_256] at h1
          rw [hbl]; exact h1
        · intro i b hb
          have hi := (List.getElem?_eq_some_iff.1 hb).1
          rw [hbl]
          exact HREL.out i b (by omega) hb
      have HBE := Lib.hid hbe
      have HRD : Hid (RdE Bc 1 wr (fun b => b < wr.heap.size) (some ⟨w.heap.size, 0, none⟩) (8 * n) bs) := Lib.hid (hrd.imp fun b h => h.2.1)
      have zr := HBW.out.size
      clear hrd hbe
      go_wp2_with fail
      refine (setBytes_int _ 0 0 (some ⟨w.heap.size, 0, none⟩) (8 * n) (8 * n) bs _ (new_intAt wr) ((HRD.out.keep (Keeps.below (below1 wr _) (fun b h => h))).imp fun b h => by simp; omega) HBB.out (by omega)).mono ?_
      rintro e w5 ⟨rfl, hi5, hu5⟩
      rw [HBE.out] at hi5
      have hb5 := newB hu5
      have HI5 := Lib.hid hi5
      have HB5 := Lib.hid (below_then HBW.out hb5)
      clear hi5 hu5 hb5
      go_wp2_with fail
      go_ret
      exact ⟨_, rfl, zr, HI5.out.lt, HI5.out, HB5.out⟩

end Go.Proofs.YtjokpfgncmdomaaGreatDoor

/- Rsh (numbers not below 0), ratio.limbs: the walks -/
namespace Go.Proofs.YtjokpfgncmdomaaGreatDoor
open Go.RowKit Go.Sort

set_option maxRecDepth 100000 in
set_option maxHeartbeats 2000000 in
theorem rsh_int (b o b1 o1 : Nat) (z : Int) (x k : Nat) (w : World) (hz : IntAt w b o z) (hx : IntAt w b1 o1 (x : Int)) (hl : (dig x).length ≤ 10000000) (hk : k ≤ 100000000) :
    Calls Tryz.prog 107 #[.pointer (some ⟨b, o, none⟩), .pointer (some ⟨b1, o1, none⟩), .int .u64 (k : Int)] w (IntGot b o ((x / 2 ^ k : Nat) : Int) w) := by
  obtain ⟨A, n, c, s, HN, HS, h0, h1, hc, HR⟩ := hx.open
  rw [Int.natAbs_natCast] at HN HR
  rw [← HN.out] at hl
  have HZ := Lib.hid hz
  obtain rfl : s = false := by rw [HS.out]; simp
  clear hz hx
  have hR : RdE Wc 1 w (fun d => d < w.heap.size) A n (dig x) := HR.out.keep (fun _ _ => rfl)
  have HR' := Lib.hid hR
  obtain ⟨y, hy⟩ : ∃ y, y = x / 2 ^ k := ⟨_, rfl⟩
  rw [← hy]
  have HY := Lib.hid hy
  clear hR hy
  go_enter Tryz.func107, Tryz.ntmps107
  go_wp2_with fail
  refine (right_k _ _ _ x k _ _ HR'.out (fun b hb => hb) (by omega) hk).mono ?_
  rw [← HY.out]
  rintro e w1 ⟨A1, c1, rfl, hc1, hr1, hb1⟩
  have HR1 := Lib.hid hr1
  have HB1 := Lib.hid hb1
  clear hr1 hb1
  go_wp2_with fail
  refine (give_int _ _ (y : Int) z false A1 _ c1 w1 (HZ.out.below HB1.out) rfl hc1 (HR1.out.imp fun d hd => hd.2) (by simp)).mono ?_
  rintro e w2 ⟨rfl, hi2, hu2⟩
  have HI2 := Lib.hid hi2
  have HU2 := Lib.hid hu2
  clear hi2 hu2
  go_wp2_with fail
  go_ret
  exact ⟨rfl, HI2.out, Upd.after HB1.out HU2.out HZ.out.lt⟩

def M64 : Nat := 18446744073709551615
theorem M64_and (x : Nat) : x &&& M64 = x % 18446744073709551616 := Nat.and_two_pow_sub_one_eq_mod x 64
theorem setU_mask (b o : Nat) (z : Int) (w : World) (hz : IntAt w b o z) :
    Calls Tryz.prog 106 #[.pointer (some ⟨b, o, none⟩), .int .u64 18446744073709551615] w (IntGot b o (M64 : Int) w) :=
  setU_int b o z M64 w hz (by decide)
theorem M64_len : (dig M64).length ≤ 2 := dig_len_small (by decide)

theorem info_u64 : (Tryz.prog.info? 58).map (fun i => (i.zero, i.size, i.bytes)) = some (some (.int .u64 0), 1, 8) := by kernel_rfl
theorem lc_one (xs : List Nat) : ∀ u ∈ xs.flatMap Lc, u.oneCell' = true := by
  intro u hu
  obtain ⟨x, _, hx⟩ := List.mem_flatMap.1 hu
  simp [Lc] at hx
  subst hx
  rfl
/-- the lowest k limbs of N -/
def lims (N k : Nat) : List Nat := (List.range k).map fun i => N / W64 ^ i % W64
theorem lims_succ (N k : Nat) : lims N (k + 1) = lims N k ++ [N / W64 ^ k % W64] := by simp [lims, List.range_succ]
theorem lims_all (N : Nat) : lims N ((blen N + 63) / 64) = lim N := by
  refine lim_of_get (by simp [lims]) rfl fun k x hx => ?_
  unfold lims at hx
  simp only [List.getElem?_map, Option.map_eq_some_iff] at hx
  obtain ⟨a, ha, rfl⟩ := hx
  obtain ⟨hl, e⟩ := List.getElem?_eq_some_iff.1 ha
  rw [List.getElem_range] at e
  rw [e]

set_option maxRecDepth 100000 in
set_option maxHeartbeats 4000000 in
theorem limbs_ratio (b o : Nat) (x : Nat) (w : World) (hx : IntAt w b o (x : Int)) (hl : (dig x).length ≤ 1000000) :
    Calls Tryz.prog 54 #[.pointer (some ⟨b, o, none⟩)] w fun e w' => ∃ A c, e = .returned (.slice A (lim x).length c) ∧ (lim x).length ≤ c ∧ RdE Lc 1 w' (fun b => w.heap.size ≤ b ∧ b < w'.heap.size) A (lim x).length (lim x) ∧ Below w.heap.size w w' := by
  obtain ⟨i0, hi0, hz0, hz1, hz2⟩ := info_parts' info_u64
  have HX := Lib.hid hx
  have hbl := blen_bound hl
  clear hx
  go_enter Tryz.func54, Tryz.ntmps54
  go_wp2_with fail
  refine (setU_mask _ 0 0 _ (new_intAt w)).mono ?_
  rintro e w1 ⟨rfl, hi1, hu1⟩
  have hb1 := newB hu1
  have HI1 := Lib.hid hi1
  have HB1 := Lib.hid hb1
  have HX1 := Lib.hid (HX.out.below hb1)
  have z1 := hb1.size
  have hml := hi1.lt
  clear hi1 hu1 hb1
  go_wp2_with fail
  refine (bitLen_int b o (x : Int) _ HX1.out (by rw [Int.natAbs_natCast]; omega)).mono ?_
  rintro e w' ⟨rfl, rfl⟩
  rw [Int.natAbs_natCast]
  obtain ⟨L, hL⟩ : ∃ L, L = (blen x + 63) / 64 := ⟨_, rfl⟩
  have hLi : ((blen x : Int) + 63) / 64 = (L : Int) := by omega
  have hLb : L ≤ 1000000 := by omega
  have HL := Lib.hid hL
  clear hL
  have HLI := Lib.hid hLi
  clear hLi
  go_wp2_with fail
  rw [HLI.out]
  go_loopw [3, 13] (fun ov iv wr => ∃ k : Nat, k ≤ L ∧ iv = .int .i64 k ∧ wr.ownsRow w1.heap.size 58 1 ov k ((lims x k).flatMap Lc) ∧ Below w1.heap.size w1 wr) (fun _ iv _ => L - (intOf iv).toNat)
  case atStart => exact ⟨0, Nat.zero_le _, rfl, World.ownsRow_nil .., Below.refl _ _⟩
  case round =>
    obtain ⟨k, hk, rfl, hown, hbw⟩ := hrel
    have hmask := HI1.out.below hbw
    have HO := Lib.hid hown
    have HM := Lib.hid hmask
    have HBW := Lib.hid hbw
    have zr := hbw.size
    have hmlr := hmask.lt
    clear hown hmask hbw
    by_cases hlt : k < L
    · have hlt' : (k : Int) < (L : Int) := by omega
      obtain ⟨kk, hkk⟩ : ∃ kk : Nat, kk = 64 * k := ⟨_, rfl⟩
      have hkc : 64 * (k : Int) = (kk : Int) := by omega
      have hkb : kk ≤ 100000000 := by omega
      have HKK := Lib.hid hkk
      clear hkk
      have HKL := Lib.hid (show k ≤ 1000000 by omega)
      go_wp2_with fail
      refine (rsh_int _ 0 b o 0 x kk _ (new_intAt wr) ((HX1.out.below HBW.out).below (below1 ..)) (by omega) hkb).mono ?_
      rintro e w2 ⟨rfl, hi2, hu2⟩
      obtain ⟨q, hq⟩ : ∃ q, q = x / 2 ^ kk := ⟨_, rfl⟩
      rw [← hq] at hi2
      have hb2 := newB hu2
      have HQ := Lib.hid hq
      have HI2 := Lib.hid hi2
      have HB2 := Lib.hid hb2
      have hql : (dig q).length ≤ 1000000 := by
        rw [hq]
        exact Nat.le_trans (dig_len_mono (Nat.div_le_self _ _)) hl
      have HQL := Lib.hid hql
      have HM2 := Lib.hid (HM.out.below hb2)
      have ho2 := own_below HO.out hb2
      have HO2 := Lib.hid ho2
      have z2 := hb2.size
      have hil := hi2.lt
      clear hi2 hu2 hb2 hql ho2 hq
      go_wp2_with fail
      refine (and_int _ 0 _ 0 _ 0 (q : Int) (q : Int) (M64 : Int) _ HI2.out HI2.out HM2.out (by omega) (by decide) (by rw [Int.natAbs_natCast]; have := HQL.out; omega) (by rw [Int.natAbs_natCast]; have := M64_len; omega)).mono ?_
      rintro e w3 ⟨rfl, hi3, hu3⟩
      rw [Int.natAbs_natCast, Int.natAbs_natCast, M64_and] at hi3
      have HI3 := Lib.hid hi3
      have hb3 : Below wr.heap.size wr w3 := HB2.out.trans (hu3.below (Nat.le_refl _) z2)
      have HB3 := Lib.hid hb3
      have ho3 := own_below HO.out hb3
      have HO3 := Lib.hid ho3
      have z3 := hb3.size
      have HU3 := Lib.hid hu3
      clear hi3 hu3 hb3 ho3
      go_wp2_with fail
      refine (uint64_int _ 0 ((q % 18446744073709551616 : Nat) : Int) _ HI3.out).mono ?_
      rintro e w' ⟨rfl, rfl⟩
      rw [Int.natAbs_natCast, Nat.mod_mod]
      obtain ⟨v, hv⟩ : ∃ v, v = q % 18446744073709551616 := ⟨_, rfl⟩
      rw [← hv]
      have HV := Lib.hid hv
      clear hv
      obtain ⟨A3, c3, rfl, hc3, _⟩ := own_slice HO3.out
      have hoA := HO3.out.alloc (.cells #[Value.int .u64 (v : Int)] 58)
      have HOA := Lib.hid hoA
      clear hoA
      go_wp2_with (at_builtin; go_must (refine wpList_append_rd _ rfl (.tmp 22) (.tmp 28) _ rfl w1.heap.size 58 i0 _ 1 8 Tryz.underlying22 hi0 hz0 hz1 hz2 rfl (by omega) (.slice A3 k c3) k ((lims x k).flatMap Lc) rfl HOA.out (fun _ => True) (some ⟨w3.heap.size, 0, none⟩) 1 1 [.int .u64 (v : Int)] rfl (rd_blk (blk_new ..) rfl trivial) (by simp [Value.oneCell']) (by have := HKL.out; simp only [maxLen]; omega) (by omega) (by simp; omega) ?_); intro v2 w4 hown4 hg4 hat4)
      have hle : (lims x k).flatMap Lc ++ [Value.int .u64 (v : Int)] = (lims x (k + 1)).flatMap Lc := by
        rw [lims_succ, List.flatMap_append]
        congr 1
        have e1 : W64 ^ k = 2 ^ kk := by rw [HKK.out, Nat.pow_mul]
        rw [HV.out, HQ.out, e1]
        rfl
      rw [hle] at hown4
      have HO4 := Lib.hid hown4
      have HB4 := Lib.hid (Below.grown (B := w1.heap.size) (Below.refl w1.heap.size (w3.alloc (.cells #[Value.int .u64 (v : Int)] 58))) hg4 (by simp; omega) (fun g hg => (HOA.out.lt g hg).1))
      have HA4 := Lib.hid hat4
      clear hown4 hg4 hle hat4
      go_roundw
      case rel => 
        exact ⟨k + 1, by omega, by go_num, HO4.out, (HBW.out.trans (HB3.out.mono zr)).trans (((below1 ..).mono (by omega)).trans HB4.out)⟩
      case measure => simp [intOf]; omega
    · obtain rfl : L = k := by omega
      go_wp2_with fail
      go_ret
      obtain ⟨A', c', e, hc', hh⟩ := own_slice HO.out
      have hown := HO.out
      rw [e] at hown
      have hLL : lims x L = lim x := by rw [HL.out, lims_all]
      have hlen : (lim x).length = L := by rw [← hLL]; simp [lims]
      rw [hLL] at hown
      have hr := (RdE.of_own (f := Lc) (size := 1) (fun _ => rfl) (by decide) hown).imp (S' := fun b => w.heap.size ≤ b ∧ b < wr.heap.size) (fun b h => ⟨Nat.le_trans z1 h.1, h.2.1⟩)
      rw [← hlen] at e hc' hr
      exact ⟨A', c', by rw [e]; rfl, hc', hr, HB1.out.trans (HBW.out.mono z1)⟩

end Go.Proofs.YtjokpfgncmdomaaGreatDoor
