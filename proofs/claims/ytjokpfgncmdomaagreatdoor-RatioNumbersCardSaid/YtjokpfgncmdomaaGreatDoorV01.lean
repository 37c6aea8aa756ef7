import Derived.Test.YtjokpfgncmdomaaGreatDoorX19
set_option linter.unusedSimpArgs false
set_option linter.unusedVariables false
/- Rat: Mul, Quo, Add, Sub: the walks (printed by wip/Int/gen_r3.py) -/
namespace Go.Proofs.YtjokpfgncmdomaaGreatDoor
open Go.RowKit Go.Sort
/-- what the memory is while Mul's statement is worked off -/
def QuoMF (b : Nat) (w0 : World) (m1 m2 : Int) (res : Rat) (listed : Array Bool) (p1 p9 : Nat) (w : World) : Prop :=
  (lst listed 15 = true → RatAt w b res ∧ UpB w0 w b) ∧
  (lst listed 15 = false → Below w0.heap.size w0 w ∧ (lst listed 1 = true → w0.heap.size ≤ p1 ∧ IntAt w p1 0 (if lst listed 7 = true then m1 else 0)) ∧ (lst listed 8 = true → w0.heap.size ≤ p9 ∧ IntAt w p9 0 (if lst listed 14 = true then m2 else 0)) ∧ (lst listed 1 = true → lst listed 8 = true → p1 ≠ p9))
theorem QuoMF.set {b : Nat} {w0 : World} {m1 m2 : Int} {res : Rat} {listed : Array Bool} {p1 p9 : Nat} {w : World} (h : QuoMF b w0 m1 m2 res listed p1 p9 w) {i : Nat} (h1 : i ≠ 1) (hc : i ≠ 7) (ha : i ≠ 8) (h14 : i ≠ 14) (h15 : i ≠ 15) : QuoMF b w0 m1 m2 res (listed.setIfInBounds i true) p1 p9 w := by
  unfold QuoMF at h ⊢
  rw [lst_ne h1, lst_ne hc, lst_ne ha, lst_ne h14, lst_ne h15]
  exact h

set_option maxRecDepth 100000 in
def QuoJ (b b1 b2 : Nat) (w0 : World) (m1 m2 : Int) (res : Rat) (listed : Array Bool) (a : Act) (w : World) : Prop := ∃ p1 p9 : Nat, a = ⟨#[(.pointer (some ⟨b, 0, none⟩)), (.pointer (some ⟨b1, 0, none⟩)), (.pointer (some ⟨b2, 0, none⟩)), (undef), (undef), (undef), ((iv (lst listed 16) (.pointer (some ⟨b, 0, none⟩)) (.pointer none))), ((iv (lst listed 0) (.pointer (some ⟨b, 0, none⟩)) (undef))), ((iv (lst listed 1) (.pointer (some ⟨p1, 0, none⟩)) (undef))), ((iv (lst listed 2) (.pointer (some ⟨b1, 0, none⟩)) (undef))), ((iv (lst listed 3) (.pointer (some ⟨b1, 0, none⟩)) (undef))), ((iv (lst listed 4) (.pointer (some ⟨b1, 0, none⟩)) (undef))), ((iv (lst listed 5) (.pointer (some ⟨b2, 0, none⟩)) (undef))), ((iv (lst listed 6) (.pointer (some ⟨b2, 2, none⟩)) (undef))), ((iv (lst listed 7) (.pointer (some ⟨p1, 0, none⟩)) (undef))), ((iv (lst listed 8) (.pointer (some ⟨p9, 0, none⟩)) (undef))), ((iv (lst listed 9) (.pointer (some ⟨b1, 0, none⟩)) (undef))), ((iv (lst listed 10) (.pointer (some ⟨b1, 2, none⟩)) (undef))), ((iv (lst listed 11) (.pointer (some ⟨b2, 0, none⟩)) (undef))), ((iv (lst listed 12) (.pointer (some ⟨b2, 0, none⟩)) (undef))), ((iv (lst listed 13) (.pointer (some ⟨b2, 0, none⟩)) (undef))), ((iv (lst listed 14) (.pointer (some ⟨p9, 0, none⟩)) (undef))), ((iv (lst listed 15) (.pointer (some ⟨b, 0, none⟩)) (undef)))], []⟩ ∧ QuoMF b w0 m1 m2 res listed p1 p9 w

set_option maxRecDepth 100000 in
set_option maxHeartbeats 8000000 in
theorem quo_rat (b b1 b2 : Nat) (x y : Rat) (w : World) (hz : RatObj w b) (hx : RatAt w b1 x) (hy : RatAt w b2 y)
    (hxn : (dig x.num.natAbs).length ≤ 400000) (hxd : (dig x.den).length ≤ 400000) (hyn : (dig y.num.natAbs).length ≤ 400000) (hyd : (dig y.den).length ≤ 400000) (hne0 : y.num ≠ 0) :
    Calls Tryz.prog 71 #[.pointer (some ⟨b, 0, none⟩), .pointer (some ⟨b1, 0, none⟩), .pointer (some ⟨b2, 0, none⟩)] w fun e w' => e = .returned (.pointer (some ⟨b, 0, none⟩)) ∧ RatAt w' b (Rat.divInt (x.num * (y.den : Int)) ((x.den : Int) * y.num)) ∧ UpB w w' b := by
  have HZ := Lib.hid hz
  have HX := Lib.hid hx
  have HY := Lib.hid hy
  have hblt : b < w.heap.size := by obtain ⟨_, _, h, _⟩ := hz; exact h.lt
  clear hz hx hy
  obtain ⟨w0, hw0⟩ : ∃ w0 : World, w0 = w := ⟨_, rfl⟩
  go_enter Tryz.func71, Tryz.ntmps71
  go_wp2_with fail
  refine wp_region_inv (QuoJ b b1 b2 w (x.num * (y.den : Int)) ((x.den : Int) * y.num) (Rat.divInt (x.num * (y.den : Int)) ((x.den : Int) * y.num))) (by kernel_rfl) ?_ ?_ ?_
  · refine ⟨0, 0, rfl, fun h => ?_, fun _ => ⟨(Below.refl _ _).drew, fun h => ?_, fun h => ?_, fun h => ?_⟩⟩
    all_goals (exact absurd h (by decide))
  · intro listed a w1 hs hcl hJ i hi
    obtain ⟨p1, p9, rfl, hmf⟩ := hJ
    have hlt : i < 17 := by
      obtain ⟨_, o, ho, _⟩ := mem_ready.1 hi
      exact (Array.getElem?_eq_some_iff.1 ho).1
    have HSZ : Hid (listed.size = 17) := Lib.hid hs
    refine inv_deps (J := QuoJ b b1 b2 w (x.num * (y.den : Int)) ((x.den : Int) * y.num) (Rat.divInt (x.num * (y.den : Int)) ((x.den : Int) * y.num))) hi fun hu hdep => ?_
    clear hs hi
    rcases (show i = 0 ∨ i = 1 ∨ i = 2 ∨ i = 3 ∨ i = 4 ∨ i = 5 ∨ i = 6 ∨ i = 7 ∨ i = 8 ∨ i = 9 ∨ i = 10 ∨ i = 11 ∨ i = 12 ∨ i = 13 ∨ i = 14 ∨ i = 15 ∨ i = 16 by omega) with rfl | rfl | rfl | rfl | rfl | rfl | rfl | rfl | rfl | rfl | rfl | rfl | rfl | rfl | rfl | rfl | rfl
    · -- operation 0
      refine inv_op rfl (fun K hK => ?_)
      go_simp
      refine hK.out _ _ ⟨p1, p9, ?_, hmf.set (by decide) (by decide) (by decide) (by decide) (by decide)⟩
      try simp only [Act.put, lyD, lyE, lyF]
      rw [lst_self (show 0 < listed.size by rw [HSZ.out]; decide)]
      simp only [lst_ne (show 0 ≠ 1 by decide), lst_ne (show 0 ≠ 2 by decide), lst_ne (show 0 ≠ 3 by decide), lst_ne (show 0 ≠ 4 by decide), lst_ne (show 0 ≠ 5 by decide), lst_ne (show 0 ≠ 6 by decide), lst_ne (show 0 ≠ 7 by decide), lst_ne (show 0 ≠ 8 by decide), lst_ne (show 0 ≠ 9 by decide), lst_ne (show 0 ≠ 10 by decide), lst_ne (show 0 ≠ 11 by decide), lst_ne (show 0 ≠ 12 by decide), lst_ne (show 0 ≠ 13 by decide), lst_ne (show 0 ≠ 14 by decide), lst_ne (show 0 ≠ 15 by decide), lst_ne (show 0 ≠ 16 by decide), iv_true]
    · -- operation 1
      refine inv_op rfl (fun K hK => ?_)
      go_simp
      have n15 : lst listed 15 = false := closed_not hcl 8 (by kernel_rfl) hu
      have hm2 := hmf.2 n15
      have zw := hm2.1.size
      have n8 : lst listed 7 = false := closed_not hcl 8 (by kernel_rfl) hu
      have lz : w1.heap.size < (w1.alloc newI).heap.size := by simp
      refine hK.out _ _ ⟨w1.heap.size, p9, ?_, ?_⟩
      · try simp only [Act.put, lyD, lyE, lyF]
        rw [lst_self (show 1 < listed.size by rw [HSZ.out]; decide)]
        simp only [lst_ne (show 1 ≠ 0 by decide), lst_ne (show 1 ≠ 2 by decide), lst_ne (show 1 ≠ 3 by decide), lst_ne (show 1 ≠ 4 by decide), lst_ne (show 1 ≠ 5 by decide), lst_ne (show 1 ≠ 6 by decide), lst_ne (show 1 ≠ 7 by decide), lst_ne (show 1 ≠ 8 by decide), lst_ne (show 1 ≠ 9 by decide), lst_ne (show 1 ≠ 10 by decide), lst_ne (show 1 ≠ 11 by decide), lst_ne (show 1 ≠ 12 by decide), lst_ne (show 1 ≠ 13 by decide), lst_ne (show 1 ≠ 14 by decide), lst_ne (show 1 ≠ 15 by decide), lst_ne (show 1 ≠ 16 by decide), iv_true, n8, iv_false]
      · refine ⟨fun h => ?_, fun _ => ⟨hm2.1.alloc zw _, fun _ => ⟨zw, ?_⟩, fun h => ?_, fun _ h => ?_⟩⟩
        · rw [lst_ne (by decide), n15] at h; cases h
        · rw [lst_ne (by decide), n8]; exact new_intAt w1
        · rw [lst_ne (by decide)] at h
          rw [lst_ne (by decide)]
          exact ⟨(hm2.2.2.1 h).1, (hm2.2.2.1 h).2.below (below1 w1 _)⟩
        · rw [lst_ne (by decide)] at h
          have := (hm2.2.2.1 h).2.lt
          omega
    · -- operation 2
      refine inv_op rfl (fun K hK => ?_)
      go_simp
      refine hK.out _ _ ⟨p1, p9, ?_, hmf.set (by decide) (by decide) (by decide) (by decide) (by decide)⟩
      try simp only [Act.put, lyD, lyE, lyF]
      rw [lst_self (show 2 < listed.size by rw [HSZ.out]; decide)]
      simp only [lst_ne (show 2 ≠ 0 by decide), lst_ne (show 2 ≠ 1 by decide), lst_ne (show 2 ≠ 3 by decide), lst_ne (show 2 ≠ 4 by decide), lst_ne (show 2 ≠ 5 by decide), lst_ne (show 2 ≠ 6 by decide), lst_ne (show 2 ≠ 7 by decide), lst_ne (show 2 ≠ 8 by decide), lst_ne (show 2 ≠ 9 by decide), lst_ne (show 2 ≠ 10 by decide), lst_ne (show 2 ≠ 11 by decide), lst_ne (show 2 ≠ 12 by decide), lst_ne (show 2 ≠ 13 by decide), lst_ne (show 2 ≠ 14 by decide), lst_ne (show 2 ≠ 15 by decide), lst_ne (show 2 ≠ 16 by decide), iv_true]
    · -- operation 3
      have d2 : lst listed 2 = true := hdep 2 (by kernel_rfl)
      refine inv_op rfl (fun K hK => ?_)
      simp only [d2, iv_true]
      go_simp
      refine hK.out _ _ ⟨p1, p9, ?_, hmf.set (by decide) (by decide) (by decide) (by decide) (by decide)⟩
      try simp only [Act.put, lyD, lyE, lyF]
      rw [lst_self (show 3 < listed.size by rw [HSZ.out]; decide)]
      simp only [lst_ne (show 3 ≠ 0 by decide), lst_ne (show 3 ≠ 1 by decide), lst_ne (show 3 ≠ 2 by decide), lst_ne (show 3 ≠ 4 by decide), lst_ne (show 3 ≠ 5 by decide), lst_ne (show 3 ≠ 6 by decide), lst_ne (show 3 ≠ 7 by decide), lst_ne (show 3 ≠ 8 by decide), lst_ne (show 3 ≠ 9 by decide), lst_ne (show 3 ≠ 10 by decide), lst_ne (show 3 ≠ 11 by decide), lst_ne (show 3 ≠ 12 by decide), lst_ne (show 3 ≠ 13 by decide), lst_ne (show 3 ≠ 14 by decide), lst_ne (show 3 ≠ 15 by decide), lst_ne (show 3 ≠ 16 by decide), iv_true, d2]
    · -- operation 4
      have d3 : lst listed 3 = true := hdep 3 (by kernel_rfl)
      refine inv_op rfl (fun K hK => ?_)
      simp only [d3, iv_true]
      go_simp
      refine hK.out _ _ ⟨p1, p9, ?_, hmf.set (by decide) (by decide) (by decide) (by decide) (by decide)⟩
      try simp only [Act.put, lyD, lyE, lyF]
      rw [lst_self (show 4 < listed.size by rw [HSZ.out]; decide)]
      simp only [lst_ne (show 4 ≠ 0 by decide), lst_ne (show 4 ≠ 1 by decide), lst_ne (show 4 ≠ 2 by decide), lst_ne (show 4 ≠ 3 by decide), lst_ne (show 4 ≠ 5 by decide), lst_ne (show 4 ≠ 6 by decide), lst_ne (show 4 ≠ 7 by decide), lst_ne (show 4 ≠ 8 by decide), lst_ne (show 4 ≠ 9 by decide), lst_ne (show 4 ≠ 10 by decide), lst_ne (show 4 ≠ 11 by decide), lst_ne (show 4 ≠ 12 by decide), lst_ne (show 4 ≠ 13 by decide), lst_ne (show 4 ≠ 14 by decide), lst_ne (show 4 ≠ 15 by decide), lst_ne (show 4 ≠ 16 by decide), iv_true, d3]
    · -- operation 5
      refine inv_op rfl (fun K hK => ?_)
      go_simp
      refine hK.out _ _ ⟨p1, p9, ?_, hmf.set (by decide) (by decide) (by decide) (by decide) (by decide)⟩
      try simp only [Act.put, lyD, lyE, lyF]
      rw [lst_self (show 5 < listed.size by rw [HSZ.out]; decide)]
      simp only [lst_ne (show 5 ≠ 0 by decide), lst_ne (show 5 ≠ 1 by decide), lst_ne (show 5 ≠ 2 by decide), lst_ne (show 5 ≠ 3 by decide), lst_ne (show 5 ≠ 4 by decide), lst_ne (show 5 ≠ 6 by decide), lst_ne (show 5 ≠ 7 by decide), lst_ne (show 5 ≠ 8 by decide), lst_ne (show 5 ≠ 9 by decide), lst_ne (show 5 ≠ 10 by decide), lst_ne (show 5 ≠ 11 by decide), lst_ne (show 5 ≠ 12 by decide), lst_ne (show 5 ≠ 13 by decide), lst_ne (show 5 ≠ 14 by decide), lst_ne (show 5 ≠ 15 by decide), lst_ne (show 5 ≠ 16 by decide), iv_true]
    · -- operation 6
      have d5 : lst listed 5 = true := hdep 5 (by kernel_rfl)
      refine inv_op rfl (fun K hK => ?_)
      simp only [d5, iv_true]
      go_simp
      have n15 : lst listed 15 = false := closed_not hcl 8 (by kernel_rfl) hu
      have hm2 := hmf.2 n15
      have zw := hm2.1.size
      refine (den_rat b2 y w1 (HY.out.below hm2.1)).mono ?_
      rintro e w' ⟨rfl, rfl⟩
      clear n15
      try go_wp2_with fail
      refine hK.out _ _ ⟨p1, p9, ?_, hmf.set (by decide) (by decide) (by decide) (by decide) (by decide)⟩
      try simp only [Act.put, lyD, lyE, lyF]
      rw [lst_self (show 6 < listed.size by rw [HSZ.out]; decide)]
      simp only [lst_ne (show 6 ≠ 0 by decide), lst_ne (show 6 ≠ 1 by decide), lst_ne (show 6 ≠ 2 by decide), lst_ne (show 6 ≠ 3 by decide), lst_ne (show 6 ≠ 4 by decide), lst_ne (show 6 ≠ 5 by decide), lst_ne (show 6 ≠ 7 by decide), lst_ne (show 6 ≠ 8 by decide), lst_ne (show 6 ≠ 9 by decide), lst_ne (show 6 ≠ 10 by decide), lst_ne (show 6 ≠ 11 by decide), lst_ne (show 6 ≠ 12 by decide), lst_ne (show 6 ≠ 13 by decide), lst_ne (show 6 ≠ 14 by decide), lst_ne (show 6 ≠ 15 by decide), lst_ne (show 6 ≠ 16 by decide), iv_true, d5]
    · -- operation 7
      have d1 : lst listed 1 = true := hdep 1 (by kernel_rfl)
      have d4 : lst listed 4 = true := hdep 4 (by kernel_rfl)
      have d6 : lst listed 6 = true := hdep 6 (by kernel_rfl)
      refine inv_op rfl (fun K hK => ?_)
      simp only [d1, d4, d6, iv_true]
      go_simp
      have n15 : lst listed 15 = false := closed_not hcl 8 (by kernel_rfl) hu
      have hm2 := hmf.2 n15
      have zw := hm2.1.size
      have nI : lst listed 7 = false := hu
      have hme := hm2.2.1 d1
      rw [nI] at hme
      refine (mul_int p1 0 b1 0 b2 2 0 x.num (y.den : Int) w1 hme.2 (HX.out.below hm2.1).1 (HY.out.below hm2.1).2 (by omega) (by rw [Int.natAbs_natCast]; omega)).mono ?_
      rintro e w2 ⟨rfl, hi2, hu2⟩
      have hbz : b < w1.heap.size := by omega
      clear nI n15
      try go_wp2_with fail
      have n15 : lst listed 15 = false := closed_not hcl 8 (by kernel_rfl) hu
      refine hK.out _ _ ⟨p1, p9, ?_, ?_⟩
      · try simp only [Act.put, lyD, lyE, lyF]
        rw [lst_self (show 7 < listed.size by rw [HSZ.out]; decide)]
        simp only [lst_ne (show 7 ≠ 0 by decide), lst_ne (show 7 ≠ 1 by decide), lst_ne (show 7 ≠ 2 by decide), lst_ne (show 7 ≠ 3 by decide), lst_ne (show 7 ≠ 4 by decide), lst_ne (show 7 ≠ 5 by decide), lst_ne (show 7 ≠ 6 by decide), lst_ne (show 7 ≠ 8 by decide), lst_ne (show 7 ≠ 9 by decide), lst_ne (show 7 ≠ 10 by decide), lst_ne (show 7 ≠ 11 by decide), lst_ne (show 7 ≠ 12 by decide), lst_ne (show 7 ≠ 13 by decide), lst_ne (show 7 ≠ 14 by decide), lst_ne (show 7 ≠ 15 by decide), lst_ne (show 7 ≠ 16 by decide), iv_true, d1, d4, d6]
      · refine ⟨fun h => ?_, fun _ => ⟨hm2.1.trans (hu2.toB.below hme.1 zw), fun h => ?_, fun h => ?_, fun h h' => ?_⟩⟩
        · rw [lst_ne (by decide), n15] at h; cases h
        · rw [lst_self (show 7 < listed.size by rw [HSZ.out]; decide)]
          exact ⟨hme.1, hi2⟩
        · rw [lst_ne (by decide)] at h
          rw [lst_ne (by decide)]
          have hne := hm2.2.2.2 d1 h
          exact ⟨(hm2.2.2.1 h).1, (hm2.2.2.1 h).2.upd hu2 (fun e => absurd e (by omega))⟩
        · rw [lst_ne (by decide)] at h h'
          exact hm2.2.2.2 h h'
    · -- operation 8
      refine inv_op rfl (fun K hK => ?_)
      go_simp
      have n15 : lst listed 15 = false := closed_not hcl 8 (by kernel_rfl) hu
      have hm2 := hmf.2 n15
      have zw := hm2.1.size
      have n14 : lst listed 14 = false := closed_not hcl 8 (by kernel_rfl) hu
      refine hK.out _ _ ⟨p1, w1.heap.size, ?_, ?_⟩
      · try simp only [Act.put, lyD, lyE, lyF]
        rw [lst_self (show 8 < listed.size by rw [HSZ.out]; decide)]
        simp only [lst_ne (show 8 ≠ 0 by decide), lst_ne (show 8 ≠ 1 by decide), lst_ne (show 8 ≠ 2 by decide), lst_ne (show 8 ≠ 3 by decide), lst_ne (show 8 ≠ 4 by decide), lst_ne (show 8 ≠ 5 by decide), lst_ne (show 8 ≠ 6 by decide), lst_ne (show 8 ≠ 7 by decide), lst_ne (show 8 ≠ 9 by decide), lst_ne (show 8 ≠ 10 by decide), lst_ne (show 8 ≠ 11 by decide), lst_ne (show 8 ≠ 12 by decide), lst_ne (show 8 ≠ 13 by decide), lst_ne (show 8 ≠ 14 by decide), lst_ne (show 8 ≠ 15 by decide), lst_ne (show 8 ≠ 16 by decide), iv_true, n14, iv_false]
      · refine ⟨fun h => ?_, fun _ => ⟨hm2.1.alloc zw _, fun h => ?_, fun _ => ⟨zw, ?_⟩, fun h _ => ?_⟩⟩
        · rw [lst_ne (by decide), n15] at h; cases h
        · rw [lst_ne (by decide)] at h
          rw [lst_ne (by decide)]
          exact ⟨(hm2.2.1 h).1, (hm2.2.1 h).2.below (below1 w1 _)⟩
        · rw [lst_ne (by decide), n14]; exact new_intAt w1
        · rw [lst_ne (by decide)] at h
          have := (hm2.2.1 h).2.lt
          omega
    · -- operation 9
      refine inv_op rfl (fun K hK => ?_)
      go_simp
      refine hK.out _ _ ⟨p1, p9, ?_, hmf.set (by decide) (by decide) (by decide) (by decide) (by decide)⟩
      try simp only [Act.put, lyD, lyE, lyF]
      rw [lst_self (show 9 < listed.size by rw [HSZ.out]; decide)]
      simp only [lst_ne (show 9 ≠ 0 by decide), lst_ne (show 9 ≠ 1 by decide), lst_ne (show 9 ≠ 2 by decide), lst_ne (show 9 ≠ 3 by decide), lst_ne (show 9 ≠ 4 by decide), lst_ne (show 9 ≠ 5 by decide), lst_ne (show 9 ≠ 6 by decide), lst_ne (show 9 ≠ 7 by decide), lst_ne (show 9 ≠ 8 by decide), lst_ne (show 9 ≠ 10 by decide), lst_ne (show 9 ≠ 11 by decide), lst_ne (show 9 ≠ 12 by decide), lst_ne (show 9 ≠ 13 by decide), lst_ne (show 9 ≠ 14 by decide), lst_ne (show 9 ≠ 15 by decide), lst_ne (show 9 ≠ 16 by decide), iv_true]
    · -- operation 10
      have d9 : lst listed 9 = true := hdep 9 (by kernel_rfl)
      refine inv_op rfl (fun K hK => ?_)
      simp only [d9, iv_true]
      go_simp
      have n15 : lst listed 15 = false := closed_not hcl 8 (by kernel_rfl) hu
      have hm2 := hmf.2 n15
      have zw := hm2.1.size
      refine (den_rat b1 x w1 (HX.out.below hm2.1)).mono ?_
      rintro e w' ⟨rfl, rfl⟩
      clear n15
      try go_wp2_with fail
      refine hK.out _ _ ⟨p1, p9, ?_, hmf.set (by decide) (by decide) (by decide) (by decide) (by decide)⟩
      try simp only [Act.put, lyD, lyE, lyF]
      rw [lst_self (show 10 < listed.size by rw [HSZ.out]; decide)]
      simp only [lst_ne (show 10 ≠ 0 by decide), lst_ne (show 10 ≠ 1 by decide), lst_ne (show 10 ≠ 2 by decide), lst_ne (show 10 ≠ 3 by decide), lst_ne (show 10 ≠ 4 by decide), lst_ne (show 10 ≠ 5 by decide), lst_ne (show 10 ≠ 6 by decide), lst_ne (show 10 ≠ 7 by decide), lst_ne (show 10 ≠ 8 by decide), lst_ne (show 10 ≠ 9 by decide), lst_ne (show 10 ≠ 11 by decide), lst_ne (show 10 ≠ 12 by decide), lst_ne (show 10 ≠ 13 by decide), lst_ne (show 10 ≠ 14 by decide), lst_ne (show 10 ≠ 15 by decide), lst_ne (show 10 ≠ 16 by decide), iv_true, d9]
    · -- operation 11
      refine inv_op rfl (fun K hK => ?_)
      go_simp
      refine hK.out _ _ ⟨p1, p9, ?_, hmf.set (by decide) (by decide) (by decide) (by decide) (by decide)⟩
      try simp only [Act.put, lyD, lyE, lyF]
      rw [lst_self (show 11 < listed.size by rw [HSZ.out]; decide)]
      simp only [lst_ne (show 11 ≠ 0 by decide), lst_ne (show 11 ≠ 1 by decide), lst_ne (show 11 ≠ 2 by decide), lst_ne (show 11 ≠ 3 by decide), lst_ne (show 11 ≠ 4 by decide), lst_ne (show 11 ≠ 5 by decide), lst_ne (show 11 ≠ 6 by decide), lst_ne (show 11 ≠ 7 by decide), lst_ne (show 11 ≠ 8 by decide), lst_ne (show 11 ≠ 9 by decide), lst_ne (show 11 ≠ 10 by decide), lst_ne (show 11 ≠ 12 by decide), lst_ne (show 11 ≠ 13 by decide), lst_ne (show 11 ≠ 14 by decide), lst_ne (show 11 ≠ 15 by decide), lst_ne (show 11 ≠ 16 by decide), iv_true]
    · -- operation 12
      have d11 : lst listed 11 = true := hdep 11 (by kernel_rfl)
      refine inv_op rfl (fun K hK => ?_)
      simp only [d11, iv_true]
      go_simp
      refine hK.out _ _ ⟨p1, p9, ?_, hmf.set (by decide) (by decide) (by decide) (by decide) (by decide)⟩
      try simp only [Act.put, lyD, lyE, lyF]
      rw [lst_self (show 12 < listed.size by rw [HSZ.out]; decide)]
      simp only [lst_ne (show 12 ≠ 0 by decide), lst_ne (show 12 ≠ 1 by decide), lst_ne (show 12 ≠ 2 by decide), lst_ne (show 12 ≠ 3 by decide), lst_ne (show 12 ≠ 4 by decide), lst_ne (show 12 ≠ 5 by decide), lst_ne (show 12 ≠ 6 by decide), lst_ne (show 12 ≠ 7 by decide), lst_ne (show 12 ≠ 8 by decide), lst_ne (show 12 ≠ 9 by decide), lst_ne (show 12 ≠ 10 by decide), lst_ne (show 12 ≠ 11 by decide), lst_ne (show 12 ≠ 13 by decide), lst_ne (show 12 ≠ 14 by decide), lst_ne (show 12 ≠ 15 by decide), lst_ne (show 12 ≠ 16 by decide), iv_true, d11]
    · -- operation 13
      have d12 : lst listed 12 = true := hdep 12 (by kernel_rfl)
      refine inv_op rfl (fun K hK => ?_)
      simp only [d12, iv_true]
      go_simp
      refine hK.out _ _ ⟨p1, p9, ?_, hmf.set (by decide) (by decide) (by decide) (by decide) (by decide)⟩
      try simp only [Act.put, lyD, lyE, lyF]
      rw [lst_self (show 13 < listed.size by rw [HSZ.out]; decide)]
      simp only [lst_ne (show 13 ≠ 0 by decide), lst_ne (show 13 ≠ 1 by decide), lst_ne (show 13 ≠ 2 by decide), lst_ne (show 13 ≠ 3 by decide), lst_ne (show 13 ≠ 4 by decide), lst_ne (show 13 ≠ 5 by decide), lst_ne (show 13 ≠ 6 by decide), lst_ne (show 13 ≠ 7 by decide), lst_ne (show 13 ≠ 8 by decide), lst_ne (show 13 ≠ 9 by decide), lst_ne (show 13 ≠ 10 by decide), lst_ne (show 13 ≠ 11 by decide), lst_ne (show 13 ≠ 12 by decide), lst_ne (show 13 ≠ 14 by decide), lst_ne (show 13 ≠ 15 by decide), lst_ne (show 13 ≠ 16 by decide), iv_true, d12]
    · -- operation 14
      have d8 : lst listed 8 = true := hdep 8 (by kernel_rfl)
      have d10 : lst listed 10 = true := hdep 10 (by kernel_rfl)
      have d13 : lst listed 13 = true := hdep 13 (by kernel_rfl)
      refine inv_op rfl (fun K hK => ?_)
      simp only [d8, d10, d13, iv_true]
      go_simp
      have n15 : lst listed 15 = false := closed_not hcl 8 (by kernel_rfl) hu
      have hm2 := hmf.2 n15
      have zw := hm2.1.size
      have nI : lst listed 14 = false := hu
      have hme := hm2.2.2.1 d8
      rw [nI] at hme
      refine (mul_int p9 0 b1 2 b2 0 0 (x.den : Int) y.num w1 hme.2 (HX.out.below hm2.1).2 (HY.out.below hm2.1).1 (by rw [Int.natAbs_natCast]; omega) (by omega)).mono ?_
      rintro e w2 ⟨rfl, hi2, hu2⟩
      have hbz : b < w1.heap.size := by omega
      clear nI n15
      try go_wp2_with fail
      have n15 : lst listed 15 = false := closed_not hcl 8 (by kernel_rfl) hu
      refine hK.out _ _ ⟨p1, p9, ?_, ?_⟩
      · try simp only [Act.put, lyD, lyE, lyF]
        rw [lst_self (show 14 < listed.size by rw [HSZ.out]; decide)]
        simp only [lst_ne (show 14 ≠ 0 by decide), lst_ne (show 14 ≠ 1 by decide), lst_ne (show 14 ≠ 2 by decide), lst_ne (show 14 ≠ 3 by decide), lst_ne (show 14 ≠ 4 by decide), lst_ne (show 14 ≠ 5 by decide), lst_ne (show 14 ≠ 6 by decide), lst_ne (show 14 ≠ 7 by decide), lst_ne (show 14 ≠ 8 by decide), lst_ne (show 14 ≠ 9 by decide), lst_ne (show 14 ≠ 10 by decide), lst_ne (show 14 ≠ 11 by decide), lst_ne (show 14 ≠ 12 by decide), lst_ne (show 14 ≠ 13 by decide), lst_ne (show 14 ≠ 15 by decide), lst_ne (show 14 ≠ 16 by decide), iv_true, d8, d10, d13]
      · refine ⟨fun h => ?_, fun _ => ⟨hm2.1.trans (hu2.toB.below hme.1 zw), fun h => ?_, fun h => ?_, fun h h' => ?_⟩⟩
        · rw [lst_ne (by decide), n15] at h; cases h
        · rw [lst_ne (by decide)] at h
          rw [lst_ne (by decide)]
          have hne := hm2.2.2.2 h d8
          exact ⟨(hm2.2.1 h).1, (hm2.2.1 h).2.upd hu2 (fun e => absurd e (by omega))⟩
        · rw [lst_self (show 14 < listed.size by rw [HSZ.out]; decide)]
          exact ⟨hme.1, hi2⟩
        · rw [lst_ne (by decide)] at h h'
          exact hm2.2.2.2 h h'
    · -- operation 15
      have d0 : lst listed 0 = true := hdep 0 (by kernel_rfl)
      have d7 : lst listed 7 = true := hdep 7 (by kernel_rfl)
      have d14 : lst listed 14 = true := hdep 14 (by kernel_rfl)
      refine inv_op rfl (fun K hK => ?_)
      simp only [d0, d7, d14, iv_true]
      go_simp
      have n15 : lst listed 15 = false := hu
      have hm2 := hmf.2 n15
      have zw := hm2.1.size
      have d1 : lst listed 1 = true := closed_dep hcl 8 (by kernel_rfl) d7
      have d9 : lst listed 8 = true := closed_dep hcl 8 (by kernel_rfl) d14
      have h1 := hm2.2.1 d1
      have h9 := hm2.2.2.1 d9
      rw [d7] at h1
      rw [d14] at h9
      refine (setFrac_rat b p1 0 p9 0 (x.num * (y.den : Int)) ((x.den : Int) * y.num) w1 (HZ.out.below hm2.1) h1.2 h9.2 (Int.mul_ne_zero (by have := x.den_nz; omega) hne0) (by have := mul_len x.num.natAbs y.den; rw [Int.natAbs_mul, Int.natAbs_natCast]; omega) (by have := mul_len x.den y.num.natAbs; rw [Int.natAbs_mul, Int.natAbs_natCast]; omega)).mono ?_
      rintro e w2 ⟨rfl, hr2, hu2⟩
      clear n15 d1 d9
      try go_wp2_with fail
      refine hK.out _ _ ⟨p1, p9, ?_, ?_⟩
      · try simp only [Act.put, lyD, lyE, lyF]
        rw [lst_self (show 15 < listed.size by rw [HSZ.out]; decide)]
        simp only [lst_ne (show 15 ≠ 0 by decide), lst_ne (show 15 ≠ 1 by decide), lst_ne (show 15 ≠ 2 by decide), lst_ne (show 15 ≠ 3 by decide), lst_ne (show 15 ≠ 4 by decide), lst_ne (show 15 ≠ 5 by decide), lst_ne (show 15 ≠ 6 by decide), lst_ne (show 15 ≠ 7 by decide), lst_ne (show 15 ≠ 8 by decide), lst_ne (show 15 ≠ 9 by decide), lst_ne (show 15 ≠ 10 by decide), lst_ne (show 15 ≠ 11 by decide), lst_ne (show 15 ≠ 12 by decide), lst_ne (show 15 ≠ 13 by decide), lst_ne (show 15 ≠ 14 by decide), lst_ne (show 15 ≠ 16 by decide), iv_true, d0, d7, d14]
      · refine ⟨fun _ => ⟨hr2, (UpB.of_below b hm2.1).trans hu2⟩, fun h => ?_⟩
        rw [lst_self (show 15 < listed.size by rw [HSZ.out]; decide)] at h; cases h
    · -- operation 16
      have d15 : lst listed 15 = true := hdep 15 (by kernel_rfl)
      refine inv_op rfl (fun K hK => ?_)
      simp only [d15, iv_true]
      go_simp
      refine hK.out _ _ ⟨p1, p9, ?_, hmf.set (by decide) (by decide) (by decide) (by decide) (by decide)⟩
      try simp only [Act.put, lyD, lyE, lyF]
      rw [lst_self (show 16 < listed.size by rw [HSZ.out]; decide)]
      simp only [lst_ne (show 16 ≠ 0 by decide), lst_ne (show 16 ≠ 1 by decide), lst_ne (show 16 ≠ 2 by decide), lst_ne (show 16 ≠ 3 by decide), lst_ne (show 16 ≠ 4 by decide), lst_ne (show 16 ≠ 5 by decide), lst_ne (show 16 ≠ 6 by decide), lst_ne (show 16 ≠ 7 by decide), lst_ne (show 16 ≠ 8 by decide), lst_ne (show 16 ≠ 9 by decide), lst_ne (show 16 ≠ 10 by decide), lst_ne (show 16 ≠ 11 by decide), lst_ne (show 16 ≠ 12 by decide), lst_ne (show 16 ≠ 13 by decide), lst_ne (show 16 ≠ 14 by decide), lst_ne (show 16 ≠ 15 by decide), iv_true, d15]
  · intro listed a w1 hs hr hJ
    obtain ⟨p1, p9, rfl, hmf⟩ := hJ
    have hall := all_listed hs hr (by kernel_rfl)
    have l15 : lst listed 15 = true := hall 15 (by decide)
    have HM := Lib.hid (hmf.1 l15)
    simp only [(show lst listed 0 = true from hall 0 (by decide)), (show lst listed 1 = true from hall 1 (by decide)), (show lst listed 2 = true from hall 2 (by decide)), (show lst listed 3 = true from hall 3 (by decide)), (show lst listed 4 = true from hall 4 (by decide)), (show lst listed 5 = true from hall 5 (by decide)), (show lst listed 6 = true from hall 6 (by decide)), (show lst listed 7 = true from hall 7 (by decide)), (show lst listed 8 = true from hall 8 (by decide)), (show lst listed 9 = true from hall 9 (by decide)), (show lst listed 10 = true from hall 10 (by decide)), (show lst listed 11 = true from hall 11 (by decide)), (show lst listed 12 = true from hall 12 (by decide)), (show lst listed 13 = true from hall 13 (by decide)), (show lst listed 14 = true from hall 14 (by decide)), (show lst listed 15 = true from hall 15 (by decide)), (show lst listed 16 = true from hall 16 (by decide)), iv_true]
    clear hmf hall l15 hs hr
    go_wp2_with fail
    go_ret
    exact ⟨rfl, HM.out.1, HM.out.2⟩


end Go.Proofs.YtjokpfgncmdomaaGreatDoor

/- ratio.nought, top: the walks -/
namespace Go.Proofs.YtjokpfgncmdomaaGreatDoor
open Go.RowKit Go.Sort

theorem nought1_ratio (x : Nat) (w : World) : Calls Tryz.prog 130 #[.int .u64 (x : Int)] w fun e w' => e = .returned (.bool (decide (x ≠ 0))) ∧ w = w' := by
  go_enter Tryz.func130, Tryz.ntmps130
  go_wp2_with fail
  go_ret
  refine ⟨?_, rfl⟩
  show Ending.returned (.bool ((x : Int) != 0)) = _
  by_cases h : x = 0 <;> simp [h]

set_option maxRecDepth 100000 in
set_option maxHeartbeats 4000000 in
theorem index_ratio (A : Option Addr) (n c : Nat) (xs : List Nat) (S : Nat → Prop) (w : World) (hx : RdE Lc 1 w S A n xs) (hn : n ≤ 1000000000000000) :
    Calls Tryz.prog 164 #[.slice A n c, .func (Fn.func 130) #[] #[]] w fun e w' => ∃ z : Int, e = .returned (.int .i64 z) ∧ decide (0 ≤ z) = decide (ln xs ≠ 0) ∧ w = w' := by
  have HX := Lib.hid hx
  clear hx
  go_enter Tryz.func164, Tryz.ntmps164
  go_wp2_with fail
  go_loopw [8] (fun i wr => ∃ k : Nat, k ≤ n ∧ i = .int .i64 k ∧ w = wr ∧ ∀ j x, j < k → xs[j]? = some x → x = 0) (fun i _ => n - (intOf i).toNat)
  case atStart => exact ⟨0, Nat.zero_le _, rfl, rfl, fun j x h => absurd h (by omega)⟩
  case round =>
    obtain ⟨k, hk, rfl, rfl, hs⟩ := hrel
    have HS := Lib.hid hs
    clear hs
    by_cases hlt : k < n
    · obtain ⟨x, ex⟩ := get_some HX.out.num hlt
      obtain ⟨b1, o1, rfl, hb1, hc⟩ := HX.out.elem (f := Lc) (size := 1) (fun _ => rfl) ex (by omega)
      have q1 : w.cell? ⟨b1, o1 + k, none⟩ = some (.int .u64 (x : Int)) := by have h := hc 0 _ rfl; rwa [Nat.mul_one, Nat.add_zero] at h
      have EX := Lib.hid ex
      clear hc ex
      go_wp2_with fail
      refine (nought1_ratio x w).mono ?_
      rintro e w' ⟨rfl, rfl⟩
      by_cases h0 : x = 0
      · have e0 : decide (x ≠ 0) = false := by simp [h0]
        have H0 := Lib.hid h0
        rw [e0]
        clear h0 e0
        go_wp2_with fail
        go_roundw
        case rel =>
          refine ⟨k + 1, by omega, by go_num, trivial, fun j y hj hy => ?_⟩
          by_cases e : j = k
          · subst e
            rw [EX.out] at hy
            rw [← Option.some.inj hy]
            exact H0.out
          · exact HS.out j y (by omega) hy
        case measure => simp [intOf]; omega
      · have e0 : decide (x ≠ 0) = true := by simp [h0]
        have H0 := Lib.hid h0
        rw [e0]
        clear h0 e0
        go_wp2_with fail
        go_ret
        exact ⟨k, rfl, by rw [decide_eq_true (by omega), decide_eq_true (ln_pos EX.out H0.out)], rfl⟩
    · obtain rfl : n = k := by omega
      go_wp2_with fail
      go_ret
      have e : ln xs = 0 := ln_zero fun j x hj => HS.out j x (by have := (List.getElem?_eq_some_iff.1 hj).1; have := HX.out.num; omega) hj
      exact ⟨-1, rfl, by rw [e]; rfl, rfl⟩

theorem contains_ratio (A : Option Addr) (n c : Nat) (xs : List Nat) (S : Nat → Prop) (w : World) (hx : RdE Lc 1 w S A n xs) (hn : n ≤ 1000000000000000) :
    Calls Tryz.prog 129 #[.slice A n c, .func (Fn.func 130) #[] #[]] w fun e w' => e = .returned (.bool (decide (ln xs ≠ 0))) ∧ w = w' := by
  have HX := Lib.hid hx
  clear hx
  go_enter Tryz.func129, Tryz.ntmps129
  go_wp2_with fail
  refine (index_ratio A n c xs S w HX.out hn).mono ?_
  rintro e w' ⟨z, rfl, hz, rfl⟩
  have HZ := Lib.hid hz
  clear hz
  go_wp2_with fail
  go_ret
  exact ⟨by rw [← HZ.out]; rfl, rfl⟩

theorem nought_ratio (A : Option Addr) (n c : Nat) (xs : List Nat) (S : Nat → Prop) (w : World) (hx : RdE Lc 1 w S A n xs) (hn : n ≤ 1000000000000000) :
    Calls Tryz.prog 73 #[.slice A n c] w fun e w' => e = .returned (.bool (decide (ln xs = 0))) ∧ w = w' := by
  have HX := Lib.hid hx
  clear hx
  go_enter Tryz.func73, Tryz.ntmps73
  go_wp2_with fail
  refine (contains_ratio A n c xs S w HX.out hn).mono ?_
  rintro e w' ⟨rfl, rfl⟩
  go_wp2_with fail
  go_ret
  refine ⟨?_, rfl⟩
  by_cases h : ln xs = 0 <;> simp [h]

end Go.Proofs.YtjokpfgncmdomaaGreatDoor

/- ratio.Norm, Int: the walks -/
namespace Go.Proofs.YtjokpfgncmdomaaGreatDoor
open Go.RowKit Go.Sort

def NormPost (r : RV) (w : World) (e : Ending) (w' : World) : Prop :=
  if ln r.den = 0 then ∃ v, e = .returned (.tuple #[v, .int .i64 7]) ∧ RAt w' v noR ∧ Below w.heap.size w w' else Told w r.q e w'

set_option maxRecDepth 100000 in
set_option maxHeartbeats 4000000 in
theorem norm_ratio (v : Value) (r : RV) (w : World) (hr : RAt w v r) (l1 : r.num.length ≤ 1000) (l2 : r.den.length ≤ 1000) :
    Calls Tryz.prog 26 #[v] w (NormPost r w) := by
  have HR := Lib.hid hr
  obtain ⟨A, n, c, A', n', c', rfl, h1, h2, h3, h4⟩ := hr
  have H2 := Lib.hid h2
  have hn := h2.num
  have hn' : n' ≤ 1000 := by omega
  clear h1 h2 h3 h4 hn
  go_enter Tryz.func26, Tryz.ntmps26
  go_wp2_with fail
  refine (nought_ratio A' n' c' r.den _ _ (H2.out.belowL (below2 ..)) (by omega)).mono ?_
  rintro e w' ⟨rfl, rfl⟩
  by_cases h0 : ln r.den = 0
  · have H0 := Lib.hid h0
    rw [decide_eq_true h0]
    clear h0
    go_wp2_with fail
    (try simp only [Exit.inBlock, Exit.then])
    refine bodyPost_ret (v := .tuple #[.agg #[.bool false, .slice none 0 0, .slice none 0 0], .int .i64 7]) (by simp [results, Tryz.results26, go_sem]; done) rfl ?_
    unfold NormPost
    rw [if_pos H0.out]
    exact ⟨_, rfl, noR_at _ _ _, below2 ..⟩
  · have H0 := Lib.hid h0
    rw [decide_eq_false h0]
    clear h0
    go_wp2_with fail
    refine (fraction_ratio _ r _ (HR.out.below (below2 ..)) H0.out l1 l2).mono ?_
    rintro e w1 ⟨g, rfl, hg, hr1, hb1⟩
    have HR1 := Lib.hid hr1
    have HB1 := Lib.hid hb1
    clear hr1 hb1
    go_wp2_with fail
    refine (told_ratio g r.q w1 HR1.out (Nat.le_trans (dig_len_mono (norm_sizes H0.out).1) (Nat.le_trans (dig_ln_len HR.out.ldsN) (by omega))) (Nat.le_trans (dig_len_mono (norm_sizes H0.out).2) (Nat.le_trans (dig_ln_len HR.out.ldsD) (by omega)))).mono ?_
    rintro e w2 ⟨v2, rfl, hv2, hb2⟩
    have HV2 := Lib.hid hv2
    obtain ⟨B, m, d, B', m', d', rfl, hh⟩ := hv2
    clear hh
    have hbx := HB1.out.trans (hb2.mono HB1.out.size)
    have hblk : w2.heap[w.heap.size + 1]? = some (.cells #[.bool false, .slice none 0 0, .slice none 0 0] 24 (0, 0)) := by
      rw [hbx.block (w.heap.size + 1) (by simp)]
      have h := blk_new (w.alloc (.cells #[.bool r.neg, .slice A n c, .slice A' n' c'] 24)) #[.bool false, .slice none 0 0, .slice none 0 0] 24
      rwa [World.size_alloc] at h
    obtain ⟨kc, kf⟩ := blk_cells hblk
    have kc0 := kc 0
    have kc1 := kc 1
    have kc2 := kc 2
    have kf0 := kf 0
    have kf1 := kf 1
    have kf2 := kf 2
    simp only [List.getElem?_toArray, List.getElem?_cons_zero, List.getElem?_cons_succ] at kc0 kc1 kc2
    have HBX := Lib.hid hbx
    have zx : w.heap.size + 2 ≤ w2.heap.size := by have := hbx.size; simp at this; omega
    obtain ⟨tn, htn⟩ : ∃ tn, tn = (toldR r.q).neg := ⟨_, rfl⟩
    obtain ⟨te, hte⟩ : ∃ te, te = toldE r.q := ⟨_, rfl⟩
    rw [← htn] at HV2 ⊢
    rw [← hte]
    have HTE := Lib.hid hte
    obtain ⟨w6, hw6⟩ : ∃ w6, w6 = ((w2.setCell ⟨w.heap.size + 1, 0, none⟩ (.bool tn)).setCell ⟨w.heap.size + 1, 1, none⟩ (.slice B m d)).setCell ⟨w.heap.size + 1, 2, none⟩ (.slice B' m' d') := ⟨_, rfl⟩
    obtain ⟨hu6, q0, q1, q2⟩ := rat_set kc0 kc1 kc2 _ _ _ _ _ _ _ _ hw6
    have HW6 := Lib.hid hw6
    have HU6 := Lib.hid hu6
    have Q0 := Lib.hid q0
    have Q1 := Lib.hid q1
    have Q2 := Lib.hid q2
    clear kc kf hblk hbx hb2 hw6 hu6 q0 q1 q2 htn hte
    go_wp2_with fail
    rw [← HW6.out]
    have q0 := Q0.out
    have q1 := Q1.out
    have q2 := Q2.out
    (try simp only [Exit.inBlock, Exit.then])
    refine bodyPost_ret (v := .tuple #[.agg #[.bool tn, .slice B m d, .slice B' m' d'], .int .i64 te]) (by simp [results, Tryz.results26, go_sem, q0, q1, q2]; done) rfl ?_
    unfold NormPost
    rw [if_neg H0.out]
    exact ⟨_, by rw [HTE.out], HV2.out.upb HU6.out, (below2 ..).trans ((HBX.out.mono (by simp; omega)).trans (HU6.out.below (by omega) (by omega)))⟩

end Go.Proofs.YtjokpfgncmdomaaGreatDoor

/- the numbers of Add, Sub, Mul, Div: plain -/
namespace Go.Proofs.YtjokpfgncmdomaaGreatDoor
open Go.RowKit Go.Sort
theorem q_div (x y : Rat) : Rat.divInt (x.num * (y.den : Int)) ((x.den : Int) * y.num) = x / y := by
  have h : x / y = Rat.divInt x.num x.den / Rat.divInt y.num y.den := by rw [Rat.num_divInt_den, Rat.num_divInt_den]
  rw [h, Rat.div_def, Rat.inv_divInt, Rat.divInt_mul_divInt]
theorem sz_div {x y : Rat} {k : Nat} (hx : Sz k x) (hy : Sz k y) (h0 : y.num ≠ 0) : Sz (4 * k + 1) (x / y) := by
  have hD : (x.den : Int) * y.num ≠ 0 := Int.mul_ne_zero (den_ne x) h0
  rw [← q_div]
  obtain ⟨h1, h2⟩ := dsz (N := x.num * (y.den : Int)) hD
  refine ⟨Nat.le_trans (dig_len_mono h1) ?_, Nat.le_trans (dig_len_mono h2) ?_⟩
  · rw [Int.natAbs_mul, Int.natAbs_natCast]
    have e2 := mul_len x.num.natAbs y.den
    have := hx.1; have := hy.2
    omega
  · rw [Int.natAbs_mul, Int.natAbs_natCast]
    have e2 := mul_len x.den y.num.natAbs
    have := hx.2; have := hy.1
    omega
end Go.Proofs.YtjokpfgncmdomaaGreatDoor

/- ratio.Add, Sub, Mul, Div: the walks (printed by gen_t11.py) -/
namespace Go.Proofs.YtjokpfgncmdomaaGreatDoor
open Go.RowKit Go.Sort
def QuoPost (a b : RV) (w : World) (e : Ending) (w' : World) : Prop := if rightB a = true ∧ rightB b = true then (if b.q = 0 then Fail 7 w e w' else Told w (a.q / b.q) e w') else Fail 2 w e w'
set_option maxRecDepth 100000 in
set_option maxHeartbeats 4000000 in
theorem div_ratio (va vb : Value) (a b : RV) (w : World) (ha : RAt w va a) (hb : RAt w vb b) (l1 : a.num.length ≤ 1000000000000000) (l2 : a.den.length ≤ 1000000000000000) (l3 : b.num.length ≤ 1000000000000000) (l4 : b.den.length ≤ 1000000000000000) :
    Calls Tryz.prog 24 #[va, vb] w (QuoPost a b w) := by
  have HA := Lib.hid ha
  have HB := Lib.hid hb
  have hA1 : ∃ s A n c A' n' c', va = .agg #[.bool s, .slice A n c, .slice A' n' c'] := by obtain ⟨A, n, c, A', n', c', h, _⟩ := ha; exact ⟨_, _, _, _, _, _, _, h⟩
  have hB1 : ∃ s A n c A' n' c', vb = .agg #[.bool s, .slice A n c, .slice A' n' c'] := by obtain ⟨A, n, c, A', n', c', h, _⟩ := hb; exact ⟨_, _, _, _, _, _, _, h⟩
  obtain ⟨s, A, n, c, A', n', c', rfl⟩ := hA1
  obtain ⟨s2, A2, n2, c2, A2', n2', c2', rfl⟩ := hB1
  clear ha hb
  go_enter Tryz.func24, Tryz.ntmps24
  go_wp2_with fail
  refine (both_ratio _ _ a b _ (HA.out.below (below3 ..)) (HB.out.below (below3 ..)) l1 l2 l3 l4).mono ?_
  rintro e w1 ⟨hp, hb1⟩
  have hblk : w1.heap[w.heap.size + 2]? = some (.cells #[.bool false, .slice none 0 0, .slice none 0 0] 24 (0, 0)) := by
    rw [hb1.block (w.heap.size + 2) (by simp)]
    exact blk3 ..
  have zx : w.heap.size + 3 ≤ w1.heap.size := by have := hb1.size; simp at this; omega
  have HB1 := Lib.hid ((below3 w _ _ _).trans (hb1.mono (by simp; omega)))
  clear hb1
  by_cases hr : rightB a = true ∧ rightB b = true
  · rw [if_pos hr] at hp
    obtain ⟨g1, g2, rfl, hg1, hg2, hr1, hr2⟩ := hp
    have SA := Lib.hid (sz_right hr.1 HA.out.ldsN HA.out.ldsD)
    have SB := Lib.hid (sz_right hr.2 HB.out.ldsN HB.out.ldsD)
    have HRR := Lib.hid hr
    have HR1 := Lib.hid hr1
    have HR2 := Lib.hid hr2
    have zg : w.heap.size + 3 ≤ g1 := by simp at hg1; omega
    clear hr hr1 hr2
    go_wp2_with fail
    refine (sign_rat g2 b.q w1 HR2.out).mono ?_
    rintro e w' ⟨rfl, rfl⟩
    by_cases hz : b.q.num = 0
    · have e0 : (sgnI b.q.num == 0) = true := by rw [sgnI_zero]; simp [hz]
      have HZ := Lib.hid (show b.q = 0 from (Rat.num_divInt_den b.q).symm.trans (by rw [hz, Rat.zero_divInt]))
      clear hz
      obtain ⟨kc, kf⟩ := blk_cells hblk
      have kc0 := kc 0
      have kc1 := kc 1
      have kc2 := kc 2
      have kf0 := kf 0
      have kf1 := kf 1
      have kf2 := kf 2
      simp only [List.getElem?_toArray, List.getElem?_cons_zero, List.getElem?_cons_succ] at kc0 kc1 kc2
      obtain ⟨w6, hw6⟩ : ∃ w6, w6 = ((w1.setCell ⟨w.heap.size + 2, 0, none⟩ (.bool false)).setCell ⟨w.heap.size + 2, 1, none⟩ (.slice none 0 0)).setCell ⟨w.heap.size + 2, 2, none⟩ (.slice none 0 0) := ⟨_, rfl⟩
      obtain ⟨hu6, q0, q1, q2⟩ := rat_set kc0 kc1 kc2 _ _ _ _ _ _ _ _ hw6
      have HW6 := Lib.hid hw6
      have HU6 := Lib.hid hu6
      have Q0 := Lib.hid q0
      have Q1 := Lib.hid q1
      have Q2 := Lib.hid q2
      clear kc kf hblk hw6 hu6 q0 q1 q2
      go_wp2_with fail
      rw [← HW6.out]
      have q0 := Q0.out
      have q1 := Q1.out
      have q2 := Q2.out
      (try simp only [Exit.inBlock, Exit.then])
      refine bodyPost_ret (v := .tuple #[.agg #[.bool false, .slice none 0 0, .slice none 0 0], .int .i64 7]) (by simp [results, Tryz.results24, go_sem, q0, q1, q2]; done) rfl ?_
      unfold QuoPost
      rw [if_pos HRR.out, if_pos HZ.out]
      exact ⟨_, rfl, noR_at _ _ _, HB1.out.trans (HU6.out.below (by omega) (by omega))⟩
    · have e0 : (sgnI b.q.num == 0) = false := by rw [sgnI_zero]; simp [hz]
      have HNZ := Lib.hid hz
      have HQZ := Lib.hid (show ¬ b.q = 0 from fun h => hz (by rw [h]; rfl))
      clear hz
      go_wp2_with fail
      refine (quo_rat g1 g1 g2 a.q b.q w1 HR1.out.obj HR1.out HR2.out (by have := SA.out.1; omega) (by have := SA.out.2; omega) (by have := SB.out.1; omega) (by have := SB.out.2; omega) HNZ.out).mono ?_
      rw [q_div]
      rintro e w2 ⟨rfl, hr3, hu2⟩
      have hblk2 : w2.heap[w.heap.size + 2]? = some (.cells #[.bool false, .slice none 0 0, .slice none 0 0] 24 (0, 0)) := (hu2.blk (w.heap.size + 2) (by omega) (by omega)).trans hblk
      have HR3 := Lib.hid hr3
      have HB2 := Lib.hid (HB1.out.trans (hu2.below (by omega) (by omega)))
      have zy : w.heap.size + 3 ≤ w2.heap.size := by have := hu2.size; omega
      obtain ⟨x, hx⟩ : ∃ x, x = a.q / b.q := ⟨_, rfl⟩
      have SX := Lib.hid (show Sz (4 * 512 + 1) x by rw [hx]; exact sz_div SA.out SB.out HNZ.out)
      rw [← hx] at HR3
      have HX := Lib.hid hx
      clear hr3 hu2 hblk hx
      go_wp2_with fail
      refine (told_ratio g1 x w2 HR3.out (by have := SX.out.1; omega) (by have := SX.out.2; omega)).mono ?_
      rintro e w3 ⟨v2, rfl, hv2, hb2⟩
      have HV2 := Lib.hid hv2
      obtain ⟨B, m, d, B', m', d', rfl, hh⟩ := hv2
      clear hh
      have hblk : w3.heap[w.heap.size + 2]? = some (.cells #[.bool false, .slice none 0 0, .slice none 0 0] 24 (0, 0)) := (hb2.block (w.heap.size + 2) (by omega)).trans hblk2
      have zz : w.heap.size + 3 ≤ w3.heap.size := by have := hb2.size; omega
      have HB3 := Lib.hid (HB2.out.trans (hb2.mono HB2.out.size))
      obtain ⟨tn, htn⟩ : ∃ tn, tn = (toldR x).neg := ⟨_, rfl⟩
      obtain ⟨te, hte⟩ : ∃ te, te = toldE x := ⟨_, rfl⟩
      rw [← htn] at HV2 ⊢
      rw [← hte]
      have HTE := Lib.hid hte
      clear hb2 htn hte hblk2
      obtain ⟨kc, kf⟩ := blk_cells hblk
      have kc0 := kc 0
      have kc1 := kc 1
      have kc2 := kc 2
      have kf0 := kf 0
      have kf1 := kf 1
      have kf2 := kf 2
      simp only [List.getElem?_toArray, List.getElem?_cons_zero, List.getElem?_cons_succ] at kc0 kc1 kc2
      obtain ⟨w6, hw6⟩ : ∃ w6, w6 = ((w3.setCell ⟨w.heap.size + 2, 0, none⟩ (.bool tn)).setCell ⟨w.heap.size + 2, 1, none⟩ (.slice B m d)).setCell ⟨w.heap.size + 2, 2, none⟩ (.slice B' m' d') := ⟨_, rfl⟩
      obtain ⟨hu6, q0, q1, q2⟩ := rat_set kc0 kc1 kc2 _ _ _ _ _ _ _ _ hw6
      have HW6 := Lib.hid hw6
      have HU6 := Lib.hid hu6
      have Q0 := Lib.hid q0
      have Q1 := Lib.hid q1
      have Q2 := Lib.hid q2
      clear kc kf hblk hw6 hu6 q0 q1 q2
      go_wp2_with fail
      rw [← HW6.out]
      have q0 := Q0.out
      have q1 := Q1.out
      have q2 := Q2.out
      (try simp only [Exit.inBlock, Exit.then])
      refine bodyPost_ret (v := .tuple #[.agg #[.bool tn, .slice B m d, .slice B' m' d'], .int .i64 te]) (by simp [results, Tryz.results24, go_sem, q0, q1, q2]; done) rfl ?_
      unfold QuoPost
      rw [if_pos HRR.out, if_neg HQZ.out, ← HX.out]
      exact ⟨_, by rw [HTE.out], HV2.out.upb HU6.out, HB3.out.trans (HU6.out.below (by omega) (by omega))⟩
  · rw [if_neg hr] at hp
    subst hp
    have HRR := Lib.hid hr
    clear hr
    obtain ⟨kc, kf⟩ := blk_cells hblk
    have kc0 := kc 0
    have kc1 := kc 1
    have kc2 := kc 2
    have kf0 := kf 0
    have kf1 := kf 1
    have kf2 := kf 2
    simp only [List.getElem?_toArray, List.getElem?_cons_zero, List.getElem?_cons_succ] at kc0 kc1 kc2
    obtain ⟨w6, hw6⟩ : ∃ w6, w6 = ((w1.setCell ⟨w.heap.size + 2, 0, none⟩ (.bool false)).setCell ⟨w.heap.size + 2, 1, none⟩ (.slice none 0 0)).setCell ⟨w.heap.size + 2, 2, none⟩ (.slice none 0 0) := ⟨_, rfl⟩
    obtain ⟨hu6, q0, q1, q2⟩ := rat_set kc0 kc1 kc2 _ _ _ _ _ _ _ _ hw6
    have HW6 := Lib.hid hw6
    have HU6 := Lib.hid hu6
    have Q0 := Lib.hid q0
    have Q1 := Lib.hid q1
    have Q2 := Lib.hid q2
    clear kc kf hblk hw6 hu6 q0 q1 q2
    go_wp2_with fail
    rw [← HW6.out]
    have q0 := Q0.out
    have q1 := Q1.out
    have q2 := Q2.out
    (try simp only [Exit.inBlock, Exit.then])
    refine bodyPost_ret (v := .tuple #[.agg #[.bool false, .slice none 0 0, .slice none 0 0], .int .i64 2]) (by simp [results, Tryz.results24, go_sem, q0, q1, q2]; done) rfl ?_
    unfold QuoPost
    rw [if_neg HRR.out]
    exact ⟨_, rfl, noR_at _ _ _, HB1.out.trans (HU6.out.below (by omega) (by omega))⟩

end Go.Proofs.YtjokpfgncmdomaaGreatDoor

/- ratio.Sign, Int: the walks -/
namespace Go.Proofs.YtjokpfgncmdomaaGreatDoor
open Go.RowKit Go.Sort

def SignPost (r : RV) (w : World) (e : Ending) (w' : World) : Prop := (if rightB r = true then e = .returned (.tuple #[.int .i64 (sgnI r.q.num), .int .i64 0]) else e = .returned (.tuple #[.int .i64 0, .int .i64 2])) ∧ Below w.heap.size w w'

set_option maxRecDepth 100000 in
set_option maxHeartbeats 4000000 in
theorem sign_ratio (v : Value) (r : RV) (w : World) (hr : RAt w v r) (l1 : r.num.length ≤ 1000000000000000) (l2 : r.den.length ≤ 1000000000000000) :
    Calls Tryz.prog 20 #[v] w (SignPost r w) := by
  have HR := Lib.hid hr
  obtain ⟨s, A, n, c, A', n', c', rfl⟩ : ∃ s A n c A' n' c', v = .agg #[.bool s, .slice A n c, .slice A' n' c'] := by obtain ⟨A, n, c, A', n', c', h, _⟩ := hr; exact ⟨_, _, _, _, _, _, _, h⟩
  clear hr
  go_enter Tryz.func20, Tryz.ntmps20
  go_wp2_with fail
  refine (right_ratio _ r _ (HR.out.below (below1 ..)) l1 l2).mono ?_
  rintro e w1 ⟨rfl, hb1⟩
  have q0 := bat hb1 (new_cell w #[.bool s, .slice A n c, .slice A' n' c'] 24 0 _ rfl)
  have q1 := bat hb1 (new_cell w #[.bool s, .slice A n c, .slice A' n' c'] 24 1 _ rfl)
  have q2 := bat hb1 (new_cell w #[.bool s, .slice A n c, .slice A' n' c'] 24 2 _ rfl)
  have HB1 := Lib.hid ((below1 w (.cells #[.bool s, .slice A n c, .slice A' n' c'] 24)).trans (hb1.mono (by simp)))
  clear hb1
  cases h : rightB r
  · have H := Lib.hid h
    clear h
    go_wp2_with fail
    go_ret2
    unfold SignPost
    rw [if_neg (by rw [H.out]; decide)]
    exact ⟨rfl, HB1.out⟩
  · have H := Lib.hid h
    clear h
    have LA := Lib.hid (right_len H.out)
    have DA := Lib.hid (right_den H.out HR.out.ldsD)
    go_wp2_with fail
    refine (fraction_ratio _ r w1 (HR.out.below HB1.out) DA.out (by have := LA.out; omega) (by have := LA.out; omega)).mono ?_
    rintro e w2 ⟨g, rfl, hg, hr2, hb2⟩
    have HR2 := Lib.hid hr2
    have HB2 := Lib.hid (HB1.out.trans (hb2.mono HB1.out.size))
    clear hr2 hb2
    go_wp2_with fail
    refine (sign_rat g r.q _ HR2.out).mono ?_
    rintro e w' ⟨rfl, rfl⟩
    go_wp2_with fail
    go_ret2
    unfold SignPost
    rw [if_pos H.out]
    exact ⟨rfl, HB2.out⟩

end Go.Proofs.YtjokpfgncmdomaaGreatDoor

/- right ratios are those of their numbers: plain; Add, Sub, Mul, Div of right ratios -/
namespace Go.Proofs.YtjokpfgncmdomaaGreatDoor
open Go.RowKit Go.Sort
/-- a right ratio of that number -/
def At (w : World) (v : Value) (q : Rat) : Prop := RAt w v (rv q) ∧ fits q
theorem told_at {w w' : World} {q : Rat} {e : Ending} (h : Told w q e w') (hf : fits q) : ∃ v, e = .returned (.tuple #[v, .int .i64 0]) ∧ At w' v q ∧ Below w.heap.size w w' := by
  obtain ⟨v, h1, h2, h3⟩ := h
  rw [toldE, if_pos hf] at h1
  rw [toldR, if_pos hf] at h2
  exact ⟨v, h1, ⟨h2, hf⟩, h3⟩
end Go.Proofs.YtjokpfgncmdomaaGreatDoor

/- what the laws' walks need: boxes, answers held together -/
namespace Go.Proofs.YtjokpfgncmdomaaGreatDoor
open Go.RowKit Go.Sort

/-- a ratio in a box -/
def BoxAt (w : World) (g : Nat) (s : Bool) (A : Option Addr) (n c : Nat) (A' : Option Addr) (n' c' : Nat) (r : RV) : Prop :=
  (w.cell? ⟨g, 0, none⟩ = some (.bool s) ∧ w.cell? ⟨g, 1, none⟩ = some (.slice A n c) ∧ w.cell? ⟨g, 2, none⟩ = some (.slice A' n' c')) ∧ RAt w (.agg #[.bool s, .slice A n c, .slice A' n' c']) r
theorem BoxAt.below {w w' : World} {g : Nat} {s : Bool} {A : Option Addr} {n c : Nat} {A' : Option Addr} {n' c' : Nat} {r : RV} (h : BoxAt w g s A n c A' n' c' r) (hb : Below w.heap.size w w') : BoxAt w' g s A n c A' n' c' r :=
  ⟨⟨bat hb h.1.1, bat hb h.1.2.1, bat hb h.1.2.2⟩, h.2.below hb⟩
theorem BoxAt.new {w : World} {s : Bool} {A : Option Addr} {n c : Nat} {A' : Option Addr} {n' c' : Nat} {r : RV} (h : RAt w (.agg #[.bool s, .slice A n c, .slice A' n' c']) r) (t : TypeId) : BoxAt (w.alloc (.cells #[.bool s, .slice A n c, .slice A' n' c'] t)) w.heap.size s A n c A' n' c' r :=
  ⟨⟨new_cell w _ _ 0 _ rfl, new_cell w _ _ 1 _ rfl, new_cell w _ _ 2 _ rfl⟩, h.below (below1 ..)⟩
theorem RAt.shape {w : World} {v : Value} {r : RV} (h : RAt w v r) : ∃ s A n c A' n' c', v = .agg #[.bool s, .slice A n c, .slice A' n' c'] := by
  obtain ⟨A, n, c, A', n', c', h, _⟩ := h
  exact ⟨_, _, _, _, _, _, _, h⟩
end Go.Proofs.YtjokpfgncmdomaaGreatDoor
