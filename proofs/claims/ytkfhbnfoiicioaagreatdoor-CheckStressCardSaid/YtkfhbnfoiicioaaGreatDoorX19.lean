import Derived.Test.YtkfhbnfoiicioaaGreatDoorX18
import Derived.Deep.Cut
import Derived.Deep.DeepCutAuto
set_option linter.unusedSimpArgs false
set_option linter.unusedVariables false
/- girderref05: the walks (printed by gen_q11.py) -/
namespace Go.Proofs.YtkfhbnfoiicioaaGreatDoor
open Ieee Go.RowKit Go.Sort

theorem fin05_any (u : Nat) (w : World) : Calls Tryz.prog 38 #[.float .f64 u] w fun e w' => e = .returned (.bool (finB u)) ∧ Below w.heap.size w w' := by
  obtain ⟨b, n, hrun, hb⟩ := sub_self 22 u w
  obtain ⟨f, hf⟩ : ∃ f, f = finB u := ⟨_, rfl⟩
  rw [← hf] at hb ⊢
  have HB : Hid (Below w.heap.size w (w.drewN n)) := Lib.hid (below_drewN (Below.refl _ _) n)
  clear hf
  go_enter Tryz.func38, Tryz.ntmps38
  go_wp2_with fail
  go_ret
  exact ⟨rfl, HB.out⟩
set_option maxRecDepth 100000 in
set_option maxHeartbeats 4000000 in
theorem right05_any (x : Spn) (w : World) : Calls Tryz.prog 20 #[x.val] w fun e w' => e = .returned (.bool (spB x.lo x.hi)) ∧ Below w.heap.size w w' := by
  rw [← spR_eq]
  obtain ⟨lo, hi⟩ := x
  simp only
  unfold spR
  have I1 := Lib.hid (fun w => fin05_any lo w)
  have I2 := Lib.hid (fun w => fin05_any hi w)
  obtain ⟨b1, h1⟩ : ∃ b, feq lo lo = b := ⟨_, rfl⟩
  obtain ⟨b2, h2⟩ : ∃ b, feq hi hi = b := ⟨_, rfl⟩
  obtain ⟨b3, h3⟩ : ∃ b, fgt lo hi = b := ⟨_, rfl⟩
  obtain ⟨b4, h4⟩ : ∃ b, flt lo 0 = b := ⟨_, rfl⟩
  obtain ⟨b5, h5⟩ : ∃ b, fgt hi 0 = b := ⟨_, rfl⟩
  obtain ⟨f1, h6⟩ : ∃ b, finB lo = b := ⟨_, rfl⟩
  obtain ⟨f2, h7⟩ : ∃ b, finB hi = b := ⟨_, rfl⟩
  rw [h6] at I1
  rw [h7] at I2
  rw [h1, h2, h3, h4, h5, h6, h7]
  have h1' : (FloatKind.f64.format.order lo lo != some .eq) = !b1 := by rw [← h1]; rfl
  have h2' : (FloatKind.f64.format.order hi hi != some .eq) = !b2 := by rw [← h2]; rfl
  unfold fgt at h3 h5
  unfold flt at h4
  obtain ⟨w0, hw0⟩ : ∃ w0, w0 = w.alloc (.cells #[.float .f64 lo, .float .f64 hi] 24) := ⟨_, rfl⟩
  have hb0 : Below w.heap.size w w0 := by rw [hw0]; exact below1 ..
  have K1 := Lib.hid (BxS.of_blk (s := ⟨lo, hi⟩) (show w0.heap[w.heap.size]? = some (.cells #[.float .f64 lo, .float .f64 hi] 24 (0, 0)) by rw [hw0]; exact blk_new ..))
  have HB0 := Lib.hid hb0
  have HW0 := Lib.hid hw0
  clear h1 h2 h6 h7 hw0 hb0
  cases b1
  · simp only [Bool.not_false, Bool.true_or, if_true] at h1' ⊢
    go_enter Tryz.func20, Tryz.ntmps20
    go_wp2_with fail
    rw [← HW0.out]
    go_ret
    exact ⟨rfl, HB0.out⟩
  · cases b2
    · simp only [Bool.not_false, Bool.not_true, Bool.true_or, Bool.false_or, if_true] at h1' h2' ⊢
      go_enter Tryz.func20, Tryz.ntmps20
      go_wp2_with fail
      rw [← HW0.out]
      go_ret
      exact ⟨rfl, HB0.out⟩
    · cases b3
      · simp only [Bool.not_true, Bool.false_or, Bool.false_eq_true, if_false] at h1' h2' ⊢
        cases f1
        · cases b4
          · simp only [Bool.false_or, Bool.false_and]
            go_enter Tryz.func20, Tryz.ntmps20
            go_wp2_with fail
            rw [← HW0.out]
            refine (I1.out w0).mono ?_
            rintro e w1 ⟨rfl, hb⟩
            replace HB0 := Lib.hid (HB0.out.trans (hb.mono HB0.out.size))
            replace K1 := Lib.hid (K1.out.below hb)
            clear hb
            obtain ⟨k0, k1⟩ := K1.out
            simp only at k0 k1
            go_wp2_with fail
            clear k0 k1
            go_ret
            exact ⟨rfl, HB0.out⟩
          · simp only [Bool.false_or, Bool.true_and]
            cases f2
            · simp only [Bool.false_or]
              go_enter Tryz.func20, Tryz.ntmps20
              go_wp2_with fail
              rw [← HW0.out]
              refine (I1.out w0).mono ?_
              rintro e w1 ⟨rfl, hb⟩
              replace HB0 := Lib.hid (HB0.out.trans (hb.mono HB0.out.size))
              replace K1 := Lib.hid (K1.out.below hb)
              clear hb
              obtain ⟨k0, k1⟩ := K1.out
              simp only at k0 k1
              go_wp2_with fail
              clear k0 k1
              refine (I2.out w1).mono ?_
              rintro e w2 ⟨rfl, hb⟩
              replace HB0 := Lib.hid (HB0.out.trans (hb.mono HB0.out.size))
              replace K1 := Lib.hid (K1.out.below hb)
              clear hb
              obtain ⟨k0, k1⟩ := K1.out
              simp only at k0 k1
              go_wp2_with fail
              clear k0 k1
              go_ret
              exact ⟨rfl, HB0.out⟩
            · simp only [Bool.true_or]
              go_enter Tryz.func20, Tryz.ntmps20
              go_wp2_with fail
              rw [← HW0.out]
              refine (I1.out w0).mono ?_
              rintro e w1 ⟨rfl, hb⟩
              replace HB0 := Lib.hid (HB0.out.trans (hb.mono HB0.out.size))
              replace K1 := Lib.hid (K1.out.below hb)
              clear hb
              obtain ⟨k0, k1⟩ := K1.out
              simp only at k0 k1
              go_wp2_with fail
              clear k0 k1
              refine (I2.out w1).mono ?_
              rintro e w2 ⟨rfl, hb⟩
              replace HB0 := Lib.hid (HB0.out.trans (hb.mono HB0.out.size))
              replace K1 := Lib.hid (K1.out.below hb)
              clear hb
              obtain ⟨k0, k1⟩ := K1.out
              simp only at k0 k1
              go_wp2_with fail
              clear k0 k1
              go_ret
              exact ⟨rfl, HB0.out⟩
        · simp only [Bool.true_or, Bool.true_and]
          cases f2
          · simp only [Bool.false_or]
            go_enter Tryz.func20, Tryz.ntmps20
            go_wp2_with fail
            rw [← HW0.out]
            refine (I1.out w0).mono ?_
            rintro e w1 ⟨rfl, hb⟩
            replace HB0 := Lib.hid (HB0.out.trans (hb.mono HB0.out.size))
            replace K1 := Lib.hid (K1.out.below hb)
            clear hb
            obtain ⟨k0, k1⟩ := K1.out
            simp only at k0 k1
            go_wp2_with fail
            clear k0 k1
            refine (I2.out w1).mono ?_
            rintro e w2 ⟨rfl, hb⟩
            replace HB0 := Lib.hid (HB0.out.trans (hb.mono HB0.out.size))
            replace K1 := Lib.hid (K1.out.below hb)
            clear hb
            obtain ⟨k0, k1⟩ := K1.out
            simp only at k0 k1
            go_wp2_with fail
            clear k0 k1
            go_ret
            exact ⟨rfl, HB0.out⟩
          · simp only [Bool.true_or]
            go_enter Tryz.func20, Tryz.ntmps20
            go_wp2_with fail
            rw [← HW0.out]
            refine (I1.out w0).mono ?_
            rintro e w1 ⟨rfl, hb⟩
            replace HB0 := Lib.hid (HB0.out.trans (hb.mono HB0.out.size))
            replace K1 := Lib.hid (K1.out.below hb)
            clear hb
            obtain ⟨k0, k1⟩ := K1.out
            simp only at k0 k1
            go_wp2_with fail
            clear k0 k1
            refine (I2.out w1).mono ?_
            rintro e w2 ⟨rfl, hb⟩
            replace HB0 := Lib.hid (HB0.out.trans (hb.mono HB0.out.size))
            replace K1 := Lib.hid (K1.out.below hb)
            clear hb
            obtain ⟨k0, k1⟩ := K1.out
            simp only at k0 k1
            go_wp2_with fail
            clear k0 k1
            go_ret
            exact ⟨rfl, HB0.out⟩
      · simp only [Bool.not_true, Bool.false_or, if_true] at h1' h2' ⊢
        go_enter Tryz.func20, Tryz.ntmps20
        go_wp2_with fail
        rw [← HW0.out]
        go_ret
        exact ⟨rfl, HB0.out⟩
theorem size05_any (u : Nat) (w : World) (hu : u < 18446744073709551616) (hn : fnan u = false) : Calls Tryz.prog 40 #[.float .f64 u] w fun e w' => e = .returned (.float .f64 (absF u)) ∧ w = w' := by
  obtain ⟨s1, s2⟩ := sgn_word hu hn
  have hz := feq_zero hu
  have hneg := fun w => run_neg hu w
  obtain ⟨r, hr⟩ : ∃ r, r = absF u := ⟨_, rfl⟩
  rw [← hr]
  unfold absF at hr
  cases h0 : feq u 0
  · rw [h0] at hz
    replace hz := of_decide_eq_false hz.symm
    cases h1 : flt u 0
    · have he : r = u := by
        have : ¬ 9223372036854775808 < u := fun h => by rw [s2.2 h] at h1; cases h1
        omega
      have HE := Lib.hid he
      unfold feq at h0
      unfold flt at h1
      clear s1 s2 hz hr he
      go_enter Tryz.func40, Tryz.ntmps40
      go_wp2_with fail
      go_ret
      exact ⟨by rw [HE.out]; rfl, rfl⟩
    · have he : r = negF u := by
        have := s2.1 h1
        unfold negF
        rw [if_neg (by omega)]
        omega
      rw [← he] at hneg
      unfold feq at h0
      unfold flt at h1
      clear s1 s2 hz hr he
      go_enter Tryz.func40, Tryz.ntmps40
      go_wp2_with fail
      go_ret
      exact ⟨rfl, rfl⟩
  · rw [h0] at hz
    replace hz := of_decide_eq_true hz.symm
    obtain rfl : r = 0 := by omega
    unfold feq at h0
    clear s1 s2 hz hr
    go_enter Tryz.func40, Tryz.ntmps40
    go_wp2_with fail
    go_ret
    exact ⟨rfl, rfl⟩
theorem greater05 (a b : Nat) (w : World) (ha : a < 18446744073709551616) (hb : b < 18446744073709551616) (na : fnan a = false) (nb : fnan b = false) :
    Calls Tryz.prog 44 #[.float .f64 a, .float .f64 b] w fun e w' => e = .returned (.float .f64 (greF a b)) ∧ w = w' := by
  have I1 := Lib.hid (fun w => order01_any b a w hb ha nb na)
  unfold greF
  generalize ordI b a = k at *
  clear na nb
  by_cases h : 0 < k
  · have d : decide (0 < k) = true := decide_eq_true h
    rw [if_pos h]
    clear h
    go_enter Tryz.func44, Tryz.ntmps44
    go_wp2_with fail
    refine (I1.out _).mono ?_
    rintro e w1 ⟨rfl, rfl⟩
    go_wp2_with fail
    go_ret
    exact ⟨rfl, rfl⟩
  · have d : decide (0 < k) = false := decide_eq_false h
    rw [if_neg h]
    clear h
    go_enter Tryz.func44, Tryz.ntmps44
    go_wp2_with fail
    refine (I1.out _).mono ?_
    rintro e w1 ⟨rfl, rfl⟩
    go_wp2_with fail
    go_ret
    exact ⟨rfl, rfl⟩
theorem lesser05 (a b : Nat) (w : World) (ha : a < 18446744073709551616) (hb : b < 18446744073709551616) (na : fnan a = false) (nb : fnan b = false) :
    Calls Tryz.prog 42 #[.float .f64 a, .float .f64 b] w fun e w' => e = .returned (.float .f64 (lesF a b)) ∧ w = w' := by
  have I1 := Lib.hid (fun w => order01_any b a w hb ha nb na)
  unfold lesF
  generalize ordI b a = k at *
  clear na nb
  by_cases h : k < 0
  · have d : decide (k < 0) = true := decide_eq_true h
    rw [if_pos h]
    clear h
    go_enter Tryz.func42, Tryz.ntmps42
    go_wp2_with fail
    refine (I1.out _).mono ?_
    rintro e w1 ⟨rfl, rfl⟩
    go_wp2_with fail
    go_ret
    exact ⟨rfl, rfl⟩
  · have d : decide (k < 0) = false := decide_eq_false h
    rw [if_neg h]
    clear h
    go_enter Tryz.func42, Tryz.ntmps42
    go_wp2_with fail
    refine (I1.out _).mono ?_
    rintro e w1 ⟨rfl, rfl⟩
    go_wp2_with fail
    go_ret
    exact ⟨rfl, rfl⟩
theorem greater29 (a b : Nat) (w : World) (ha : a < 18446744073709551616) (hb : b < 18446744073709551616) (na : fnan a = false) (nb : fnan b = false) :
    Calls Tryz.prog 23 #[.float .f64 a, .float .f64 b] w fun e w' => e = .returned (.float .f64 (greF a b)) ∧ w = w' := by
  have I1 := Lib.hid (fun w => order01_any b a w hb ha nb na)
  unfold greF
  generalize ordI b a = k at *
  clear na nb
  by_cases h : 0 < k
  · have d : decide (0 < k) = true := decide_eq_true h
    rw [if_pos h]
    clear h
    go_enter Tryz.func23, Tryz.ntmps23
    go_wp2_with fail
    refine (I1.out _).mono ?_
    rintro e w1 ⟨rfl, rfl⟩
    go_wp2_with fail
    go_ret
    exact ⟨rfl, rfl⟩
  · have d : decide (0 < k) = false := decide_eq_false h
    rw [if_neg h]
    clear h
    go_enter Tryz.func23, Tryz.ntmps23
    go_wp2_with fail
    refine (I1.out _).mono ?_
    rintro e w1 ⟨rfl, rfl⟩
    go_wp2_with fail
    go_ret
    exact ⟨rfl, rfl⟩
theorem number29 (x : Nat) (w : World) : Calls Tryz.prog 21 #[.float .f64 x] w fun e w' => e = .returned (.bool (numB x)) ∧ w = w' := by
  unfold numB
  obtain ⟨b1, h1⟩ : ∃ b, (FloatKind.f64.format.order x 4336966441157787648 == some .gt || FloatKind.f64.format.order x 4336966441157787648 == some .eq) = b := ⟨_, rfl⟩
  obtain ⟨b2, h2⟩ : ∃ b, fle x 4877398396442247168 = b := ⟨_, rfl⟩
  rw [h1, h2]
  unfold fle at h2
  cases b1
  · go_enter Tryz.func21, Tryz.ntmps21
    go_wp2_with fail
    go_ret
    exact ⟨rfl, rfl⟩
  · cases b2
    · go_enter Tryz.func21, Tryz.ntmps21
      go_wp2_with fail
      go_ret
      exact ⟨rfl, rfl⟩
    · go_enter Tryz.func21, Tryz.ntmps21
      go_wp2_with fail
      go_ret
      exact ⟨rfl, rfl⟩
set_option maxRecDepth 100000 in
set_option maxHeartbeats 8000000 in
theorem neg05_any (x : Spn) (w : World) (h1 : x.lo < 18446744073709551616) (h2 : x.hi < 18446744073709551616) (hok : x.ok = true) :
    Calls Tryz.prog 39 #[x.val] w fun e w' => e = .returned (.tuple #[.agg #[.float .f64 (negF x.hi), .float .f64 (negF x.lo)], .int .i64 0]) ∧ Below w.heap.size w w' := by
  have I1 := Lib.hid (fun w => right05_any x w)
  have hok2 : spB x.lo x.hi = true := hok
  rw [hok2] at I1
  have n1 := fun w => run_neg h1 w
  have n2 := fun w => run_neg h2 w
  obtain ⟨lo, hi⟩ := x
  simp only at n1 n2 I1 h1 h2 ⊢
  obtain ⟨w0, hw0⟩ : ∃ w0, w0 = (w.alloc (.cells #[.float .f64 lo, .float .f64 hi] 24)).alloc (.cells #[.float .f64 0, .float .f64 0] 24) := ⟨_, rfl⟩
  have hb0 : Below w.heap.size w w0 := by rw [hw0]; exact below2 ..
  have g1 : w0.heap[w.heap.size]? = some (.cells #[.float .f64 lo, .float .f64 hi] 24 (0, 0)) := by
    rw [hw0]; exact ((below1 (w.alloc _) _).block w.heap.size (by simp)).trans (blk_new w _ _)
  have g2 : w0.heap[w.heap.size + 1]? = some (.cells #[.float .f64 0, .float .f64 0] 24 (0, 0)) := by
    rw [hw0]
    have h := blk_new (w.alloc (.cells #[.float .f64 lo, .float .f64 hi] 24)) #[.float .f64 0, .float .f64 0] 24
    rwa [World.size_alloc] at h
  have z0 : w0.heap.size = w.heap.size + 2 := by rw [hw0]; simp
  have G1 := Lib.hid g1
  have G2 := Lib.hid g2
  have HB0 := Lib.hid hb0
  have HW0 := Lib.hid hw0
  clear hok hok2 hw0 hb0 g1 g2
  go_enter Tryz.func39, Tryz.ntmps39
  go_wp2_with fail
  rw [← HW0.out]
  refine (I1.out w0).mono ?_
  rintro e w1 ⟨rfl, hb1⟩
  have zz1 := hb1.size
  have HB1 := Lib.hid (HB0.out.trans (hb1.mono HB0.out.size))
  have hk1 := (blk_cs ((hb1.block w.heap.size (by omega)).trans G1.out)).1
  have k10 := hk1 0
  have k11 := hk1 1
  obtain ⟨hk2, hf2⟩ := blk_cs ((hb1.block (w.heap.size + 1) (by omega)).trans G2.out)
  have k20 := hk2 0
  have k21 := hk2 1
  have f20 := hf2 0
  have f21 := hf2 1
  simp only [List.getElem?_toArray, List.getElem?_cons_zero, List.getElem?_cons_succ] at k10 k11 k20 k21
  obtain ⟨w8, hw8⟩ : ∃ w8, w8 = (w1.setCell ⟨w.heap.size + 1, 0, none⟩ (.float .f64 (negF hi))).setCell ⟨w.heap.size + 1, 1, none⟩ (.float .f64 (negF lo)) := ⟨_, rfl⟩
  obtain ⟨hu8, hq⟩ := spn_set k20 k21 _ _ _ hw8
  have HQ := Lib.hid hq
  have HW8 := Lib.hid hw8
  have HB8 := Lib.hid (HB1.out.trans (hu8.below (by omega) (by omega)))
  clear hk1 hk2 hf2 hb1 hw8 hu8 hq
  go_wp2_with fail
  rw [← HW8.out]
  obtain ⟨q0, q1⟩ := HQ.out
  (try simp only [Exit.inBlock, Exit.then])
  refine bodyPost_ret (v := .tuple #[.agg #[.float .f64 (negF hi), .float .f64 (negF lo)], .int .i64 0]) (by simp [results, Tryz.results39, go_sem, q0, q1]; done) rfl ?_
  exact ⟨rfl, HB8.out⟩
set_option maxRecDepth 100000 in
set_option maxHeartbeats 8000000 in
theorem abs05 (x : Spn) (w : World) (h1 : x.lo < 18446744073709551616) (h2 : x.hi < 18446744073709551616) (hok : x.ok = true) :
    Calls Tryz.prog 22 #[x.val] w fun e w' => e = .returned (.tuple #[(absS x).val, .int .i64 0]) ∧ Below w.heap.size w w' := by
  have I1 := Lib.hid (fun w => right05_any x w)
  have hok2 : spB x.lo x.hi = true := hok
  rw [hok2] at I1
  have I2 := Lib.hid (fun w => neg05_any x w h1 h2 hok)
  have I3 := Lib.hid (fun w => size05_any x.lo w h1 (spB_num hok2).1)
  have I4 := Lib.hid (fun w => size05_any x.hi w h2 (spB_num hok2).2)
  obtain ⟨lo, hi⟩ := x
  simp only at I1 I2 I3 I4 h1 h2 hok2 ⊢
  have hnum := spB_num hok2
  have hmax := Lib.hid (fun w => run_max (x := absF lo) (y := absF hi) (num_le hnum.1) (num_le hnum.2) 22 w)
  obtain ⟨r, hr⟩ : ∃ r, r = absS ⟨lo, hi⟩ := ⟨_, rfl⟩
  rw [← hr]
  have HR := Lib.hid hr
  obtain ⟨w0, hw0⟩ : ∃ w0, w0 = (w.alloc (.cells #[.float .f64 lo, .float .f64 hi] 24)).alloc (.cells #[.float .f64 0, .float .f64 0] 24) := ⟨_, rfl⟩
  have hb0 : Below w.heap.size w w0 := by rw [hw0]; exact below2 ..
  have g1 : w0.heap[w.heap.size]? = some (.cells #[.float .f64 lo, .float .f64 hi] 24 (0, 0)) := by
    rw [hw0]; exact ((below1 (w.alloc _) _).block w.heap.size (by simp)).trans (blk_new w _ _)
  have g2 : w0.heap[w.heap.size + 1]? = some (.cells #[.float .f64 0, .float .f64 0] 24 (0, 0)) := by
    rw [hw0]
    have h := blk_new (w.alloc (.cells #[.float .f64 lo, .float .f64 hi] 24)) #[.float .f64 0, .float .f64 0] 24
    rwa [World.size_alloc] at h
  have z0 : w0.heap.size = w.heap.size + 2 := by rw [hw0]; simp
  have G1 := Lib.hid g1
  have G2 := Lib.hid g2
  have HB0 := Lib.hid hb0
  have HW0 := Lib.hid hw0
  -- what is stored at the end, whatever it is
  have fin : ∀ (w1 : World) (a b : Nat), Below w0.heap.size w0 w1 → ∀ w8, w8 = (w1.setCell ⟨w.heap.size + 1, 0, none⟩ (.float .f64 a)).setCell ⟨w.heap.size + 1, 1, none⟩ (.float .f64 b) → Below w.heap.size w w8 ∧ BxS w8 (w.heap.size + 1) ⟨a, b⟩ := by
    intro w1 a b hb1 w8 hw8
    have zz1 := hb1.size
    have hk2 := (blk_cs ((hb1.block (w.heap.size + 1) (by omega)).trans G2.out)).1
    obtain ⟨hu8, hq⟩ := spn_set (hk2 0) (hk2 1) _ _ _ hw8
    exact ⟨HB0.out.trans ((hb1.mono HB0.out.size).trans (hu8.below (by omega) (by omega))), hq⟩
  have FIN := Lib.hid fin
  clear hok hok2 hnum hw0 hb0 g1 g2 hr fin
  cases hg : fgt lo 0
  · cases hh : flt hi 0
    · have hres : absS ⟨lo, hi⟩ = ⟨0, max (absF lo) (absF hi)⟩ := by unfold absS; simp only [hg, hh, Bool.false_eq_true, if_false]
      have HRES := Lib.hid (HR.out.trans hres)
      unfold fgt at hg
      unfold flt at hh
      clear hres
      go_enter Tryz.func22, Tryz.ntmps22
      go_wp2_with fail
      rw [← HW0.out]
      refine (I1.out w0).mono ?_
      rintro e w1 ⟨rfl, hb1⟩
      have zz1 := hb1.size
      have HB1 := Lib.hid hb1
      have hk1 := (blk_cs ((hb1.block w.heap.size (by omega)).trans G1.out)).1
      have k10 := hk1 0
      have k11 := hk1 1
      simp only [List.getElem?_toArray, List.getElem?_cons_zero, List.getElem?_cons_succ] at k10 k11
      clear hk1 hb1
      go_wp2_with fail
      refine wp_region_G (S := (fun w' => w'.cell? ⟨w.heap.size, 0, none⟩ = some (.float .f64 lo) ∧ w'.cell? ⟨w.heap.size, 1, none⟩ = some (.float .f64 hi))) 8 (by kernel_rfl) ?_ (fun hHeld => ?_)
      · first | exact True.intro | ((try dsimp only); go_keep)
      refine tkG (i := 0) (v := ?_) rfl (by kernel_rfl) (Or.inl ⟨by kernel_rfl, ?_⟩) (by assumption) ?_
      rotate_left 1
      · (intro w hSw; (try dsimp only at hSw); go_simp; try with_reducible rfl)
      try simp only [lyA, lyB, lyC, Act.put, lyD, lyE, lyF]
      refine tkG (i := 1) (v := ?_) rfl (by kernel_rfl) (Or.inl ⟨by kernel_rfl, ?_⟩) (by assumption) ?_
      rotate_left 1
      · (intro w hSw; (try dsimp only at hSw); go_simp; try with_reducible rfl)
      try simp only [lyA, lyB, lyC, Act.put, lyD, lyE, lyF]
      refine tkG (i := 3) (v := ?_) rfl (by kernel_rfl) (Or.inl ⟨by kernel_rfl, ?_⟩) (by assumption) ?_
      rotate_left 1
      · (intro w hSw; (try dsimp only at hSw); go_simp; try with_reducible rfl)
      try simp only [lyA, lyB, lyC, Act.put, lyD, lyE, lyF]
      refine tkG (i := 4) (v := ?_) rfl (by kernel_rfl) (Or.inl ⟨by kernel_rfl, ?_⟩) (by assumption) ?_
      rotate_left 1
      · (intro w hSw; (try dsimp only at hSw); go_simp; try with_reducible rfl)
      try simp only [lyA, lyB, lyC, Act.put, lyD, lyE, lyF]
      refine wpAnyG_one (i := 2) (by kernel_rfl) rfl (fun K hK => ?_)
      go_simp
      (refine (I3.out _).mono ?_; rintro e w2 ⟨rfl, rfl⟩; skip)
      try go_wp2_with fail
      refine (fun hHeld => hK.out _ _ (.inl hHeld) (fun _ => ?_)) ?_
      rotate_left 1
      · first | exact True.intro | ((try dsimp only); go_keep)
      clear hK K
      try simp only [lyA, lyB, lyC, Act.put, lyD, lyE, lyF]
      refine wpAnyG_one (i := 5) (by kernel_rfl) rfl (fun K hK => ?_)
      go_simp
      (refine (I4.out _).mono ?_; rintro e w2 ⟨rfl, rfl⟩; skip)
      try go_wp2_with fail
      refine (fun hHeld => hK.out _ _ (.inl hHeld) (fun _ => ?_)) ?_
      rotate_left 1
      · first | exact True.intro | ((try dsimp only); go_keep)
      clear hK K
      try simp only [lyA, lyB, lyC, Act.put, lyD, lyE, lyF]
      have hm := hmax.out
      generalize max (absF lo) (absF hi) = mx at hm HRES
      refine wpAnyG_one (i := 6) (by kernel_rfl) rfl (fun K hK => ?_)
      go_simp
      refine (fun hHeld => hK.out _ _ (.inl hHeld) (fun _ => ?_)) ?_
      rotate_left 1
      · first | exact True.intro | ((try dsimp only); go_keep)
      clear hK K
      try simp only [lyA, lyB, lyC, Act.put, lyD, lyE, lyF]
      obtain ⟨u, hu⟩ : ∃ ux : World, ux = w1.drew := ⟨_, rfl⟩
      have HBu : Hid (Below w0.heap.size w0 u) := Lib.hid (by rw [hu]; exact HB1.out.drew)
      rw [← hu] at hHeld ⊢
      clear hu
      obtain ⟨hk2, hf2⟩ := blk_cs ((HBu.out.block (w.heap.size + 1) (by omega)).trans G2.out)
      have k20 := hk2 0
      have k21 := hk2 1
      have f20 := hf2 0
      have f21 := hf2 1
      simp only [List.getElem?_toArray, List.getElem?_cons_zero, List.getElem?_cons_succ] at k20 k21
      obtain ⟨w8, hw8⟩ : ∃ w8, w8 = (u.setCell ⟨w.heap.size + 1, 0, none⟩ (.float .f64 0)).setCell ⟨w.heap.size + 1, 1, none⟩ (.float .f64 mx) := ⟨_, rfl⟩
      have HQ := Lib.hid (FIN.out u _ _ HBu.out _ hw8)
      have HW8 := Lib.hid hw8
      clear hk2 hf2 hw8 hm
      refine wpAnyG_one (i := 7) (by kernel_rfl) rfl (fun K hK => ?_)
      go_simp
      refine (fun hHeld => hK.out _ _ (.inl hHeld) (fun _ => ?_)) ?_
      rotate_left 1
      · first | exact True.intro | ((try dsimp only); go_keep)
      clear hK K
      try simp only [lyA, lyB, lyC, Act.put, lyD, lyE, lyF]
      refine wpAnyG_one (i := 8) (by kernel_rfl) rfl (fun K hK => ?_)
      go_simp
      refine hK.out _ _ ?_ (fun hHeld => ?_)
      · exact .inr (by kernel_rfl)
      clear hK K
      try simp only [lyA, lyB, lyC, Act.put, lyD, lyE, lyF]
      refine wpAnyG_one (i := 9) (by kernel_rfl) rfl (fun K hK => ?_)
      go_simp
      refine hK.out _ _ ?_ (fun hHeld => ?_)
      · exact .inr (by kernel_rfl)
      clear hK K
      try simp only [lyA, lyB, lyC, Act.put, lyD, lyE, lyF]
      refine wpAnyG_done (by kernel_rfl) ?_ _
      rw [← HW8.out]
      go_wp2_with fail
      obtain ⟨hb8, q0, q1⟩ := HQ.out
      (try simp only [Exit.inBlock, Exit.then])
      refine bodyPost_ret (v := .tuple #[.agg #[.float .f64 0, .float .f64 mx], .int .i64 0]) (by simp [results, Tryz.results22, go_sem, q0, q1]; done) rfl ?_
      exact ⟨by rw [HRES.out], hb8⟩
    · have hres : absS ⟨lo, hi⟩ = ⟨negF hi, negF lo⟩ := by unfold absS; simp only [hg, hh, Bool.false_eq_true, if_false, if_true]
      have HRES := Lib.hid (HR.out.trans hres)
      unfold fgt at hg
      unfold flt at hh
      clear hres
      go_enter Tryz.func22, Tryz.ntmps22
      go_wp2_with fail
      rw [← HW0.out]
      refine (I1.out w0).mono ?_
      rintro e w1 ⟨rfl, hb1⟩
      have zz1 := hb1.size
      have HB1 := Lib.hid hb1
      have hk1 := (blk_cs ((hb1.block w.heap.size (by omega)).trans G1.out)).1
      have k10 := hk1 0
      have k11 := hk1 1
      simp only [List.getElem?_toArray, List.getElem?_cons_zero, List.getElem?_cons_succ] at k10 k11
      clear hk1 hb1
      go_wp2_with fail
      refine (I2.out w1).mono ?_
      rintro e w2 ⟨rfl, hb2⟩
      have zz2 := hb2.size
      have HB2 := Lib.hid (HB1.out.trans (hb2.mono HB1.out.size))
      obtain ⟨hk2, hf2⟩ := blk_cs ((HB2.out.block (w.heap.size + 1) (by omega)).trans G2.out)
      have k20 := hk2 0
      have k21 := hk2 1
      have f20 := hf2 0
      have f21 := hf2 1
      simp only [List.getElem?_toArray, List.getElem?_cons_zero, List.getElem?_cons_succ] at k20 k21
      obtain ⟨w8, hw8⟩ : ∃ w8, w8 = (w2.setCell ⟨w.heap.size + 1, 0, none⟩ (.float .f64 (negF hi))).setCell ⟨w.heap.size + 1, 1, none⟩ (.float .f64 (negF lo)) := ⟨_, rfl⟩
      have HQ := Lib.hid (FIN.out w2 _ _ HB2.out _ hw8)
      have HW8 := Lib.hid hw8
      clear hk2 hf2 hb2 hw8 k10 k11
      go_wp2_with fail
      rw [← HW8.out]
      obtain ⟨hb8, q0, q1⟩ := HQ.out
      (try simp only [Exit.inBlock, Exit.then])
      refine bodyPost_ret (v := .tuple #[.agg #[.float .f64 (negF hi), .float .f64 (negF lo)], .int .i64 0]) (by simp [results, Tryz.results22, go_sem, q0, q1]; done) rfl ?_
      exact ⟨by rw [HRES.out], hb8⟩
  · have hres : absS ⟨lo, hi⟩ = ⟨lo, hi⟩ := by unfold absS; simp only [hg, if_true]
    have HRES := Lib.hid (HR.out.trans hres)
    unfold fgt at hg
    clear hres
    go_enter Tryz.func22, Tryz.ntmps22
    go_wp2_with fail
    rw [← HW0.out]
    refine (I1.out w0).mono ?_
    rintro e w1 ⟨rfl, hb1⟩
    have zz1 := hb1.size
    have HB1 := Lib.hid hb1
    have hk1 := (blk_cs ((hb1.block w.heap.size (by omega)).trans G1.out)).1
    have k10 := hk1 0
    have k11 := hk1 1
    obtain ⟨hk2, hf2⟩ := blk_cs ((hb1.block (w.heap.size + 1) (by omega)).trans G2.out)
    have k20 := hk2 0
    have k21 := hk2 1
    have f20 := hf2 0
    have f21 := hf2 1
    simp only [List.getElem?_toArray, List.getElem?_cons_zero, List.getElem?_cons_succ] at k10 k11 k20 k21
    obtain ⟨w8, hw8⟩ : ∃ w8, w8 = (w1.setCell ⟨w.heap.size + 1, 0, none⟩ (.float .f64 lo)).setCell ⟨w.heap.size + 1, 1, none⟩ (.float .f64 hi) := ⟨_, rfl⟩
    have HQ := Lib.hid (FIN.out w1 _ _ HB1.out _ hw8)
    have HW8 := Lib.hid hw8
    clear hk1 hk2 hf2 hb1 hw8
    go_wp2_with fail
    rw [← HW8.out]
    obtain ⟨hb8, q0, q1⟩ := HQ.out
    (try simp only [Exit.inBlock, Exit.then])
    refine bodyPost_ret (v := .tuple #[.agg #[.float .f64 lo, .float .f64 hi], .int .i64 0]) (by simp [results, Tryz.results22, go_sem, q0, q1]; done) rfl ?_
    exact ⟨by rw [HRES.out], hb8⟩
set_option maxRecDepth 100000 in
set_option maxHeartbeats 8000000 in
theorem add05 (a b : Spn) (rl ru : Nat) (w : World) (ha : a.ok = true) (hb : b.ok = true)
    (h1 : ∀ w, Calls Tryz.prog 45 #[.float .f64 a.lo, .float .f64 b.lo, .int .i8 1] w fun e w' => e = .returned (.float .f64 rl) ∧ Below w.heap.size w w')
    (h2 : ∀ w, Calls Tryz.prog 45 #[.float .f64 a.hi, .float .f64 b.hi, .int .i8 2] w fun e w' => e = .returned (.float .f64 ru) ∧ Below w.heap.size w w') :
    Calls Tryz.prog 25 #[a.val, b.val] w fun e w' => e = .returned (.tuple #[.agg #[.float .f64 rl, .float .f64 ru], .int .i64 0]) ∧ Below w.heap.size w w' := by
  have I1 := Lib.hid h1
  have I2 := Lib.hid h2
  have R1 := Lib.hid (fun w => right05_any a w)
  have R2 := Lib.hid (fun w => right05_any b w)
  have oa : spB a.lo a.hi = true := ha
  have ob : spB b.lo b.hi = true := hb
  rw [oa] at R1
  rw [ob] at R2
  obtain ⟨c, d⟩ := a
  obtain ⟨p, q⟩ := b
  simp only at I1 I2 R1 R2
  obtain ⟨w0, hw0⟩ : ∃ w0, w0 = ((w.alloc (.cells #[.float .f64 c, .float .f64 d] 24)).alloc (.cells #[.float .f64 p, .float .f64 q] 24)).alloc (.cells #[.float .f64 0, .float .f64 0] 24) := ⟨_, rfl⟩
  have hb0 : Below w.heap.size w w0 := by rw [hw0]; exact below3 ..
  have z0 : w0.heap.size = w.heap.size + 3 := by rw [hw0]; simp
  have g1 : w0.heap[w.heap.size]? = some (.cells #[.float .f64 c, .float .f64 d] 24 (0, 0)) := by
    rw [hw0]; exact ((below2 (w.alloc _) _ _).block w.heap.size (by simp)).trans (blk_new w _ _)
  have g2 : w0.heap[w.heap.size + 1]? = some (.cells #[.float .f64 p, .float .f64 q] 24 (0, 0)) := by
    rw [hw0]
    have h := blk_new (w.alloc (.cells #[.float .f64 c, .float .f64 d] 24)) #[.float .f64 p, .float .f64 q] 24
    rw [World.size_alloc] at h
    exact ((below1 _ _).block (w.heap.size + 1) (by simp)).trans h
  have g3 : w0.heap[w.heap.size + 2]? = some (.cells #[.float .f64 0, .float .f64 0] 24 (0, 0)) := by
    rw [hw0]
    have h := blk_new ((w.alloc (.cells #[.float .f64 c, .float .f64 d] 24)).alloc (.cells #[.float .f64 p, .float .f64 q] 24)) #[.float .f64 0, .float .f64 0] 24
    rwa [World.size_alloc, World.size_alloc] at h
  have K1 := Lib.hid (BxS.of_blk (s := ⟨c, d⟩) g1)
  have K2 := Lib.hid (BxS.of_blk (s := ⟨p, q⟩) g2)
  have G3 := Lib.hid g3
  have HB0 := Lib.hid hb0
  have HW0 := Lib.hid hw0
  clear h1 h2 ha hb hw0 hb0 g1 g2 g3 oa ob
  go_enter Tryz.func25, Tryz.ntmps25
  go_wp2_with fail
  rw [← HW0.out]
  refine (R1.out w0).mono ?_
  rintro e w1 ⟨rfl, hb1⟩
  have HB1 := Lib.hid hb1
  clear hb1
  obtain ⟨k10, k11⟩ := (K1.out.below HB1.out)
  obtain ⟨k20, k21⟩ := (K2.out.below HB1.out)
  simp only at k10 k11 k20 k21
  go_wp2_with fail
  clear k10 k11 k20 k21
  refine (R2.out w1).mono ?_
  rintro e w2 ⟨rfl, hb2⟩
  have HB2 := Lib.hid (HB1.out.trans (hb2.mono HB1.out.size))
  clear hb2
  have zz2 := HB2.out.size
  obtain ⟨k10, k11⟩ := (K1.out.below HB2.out)
  obtain ⟨k20, k21⟩ := (K2.out.below HB2.out)
  simp only at k10 k11 k20 k21
  go_wp2_with fail
  refine wp_region_G (S := (fun w' => w'.cell? ⟨w.heap.size, 0, none⟩ = some (.float .f64 c) ∧ w'.cell? ⟨w.heap.size, 1, none⟩ = some (.float .f64 d) ∧ w'.cell? ⟨w.heap.size + 1, 0, none⟩ = some (.float .f64 p) ∧ w'.cell? ⟨w.heap.size + 1, 1, none⟩ = some (.float .f64 q))) 11 (by kernel_rfl) ?_ (fun hHeld => ?_)
  · first | exact True.intro | ((try dsimp only); go_keep)
  refine tkG (i := 0) (v := ?_) rfl (by kernel_rfl) (Or.inl ⟨by kernel_rfl, ?_⟩) (by assumption) ?_
  rotate_left 1
  · (intro w hSw; (try dsimp only at hSw); go_simp; try with_reducible rfl)
  try simp only [lyA, lyB, lyC, Act.put, lyD, lyE, lyF]
  refine tkG (i := 1) (v := ?_) rfl (by kernel_rfl) (Or.inl ⟨by kernel_rfl, ?_⟩) (by assumption) ?_
  rotate_left 1
  · (intro w hSw; (try dsimp only at hSw); go_simp; try with_reducible rfl)
  try simp only [lyA, lyB, lyC, Act.put, lyD, lyE, lyF]
  refine tkG (i := 2) (v := ?_) rfl (by kernel_rfl) (Or.inl ⟨by kernel_rfl, ?_⟩) (by assumption) ?_
  rotate_left 1
  · (intro w hSw; (try dsimp only at hSw); go_simp; try with_reducible rfl)
  try simp only [lyA, lyB, lyC, Act.put, lyD, lyE, lyF]
  refine tkG (i := 3) (v := ?_) rfl (by kernel_rfl) (Or.inl ⟨by kernel_rfl, ?_⟩) (by assumption) ?_
  rotate_left 1
  · (intro w hSw; (try dsimp only at hSw); go_simp; try with_reducible rfl)
  try simp only [lyA, lyB, lyC, Act.put, lyD, lyE, lyF]
  refine tkG (i := 5) (v := ?_) rfl (by kernel_rfl) (Or.inl ⟨by kernel_rfl, ?_⟩) (by assumption) ?_
  rotate_left 1
  · (intro w hSw; (try dsimp only at hSw); go_simp; try with_reducible rfl)
  try simp only [lyA, lyB, lyC, Act.put, lyD, lyE, lyF]
  refine tkG (i := 6) (v := ?_) rfl (by kernel_rfl) (Or.inl ⟨by kernel_rfl, ?_⟩) (by assumption) ?_
  rotate_left 1
  · (intro w hSw; (try dsimp only at hSw); go_simp; try with_reducible rfl)
  try simp only [lyA, lyB, lyC, Act.put, lyD, lyE, lyF]
  refine tkG (i := 7) (v := ?_) rfl (by kernel_rfl) (Or.inl ⟨by kernel_rfl, ?_⟩) (by assumption) ?_
  rotate_left 1
  · (intro w hSw; (try dsimp only at hSw); go_simp; try with_reducible rfl)
  try simp only [lyA, lyB, lyC, Act.put, lyD, lyE, lyF]
  refine tkG (i := 8) (v := ?_) rfl (by kernel_rfl) (Or.inl ⟨by kernel_rfl, ?_⟩) (by assumption) ?_
  rotate_left 1
  · (intro w hSw; (try dsimp only at hSw); go_simp; try with_reducible rfl)
  try simp only [lyA, lyB, lyC, Act.put, lyD, lyE, lyF]
  obtain ⟨u, hu⟩ : ∃ ux : World, ux = w2.drew := ⟨_, rfl⟩
  have HBU : Hid (Below w0.heap.size w0 u) := Lib.hid (by rw [hu]; exact HB2.out.drew)
  rw [← hu] at hHeld ⊢
  clear hu k10 k11 k20 k21
  refine wpAnyG_one (i := 4) (by kernel_rfl) rfl (fun K hK => ?_)
  go_simp
  (refine (I1.out u).mono ?_; rintro e w3 ⟨rfl, hb3⟩; obtain ⟨s0, s1, s2, s3⟩ := hHeld; have t0 := bat hb3 s0; have t1 := bat hb3 s1; have t2 := bat hb3 s2; have t3 := bat hb3 s3; have HB3 := Lib.hid (HBU.out.trans (hb3.mono HBU.out.size)); clear hb3 s0 s1 s2 s3)
  try go_wp2_with fail
  refine (fun hHeld => hK.out _ _ (.inl hHeld) (fun _ => ?_)) ?_
  rotate_left 1
  · first | exact True.intro | ((try dsimp only); go_keep)
  clear hK K
  try simp only [lyA, lyB, lyC, Act.put, lyD, lyE, lyF]
  refine wpAnyG_one (i := 9) (by kernel_rfl) rfl (fun K hK => ?_)
  go_simp
  (refine (I2.out w3).mono ?_; rintro e w4 ⟨rfl, hb4⟩; have p0 := bat hb4 t0; have p1 := bat hb4 t1; have p2 := bat hb4 t2; have p3 := bat hb4 t3; have HB4 := Lib.hid (HB3.out.trans (hb4.mono HB3.out.size)); clear hb4 t0 t1 t2 t3)
  try go_wp2_with fail
  refine (fun hHeld => hK.out _ _ (.inl hHeld) (fun _ => ?_)) ?_
  rotate_left 1
  · first | exact True.intro | ((try dsimp only); go_keep)
  clear hK K
  try simp only [lyA, lyB, lyC, Act.put, lyD, lyE, lyF]
  refine wpAnyG_one (i := 10) (by kernel_rfl) rfl (fun K hK => ?_)
  go_simp
  refine (fun hHeld => hK.out _ _ (.inl hHeld) (fun _ => ?_)) ?_
  rotate_left 1
  · first | exact True.intro | ((try dsimp only); go_keep)
  clear hK K
  try simp only [lyA, lyB, lyC, Act.put, lyD, lyE, lyF]
  have zz3 := HB4.out.size
  obtain ⟨hk3, hf3⟩ := blk_cs ((HB4.out.block (w.heap.size + 2) (by omega)).trans G3.out)
  have k30 := hk3 0
  have k31 := hk3 1
  have f30 := hf3 0
  have f31 := hf3 1
  simp only [List.getElem?_toArray, List.getElem?_cons_zero, List.getElem?_cons_succ] at k30 k31
  obtain ⟨w8, hw8⟩ : ∃ w8, w8 = (w4.setCell ⟨w.heap.size + 2, 0, none⟩ (.float .f64 rl)).setCell ⟨w.heap.size + 2, 1, none⟩ (.float .f64 ru) := ⟨_, rfl⟩
  obtain ⟨hu8, hq⟩ := spn_set k30 k31 _ _ _ hw8
  have HQ := Lib.hid hq
  have HW8 := Lib.hid hw8
  have HB8 := Lib.hid (HB0.out.trans ((HB4.out.mono HB0.out.size).trans (hu8.below (by omega) (by omega))))
  clear hk3 hf3 hw8 hu8 hq
  refine wpAnyG_one (i := 11) (by kernel_rfl) rfl (fun K hK => ?_)
  go_simp
  refine hK.out _ _ ?_ (fun hHeld => ?_)
  · exact .inr (by kernel_rfl)
  clear hK K
  try simp only [lyA, lyB, lyC, Act.put, lyD, lyE, lyF]
  refine wpAnyG_one (i := 12) (by kernel_rfl) rfl (fun K hK => ?_)
  go_simp
  refine hK.out _ _ ?_ (fun hHeld => ?_)
  · exact .inr (by kernel_rfl)
  clear hK K
  try simp only [lyA, lyB, lyC, Act.put, lyD, lyE, lyF]
  refine wpAnyG_done (by kernel_rfl) ?_ _
  rw [← HW8.out]
  go_wp2_with fail
  obtain ⟨q0, q1⟩ := HQ.out
  (try simp only [Exit.inBlock, Exit.then])
  refine bodyPost_ret (v := .tuple #[.agg #[.float .f64 rl, .float .f64 ru], .int .i64 0]) (by simp [results, Tryz.results25, go_sem, q0, q1]; done) rfl ?_
  exact ⟨rfl, HB8.out⟩
/-- what over tells of two ends -/
structure OvC (x y : Nat) (D : Nat → Nat → Int → Nat) : Prop where
  c1 : ∀ w, Calls Tryz.prog 43 #[.float .f64 x, .float .f64 y, .int .i8 1] w fun e w' => e = .returned (.float .f64 (D x y 1)) ∧ Below w.heap.size w w'
  c2 : ∀ w, Calls Tryz.prog 43 #[.float .f64 x, .float .f64 y, .int .i8 2] w fun e w' => e = .returned (.float .f64 (D x y 2)) ∧ Below w.heap.size w w'
  l1 : D x y 1 < 18446744073709551616
  l2 : D x y 2 < 18446744073709551616
  n1 : fnan (D x y 1) = false
  n2 : fnan (D x y 2) = false
theorem over05_any (x y r : Nat) (m : Int) (w : World) (hf : finB y = true) (hC : ∀ w, Calls Tryz.prog 70 #[.float .f64 x, .float .f64 y, .int .i8 m] w fun e w' => e = .returned (.float .f64 r) ∧ Below w.heap.size w w') :
    Calls Tryz.prog 43 #[.float .f64 x, .float .f64 y, .int .i8 m] w fun e w' => e = .returned (.float .f64 r) ∧ Below w.heap.size w w' := by
  have I1 := Lib.hid (fun w => fin05_any x w)
  have I2 := Lib.hid (fun w => fin05_any y w)
  have HC := Lib.hid hC
  rw [hf] at I2
  generalize finB x = fx at I1
  clear hf hC
  cases fx
  · go_enter Tryz.func43, Tryz.ntmps43
    go_wp2_with fail
    refine (I1.out w).mono ?_
    rintro e w1 ⟨rfl, hb1⟩
    have H1 := Lib.hid hb1
    clear hb1
    go_wp2_with fail
    refine (I2.out w1).mono ?_
    rintro e w2 ⟨rfl, hb2⟩
    have H2 := Lib.hid (H1.out.trans (hb2.mono H1.out.size))
    clear hb2
    go_wp2_with fail
    refine (HC.out w2).mono ?_
    rintro e w3 ⟨rfl, hb3⟩
    have H3 := Lib.hid (H2.out.trans (hb3.mono H2.out.size))
    clear hb3
    go_wp2_with fail
    go_ret
    exact ⟨rfl, H3.out⟩
  · go_enter Tryz.func43, Tryz.ntmps43
    go_wp2_with fail
    refine (I1.out w).mono ?_
    rintro e w1 ⟨rfl, hb1⟩
    have H1 := Lib.hid hb1
    clear hb1
    go_wp2_with fail
    refine (HC.out w1).mono ?_
    rintro e w3 ⟨rfl, hb3⟩
    have H3 := Lib.hid (H1.out.trans (hb3.mono H1.out.size))
    clear hb3
    go_wp2_with fail
    go_ret
    exact ⟨rfl, H3.out⟩
theorem les_nan {a b : Nat} (ha : fnan a = false) (hb : fnan b = false) : fnan (lesF a b) = false := by rcases lesF_or a b with h | h <;> rw [h] <;> assumption
theorem gre_nan {a b : Nat} (ha : fnan a = false) (hb : fnan b = false) : fnan (greF a b) = false := by rcases greF_or a b with h | h <;> rw [h] <;> assumption

set_option maxRecDepth 100000 in
set_option maxHeartbeats 8000000 in
theorem div05 (a b : Spn) (D : Nat → Nat → Int → Nat) (w : World) (h00 : OvC a.lo b.lo D) (h01 : OvC a.lo b.hi D) (h10 : OvC a.hi b.lo D) (h11 : OvC a.hi b.hi D) (ha : a.ok = true) (hb : b.ok = true) (hz : fle b.lo 0 = false) :
    Calls Tryz.prog 24 #[a.val, b.val] w fun e w' => e = .returned (.tuple #[.agg #[.float .f64 (corL a b D 3), .float .f64 (corH a b D 3)], .int .i64 0]) ∧ Below w.heap.size w w' := by
  have R1 := Lib.hid (fun w => right05_any a w)
  have R2 := Lib.hid (fun w => right05_any b w)
  have oa : spB a.lo a.hi = true := ha
  have ob : spB b.lo b.hi = true := hb
  rw [oa] at R1
  rw [ob] at R2
  obtain ⟨c, d⟩ := a
  obtain ⟨p, q⟩ := b
  simp only at R1 R2 h00 h01 h10 h11 hz
  have P100 := Lib.hid h00.c1
  have P101 := Lib.hid h01.c1
  have P110 := Lib.hid h10.c1
  have P111 := Lib.hid h11.c1
  have P200 := Lib.hid h00.c2
  have P201 := Lib.hid h01.c2
  have P210 := Lib.hid h10.c2
  have P211 := Lib.hid h11.c2
  have L1a := Lib.hid (fun w => lesser05 (D c p 1) (D c q 1) w h00.l1 h01.l1 h00.n1 h01.n1)
  have L1b := Lib.hid (fun w => lesser05 (D d p 1) (D d q 1) w h10.l1 h11.l1 h10.n1 h11.n1)
  have L1c := Lib.hid (fun w => lesser05 (lesF (D c p 1) (D c q 1)) (lesF (D d p 1) (D d q 1)) w (lesF_lt h00.l1 h01.l1) (lesF_lt h10.l1 h11.l1) (les_nan h00.n1 h01.n1) (les_nan h10.n1 h11.n1))
  have L2a := Lib.hid (fun w => greater05 (D c p 2) (D c q 2) w h00.l2 h01.l2 h00.n2 h01.n2)
  have L2b := Lib.hid (fun w => greater05 (D d p 2) (D d q 2) w h10.l2 h11.l2 h10.n2 h11.n2)
  have L2c := Lib.hid (fun w => greater05 (greF (D c p 2) (D c q 2)) (greF (D d p 2) (D d q 2)) w (greF_lt h00.l2 h01.l2) (greF_lt h10.l2 h11.l2) (gre_nan h00.n2 h01.n2) (gre_nan h10.n2 h11.n2))
  have eL : corL ⟨c, d⟩ ⟨p, q⟩ D 3 = lesF (lesF (D c p 1) (D c q 1)) (lesF (D d p 1) (D d q 1)) := lesF_four ..
  have eH : corH ⟨c, d⟩ ⟨p, q⟩ D 3 = greF (greF (D c p 2) (D c q 2)) (greF (D d p 2) (D d q 2)) := greF_four ..
  obtain ⟨rl, hrl⟩ : ∃ rl, rl = corL ⟨c, d⟩ ⟨p, q⟩ D 3 := ⟨_, rfl⟩
  obtain ⟨ru, hru⟩ : ∃ ru, ru = corH ⟨c, d⟩ ⟨p, q⟩ D 3 := ⟨_, rfl⟩
  rw [← hrl, ← hru]
  rw [← eL, ← hrl] at L1c
  rw [← eH, ← hru] at L2c
  generalize lesF (D c p 1) (D c q 1) = l1 at *
  generalize lesF (D d p 1) (D d q 1) = l2 at *
  generalize greF (D c p 2) (D c q 2) = g1x at *
  generalize greF (D d p 2) (D d q 2) = g2x at *
  generalize D c p 1 = d100 at *
  generalize D c q 1 = d101 at *
  generalize D d p 1 = d110 at *
  generalize D d q 1 = d111 at *
  generalize D c p 2 = d200 at *
  generalize D c q 2 = d201 at *
  generalize D d p 2 = d210 at *
  generalize D d q 2 = d211 at *
  unfold fle at hz
  obtain ⟨w0, hw0⟩ : ∃ w0, w0 = ((w.alloc (.cells #[.float .f64 c, .float .f64 d] 24)).alloc (.cells #[.float .f64 p, .float .f64 q] 24)).alloc (.cells #[.float .f64 0, .float .f64 0] 24) := ⟨_, rfl⟩
  have hb0 : Below w.heap.size w w0 := by rw [hw0]; exact below3 ..
  have z0 : w0.heap.size = w.heap.size + 3 := by rw [hw0]; simp
  have g1 : w0.heap[w.heap.size]? = some (.cells #[.float .f64 c, .float .f64 d] 24 (0, 0)) := by
    rw [hw0]; exact ((below2 (w.alloc _) _ _).block w.heap.size (by simp)).trans (blk_new w _ _)
  have g2 : w0.heap[w.heap.size + 1]? = some (.cells #[.float .f64 p, .float .f64 q] 24 (0, 0)) := by
    rw [hw0]
    have h := blk_new (w.alloc (.cells #[.float .f64 c, .float .f64 d] 24)) #[.float .f64 p, .float .f64 q] 24
    rw [World.size_alloc] at h
    exact ((below1 _ _).block (w.heap.size + 1) (by simp)).trans h
  have g3 : w0.heap[w.heap.size + 2]? = some (.cells #[.float .f64 0, .float .f64 0] 24 (0, 0)) := by
    rw [hw0]
    have h := blk_new ((w.alloc (.cells #[.float .f64 c, .float .f64 d] 24)).alloc (.cells #[.float .f64 p, .float .f64 q] 24)) #[.float .f64 0, .float .f64 0] 24
    rwa [World.size_alloc, World.size_alloc] at h
  have K1 := Lib.hid (BxS.of_blk (s := ⟨c, d⟩) g1)
  have K2 := Lib.hid (BxS.of_blk (s := ⟨p, q⟩) g2)
  have G3 := Lib.hid g3
  have HB0 := Lib.hid hb0
  have HW0 := Lib.hid hw0
  clear h00 h01 h10 h11 ha hb hw0 hb0 g1 g2 g3 oa ob eL eH hrl hru
  go_enter Tryz.func24, Tryz.ntmps24
  go_wp2_with fail
  rw [← HW0.out]
  refine (R1.out w0).mono ?_
  rintro e w1 ⟨rfl, hb1⟩
  have HB1 := Lib.hid hb1
  clear hb1
  obtain ⟨k10, k11⟩ := (K1.out.below HB1.out)
  obtain ⟨k20, k21⟩ := (K2.out.below HB1.out)
  simp only at k10 k11 k20 k21
  go_wp2_with fail
  clear k10 k11 k20 k21
  refine (R2.out w1).mono ?_
  rintro e w2 ⟨rfl, hb2⟩
  have HB2 := Lib.hid (HB1.out.trans (hb2.mono HB1.out.size))
  clear hb2
  obtain ⟨k10, k11⟩ := (K1.out.below HB2.out)
  obtain ⟨k20, k21⟩ := (K2.out.below HB2.out)
  simp only at k10 k11 k20 k21
  go_upto_region 5 with fail
  obtain ⟨ua, hu⟩ : ∃ ux : World, ux = w2.drew := ⟨_, rfl⟩
  have HUa := Lib.hid hu
  have HBUa : Hid (Below w0.heap.size w0 ua) := Lib.hid (by rw [hu]; exact HB2.out.drew)
  clear hu
  refine wp_region_held_drew (S := (fun w' => w'.cell? ⟨w.heap.size, 0, none⟩ = some (.float .f64 c) ∧ w'.cell? ⟨w.heap.size, 1, none⟩ = some (.float .f64 d) ∧ w'.cell? ⟨w.heap.size + 1, 0, none⟩ = some (.float .f64 p) ∧ w'.cell? ⟨w.heap.size + 1, 1, none⟩ = some (.float .f64 q))) (by kernel_rfl) ?_ (fun hHeld => ?_)
  · first | exact True.intro | ((try dsimp only); go_keep)
  refine tkH (i := 0) (v := ?_) rfl (by kernel_rfl) (Or.inl ⟨by kernel_rfl, ?_⟩) (by assumption) ?_
  rotate_left 1
  · (intro w hSw; (try dsimp only at hSw); go_simp; try with_reducible rfl)
  try simp only [lyA, lyB, lyC, Act.put, lyD, lyE, lyF]
  refine tkH (i := 1) (v := ?_) rfl (by kernel_rfl) (Or.inl ⟨by kernel_rfl, ?_⟩) (by assumption) ?_
  rotate_left 1
  · (intro w hSw; (try dsimp only at hSw); go_simp; try with_reducible rfl)
  try simp only [lyA, lyB, lyC, Act.put, lyD, lyE, lyF]
  refine tkH (i := 2) (v := ?_) rfl (by kernel_rfl) (Or.inl ⟨by kernel_rfl, ?_⟩) (by assumption) ?_
  rotate_left 1
  · (intro w hSw; (try dsimp only at hSw); go_simp; try with_reducible rfl)
  try simp only [lyA, lyB, lyC, Act.put, lyD, lyE, lyF]
  refine tkH (i := 3) (v := ?_) rfl (by kernel_rfl) (Or.inl ⟨by kernel_rfl, ?_⟩) (by assumption) ?_
  rotate_left 1
  · (intro w hSw; (try dsimp only at hSw); go_simp; try with_reducible rfl)
  try simp only [lyA, lyB, lyC, Act.put, lyD, lyE, lyF]
  refine tkH (i := 5) (v := ?_) rfl (by kernel_rfl) (Or.inl ⟨by kernel_rfl, ?_⟩) (by assumption) ?_
  rotate_left 1
  · (intro w hSw; (try dsimp only at hSw); go_simp; try with_reducible rfl)
  try simp only [lyA, lyB, lyC, Act.put, lyD, lyE, lyF]
  refine tkH (i := 6) (v := ?_) rfl (by kernel_rfl) (Or.inl ⟨by kernel_rfl, ?_⟩) (by assumption) ?_
  rotate_left 1
  · (intro w hSw; (try dsimp only at hSw); go_simp; try with_reducible rfl)
  try simp only [lyA, lyB, lyC, Act.put, lyD, lyE, lyF]
  refine tkH (i := 7) (v := ?_) rfl (by kernel_rfl) (Or.inl ⟨by kernel_rfl, ?_⟩) (by assumption) ?_
  rotate_left 1
  · (intro w hSw; (try dsimp only at hSw); go_simp; try with_reducible rfl)
  try simp only [lyA, lyB, lyC, Act.put, lyD, lyE, lyF]
  refine tkH (i := 8) (v := ?_) rfl (by kernel_rfl) (Or.inl ⟨by kernel_rfl, ?_⟩) (by assumption) ?_
  rotate_left 1
  · (intro w hSw; (try dsimp only at hSw); go_simp; try with_reducible rfl)
  try simp only [lyA, lyB, lyC, Act.put, lyD, lyE, lyF]
  refine tkH (i := 11) (v := ?_) rfl (by kernel_rfl) (Or.inl ⟨by kernel_rfl, ?_⟩) (by assumption) ?_
  rotate_left 1
  · (intro w hSw; (try dsimp only at hSw); go_simp; try with_reducible rfl)
  try simp only [lyA, lyB, lyC, Act.put, lyD, lyE, lyF]
  refine tkH (i := 12) (v := ?_) rfl (by kernel_rfl) (Or.inl ⟨by kernel_rfl, ?_⟩) (by assumption) ?_
  rotate_left 1
  · (intro w hSw; (try dsimp only at hSw); go_simp; try with_reducible rfl)
  try simp only [lyA, lyB, lyC, Act.put, lyD, lyE, lyF]
  refine tkH (i := 13) (v := ?_) rfl (by kernel_rfl) (Or.inl ⟨by kernel_rfl, ?_⟩) (by assumption) ?_
  rotate_left 1
  · (intro w hSw; (try dsimp only at hSw); go_simp; try with_reducible rfl)
  try simp only [lyA, lyB, lyC, Act.put, lyD, lyE, lyF]
  refine tkH (i := 14) (v := ?_) rfl (by kernel_rfl) (Or.inl ⟨by kernel_rfl, ?_⟩) (by assumption) ?_
  rotate_left 1
  · (intro w hSw; (try dsimp only at hSw); go_simp; try with_reducible rfl)
  try simp only [lyA, lyB, lyC, Act.put, lyD, lyE, lyF]
  refine tkH (i := 16) (v := ?_) rfl (by kernel_rfl) (Or.inl ⟨by kernel_rfl, ?_⟩) (by assumption) ?_
  rotate_left 1
  · (intro w hSw; (try dsimp only at hSw); go_simp; try with_reducible rfl)
  try simp only [lyA, lyB, lyC, Act.put, lyD, lyE, lyF]
  refine tkH (i := 17) (v := ?_) rfl (by kernel_rfl) (Or.inl ⟨by kernel_rfl, ?_⟩) (by assumption) ?_
  rotate_left 1
  · (intro w hSw; (try dsimp only at hSw); go_simp; try with_reducible rfl)
  try simp only [lyA, lyB, lyC, Act.put, lyD, lyE, lyF]
  refine tkH (i := 18) (v := ?_) rfl (by kernel_rfl) (Or.inl ⟨by kernel_rfl, ?_⟩) (by assumption) ?_
  rotate_left 1
  · (intro w hSw; (try dsimp only at hSw); go_simp; try with_reducible rfl)
  try simp only [lyA, lyB, lyC, Act.put, lyD, lyE, lyF]
  refine tkH (i := 19) (v := ?_) rfl (by kernel_rfl) (Or.inl ⟨by kernel_rfl, ?_⟩) (by assumption) ?_
  rotate_left 1
  · (intro w hSw; (try dsimp only at hSw); go_simp; try with_reducible rfl)
  try simp only [lyA, lyB, lyC, Act.put, lyD, lyE, lyF]
  rw [← HUa.out]
  clear k10 k11 k20 k21
  refine wpAnyH_ready (rs := [4]) (by kernel_rfl) (by simp) ?_
  refine AllReadyH.cons rfl (fun K hK => ?_) AllReadyH.nil
  go_simp
  (refine (P100.out ua).mono ?_; rintro e xa1 ⟨rfl, hbn⟩; have HXa1 := Lib.hid (HBUa.out.trans (hbn.mono HBUa.out.size)); clear hbn; obtain ⟨k10, k11⟩ := (K1.out.below HXa1.out); obtain ⟨k20, k21⟩ := (K2.out.below HXa1.out); simp only at k10 k11 k20 k21)
  try go_wp2_with fail
  refine hK.out _ _ ?_ (fun hHeld => ?_)
  · first | exact True.intro | ((try dsimp only); go_keep)
  clear hK K
  try simp only [lyA, lyB, lyC, Act.put, lyD, lyE, lyF]
  clear k10 k11 k20 k21
  refine wpAnyH_ready (rs := [9]) (by kernel_rfl) (by simp) ?_
  refine AllReadyH.cons rfl (fun K hK => ?_) AllReadyH.nil
  go_simp
  (refine (P101.out xa1).mono ?_; rintro e xa2 ⟨rfl, hbn⟩; have HXa2 := Lib.hid (HXa1.out.trans (hbn.mono HXa1.out.size)); clear hbn; obtain ⟨k10, k11⟩ := (K1.out.below HXa2.out); obtain ⟨k20, k21⟩ := (K2.out.below HXa2.out); simp only at k10 k11 k20 k21)
  try go_wp2_with fail
  refine hK.out _ _ ?_ (fun hHeld => ?_)
  · first | exact True.intro | ((try dsimp only); go_keep)
  clear hK K
  try simp only [lyA, lyB, lyC, Act.put, lyD, lyE, lyF]
  clear k10 k11 k20 k21
  obtain ⟨k10, k11⟩ := (K1.out.below HXa2.out)
  obtain ⟨k20, k21⟩ := (K2.out.below HXa2.out)
  simp only at k10 k11 k20 k21
  refine wpAnyH_ready (rs := [10]) (by kernel_rfl) (by simp) ?_
  refine AllReadyH.cons rfl (fun K hK => ?_) AllReadyH.nil
  go_simp
  (refine (L1a.out xa2).mono ?_; rintro e wz ⟨rfl, rfl⟩)
  try go_wp2_with fail
  refine hK.out _ _ ?_ (fun hHeld => ?_)
  · first | exact True.intro | ((try dsimp only); go_keep)
  clear hK K
  try simp only [lyA, lyB, lyC, Act.put, lyD, lyE, lyF]
  clear k10 k11 k20 k21
  refine wpAnyH_ready (rs := [15]) (by kernel_rfl) (by simp) ?_
  refine AllReadyH.cons rfl (fun K hK => ?_) AllReadyH.nil
  go_simp
  (refine (P110.out xa2).mono ?_; rintro e xa3 ⟨rfl, hbn⟩; have HXa3 := Lib.hid (HXa2.out.trans (hbn.mono HXa2.out.size)); clear hbn; obtain ⟨k10, k11⟩ := (K1.out.below HXa3.out); obtain ⟨k20, k21⟩ := (K2.out.below HXa3.out); simp only at k10 k11 k20 k21)
  try go_wp2_with fail
  refine hK.out _ _ ?_ (fun hHeld => ?_)
  · first | exact True.intro | ((try dsimp only); go_keep)
  clear hK K
  try simp only [lyA, lyB, lyC, Act.put, lyD, lyE, lyF]
  clear k10 k11 k20 k21
  refine wpAnyH_ready (rs := [20]) (by kernel_rfl) (by simp) ?_
  refine AllReadyH.cons rfl (fun K hK => ?_) AllReadyH.nil
  go_simp
  (refine (P111.out xa3).mono ?_; rintro e xa4 ⟨rfl, hbn⟩; have HXa4 := Lib.hid (HXa3.out.trans (hbn.mono HXa3.out.size)); clear hbn; obtain ⟨k10, k11⟩ := (K1.out.below HXa4.out); obtain ⟨k20, k21⟩ := (K2.out.below HXa4.out); simp only at k10 k11 k20 k21)
  try go_wp2_with fail
  refine hK.out _ _ ?_ (fun hHeld => ?_)
  · first | exact True.intro | ((try dsimp only); go_keep)
  clear hK K
  try simp only [lyA, lyB, lyC, Act.put, lyD, lyE, lyF]
  clear k10 k11 k20 k21
  obtain ⟨k10, k11⟩ := (K1.out.below HXa4.out)
  obtain ⟨k20, k21⟩ := (K2.out.below HXa4.out)
  simp only at k10 k11 k20 k21
  refine wpAnyH_ready (rs := [21]) (by kernel_rfl) (by simp) ?_
  refine AllReadyH.cons rfl (fun K hK => ?_) AllReadyH.nil
  go_simp
  (refine (L1b.out xa4).mono ?_; rintro e wz ⟨rfl, rfl⟩)
  try go_wp2_with fail
  refine hK.out _ _ ?_ (fun hHeld => ?_)
  · first | exact True.intro | ((try dsimp only); go_keep)
  clear hK K
  try simp only [lyA, lyB, lyC, Act.put, lyD, lyE, lyF]
  clear k10 k11 k20 k21
  obtain ⟨k10, k11⟩ := (K1.out.below HXa4.out)
  obtain ⟨k20, k21⟩ := (K2.out.below HXa4.out)
  simp only at k10 k11 k20 k21
  refine wpAnyH_ready (rs := [22]) (by kernel_rfl) (by simp) ?_
  refine AllReadyH.cons rfl (fun K hK => ?_) AllReadyH.nil
  go_simp
  (refine (L1c.out xa4).mono ?_; rintro e wz ⟨rfl, rfl⟩)
  try go_wp2_with fail
  refine hK.out _ _ ?_ (fun hHeld => ?_)
  · first | exact True.intro | ((try dsimp only); go_keep)
  clear hK K
  try simp only [lyA, lyB, lyC, Act.put, lyD, lyE, lyF]
  clear k10 k11 k20 k21
  obtain ⟨k10, k11⟩ := (K1.out.below HXa4.out)
  obtain ⟨k20, k21⟩ := (K2.out.below HXa4.out)
  simp only at k10 k11 k20 k21
  refine wpAnyH_ready (rs := [23]) (by kernel_rfl) (by simp) ?_
  refine AllReadyH.cons rfl (fun K hK => ?_) AllReadyH.nil
  go_simp
  refine hK.out _ _ ?_ (fun hHeld => ?_)
  · first | exact True.intro | ((try dsimp only); go_keep)
  clear hK K
  try simp only [lyA, lyB, lyC, Act.put, lyD, lyE, lyF]
  refine wpAnyH_done (by kernel_rfl) ?_ _
  go_upto_region 6 with fail
  obtain ⟨ub, hu⟩ : ∃ ux : World, ux = xa4.drew := ⟨_, rfl⟩
  have HUb := Lib.hid hu
  have HBUb : Hid (Below w0.heap.size w0 ub) := Lib.hid (by rw [hu]; exact HXa4.out.drew)
  clear hu
  refine wp_region_held_drew (S := (fun w' => w'.cell? ⟨w.heap.size, 0, none⟩ = some (.float .f64 c) ∧ w'.cell? ⟨w.heap.size, 1, none⟩ = some (.float .f64 d) ∧ w'.cell? ⟨w.heap.size + 1, 0, none⟩ = some (.float .f64 p) ∧ w'.cell? ⟨w.heap.size + 1, 1, none⟩ = some (.float .f64 q))) (by kernel_rfl) ?_ (fun hHeld => ?_)
  · first | exact True.intro | ((try dsimp only); go_keep)
  refine tkH (i := 0) (v := ?_) rfl (by kernel_rfl) (Or.inl ⟨by kernel_rfl, ?_⟩) (by assumption) ?_
  rotate_left 1
  · (intro w hSw; (try dsimp only at hSw); go_simp; try with_reducible rfl)
  try simp only [lyA, lyB, lyC, Act.put, lyD, lyE, lyF]
  refine tkH (i := 1) (v := ?_) rfl (by kernel_rfl) (Or.inl ⟨by kernel_rfl, ?_⟩) (by assumption) ?_
  rotate_left 1
  · (intro w hSw; (try dsimp only at hSw); go_simp; try with_reducible rfl)
  try simp only [lyA, lyB, lyC, Act.put, lyD, lyE, lyF]
  refine tkH (i := 2) (v := ?_) rfl (by kernel_rfl) (Or.inl ⟨by kernel_rfl, ?_⟩) (by assumption) ?_
  rotate_left 1
  · (intro w hSw; (try dsimp only at hSw); go_simp; try with_reducible rfl)
  try simp only [lyA, lyB, lyC, Act.put, lyD, lyE, lyF]
  refine tkH (i := 3) (v := ?_) rfl (by kernel_rfl) (Or.inl ⟨by kernel_rfl, ?_⟩) (by assumption) ?_
  rotate_left 1
  · (intro w hSw; (try dsimp only at hSw); go_simp; try with_reducible rfl)
  try simp only [lyA, lyB, lyC, Act.put, lyD, lyE, lyF]
  refine tkH (i := 5) (v := ?_) rfl (by kernel_rfl) (Or.inl ⟨by kernel_rfl, ?_⟩) (by assumption) ?_
  rotate_left 1
  · (intro w hSw; (try dsimp only at hSw); go_simp; try with_reducible rfl)
  try simp only [lyA, lyB, lyC, Act.put, lyD, lyE, lyF]
  refine tkH (i := 6) (v := ?_) rfl (by kernel_rfl) (Or.inl ⟨by kernel_rfl, ?_⟩) (by assumption) ?_
  rotate_left 1
  · (intro w hSw; (try dsimp only at hSw); go_simp; try with_reducible rfl)
  try simp only [lyA, lyB, lyC, Act.put, lyD, lyE, lyF]
  refine tkH (i := 7) (v := ?_) rfl (by kernel_rfl) (Or.inl ⟨by kernel_rfl, ?_⟩) (by assumption) ?_
  rotate_left 1
  · (intro w hSw; (try dsimp only at hSw); go_simp; try with_reducible rfl)
  try simp only [lyA, lyB, lyC, Act.put, lyD, lyE, lyF]
  refine tkH (i := 8) (v := ?_) rfl (by kernel_rfl) (Or.inl ⟨by kernel_rfl, ?_⟩) (by assumption) ?_
  rotate_left 1
  · (intro w hSw; (try dsimp only at hSw); go_simp; try with_reducible rfl)
  try simp only [lyA, lyB, lyC, Act.put, lyD, lyE, lyF]
  refine tkH (i := 11) (v := ?_) rfl (by kernel_rfl) (Or.inl ⟨by kernel_rfl, ?_⟩) (by assumption) ?_
  rotate_left 1
  · (intro w hSw; (try dsimp only at hSw); go_simp; try with_reducible rfl)
  try simp only [lyA, lyB, lyC, Act.put, lyD, lyE, lyF]
  refine tkH (i := 12) (v := ?_) rfl (by kernel_rfl) (Or.inl ⟨by kernel_rfl, ?_⟩) (by assumption) ?_
  rotate_left 1
  · (intro w hSw; (try dsimp only at hSw); go_simp; try with_reducible rfl)
  try simp only [lyA, lyB, lyC, Act.put, lyD, lyE, lyF]
  refine tkH (i := 13) (v := ?_) rfl (by kernel_rfl) (Or.inl ⟨by kernel_rfl, ?_⟩) (by assumption) ?_
  rotate_left 1
  · (intro w hSw; (try dsimp only at hSw); go_simp; try with_reducible rfl)
  try simp only [lyA, lyB, lyC, Act.put, lyD, lyE, lyF]
  refine tkH (i := 14) (v := ?_) rfl (by kernel_rfl) (Or.inl ⟨by kernel_rfl, ?_⟩) (by assumption) ?_
  rotate_left 1
  · (intro w hSw; (try dsimp only at hSw); go_simp; try with_reducible rfl)
  try simp only [lyA, lyB, lyC, Act.put, lyD, lyE, lyF]
  refine tkH (i := 16) (v := ?_) rfl (by kernel_rfl) (Or.inl ⟨by kernel_rfl, ?_⟩) (by assumption) ?_
  rotate_left 1
  · (intro w hSw; (try dsimp only at hSw); go_simp; try with_reducible rfl)
  try simp only [lyA, lyB, lyC, Act.put, lyD, lyE, lyF]
  refine tkH (i := 17) (v := ?_) rfl (by kernel_rfl) (Or.inl ⟨by kernel_rfl, ?_⟩) (by assumption) ?_
  rotate_left 1
  · (intro w hSw; (try dsimp only at hSw); go_simp; try with_reducible rfl)
  try simp only [lyA, lyB, lyC, Act.put, lyD, lyE, lyF]
  refine tkH (i := 18) (v := ?_) rfl (by kernel_rfl) (Or.inl ⟨by kernel_rfl, ?_⟩) (by assumption) ?_
  rotate_left 1
  · (intro w hSw; (try dsimp only at hSw); go_simp; try with_reducible rfl)
  try simp only [lyA, lyB, lyC, Act.put, lyD, lyE, lyF]
  refine tkH (i := 19) (v := ?_) rfl (by kernel_rfl) (Or.inl ⟨by kernel_rfl, ?_⟩) (by assumption) ?_
  rotate_left 1
  · (intro w hSw; (try dsimp only at hSw); go_simp; try with_reducible rfl)
  try simp only [lyA, lyB, lyC, Act.put, lyD, lyE, lyF]
  rw [← HUb.out]
  clear k10 k11 k20 k21
  refine wpAnyH_ready (rs := [4]) (by kernel_rfl) (by simp) ?_
  refine AllReadyH.cons rfl (fun K hK => ?_) AllReadyH.nil
  go_simp
  (refine (P200.out ub).mono ?_; rintro e xb1 ⟨rfl, hbn⟩; have HXb1 := Lib.hid (HBUb.out.trans (hbn.mono HBUb.out.size)); clear hbn; obtain ⟨k10, k11⟩ := (K1.out.below HXb1.out); obtain ⟨k20, k21⟩ := (K2.out.below HXb1.out); simp only at k10 k11 k20 k21)
  try go_wp2_with fail
  refine hK.out _ _ ?_ (fun hHeld => ?_)
  · first | exact True.intro | ((try dsimp only); go_keep)
  clear hK K
  try simp only [lyA, lyB, lyC, Act.put, lyD, lyE, lyF]
  clear k10 k11 k20 k21
  refine wpAnyH_ready (rs := [9]) (by kernel_rfl) (by simp) ?_
  refine AllReadyH.cons rfl (fun K hK => ?_) AllReadyH.nil
  go_simp
  (refine (P201.out xb1).mono ?_; rintro e xb2 ⟨rfl, hbn⟩; have HXb2 := Lib.hid (HXb1.out.trans (hbn.mono HXb1.out.size)); clear hbn; obtain ⟨k10, k11⟩ := (K1.out.below HXb2.out); obtain ⟨k20, k21⟩ := (K2.out.below HXb2.out); simp only at k10 k11 k20 k21)
  try go_wp2_with fail
  refine hK.out _ _ ?_ (fun hHeld => ?_)
  · first | exact True.intro | ((try dsimp only); go_keep)
  clear hK K
  try simp only [lyA, lyB, lyC, Act.put, lyD, lyE, lyF]
  clear k10 k11 k20 k21
  obtain ⟨k10, k11⟩ := (K1.out.below HXb2.out)
  obtain ⟨k20, k21⟩ := (K2.out.below HXb2.out)
  simp only at k10 k11 k20 k21
  refine wpAnyH_ready (rs := [10]) (by kernel_rfl) (by simp) ?_
  refine AllReadyH.cons rfl (fun K hK => ?_) AllReadyH.nil
  go_simp
  (refine (L2a.out xb2).mono ?_; rintro e wz ⟨rfl, rfl⟩)
  try go_wp2_with fail
  refine hK.out _ _ ?_ (fun hHeld => ?_)
  · first | exact True.intro | ((try dsimp only); go_keep)
  clear hK K
  try simp only [lyA, lyB, lyC, Act.put, lyD, lyE, lyF]
  clear k10 k11 k20 k21
  refine wpAnyH_ready (rs := [15]) (by kernel_rfl) (by simp) ?_
  refine AllReadyH.cons rfl (fun K hK => ?_) AllReadyH.nil
  go_simp
  (refine (P210.out xb2).mono ?_; rintro e xb3 ⟨rfl, hbn⟩; have HXb3 := Lib.hid (HXb2.out.trans (hbn.mono HXb2.out.size)); clear hbn; obtain ⟨k10, k11⟩ := (K1.out.below HXb3.out); obtain ⟨k20, k21⟩ := (K2.out.below HXb3.out); simp only at k10 k11 k20 k21)
  try go_wp2_with fail
  refine hK.out _ _ ?_ (fun hHeld => ?_)
  · first | exact True.intro | ((try dsimp only); go_keep)
  clear hK K
  try simp only [lyA, lyB, lyC, Act.put, lyD, lyE, lyF]
  clear k10 k11 k20 k21
  refine wpAnyH_ready (rs := [20]) (by kernel_rfl) (by simp) ?_
  refine AllReadyH.cons rfl (fun K hK => ?_) AllReadyH.nil
  go_simp
  (refine (P211.out xb3).mono ?_; rintro e xb4 ⟨rfl, hbn⟩; have HXb4 := Lib.hid (HXb3.out.trans (hbn.mono HXb3.out.size)); clear hbn; obtain ⟨k10, k11⟩ := (K1.out.below HXb4.out); obtain ⟨k20, k21⟩ := (K2.out.below HXb4.out); simp only at k10 k11 k20 k21)
  try go_wp2_with fail
  refine hK.out _ _ ?_ (fun hHeld => ?_)
  · first | exact True.intro | ((try dsimp only); go_keep)
  clear hK K
  try simp only [lyA, lyB, lyC, Act.put, lyD, lyE, lyF]
  clear k10 k11 k20 k21
  obtain ⟨k10, k11⟩ := (K1.out.below HXb4.out)
  obtain ⟨k20, k21⟩ := (K2.out.below HXb4.out)
  simp only at k10 k11 k20 k21
  refine wpAnyH_ready (rs := [21]) (by kernel_rfl) (by simp) ?_
  refine AllReadyH.cons rfl (fun K hK => ?_) AllReadyH.nil
  go_simp
  (refine (L2b.out xb4).mono ?_; rintro e wz ⟨rfl, rfl⟩)
  try go_wp2_with fail
  refine hK.out _ _ ?_ (fun hHeld => ?_)
  · first | exact True.intro | ((try dsimp only); go_keep)
  clear hK K
  try simp only [lyA, lyB, lyC, Act.put, lyD, lyE, lyF]
  clear k10 k11 k20 k21
  obtain ⟨k10, k11⟩ := (K1.out.below HXb4.out)
  obtain ⟨k20, k21⟩ := (K2.out.below HXb4.out)
  simp only at k10 k11 k20 k21
  refine wpAnyH_ready (rs := [22]) (by kernel_rfl) (by simp) ?_
  refine AllReadyH.cons rfl (fun K hK => ?_) AllReadyH.nil
  go_simp
  (refine (L2c.out xb4).mono ?_; rintro e wz ⟨rfl, rfl⟩)
  try go_wp2_with fail
  refine hK.out _ _ ?_ (fun hHeld => ?_)
  · first | exact True.intro | ((try dsimp only); go_keep)
  clear hK K
  try simp only [lyA, lyB, lyC, Act.put, lyD, lyE, lyF]
  clear k10 k11 k20 k21
  obtain ⟨k10, k11⟩ := (K1.out.below HXb4.out)
  obtain ⟨k20, k21⟩ := (K2.out.below HXb4.out)
  simp only at k10 k11 k20 k21
  refine wpAnyH_ready (rs := [23]) (by kernel_rfl) (by simp) ?_
  refine AllReadyH.cons rfl (fun K hK => ?_) AllReadyH.nil
  go_simp
  refine hK.out _ _ ?_ (fun hHeld => ?_)
  · first | exact True.intro | ((try dsimp only); go_keep)
  clear hK K
  try simp only [lyA, lyB, lyC, Act.put, lyD, lyE, lyF]
  refine wpAnyH_done (by kernel_rfl) ?_ _
  have zz3 := HXb4.out.size
  obtain ⟨hk3, hf3⟩ := blk_cs ((HXb4.out.block (w.heap.size + 2) (by omega)).trans G3.out)
  have k30 := hk3 0
  have k31 := hk3 1
  have f30 := hf3 0
  have f31 := hf3 1
  simp only [List.getElem?_toArray, List.getElem?_cons_zero, List.getElem?_cons_succ] at k30 k31
  obtain ⟨w8, hw8⟩ : ∃ w8, w8 = (xb4.setCell ⟨w.heap.size + 2, 0, none⟩ (.float .f64 rl)).setCell ⟨w.heap.size + 2, 1, none⟩ (.float .f64 ru) := ⟨_, rfl⟩
  obtain ⟨hu8, hq⟩ := spn_set k30 k31 _ _ _ hw8
  have HQ := Lib.hid hq
  have HW8 := Lib.hid hw8
  have HB8 := Lib.hid (HB0.out.trans ((HXb4.out.mono HB0.out.size).trans (hu8.below (by omega) (by omega))))
  clear hk3 hf3 hw8 hu8 hq
  go_wp2_with fail
  rw [← HW8.out]
  obtain ⟨q0, q1⟩ := HQ.out
  (try simp only [Exit.inBlock, Exit.then])
  refine bodyPost_ret (v := .tuple #[.agg #[.float .f64 rl, .float .f64 ru], .int .i64 0]) (by simp [results, Tryz.results24, go_sem, q0, q1]; done) rfl ?_
  exact ⟨rfl, HB8.out⟩

end Go.Proofs.YtkfhbnfoiicioaaGreatDoor
