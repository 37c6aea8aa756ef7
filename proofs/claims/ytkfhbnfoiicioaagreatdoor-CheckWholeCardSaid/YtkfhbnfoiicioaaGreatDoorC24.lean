import Derived.Test.YtkfhbnfoiicioaaGreatDoorC23
/- check.Under, check.Whole: the walks -/
set_option linter.unusedSimpArgs false
set_option linter.unusedVariables false
namespace Go.Proofs.YtkfhbnfoiicioaaGreatDoor
open Go.RowKit Go.Sort

theorem under_chk (x : Spn) (most : Nat) (w : World) : Calls Tryz.prog 13 #[x.val, .float .f64 most] w fun e w' => e = .returned (.int .i8 (underI x.lo x.hi most)) ∧ Below w.heap.size w w' := by
  have I1 := Lib.hid (fun w => right_any x w)
  unfold underI
  obtain ⟨lo, hi⟩ := x
  simp only at I1 ⊢
  obtain ⟨b1, h1⟩ : ∃ b, spB lo hi = b := ⟨_, rfl⟩
  obtain ⟨b2, h2⟩ : ∃ b, feq most most = b := ⟨_, rfl⟩
  obtain ⟨b3, h3⟩ : ∃ b, fle hi most = b := ⟨_, rfl⟩
  obtain ⟨b4, h4⟩ : ∃ b, fgt lo most = b := ⟨_, rfl⟩
  rw [h1] at I1
  rw [h1, h2, h3, h4]
  have h2' : (FloatKind.f64.format.order most most != some .eq) = !b2 := by rw [← h2]; rfl
  unfold fle at h3
  unfold fgt at h4
  obtain ⟨w0, hw0⟩ : ∃ w0, w0 = w.alloc (.cells #[.float .f64 lo, .float .f64 hi] 24) := ⟨_, rfl⟩
  have hb0 : Below w.heap.size w w0 := by rw [hw0]; exact below1 ..
  have K1 := Lib.hid (BxS.of_blk (s := ⟨lo, hi⟩) (show w0.heap[w.heap.size]? = some (.cells #[.float .f64 lo, .float .f64 hi] 24 (0, 0)) by rw [hw0]; exact blk_new ..))
  have HB0 := Lib.hid hb0
  have HW0 := Lib.hid hw0
  clear h1 h2 hw0 hb0
  cases b1
  · rw [if_pos (by rfl)]
    go_enter Tryz.func13, Tryz.ntmps13
    go_wp2_with fail
    rw [← HW0.out]
    refine (I1.out w0).mono ?_
    rintro e w1 ⟨rfl, hb1⟩
    have HB1 := Lib.hid (HB0.out.trans (hb1.mono HB0.out.size))
    clear hb1
    go_wp2_with fail
    go_ret
    exact ⟨rfl, HB1.out⟩
  · cases b2
    · rw [if_pos (by rfl)]
      simp only [Bool.not_false] at h2'
      go_enter Tryz.func13, Tryz.ntmps13
      go_wp2_with fail
      rw [← HW0.out]
      refine (I1.out w0).mono ?_
      rintro e w1 ⟨rfl, hb1⟩
      have HB1 := Lib.hid (HB0.out.trans (hb1.mono HB0.out.size))
      clear hb1
      go_wp2_with fail
      go_ret
      exact ⟨rfl, HB1.out⟩
    · rw [if_neg (by decide)]
      simp only [Bool.not_true] at h2'
      cases b3
      · rw [if_neg (by decide)]
        cases b4
        · rw [if_neg (by decide)]
          go_enter Tryz.func13, Tryz.ntmps13
          go_wp2_with fail
          rw [← HW0.out]
          refine (I1.out w0).mono ?_
          rintro e w1 ⟨rfl, hb1⟩
          have HB1 := Lib.hid (HB0.out.trans (hb1.mono HB0.out.size))
          obtain ⟨k0, k1⟩ := K1.out.below hb1
          simp only at k0 k1
          clear hb1
          go_wp2_with fail
          go_ret
          exact ⟨rfl, HB1.out⟩
        · rw [if_pos rfl]
          go_enter Tryz.func13, Tryz.ntmps13
          go_wp2_with fail
          rw [← HW0.out]
          refine (I1.out w0).mono ?_
          rintro e w1 ⟨rfl, hb1⟩
          have HB1 := Lib.hid (HB0.out.trans (hb1.mono HB0.out.size))
          obtain ⟨k0, k1⟩ := K1.out.below hb1
          simp only at k0 k1
          clear hb1
          go_wp2_with fail
          go_ret
          exact ⟨rfl, HB1.out⟩
      · rw [if_pos rfl]
        go_enter Tryz.func13, Tryz.ntmps13
        go_wp2_with fail
        rw [← HW0.out]
        refine (I1.out w0).mono ?_
        rintro e w1 ⟨rfl, hb1⟩
        have HB1 := Lib.hid (HB0.out.trans (hb1.mono HB0.out.size))
        obtain ⟨k0, k1⟩ := K1.out.below hb1
        simp only at k0 k1
        clear hb1
        go_wp2_with fail
        go_ret
        exact ⟨rfl, HB1.out⟩
/-- a verdict -/
structure Vd where
  joint : Bool
  for_ : Int
  is_ : Int
  lo : Nat
  hi : Nat
  of_ : Int
def Vd.cells (x : Vd) : List Value := [.bool x.joint, .int .i64 x.for_, .int .i8 x.is_, .float .f64 x.lo, .float .f64 x.hi, .int .i64 x.of_]
theorem Vd.clen (x : Vd) : x.cells.length = 6 := rfl
def Vd.no (x : Vd) : Bool := x.is_ == 2
def Vd.yes (x : Vd) : Bool := x.is_ == 1
def wholeI (xs : List Vd) : Int := if xs.any Vd.no = true then 2 else if xs.all Vd.yes = true then 1 else 0
def yesI (b : Bool) : Int := if b = true then 1 else 0
theorem take_anyV {p : Vd → Bool} {xs : List Vd} {k : Nat} {x : Vd} (h : (xs.take k).any p = false) (hx : xs[k]? = some x) (hp : p x = false) : (xs.take (k + 1)).any p = false := by
  obtain ⟨hl, e⟩ := List.getElem?_eq_some_iff.1 hx
  rw [List.take_succ_eq_append_getElem hl, List.any_append, h, e]
  simp [hp]
theorem take_allV {p : Vd → Bool} {xs : List Vd} {k : Nat} {x : Vd} (hx : xs[k]? = some x) : (xs.take (k + 1)).all p = ((xs.take k).all p && p x) := by
  obtain ⟨hl, e⟩ := List.getElem?_eq_some_iff.1 hx
  rw [List.take_succ_eq_append_getElem hl, List.all_append, e]
  simp
set_option maxRecDepth 100000 in
set_option maxHeartbeats 4000000 in
theorem whole_any (A : Option Addr) (n c : Nat) (xs : List Vd) (S : Nat → Prop) (w : World) (hx : RdE Vd.cells 6 w S A n xs) (hS : ∀ b, S b → b < w.heap.size) (hn : n ≤ 1000000000000000) :
    Calls Tryz.prog 10 #[.slice A n c] w fun e w' => e = .returned (.int .i8 (wholeI xs)) ∧ Below w.heap.size w w' := by
  obtain ⟨r, hr⟩ : ∃ r, r = wholeI xs := ⟨_, rfl⟩
  rw [← hr]
  have HR := Lib.hid hr
  have HX := Lib.hid hx
  have HS := Lib.hid hS
  clear hr hx hS
  go_enter Tryz.func10, Tryz.ntmps10
  go_wp2_with fail
  go_loopw [3, 8] (fun ov iv wr => ∃ k : Nat, k ≤ n ∧ iv = .int .i64 k ∧ ov = .int .i8 (yesI ((xs.take k).all Vd.yes)) ∧ (xs.take k).any Vd.no = false ∧ Below w.heap.size w wr) (fun _ iv _ => n - (intOf iv).toNat)
  case atStart => exact ⟨0, by omega, rfl, by simp [yesI], by simp, Below.refl _ _⟩
  case round =>
    obtain ⟨k, hk, rfl, rfl, hno, hbw⟩ := hrel
    have HN := Lib.hid hno
    have HBW := Lib.hid hbw
    obtain ⟨a, ha⟩ : ∃ a, a = (xs.take k).all Vd.yes := ⟨_, rfl⟩
    rw [← ha]
    have HA := Lib.hid ha
    clear hno ha
    by_cases hlt : k < n
    · obtain ⟨x, ex⟩ := get_some HX.out.num hlt
      obtain ⟨b, o, rfl, hSb, hc⟩ := HX.out.elem Vd.clen ex (by omega)
      have k0 : wr.cell? ⟨b, o + k * 6, none⟩ = some (.bool x.joint) := bat hbw (by have h := hc 0 _ rfl; simpa using h)
      have k1 : wr.cell? ⟨b, o + k * 6 + 1, none⟩ = some (.int .i64 x.for_) := bat hbw (hc 1 _ rfl)
      have k2 : wr.cell? ⟨b, o + k * 6 + 2, none⟩ = some (.int .i8 x.is_) := bat hbw (hc 2 _ rfl)
      have k3 : wr.cell? ⟨b, o + k * 6 + 3, none⟩ = some (.float .f64 x.lo) := bat hbw (hc 3 _ rfl)
      have k4 : wr.cell? ⟨b, o + k * 6 + 4, none⟩ = some (.float .f64 x.hi) := bat hbw (hc 4 _ rfl)
      have k5 : wr.cell? ⟨b, o + k * 6 + 5, none⟩ = some (.int .i64 x.of_) := bat hbw (hc 5 _ rfl)
      have HEX := Lib.hid ex
      obtain ⟨w1, hw1⟩ : ∃ w1, w1 = wr.alloc (.cells #[.bool x.joint, .int .i64 x.for_, .int .i8 x.is_, .float .f64 x.lo, .float .f64 x.hi, .int .i64 x.of_] 42) := ⟨_, rfl⟩
      have hb1 : Below wr.heap.size wr w1 := by rw [hw1]; exact below1 ..
      have HB1 := Lib.hid (HBW.out.trans (hb1.mono HBW.out.size))
      have HW1 := Lib.hid hw1
      have eyes : Vd.yes x = (x.is_ == 1) := rfl
      have eno : Vd.no x = (x.is_ == 2) := rfl
      have HEY := Lib.hid eyes
      have HEN := Lib.hid eno
      clear hc ex hbw hw1 hb1 eyes eno
      cases h2 : (x.is_ == 2)
      · have hno2 : (xs.take (k + 1)).any Vd.no = false := take_anyV HN.out HEX.out (by rw [HEN.out, h2])
        have HN2 := Lib.hid hno2
        cases h1 : (x.is_ == 1)
        · have hyes : (xs.take (k + 1)).all Vd.yes = false := by rw [take_allV HEX.out, HEY.out, h1, Bool.and_false]
          have HY := Lib.hid hyes
          clear hyes hno2
          go_wp2_with fail
          rw [← HW1.out]
          go_roundw
          case rel => exact ⟨k + 1, by omega, by go_num, by rw [HY.out]; rfl, HN2.out, HB1.out⟩
          case measure => simp [intOf]; omega
        · have hyes : (xs.take (k + 1)).all Vd.yes = a := by rw [take_allV HEX.out, HEY.out, h1, Bool.and_true, HA.out]
          have HY := Lib.hid hyes
          clear hyes hno2
          go_wp2_with fail
          rw [← HW1.out]
          go_roundw
          case rel => exact ⟨k + 1, by omega, by go_num, by rw [HY.out], HN2.out, HB1.out⟩
          case measure => simp [intOf]; omega
      · have hany : xs.any Vd.no = true := by rw [List.any_eq_true]; exact ⟨x, List.mem_of_getElem? HEX.out, by rw [HEN.out, h2]⟩
        have HAN := Lib.hid hany
        clear hany
        go_wp2_with fail
        rw [← HW1.out]
        go_ret
        exact ⟨by rw [HR.out]; unfold wholeI; rw [if_pos HAN.out]; rfl, HB1.out⟩
    · obtain rfl : k = n := by omega
      clear hbw
      go_wp2_with fail
      go_ret
      refine ⟨?_, HBW.out⟩
      have h1 := HN.out
      have h2 := HA.out
      rw [List.take_of_length_le (by rw [HX.out.num]; exact Nat.le_refl _)] at h1 h2
      rw [HR.out]
      unfold wholeI
      rw [h1, ← h2, if_neg (by decide)]
      rfl

end Go.Proofs.YtkfhbnfoiicioaaGreatDoor
