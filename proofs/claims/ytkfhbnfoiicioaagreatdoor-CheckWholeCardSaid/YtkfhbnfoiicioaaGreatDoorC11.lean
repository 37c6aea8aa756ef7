import Derived.Test.YtkfhbnfoiicioaaGreatDoorC10
/- bits.Order, the greater and lesser of two: the walks -/
set_option linter.unusedSimpArgs false
set_option linter.unusedVariables false
namespace Go.Proofs.YtkfhbnfoiicioaaGreatDoor
open Go.RowKit Go.Sort

def rkN (u : Nat) : Int := if fnan u = true then 9223372036854775807 else placeI u
def rkI (u : Nat) : Int := if fnan u = true then 0 else if placeI u = 0 ∧ sgbB u = false then 1 else 0
set_option maxRecDepth 100000 in
set_option maxHeartbeats 1000000 in
theorem rank_any (u : Nat) (w : World) (hu : u < 18446744073709551616) : Calls Tryz.prog 49 #[.float .f64 u] w fun e w' => e = .returned (.tuple #[.int .i64 (rkN u), .int .i64 (rkI u)]) ∧ w = w' := by
  have I1 := Lib.hid (fun w => place_any u w hu)
  have I2 := Lib.hid (fun w => signbit_any u w hu)
  unfold rkN rkI
  cases hn : fnan u
  · rw [hn, if_neg (by decide)] at I1
    rw [if_neg (by decide), if_neg (by decide)]
    obtain ⟨p, hp⟩ : ∃ p, p = placeI u := ⟨_, rfl⟩
    rw [← hp] at I1 ⊢
    clear hp hn
    by_cases h0 : p = 0
    · subst h0
      cases hs : sgbB u
      · rw [hs] at I2
        rw [if_pos ⟨rfl, rfl⟩]
        clear hs
        go_enter Tryz.func49, Tryz.ntmps49
        go_wp2_with (first | (go_at_call 76; refine (I1.out _).mono ?_; rintro e w' ⟨rfl, rfl⟩) | (go_at_call 65; refine (I2.out _).mono ?_; rintro e w' ⟨rfl, rfl⟩))
        go_ret2
        exact ⟨rfl, rfl⟩
      · rw [hs] at I2
        rw [if_neg (by decide)]
        clear hs
        go_enter Tryz.func49, Tryz.ntmps49
        go_wp2_with (first | (go_at_call 76; refine (I1.out _).mono ?_; rintro e w' ⟨rfl, rfl⟩) | (go_at_call 65; refine (I2.out _).mono ?_; rintro e w' ⟨rfl, rfl⟩))
        go_ret2
        exact ⟨rfl, rfl⟩
    · have d0 : (p == 0) = false := by simp [h0]
      rw [if_neg (fun h => h0 h.1)]
      clear h0
      go_enter Tryz.func49, Tryz.ntmps49
      go_wp2_with (go_at_call 76; refine (I1.out _).mono ?_; rintro e w' ⟨rfl, rfl⟩)
      go_ret2
      exact ⟨rfl, rfl⟩
  · rw [hn, if_pos rfl] at I1
    rw [if_pos rfl, if_pos rfl]
    clear hn
    go_enter Tryz.func49, Tryz.ntmps49
    go_wp2_with (go_at_call 76; refine (I1.out _).mono ?_; rintro e w' ⟨rfl, rfl⟩)
    go_ret2
    exact ⟨rfl, rfl⟩
def ordW (a b : Nat) : Int := if sgn3 (rkN a) (rkN b) = 0 then sgn3 (rkI a) (rkI b) else sgn3 (rkN a) (rkN b)
theorem ordW_eq {a b : Nat} (ha : a < 18446744073709551616) (hb : b < 18446744073709551616) : ordW a b = ordI a b := by
  have key : ∀ u : Nat, u < 18446744073709551616 → (fnan u = true ∧ rkN u = 9223372036854775807 ∧ rkI u = 0 ∧ keyO u = 36893488147419103232) ∨ (fnan u = false ∧ -9218868437227405312 ≤ rkN u ∧ rkN u ≤ 9218868437227405312 ∧ ((u < 9223372036854775808 ∧ rkN u = u ∧ rkI u = (if u = 0 then 1 else 0) ∧ keyO u = 2 * (u : Int) + 1) ∨ (9223372036854775808 ≤ u ∧ rkN u = -((u : Int) - 9223372036854775808) ∧ rkI u = 0 ∧ keyO u = -(2 * ((u : Int) - 9223372036854775808))))) := by
    intro u hu
    cases hn : fnan u
    · right
      have h1 := num_le hn
      have h2 := (sgn_word hu hn).2
      have hN : rkN u = placeI u := by unfold rkN; rw [hn]; rfl
      have hI : rkI u = if placeI u = 0 ∧ sgbB u = false then 1 else 0 := by unfold rkI; rw [hn]; rfl
      have hK : keyO u = if 9223372036854775808 ≤ u then -(2 * (u - 9223372036854775808 : Nat) : Int) else 2 * (u : Int) + 1 := by unfold keyO; rw [hn]; rfl
      by_cases hs : 9223372036854775808 ≤ u
      · have hp : placeI u = -((u : Int) - 9223372036854775808) := by
          unfold placeI absF
          by_cases hz : 9223372036854775808 < u
          · rw [if_pos (h2.2 hz)]; omega
          · rw [if_neg (fun h => hz (h2.1 h))]; omega
        have hq : sgbB u = true := decide_eq_true hs
        rw [if_neg (by rw [hq]; simp)] at hI
        rw [if_pos hs] at hK
        exact ⟨rfl, by omega, by omega, .inr ⟨hs, by omega, hI, by omega⟩⟩
      · have hp : placeI u = (u : Int) := by
          unfold placeI absF
          rw [if_neg (fun h => by have := h2.1 h; omega)]; omega
        have hq : sgbB u = false := decide_eq_false hs
        rw [if_neg hs] at hK
        refine ⟨rfl, by omega, by omega, .inl ⟨by omega, by omega, ?_, by omega⟩⟩
        rw [hI, hp, hq]
        by_cases h0 : u = 0
        · subst h0; rfl
        · rw [if_neg h0, if_neg (fun h => h0 (by omega))]
    · left
      exact ⟨rfl, by unfold rkN; rw [hn]; rfl, by unfold rkI; rw [hn]; rfl, by unfold keyO; rw [hn]; rfl⟩
  unfold ordW ordI sgn3
  have ka := key a ha
  have kb := key b hb
  generalize rkN a = na at *
  generalize rkN b = nb at *
  generalize rkI a = ia at *
  generalize rkI b = ib at *
  generalize keyO a = xa at *
  generalize keyO b = xb at *
  rcases ka with ⟨_, rfl, rfl, rfl⟩ | ⟨_, la, la2, ⟨_, rfl, rfl, rfl⟩ | ⟨_, rfl, rfl, rfl⟩⟩ <;> rcases kb with ⟨_, rfl, rfl, rfl⟩ | ⟨_, lb, lb2, ⟨_, rfl, rfl, rfl⟩ | ⟨_, rfl, rfl, rfl⟩⟩ <;> (repeat' split) <;> omega

set_option maxRecDepth 100000 in
set_option maxHeartbeats 2000000 in
theorem order_any (a b : Nat) (w : World) (ha : a < 18446744073709551616) (hb : b < 18446744073709551616) : Calls Tryz.prog 32 #[.float .f64 a, .float .f64 b] w fun e w' => e = .returned (.int .i64 (ordI a b)) ∧ Below w.heap.size w w' := by
  rw [← ordW_eq ha hb]
  have I1 := Lib.hid (fun w => rank_any a w ha)
  have I2 := Lib.hid (fun w => rank_any b w hb)
  have I3 := Lib.hid cmp64
  have I4 := Lib.hid cmpint
  unfold ordW
  generalize rkN a = na at *
  generalize rkN b = nb at *
  generalize rkI a = ia at *
  generalize rkI b = ib at *
  obtain ⟨x, hx⟩ : ∃ x, x = sgn3 na nb := ⟨_, rfl⟩
  obtain ⟨y, hy⟩ : ∃ y, y = sgn3 ia ib := ⟨_, rfl⟩
  rw [← hx, ← hy]
  have I3' := Lib.hid (fun w => I3.out na nb w)
  have I4' := Lib.hid (fun w => I4.out ia ib w)
  rw [← hx] at I3'
  rw [← hy] at I4'
  obtain ⟨w1, hw1⟩ : ∃ w1, w1 = w.alloc (.cells #[.int .i64 x, .int .i64 y] 3) := ⟨_, rfl⟩
  have k0 : w1.cell? ⟨w.heap.size, 0, none⟩ = some (.int .i64 x) := by rw [hw1]; exact new_cell w _ _ 0 _ rfl
  have k1 : w1.cell? ⟨w.heap.size, 0 + 1, none⟩ = some (.int .i64 y) := by rw [hw1]; exact new_cell w _ _ 1 _ rfl
  have I5 := Lib.hid (or2 w.heap.size 0 2 x y w1 k0 k1)
  have hb1 : Below w.heap.size w w1 := by rw [hw1]; exact below1 ..
  have HB := Lib.hid hb1
  have HW := Lib.hid hw1
  obtain ⟨r, hr⟩ : ∃ r, r = if x = 0 then y else x := ⟨_, rfl⟩
  rw [← hr] at I5 ⊢
  clear hx hy k0 k1 hb1 I3 I4 hw1 hr
  go_enter Tryz.func32, Tryz.ntmps32
  go_wp2_with fail
  refine (I1.out _).mono ?_
  rintro e w' ⟨rfl, rfl⟩
  go_wp2_with fail
  refine (I2.out _).mono ?_
  rintro e w' ⟨rfl, rfl⟩
  go_wp2_with fail
  refine (I3'.out _).mono ?_
  rintro e w' ⟨rfl, rfl⟩
  go_wp2_with fail
  refine (I4'.out _).mono ?_
  rintro e w' ⟨rfl, rfl⟩
  go_wp2_with fail
  rw [← HW.out]
  refine I5.out.mono ?_
  rintro e w' ⟨rfl, rfl⟩
  go_wp2_with fail
  go_ret
  exact ⟨rfl, HB.out⟩

set_option maxRecDepth 100000 in
set_option maxHeartbeats 1000000 in
theorem greater_chk (a b : Nat) (w : World) (ha : a < 18446744073709551616) (hb : b < 18446744073709551616) : Calls Tryz.prog 17 #[.float .f64 a, .float .f64 b] w fun e w' => e = .returned (.float .f64 (greF a b)) ∧ Below w.heap.size w w' := by
  have I1 := Lib.hid (fun w => order_any b a w hb ha)
  unfold greF
  generalize ordI b a = x at *
  by_cases h : 0 < x
  · rw [if_pos h]
    have d0 := decide_eq_true h
    clear h
    go_enter Tryz.func17, Tryz.ntmps17
    go_wp2_with fail
    refine (I1.out _).mono ?_
    rintro e w1 ⟨rfl, hb1⟩
    have HB := Lib.hid hb1
    clear hb1
    go_wp2_with fail
    go_ret
    exact ⟨rfl, HB.out⟩
  · rw [if_neg h]
    have d0 := decide_eq_false h
    clear h
    go_enter Tryz.func17, Tryz.ntmps17
    go_wp2_with fail
    refine (I1.out _).mono ?_
    rintro e w1 ⟨rfl, hb1⟩
    have HB := Lib.hid hb1
    clear hb1
    go_wp2_with fail
    go_ret
    exact ⟨rfl, HB.out⟩
set_option maxRecDepth 100000 in
set_option maxHeartbeats 1000000 in
theorem greater_span (a b : Nat) (w : World) (ha : a < 18446744073709551616) (hb : b < 18446744073709551616) : Calls Tryz.prog 54 #[.float .f64 a, .float .f64 b] w fun e w' => e = .returned (.float .f64 (greF a b)) ∧ Below w.heap.size w w' := by
  have I1 := Lib.hid (fun w => order_any b a w hb ha)
  unfold greF
  generalize ordI b a = x at *
  by_cases h : 0 < x
  · rw [if_pos h]
    have d0 := decide_eq_true h
    clear h
    go_enter Tryz.func54, Tryz.ntmps54
    go_wp2_with fail
    refine (I1.out _).mono ?_
    rintro e w1 ⟨rfl, hb1⟩
    have HB := Lib.hid hb1
    clear hb1
    go_wp2_with fail
    go_ret
    exact ⟨rfl, HB.out⟩
  · rw [if_neg h]
    have d0 := decide_eq_false h
    clear h
    go_enter Tryz.func54, Tryz.ntmps54
    go_wp2_with fail
    refine (I1.out _).mono ?_
    rintro e w1 ⟨rfl, hb1⟩
    have HB := Lib.hid hb1
    clear hb1
    go_wp2_with fail
    go_ret
    exact ⟨rfl, HB.out⟩
set_option maxRecDepth 100000 in
set_option maxHeartbeats 1000000 in
theorem lesser_span (a b : Nat) (w : World) (ha : a < 18446744073709551616) (hb : b < 18446744073709551616) : Calls Tryz.prog 53 #[.float .f64 a, .float .f64 b] w fun e w' => e = .returned (.float .f64 (lesF a b)) ∧ Below w.heap.size w w' := by
  have I1 := Lib.hid (fun w => order_any b a w hb ha)
  unfold lesF
  generalize ordI b a = x at *
  by_cases h : x < 0
  · rw [if_pos h]
    have d0 := decide_eq_true h
    clear h
    go_enter Tryz.func53, Tryz.ntmps53
    go_wp2_with fail
    refine (I1.out _).mono ?_
    rintro e w1 ⟨rfl, hb1⟩
    have HB := Lib.hid hb1
    clear hb1
    go_wp2_with fail
    go_ret
    exact ⟨rfl, HB.out⟩
  · rw [if_neg h]
    have d0 := decide_eq_false h
    clear h
    go_enter Tryz.func53, Tryz.ntmps53
    go_wp2_with fail
    refine (I1.out _).mono ?_
    rintro e w1 ⟨rfl, hb1⟩
    have HB := Lib.hid hb1
    clear hb1
    go_wp2_with fail
    go_ret
    exact ⟨rfl, HB.out⟩

end Go.Proofs.YtkfhbnfoiicioaaGreatDoor
