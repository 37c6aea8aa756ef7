import Derived.Test.YtkfhbnfoiicioaaGreatDoorC40
/- girderref29.Whole; girderlaw29.CheckWhole: the walks -/
set_option linter.unusedSimpArgs false
set_option linter.unusedVariables false
namespace Go.Proofs.YtkfhbnfoiicioaaGreatDoor
open Go.RowKit Go.Sort

set_option maxRecDepth 100000 in
set_option maxHeartbeats 4000000 in
theorem wholeR_any (A : Option Addr) (n c : Nat) (xs : List Vd) (S : Nat → Prop) (w : World) (hx : RdE Vd.cells 6 w S A n xs) (hn : n ≤ 1000000000000000) :
    Calls Tryz.prog 11 #[.slice A n c] w fun e w' => e = .returned (.int .i8 (wholeI xs)) ∧ w = w' := by
  obtain ⟨r, hr⟩ : ∃ r, r = wholeI xs := ⟨_, rfl⟩
  rw [← hr]
  have HR := Lib.hid hr
  have HX := Lib.hid hx
  clear hr hx
  go_enter Tryz.func11, Tryz.ntmps11
  go_wp2_with fail
  go_loop [3, 4] (fun ov iv => ∃ k : Nat, k ≤ n ∧ iv = .int .i64 k ∧ ov = .int .i8 (yesI ((xs.take k).all Vd.yes)) ∧ (xs.take k).any Vd.no = false) (fun _ iv => n - (intOf iv).toNat)
  case atStart => exact ⟨0, by omega, rfl, by simp [yesI], by simp⟩
  case round =>
    obtain ⟨k, hk, rfl, rfl, hno⟩ := hrel
    have HN := Lib.hid hno
    obtain ⟨a, ha⟩ : ∃ a, a = (xs.take k).all Vd.yes := ⟨_, rfl⟩
    rw [← ha]
    have HA := Lib.hid ha
    clear hno ha
    by_cases hlt : k < n
    · obtain ⟨x, ex⟩ := get_some HX.out.num hlt
      obtain ⟨b, o, rfl, hSb, hc⟩ := HX.out.elem Vd.clen ex (by omega)
      have k2 : w.cell? ⟨b, o + k * 6 + 2, none⟩ = some (.int .i8 x.is_) := hc 2 _ rfl
      have HEX := Lib.hid ex
      have eyes : Vd.yes x = (x.is_ == 1) := rfl
      have eno : Vd.no x = (x.is_ == 2) := rfl
      have HEY := Lib.hid eyes
      have HEN := Lib.hid eno
      clear hc ex eyes eno
      cases h2 : (x.is_ == 2)
      · have hno2 : (xs.take (k + 1)).any Vd.no = false := take_anyV HN.out HEX.out (by rw [HEN.out, h2])
        have HN2 := Lib.hid hno2
        cases h1 : (x.is_ == 1)
        · have hyes : (xs.take (k + 1)).all Vd.yes = false := by rw [take_allV HEX.out, HEY.out, h1, Bool.and_false]
          have h1' : (x.is_ != 1) = true := by rw [bne, h1]; rfl
          have HY := Lib.hid hyes
          clear hyes hno2 h1
          go_wp2_with fail
          go_round
          case rel => exact ⟨k + 1, by omega, by go_num, by rw [HY.out]; rfl, HN2.out⟩
          case measure => simp [intOf]; omega
        · have hyes : (xs.take (k + 1)).all Vd.yes = a := by rw [take_allV HEX.out, HEY.out, h1, Bool.and_true, HA.out]
          have h1' : (x.is_ != 1) = false := by rw [bne, h1]; rfl
          have HY := Lib.hid hyes
          clear hyes hno2 h1
          go_wp2_with fail
          go_round
          case rel => exact ⟨k + 1, by omega, by go_num, by rw [HY.out], HN2.out⟩
          case measure => simp [intOf]; omega
      · have hany : xs.any Vd.no = true := by rw [List.any_eq_true]; exact ⟨x, List.mem_of_getElem? HEX.out, by rw [HEN.out, h2]⟩
        have HAN := Lib.hid hany
        clear hany
        go_wp2_with fail
        go_ret
        exact ⟨by rw [HR.out]; unfold wholeI; rw [if_pos HAN.out]; rfl, rfl⟩
    · obtain rfl : k = n := by omega
      go_wp2_with fail
      go_ret
      refine ⟨?_, rfl⟩
      have h1 := HN.out
      have h2 := HA.out
      rw [List.take_of_length_le (by rw [HX.out.num]; exact Nat.le_refl _)] at h1 h2
      rw [HR.out]
      unfold wholeI
      rw [h1, ← h2, if_neg (by decide)]
      rfl
set_option maxRecDepth 100000 in
set_option maxHeartbeats 4000000 in
theorem whole_law (A : Option Addr) (n c : Nat) (xs : List Vd) (w : World) (hx : RdE Vd.cells 6 w (fun b => b < w.heap.size) A n xs) (hn : n * 48 ≤ 140737488351232) :
    Calls Tryz.prog 4 #[.slice A n c] w fun e w' => e = .returned (.bool true) ∧ Below w.heap.size w w' := by
  have I1 := Lib.hid awake_law
  have HX := Lib.hid hx
  obtain ⟨k, hk⟩ : ∃ k, k = wholeI xs := ⟨_, rfl⟩
  have I2 := Lib.hid (fun A c w (hx : RdE Vd.cells 6 w (fun b => b < w.heap.size) A (n + 12) (xs ++ marksV)) => whole_any A n c xs _ w (show RdE Vd.cells 6 w (fun b => b < w.heap.size) A n xs by
    have h1 := hx.take Vd.clen (show n ≤ n + 12 by omega)
    rw [List.take_left' HX.out.num] at h1
    exact h1) (fun b h => h) (by omega))
  have I3 := Lib.hid (fun w hx => wholeR_any A n c xs (fun b => b < w.heap.size) w hx (by omega))
  rw [← hk] at I2 I3
  have ek : (k == k) = true := by simp
  clear hk hx
  go_enter Tryz.func4, Tryz.ntmps4
  go_wp2_with fail
  refine (I1.out w).mono ?_
  rintro e w1 ⟨rfl, hb1⟩
  have HB1 := Lib.hid hb1
  have HX1 := Lib.hid ((HX.out.keep (Keeps.below hb1 (fun b h => h))).imp (S' := fun b => b < w1.heap.size) (fun b h => Nat.lt_of_lt_of_le h hb1.size))
  clear hb1
  go_wp2_with fail
  refine (lentV_any A n c xs _ w1 HX1.out (fun b h => h) hn).mono ?_
  rintro e w2 ⟨g, d, rfl, hd, hy, hb2⟩
  have HY2 := Lib.hid hy
  have HX2 := Lib.hid ((HX1.out.keep (Keeps.below hb2 (fun b h => h))).imp (S' := fun b => b < w2.heap.size) (fun b h => Nat.lt_of_lt_of_le h hb2.size))
  have HB2 := Lib.hid (HB1.out.trans (hb2.mono HB1.out.size))
  clear hy hb2
  go_wp2_with fail
  refine (I2.out _ d w2 HY2.out).mono ?_
  rintro e w3 ⟨rfl, hb3⟩
  have HY3 := Lib.hid ((HY2.out.keep (Keeps.below hb3 (fun b h => h))).imp (S' := fun b => b < w3.heap.size) (fun b h => Nat.lt_of_lt_of_le h hb3.size))
  have HX3 := Lib.hid ((HX2.out.keep (Keeps.below hb3 (fun b h => h))).imp (S' := fun b => b < w3.heap.size) (fun b h => Nat.lt_of_lt_of_le h hb3.size))
  have HB3 := Lib.hid (HB2.out.trans (hb3.mono HB2.out.size))
  clear hb3
  go_wp2_with fail
  refine (I3.out w3 HX3.out).mono ?_
  rintro e w4 ⟨rfl, rfl⟩
  go_wp2_with fail
  refine (keptV_any A g n c d xs _ _ w3 HX3.out HY3.out hd (by omega)).mono ?_
  rintro e w5 ⟨rfl, hb5⟩
  have HB5 := Lib.hid (HB3.out.trans (hb5.mono HB3.out.size))
  clear hb5
  go_wp2_with fail
  go_ret
  exact ⟨rfl, HB5.out⟩

end Go.Proofs.YtkfhbnfoiicioaaGreatDoor
