import Derived.Test.YtjokpfgncmdomaaGreatDoorX05
set_option linter.unusedSimpArgs false
set_option linter.unusedVariables false
/- Set, Neg, Abs, SetInt64 ..: the walks -/
namespace Go.Proofs.YtjokpfgncmdomaaGreatDoor
open Go.RowKit Go.Sort
set_option maxRecDepth 100000 in
set_option maxHeartbeats 2000000 in
theorem set_int (b o b1 o1 : Nat) (z x : Int) (w : World) (hz : IntAt w b o z) (hx : IntAt w b1 o1 x) (hl : (dig x.natAbs).length ≤ 10000000) :
    Calls Tryz.prog 101 #[.pointer (some ⟨b, o, none⟩), .pointer (some ⟨b1, o1, none⟩)] w fun e w' => e = .returned (.pointer (some ⟨b, o, none⟩)) ∧ IntAt w' b o x ∧ Upd w w' b o := by
  obtain ⟨A, n, c, s, HN, HS, h0, h1, hc, HR⟩ := hx.open
  rw [← HN.out] at hl
  have HZ := Lib.hid hz
  clear hz hx
  go_enter Tryz.func101, Tryz.ntmps101
  go_wp2_with fail
  refine wp_region_G (S := (fun w' => w'.cell? ⟨b1, o1, none⟩ = some (.bool s) ∧ w'.cell? ⟨b1, o1 + 1, none⟩ = some (.slice A n c))) 10 (by kernel_rfl) ?_ (fun hHeld => ?_)
  · first | exact True.intro | ((try dsimp only); go_keep)
  refine wpAnyG_take (i := 0) (v := ?_) rfl (by kernel_rfl) (by kernel_rfl) (by kernel_rfl) (by kernel_rfl) 8 (by kernel_rfl) (fun _ _ _ h => h) (Or.inl ⟨by kernel_rfl, ?_⟩) (by assumption) ?_
  rotate_left 1
  · (intro w hSw; (try dsimp only at hSw); go_simp; try with_reducible rfl)
  try simp only [List.getElem_toArray, List.getElem_cons_succ, List.getElem_cons_zero, Act.put, List.setIfInBounds_toArray, List.set_cons_zero, List.set_cons_succ]
  refine wpAnyG_take (i := 1) (v := ?_) rfl (by kernel_rfl) (by kernel_rfl) (by kernel_rfl) (by kernel_rfl) 8 (by kernel_rfl) (fun _ _ _ h => h) (Or.inl ⟨by kernel_rfl, ?_⟩) (by assumption) ?_
  rotate_left 1
  · (intro w hSw; (try dsimp only at hSw); go_simp; try with_reducible rfl)
  try simp only [List.getElem_toArray, List.getElem_cons_succ, List.getElem_cons_zero, Act.put, List.setIfInBounds_toArray, List.set_cons_zero, List.set_cons_succ]
  refine wpAnyG_take (i := 2) (v := ?_) rfl (by kernel_rfl) (by kernel_rfl) (by kernel_rfl) (by kernel_rfl) 8 (by kernel_rfl) (fun _ _ _ h => h) (Or.inl ⟨by kernel_rfl, ?_⟩) (by assumption) ?_
  rotate_left 1
  · (intro w hSw; (try dsimp only at hSw); go_simp; try with_reducible rfl)
  try simp only [List.getElem_toArray, List.getElem_cons_succ, List.getElem_cons_zero, Act.put, List.setIfInBounds_toArray, List.set_cons_zero, List.set_cons_succ]
  refine wpAnyG_take (i := 3) (v := ?_) rfl (by kernel_rfl) (by kernel_rfl) (by kernel_rfl) (by kernel_rfl) 8 (by kernel_rfl) (fun _ _ _ h => h) (Or.inl ⟨by kernel_rfl, ?_⟩) (by assumption) ?_
  rotate_left 1
  · (intro w hSw; (try dsimp only at hSw); go_simp; try with_reducible rfl)
  try simp only [List.getElem_toArray, List.getElem_cons_succ, List.getElem_cons_zero, Act.put, List.setIfInBounds_toArray, List.set_cons_zero, List.set_cons_succ]
  refine wpAnyG_take (i := 4) (v := ?_) rfl (by kernel_rfl) (by kernel_rfl) (by kernel_rfl) (by kernel_rfl) 8 (by kernel_rfl) (fun _ _ _ h => h) (Or.inl ⟨by kernel_rfl, ?_⟩) (by assumption) ?_
  rotate_left 1
  · (intro w hSw; (try dsimp only at hSw); go_simp; try with_reducible rfl)
  try simp only [List.getElem_toArray, List.getElem_cons_succ, List.getElem_cons_zero, Act.put, List.setIfInBounds_toArray, List.set_cons_zero, List.set_cons_succ]
  refine wpAnyG_take (i := 5) (v := ?_) rfl (by kernel_rfl) (by kernel_rfl) (by kernel_rfl) (by kernel_rfl) 8 (by kernel_rfl) (fun _ _ _ h => h) (Or.inl ⟨by kernel_rfl, ?_⟩) (by assumption) ?_
  rotate_left 1
  · (intro w hSw; (try dsimp only at hSw); go_simp; try with_reducible rfl)
  try simp only [List.getElem_toArray, List.getElem_cons_succ, List.getElem_cons_zero, Act.put, List.setIfInBounds_toArray, List.set_cons_zero, List.set_cons_succ]
  refine wpAnyG_take (i := 6) (v := ?_) rfl (by kernel_rfl) (by kernel_rfl) (by kernel_rfl) (by kernel_rfl) 8 (by kernel_rfl) (fun _ _ _ h => h) (Or.inl ⟨by kernel_rfl, ?_⟩) (by assumption) ?_
  rotate_left 1
  · (intro w hSw; (try dsimp only at hSw); go_simp; try with_reducible rfl)
  try simp only [List.getElem_toArray, List.getElem_cons_succ, List.getElem_cons_zero, Act.put, List.setIfInBounds_toArray, List.set_cons_zero, List.set_cons_succ]
  refine wpAnyG_take (i := 7) (v := ?_) rfl (by kernel_rfl) (by kernel_rfl) (by kernel_rfl) (by kernel_rfl) 8 (by kernel_rfl) (fun _ _ _ h => h) (Or.inl ⟨by kernel_rfl, ?_⟩) (by assumption) ?_
  rotate_left 1
  · (intro w hSw; (try dsimp only at hSw); go_simp; try with_reducible rfl)
  try simp only [List.getElem_toArray, List.getElem_cons_succ, List.getElem_cons_zero, Act.put, List.setIfInBounds_toArray, List.set_cons_zero, List.set_cons_succ]
  refine wpAnyG_take (i := 8) (v := ?_) rfl (by kernel_rfl) (by kernel_rfl) (by kernel_rfl) (by kernel_rfl) 8 (by kernel_rfl) (fun _ _ _ h => h) (Or.inl ⟨by kernel_rfl, ?_⟩) (by assumption) ?_
  rotate_left 1
  · (intro w hSw; (try dsimp only at hSw); go_simp; try with_reducible rfl)
  try simp only [List.getElem_toArray, List.getElem_cons_succ, List.getElem_cons_zero, Act.put, List.setIfInBounds_toArray, List.set_cons_zero, List.set_cons_succ]
  refine wpAnyG_one (i := 9) (by kernel_rfl) rfl (fun K hK => ?_)
  go_simp
  (refine (twin_any _ _ _ _ _ _ HR.out (by omega)).mono ?_; rintro e w1 ⟨A1, c1, rfl, hc1, hr1, hb1⟩; have k1 := bat hb1 hHeld.1; have k2 := bat hb1 hHeld.2; have HR1 := Lib.hid hr1; have HB1 : Hid (Below w.heap.size w w1) := Lib.hid (((Below.refl w.heap.size w).drew).trans hb1); clear hr1 hb1)
  try go_wp2_with fail
  refine (fun hHeld => hK.out _ _ (.inl hHeld) (fun _ => ?_)) ?_
  rotate_left 1
  · first | exact True.intro | ((try dsimp only); go_keep)
  clear hK K
  try simp only [List.getElem_toArray, List.getElem_cons_succ, List.getElem_cons_zero, Act.put, List.setIfInBounds_toArray, List.set_cons_zero, List.set_cons_succ]
  refine wpAnyG_one (i := 10) (by kernel_rfl) rfl (fun K hK => ?_)
  go_simp
  (refine (give_int _ _ x z s A1 n c1 w1 (HZ.out.below HB1.out) HN.out hc1 (HR1.out.imp fun d hd => hd.2) (sgn_and HN.out fun _ => HS.out)).mono ?_; rintro e w2 ⟨rfl, hi2, hu2⟩; have HI2 := Lib.hid hi2; have HU2 := Lib.hid hu2; clear hi2 hu2)
  try go_wp2_with fail
  refine hK.out _ _ ?_ (fun hHeld => ?_)
  · exact .inr (by kernel_rfl)
  clear hK K
  try simp only [List.getElem_toArray, List.getElem_cons_succ, List.getElem_cons_zero, Act.put, List.setIfInBounds_toArray, List.set_cons_zero, List.set_cons_succ]
  refine wpAnyG_one (i := 11) (by kernel_rfl) rfl (fun K hK => ?_)
  go_simp
  refine hK.out _ _ ?_ (fun hHeld => ?_)
  · exact .inr (by kernel_rfl)
  clear hK K
  try simp only [List.getElem_toArray, List.getElem_cons_succ, List.getElem_cons_zero, Act.put, List.setIfInBounds_toArray, List.set_cons_zero, List.set_cons_succ]
  refine wpAnyG_done (by kernel_rfl) ?_ _
  go_wp2_with fail
  go_ret
  exact ⟨rfl, HI2.out, Upd.after HB1.out HU2.out HZ.out.lt⟩

end Go.Proofs.YtjokpfgncmdomaaGreatDoor

/- sum, Add, Sub, Mul, Neg, Abs, Lsh, Rsh, SetInt64 ..: the walks -/
namespace Go.Proofs.YtjokpfgncmdomaaGreatDoor
open Go.RowKit Go.Sort

def sgn (p : Bool) (x : Nat) : Int := if p then -(x : Int) else x
theorem sgn_abs (x : Int) : sgn (decide (x < 0)) x.natAbs = x := by
  unfold sgn
  by_cases h : x < 0 <;> simp [h] <;> omega
theorem sgn_not (x : Int) : sgn (!decide (x < 0)) x.natAbs = -x := by
  unfold sgn
  by_cases h : x < 0 <;> simp [h] <;> omega

/-- what a call answers whose words are those of N, in new memory -/
def WordsPost (N : Nat) (w : World) (e : Ending) (w' : World) : Prop := ∃ A' c', e = .returned (.slice A' (dig N).length c') ∧ (dig N).length ≤ c' ∧ RdE Wc 1 w' (fun b => w.heap.size ≤ b ∧ b < w'.heap.size) A' (dig N).length (dig N) ∧ Below w.heap.size w w'
def SumPost (z : Int) (w : World) (e : Ending) (w' : World) : Prop := ∃ (s : Bool) (A' : Option Addr) (n c' : Nat), e = .returned (.tuple #[.bool s, .slice A' n c']) ∧ n = (dig z.natAbs).length ∧ n ≤ c' ∧ (z ≠ 0 → s = decide (z < 0)) ∧ RdE Wc 1 w' (fun b => w.heap.size ≤ b ∧ b < w'.heap.size) A' n (dig z.natAbs) ∧ Below w.heap.size w w'
theorem sumPost_of {z : Int} {N : Nat} {s : Bool} {w w' : World} {A : Option Addr} {c : Nat} (hz : z.natAbs = N) (hs : z ≠ 0 → s = decide (z < 0)) (hc : (dig N).length ≤ c) (hr : RdE Wc 1 w' (fun b => w.heap.size ≤ b ∧ b < w'.heap.size) A (dig N).length (dig N)) (hb : Below w.heap.size w w') :
    SumPost z w (.returned (.tuple #[.bool s, .slice A (dig N).length c])) w' := by
  subst hz
  exact ⟨s, A, _, c, rfl, rfl, hc, hs, hr, hb⟩

set_option maxRecDepth 100000 in
set_option maxHeartbeats 2000000 in
theorem sum_any (p q : Bool) (A B : Option Addr) (n m c d : Nat) (x y : Nat) (S S' : Nat → Prop) (w : World) (hx : RdE Wc 1 w S A n (dig x)) (hy : RdE Wc 1 w S' B m (dig y)) (hS : ∀ b, S b → b < w.heap.size) (hS' : ∀ b, S' b → b < w.heap.size)
    (hn : n ≤ 10000000) (hm : m ≤ 10000000) :
    Calls Tryz.prog 148 #[.bool p, .slice A n c, .bool q, .slice B m d] w (SumPost (sgn p x + sgn q y) w) := by
  have HX := Lib.hid hx
  have HY := Lib.hid hy
  have HS := Lib.hid hS
  have HS' := Lib.hid hS'
  clear hx hy hS hS'
  by_cases hpq : p = q
  · subst hpq
    have hz : (sgn p x + sgn p y).natAbs = x + y := by unfold sgn; cases p <;> simp <;> omega
    have hs : sgn p x + sgn p y ≠ 0 → p = decide (sgn p x + sgn p y < 0) := by
      unfold sgn; cases p <;> simp <;> omega
    have HZ := Lib.hid hz
    have HSS := Lib.hid hs
    clear hz hs
    have ebb : (p == p) = true := by simp
    go_enter Tryz.func148, Tryz.ntmps148
    go_wp2_with fail
    refine (add_any _ _ _ _ _ _ (dig x) (dig y) _ _ _ HX.out HY.out (dig_wds x) (dig_wds y) HS.out HS'.out (by omega) (by omega)).mono ?_
    rintro e w1 ⟨A1, c1, rfl, hc1, hr1, hb1⟩
    rw [nv_dig, nv_dig] at hc1 hr1 ⊢
    have HR1 := Lib.hid hr1
    have HB1 := Lib.hid hb1
    clear hr1 hb1
    go_wp2_with fail
    go_ret2
    exact sumPost_of HZ.out HSS.out hc1 HR1.out HB1.out
  · have ebb : (p == q) = false := by simp [hpq]
    obtain rfl : q = !p := by cases p <;> cases q <;> simp at hpq ⊢
    by_cases hle : y ≤ x
    · have hz : (sgn p x + sgn (!p) y).natAbs = x - y := by unfold sgn; cases p <;> simp <;> omega
      have hs : sgn p x + sgn (!p) y ≠ 0 → p = decide (sgn p x + sgn (!p) y < 0) := by
        unfold sgn; cases p <;> simp <;> omega
      have HZ := Lib.hid hz
      have HSS := Lib.hid hs
      have hmn : m ≤ n := by have h1 := dig_len_mono hle; rw [HX.out.num, HY.out.num] at h1; exact h1
      clear hz hs
      go_enter Tryz.func148, Tryz.ntmps148
      go_wp2_with fail
      refine (cmp_ge _ _ _ _ _ _ x y _ _ _ HX.out HY.out (by omega) (by omega) hle).mono ?_
      rintro e w1 ⟨z, hz0, hz1, rfl, hb1⟩
      have z1 := hb1.size
      have hr1 := HX.out.keep (Keeps.below hb1 (fun b hb => HS.out b hb))
      have hr2 := HY.out.keep (Keeps.below hb1 (fun b hb => HS'.out b hb))
      have HR1 := Lib.hid hr1
      have HR2 := Lib.hid hr2
      have HB1 := Lib.hid hb1
      clear hb1 hr1 hr2
      go_wp2_with fail
      refine (sub_any _ _ _ _ _ _ (dig x) (dig y) _ _ _ HR1.out HR2.out (dig_wds x) (dig_wds y) (fun b hb => by have := HS.out b hb; omega) (fun b hb => by have := HS'.out b hb; omega) (by omega) hmn (by rw [nv_dig, nv_dig]; exact hle)).mono ?_
      rintro e w2 ⟨A1, c1, rfl, hc1, hr1, hb1⟩
      rw [nv_dig, nv_dig] at hc1 hr1 ⊢
      have HR3 := Lib.hid hr1
      have HB3 := Lib.hid hb1
      clear hr1 hb1
      go_wp2_with fail
      go_ret2
      exact sumPost_of HZ.out HSS.out hc1 (HR3.out.imp fun b hb => ⟨by omega, hb.2⟩) (below_then HB1.out HB3.out)
    · have hz : (sgn p x + sgn (!p) y).natAbs = y - x := by unfold sgn; cases p <;> simp <;> omega
      have hs : sgn p x + sgn (!p) y ≠ 0 → (!p) = decide (sgn p x + sgn (!p) y < 0) := by
        unfold sgn; cases p <;> simp <;> omega
      have HZ := Lib.hid hz
      have HSS := Lib.hid hs
      have hmn : n ≤ m := by have h1 := dig_len_mono (show x ≤ y by omega); rw [HX.out.num, HY.out.num] at h1; exact h1
      clear hz hs
      go_enter Tryz.func148, Tryz.ntmps148
      go_wp2_with fail
      refine (cmp_lt _ _ _ _ _ _ x y _ _ _ HX.out HY.out (by omega) (by omega) (by omega)).mono ?_
      rintro e w1 ⟨rfl, hb1⟩
      have z1 := hb1.size
      have hr1 := HX.out.keep (Keeps.below hb1 (fun b hb => HS.out b hb))
      have hr2 := HY.out.keep (Keeps.below hb1 (fun b hb => HS'.out b hb))
      have HR1 := Lib.hid hr1
      have HR2 := Lib.hid hr2
      have HB1 := Lib.hid hb1
      clear hb1 hr1 hr2
      go_wp2_with fail
      refine (sub_any _ _ _ _ _ _ (dig y) (dig x) _ _ _ HR2.out HR1.out (dig_wds y) (dig_wds x) (fun b hb => by have := HS'.out b hb; omega) (fun b hb => by have := HS.out b hb; omega) (by omega) hmn (by rw [nv_dig, nv_dig]; omega)).mono ?_
      rintro e w2 ⟨A1, c1, rfl, hc1, hr1, hb1⟩
      rw [nv_dig, nv_dig] at hc1 hr1 ⊢
      have HR3 := Lib.hid hr1
      have HB3 := Lib.hid hb1
      clear hr1 hb1
      go_wp2_with fail
      go_ret2
      exact sumPost_of HZ.out HSS.out hc1 (HR3.out.imp fun b hb => ⟨by omega, hb.2⟩) (below_then HB1.out HB3.out)

end Go.Proofs.YtjokpfgncmdomaaGreatDoor
