import Derived.Test.YtfepmbpcdfdlhaaX04
set_option linter.unusedSimpArgs false
set_option linter.unusedVariables false
/- Set, Neg, Abs, SetInt64 ..: the walks -/
namespace Go.Proofs.Ytfepmbpcdfdlhaa
open Go.RowKit Go.Sort
set_option maxRecDepth 100000 in
set_option maxHeartbeats 2000000 in
theorem set_int (b o b1 o1 : Nat) (z x : Int) (w : World) (hz : IntAt w b o z) (hx : IntAt w b1 o1 x) (hl : (dig x.natAbs).length ≤ 10000000) :
    Calls Try.prog 76 #[.pointer (some ⟨b, o, none⟩), .pointer (some ⟨b1, o1, none⟩)] w fun e w' => e = .returned (.pointer (some ⟨b, o, none⟩)) ∧ IntAt w' b o x ∧ Upd w w' b o := by
  obtain ⟨A, n, c, s, HN, HS, h0, h1, hc, HR⟩ := hx.open
  rw [← HN.out] at hl
  have HZ := Lib.hid hz
  clear hz hx
  go_enter Try.func76, Try.ntmps76
  go_wp2_with fail
  refine wp_region_G (S := (fun w' => w'.cell? ⟨b1, o1, none⟩ = some (.bool s) ∧ w'.cell? ⟨b1, o1 + 1, none⟩ = some (.slice A n c))) 10 (by kernel_rfl) ?_ (fun hHeld => ?_)
  · first | exact True.intro | ((try dsimp only); go_keep)
  refine tkG (i := 0) (v := ?_) rfl (by kernel_rfl) (Or.inl ⟨by kernel_rfl, ?_⟩) (by assumption) ?_
  rotate_left 1
  · (intro w hSw; (try dsimp only at hSw); go_simp; try with_reducible rfl)
  try simp only [lyA, lyB, lyC, Act.put, lyD, lyE, lyF]
  refine tkG (i := 1) (v := ?_) rfl (by kernel_rfl) (Or.inl ⟨by kernel_rfl, ?_⟩) (by assumption) ?_
  rotate_left 1
  · (intro w hSw; (try dsimp only at hSw); go_simp; try with_reducible rfl)
  try simp only [lyA, lyB, lyC, Act.put, lyD, lyE, lyF]
  refine tkG (i := 2) (v := ?_) rfl (by kernel_rfl) (Or.inl ⟨by kernel_rfl, ?_⟩) (by assumption) ?_
  rotate_left 1
  · (intro w hSw; (try dsimp only at hSw); go_simp; try with_reducible rfl)
  try simp only [lyA, lyB, lyC, Act.put, lyD, lyE, lyF]
  refine tkG (i := 3) (v := ?_) rfl (by kernel_rfl) (Or.inl ⟨by kernel_rfl, ?_⟩) (by assumption) ?_
  rotate_left 1
  · (intro w hSw; (try dsimp only at hSw); go_simp; try with_reducible rfl)
  try simp only [lyA, lyB, lyC, Act.put, lyD, lyE, lyF]
  refine tkG (i := 4) (v := ?_) rfl (by kernel_rfl) (Or.inl ⟨by kernel_rfl, ?_⟩) (by assumption) ?_
  rotate_left 1
  · (intro w hSw; (try dsimp only at hSw); go_simp; try with_reducible rfl)
  try simp only [lyA, lyB, lyC, Act.put, lyD, lyE, lyF]
  refine tkG (i := 5) (v := ?_) rfl (by kernel_rfl) (Or.inl ⟨by kernel_rfl, ?_⟩) (by assumption) ?_
  rotate_left 1
  · (intro w hSw; (try dsimp only at hSw); go_simp; try with_reducible rfl)
  try simp only [lyA, lyB, lyC, Act.put, lyD, lyE, lyF]
  refine tkG (i := 6) (v := ?_) rfl (by kernel_rfl) (Or.inl ⟨by kernel_rfl, ?_⟩) (by assumption) ?_
  rotate_left 1
  · (intro w hSw; (try dsimp only at hSw); go_simp; try with_reducible rfl)
  try simp only [lyA, lyB, lyC, Act.put, lyD, lyE, lyF]
  refine tkG (i := 7) (v := ?_) rfl (by kernel_rfl) (Or.inl ⟨by kernel_rfl, ?_⟩) (by assumption) ?_
  rotate_left 1
  · (intro w hSw; (try dsimp only at hSw); go_simp; try with_reducible rfl)
  try simp only [lyA, lyB, lyC, Act.put, lyD, lyE, lyF]
  refine tkG (i := 8) (v := ?_) rfl (by kernel_rfl) (Or.inl ⟨by kernel_rfl, ?_⟩) (by assumption) ?_
  rotate_left 1
  · (intro w hSw; (try dsimp only at hSw); go_simp; try with_reducible rfl)
  try simp only [lyA, lyB, lyC, Act.put, lyD, lyE, lyF]
  refine wpAnyG_one (i := 9) (by kernel_rfl) rfl (fun K hK => ?_)
  go_simp
  (refine (twin_any _ _ _ _ _ _ HR.out (by omega)).mono ?_; rintro e w1 ⟨A1, c1, rfl, hc1, hr1, hb1⟩; have k1 := bat hb1 hHeld.1; have k2 := bat hb1 hHeld.2; have HR1 := Lib.hid hr1; have HB1 : Hid (Below w.heap.size w w1) := Lib.hid (((Below.refl w.heap.size w).drew).trans hb1); clear hr1 hb1)
  try go_wp2_with fail
  refine (fun hHeld => hK.out _ _ (.inl hHeld) (fun _ => ?_)) ?_
  rotate_left 1
  · first | exact True.intro | ((try dsimp only); go_keep)
  clear hK K
  try simp only [lyA, lyB, lyC, Act.put, lyD, lyE, lyF]
  refine wpAnyG_one (i := 10) (by kernel_rfl) rfl (fun K hK => ?_)
  go_simp
  (refine (give_int _ _ x z s A1 n c1 w1 (HZ.out.below HB1.out) HN.out hc1 (HR1.out.imp fun d hd => hd.2) (sgn_and HN.out fun _ => HS.out)).mono ?_; rintro e w2 ⟨rfl, hi2, hu2⟩; have HI2 := Lib.hid hi2; have HU2 := Lib.hid hu2; clear hi2 hu2)
  try go_wp2_with fail
  refine hK.out _ _ ?_ (fun hHeld => ?_)
  · exact .inr (by kernel_rfl)
  clear hK K
  try simp only [lyA, lyB, lyC, Act.put, lyD, lyE, lyF]
  refine wpAnyG_one (i := 11) (by kernel_rfl) rfl (fun K hK => ?_)
  go_simp
  refine hK.out _ _ ?_ (fun hHeld => ?_)
  · exact .inr (by kernel_rfl)
  clear hK K
  try simp only [lyA, lyB, lyC, Act.put, lyD, lyE, lyF]
  refine wpAnyG_done (by kernel_rfl) ?_ _
  go_wp2_with fail
  go_ret
  exact ⟨rfl, HI2.out, Upd.after HB1.out HU2.out HZ.out.lt⟩

end Go.Proofs.Ytfepmbpcdfdlhaa

/- sum, Add, Sub, Mul, Neg, Abs, Lsh, Rsh, SetInt64 ..: the walks -/
namespace Go.Proofs.Ytfepmbpcdfdlhaa
open Go.RowKit Go.Sort

def sgn (p : Bool) (x : Nat) : Int := if p then -(x : Int) else x
theorem sgn_abs (x : Int) : sgn (decide (x < 0)) x.natAbs = x := by
  unfold sgn
  by_cases h : x < 0 <;> simp [h] <;> omega
theorem sgn_not (x : Int) : sgn (!decide (x < 0)) x.natAbs = -x := by
  unfold sgn
  by_cases h : x < 0 <;> simp [h] <;> omega

/-- what a call answers whose words are those of N, in new memory -/
def WordsPost (N : Nat) (w : World) (e : Ending) (w' : World) : Prop := ∃ A' c', e = .returned (.slice A' (dig N).length c') ∧ (dig N).length ≤ c' ∧ RdE Wc 1 w' (fun b => w.heap.size ≤ b ∧ b < w'.heap.size) A' (dig N).length (dig N) ∧ Below w.heap.size w w'
def SumPost (z : Int) (w : World) (e : Ending) (w' : World) : Prop := ∃ (s : Bool) (A' : Option Addr) (n c' : Nat), e = .returned (.tuple #[.bool s, .slice A' n c']) ∧ n = (dig z.natAbs).length ∧ n ≤ c' ∧ (z ≠ 0 → s = decide (z < 0)) ∧ RdE Wc 1 w' (fun b => w.heap.size ≤ b ∧ b < w'.heap.size) A' n (dig z.natAbs) ∧ Below w.heap.size w w'
theorem sumPost_of {z : Int} {N : Nat} {s : Bool} {w w' : World} {A : Option Addr} {c : Nat} (hz : z.natAbs = N) (hs : z ≠ 0 → s = decide (z < 0)) (hc : (dig N).length ≤ c) (hr : RdE Wc 1 w' (fun b => w.heap.size ≤ b ∧ b < w'.heap.size) A (dig N).length (dig N)) (hb : Below w.heap.size w w') :
    SumPost z w (.returned (.tuple #[.bool s, .slice A (dig N).length c])) w' := by
  subst hz
  exact ⟨s, A, _, c, rfl, rfl, hc, hs, hr, hb⟩

set_option maxRecDepth 100000 in
set_option maxHeartbeats 2000000 in
theorem sum_any (p q : Bool) (A B : Option Addr) (n m c d : Nat) (x y : Nat) (S S' : Nat → Prop) (w : World) (hx : RdE Wc 1 w S A n (dig x)) (hy : RdE Wc 1 w S' B m (dig y)) (hS : ∀ b, S b → b < w.heap.size) (hS' : ∀ b, S' b → b < w.heap.size)
    (hn : n ≤ 10000000) (hm : m ≤ 10000000) :
    Calls Try.prog 91 #[.bool p, .slice A n c, .bool q, .slice B m d] w (SumPost (sgn p x + sgn q y) w) := by
  have HX := Lib.hid hx
  have HY := Lib.hid hy
  have HS := Lib.hid hS
  have HS' := Lib.hid hS'
  clear hx hy hS hS'
  by_cases hpq : p = q
  · subst hpq
    have hz : (sgn p x + sgn p y).natAbs = x + y := by unfold sgn; cases p <;> simp <;> omega
    have hs : sgn p x + sgn p y ≠ 0 → p = decide (sgn p x + sgn p y < 0) := by
      unfold sgn; cases p <;> simp <;> omega
    have HZ := Lib.hid hz
    have HSS := Lib.hid hs
    clear hz hs
    have ebb : (p == p) = true := by simp
    go_enter Try.func91, Try.ntmps91
    go_wp2_with fail
    refine (add_any _ _ _ _ _ _ (dig x) (dig y) _ _ _ HX.out HY.out (dig_wds x) (dig_wds y) HS.out HS'.out (by omega) (by omega)).mono ?_
    rintro e w1 ⟨A1, c1, rfl, hc1, hr1, hb1⟩
    rw [nv_dig, nv_dig] at hc1 hr1 ⊢
    have HR1 := Lib.hid hr1
    have HB1 := Lib.hid hb1
    clear hr1 hb1
    go_wp2_with fail
    go_ret2
    exact sumPost_of HZ.out HSS.out hc1 HR1.out HB1.out
  · have ebb : (p == q) = false := by simp [hpq]
    obtain rfl : q = !p := by cases p <;> cases q <;> simp at hpq ⊢
    by_cases hle : y ≤ x
    · have hz : (sgn p x + sgn (!p) y).natAbs = x - y := by unfold sgn; cases p <;> simp <;> omega
      have hs : sgn p x + sgn (!p) y ≠ 0 → p = decide (sgn p x + sgn (!p) y < 0) := by
        unfold sgn; cases p <;> simp <;> omega
      have HZ := Lib.hid hz
      have HSS := Lib.hid hs
      have hmn : m ≤ n := by have h1 := dig_len_mono hle; rw [HX.out.num, HY.out.num] at h1; exact h1
      clear hz hs
      go_enter Try.func91, Try.ntmps91
      go_wp2_with fail
      refine (cmp_ge _ _ _ _ _ _ x y _ _ _ HX.out HY.out (by omega) (by omega) hle).mono ?_
      rintro e w1 ⟨z, hz0, hz1, rfl, hb1⟩
      have z1 := hb1.size
      have hr1 := HX.out.keep (Keeps.below hb1 (fun b hb => HS.out b hb))
      have hr2 := HY.out.keep (Keeps.below hb1 (fun b hb => HS'.out b hb))
      have HR1 := Lib.hid hr1
      have HR2 := Lib.hid hr2
      have HB1 := Lib.hid hb1
      clear hb1 hr1 hr2
      go_wp2_with fail
      refine (sub_any _ _ _ _ _ _ (dig x) (dig y) _ _ _ HR1.out HR2.out (dig_wds x) (dig_wds y) (fun b hb => by have := HS.out b hb; omega) (fun b hb => by have := HS'.out b hb; omega) (by omega) hmn (by rw [nv_dig, nv_dig]; exact hle)).mono ?_
      rintro e w2 ⟨A1, c1, rfl, hc1, hr1, hb1⟩
      rw [nv_dig, nv_dig] at hc1 hr1 ⊢
      have HR3 := Lib.hid hr1
      have HB3 := Lib.hid hb1
      clear hr1 hb1
      go_wp2_with fail
      go_ret2
      exact sumPost_of HZ.out HSS.out hc1 (HR3.out.imp fun b hb => ⟨by omega, hb.2⟩) (below_then HB1.out HB3.out)
    · have hz : (sgn p x + sgn (!p) y).natAbs = y - x := by unfold sgn; cases p <;> simp <;> omega
      have hs : sgn p x + sgn (!p) y ≠ 0 → (!p) = decide (sgn p x + sgn (!p) y < 0) := by
        unfold sgn; cases p <;> simp <;> omega
      have HZ := Lib.hid hz
      have HSS := Lib.hid hs
      have hmn : n ≤ m := by have h1 := dig_len_mono (show x ≤ y by omega); rw [HX.out.num, HY.out.num] at h1; exact h1
      clear hz hs
      go_enter Try.func91, Try.ntmps91
      go_wp2_with fail
      refine (cmp_lt _ _ _ _ _ _ x y _ _ _ HX.out HY.out (by omega) (by omega) (by omega)).mono ?_
      rintro e w1 ⟨rfl, hb1⟩
      have z1 := hb1.size
      have hr1 := HX.out.keep (Keeps.below hb1 (fun b hb => HS.out b hb))
      have hr2 := HY.out.keep (Keeps.below hb1 (fun b hb => HS'.out b hb))
      have HR1 := Lib.hid hr1
      have HR2 := Lib.hid hr2
      have HB1 := Lib.hid hb1
      clear hb1 hr1 hr2
      go_wp2_with fail
      refine (sub_any _ _ _ _ _ _ (dig y) (dig x) _ _ _ HR2.out HR1.out (dig_wds y) (dig_wds x) (fun b hb => by have := HS'.out b hb; omega) (fun b hb => by have := HS.out b hb; omega) (by omega) hmn (by rw [nv_dig, nv_dig]; omega)).mono ?_
      rintro e w2 ⟨A1, c1, rfl, hc1, hr1, hb1⟩
      rw [nv_dig, nv_dig] at hc1 hr1 ⊢
      have HR3 := Lib.hid hr1
      have HB3 := Lib.hid hb1
      clear hr1 hb1
      go_wp2_with fail
      go_ret2
      exact sumPost_of HZ.out HSS.out hc1 (HR3.out.imp fun b hb => ⟨by omega, hb.2⟩) (below_then HB1.out HB3.out)

end Go.Proofs.Ytfepmbpcdfdlhaa

/- Add, Sub, Mul, Neg, Abs, Lsh, Rsh, SetInt64 ..: the walks (printed by wip/Int/gen_i5.py) -/
namespace Go.Proofs.Ytfepmbpcdfdlhaa
open Go.RowKit Go.Sort

/-- a method answers its receiver, which has the value z now -/
def IntPost (b o : Nat) (z : Int) (w : World) (e : Ending) (w' : World) : Prop := e = .returned (.pointer (some ⟨b, o, none⟩)) ∧ IntAt w' b o z ∧ Upd w w' b o

theorem sgn_mul {x y : Int} (h : x * y ≠ 0) : (decide (x < 0) != decide (y < 0)) = decide (x * y < 0) := by
  have hx : x ≠ 0 := fun e => h (by rw [e, Int.zero_mul])
  have hy : y ≠ 0 := fun e => h (by rw [e, Int.mul_zero])
  by_cases h1 : x < 0
  · by_cases h2 : y < 0
    · have := Int.mul_pos_of_neg_of_neg h1 h2
      simp [h1, h2]; omega
    · have := Int.mul_neg_of_neg_of_pos h1 (show 0 < y by omega)
      simp [h1, h2]; omega
  · by_cases h2 : y < 0
    · have := Int.mul_neg_of_pos_of_neg (show 0 < x by omega) h2
      simp [h1, h2]; omega
    · have := Int.mul_pos (show 0 < x by omega) (show 0 < y by omega)
      simp [h1, h2]; omega
theorem abs_shl (x : Int) (k : Nat) : (x * 2 ^ k).natAbs = x.natAbs * 2 ^ k := by
  rw [Int.natAbs_mul, Int.natAbs_pow]; rfl
theorem sgn_shl (x : Int) (k : Nat) : decide (x * 2 ^ k < 0) = decide (x < 0) := by
  have hp : (0 : Int) < 2 ^ k := Int.pow_pos (by decide)
  by_cases h : x < 0
  · have := Int.mul_neg_of_neg_of_pos h hp
    simp [h, this]
  · have := Int.mul_nonneg (show 0 ≤ x by omega) (Int.le_of_lt hp)
    simp [h]; omega
theorem left_k (A : Option Addr) (n c : Nat) (x k : Nat) (S : Nat → Prop) (w : World) (hx : RdE Wc 1 w S A n (dig x)) (hS : ∀ b, S b → b < w.heap.size) (hn : n ≤ 10000000) (hk : k ≤ 100000000) :
    Calls Try.prog 74 #[.slice A n c, .int .u64 (k : Int)] w (WordsPost (x * 2 ^ k) w) := by
  have h := left_any A n c (dig x) (k / 32) (k % 32) S w hx (dig_wds x) hS (by omega) (by omega) (Nat.mod_lt _ (by decide))
  rw [nv_dig, show k / 32 * 32 + k % 32 = k by omega] at h
  exact h
theorem right_k (A : Option Addr) (n c : Nat) (x k : Nat) (S : Nat → Prop) (w : World) (hx : RdE Wc 1 w S A n (dig x)) (hS : ∀ b, S b → b < w.heap.size) (hn : n ≤ 10000000) (hk : k ≤ 100000000) :
    Calls Try.prog 109 #[.slice A n c, .int .u64 (k : Int)] w (WordsPost (x / 2 ^ k) w) := by
  have h := right_any A n c (dig x) (k / 32) (k % 32) S w hx (dig_wds x) hS (by omega) (by omega) (Nat.mod_lt _ (by decide))
  rw [nv_dig, show k / 32 * 32 + k % 32 = k by omega] at h
  exact h

set_option maxRecDepth 100000 in
set_option maxHeartbeats 2000000 in
theorem neg_int (b o b1 o1 : Nat) (z x : Int) (w : World) (hz : IntAt w b o z) (hx : IntAt w b1 o1 x) (hl : (dig x.natAbs).length ≤ 10000000) :
    Calls Try.prog 36 #[.pointer (some ⟨b, o, none⟩), .pointer (some ⟨b1, o1, none⟩)] w (IntPost b o (-x) w) := by
  obtain ⟨A, n, c, s, HN, HS, h0, h1, hc, HR⟩ := hx.open
  rw [← HN.out] at hl
  have HZ := Lib.hid hz
  clear hz hx
  have HN' : Hid (n = (dig (-x).natAbs).length) := Lib.hid (by rw [Int.natAbs_neg]; exact HN.out)
  have HR' : Hid (RdE Wc 1 w.drew (fun d => d < w.drew.heap.size) A n (dig (-x).natAbs)) := Lib.hid (by rw [Int.natAbs_neg]; exact HR.out)
  have hsg : -x ≠ 0 → (!s) = decide (-x < 0) := by
    intro h; rw [HS.out]; by_cases h1 : x < 0 <;> simp [h1] <;> omega
  have HSG := Lib.hid hsg
  clear hsg
  go_enter Try.func36, Try.ntmps36
  go_wp2_with fail
  refine wp_region_G (S := (fun w' => w'.cell? ⟨b1, o1, none⟩ = some (.bool s) ∧ w'.cell? ⟨b1, o1 + 1, none⟩ = some (.slice A n c))) 11 (by kernel_rfl) ?_ (fun hHeld => ?_)
  · first | exact True.intro | ((try dsimp only); go_keep)
  refine tkG (i := 0) (v := ?_) rfl (by kernel_rfl) (Or.inl ⟨by kernel_rfl, ?_⟩) (by assumption) ?_
  rotate_left 1
  · (intro w hSw; (try dsimp only at hSw); go_simp; try with_reducible rfl)
  try simp only [lyA, lyB, lyC, Act.put, lyD, lyE, lyF]
  refine tkG (i := 1) (v := ?_) rfl (by kernel_rfl) (Or.inl ⟨by kernel_rfl, ?_⟩) (by assumption) ?_
  rotate_left 1
  · (intro w hSw; (try dsimp only at hSw); go_simp; try with_reducible rfl)
  try simp only [lyA, lyB, lyC, Act.put, lyD, lyE, lyF]
  refine tkG (i := 2) (v := ?_) rfl (by kernel_rfl) (Or.inl ⟨by kernel_rfl, ?_⟩) (by assumption) ?_
  rotate_left 1
  · (intro w hSw; (try dsimp only at hSw); go_simp; try with_reducible rfl)
  try simp only [lyA, lyB, lyC, Act.put, lyD, lyE, lyF]
  refine tkG (i := 3) (v := ?_) rfl (by kernel_rfl) (Or.inl ⟨by kernel_rfl, ?_⟩) (by assumption) ?_
  rotate_left 1
  · (intro w hSw; (try dsimp only at hSw); go_simp; try with_reducible rfl)
  try simp only [lyA, lyB, lyC, Act.put, lyD, lyE, lyF]
  refine tkG (i := 4) (v := ?_) rfl (by kernel_rfl) (Or.inl ⟨by kernel_rfl, ?_⟩) (by assumption) ?_
  rotate_left 1
  · (intro w hSw; (try dsimp only at hSw); go_simp; try with_reducible rfl)
  try simp only [lyA, lyB, lyC, Act.put, lyD, lyE, lyF]
  refine tkG (i := 5) (v := ?_) rfl (by kernel_rfl) (Or.inl ⟨by kernel_rfl, ?_⟩) (by assumption) ?_
  rotate_left 1
  · (intro w hSw; (try dsimp only at hSw); go_simp; try with_reducible rfl)
  try simp only [lyA, lyB, lyC, Act.put, lyD, lyE, lyF]
  refine tkG (i := 6) (v := ?_) rfl (by kernel_rfl) (Or.inl ⟨by kernel_rfl, ?_⟩) (by assumption) ?_
  rotate_left 1
  · (intro w hSw; (try dsimp only at hSw); go_simp; try with_reducible rfl)
  try simp only [lyA, lyB, lyC, Act.put, lyD, lyE, lyF]
  refine tkG (i := 7) (v := ?_) rfl (by kernel_rfl) (Or.inl ⟨by kernel_rfl, ?_⟩) (by assumption) ?_
  rotate_left 1
  · (intro w hSw; (try dsimp only at hSw); go_simp; try with_reducible rfl)
  try simp only [lyA, lyB, lyC, Act.put, lyD, lyE, lyF]
  refine tkG (i := 8) (v := ?_) rfl (by kernel_rfl) (Or.inl ⟨by kernel_rfl, ?_⟩) (by assumption) ?_
  rotate_left 1
  · (intro w hSw; (try dsimp only at hSw); go_simp; try with_reducible rfl)
  try simp only [lyA, lyB, lyC, Act.put, lyD, lyE, lyF]
  refine tkG (i := 9) (v := ?_) rfl (by kernel_rfl) (Or.inl ⟨by kernel_rfl, ?_⟩) (by assumption) ?_
  rotate_left 1
  · (intro w hSw; (try dsimp only at hSw); go_simp; try with_reducible rfl)
  try simp only [lyA, lyB, lyC, Act.put, lyD, lyE, lyF]
  refine wpAnyG_one (i := 10) (by kernel_rfl) rfl (fun K hK => ?_)
  go_simp
  (refine (twin_any _ _ _ _ _ _ HR'.out (by omega)).mono ?_; rintro e w1 ⟨A1, c1, rfl, hc1, hr1, hb1⟩; have k1 := bat hb1 hHeld.1; have k2 := bat hb1 hHeld.2; have HR1 := Lib.hid hr1; have HB1 : Hid (Below w.heap.size w w1) := Lib.hid (((Below.refl w.heap.size w).drew).trans hb1); clear hr1 hb1)
  try go_wp2_with fail
  refine (fun hHeld => hK.out _ _ (.inl hHeld) (fun _ => ?_)) ?_
  rotate_left 1
  · first | exact True.intro | ((try dsimp only); go_keep)
  clear hK K
  try simp only [lyA, lyB, lyC, Act.put, lyD, lyE, lyF]
  refine wpAnyG_one (i := 11) (by kernel_rfl) rfl (fun K hK => ?_)
  go_simp
  (refine (give_int _ _ (-x) z (!s) A1 n c1 w1 (HZ.out.below HB1.out) HN'.out hc1 (HR1.out.imp fun d hd => hd.2) (sgn_and HN'.out fun h => HSG.out h)).mono ?_; rintro e w2 ⟨rfl, hi2, hu2⟩; have HI2 := Lib.hid hi2; have HU2 := Lib.hid hu2; clear hi2 hu2)
  try go_wp2_with fail
  refine hK.out _ _ ?_ (fun hHeld => ?_)
  · exact .inr (by kernel_rfl)
  clear hK K
  try simp only [lyA, lyB, lyC, Act.put, lyD, lyE, lyF]
  refine wpAnyG_one (i := 12) (by kernel_rfl) rfl (fun K hK => ?_)
  go_simp
  refine hK.out _ _ ?_ (fun hHeld => ?_)
  · exact .inr (by kernel_rfl)
  clear hK K
  try simp only [lyA, lyB, lyC, Act.put, lyD, lyE, lyF]
  refine wpAnyG_done (by kernel_rfl) ?_ _
  go_wp2_with fail
  go_ret
  exact ⟨rfl, HI2.out, Upd.after HB1.out HU2.out HZ.out.lt⟩

set_option maxRecDepth 100000 in
set_option maxHeartbeats 2000000 in
theorem lsh_int (b o b1 o1 : Nat) (z x : Int) (k : Nat) (w : World) (hz : IntAt w b o z) (hx : IntAt w b1 o1 x) (hl : (dig x.natAbs).length ≤ 10000000) (hk : k ≤ 100000000) :
    Calls Try.prog 43 #[.pointer (some ⟨b, o, none⟩), .pointer (some ⟨b1, o1, none⟩), .int .u64 (k : Int)] w (IntPost b o (x * 2 ^ k) w) := by
  obtain ⟨A, n, c, s, HN, HS, h0, h1, hc, HR⟩ := hx.open
  rw [← HN.out] at hl
  have HZ := Lib.hid hz
  clear hz hx
  have HA := Lib.hid (abs_shl x k)
  have HSG : Hid (s = decide (x * 2 ^ k < 0)) := Lib.hid (by rw [sgn_shl]; exact HS.out)
  go_enter Try.func43, Try.ntmps43
  go_wp2_with fail
  refine wp_region_G (S := (fun w' => w'.cell? ⟨b1, o1, none⟩ = some (.bool s) ∧ w'.cell? ⟨b1, o1 + 1, none⟩ = some (.slice A n c))) 11 (by kernel_rfl) ?_ (fun hHeld => ?_)
  · first | exact True.intro | ((try dsimp only); go_keep)
  refine tkG (i := 0) (v := ?_) rfl (by kernel_rfl) (Or.inl ⟨by kernel_rfl, ?_⟩) (by assumption) ?_
  rotate_left 1
  · (intro w hSw; (try dsimp only at hSw); go_simp; try with_reducible rfl)
  try simp only [lyA, lyB, lyC, Act.put, lyD, lyE, lyF]
  refine tkG (i := 1) (v := ?_) rfl (by kernel_rfl) (Or.inl ⟨by kernel_rfl, ?_⟩) (by assumption) ?_
  rotate_left 1
  · (intro w hSw; (try dsimp only at hSw); go_simp; try with_reducible rfl)
  try simp only [lyA, lyB, lyC, Act.put, lyD, lyE, lyF]
  refine tkG (i := 2) (v := ?_) rfl (by kernel_rfl) (Or.inl ⟨by kernel_rfl, ?_⟩) (by assumption) ?_
  rotate_left 1
  · (intro w hSw; (try dsimp only at hSw); go_simp; try with_reducible rfl)
  try simp only [lyA, lyB, lyC, Act.put, lyD, lyE, lyF]
  refine tkG (i := 3) (v := ?_) rfl (by kernel_rfl) (Or.inl ⟨by kernel_rfl, ?_⟩) (by assumption) ?_
  rotate_left 1
  · (intro w hSw; (try dsimp only at hSw); go_simp; try with_reducible rfl)
  try simp only [lyA, lyB, lyC, Act.put, lyD, lyE, lyF]
  refine tkG (i := 4) (v := ?_) rfl (by kernel_rfl) (Or.inl ⟨by kernel_rfl, ?_⟩) (by assumption) ?_
  rotate_left 1
  · (intro w hSw; (try dsimp only at hSw); go_simp; try with_reducible rfl)
  try simp only [lyA, lyB, lyC, Act.put, lyD, lyE, lyF]
  refine tkG (i := 5) (v := ?_) rfl (by kernel_rfl) (Or.inl ⟨by kernel_rfl, ?_⟩) (by assumption) ?_
  rotate_left 1
  · (intro w hSw; (try dsimp only at hSw); go_simp; try with_reducible rfl)
  try simp only [lyA, lyB, lyC, Act.put, lyD, lyE, lyF]
  refine tkG (i := 6) (v := ?_) rfl (by kernel_rfl) (Or.inl ⟨by kernel_rfl, ?_⟩) (by assumption) ?_
  rotate_left 1
  · (intro w hSw; (try dsimp only at hSw); go_simp; try with_reducible rfl)
  try simp only [lyA, lyB, lyC, Act.put, lyD, lyE, lyF]
  refine tkG (i := 7) (v := ?_) rfl (by kernel_rfl) (Or.inl ⟨by kernel_rfl, ?_⟩) (by assumption) ?_
  rotate_left 1
  · (intro w hSw; (try dsimp only at hSw); go_simp; try with_reducible rfl)
  try simp only [lyA, lyB, lyC, Act.put, lyD, lyE, lyF]
  refine tkG (i := 8) (v := ?_) rfl (by kernel_rfl) (Or.inl ⟨by kernel_rfl, ?_⟩) (by assumption) ?_
  rotate_left 1
  · (intro w hSw; (try dsimp only at hSw); go_simp; try with_reducible rfl)
  try simp only [lyA, lyB, lyC, Act.put, lyD, lyE, lyF]
  refine tkG (i := 9) (v := ?_) rfl (by kernel_rfl) (Or.inl ⟨by kernel_rfl, ?_⟩) (by assumption) ?_
  rotate_left 1
  · (intro w hSw; (try dsimp only at hSw); go_simp; try with_reducible rfl)
  try simp only [lyA, lyB, lyC, Act.put, lyD, lyE, lyF]
  refine wpAnyG_one (i := 10) (by kernel_rfl) rfl (fun K hK => ?_)
  go_simp
  (refine (left_k _ _ _ x.natAbs k _ _ HR.out (fun b hb => hb) (by omega) hk).mono ?_; rintro e w1 ⟨A1, c1, rfl, hc1, hr1, hb1⟩; rw [← HA.out] at hc1 hr1; rw [← HA.out]; have k1 := bat hb1 hHeld.1; have k2 := bat hb1 hHeld.2; have HR1 := Lib.hid hr1; have HB1 : Hid (Below w.heap.size w w1) := Lib.hid (((Below.refl w.heap.size w).drew).trans hb1); clear hr1 hb1)
  try go_wp2_with fail
  refine (fun hHeld => hK.out _ _ (.inl hHeld) (fun _ => ?_)) ?_
  rotate_left 1
  · first | exact True.intro | ((try dsimp only); go_keep)
  clear hK K
  try simp only [lyA, lyB, lyC, Act.put, lyD, lyE, lyF]
  refine wpAnyG_one (i := 11) (by kernel_rfl) rfl (fun K hK => ?_)
  go_simp
  (refine (give_int _ _ (x * 2 ^ k) z s A1 _ c1 w1 (HZ.out.below HB1.out) rfl hc1 (HR1.out.imp fun d hd => hd.2) (sgn_and rfl fun _ => HSG.out)).mono ?_; rintro e w2 ⟨rfl, hi2, hu2⟩; have HI2 := Lib.hid hi2; have HU2 := Lib.hid hu2; clear hi2 hu2)
  try go_wp2_with fail
  refine hK.out _ _ ?_ (fun hHeld => ?_)
  · exact .inr (by kernel_rfl)
  clear hK K
  try simp only [lyA, lyB, lyC, Act.put, lyD, lyE, lyF]
  refine wpAnyG_one (i := 12) (by kernel_rfl) rfl (fun K hK => ?_)
  go_simp
  refine hK.out _ _ ?_ (fun hHeld => ?_)
  · exact .inr (by kernel_rfl)
  clear hK K
  try simp only [lyA, lyB, lyC, Act.put, lyD, lyE, lyF]
  refine wpAnyG_done (by kernel_rfl) ?_ _
  go_wp2_with fail
  go_ret
  exact ⟨rfl, HI2.out, Upd.after HB1.out HU2.out HZ.out.lt⟩

set_option maxRecDepth 100000 in
set_option maxHeartbeats 2000000 in
theorem mul_int (b o b1 o1 b2 o2 : Nat) (z x y : Int) (w : World) (hz : IntAt w b o z) (hx : IntAt w b1 o1 x) (hy : IntAt w b2 o2 y) (hl : (dig x.natAbs).length ≤ 10000000) (hl' : (dig y.natAbs).length ≤ 10000000) :
    Calls Try.prog 60 #[.pointer (some ⟨b, o, none⟩), .pointer (some ⟨b1, o1, none⟩), .pointer (some ⟨b2, o2, none⟩)] w (IntPost b o (x * y) w) := by
  obtain ⟨A, n, c, s, HN, HS, h0, h1, hc, HR⟩ := hx.open
  rw [← HN.out] at hl
  have HZ := Lib.hid hz
  obtain ⟨A', n', c', s', HN', HS', h0', h1', hc', HR'⟩ := hy.open
  rw [← HN'.out] at hl'
  clear hz hx hy
  have HA := Lib.hid (Int.natAbs_mul x y)
  have HSG : Hid (x * y ≠ 0 → (s != s') = decide (x * y < 0)) := Lib.hid (fun h => by rw [HS.out, HS'.out]; exact sgn_mul h)
  go_enter Try.func60, Try.ntmps60
  go_wp2_with fail
  refine wp_region_G (S := (fun w' => w'.cell? ⟨b1, o1, none⟩ = some (.bool s) ∧ w'.cell? ⟨b1, o1 + 1, none⟩ = some (.slice A n c) ∧ w'.cell? ⟨b2, o2, none⟩ = some (.bool s') ∧ w'.cell? ⟨b2, o2 + 1, none⟩ = some (.slice A' n' c'))) 19 (by kernel_rfl) ?_ (fun hHeld => ?_)
  · first | exact True.intro | ((try dsimp only); go_keep)
  refine tkG (i := 0) (v := ?_) rfl (by kernel_rfl) (Or.inl ⟨by kernel_rfl, ?_⟩) (by assumption) ?_
  rotate_left 1
  · (intro w hSw; (try dsimp only at hSw); go_simp; try with_reducible rfl)
  try simp only [lyA, lyB, lyC, Act.put, lyD, lyE, lyF]
  refine tkG (i := 1) (v := ?_) rfl (by kernel_rfl) (Or.inl ⟨by kernel_rfl, ?_⟩) (by assumption) ?_
  rotate_left 1
  · (intro w hSw; (try dsimp only at hSw); go_simp; try with_reducible rfl)
  try simp only [lyA, lyB, lyC, Act.put, lyD, lyE, lyF]
  refine tkG (i := 2) (v := ?_) rfl (by kernel_rfl) (Or.inl ⟨by kernel_rfl, ?_⟩) (by assumption) ?_
  rotate_left 1
  · (intro w hSw; (try dsimp only at hSw); go_simp; try with_reducible rfl)
  try simp only [lyA, lyB, lyC, Act.put, lyD, lyE, lyF]
  refine tkG (i := 3) (v := ?_) rfl (by kernel_rfl) (Or.inl ⟨by kernel_rfl, ?_⟩) (by assumption) ?_
  rotate_left 1
  · (intro w hSw; (try dsimp only at hSw); go_simp; try with_reducible rfl)
  try simp only [lyA, lyB, lyC, Act.put, lyD, lyE, lyF]
  refine tkG (i := 4) (v := ?_) rfl (by kernel_rfl) (Or.inl ⟨by kernel_rfl, ?_⟩) (by assumption) ?_
  rotate_left 1
  · (intro w hSw; (try dsimp only at hSw); go_simp; try with_reducible rfl)
  try simp only [lyA, lyB, lyC, Act.put, lyD, lyE, lyF]
  refine tkG (i := 5) (v := ?_) rfl (by kernel_rfl) (Or.inl ⟨by kernel_rfl, ?_⟩) (by assumption) ?_
  rotate_left 1
  · (intro w hSw; (try dsimp only at hSw); go_simp; try with_reducible rfl)
  try simp only [lyA, lyB, lyC, Act.put, lyD, lyE, lyF]
  refine tkG (i := 6) (v := ?_) rfl (by kernel_rfl) (Or.inl ⟨by kernel_rfl, ?_⟩) (by assumption) ?_
  rotate_left 1
  · (intro w hSw; (try dsimp only at hSw); go_simp; try with_reducible rfl)
  try simp only [lyA, lyB, lyC, Act.put, lyD, lyE, lyF]
  refine tkG (i := 7) (v := ?_) rfl (by kernel_rfl) (Or.inl ⟨by kernel_rfl, ?_⟩) (by assumption) ?_
  rotate_left 1
  · (intro w hSw; (try dsimp only at hSw); go_simp; try with_reducible rfl)
  try simp only [lyA, lyB, lyC, Act.put, lyD, lyE, lyF]
  refine tkG (i := 8) (v := ?_) rfl (by kernel_rfl) (Or.inl ⟨by kernel_rfl, ?_⟩) (by assumption) ?_
  rotate_left 1
  · (intro w hSw; (try dsimp only at hSw); go_simp; try with_reducible rfl)
  try simp only [lyA, lyB, lyC, Act.put, lyD, lyE, lyF]
  refine tkG (i := 9) (v := ?_) rfl (by kernel_rfl) (Or.inl ⟨by kernel_rfl, ?_⟩) (by assumption) ?_
  rotate_left 1
  · (intro w hSw; (try dsimp only at hSw); go_simp; try with_reducible rfl)
  try simp only [lyA, lyB, lyC, Act.put, lyD, lyE, lyF]
  refine tkG (i := 10) (v := ?_) rfl (by kernel_rfl) (Or.inl ⟨by kernel_rfl, ?_⟩) (by assumption) ?_
  rotate_left 1
  · (intro w hSw; (try dsimp only at hSw); go_simp; try with_reducible rfl)
  try simp only [lyA, lyB, lyC, Act.put, lyD, lyE, lyF]
  refine tkG (i := 11) (v := ?_) rfl (by kernel_rfl) (Or.inl ⟨by kernel_rfl, ?_⟩) (by assumption) ?_
  rotate_left 1
  · (intro w hSw; (try dsimp only at hSw); go_simp; try with_reducible rfl)
  try simp only [lyA, lyB, lyC, Act.put, lyD, lyE, lyF]
  refine tkG (i := 12) (v := ?_) rfl (by kernel_rfl) (Or.inl ⟨by kernel_rfl, ?_⟩) (by assumption) ?_
  rotate_left 1
  · (intro w hSw; (try dsimp only at hSw); go_simp; try with_reducible rfl)
  try simp only [lyA, lyB, lyC, Act.put, lyD, lyE, lyF]
  refine tkG (i := 13) (v := ?_) rfl (by kernel_rfl) (Or.inl ⟨by kernel_rfl, ?_⟩) (by assumption) ?_
  rotate_left 1
  · (intro w hSw; (try dsimp only at hSw); go_simp; try with_reducible rfl)
  try simp only [lyA, lyB, lyC, Act.put, lyD, lyE, lyF]
  refine tkG (i := 14) (v := ?_) rfl (by kernel_rfl) (Or.inl ⟨by kernel_rfl, ?_⟩) (by assumption) ?_
  rotate_left 1
  · (intro w hSw; (try dsimp only at hSw); go_simp; try with_reducible rfl)
  try simp only [lyA, lyB, lyC, Act.put, lyD, lyE, lyF]
  refine tkG (i := 15) (v := ?_) rfl (by kernel_rfl) (Or.inl ⟨by kernel_rfl, ?_⟩) (by assumption) ?_
  rotate_left 1
  · (intro w hSw; (try dsimp only at hSw); go_simp; try with_reducible rfl)
  try simp only [lyA, lyB, lyC, Act.put, lyD, lyE, lyF]
  refine tkG (i := 16) (v := ?_) rfl (by kernel_rfl) (Or.inl ⟨by kernel_rfl, ?_⟩) (by assumption) ?_
  rotate_left 1
  · (intro w hSw; (try dsimp only at hSw); go_simp; try with_reducible rfl)
  try simp only [lyA, lyB, lyC, Act.put, lyD, lyE, lyF]
  refine tkG (i := 17) (v := ?_) rfl (by kernel_rfl) (Or.inl ⟨by kernel_rfl, ?_⟩) (by assumption) ?_
  rotate_left 1
  · (intro w hSw; (try dsimp only at hSw); go_simp; try with_reducible rfl)
  try simp only [lyA, lyB, lyC, Act.put, lyD, lyE, lyF]
  refine wpAnyG_one (i := 18) (by kernel_rfl) rfl (fun K hK => ?_)
  go_simp
  (refine (mul_any _ _ _ _ _ _ _ _ _ _ _ HR.out HR'.out (dig_wds _) (dig_wds _) (fun b hb => hb) (fun b hb => hb) (by omega) (by omega)).mono ?_; rintro e w1 ⟨A1, c1, rfl, hc1, hr1, hb1⟩; rw [nv_dig, nv_dig, ← HA.out] at hc1 hr1; rw [nv_dig, nv_dig, ← HA.out]; have k1 := bat hb1 hHeld.1; have k2 := bat hb1 hHeld.2.1; have k3 := bat hb1 hHeld.2.2.1; have k4 := bat hb1 hHeld.2.2.2; have HR1 := Lib.hid hr1; have HB1 : Hid (Below w.heap.size w w1) := Lib.hid (((Below.refl w.heap.size w).drew).trans hb1); clear hr1 hb1)
  try go_wp2_with fail
  refine (fun hHeld => hK.out _ _ (.inl hHeld) (fun _ => ?_)) ?_
  rotate_left 1
  · first | exact True.intro | ((try dsimp only); go_keep)
  clear hK K
  try simp only [lyA, lyB, lyC, Act.put, lyD, lyE, lyF]
  refine wpAnyG_one (i := 19) (by kernel_rfl) rfl (fun K hK => ?_)
  go_simp
  (refine (give_int _ _ (x * y) z (s != s') A1 _ c1 w1 (HZ.out.below HB1.out) rfl hc1 (HR1.out.imp fun d hd => hd.2) (sgn_and rfl fun h => HSG.out h)).mono ?_; rintro e w2 ⟨rfl, hi2, hu2⟩; have HI2 := Lib.hid hi2; have HU2 := Lib.hid hu2; clear hi2 hu2)
  try go_wp2_with fail
  refine hK.out _ _ ?_ (fun hHeld => ?_)
  · exact .inr (by kernel_rfl)
  clear hK K
  try simp only [lyA, lyB, lyC, Act.put, lyD, lyE, lyF]
  refine wpAnyG_one (i := 20) (by kernel_rfl) rfl (fun K hK => ?_)
  go_simp
  refine hK.out _ _ ?_ (fun hHeld => ?_)
  · exact .inr (by kernel_rfl)
  clear hK K
  try simp only [lyA, lyB, lyC, Act.put, lyD, lyE, lyF]
  refine wpAnyG_done (by kernel_rfl) ?_ _
  go_wp2_with fail
  go_ret
  exact ⟨rfl, HI2.out, Upd.after HB1.out HU2.out HZ.out.lt⟩

set_option maxRecDepth 100000 in
set_option maxHeartbeats 2000000 in
theorem add_int (b o b1 o1 b2 o2 : Nat) (z x y : Int) (w : World) (hz : IntAt w b o z) (hx : IntAt w b1 o1 x) (hy : IntAt w b2 o2 y) (hl : (dig x.natAbs).length ≤ 10000000) (hl' : (dig y.natAbs).length ≤ 10000000) :
    Calls Try.prog 61 #[.pointer (some ⟨b, o, none⟩), .pointer (some ⟨b1, o1, none⟩), .pointer (some ⟨b2, o2, none⟩)] w (IntPost b o (x + y) w) := by
  obtain ⟨A, n, c, s, HN, HS, h0, h1, hc, HR⟩ := hx.open
  rw [← HN.out] at hl
  have HZ := Lib.hid hz
  obtain ⟨A', n', c', s', HN', HS', h0', h1', hc', HR'⟩ := hy.open
  rw [← HN'.out] at hl'
  clear hz hx hy
  have HE : Hid (sgn s x.natAbs + sgn s' y.natAbs = x + y) := Lib.hid (by rw [HS.out, HS'.out, sgn_abs, sgn_abs])
  go_enter Try.func61, Try.ntmps61
  go_wp2_with fail
  refine wp_region_G (S := (fun w' => w'.cell? ⟨b1, o1, none⟩ = some (.bool s) ∧ w'.cell? ⟨b1, o1 + 1, none⟩ = some (.slice A n c) ∧ w'.cell? ⟨b2, o2, none⟩ = some (.bool s') ∧ w'.cell? ⟨b2, o2 + 1, none⟩ = some (.slice A' n' c'))) 20 (by kernel_rfl) ?_ (fun hHeld => ?_)
  · first | exact True.intro | ((try dsimp only); go_keep)
  refine tkG (i := 0) (v := ?_) rfl (by kernel_rfl) (Or.inl ⟨by kernel_rfl, ?_⟩) (by assumption) ?_
  rotate_left 1
  · (intro w hSw; (try dsimp only at hSw); go_simp; try with_reducible rfl)
  try simp only [lyA, lyB, lyC, Act.put, lyD, lyE, lyF]
  refine tkG (i := 1) (v := ?_) rfl (by kernel_rfl) (Or.inl ⟨by kernel_rfl, ?_⟩) (by assumption) ?_
  rotate_left 1
  · (intro w hSw; (try dsimp only at hSw); go_simp; try with_reducible rfl)
  try simp only [lyA, lyB, lyC, Act.put, lyD, lyE, lyF]
  refine tkG (i := 2) (v := ?_) rfl (by kernel_rfl) (Or.inl ⟨by kernel_rfl, ?_⟩) (by assumption) ?_
  rotate_left 1
  · (intro w hSw; (try dsimp only at hSw); go_simp; try with_reducible rfl)
  try simp only [lyA, lyB, lyC, Act.put, lyD, lyE, lyF]
  refine tkG (i := 3) (v := ?_) rfl (by kernel_rfl) (Or.inl ⟨by kernel_rfl, ?_⟩) (by assumption) ?_
  rotate_left 1
  · (intro w hSw; (try dsimp only at hSw); go_simp; try with_reducible rfl)
  try simp only [lyA, lyB, lyC, Act.put, lyD, lyE, lyF]
  refine tkG (i := 4) (v := ?_) rfl (by kernel_rfl) (Or.inl ⟨by kernel_rfl, ?_⟩) (by assumption) ?_
  rotate_left 1
  · (intro w hSw; (try dsimp only at hSw); go_simp; try with_reducible rfl)
  try simp only [lyA, lyB, lyC, Act.put, lyD, lyE, lyF]
  refine tkG (i := 5) (v := ?_) rfl (by kernel_rfl) (Or.inl ⟨by kernel_rfl, ?_⟩) (by assumption) ?_
  rotate_left 1
  · (intro w hSw; (try dsimp only at hSw); go_simp; try with_reducible rfl)
  try simp only [lyA, lyB, lyC, Act.put, lyD, lyE, lyF]
  refine tkG (i := 6) (v := ?_) rfl (by kernel_rfl) (Or.inl ⟨by kernel_rfl, ?_⟩) (by assumption) ?_
  rotate_left 1
  · (intro w hSw; (try dsimp only at hSw); go_simp; try with_reducible rfl)
  try simp only [lyA, lyB, lyC, Act.put, lyD, lyE, lyF]
  refine tkG (i := 7) (v := ?_) rfl (by kernel_rfl) (Or.inl ⟨by kernel_rfl, ?_⟩) (by assumption) ?_
  rotate_left 1
  · (intro w hSw; (try dsimp only at hSw); go_simp; try with_reducible rfl)
  try simp only [lyA, lyB, lyC, Act.put, lyD, lyE, lyF]
  refine tkG (i := 8) (v := ?_) rfl (by kernel_rfl) (Or.inl ⟨by kernel_rfl, ?_⟩) (by assumption) ?_
  rotate_left 1
  · (intro w hSw; (try dsimp only at hSw); go_simp; try with_reducible rfl)
  try simp only [lyA, lyB, lyC, Act.put, lyD, lyE, lyF]
  refine tkG (i := 9) (v := ?_) rfl (by kernel_rfl) (Or.inl ⟨by kernel_rfl, ?_⟩) (by assumption) ?_
  rotate_left 1
  · (intro w hSw; (try dsimp only at hSw); go_simp; try with_reducible rfl)
  try simp only [lyA, lyB, lyC, Act.put, lyD, lyE, lyF]
  refine tkG (i := 10) (v := ?_) rfl (by kernel_rfl) (Or.inl ⟨by kernel_rfl, ?_⟩) (by assumption) ?_
  rotate_left 1
  · (intro w hSw; (try dsimp only at hSw); go_simp; try with_reducible rfl)
  try simp only [lyA, lyB, lyC, Act.put, lyD, lyE, lyF]
  refine tkG (i := 11) (v := ?_) rfl (by kernel_rfl) (Or.inl ⟨by kernel_rfl, ?_⟩) (by assumption) ?_
  rotate_left 1
  · (intro w hSw; (try dsimp only at hSw); go_simp; try with_reducible rfl)
  try simp only [lyA, lyB, lyC, Act.put, lyD, lyE, lyF]
  refine tkG (i := 12) (v := ?_) rfl (by kernel_rfl) (Or.inl ⟨by kernel_rfl, ?_⟩) (by assumption) ?_
  rotate_left 1
  · (intro w hSw; (try dsimp only at hSw); go_simp; try with_reducible rfl)
  try simp only [lyA, lyB, lyC, Act.put, lyD, lyE, lyF]
  refine tkG (i := 13) (v := ?_) rfl (by kernel_rfl) (Or.inl ⟨by kernel_rfl, ?_⟩) (by assumption) ?_
  rotate_left 1
  · (intro w hSw; (try dsimp only at hSw); go_simp; try with_reducible rfl)
  try simp only [lyA, lyB, lyC, Act.put, lyD, lyE, lyF]
  refine tkG (i := 14) (v := ?_) rfl (by kernel_rfl) (Or.inl ⟨by kernel_rfl, ?_⟩) (by assumption) ?_
  rotate_left 1
  · (intro w hSw; (try dsimp only at hSw); go_simp; try with_reducible rfl)
  try simp only [lyA, lyB, lyC, Act.put, lyD, lyE, lyF]
  refine tkG (i := 15) (v := ?_) rfl (by kernel_rfl) (Or.inl ⟨by kernel_rfl, ?_⟩) (by assumption) ?_
  rotate_left 1
  · (intro w hSw; (try dsimp only at hSw); go_simp; try with_reducible rfl)
  try simp only [lyA, lyB, lyC, Act.put, lyD, lyE, lyF]
  refine tkG (i := 16) (v := ?_) rfl (by kernel_rfl) (Or.inl ⟨by kernel_rfl, ?_⟩) (by assumption) ?_
  rotate_left 1
  · (intro w hSw; (try dsimp only at hSw); go_simp; try with_reducible rfl)
  try simp only [lyA, lyB, lyC, Act.put, lyD, lyE, lyF]
  refine wpAnyG_one (i := 17) (by kernel_rfl) rfl (fun K hK => ?_)
  go_simp
  (refine (sum_any _ _ _ _ _ _ _ _ _ _ _ _ _ HR.out HR'.out (fun b hb => hb) (fun b hb => hb) (by omega) (by omega)).mono ?_; rw [HE.out]; rintro e w1 ⟨s1, A1, n1, c1, rfl, hn1, hc1, hs1, hr1, hb1⟩; have k1 := bat hb1 hHeld.1; have k2 := bat hb1 hHeld.2.1; have k3 := bat hb1 hHeld.2.2.1; have k4 := bat hb1 hHeld.2.2.2; have HR1 := Lib.hid hr1; have HN1 := Lib.hid hn1; have HS1 := Lib.hid hs1; have HB1 : Hid (Below w.heap.size w w1) := Lib.hid (((Below.refl w.heap.size w).drew).trans hb1); clear hr1 hb1 hn1 hs1)
  try go_wp2_with fail
  refine (fun hHeld => hK.out _ _ (.inl hHeld) (fun _ => ?_)) ?_
  rotate_left 1
  · first | exact True.intro | ((try dsimp only); go_keep)
  clear hK K
  try simp only [lyA, lyB, lyC, Act.put, lyD, lyE, lyF]
  refine tkG (i := 18) (v := ?_) rfl (by kernel_rfl) (Or.inl ⟨by kernel_rfl, ?_⟩) (by assumption) ?_
  rotate_left 1
  · (intro w hSw; (try dsimp only at hSw); go_simp; try with_reducible rfl)
  try simp only [lyA, lyB, lyC, Act.put, lyD, lyE, lyF]
  refine tkG (i := 19) (v := ?_) rfl (by kernel_rfl) (Or.inl ⟨by kernel_rfl, ?_⟩) (by assumption) ?_
  rotate_left 1
  · (intro w hSw; (try dsimp only at hSw); go_simp; try with_reducible rfl)
  try simp only [lyA, lyB, lyC, Act.put, lyD, lyE, lyF]
  refine wpAnyG_one (i := 20) (by kernel_rfl) rfl (fun K hK => ?_)
  go_simp
  (refine (give_int _ _ (x + y) z s1 A1 n1 c1 w1 (HZ.out.below HB1.out) HN1.out hc1 (HR1.out.imp fun d hd => hd.2) (sgn_and HN1.out fun h => HS1.out h)).mono ?_; rintro e w2 ⟨rfl, hi2, hu2⟩; have HI2 := Lib.hid hi2; have HU2 := Lib.hid hu2; clear hi2 hu2)
  try go_wp2_with fail
  refine hK.out _ _ ?_ (fun hHeld => ?_)
  · exact .inr (by kernel_rfl)
  clear hK K
  try simp only [lyA, lyB, lyC, Act.put, lyD, lyE, lyF]
  refine wpAnyG_one (i := 21) (by kernel_rfl) rfl (fun K hK => ?_)
  go_simp
  refine hK.out _ _ ?_ (fun hHeld => ?_)
  · exact .inr (by kernel_rfl)
  clear hK K
  try simp only [lyA, lyB, lyC, Act.put, lyD, lyE, lyF]
  refine wpAnyG_done (by kernel_rfl) ?_ _
  go_wp2_with fail
  go_ret
  exact ⟨rfl, HI2.out, Upd.after HB1.out HU2.out HZ.out.lt⟩

set_option maxRecDepth 100000 in
set_option maxHeartbeats 2000000 in
theorem sub_int (b o b1 o1 b2 o2 : Nat) (z x y : Int) (w : World) (hz : IntAt w b o z) (hx : IntAt w b1 o1 x) (hy : IntAt w b2 o2 y) (hl : (dig x.natAbs).length ≤ 10000000) (hl' : (dig y.natAbs).length ≤ 10000000) :
    Calls Try.prog 103 #[.pointer (some ⟨b, o, none⟩), .pointer (some ⟨b1, o1, none⟩), .pointer (some ⟨b2, o2, none⟩)] w (IntPost b o (x - y) w) := by
  obtain ⟨A, n, c, s, HN, HS, h0, h1, hc, HR⟩ := hx.open
  rw [← HN.out] at hl
  have HZ := Lib.hid hz
  obtain ⟨A', n', c', s', HN', HS', h0', h1', hc', HR'⟩ := hy.open
  rw [← HN'.out] at hl'
  clear hz hx hy
  have HE : Hid (sgn s x.natAbs + sgn (!s') y.natAbs = x - y) := Lib.hid (by rw [HS.out, HS'.out, sgn_abs, sgn_not]; exact Int.sub_eq_add_neg.symm)
  go_enter Try.func103, Try.ntmps103
  go_wp2_with fail
  refine wp_region_G (S := (fun w' => w'.cell? ⟨b1, o1, none⟩ = some (.bool s) ∧ w'.cell? ⟨b1, o1 + 1, none⟩ = some (.slice A n c) ∧ w'.cell? ⟨b2, o2, none⟩ = some (.bool s') ∧ w'.cell? ⟨b2, o2 + 1, none⟩ = some (.slice A' n' c'))) 21 (by kernel_rfl) ?_ (fun hHeld => ?_)
  · first | exact True.intro | ((try dsimp only); go_keep)
  refine tkG (i := 0) (v := ?_) rfl (by kernel_rfl) (Or.inl ⟨by kernel_rfl, ?_⟩) (by assumption) ?_
  rotate_left 1
  · (intro w hSw; (try dsimp only at hSw); go_simp; try with_reducible rfl)
  try simp only [lyA, lyB, lyC, Act.put, lyD, lyE, lyF]
  refine tkG (i := 1) (v := ?_) rfl (by kernel_rfl) (Or.inl ⟨by kernel_rfl, ?_⟩) (by assumption) ?_
  rotate_left 1
  · (intro w hSw; (try dsimp only at hSw); go_simp; try with_reducible rfl)
  try simp only [lyA, lyB, lyC, Act.put, lyD, lyE, lyF]
  refine tkG (i := 2) (v := ?_) rfl (by kernel_rfl) (Or.inl ⟨by kernel_rfl, ?_⟩) (by assumption) ?_
  rotate_left 1
  · (intro w hSw; (try dsimp only at hSw); go_simp; try with_reducible rfl)
  try simp only [lyA, lyB, lyC, Act.put, lyD, lyE, lyF]
  refine tkG (i := 3) (v := ?_) rfl (by kernel_rfl) (Or.inl ⟨by kernel_rfl, ?_⟩) (by assumption) ?_
  rotate_left 1
  · (intro w hSw; (try dsimp only at hSw); go_simp; try with_reducible rfl)
  try simp only [lyA, lyB, lyC, Act.put, lyD, lyE, lyF]
  refine tkG (i := 4) (v := ?_) rfl (by kernel_rfl) (Or.inl ⟨by kernel_rfl, ?_⟩) (by assumption) ?_
  rotate_left 1
  · (intro w hSw; (try dsimp only at hSw); go_simp; try with_reducible rfl)
  try simp only [lyA, lyB, lyC, Act.put, lyD, lyE, lyF]
  refine tkG (i := 5) (v := ?_) rfl (by kernel_rfl) (Or.inl ⟨by kernel_rfl, ?_⟩) (by assumption) ?_
  rotate_left 1
  · (intro w hSw; (try dsimp only at hSw); go_simp; try with_reducible rfl)
  try simp only [lyA, lyB, lyC, Act.put, lyD, lyE, lyF]
  refine tkG (i := 6) (v := ?_) rfl (by kernel_rfl) (Or.inl ⟨by kernel_rfl, ?_⟩) (by assumption) ?_
  rotate_left 1
  · (intro w hSw; (try dsimp only at hSw); go_simp; try with_reducible rfl)
  try simp only [lyA, lyB, lyC, Act.put, lyD, lyE, lyF]
  refine tkG (i := 7) (v := ?_) rfl (by kernel_rfl) (Or.inl ⟨by kernel_rfl, ?_⟩) (by assumption) ?_
  rotate_left 1
  · (intro w hSw; (try dsimp only at hSw); go_simp; try with_reducible rfl)
  try simp only [lyA, lyB, lyC, Act.put, lyD, lyE, lyF]
  refine tkG (i := 8) (v := ?_) rfl (by kernel_rfl) (Or.inl ⟨by kernel_rfl, ?_⟩) (by assumption) ?_
  rotate_left 1
  · (intro w hSw; (try dsimp only at hSw); go_simp; try with_reducible rfl)
  try simp only [lyA, lyB, lyC, Act.put, lyD, lyE, lyF]
  refine tkG (i := 9) (v := ?_) rfl (by kernel_rfl) (Or.inl ⟨by kernel_rfl, ?_⟩) (by assumption) ?_
  rotate_left 1
  · (intro w hSw; (try dsimp only at hSw); go_simp; try with_reducible rfl)
  try simp only [lyA, lyB, lyC, Act.put, lyD, lyE, lyF]
  refine tkG (i := 10) (v := ?_) rfl (by kernel_rfl) (Or.inl ⟨by kernel_rfl, ?_⟩) (by assumption) ?_
  rotate_left 1
  · (intro w hSw; (try dsimp only at hSw); go_simp; try with_reducible rfl)
  try simp only [lyA, lyB, lyC, Act.put, lyD, lyE, lyF]
  refine tkG (i := 11) (v := ?_) rfl (by kernel_rfl) (Or.inl ⟨by kernel_rfl, ?_⟩) (by assumption) ?_
  rotate_left 1
  · (intro w hSw; (try dsimp only at hSw); go_simp; try with_reducible rfl)
  try simp only [lyA, lyB, lyC, Act.put, lyD, lyE, lyF]
  refine tkG (i := 12) (v := ?_) rfl (by kernel_rfl) (Or.inl ⟨by kernel_rfl, ?_⟩) (by assumption) ?_
  rotate_left 1
  · (intro w hSw; (try dsimp only at hSw); go_simp; try with_reducible rfl)
  try simp only [lyA, lyB, lyC, Act.put, lyD, lyE, lyF]
  refine tkG (i := 13) (v := ?_) rfl (by kernel_rfl) (Or.inl ⟨by kernel_rfl, ?_⟩) (by assumption) ?_
  rotate_left 1
  · (intro w hSw; (try dsimp only at hSw); go_simp; try with_reducible rfl)
  try simp only [lyA, lyB, lyC, Act.put, lyD, lyE, lyF]
  refine tkG (i := 14) (v := ?_) rfl (by kernel_rfl) (Or.inl ⟨by kernel_rfl, ?_⟩) (by assumption) ?_
  rotate_left 1
  · (intro w hSw; (try dsimp only at hSw); go_simp; try with_reducible rfl)
  try simp only [lyA, lyB, lyC, Act.put, lyD, lyE, lyF]
  refine tkG (i := 15) (v := ?_) rfl (by kernel_rfl) (Or.inl ⟨by kernel_rfl, ?_⟩) (by assumption) ?_
  rotate_left 1
  · (intro w hSw; (try dsimp only at hSw); go_simp; try with_reducible rfl)
  try simp only [lyA, lyB, lyC, Act.put, lyD, lyE, lyF]
  refine tkG (i := 16) (v := ?_) rfl (by kernel_rfl) (Or.inl ⟨by kernel_rfl, ?_⟩) (by assumption) ?_
  rotate_left 1
  · (intro w hSw; (try dsimp only at hSw); go_simp; try with_reducible rfl)
  try simp only [lyA, lyB, lyC, Act.put, lyD, lyE, lyF]
  refine tkG (i := 17) (v := ?_) rfl (by kernel_rfl) (Or.inl ⟨by kernel_rfl, ?_⟩) (by assumption) ?_
  rotate_left 1
  · (intro w hSw; (try dsimp only at hSw); go_simp; try with_reducible rfl)
  try simp only [lyA, lyB, lyC, Act.put, lyD, lyE, lyF]
  refine wpAnyG_one (i := 18) (by kernel_rfl) rfl (fun K hK => ?_)
  go_simp
  (refine (sum_any _ _ _ _ _ _ _ _ _ _ _ _ _ HR.out HR'.out (fun b hb => hb) (fun b hb => hb) (by omega) (by omega)).mono ?_; rw [HE.out]; rintro e w1 ⟨s1, A1, n1, c1, rfl, hn1, hc1, hs1, hr1, hb1⟩; have k1 := bat hb1 hHeld.1; have k2 := bat hb1 hHeld.2.1; have k3 := bat hb1 hHeld.2.2.1; have k4 := bat hb1 hHeld.2.2.2; have HR1 := Lib.hid hr1; have HN1 := Lib.hid hn1; have HS1 := Lib.hid hs1; have HB1 : Hid (Below w.heap.size w w1) := Lib.hid (((Below.refl w.heap.size w).drew).trans hb1); clear hr1 hb1 hn1 hs1)
  try go_wp2_with fail
  refine (fun hHeld => hK.out _ _ (.inl hHeld) (fun _ => ?_)) ?_
  rotate_left 1
  · first | exact True.intro | ((try dsimp only); go_keep)
  clear hK K
  try simp only [lyA, lyB, lyC, Act.put, lyD, lyE, lyF]
  refine tkG (i := 19) (v := ?_) rfl (by kernel_rfl) (Or.inl ⟨by kernel_rfl, ?_⟩) (by assumption) ?_
  rotate_left 1
  · (intro w hSw; (try dsimp only at hSw); go_simp; try with_reducible rfl)
  try simp only [lyA, lyB, lyC, Act.put, lyD, lyE, lyF]
  refine tkG (i := 20) (v := ?_) rfl (by kernel_rfl) (Or.inl ⟨by kernel_rfl, ?_⟩) (by assumption) ?_
  rotate_left 1
  · (intro w hSw; (try dsimp only at hSw); go_simp; try with_reducible rfl)
  try simp only [lyA, lyB, lyC, Act.put, lyD, lyE, lyF]
  refine wpAnyG_one (i := 21) (by kernel_rfl) rfl (fun K hK => ?_)
  go_simp
  (refine (give_int _ _ (x - y) z s1 A1 n1 c1 w1 (HZ.out.below HB1.out) HN1.out hc1 (HR1.out.imp fun d hd => hd.2) (sgn_and HN1.out fun h => HS1.out h)).mono ?_; rintro e w2 ⟨rfl, hi2, hu2⟩; have HI2 := Lib.hid hi2; have HU2 := Lib.hid hu2; clear hi2 hu2)
  try go_wp2_with fail
  refine hK.out _ _ ?_ (fun hHeld => ?_)
  · exact .inr (by kernel_rfl)
  clear hK K
  try simp only [lyA, lyB, lyC, Act.put, lyD, lyE, lyF]
  refine wpAnyG_one (i := 22) (by kernel_rfl) rfl (fun K hK => ?_)
  go_simp
  refine hK.out _ _ ?_ (fun hHeld => ?_)
  · exact .inr (by kernel_rfl)
  clear hK K
  try simp only [lyA, lyB, lyC, Act.put, lyD, lyE, lyF]
  refine wpAnyG_done (by kernel_rfl) ?_ _
  go_wp2_with fail
  go_ret
  exact ⟨rfl, HI2.out, Upd.after HB1.out HU2.out HZ.out.lt⟩

end Go.Proofs.Ytfepmbpcdfdlhaa

/- Abs, SetUint64, SetInt64, Sign, Uint64 ..: the walks of those that draw no order -/
namespace Go.Proofs.Ytfepmbpcdfdlhaa
open Go.RowKit Go.Sort

/-- a method answers its receiver, which has the value z now (as IntPost) -/
def IntGot (b o : Nat) (z : Int) (w : World) (e : Ending) (w' : World) : Prop := e = .returned (.pointer (some ⟨b, o, none⟩)) ∧ IntAt w' b o z ∧ Upd w w' b o

set_option maxRecDepth 100000 in
set_option maxHeartbeats 2000000 in
theorem abs_int (b o b1 o1 : Nat) (z x : Int) (w : World) (hz : IntAt w b o z) (hx : IntAt w b1 o1 x) (hl : (dig x.natAbs).length ≤ 10000000) :
    Calls Try.prog 83 #[.pointer (some ⟨b, o, none⟩), .pointer (some ⟨b1, o1, none⟩)] w (IntGot b o (x.natAbs : Int) w) := by
  obtain ⟨A, n, c, s, HN, HS, h0, h1, hc, HR⟩ := hx.open
  rw [← HN.out] at hl
  have HZ := Lib.hid hz
  clear hz hx h0
  have hR : RdE Wc 1 w (fun d => d < w.heap.size) A n (dig x.natAbs) := HR.out.keep (fun _ _ => rfl)
  have HR' := Lib.hid hR
  clear hR
  go_enter Try.func83, Try.ntmps83
  go_wp2_with fail
  refine (twin_any _ _ _ _ _ _ HR'.out (by omega)).mono ?_
  rintro e w1 ⟨A1, c1, rfl, hc1, hr1, hb1⟩
  have HR1 := Lib.hid hr1
  have HB1 := Lib.hid hb1
  clear hr1 hb1
  go_wp2_with fail
  refine (give_int _ _ (x.natAbs : Int) z false A1 n c1 w1 (HZ.out.below HB1.out) HN.out hc1 (HR1.out.imp fun d hd => hd.2) (by simp)).mono ?_
  rintro e w2 ⟨rfl, hi2, hu2⟩
  have HI2 := Lib.hid hi2
  have HU2 := Lib.hid hu2
  clear hi2 hu2
  go_wp2_with fail
  go_ret
  exact ⟨rfl, HI2.out, Upd.after HB1.out HU2.out HZ.out.lt⟩

set_option maxRecDepth 100000 in
set_option maxHeartbeats 2000000 in
theorem setU_int (b o : Nat) (z : Int) (x : Nat) (w : World) (hz : IntAt w b o z) (hx : x < 18446744073709551616) :
    Calls Try.prog 73 #[.pointer (some ⟨b, o, none⟩), .int .u64 (x : Int)] w (IntGot b o (x : Int) w) := by
  have HZ := Lib.hid hz
  clear hz
  go_enter Try.func73, Try.ntmps73
  go_wp2_with fail
  refine (words_any x _ hx).mono ?_
  rintro e w1 ⟨A1, c1, rfl, hc1, hr1, hb1⟩
  have HR1 := Lib.hid hr1
  have HB1 := Lib.hid hb1
  clear hr1 hb1
  go_wp2_with fail
  refine (give_int _ _ (x : Int) z false A1 _ c1 w1 (HZ.out.below HB1.out) rfl hc1 (HR1.out.imp fun d hd => hd.2) (by simp)).mono ?_
  rintro e w2 ⟨rfl, hi2, hu2⟩
  have HI2 := Lib.hid hi2
  have HU2 := Lib.hid hu2
  clear hi2 hu2
  go_wp2_with fail
  go_ret
  exact ⟨rfl, HI2.out, Upd.after HB1.out HU2.out HZ.out.lt⟩

set_option maxRecDepth 100000 in
set_option maxHeartbeats 2000000 in
theorem setI_int (b o : Nat) (z : Int) (x : Int) (w : World) (hz : IntAt w b o z) (hx : -9223372036854775808 ≤ x) (hx2 : x ≤ 9223372036854775807) :
    Calls Try.prog 75 #[.pointer (some ⟨b, o, none⟩), .int .i64 x] w (IntGot b o x w) := by
  have HZ := Lib.hid hz
  clear hz
  by_cases hneg : x < 0
  · have e1 : IntKind.u64.wrap x = x + 18446744073709551616 := by rw [IntKind.wrap_u64]; omega
    have e2 : IntKind.u64.wrap (-(x + 18446744073709551616)) = (x.natAbs : Int) := by rw [IntKind.wrap_u64]; omega
    go_enter Try.func75, Try.ntmps75
    go_wp2_with fail
    refine (words_any x.natAbs _ (by omega)).mono ?_
    rintro e w1 ⟨A1, c1, rfl, hc1, hr1, hb1⟩
    have HR1 := Lib.hid hr1
    have HB1 := Lib.hid hb1
    clear hr1 hb1 e1 e2
    go_wp2_with fail
    refine (give_int _ _ x z true A1 _ c1 w1 (HZ.out.below HB1.out) rfl hc1 (HR1.out.imp fun d hd => hd.2) (sgn_and rfl fun _ => by simp [hneg])).mono ?_
    rintro e w2 ⟨rfl, hi2, hu2⟩
    have HI2 := Lib.hid hi2
    have HU2 := Lib.hid hu2
    clear hi2 hu2
    go_wp2_with fail
    go_ret
    exact ⟨rfl, HI2.out, Upd.after HB1.out HU2.out HZ.out.lt⟩
  · obtain ⟨n, rfl⟩ := Int.eq_ofNat_of_zero_le (show 0 ≤ x by omega)
    have e1 : IntKind.u64.wrap (n : Int) = (n : Int) := by rw [IntKind.wrap_u64]; omega
    have hd : decide ((n : Int) < 0) = false := by simp
    go_enter Try.func75, Try.ntmps75
    go_wp2_with fail
    refine (words_any n _ (by omega)).mono ?_
    rintro e w1 ⟨A1, c1, rfl, hc1, hr1, hb1⟩
    have HR1 := Lib.hid hr1
    have HB1 := Lib.hid hb1
    clear hr1 hb1
    go_wp2_with fail
    refine (give_int _ _ (n : Int) z false A1 _ c1 w1 (HZ.out.below HB1.out) rfl hc1 (HR1.out.imp fun d hd => hd.2) (by simp)).mono ?_
    rintro e w2 ⟨rfl, hi2, hu2⟩
    have HI2 := Lib.hid hi2
    have HU2 := Lib.hid hu2
    clear hi2 hu2
    go_wp2_with fail
    go_ret
    exact ⟨rfl, HI2.out, Upd.after HB1.out HU2.out HZ.out.lt⟩

end Go.Proofs.Ytfepmbpcdfdlhaa

/- Sign, BitLen, Uint64, IsUint64, Cmp: the walks -/
namespace Go.Proofs.Ytfepmbpcdfdlhaa
open Go.RowKit Go.Sort

/-- -1, 0, 1 -/
def sgnI (x : Int) : Int := if x < 0 then -1 else if x = 0 then 0 else 1

theorem sign_int (b o : Nat) (x : Int) (w : World) (hx : IntAt w b o x) :
    Calls Try.prog 42 #[.pointer (some ⟨b, o, none⟩)] w fun e w' => e = .returned (.int .i64 (sgnI x)) ∧ w = w' := by
  obtain ⟨A, n, c, s, HN, HS, h0, h1, hc, HR⟩ := hx.open
  clear hx
  by_cases hz : x = 0
  · have hn : n = 0 := by rw [HN.out, hz]; rfl
    subst hn
    have HE : Hid (sgnI x = 0) := Lib.hid (by simp [sgnI, hz])
    go_enter Try.func42, Try.ntmps42
    go_wp2_with fail
    go_ret
    exact ⟨by rw [HE.out]; rfl, rfl⟩
  · have hn : 0 < n := by rw [HN.out]; exact List.length_pos_iff.2 (dig_pos (by omega))
    have e0 : ((n : Int) == 0) = false := by simp; omega
    by_cases hneg : x < 0
    · have HE : Hid (sgnI x = -1) := Lib.hid (by simp [sgnI, hneg])
      obtain rfl : s = true := by rw [HS.out]; simp [hneg]
      go_enter Try.func42, Try.ntmps42
      go_wp2_with fail
      go_ret
      exact ⟨by rw [HE.out]; rfl, rfl⟩
    · have HE : Hid (sgnI x = 1) := Lib.hid (by simp [sgnI, hneg, hz])
      obtain rfl : s = false := by rw [HS.out]; simp [hneg]
      go_enter Try.func42, Try.ntmps42
      go_wp2_with fail
      go_ret
      exact ⟨by rw [HE.out]; rfl, rfl⟩

theorem bitLen_int (b o : Nat) (x : Int) (w : World) (hx : IntAt w b o x) (hl : (dig x.natAbs).length ≤ 10000000) :
    Calls Try.prog 71 #[.pointer (some ⟨b, o, none⟩)] w fun e w' => e = .returned (.int .i64 (blen x.natAbs)) ∧ w = w' := by
  obtain ⟨A, n, c, s, HN, HS, h0, h1, hc, HR⟩ := hx.open
  rw [← HN.out] at hl
  have HR' : Hid (RdE Wc 1 w (fun d => d < w.heap.size) A n (dig x.natAbs)) := Lib.hid (HR.out.keep (fun _ _ => rfl))
  clear hx
  go_enter Try.func71, Try.ntmps71
  go_wp2_with fail
  refine (length_any _ _ _ x.natAbs _ _ HR'.out (by omega)).mono ?_
  rintro e w' ⟨rfl, rfl⟩
  go_wp2_with fail
  go_ret
  exact ⟨rfl, rfl⟩

theorem isU_int (b o : Nat) (x : Int) (w : World) (hx : IntAt w b o x) (hl : (dig x.natAbs).length ≤ 10000000) (hx0 : 0 ≤ x) :
    Calls Try.prog 97 #[.pointer (some ⟨b, o, none⟩)] w fun e w' => e = .returned (.bool (decide (blen x.natAbs ≤ 64))) ∧ w = w' := by
  obtain ⟨A, n, c, s, HN, HS, h0, h1, hc, HR⟩ := hx.open
  rw [← HN.out] at hl
  have HR' : Hid (RdE Wc 1 w (fun d => d < w.heap.size) A n (dig x.natAbs)) := Lib.hid (HR.out.keep (fun _ _ => rfl))
  obtain rfl : s = false := by rw [HS.out]; simp; omega
  clear hx
  go_enter Try.func97, Try.ntmps97
  go_wp2_with fail
  refine (length_any _ _ _ x.natAbs _ _ HR'.out (by omega)).mono ?_
  rintro e w' ⟨rfl, rfl⟩
  go_wp2_with fail
  go_ret
  refine ⟨?_, rfl⟩
  have : decide ((blen x.natAbs : Int) ≤ 64) = decide (blen x.natAbs ≤ 64) := by simp only [decide_eq_decide]; omega
  rw [← this]
  rfl

theorem uint64_int (b o : Nat) (x : Int) (w : World) (hx : IntAt w b o x) :
    Calls Try.prog 94 #[.pointer (some ⟨b, o, none⟩)] w fun e w' => e = .returned (.int .u64 ((x.natAbs % 18446744073709551616 : Nat) : Int)) ∧ w = w' := by
  obtain ⟨A, n, c, s, HN, HS, h0, h1, hc, HR⟩ := hx.open
  have HR' : Hid (RdE Wc 1 w (fun d => d < w.heap.size) A n (dig x.natAbs)) := Lib.hid (HR.out.keep (fun _ _ => rfl))
  have HD := dig_wds x.natAbs
  have hpl := nv_dig x.natAbs
  generalize hds : dig x.natAbs = ds at *
  generalize hX : x.natAbs = X at *
  have HW := Lib.hid HD
  have HNV := Lib.hid hpl
  have HL : Hid (ds.length = n) := Lib.hid HN.out.symm
  clear HD hpl hx hds hX HN HR
  match ds, HW, HR', HNV, HL with
  | [], HW, HR', HNV, HL =>
    obtain rfl : n = 0 := HL.out.symm
    have HE : Hid (X % 18446744073709551616 = 0) := Lib.hid (by rw [← HNV.out]; rfl)
    go_enter Try.func94, Try.ntmps94
    go_wp2_with fail
    go_ret
    exact ⟨by rw [HE.out]; rfl, rfl⟩
  | [p], HW, HR', HNV, HL =>
    obtain rfl : n = 1 := HL.out.symm
    have hp : p < 4294967296 := HW.out.head
    have HE : Hid (X % 18446744073709551616 = p) := Lib.hid (by
      have h := HNV.out
      simp [nv] at h
      rw [← h]; omega)
    obtain ⟨b1, o1, rfl, _, hcc⟩ := HR'.out.elem Wc.clen (show [p][0]? = some p from rfl) (by omega)
    have q0 : w.cell? ⟨b1, o1, none⟩ = some (.int .u32 (p : Int)) := hcc 0 _ rfl
    clear hcc
    go_enter Try.func94, Try.ntmps94
    go_wp2_with fail
    go_ret
    exact ⟨by rw [HE.out]; rfl, rfl⟩
  | p :: q :: r, HW, HR', HNV, HL =>
    have hn2 : 2 ≤ n := by have := HL.out; simp at this; omega
    have hp : p < 4294967296 := HW.out.head
    have hq : q < 4294967296 := HW.out.tail.head
    have HE : Hid (X % 18446744073709551616 = p + 4294967296 * q) := Lib.hid (by
      have h := HNV.out
      simp only [nv] at h
      rw [← h, Nat.mul_add, ← Nat.mul_assoc, ← Nat.add_assoc]
      show (p + 4294967296 * q + 18446744073709551616 * nv r) % 18446744073709551616 = _
      rw [Nat.add_mul_mod_self_left]
      omega)
    obtain ⟨b1, o1, rfl, _, hcc⟩ := HR'.out.elem Wc.clen (show (p :: q :: r)[0]? = some p from rfl) (by omega)
    obtain ⟨b2, o2, e2, _, hcc2⟩ := HR'.out.elem Wc.clen (show (p :: q :: r)[1]? = some q from rfl) (by omega)
    cases e2
    have q0 : w.cell? ⟨b1, o1, none⟩ = some (.int .u32 (p : Int)) := hcc 0 _ rfl
    have q1 : w.cell? ⟨b1, o1 + 1, none⟩ = some (.int .u32 (q : Int)) := hcc2 0 _ rfl
    have hor := u64_or32 (y := (p : Int)) (x := (q : Int) * 4294967296) (by omega) (by omega) (by omega) (by omega) (by omega)
    clear hcc hcc2
    go_enter Try.func94, Try.ntmps94
    go_wp2_with fail
    go_ret
    refine ⟨?_, rfl⟩
    rw [HE.out]
    have : ((p + 4294967296 * q : Nat) : Int) = (p : Int) + q * 4294967296 := by omega
    rw [this]
    rfl

end Go.Proofs.Ytfepmbpcdfdlhaa
