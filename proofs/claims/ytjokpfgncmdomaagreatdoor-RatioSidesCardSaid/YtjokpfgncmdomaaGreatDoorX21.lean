import Derived.Test.YtjokpfgncmdomaaGreatDoorX20
set_option linter.unusedSimpArgs false
set_option linter.unusedVariables false
/- dyad.float of any size: the walk -/
namespace Go.Proofs.YtjokpfgncmdomaaGreatDoor
open Go.RowKit Go.Sort

/-- what is too great: is the greatest number told? -/
def mostB (md : Int) (neg : Bool) : Bool := md == 3 || (md == 1 && !neg) || (md == 2 && neg)
/-- the bits of a size times a power of two -/
def fbits (neg : Bool) (size : Nat) (last md : Int) : Nat :=
  if (last + 1074).toNat * 2 ^ 52 + size < 2047 * 2 ^ 52 then sw neg ((last + 1074).toNat * 2 ^ 52 + size) else if mostB md neg = true then sw neg 9218868437227405311 else sw neg 9218868437227405312

theorem ctz_parts {x : Nat} (h0 : x ≠ 0) (h : x < 2 ^ 64) : x / 2 ^ Lib.ctz 64 x % 2 = 1 ∧ x / 2 ^ Lib.ctz 64 x * 2 ^ Lib.ctz 64 x = x ∧ Lib.ctz 64 x < 64 := by
  obtain ⟨m, hm, hk⟩ := Lib.ctzFrom_spec 64 x (by omega) h
  have e : Lib.ctz 64 x = Lib.ctzFrom 64 x := by simp [Lib.ctz, h0]
  rw [e]
  obtain ⟨k, hk'⟩ : ∃ k, k = Lib.ctzFrom 64 x := ⟨_, rfl⟩
  rw [← hk'] at hm hk ⊢
  have e2 : x / 2 ^ k = 2 * m + 1 := by
    rw [hm, Nat.mul_comm]; exact Nat.mul_div_cancel _ (Nat.pow_pos (by decide))
  rw [e2]
  exact ⟨by omega, by rw [hm]; exact Nat.mul_comm _ _, hk⟩

set_option maxRecDepth 100000 in
set_option maxHeartbeats 4000000 in
theorem float_zero (neg : Bool) (md : Int) (w : World) :
    Calls Tryz.prog 114 #[.bool neg, .int .u64 0, .int .i64 (-1074), .int .i8 md] w fun e w' => e = .returned (.float .f64 (sw neg 0)) ∧ Below w.heap.size w w' := by
  go_enter Tryz.func114, Tryz.ntmps114
  go_wp2_with fail
  have k0 := new_cell w #[.bool neg, .int .u64 0, .int .i64 0] 141 0 _ rfl
  have k1 := new_cell w #[.bool neg, .int .u64 0, .int .i64 0] 141 1 _ rfl
  have k2 := new_cell w #[.bool neg, .int .u64 0, .int .i64 0] 141 2 _ rfl
  have hb := below1 w (.cells #[.bool neg, .int .u64 0, .int .i64 0] 141)
  generalize w.alloc (.cells #[.bool neg, .int .u64 0, .int .i64 0] 141) = w1 at k0 k1 k2 hb ⊢
  have HB := Lib.hid hb
  clear hb
  refine wp_region_G (S := (fun w' => w'.cell? ⟨w.heap.size, 0, none⟩ = some (.bool neg) ∧ w'.cell? ⟨w.heap.size, 1, none⟩ = some (.int .u64 0) ∧ w'.cell? ⟨w.heap.size, 2, none⟩ = some (.int .i64 0))) 6 (by kernel_rfl) ?_ (fun hHeld => ?_)
  · first | exact True.intro | ((try dsimp only); go_keep)
  refine wpAnyG_take (i := 0) (v := ?_) rfl (by kernel_rfl) (by kernel_rfl) (by kernel_rfl) (by kernel_rfl) 8 (by kernel_rfl) (fun _ _ _ h => h) (Or.inl ⟨by kernel_rfl, ?_⟩) (by assumption) ?_
  rotate_left 1
  · (intro w hSw; (try dsimp only at hSw); go_simp; try with_reducible rfl)
  try simp only [List.getElem_toArray, List.getElem_cons_succ, List.getElem_cons_zero, Act.put, List.setIfInBounds_toArray, List.set_cons_zero, List.set_cons_succ]
  refine wpAnyG_take (i := 1) (v := ?_) rfl (by kernel_rfl) (by kernel_rfl) (by kernel_rfl) (by kernel_rfl) 8 (by kernel_rfl) (fun _ _ _ h => h) (Or.inl ⟨by kernel_rfl, ?_⟩) (by assumption) ?_
  rotate_left 1
  · (intro w hSw; (try dsimp only at hSw); go_simp; try with_reducible rfl)
  try simp only [List.getElem_toArray, List.getElem_cons_succ, List.getElem_cons_zero, Act.put, List.setIfInBounds_toArray, List.set_cons_zero, List.set_cons_succ]
  refine wpAnyG_take (i := 3) (v := ?_) rfl (by kernel_rfl) (by kernel_rfl) (by kernel_rfl) (by kernel_rfl) 8 (by kernel_rfl) (fun _ _ _ h => h) (Or.inl ⟨by kernel_rfl, ?_⟩) (by assumption) ?_
  rotate_left 1
  · (intro w hSw; (try dsimp only at hSw); go_simp; try with_reducible rfl)
  try simp only [List.getElem_toArray, List.getElem_cons_succ, List.getElem_cons_zero, Act.put, List.setIfInBounds_toArray, List.set_cons_zero, List.set_cons_succ]
  refine wpAnyG_take (i := 4) (v := ?_) rfl (by kernel_rfl) (by kernel_rfl) (by kernel_rfl) (by kernel_rfl) 8 (by kernel_rfl) (fun _ _ _ h => h) (Or.inl ⟨by kernel_rfl, ?_⟩) (by assumption) ?_
  rotate_left 1
  · (intro w hSw; (try dsimp only at hSw); go_simp; try with_reducible rfl)
  try simp only [List.getElem_toArray, List.getElem_cons_succ, List.getElem_cons_zero, Act.put, List.setIfInBounds_toArray, List.set_cons_zero, List.set_cons_succ]
  refine wpAnyG_one (i := 2) (by kernel_rfl) rfl (fun K hK => ?_)
  go_simp
  (refine (len64 0 _ (by decide)).mono ?_; rintro e w2 ⟨rfl, rfl⟩; rw [show blen 0 = 0 by decide +kernel])
  try go_wp2_with fail
  refine (fun hHeld => hK.out _ _ (.inl hHeld) (fun _ => ?_)) ?_
  rotate_left 1
  · first | exact True.intro | ((try dsimp only); go_keep)
  clear hK K
  try simp only [List.getElem_toArray, List.getElem_cons_succ, List.getElem_cons_zero, Act.put, List.setIfInBounds_toArray, List.set_cons_zero, List.set_cons_succ]
  refine wpAnyG_one (i := 5) (by kernel_rfl) rfl (fun K hK => ?_)
  go_simp
  refine (fun hHeld => hK.out _ _ (.inl hHeld) (fun _ => ?_)) ?_
  rotate_left 1
  · first | exact True.intro | ((try dsimp only); go_keep)
  clear hK K
  try simp only [List.getElem_toArray, List.getElem_cons_succ, List.getElem_cons_zero, Act.put, List.setIfInBounds_toArray, List.set_cons_zero, List.set_cons_succ]
  refine wpAnyG_one (i := 6) (by kernel_rfl) rfl (fun K hK => ?_)
  go_simp
  refine hK.out _ _ ?_ (fun hHeld => ?_)
  · exact .inr (by kernel_rfl)
  clear hK K
  try simp only [List.getElem_toArray, List.getElem_cons_succ, List.getElem_cons_zero, Act.put, List.setIfInBounds_toArray, List.set_cons_zero, List.set_cons_succ]
  refine wpAnyG_done (by kernel_rfl) ?_ _
  go_wp2_with fail
  refine (join_zero neg _).mono ?_
  rintro e w3 ⟨rfl, hb3⟩
  have HB3 := Lib.hid (HB.out.trans (((Below.refl w1.heap.size w1).drew.trans hb3).mono HB.out.size))
  clear hb3
  go_wp2_with fail
  go_ret
  exact ⟨rfl, HB3.out⟩

set_option maxRecDepth 100000 in
set_option maxHeartbeats 4000000 in
theorem float_fits (neg : Bool) (size : Nat) (last md : Int) (w : World) (hL : Laid w) (h0 : size ≠ 0) (hs : size ≤ 2 ^ 53) (hl : -1074 ≤ last) (hl2 : last ≤ 1000000000) (hn : last = -1074 ∨ 2 ^ 52 ≤ size) :
    Calls Tryz.prog 114 #[.bool neg, .int .u64 (size : Int), .int .i64 last, .int .i8 md] w fun e w' => e = .returned (.float .f64 (fbits neg size last md)) ∧ Below w.heap.size w w' := by
  obtain ⟨c1, c2, c3⟩ := ctz_parts h0 (by omega)
  have HT := Lib.hid (fun w hw => tz64 size w (by omega) h0 hw)
  obtain ⟨k, hk⟩ : ∃ k, k = Lib.ctz 64 size := ⟨_, rfl⟩
  rw [← hk] at c1 c2 c3 HT
  obtain ⟨f, hf⟩ : ∃ f, f = size / 2 ^ k := ⟨_, rfl⟩
  rw [← hf] at c1 c2
  have f0 : f ≠ 0 := by omega
  have f53 : f < 2 ^ 53 := by
    have h1 : f ≤ size := by rw [hf]; exact Nat.div_le_self _ _
    have h2 : f ≠ 2 ^ 53 := fun e => by rw [e] at c1; omega
    omega
  have hlog : size.log2 = f.log2 + k := by rw [← c2]; exact log2_mul_pow f0 k
  have hb1 : blen f = f.log2 + 1 := by unfold blen; rw [if_neg f0]
  have hsz : size.log2 ≤ 53 := by
    have : size.log2 < 54 := (Nat.log2_lt h0).2 (by omega)
    omega
  have hrp := rung_parts h0 hs (k := k) (by rw [← hf]; exact c2) (by rw [← hf]; exact f53) hl hn
  rw [← hf] at hrp
  -- the two tests for what is too great agree
  have hg : ((last + 1074).toNat * 2 ^ 52 + size < 2047 * 2 ^ 52) ↔ (blen f : Int) + (last + k) ≤ 1024 := by
    rw [hb1]
    rcases hn with e | e
    · rw [e]; constructor <;> intro _ <;> omega
    · have l1 : ¬ size.log2 < 52 := fun h3 => by have := (Nat.log2_lt h0).1 h3; omega
      by_cases h53 : size < 2 ^ 53
      · have := log_lt h0 h53
        constructor <;> intro _ <;> omega
      · have e53 : size = 2 ^ 53 := by omega
        have : size.log2 = 53 := by rw [e53]; exact Nat.log2_two_pow
        constructor <;> intro _ <;> omega
  have HLD := Lib.hid hL
  have HJM : Hid (∀ w, Calls Tryz.prog 150 #[.agg #[.bool neg, .int .u64 9007199254740991, .int .i64 971]] w fun x w' => x = .returned (.tuple #[.float .f64 (sw neg 9218868437227405311), .bool true]) ∧ Below w.heap.size w w') := Lib.hid (fun w => by
    have h := join_odd neg 9007199254740991 971 w (by decide) (by decide) (by decide) (by decide +kernel)
    rw [show rungOf 9007199254740991 971 = 9218868437227405311 by decide +kernel] at h
    exact h)
  have HLEN := Lib.hid (fun w => len64 f w (by unfold W64; omega))
  have HJ := Lib.hid (fun h w => join_odd neg f (last + k) w f53 c1 (by omega) h)
  have hbb : blen f ≤ 53 := by have := log_lt f0 f53; omega
  obtain ⟨b, hb'⟩ : ∃ b, b = blen f := ⟨_, rfl⟩
  rw [← hb'] at HLEN HJ hg hbb
  have sdiv : (size : Int) / 2 ^ k = (f : Int) := by rw [hf]; exact (Int.natCast_ediv ..).symm ▸ rfl
  have s0 : decide (0 < size) = true := by simp; omega
  have k63 : k ≤ 63 := by omega
  have w0 : IntKind.i64.wrap ((b : Int) + (last + k)) = (b : Int) + (last + k) := by rw [IntKind.wrap_i64]; omega
  have HF2 : Hid (f % 2 = 1) := Lib.hid c1
  rw [hrp] at HJ
  have HFB : Hid (fbits neg size last md = if (b : Int) + (last + k) ≤ 1024 then sw neg ((last + 1074).toNat * 2 ^ 52 + size) else if mostB md neg = true then sw neg 9218868437227405311 else sw neg 9218868437227405312) := Lib.hid (by
    unfold fbits
    by_cases h1 : (b : Int) + (last + k) ≤ 1024
    · rw [if_pos h1, if_pos (hg.2 h1)]
    · rw [if_neg h1, if_neg (fun h2 => h1 (hg.1 h2))])
  clear hg hrp hf hb1 hlog hsz c1 c2 c3 hs h0 hb' hk f0 f53 hL hn
  by_cases ht : (b : Int) + (last + k) ≤ 1024
  · have hR := HFB.out
    rw [if_pos ht] at hR
    have HR := Lib.hid hR
    have HJ2 := Lib.hid (HJ.out (by omega))
    rw [HR.out]
    generalize sw neg ((last + 1074).toNat * 2 ^ 52 + size) = R at HJ2
    clear hR HFB HR HJ
    have t0 : decide (1024 < (b : Int) + (last + k)) = false := by simp; omega
    go_enter Tryz.func114, Tryz.ntmps114
    go_wp2_with fail
    refine (HT.out _ (HLD.out.below (below1 ..))).mono ?_
    rintro e w' ⟨rfl, rfl⟩
    go_wp2_with fail
    have k0 := new_cell w #[.bool neg, .int .u64 (f : Int), .int .i64 (last + k)] 141 0 _ rfl
    have k1 := new_cell w #[.bool neg, .int .u64 (f : Int), .int .i64 (last + k)] 141 1 _ rfl
    have k2 := new_cell w #[.bool neg, .int .u64 (f : Int), .int .i64 (last + k)] 141 2 _ rfl
    have hb := below1 w (.cells #[.bool neg, .int .u64 (f : Int), .int .i64 (last + k)] 141)
    generalize w.alloc (.cells #[.bool neg, .int .u64 (f : Int), .int .i64 (last + k)] 141) = w1 at k0 k1 k2 hb ⊢
    have HB := Lib.hid hb
    clear hb
    refine wp_region_G (S := (fun w' => w'.cell? ⟨w.heap.size, 0, none⟩ = some (.bool neg) ∧ w'.cell? ⟨w.heap.size, 1, none⟩ = some (.int .u64 (f : Int)) ∧ w'.cell? ⟨w.heap.size, 2, none⟩ = some (.int .i64 (last + k)))) 6 (by kernel_rfl) ?_ (fun hHeld => ?_)
    · first | exact True.intro | ((try dsimp only); go_keep)
    refine wpAnyG_take (i := 0) (v := ?_) rfl (by kernel_rfl) (by kernel_rfl) (by kernel_rfl) (by kernel_rfl) 8 (by kernel_rfl) (fun _ _ _ h => h) (Or.inl ⟨by kernel_rfl, ?_⟩) (by assumption) ?_
    rotate_left 1
    · (intro w hSw; (try dsimp only at hSw); go_simp; try with_reducible rfl)
    try simp only [List.getElem_toArray, List.getElem_cons_succ, List.getElem_cons_zero, Act.put, List.setIfInBounds_toArray, List.set_cons_zero, List.set_cons_succ]
    refine wpAnyG_take (i := 1) (v := ?_) rfl (by kernel_rfl) (by kernel_rfl) (by kernel_rfl) (by kernel_rfl) 8 (by kernel_rfl) (fun _ _ _ h => h) (Or.inl ⟨by kernel_rfl, ?_⟩) (by assumption) ?_
    rotate_left 1
    · (intro w hSw; (try dsimp only at hSw); go_simp; try with_reducible rfl)
    try simp only [List.getElem_toArray, List.getElem_cons_succ, List.getElem_cons_zero, Act.put, List.setIfInBounds_toArray, List.set_cons_zero, List.set_cons_succ]
    refine wpAnyG_take (i := 3) (v := ?_) rfl (by kernel_rfl) (by kernel_rfl) (by kernel_rfl) (by kernel_rfl) 8 (by kernel_rfl) (fun _ _ _ h => h) (Or.inl ⟨by kernel_rfl, ?_⟩) (by assumption) ?_
    rotate_left 1
    · (intro w hSw; (try dsimp only at hSw); go_simp; try with_reducible rfl)
    try simp only [List.getElem_toArray, List.getElem_cons_succ, List.getElem_cons_zero, Act.put, List.setIfInBounds_toArray, List.set_cons_zero, List.set_cons_succ]
    refine wpAnyG_take (i := 4) (v := ?_) rfl (by kernel_rfl) (by kernel_rfl) (by kernel_rfl) (by kernel_rfl) 8 (by kernel_rfl) (fun _ _ _ h => h) (Or.inl ⟨by kernel_rfl, ?_⟩) (by assumption) ?_
    rotate_left 1
    · (intro w hSw; (try dsimp only at hSw); go_simp; try with_reducible rfl)
    try simp only [List.getElem_toArray, List.getElem_cons_succ, List.getElem_cons_zero, Act.put, List.setIfInBounds_toArray, List.set_cons_zero, List.set_cons_succ]
    refine wpAnyG_one (i := 2) (by kernel_rfl) rfl (fun K hK => ?_)
    go_simp
    (refine (HLEN.out _).mono ?_; rintro e w2 ⟨rfl, rfl⟩)
    try go_wp2_with fail
    refine (fun hHeld => hK.out _ _ (.inl hHeld) (fun _ => ?_)) ?_
    rotate_left 1
    · first | exact True.intro | ((try dsimp only); go_keep)
    clear hK K
    try simp only [List.getElem_toArray, List.getElem_cons_succ, List.getElem_cons_zero, Act.put, List.setIfInBounds_toArray, List.set_cons_zero, List.set_cons_succ]
    refine wpAnyG_one (i := 5) (by kernel_rfl) rfl (fun K hK => ?_)
    go_simp
    refine (fun hHeld => hK.out _ _ (.inl hHeld) (fun _ => ?_)) ?_
    rotate_left 1
    · first | exact True.intro | ((try dsimp only); go_keep)
    clear hK K
    try simp only [List.getElem_toArray, List.getElem_cons_succ, List.getElem_cons_zero, Act.put, List.setIfInBounds_toArray, List.set_cons_zero, List.set_cons_succ]
    refine wpAnyG_one (i := 6) (by kernel_rfl) rfl (fun K hK => ?_)
    go_simp
    refine hK.out _ _ ?_ (fun hHeld => ?_)
    · exact .inr (by kernel_rfl)
    clear hK K
    try simp only [List.getElem_toArray, List.getElem_cons_succ, List.getElem_cons_zero, Act.put, List.setIfInBounds_toArray, List.set_cons_zero, List.set_cons_succ]
    refine wpAnyG_done (by kernel_rfl) ?_ _
    go_wp2_with fail
    refine (HJ2.out _).mono ?_
    rintro e w3 ⟨rfl, hb3⟩
    have HB3 := Lib.hid (HB.out.trans (((Below.refl w1.heap.size w1).drew.trans hb3).mono HB.out.size))
    clear hb3
    go_wp2_with fail
    go_ret
    exact ⟨rfl, HB3.out⟩
  · have hR := HFB.out
    rw [if_neg ht] at hR
    have HR := Lib.hid hR
    clear hR HFB HJ
    have t0 : decide (1024 < (b : Int) + (last + k)) = true := by simp; omega
    go_enter Tryz.func114, Tryz.ntmps114
    go_wp2_with fail
    refine (HT.out _ (HLD.out.below (below1 ..))).mono ?_
    rintro e w' ⟨rfl, rfl⟩
    go_wp2_with fail
    have z1 := World.frozen?_alloc_new w #[.bool neg, .int .u64 (f : Int), .int .i64 (last + k)] 141 1
    have z2 := World.frozen?_alloc_new w #[.bool neg, .int .u64 (f : Int), .int .i64 (last + k)] 141 2
    have k0 := new_cell w #[.bool neg, .int .u64 (f : Int), .int .i64 (last + k)] 141 0 _ rfl
    have k1 := new_cell w #[.bool neg, .int .u64 (f : Int), .int .i64 (last + k)] 141 1 _ rfl
    have k2 := new_cell w #[.bool neg, .int .u64 (f : Int), .int .i64 (last + k)] 141 2 _ rfl
    have hb := below1 w (.cells #[.bool neg, .int .u64 (f : Int), .int .i64 (last + k)] 141)
    generalize w.alloc (.cells #[.bool neg, .int .u64 (f : Int), .int .i64 (last + k)] 141) = w1 at z1 z2 k0 k1 k2 hb ⊢
    have HB := Lib.hid hb
    clear hb
    refine wp_region_G (S := (fun w' => w'.cell? ⟨w.heap.size, 0, none⟩ = some (.bool neg) ∧ w'.cell? ⟨w.heap.size, 1, none⟩ = some (.int .u64 (f : Int)) ∧ w'.cell? ⟨w.heap.size, 2, none⟩ = some (.int .i64 (last + k)))) 6 (by kernel_rfl) ?_ (fun hHeld => ?_)
    · first | exact True.intro | ((try dsimp only); go_keep)
    refine wpAnyG_take (i := 0) (v := ?_) rfl (by kernel_rfl) (by kernel_rfl) (by kernel_rfl) (by kernel_rfl) 8 (by kernel_rfl) (fun _ _ _ h => h) (Or.inl ⟨by kernel_rfl, ?_⟩) (by assumption) ?_
    rotate_left 1
    · (intro w hSw; (try dsimp only at hSw); go_simp; try with_reducible rfl)
    try simp only [List.getElem_toArray, List.getElem_cons_succ, List.getElem_cons_zero, Act.put, List.setIfInBounds_toArray, List.set_cons_zero, List.set_cons_succ]
    refine wpAnyG_take (i := 1) (v := ?_) rfl (by kernel_rfl) (by kernel_rfl) (by kernel_rfl) (by kernel_rfl) 8 (by kernel_rfl) (fun _ _ _ h => h) (Or.inl ⟨by kernel_rfl, ?_⟩) (by assumption) ?_
    rotate_left 1
    · (intro w hSw; (try dsimp only at hSw); go_simp; try with_reducible rfl)
    try simp only [List.getElem_toArray, List.getElem_cons_succ, List.getElem_cons_zero, Act.put, List.setIfInBounds_toArray, List.set_cons_zero, List.set_cons_succ]
    refine wpAnyG_take (i := 3) (v := ?_) rfl (by kernel_rfl) (by kernel_rfl) (by kernel_rfl) (by kernel_rfl) 8 (by kernel_rfl) (fun _ _ _ h => h) (Or.inl ⟨by kernel_rfl, ?_⟩) (by assumption) ?_
    rotate_left 1
    · (intro w hSw; (try dsimp only at hSw); go_simp; try with_reducible rfl)
    try simp only [List.getElem_toArray, List.getElem_cons_succ, List.getElem_cons_zero, Act.put, List.setIfInBounds_toArray, List.set_cons_zero, List.set_cons_succ]
    refine wpAnyG_take (i := 4) (v := ?_) rfl (by kernel_rfl) (by kernel_rfl) (by kernel_rfl) (by kernel_rfl) 8 (by kernel_rfl) (fun _ _ _ h => h) (Or.inl ⟨by kernel_rfl, ?_⟩) (by assumption) ?_
    rotate_left 1
    · (intro w hSw; (try dsimp only at hSw); go_simp; try with_reducible rfl)
    try simp only [List.getElem_toArray, List.getElem_cons_succ, List.getElem_cons_zero, Act.put, List.setIfInBounds_toArray, List.set_cons_zero, List.set_cons_succ]
    refine wpAnyG_one (i := 2) (by kernel_rfl) rfl (fun K hK => ?_)
    go_simp
    (refine (HLEN.out _).mono ?_; rintro e w2 ⟨rfl, rfl⟩)
    try go_wp2_with fail
    refine (fun hHeld => hK.out _ _ (.inl hHeld) (fun _ => ?_)) ?_
    rotate_left 1
    · first | exact True.intro | ((try dsimp only); go_keep)
    clear hK K
    try simp only [List.getElem_toArray, List.getElem_cons_succ, List.getElem_cons_zero, Act.put, List.setIfInBounds_toArray, List.set_cons_zero, List.set_cons_succ]
    refine wpAnyG_one (i := 5) (by kernel_rfl) rfl (fun K hK => ?_)
    go_simp
    refine (fun hHeld => hK.out _ _ (.inl hHeld) (fun _ => ?_)) ?_
    rotate_left 1
    · first | exact True.intro | ((try dsimp only); go_keep)
    clear hK K
    try simp only [List.getElem_toArray, List.getElem_cons_succ, List.getElem_cons_zero, Act.put, List.setIfInBounds_toArray, List.set_cons_zero, List.set_cons_succ]
    refine wpAnyG_one (i := 6) (by kernel_rfl) rfl (fun K hK => ?_)
    go_simp
    refine hK.out _ _ ?_ (fun hHeld => ?_)
    · exact .inr (by kernel_rfl)
    clear hK K
    try simp only [List.getElem_toArray, List.getElem_cons_succ, List.getElem_cons_zero, Act.put, List.setIfInBounds_toArray, List.set_cons_zero, List.set_cons_succ]
    refine wpAnyG_done (by kernel_rfl) ?_ _
    go_wp2_with fail
    have HB2 := Lib.hid (((HB.out.setCell (p := ⟨w.heap.size, 1, none⟩) (Nat.le_refl _) (.int .u64 9007199254740991)).setCell (p := ⟨w.heap.size, 2, none⟩) (Nat.le_refl _) (.int .i64 971)).drew)
    refine (HJM.out _).mono ?_
    rintro e w3 ⟨rfl, hb3⟩
    have HB3 := Lib.hid (HB2.out.trans (hb3.mono HB2.out.size))
    clear hb3 z1 z2 k0 k1 k2 t0 w0 s0
    cases neg
    · rcases hm3 : (md == 3) with _ | _
      · rcases hm1 : (md == 1) with _ | _
        · rcases hm2 : (md == 2) with _ | _
          · have HR2 : Hid (fbits false size last md = 9218868437227405312) := Lib.hid (by rw [HR.out]; simp [mostB, sw, hm3, hm1, hm2])
            simp only [sw, if_true, if_false, Bool.false_eq_true]
            go_wp2_with fail
            refine (next_max _).mono ?_
            rintro e w4 ⟨rfl, hb4⟩
            have HB4 := Lib.hid (HB3.out.trans (hb4.mono HB3.out.size))
            clear hb4
            go_wp2_with fail
            go_ret
            exact ⟨by rw [HR2.out]; rfl, HB4.out⟩
          · have HR2 : Hid (fbits false size last md = 9218868437227405312) := Lib.hid (by rw [HR.out]; simp [mostB, sw, hm3, hm1, hm2])
            simp only [sw, if_true, if_false, Bool.false_eq_true]
            go_wp2_with fail
            refine (next_max _).mono ?_
            rintro e w4 ⟨rfl, hb4⟩
            have HB4 := Lib.hid (HB3.out.trans (hb4.mono HB3.out.size))
            clear hb4
            go_wp2_with fail
            go_ret
            exact ⟨by rw [HR2.out]; rfl, HB4.out⟩
        · have HR2 : Hid (fbits false size last md = 9218868437227405311) := Lib.hid (by rw [HR.out]; simp [mostB, sw, hm3, hm1])
          simp only [sw, if_true, if_false, Bool.false_eq_true]
          go_wp2_with fail
          go_ret
          exact ⟨by rw [HR2.out]; rfl, HB3.out⟩
      · have HR2 : Hid (fbits false size last md = 9218868437227405311) := Lib.hid (by rw [HR.out]; simp [mostB, sw, hm3])
        simp only [sw, if_true, if_false, Bool.false_eq_true]
        go_wp2_with fail
        go_ret
        exact ⟨by rw [HR2.out]; rfl, HB3.out⟩
    · rcases hm3 : (md == 3) with _ | _
      · rcases hm1 : (md == 1) with _ | _
        · rcases hm2 : (md == 2) with _ | _
          · have HR2 : Hid (fbits true size last md = 18442240474082181120) := Lib.hid (by rw [HR.out]; simp [mostB, sw, hm3, hm1, hm2])
            simp only [sw, if_true, if_false, Bool.false_eq_true]
            go_wp2_with fail
            refine (next_min _).mono ?_
            rintro e w4 ⟨rfl, hb4⟩
            have HB4 := Lib.hid (HB3.out.trans (hb4.mono HB3.out.size))
            clear hb4
            go_wp2_with fail
            go_ret
            exact ⟨by rw [HR2.out]; rfl, HB4.out⟩
          · have HR2 : Hid (fbits true size last md = 18442240474082181119) := Lib.hid (by rw [HR.out]; simp [mostB, sw, hm3, hm1, hm2])
            simp only [sw, if_true, if_false, Bool.false_eq_true]
            go_wp2_with fail
            go_ret
            exact ⟨by rw [HR2.out]; rfl, HB3.out⟩
        · rcases hm2 : (md == 2) with _ | _
          · have HR2 : Hid (fbits true size last md = 18442240474082181120) := Lib.hid (by rw [HR.out]; simp [mostB, sw, hm3, hm1, hm2])
            simp only [sw, if_true, if_false, Bool.false_eq_true]
            go_wp2_with fail
            refine (next_min _).mono ?_
            rintro e w4 ⟨rfl, hb4⟩
            have HB4 := Lib.hid (HB3.out.trans (hb4.mono HB3.out.size))
            clear hb4
            go_wp2_with fail
            go_ret
            exact ⟨by rw [HR2.out]; rfl, HB4.out⟩
          · have HR2 : Hid (fbits true size last md = 18442240474082181119) := Lib.hid (by rw [HR.out]; simp [mostB, sw, hm3, hm1, hm2])
            simp only [sw, if_true, if_false, Bool.false_eq_true]
            go_wp2_with fail
            go_ret
            exact ⟨by rw [HR2.out]; rfl, HB3.out⟩
      · have HR2 : Hid (fbits true size last md = 18442240474082181119) := Lib.hid (by rw [HR.out]; simp [mostB, sw, hm3])
        simp only [sw, if_true, if_false, Bool.false_eq_true]
        go_wp2_with fail
        go_ret
        exact ⟨by rw [HR2.out]; rfl, HB3.out⟩

theorem float_any (neg : Bool) (size : Nat) (last md : Int) (hs : size ≤ 2 ^ 53) (hl : -1074 ≤ last) (hl2 : last ≤ 1000000000) (hn : last = -1074 ∨ 2 ^ 52 ≤ size) : FloatC neg size last md (fbits neg size last md) := by
  intro w hL
  by_cases h0 : size = 0
  · subst h0
    obtain rfl : last = -1074 := by omega
    have e : fbits neg 0 (-1074) md = sw neg 0 := by unfold fbits; rw [if_pos (by decide)]; rfl
    rw [e]
    exact float_zero neg md w
  · exact float_fits neg size last md w hL h0 hs hl hl2 hn

end Go.Proofs.YtjokpfgncmdomaaGreatDoor
