import Derived.Test.YtjokpfgncmdomaaGreatDoorX06
set_option linter.unusedSimpArgs false
set_option linter.unusedVariables false
/- div whole; QuoRem, Quo, NewInt: the walks -/
namespace Go.Proofs.YtjokpfgncmdomaaGreatDoor
open Go.RowKit Go.Sort

theorem div_any (A B : Option Addr) (n m c d : Nat) (x y : Nat) (w : World) (hx : RdE Wc 1 w (fun b => b < w.heap.size) A n (dig x)) (hy : RdE Wc 1 w (fun b => b < w.heap.size) B m (dig y)) (hn : n ≤ 10000000) (hm : m ≤ 10000000) (hy0 : y ≠ 0) :
    Calls Tryz.prog 100 #[.slice A n c, .slice B m d] w (DivPost x y w.heap.size w) := by
  by_cases h1 : x < y
  · exact div_lt A B n m c d x y w hx hy hn hm h1
  · have hle : y ≤ x := by omega
    have hmn : m ≤ n := by have h := dig_len_mono hle; rw [hx.num, hy.num] at h; exact h
    have hm0 : 0 < m := by rw [← hy.num]; exact List.length_pos_iff.2 (dig_pos hy0)
    by_cases h2 : n ≤ 2
    · exact div_two A B n m c d x y w hx hy h2 (by omega) hle
    · by_cases h3 : m = 1
      · subst h3
        exact div_one A B n c d x y w hx hy (by omega) hn (by omega) hle
      · obtain ⟨k, rfl⟩ : ∃ k, m = k + 2 := ⟨m - 2, by omega⟩
        obtain ⟨l, rfl⟩ : ∃ l, n = k + l := ⟨n - k, by omega⟩
        exact div_long A B k l c d x y w hx hy (by omega) (by omega) hn hle

theorem sgn_tdiv {x y : Int} (h : x.tdiv y ≠ 0) : (decide (x < 0) != decide (y < 0)) = decide (x.tdiv y < 0) := by
  have hn : (x.tdiv y).natAbs = x.natAbs / y.natAbs := Int.natAbs_tdiv x y
  rcases Int.natAbs_eq x with hx | hx <;> rcases Int.natAbs_eq y with hy | hy
  all_goals
    rw [hx, hy] at h ⊢
    try rw [Int.neg_tdiv] at h ⊢
    try rw [Int.tdiv_neg] at h ⊢
    have hq : ((x.natAbs : Int).tdiv (y.natAbs : Int)) = ((x.natAbs / y.natAbs : Nat) : Int) := rfl
    rw [hq] at h ⊢
    have hp : x.natAbs / y.natAbs ≠ 0 := by intro e; apply h; rw [e]; rfl
    have hx0 : x.natAbs ≠ 0 := by intro e; apply hp; rw [e, Nat.zero_div]
    have hy0 : y.natAbs ≠ 0 := by intro e; apply hp; rw [e, Nat.div_zero]
    generalize x.natAbs / y.natAbs = q at *
    generalize x.natAbs = a at *
    generalize y.natAbs = b at *
    have e1 : ¬ ((a : Int) < 0) := by omega
    have e2 : ¬ ((b : Int) < 0) := by omega
    have e3 : -(a : Int) < 0 := by omega
    have e4 : -(b : Int) < 0 := by omega
    have e5 : ¬ ((q : Int) < 0) := by omega
    have e6 : -(q : Int) < 0 := by omega
    simp [e1, e2, e3, e4, e5, e6] <;> omega
theorem sgn_tmod {x y : Int} (h : x.tmod y ≠ 0) : decide (x < 0) = decide (x.tmod y < 0) := by
  rcases Int.natAbs_eq x with hx | hx <;> rcases Int.natAbs_eq y with hy | hy
  all_goals
    rw [hx, hy] at h ⊢
    try rw [Int.neg_tmod] at h ⊢
    try rw [Int.tmod_neg] at h ⊢
    have hq : ((x.natAbs : Int).tmod (y.natAbs : Int)) = ((x.natAbs % y.natAbs : Nat) : Int) := rfl
    rw [hq] at h ⊢
    have hp : x.natAbs % y.natAbs ≠ 0 := by intro e; apply h; rw [e]; rfl
    have hx0 : x.natAbs ≠ 0 := by intro e; apply hp; rw [e, Nat.zero_mod]
    generalize x.natAbs % y.natAbs = q at *
    generalize x.natAbs = a at *
    have e1 : ¬ ((a : Int) < 0) := by omega
    have e3 : -(a : Int) < 0 := by omega
    have e5 : ¬ ((q : Int) < 0) := by omega
    have e6 : -(q : Int) < 0 := by omega
    simp [e1, e3, e5, e6] <;> omega

/-- QuoRem's answer -/
def QRPost (b o b4 o4 : Nat) (q r : Int) (w : World) (e : Ending) (w' : World) : Prop :=
  e = .returned (.tuple #[.pointer (some ⟨b, o, none⟩), .pointer (some ⟨b4, o4, none⟩)]) ∧ IntAt w' b o q ∧ IntAt w' b4 o4 r ∧ ∃ wm, Upd w wm b o ∧ Upd wm w' b4 o4

set_option maxRecDepth 100000 in
set_option maxHeartbeats 4000000 in
theorem quoRem_int (b o b1 o1 b2 o2 b4 o4 : Nat) (z x y r : Int) (w : World) (hz : IntAt w b o z) (hx : IntAt w b1 o1 x) (hy : IntAt w b2 o2 y) (hr : IntAt w b4 o4 r) (hne : b4 = b → o4 ≠ o)
    (hl : (dig x.natAbs).length ≤ 10000000) (hl' : (dig y.natAbs).length ≤ 10000000) (hy0 : y ≠ 0) :
    Calls Tryz.prog 50 #[.pointer (some ⟨b, o, none⟩), .pointer (some ⟨b1, o1, none⟩), .pointer (some ⟨b2, o2, none⟩), .pointer (some ⟨b4, o4, none⟩)] w (QRPost b o b4 o4 (x.tdiv y) (x.tmod y) w) := by
  obtain ⟨q, hq⟩ : ∃ q, q = x.tdiv y := ⟨_, rfl⟩
  obtain ⟨m, hm⟩ : ∃ m, m = x.tmod y := ⟨_, rfl⟩
  obtain ⟨A, n, c, s, HN, HS, h0, h1, hc, HR⟩ := hx.open
  rw [← HN.out] at hl
  obtain ⟨A', n', c', s', HN', HS', h0', h1', hc', HR'⟩ := hy.open
  rw [← HN'.out] at hl'
  have HZ := Lib.hid hz
  have HRR := Lib.hid hr
  have HNE := Lib.hid hne
  have HQ : Hid (q.natAbs = x.natAbs / y.natAbs) := Lib.hid (by rw [hq]; exact Int.natAbs_tdiv x y)
  have HM : Hid (m.natAbs = x.natAbs % y.natAbs) := Lib.hid (by rw [hm]; exact Int.natAbs_tmod x y)
  have HSQ : Hid (q ≠ 0 → (!(s == s')) = decide (q < 0)) := Lib.hid (by rw [hq]; intro h; rw [← sgn_tdiv h, HS.out, HS'.out]; rfl)
  have HSM : Hid (m ≠ 0 → s = decide (m < 0)) := Lib.hid (by rw [hm]; intro h; rw [HS.out]; exact sgn_tmod h)
  rw [← hq, ← hm]
  clear hq hm
  have hya : y.natAbs ≠ 0 := by omega
  clear hz hx hy hr hne
  go_enter Tryz.func50, Tryz.ntmps50
  go_wp2_with fail
  go_quiet (fail)
  go_wp2_with fail
  refine wp_region_held_drew (S := (fun w' => w'.cell? ⟨b1, o1, none⟩ = some (.bool s) ∧ w'.cell? ⟨b1, o1 + 1, none⟩ = some (.slice A n c) ∧ w'.cell? ⟨b2, o2, none⟩ = some (.bool s') ∧ w'.cell? ⟨b2, o2 + 1, none⟩ = some (.slice A' n' c'))) (by kernel_rfl) ?_ (fun hHeld => ?_)
  · first | exact True.intro | ((try dsimp only); go_keep)
  refine tkH (i := 0) (v := ?_) rfl (by kernel_rfl) (Or.inl ⟨by kernel_rfl, ?_⟩) (by assumption) ?_
  rotate_left 1
  · (intro w hSw; (try dsimp only at hSw); go_simp; try with_reducible rfl)
  try simp only [lyA, lyB, lyC, Act.put, lyD, lyE, lyF]
  refine tkH (i := 1) (v := ?_) rfl (by kernel_rfl) (Or.inl ⟨by kernel_rfl, ?_⟩) (by assumption) ?_
  rotate_left 1
  · (intro w hSw; (try dsimp only at hSw); go_simp; try with_reducible rfl)
  try simp only [lyA, lyB, lyC, Act.put, lyD, lyE, lyF]
  refine tkH (i := 2) (v := ?_) rfl (by kernel_rfl) (Or.inl ⟨by kernel_rfl, ?_⟩) (by assumption) ?_
  rotate_left 1
  · (intro w hSw; (try dsimp only at hSw); go_simp; try with_reducible rfl)
  try simp only [lyA, lyB, lyC, Act.put, lyD, lyE, lyF]
  refine tkH (i := 3) (v := ?_) rfl (by kernel_rfl) (Or.inl ⟨by kernel_rfl, ?_⟩) (by assumption) ?_
  rotate_left 1
  · (intro w hSw; (try dsimp only at hSw); go_simp; try with_reducible rfl)
  try simp only [lyA, lyB, lyC, Act.put, lyD, lyE, lyF]
  refine tkH (i := 4) (v := ?_) rfl (by kernel_rfl) (Or.inl ⟨by kernel_rfl, ?_⟩) (by assumption) ?_
  rotate_left 1
  · (intro w hSw; (try dsimp only at hSw); go_simp; try with_reducible rfl)
  try simp only [lyA, lyB, lyC, Act.put, lyD, lyE, lyF]
  refine tkH (i := 5) (v := ?_) rfl (by kernel_rfl) (Or.inl ⟨by kernel_rfl, ?_⟩) (by assumption) ?_
  rotate_left 1
  · (intro w hSw; (try dsimp only at hSw); go_simp; try with_reducible rfl)
  try simp only [lyA, lyB, lyC, Act.put, lyD, lyE, lyF]
  refine tkH (i := 6) (v := ?_) rfl (by kernel_rfl) (Or.inl ⟨by kernel_rfl, ?_⟩) (by assumption) ?_
  rotate_left 1
  · (intro w hSw; (try dsimp only at hSw); go_simp; try with_reducible rfl)
  try simp only [lyA, lyB, lyC, Act.put, lyD, lyE, lyF]
  refine tkH (i := 7) (v := ?_) rfl (by kernel_rfl) (Or.inl ⟨by kernel_rfl, ?_⟩) (by assumption) ?_
  rotate_left 1
  · (intro w hSw; (try dsimp only at hSw); go_simp; try with_reducible rfl)
  try simp only [lyA, lyB, lyC, Act.put, lyD, lyE, lyF]
  refine wpAnyH_ready (rs := [8]) (by kernel_rfl) (by simp) ?_
  refine AllReadyH.cons rfl (fun K hK => ?_) AllReadyH.nil
  go_simp
  (refine (div_any _ _ _ _ _ _ x.natAbs y.natAbs ((w.drewN nq).drew) (HR.out.keep (fun _ _ => rfl)) (HR'.out.keep (fun _ _ => rfl)) hl hl' hya).mono ?_; rintro e w1 ⟨A1, c1, A2, c2, rfl, hc1, hc2, hr1, hr2, hb1⟩; have k1 := bat hb1 hHeld.1; have k2 := bat hb1 hHeld.2.1; have k3 := bat hb1 hHeld.2.2.1; have k4 := bat hb1 hHeld.2.2.2; have HR1 := Lib.hid hr1; have HR2 := Lib.hid hr2; have HB1 : Hid (Below w.heap.size w w1) := Lib.hid (((below_drewN (Below.refl w.heap.size w) nq).drew).trans hb1); clear hr1 hr2 hb1)
  try go_wp2_with fail
  refine hK.out _ _ ?_ (fun hHeld => ?_)
  · first | exact True.intro | ((try dsimp only); go_keep)
  clear hK K
  try simp only [lyA, lyB, lyC, Act.put, lyD, lyE, lyF]
  refine tkH (i := 9) (v := ?_) rfl (by kernel_rfl) (Or.inl ⟨by kernel_rfl, ?_⟩) (by assumption) ?_
  rotate_left 1
  · (intro w hSw; (try dsimp only at hSw); go_simp; try with_reducible rfl)
  try simp only [lyA, lyB, lyC, Act.put, lyD, lyE, lyF]
  refine tkH (i := 10) (v := ?_) rfl (by kernel_rfl) (Or.inl ⟨by kernel_rfl, ?_⟩) (by assumption) ?_
  rotate_left 1
  · (intro w hSw; (try dsimp only at hSw); go_simp; try with_reducible rfl)
  try simp only [lyA, lyB, lyC, Act.put, lyD, lyE, lyF]
  refine tkH (i := 11) (v := ?_) rfl (by kernel_rfl) (Or.inl ⟨by kernel_rfl, ?_⟩) (by assumption) ?_
  rotate_left 1
  · (intro w hSw; (try dsimp only at hSw); go_simp; try with_reducible rfl)
  try simp only [lyA, lyB, lyC, Act.put, lyD, lyE, lyF]
  refine tkH (i := 12) (v := ?_) rfl (by kernel_rfl) (Or.inl ⟨by kernel_rfl, ?_⟩) (by assumption) ?_
  rotate_left 1
  · (intro w hSw; (try dsimp only at hSw); go_simp; try with_reducible rfl)
  try simp only [lyA, lyB, lyC, Act.put, lyD, lyE, lyF]
  refine tkH (i := 13) (v := ?_) rfl (by kernel_rfl) (Or.inl ⟨by kernel_rfl, ?_⟩) (by assumption) ?_
  rotate_left 1
  · (intro w hSw; (try dsimp only at hSw); go_simp; try with_reducible rfl)
  try simp only [lyA, lyB, lyC, Act.put, lyD, lyE, lyF]
  refine wpAnyH_done (by kernel_rfl) ?_ _
  rw [← HQ.out] at hc1
  rw [← HM.out] at hc2
  have HR1' : Hid (RdE Wc 1 w1 (fun d => d < w1.heap.size) A1 (dig q.natAbs).length (dig q.natAbs)) := Lib.hid (by rw [HQ.out]; exact HR1.out.imp fun d hd => hd.2)
  have HR2' : Hid (RdE Wc 1 w1 (fun d => d < w1.heap.size) A2 (dig m.natAbs).length (dig m.natAbs)) := Lib.hid (by rw [HM.out]; exact HR2.out.imp fun d hd => hd.2)
  rw [← HQ.out, ← HM.out]
  clear k1 k2 k3 k4 hHeld HR1 HR2
  go_wp2_with fail
  refine (give_int _ _ q z (!(s == s')) A1 _ c1 w1 (HZ.out.below HB1.out) rfl hc1 HR1'.out (sgn_and rfl fun h => HSQ.out h)).mono ?_
  rintro e w2 ⟨rfl, hi2, hu2⟩
  have HI2 := Lib.hid hi2
  have HU2 := Lib.hid hu2
  clear hi2 hu2
  go_wp2_with fail
  refine (give_int _ _ m r s A2 _ c2 w2 ((HRR.out.below HB1.out).upd HU2.out HNE.out) rfl hc2 ((HU2.out.words HR2'.out).imp fun d hd => Nat.lt_of_lt_of_le hd HU2.out.size) (sgn_and rfl fun h => HSM.out h)).mono ?_
  rintro e w3 ⟨rfl, hi3, hu3⟩
  have HI3 := Lib.hid hi3
  have HU3 := Lib.hid hu3
  clear hi3 hu3
  go_wp2_with fail
  go_ret2
  exact ⟨rfl, HI2.out.upd HU3.out (fun e => fun e2 => HNE.out e.symm e2.symm), HI3.out, w2, Upd.after HB1.out HU2.out HZ.out.lt, HU3.out⟩


end Go.Proofs.YtjokpfgncmdomaaGreatDoor

/- new, NewInt, Quo: the walks -/
namespace Go.Proofs.YtjokpfgncmdomaaGreatDoor
open Go.RowKit Go.Sort
theorem new_intAt (w : World) : IntAt (w.alloc (.cells #[.bool false, .slice none 0 0] 68)) w.heap.size 0 0 :=
  IntAt.of_cells (new_cell w _ _ 0 _ rfl) (new_cell w _ _ 1 _ rfl) (by simp) rfl (Nat.le_refl _) (RdE.nil ..) (by simp [go_sem]) (by simp [go_sem])

set_option maxRecDepth 100000 in
set_option maxHeartbeats 4000000 in
theorem newInt_int (x : Int) (w : World) (hx : -9223372036854775808 ≤ x) (hx2 : x ≤ 9223372036854775807) :
    Calls Tryz.prog 88 #[.int .i64 x] w fun e w' => ∃ b, e = .returned (.pointer (some ⟨b, 0, none⟩)) ∧ w.heap.size ≤ b ∧ b < w'.heap.size ∧ IntAt w' b 0 x ∧ Below w.heap.size w w' := by
  go_enter Tryz.func88, Tryz.ntmps88
  go_wp2_with fail
  refine (setI_int _ 0 0 x _ (new_intAt w) hx hx2).mono ?_
  rintro e w1 ⟨rfl, hi1, hu1⟩
  have HI1 := Lib.hid hi1
  have HU1 := Lib.hid hu1
  clear hi1 hu1
  go_wp2_with fail
  go_ret
  exact ⟨_, rfl, Nat.le_refl _, HI1.out.lt, HI1.out, (below1 w _).trans (HU1.out.toB.below (Nat.le_refl _) (by simp))⟩

end Go.Proofs.YtjokpfgncmdomaaGreatDoor

/- low, of (numbers not below 0): the walks -/
namespace Go.Proofs.YtjokpfgncmdomaaGreatDoor
open Go.RowKit Go.Sort

/-- the words of N, and noughts, n in all -/
def padded (N n : Nat) : List Nat := dig N ++ List.replicate (n - (dig N).length) 0
theorem padded_len {N n : Nat} (h : (dig N).length ≤ n) : (padded N n).length = n := by simp [padded]; omega
theorem padded_nv (N n : Nat) : nv (padded N n) = N := by
  have hz : nv (List.replicate (n - (dig N).length) 0) = 0 := nv_zero fun i x hx => (List.mem_replicate.1 (List.mem_of_getElem? hx)).2
  rw [padded, nv_append, nv_dig, hz, Nat.mul_zero, Nat.add_zero]
theorem padded_wds (N n : Nat) : Wds (padded N n) := (dig_wds N).append fun x hx => by rw [(List.mem_replicate.1 hx).2]; decide
theorem padded_zero {N n i x : Nat} (hi : (dig N).length ≤ i) (h : (padded N n)[i]? = some x) : x = 0 := by
  rw [padded, List.getElem?_append_right hi] at h
  exact (List.mem_replicate.1 (List.mem_of_getElem? h)).2

set_option maxRecDepth 100000 in
set_option maxHeartbeats 2000000 in
theorem low_int (b o n : Nat) (x : Int) (w : World) (hx : IntAt w b o x) (hx0 : 0 ≤ x) (hn : (dig x.natAbs).length < n) (hn2 : n ≤ 100000000) :
    Calls Tryz.prog 102 #[.pointer (some ⟨b, o, none⟩), .int .i64 n] w fun e w' => e = .returned (.slice (some ⟨w.heap.size, 0, none⟩) n n) ∧
      w'.ownsRow w.heap.size 119 1 (.slice (some ⟨w.heap.size, 0, none⟩) n n) n ((padded x.natAbs n).flatMap Wc) ∧ Below w.heap.size w w' := by
  obtain ⟨i0, hi0, hz0, hz1, hz2⟩ := info_parts' info_u32
  have hlt := hx.lt
  obtain ⟨A, m, c, s, HN, HS, h0, h1, hc, HR⟩ := hx.open
  rw [← HN.out] at hn
  have HR' : Hid (RdE Wc 1 w (fun d => d < w.heap.size) A m (dig x.natAbs)) := Lib.hid (HR.out.keep (fun _ _ => rfl))
  obtain rfl : s = false := by rw [HS.out]; simp; omega
  clear hx
  have hszk : (Tryz.prog.info? 119).map (·.size) = some 1 := by rw [hi0]; simp [hz1]
  have HSZK := Lib.hid hszk
  have C1 : Hid (((dig x.natAbs).flatMap Wc).length = Nat.min m n) := Lib.hid (by rw [flat_len Wc 1 Wc.clen, Nat.mul_one, ← HN.out]; exact (Nat.min_eq_left (by omega)).symm)
  have C3 : Hid (0 + ((dig x.natAbs).flatMap Wc).length ≤ ((List.replicate n 0).flatMap Wc).length) := Lib.hid (by rw [flat_len Wc 1 Wc.clen, flat_len Wc 1 Wc.clen, List.length_replicate, ← HN.out]; omega)
  clear hszk
  go_enter Tryz.func102, Tryz.ntmps102
  go_wp2_with (first | (refine wpList_copy_splice rfl _ _ _ _ rfl 119 Tryz.underlying66 HSZK.out _ _ n n _ c (by rfl) (by rfl) w.heap.size 0 ((List.replicate n 0).flatMap Wc) _ (own_blk HO3.out).1 ((dig x.natAbs).flatMap Wc) C1.out (fun hp => ⟨rfl, rd_src HR3.out.rd hp⟩) C3.out (wc_one _) w.heap.size w HB3.out (Nat.le_refl _) ?_; intro w5 hg5 hb5; have k3 := bat hb5 h0; have HG5 := Lib.hid hg5.out; have HB5 := Lib.hid hb5; clear hg5 hb5) | (at_make; go_must (refine wpList_make_full _ rfl _ _ _ rfl w.heap.size 119 i0 _ 1 Tryz.underlying66 hi0 hz0 hz1 .i64 .i64 _ _ n rfl rfl (by omega) (by omega) (by rw [hz2]; omega) (by simp only [maxLen]; omega) (Nat.le_refl _) ?_); intro w3 hown3 hg3; have hb3 : Below w.heap.size w w3 := below_of_grown hg3 (fun g hg => by cases hg); have k1 := bat hb3 h1; have HO3 : Hid (w3.ownsRow w.heap.size 119 1 (.slice (some ⟨w.heap.size, 0, none⟩) n n) n ((List.replicate n 0).flatMap Wc)) := Lib.hid (by rw [made_u32] at hown3; exact hown3); have HB3 := Lib.hid hb3; have HR3 := Lib.hid (HR'.out.keep (Keeps.below hb3 (fun b hb => hb))); clear hown3 hg3 hb3))
  go_ret
  have hg5 := HG5.out
  rw [splice_wc (by rw [← HN.out]; omega)] at hg5
  exact ⟨rfl, own_of_blk hg5 (by rw [flat_len Wc 1 Wc.clen, Nat.mul_one]; exact padded_len (by rw [← HN.out]; omega)) (Nat.le_refl _) (by simp only [maxLen]; omega), HB5.out⟩

set_option maxRecDepth 100000 in
set_option maxHeartbeats 2000000 in
theorem of_int (b o n B g : Nat) (z : Int) (xs : List Nat) (w : World) (hz : IntAt w b o z) (ho : w.ownsRow B 119 1 (.slice (some ⟨g, 0, none⟩) (n + 1) (n + 1)) (n + 1) (xs.flatMap Wc)) (hw : Wds xs) (ht : xs[n]? = some 0) (hn : n ≤ 100000000) :
    Calls Tryz.prog 103 #[.pointer (some ⟨b, o, none⟩), .slice (some ⟨g, 0, none⟩) (n + 1) (n + 1)] w fun e w' => e = .returned (.pointer (some ⟨b, o, none⟩)) ∧ IntAt w' b o (nv xs : Int) ∧ Upd w w' b o := by
  have q0 := own_wc ho ht
  have HZ := Lib.hid hz
  have HO := Lib.hid ho
  have HW := Lib.hid hw
  clear hz ho hw ht
  go_enter Tryz.func103, Tryz.ntmps103
  go_wp2_with fail
  refine (trim_own B g (n + 1) (n + 1) xs _ HO.out HW.out (by omega) (Nat.le_refl _)).mono ?_
  rintro e w1 ⟨rfl, hl1, hr1, hb1⟩
  have HR1 := Lib.hid hr1
  have HB1 := Lib.hid hb1
  clear hr1 hb1
  go_wp2_with fail
  refine (give_int _ _ (nv xs : Int) z false _ _ _ w1 (HZ.out.below HB1.out) rfl hl1 (HR1.out.imp fun d hd => hd.2) (by simp)).mono ?_
  rintro e w2 ⟨rfl, hi2, hu2⟩
  have HI2 := Lib.hid hi2
  have HU2 := Lib.hid hu2
  clear hi2 hu2
  go_wp2_with fail
  go_ret
  exact ⟨rfl, HI2.out, Upd.after HB1.out HU2.out HZ.out.lt⟩

end Go.Proofs.YtjokpfgncmdomaaGreatDoor
