import Derived.Test.YtfepmbpcdfdlhaaX05
set_option linter.unusedSimpArgs false
set_option linter.unusedVariables false
/- div whole; QuoRem, Quo, NewInt: the walks -/
namespace Go.Proofs.Ytfepmbpcdfdlhaa
open Go.RowKit Go.Sort

theorem div_any (A B : Option Addr) (n m c d : Nat) (x y : Nat) (w : World) (hx : RdE Wc 1 w (fun b => b < w.heap.size) A n (dig x)) (hy : RdE Wc 1 w (fun b => b < w.heap.size) B m (dig y)) (hn : n ≤ 10000000) (hm : m ≤ 10000000) (hy0 : y ≠ 0) :
    Calls Try.prog 107 #[.slice A n c, .slice B m d] w (DivPost x y w.heap.size w) := by
  by_cases h1 : x < y
  · exact div_lt A B n m c d x y w hx hy hn hm h1
  · have hle : y ≤ x := by omega
    have hmn : m ≤ n := by have h := dig_len_mono hle; rw [hx.num, hy.num] at h; exact h
    have hm0 : 0 < m := by rw [← hy.num]; exact List.length_pos_iff.2 (dig_pos hy0)
    by_cases h2 : n ≤ 2
    · exact div_two A B n m c d x y w hx hy h2 (by omega) hle
    · by_cases h3 : m = 1
      · subst h3
        exact div_one A B n c d x y w hx hy (by omega) hn (by omega) hle
      · obtain ⟨k, rfl⟩ : ∃ k, m = k + 2 := ⟨m - 2, by omega⟩
        obtain ⟨l, rfl⟩ : ∃ l, n = k + l := ⟨n - k, by omega⟩
        exact div_long A B k l c d x y w hx hy (by omega) (by omega) hn hle

theorem sgn_tdiv {x y : Int} (h : x.tdiv y ≠ 0) : (decide (x < 0) != decide (y < 0)) = decide (x.tdiv y < 0) := by
  have hn : (x.tdiv y).natAbs = x.natAbs / y.natAbs := Int.natAbs_tdiv x y
  rcases Int.natAbs_eq x with hx | hx <;> rcases Int.natAbs_eq y with hy | hy
  all_goals
    rw [hx, hy] at h ⊢
    try rw [Int.neg_tdiv] at h ⊢
    try rw [Int.tdiv_neg] at h ⊢
    have hq : ((x.natAbs : Int).tdiv (y.natAbs : Int)) = ((x.natAbs / y.natAbs : Nat) : Int) := rfl
    rw [hq] at h ⊢
    have hp : x.natAbs / y.natAbs ≠ 0 := by intro e; apply h; rw [e]; rfl
    have hx0 : x.natAbs ≠ 0 := by intro e; apply hp; rw [e, Nat.zero_div]
    have hy0 : y.natAbs ≠ 0 := by intro e; apply hp; rw [e, Nat.div_zero]
    generalize x.natAbs / y.natAbs = q at *
    generalize x.natAbs = a at *
    generalize y.natAbs = b at *
    have e1 : ¬ ((a : Int) < 0) := by omega
    have e2 : ¬ ((b : Int) < 0) := by omega
    have e3 : -(a : Int) < 0 := by omega
    have e4 : -(b : Int) < 0 := by omega
    have e5 : ¬ ((q : Int) < 0) := by omega
    have e6 : -(q : Int) < 0 := by omega
    simp [e1, e2, e3, e4, e5, e6] <;> omega
theorem sgn_tmod {x y : Int} (h : x.tmod y ≠ 0) : decide (x < 0) = decide (x.tmod y < 0) := by
  rcases Int.natAbs_eq x with hx | hx <;> rcases Int.natAbs_eq y with hy | hy
  all_goals
    rw [hx, hy] at h ⊢
    try rw [Int.neg_tmod] at h ⊢
    try rw [Int.tmod_neg] at h ⊢
    have hq : ((x.natAbs : Int).tmod (y.natAbs : Int)) = ((x.natAbs % y.natAbs : Nat) : Int) := rfl
    rw [hq] at h ⊢
    have hp : x.natAbs % y.natAbs ≠ 0 := by intro e; apply h; rw [e]; rfl
    have hx0 : x.natAbs ≠ 0 := by intro e; apply hp; rw [e, Nat.zero_mod]
    generalize x.natAbs % y.natAbs = q at *
    generalize x.natAbs = a at *
    have e1 : ¬ ((a : Int) < 0) := by omega
    have e3 : -(a : Int) < 0 := by omega
    have e5 : ¬ ((q : Int) < 0) := by omega
    have e6 : -(q : Int) < 0 := by omega
    simp [e1, e3, e5, e6] <;> omega

/-- QuoRem's answer -/
def QRPost (b o b4 o4 : Nat) (q r : Int) (w : World) (e : Ending) (w' : World) : Prop :=
  e = .returned (.tuple #[.pointer (some ⟨b, o, none⟩), .pointer (some ⟨b4, o4, none⟩)]) ∧ IntAt w' b o q ∧ IntAt w' b4 o4 r ∧ ∃ wm, Upd w wm b o ∧ Upd wm w' b4 o4

set_option maxRecDepth 100000 in
set_option maxHeartbeats 4000000 in
theorem quoRem_int (b o b1 o1 b2 o2 b4 o4 : Nat) (z x y r : Int) (w : World) (hz : IntAt w b o z) (hx : IntAt w b1 o1 x) (hy : IntAt w b2 o2 y) (hr : IntAt w b4 o4 r) (hne : b4 = b → o4 ≠ o)
    (hl : (dig x.natAbs).length ≤ 10000000) (hl' : (dig y.natAbs).length ≤ 10000000) (hy0 : y ≠ 0) :
    Calls Try.prog 104 #[.pointer (some ⟨b, o, none⟩), .pointer (some ⟨b1, o1, none⟩), .pointer (some ⟨b2, o2, none⟩), .pointer (some ⟨b4, o4, none⟩)] w (QRPost b o b4 o4 (x.tdiv y) (x.tmod y) w) := by
  obtain ⟨q, hq⟩ : ∃ q, q = x.tdiv y := ⟨_, rfl⟩
  obtain ⟨m, hm⟩ : ∃ m, m = x.tmod y := ⟨_, rfl⟩
  obtain ⟨A, n, c, s, HN, HS, h0, h1, hc, HR⟩ := hx.open
  rw [← HN.out] at hl
  obtain ⟨A', n', c', s', HN', HS', h0', h1', hc', HR'⟩ := hy.open
  rw [← HN'.out] at hl'
  have HZ := Lib.hid hz
  have HRR := Lib.hid hr
  have HNE := Lib.hid hne
  have HQ : Hid (q.natAbs = x.natAbs / y.natAbs) := Lib.hid (by rw [hq]; exact Int.natAbs_tdiv x y)
  have HM : Hid (m.natAbs = x.natAbs % y.natAbs) := Lib.hid (by rw [hm]; exact Int.natAbs_tmod x y)
  have HSQ : Hid (q ≠ 0 → (!(s == s')) = decide (q < 0)) := Lib.hid (by rw [hq]; intro h; rw [← sgn_tdiv h, HS.out, HS'.out]; rfl)
  have HSM : Hid (m ≠ 0 → s = decide (m < 0)) := Lib.hid (by rw [hm]; intro h; rw [HS.out]; exact sgn_tmod h)
  rw [← hq, ← hm]
  clear hq hm
  have hya : y.natAbs ≠ 0 := by omega
  clear hz hx hy hr hne
  go_enter Try.func104, Try.ntmps104
  go_wp2_with fail
  go_quiet (fail)
  go_wp2_with fail
  refine wp_region_held_drew (S := (fun w' => w'.cell? ⟨b1, o1, none⟩ = some (.bool s) ∧ w'.cell? ⟨b1, o1 + 1, none⟩ = some (.slice A n c) ∧ w'.cell? ⟨b2, o2, none⟩ = some (.bool s') ∧ w'.cell? ⟨b2, o2 + 1, none⟩ = some (.slice A' n' c'))) (by kernel_rfl) ?_ (fun hHeld => ?_)
  · first | exact True.intro | ((try dsimp only); go_keep)
  refine tkH (i := 0) (v := ?_) rfl (by kernel_rfl) (Or.inl ⟨by kernel_rfl, ?_⟩) (by assumption) ?_
  rotate_left 1
  · (intro w hSw; (try dsimp only at hSw); go_simp; try with_reducible rfl)
  try simp only [lyA, lyB, lyC, Act.put, lyD, lyE, lyF]
  refine tkH (i := 1) (v := ?_) rfl (by kernel_rfl) (Or.inl ⟨by kernel_rfl, ?_⟩) (by assumption) ?_
  rotate_left 1
  · (intro w hSw; (try dsimp only at hSw); go_simp; try with_reducible rfl)
  try simp only [lyA, lyB, lyC, Act.put, lyD, lyE, lyF]
  refine tkH (i := 2) (v := ?_) rfl (by kernel_rfl) (Or.inl ⟨by kernel_rfl, ?_⟩) (by assumption) ?_
  rotate_left 1
  · (intro w hSw; (try dsimp only at hSw); go_simp; try with_reducible rfl)
  try simp only [lyA, lyB, lyC, Act.put, lyD, lyE, lyF]
  refine tkH (i := 3) (v := ?_) rfl (by kernel_rfl) (Or.inl ⟨by kernel_rfl, ?_⟩) (by assumption) ?_
  rotate_left 1
  · (intro w hSw; (try dsimp only at hSw); go_simp; try with_reducible rfl)
  try simp only [lyA, lyB, lyC, Act.put, lyD, lyE, lyF]
  refine tkH (i := 4) (v := ?_) rfl (by kernel_rfl) (Or.inl ⟨by kernel_rfl, ?_⟩) (by assumption) ?_
  rotate_left 1
  · (intro w hSw; (try dsimp only at hSw); go_simp; try with_reducible rfl)
  try simp only [lyA, lyB, lyC, Act.put, lyD, lyE, lyF]
  refine tkH (i := 5) (v := ?_) rfl (by kernel_rfl) (Or.inl ⟨by kernel_rfl, ?_⟩) (by assumption) ?_
  rotate_left 1
  · (intro w hSw; (try dsimp only at hSw); go_simp; try with_reducible rfl)
  try simp only [lyA, lyB, lyC, Act.put, lyD, lyE, lyF]
  refine tkH (i := 6) (v := ?_) rfl (by kernel_rfl) (Or.inl ⟨by kernel_rfl, ?_⟩) (by assumption) ?_
  rotate_left 1
  · (intro w hSw; (try dsimp only at hSw); go_simp; try with_reducible rfl)
  try simp only [lyA, lyB, lyC, Act.put, lyD, lyE, lyF]
  refine tkH (i := 7) (v := ?_) rfl (by kernel_rfl) (Or.inl ⟨by kernel_rfl, ?_⟩) (by assumption) ?_
  rotate_left 1
  · (intro w hSw; (try dsimp only at hSw); go_simp; try with_reducible rfl)
  try simp only [lyA, lyB, lyC, Act.put, lyD, lyE, lyF]
  refine wpAnyH_ready (rs := [8]) (by kernel_rfl) (by simp) ?_
  refine AllReadyH.cons rfl (fun K hK => ?_) AllReadyH.nil
  go_simp
  (refine (div_any _ _ _ _ _ _ x.natAbs y.natAbs ((w.drewN nq).drew) (HR.out.keep (fun _ _ => rfl)) (HR'.out.keep (fun _ _ => rfl)) hl hl' hya).mono ?_; rintro e w1 ⟨A1, c1, A2, c2, rfl, hc1, hc2, hr1, hr2, hb1⟩; have k1 := bat hb1 hHeld.1; have k2 := bat hb1 hHeld.2.1; have k3 := bat hb1 hHeld.2.2.1; have k4 := bat hb1 hHeld.2.2.2; have HR1 := Lib.hid hr1; have HR2 := Lib.hid hr2; have HB1 : Hid (Below w.heap.size w w1) := Lib.hid (((below_drewN (Below.refl w.heap.size w) nq).drew).trans hb1); clear hr1 hr2 hb1)
  try go_wp2_with fail
  refine hK.out _ _ ?_ (fun hHeld => ?_)
  · first | exact True.intro | ((try dsimp only); go_keep)
  clear hK K
  try simp only [lyA, lyB, lyC, Act.put, lyD, lyE, lyF]
  refine tkH (i := 9) (v := ?_) rfl (by kernel_rfl) (Or.inl ⟨by kernel_rfl, ?_⟩) (by assumption) ?_
  rotate_left 1
  · (intro w hSw; (try dsimp only at hSw); go_simp; try with_reducible rfl)
  try simp only [lyA, lyB, lyC, Act.put, lyD, lyE, lyF]
  refine tkH (i := 10) (v := ?_) rfl (by kernel_rfl) (Or.inl ⟨by kernel_rfl, ?_⟩) (by assumption) ?_
  rotate_left 1
  · (intro w hSw; (try dsimp only at hSw); go_simp; try with_reducible rfl)
  try simp only [lyA, lyB, lyC, Act.put, lyD, lyE, lyF]
  refine tkH (i := 11) (v := ?_) rfl (by kernel_rfl) (Or.inl ⟨by kernel_rfl, ?_⟩) (by assumption) ?_
  rotate_left 1
  · (intro w hSw; (try dsimp only at hSw); go_simp; try with_reducible rfl)
  try simp only [lyA, lyB, lyC, Act.put, lyD, lyE, lyF]
  refine tkH (i := 12) (v := ?_) rfl (by kernel_rfl) (Or.inl ⟨by kernel_rfl, ?_⟩) (by assumption) ?_
  rotate_left 1
  · (intro w hSw; (try dsimp only at hSw); go_simp; try with_reducible rfl)
  try simp only [lyA, lyB, lyC, Act.put, lyD, lyE, lyF]
  refine tkH (i := 13) (v := ?_) rfl (by kernel_rfl) (Or.inl ⟨by kernel_rfl, ?_⟩) (by assumption) ?_
  rotate_left 1
  · (intro w hSw; (try dsimp only at hSw); go_simp; try with_reducible rfl)
  try simp only [lyA, lyB, lyC, Act.put, lyD, lyE, lyF]
  refine wpAnyH_done (by kernel_rfl) ?_ _
  rw [← HQ.out] at hc1
  rw [← HM.out] at hc2
  have HR1' : Hid (RdE Wc 1 w1 (fun d => d < w1.heap.size) A1 (dig q.natAbs).length (dig q.natAbs)) := Lib.hid (by rw [HQ.out]; exact HR1.out.imp fun d hd => hd.2)
  have HR2' : Hid (RdE Wc 1 w1 (fun d => d < w1.heap.size) A2 (dig m.natAbs).length (dig m.natAbs)) := Lib.hid (by rw [HM.out]; exact HR2.out.imp fun d hd => hd.2)
  rw [← HQ.out, ← HM.out]
  clear k1 k2 k3 k4 hHeld HR1 HR2
  go_wp2_with fail
  refine (give_int _ _ q z (!(s == s')) A1 _ c1 w1 (HZ.out.below HB1.out) rfl hc1 HR1'.out (sgn_and rfl fun h => HSQ.out h)).mono ?_
  rintro e w2 ⟨rfl, hi2, hu2⟩
  have HI2 := Lib.hid hi2
  have HU2 := Lib.hid hu2
  clear hi2 hu2
  go_wp2_with fail
  refine (give_int _ _ m r s A2 _ c2 w2 ((HRR.out.below HB1.out).upd HU2.out HNE.out) rfl hc2 ((HU2.out.words HR2'.out).imp fun d hd => Nat.lt_of_lt_of_le hd HU2.out.size) (sgn_and rfl fun h => HSM.out h)).mono ?_
  rintro e w3 ⟨rfl, hi3, hu3⟩
  have HI3 := Lib.hid hi3
  have HU3 := Lib.hid hu3
  clear hi3 hu3
  go_wp2_with fail
  go_ret2
  exact ⟨rfl, HI2.out.upd HU3.out (fun e => fun e2 => HNE.out e.symm e2.symm), HI3.out, w2, Upd.after HB1.out HU2.out HZ.out.lt, HU3.out⟩


end Go.Proofs.Ytfepmbpcdfdlhaa

/- new, NewInt, Quo: the walks -/
namespace Go.Proofs.Ytfepmbpcdfdlhaa
open Go.RowKit Go.Sort

theorem Upd.plus {w w1 w2 : World} {b o b' o' : Nat} (h : Upd w w1 b o) (k : Upd w1 w2 b' o') (hb : w.heap.size ≤ b') (hl : b < w.heap.size) : Upd w w2 b o :=
  ⟨k.os.trans h.os, k.tape.trans h.tape, k.output.trans h.output, Nat.le_trans h.size k.size, fun i hi hne => (k.blk i (by have := h.size; omega) (by omega)).trans (h.blk i hi hne),
    fun j h1 h2 => (World.cell?_of_block (a := ⟨b, j, none⟩) (k.blk b (by have := h.size; omega) (by omega))).trans (h.cell j h1 h2), fun j => (World.frozen?_of_block (a := ⟨b, j, none⟩) (k.blk b (by have := h.size; omega) (by omega))).trans (h.fz j), h.old0, h.old1⟩
theorem new_intAt (w : World) : IntAt (w.alloc (.cells #[.bool false, .slice none 0 0] 80)) w.heap.size 0 0 :=
  IntAt.of_cells (new_cell w _ _ 0 _ rfl) (new_cell w _ _ 1 _ rfl) (by simp) rfl (Nat.le_refl _) (RdE.nil ..) (by simp [go_sem]) (by simp [go_sem])

set_option maxRecDepth 100000 in
set_option maxHeartbeats 4000000 in
theorem newInt_int (x : Int) (w : World) (hx : -9223372036854775808 ≤ x) (hx2 : x ≤ 9223372036854775807) :
    Calls Try.prog 44 #[.int .i64 x] w fun e w' => ∃ b, e = .returned (.pointer (some ⟨b, 0, none⟩)) ∧ w.heap.size ≤ b ∧ b < w'.heap.size ∧ IntAt w' b 0 x ∧ Below w.heap.size w w' := by
  go_enter Try.func44, Try.ntmps44
  go_wp2_with fail
  refine (setI_int _ 0 0 x _ (new_intAt w) hx hx2).mono ?_
  rintro e w1 ⟨rfl, hi1, hu1⟩
  have HI1 := Lib.hid hi1
  have HU1 := Lib.hid hu1
  clear hi1 hu1
  go_wp2_with fail
  go_ret
  exact ⟨_, rfl, Nat.le_refl _, HI1.out.lt, HI1.out, (below1 w _).trans (HU1.out.toB.below (Nat.le_refl _) (by simp))⟩

set_option maxRecDepth 100000 in
set_option maxHeartbeats 4000000 in
theorem quo_int (b o b1 o1 b2 o2 : Nat) (z x y : Int) (w : World) (hz : IntAt w b o z) (hx : IntAt w b1 o1 x) (hy : IntAt w b2 o2 y)
    (hl : (dig x.natAbs).length ≤ 10000000) (hl' : (dig y.natAbs).length ≤ 10000000) (hy0 : y ≠ 0) :
    Calls Try.prog 79 #[.pointer (some ⟨b, o, none⟩), .pointer (some ⟨b1, o1, none⟩), .pointer (some ⟨b2, o2, none⟩)] w (IntPost b o (x.tdiv y) w) := by
  have HZ := Lib.hid hz
  have HX := Lib.hid hx
  have HY := Lib.hid hy
  clear hz hx hy
  go_enter Try.func79, Try.ntmps79
  go_wp2_with fail
  refine (quoRem_int b o b1 o1 b2 o2 w.heap.size 0 z x y 0 _ (HZ.out.below (below1 w _)) (HX.out.below (below1 w _)) (HY.out.below (below1 w _)) (new_intAt w) (fun e => absurd HZ.out.lt (by omega)) hl hl' hy0).mono ?_
  rintro e w1 ⟨rfl, hi1, hr1, wm, hu1, hu2⟩
  have hlt := HZ.out.lt
  have h3 : Upd w wm b o := Upd.after (below1 w _) hu1 hlt
  have h4 : Upd w w1 b o := h3.plus hu2 (Nat.le_refl _) hlt
  have HI1 := Lib.hid hi1
  have HU1 := Lib.hid h4
  clear hi1 hu1 hu2 hr1 h3 h4
  go_wp2_with fail
  go_ret
  exact ⟨rfl, HI1.out, HU1.out⟩

end Go.Proofs.Ytfepmbpcdfdlhaa

/- SetBytes: the walk -/
namespace Go.Proofs.Ytfepmbpcdfdlhaa
open Go.RowKit Go.Sort

/-- a byte's cell -/
abbrev Bc (x : Nat) : List Value := [.int .u8 (x : Int)]
theorem Bc.clen (x : Nat) : (Bc x).length = 1 := rfl
def Bys (bs : List Nat) : Prop := ∀ x ∈ bs, x < 256
theorem be_lt {bs : List Nat} (h : Bys bs) : ∀ i, be (bs.take i) 0 < 256 ^ i
  | 0 => by simp [be]
  | i + 1 => by
    by_cases hi : i < bs.length
    · have hb : bs[i]? = some bs[i] := List.getElem?_eq_getElem hi
      rw [be_take hb, Nat.pow_succ]
      have h1 := be_lt h i
      have h2 := h _ (List.getElem_mem hi)
      omega
    · rw [List.take_of_length_le (by omega)]
      have h1 := be_lt h i
      rw [List.take_of_length_le (by omega)] at h1
      exact Nat.lt_of_lt_of_le h1 (Nat.pow_le_pow_right (by decide) (by omega))
theorem dig_256 {X k : Nat} (h : X < 256 ^ k) : (dig X).length ≤ k := dig_len_le (Nat.lt_of_lt_of_le h (Nat.pow_le_pow_left (by decide) k))

theorem left_8 (A : Option Addr) (n c : Nat) (x y : Nat) (S : Nat → Prop) (w : World) (hy : y = x * 2 ^ 8) (hx : RdE Wc 1 w S A n (dig x)) (hS : ∀ b, S b → b < w.heap.size) (hn : n ≤ 10000000) :
    Calls Try.prog 74 #[.slice A n c, .int .u64 8] w (WordsPost y w) := by
  rw [hy]
  exact left_k A n c x 8 S w hx hS hn (by omega)

set_option maxRecDepth 100000 in
set_option maxHeartbeats 2000000 in
theorem setBytes_int (b o : Nat) (z : Int) (A : Option Addr) (n c : Nat) (bs : List Nat) (w : World) (hz : IntAt w b o z) (hx : RdE Bc 1 w (fun b => b < w.heap.size) A n bs) (hb : Bys bs) (hn : n ≤ 1000000) :
    Calls Try.prog 84 #[.pointer (some ⟨b, o, none⟩), .slice A n c] w fun e w' => e = .returned (.pointer (some ⟨b, o, none⟩)) ∧ IntAt w' b o (be bs 0 : Int) ∧ Upd w w' b o := by
  have hblt := hz.lt
  have HZ := Lib.hid hz
  have HX := Lib.hid hx
  have HB := Lib.hid hb
  have HLT := Lib.hid (be_lt hb)
  clear hz hx hb
  go_enter Try.func84, Try.ntmps84
  go_wp2_with fail
  go_loopw [5, 6] (fun rv iv wr => ∃ (k : Nat) (A' : Option Addr) (m d X : Nat), k ≤ n ∧ iv = .int .i64 k ∧ rv = .slice A' m d ∧ RdE Wc 1 wr (fun b => b < wr.heap.size) A' m (dig X) ∧ m ≤ d ∧ X = be (bs.take k) 0 ∧ Below w.heap.size w wr) (fun _ iv _ => n - (intOf iv).toNat)
  case atStart => exact ⟨0, none, 0, 0, 0, Nat.zero_le _, rfl, rfl, RdE.nil .., Nat.le_refl _, rfl, Below.refl _ _⟩
  case round =>
    obtain ⟨k, A', m, d, X, hk, rfl, rfl, hr, hmd, hX, hbw⟩ := hrel
    have hXl := HLT.out k
    rw [← hX] at hXl
    have hmk := dig_256 hXl
    rw [hr.num] at hmk
    have zw := hbw.size
    have HR := Lib.hid hr
    have HXX := Lib.hid hX
    have HBW := Lib.hid hbw
    obtain ⟨Y, hY⟩ : ∃ Y, Y = X * 2 ^ 8 := ⟨_, rfl⟩
    have h8 : (dig Y).length ≤ k + 1 := dig_256 (by rw [hY, Nat.pow_succ]; omega)
    have HYY := Lib.hid hY
    clear hY
    clear hr hX hbw hXl
    by_cases hlt : k < n
    · have hlt' : (k : Int) < (n : Int) := by omega
      have g1 : (0 : Int) ≤ (k : Int) := by omega
      obtain ⟨y, hy⟩ := get_some HX.out.num hlt
      obtain ⟨b1, o1, rfl, hSb, hc⟩ := HX.out.elem Bc.clen hy (by omega)
      have q1 : wr.cell? ⟨b1, o1 + k, none⟩ = some (.int .u8 (y : Int)) := by have h := hc 0 _ rfl; rw [Nat.mul_one, Nat.add_zero] at h; exact bat HBW.out h
      have hyl : y < 256 := HB.out y (List.mem_of_getElem? hy)
      have g2 : IntKind.u64.wrap (y : Int) = (y : Int) := by rw [IntKind.wrap_u64]; omega
      have hy2 := dig_len_small (x := y) (by omega)
      have HY := Lib.hid hy
      clear hc hy
      go_wp2_with fail
      refine wp_region_held_drew (S := (fun w' => w'.cell? ⟨b1, o1 + k, none⟩ = some (.int .u8 (y : Int)))) (by kernel_rfl) ?_ (fun hHeld => ?_)
      · first | exact True.intro | ((try dsimp only); go_keep)
      refine tkH (i := 0) (v := ?_) rfl (by kernel_rfl) (Or.inl ⟨by kernel_rfl, ?_⟩) (by assumption) ?_
      rotate_left 1
      · (intro w hSw; (try dsimp only at hSw); go_simp; try with_reducible rfl)
      try simp only [lyA, lyB, lyC, Act.put, lyD, lyE, lyF]
      refine tkH (i := 2) (v := ?_) rfl (by kernel_rfl) (Or.inl ⟨by kernel_rfl, ?_⟩) (by assumption) ?_
      rotate_left 1
      · (intro w hSw; (try dsimp only at hSw); go_simp; try with_reducible rfl)
      try simp only [lyA, lyB, lyC, Act.put, lyD, lyE, lyF]
      refine tkH (i := 3) (v := ?_) rfl (by kernel_rfl) (Or.inl ⟨by kernel_rfl, ?_⟩) (by assumption) ?_
      rotate_left 1
      · (intro w hSw; (try dsimp only at hSw); go_simp; try with_reducible rfl)
      try simp only [lyA, lyB, lyC, Act.put, lyD, lyE, lyF]
      refine tkH (i := 4) (v := ?_) rfl (by kernel_rfl) (Or.inl ⟨by kernel_rfl, ?_⟩) (by assumption) ?_
      rotate_left 1
      · (intro w hSw; (try dsimp only at hSw); go_simp; try with_reducible rfl)
      try simp only [lyA, lyB, lyC, Act.put, lyD, lyE, lyF]
      refine tkH (i := 5) (v := ?_) rfl (by kernel_rfl) (Or.inl ⟨by kernel_rfl, ?_⟩) (by assumption) ?_
      rotate_left 1
      · (intro w hSw; (try dsimp only at hSw); go_simp; try with_reducible rfl)
      try simp only [lyA, lyB, lyC, Act.put, lyD, lyE, lyF]
      refine tkH (i := 6) (v := ?_) rfl (by kernel_rfl) (Or.inl ⟨by kernel_rfl, ?_⟩) (by assumption) ?_
      rotate_left 1
      · (intro w hSw; (try dsimp only at hSw); go_simp; try with_reducible rfl)
      try simp only [lyA, lyB, lyC, Act.put, lyD, lyE, lyF]
      refine wpAnyH_ready (rs := [1]) (by kernel_rfl) (by simp) ?_
      refine AllReadyH.cons rfl (fun K hK => ?_) AllReadyH.nil
      go_simp
      (refine (left_8 _ _ _ X Y _ wr.drew HYY.out (HR.out.keep (fun _ _ => rfl)) (fun b hb => hb) (by omega)).mono ?_; rintro e w1 ⟨A1, c1, rfl, hc1, hr1, hb1⟩; have k1 := bat hb1 hHeld; have HR1 := Lib.hid hr1; have HB1 : Hid (Below wr.heap.size wr w1) := Lib.hid (((Below.refl wr.heap.size wr).drew).trans hb1); clear hr1 hb1)
      try go_wp2_with fail
      refine hK.out _ _ ?_ (fun hHeld => ?_)
      · first | exact True.intro | ((try dsimp only); go_keep)
      clear hK K
      try simp only [lyA, lyB, lyC, Act.put, lyD, lyE, lyF]
      refine wpAnyH_ready (rs := [7]) (by kernel_rfl) (by simp) ?_
      refine AllReadyH.cons rfl (fun K hK => ?_) AllReadyH.nil
      go_simp
      (refine (words_any y w1 (by omega)).mono ?_; rintro e w2 ⟨A2, c2, rfl, hc2, hr2, hb2⟩; have k2 := bat hb2 hHeld; have HR2 := Lib.hid hr2; have HB2 := Lib.hid hb2; clear hr2 hb2)
      try go_wp2_with fail
      refine hK.out _ _ ?_ (fun hHeld => ?_)
      · first | exact True.intro | ((try dsimp only); go_keep)
      clear hK K
      try simp only [lyA, lyB, lyC, Act.put, lyD, lyE, lyF]
      refine wpAnyH_ready (rs := [8]) (by kernel_rfl) (by simp) ?_
      refine AllReadyH.cons rfl (fun K hK => ?_) AllReadyH.nil
      go_simp
      (refine (add_any _ _ _ _ _ _ (dig Y) (dig y) _ _ w2 (HR1.out.keep (Keeps.below HB2.out (fun b hb => hb.2))) HR2.out (dig_wds _) (dig_wds _) (fun b hb => Nat.lt_of_lt_of_le hb.2 HB2.out.size) (fun b hb => hb.2) (by omega) (by omega)).mono ?_; rintro e w3 ⟨A3, c3, rfl, hc3, hr3, hb3⟩; rw [nv_dig, nv_dig] at hc3 hr3; rw [nv_dig, nv_dig]; have k3 := bat hb3 hHeld; have HR3 := Lib.hid hr3; have HB3 := Lib.hid hb3; clear hr3 hb3)
      try go_wp2_with fail
      refine hK.out _ _ ?_ (fun hHeld => ?_)
      · first | exact True.intro | ((try dsimp only); go_keep)
      clear hK K
      try simp only [lyA, lyB, lyC, Act.put, lyD, lyE, lyF]
      refine tkH (i := 9) (v := ?_) rfl (by kernel_rfl) (Or.inl ⟨by kernel_rfl, ?_⟩) (by assumption) ?_
      rotate_left 1
      · (intro w hSw; (try dsimp only at hSw); go_simp; try with_reducible rfl)
      try simp only [lyA, lyB, lyC, Act.put, lyD, lyE, lyF]
      refine wpAnyH_done (by kernel_rfl) ?_ _
      go_wp2_with fail
      refine ⟨⟨k + 1, A3, _, c3, Y + y, by omega, by go_num, rfl, HR3.out.imp fun b hb => hb.2, hc3, ?_, below_then HBW.out (below_then HB1.out (below_then HB2.out HB3.out))⟩, by simp [intOf]; omega⟩
      rw [be_take HY.out, ← HXX.out, HYY.out]
    · obtain rfl : n = k := by omega
      have hval : X = be bs 0 := by rw [HXX.out, List.take_of_length_le (by rw [HX.out.num]; exact Nat.le_refl _)]
      subst hval
      have hm := HR.out.num
      subst hm
      go_wp2_with fail
      refine (give_int b o (be bs 0 : Int) z false A' _ d wr (HZ.out.below HBW.out) rfl hmd HR.out (by simp)).mono ?_
      rintro e w5 ⟨rfl, hi5, hu5⟩
      have HI5 := Lib.hid hi5
      have HU5 := Lib.hid hu5
      clear hi5 hu5
      go_wp2_with fail
      go_ret
      exact ⟨rfl, HI5.out, Upd.after HBW.out HU5.out hblt⟩

end Go.Proofs.Ytfepmbpcdfdlhaa

/- GCD without the factors: the walk -/
namespace Go.Proofs.Ytfepmbpcdfdlhaa
open Go.RowKit Go.Sort

theorem opp_abs {s t d : Int} (h : s * t ≤ 0) (hd : 0 ≤ d) : (s - d * t).natAbs = s.natAbs + d.natAbs * t.natAbs := by
  obtain ⟨n, rfl⟩ := Int.eq_ofNat_of_zero_le hd
  have hnt : ∀ m : Nat, (n : Int) * (m : Int) = ((n * m : Nat) : Int) := fun m => by push_cast; rfl
  rcases Int.natAbs_eq s with hs | hs <;> rcases Int.natAbs_eq t with ht | ht
  · by_cases h1 : s.natAbs = 0
    · have : s = 0 := by omega
      subst this
      rw [Int.zero_sub, Int.natAbs_neg, Int.natAbs_mul]; simp
    · by_cases h2 : t.natAbs = 0
      · have : t = 0 := by omega
        subst this; simp
      · have := Int.mul_pos (show 0 < s by omega) (show 0 < t by omega)
        omega
  · have e : (n : Int) * t = -((n * t.natAbs : Nat) : Int) := by rw [ht, Int.mul_neg, Int.natAbs_neg, Int.natAbs_natCast, hnt]
    rw [e, Int.natAbs_natCast]
    generalize n * t.natAbs = k
    omega
  · have e : (n : Int) * t = ((n * t.natAbs : Nat) : Int) := by rw [ht, Int.natAbs_natCast, hnt]
    rw [e, Int.natAbs_natCast]
    generalize n * t.natAbs = k
    omega
  · by_cases h1 : s.natAbs = 0
    · have : s = 0 := by omega
      subst this
      rw [Int.zero_sub, Int.natAbs_neg, Int.natAbs_mul]; simp
    · by_cases h2 : t.natAbs = 0
      · have : t = 0 := by omega
        subst this; simp
      · have := Int.mul_pos_of_neg_of_neg (show s < 0 by omega) (show t < 0 by omega)
        omega
theorem opp_keep {s t d : Int} (h : s * t ≤ 0) (hd : 0 ≤ d) : t * (s - d * t) ≤ 0 := by
  have h1 : 0 ≤ d * (t * t) := Int.mul_nonneg hd (by
    rcases Int.natAbs_eq t with ht | ht
    · exact Int.mul_nonneg (by omega) (by omega)
    · exact Int.mul_nonneg_of_nonpos_of_nonpos (by omega) (by omega))
  have e : t * (s - d * t) = s * t - d * (t * t) := by grind
  omega
theorem newB {w w' : World} {t : TypeId} {cs : Array Value} (h : Upd (w.alloc (.cells cs t)) w' w.heap.size 0) : Below w.heap.size w w' :=
  (below1 w _).trans (h.toB.below (Nat.le_refl _) (by simp))

abbrev newI : Obj := .cells #[.bool false, .slice none 0 0] 80
theorem new2a (w : World) : IntAt ((w.alloc newI).alloc newI) w.heap.size 0 0 := (new_intAt w).below (below1 _ _)
theorem new2b (w : World) : IntAt ((w.alloc newI).alloc newI) (w.heap.size + 1) 0 0 := by
  have h := new_intAt (w.alloc newI)
  rw [World.size_alloc] at h
  exact h
/-- the size of the number that lies in a block (for a loop's measure) -/
noncomputable def gmu (w : World) (b : Nat) : Nat := open Classical in if h : ∃ z, IntAt w b 0 z then (Classical.choose h).natAbs else 0
theorem IntAt.unique {w : World} {b o : Nat} {z z' : Int} (h : IntAt w b o z) (h' : IntAt w b o z') : z = z' := by
  obtain ⟨A, c, h1, _, h3⟩ := h.abs
  obtain ⟨A', c', h1', _, h3'⟩ := h'.abs
  rw [h1] at h1'
  injection h1' with h1'
  injection h1' with e1 e2 e3
  subst e1
  have hd : dig z.natAbs = dig z'.natAbs := by
    apply List.ext_getElem?
    intro i
    by_cases hi : i < (dig z.natAbs).length
    · obtain ⟨x, hx⟩ := get_some rfl hi
      obtain ⟨y, hy⟩ := get_some e2.symm hi
      obtain ⟨b1, o1, rfl, _, hc⟩ := h3.elem Wc.clen hx (by omega)
      obtain ⟨b2, o2, e, _, hc'⟩ := h3'.elem Wc.clen hy (by omega)
      cases e
      have h5 := (hc 0 _ rfl).symm.trans (hc' 0 _ rfl)
      injection h5 with h5
      injection h5 with _ h5
      rw [hx, hy]
      congr 1
      omega
    · rw [List.getElem?_eq_none (by omega), List.getElem?_eq_none (by omega)]
  have hn : z.natAbs = z'.natAbs := by rw [← nv_dig z.natAbs, hd, nv_dig]
  have hs := h.neg.symm.trans h'.neg
  injection hs with hs
  injection hs with hs
  have hs2 : (z < 0) ↔ (z' < 0) := by simpa using hs
  omega
theorem gmu_of {w : World} {b : Nat} {n : Nat} (h : IntAt w b 0 (n : Int)) : gmu w b = n := by
  have hex : ∃ z, IntAt w b 0 z := ⟨_, h⟩
  unfold gmu
  rw [dif_pos hex, (Classical.choose_spec hex).unique h, Int.natAbs_natCast]

set_option maxRecDepth 100000 in
set_option maxHeartbeats 8000000 in
theorem gcd_int (b o b1 o1 b2 o2 : Nat) (z : Int) (x y : Nat) (w : World) (hz : IntAt w b o z) (hx : IntAt w b1 o1 (x : Int)) (hy : IntAt w b2 o2 (y : Int)) (hx0 : x ≠ 0) (hy0 : y ≠ 0) (hl : (dig x).length ≤ 1000000) (hl' : (dig y).length ≤ 1000000) :
    Calls Try.prog 78 #[.pointer (some ⟨b, o, none⟩), .pointer none, .pointer none, .pointer (some ⟨b1, o1, none⟩), .pointer (some ⟨b2, o2, none⟩)] w fun e w' => e = .returned (.pointer (some ⟨b, o, none⟩)) ∧ IntAt w' b o ((Nat.gcd x y : Nat) : Int) ∧ Upd w w' b o := by
  have HX := Lib.hid hx
  have HY := Lib.hid hy
  have HZ := Lib.hid hz
  have hblt := hz.lt
  obtain ⟨A, n, c, s, HN, HS, h0, h1, hc, HR⟩ := hx.open
  obtain ⟨A', n', c', s', HN', HS', h0', h1', hc', HR'⟩ := hy.open
  have hn : 0 < n := by rw [HN.out]; exact List.length_pos_iff.2 (dig_pos (by omega))
  have hn' : 0 < n' := by rw [HN'.out]; exact List.length_pos_iff.2 (dig_pos (by omega))
  have e0 : ((n : Int) == 0) = false := by simp; omega
  have e1 : ((n' : Int) == 0) = false := by simp; omega
  clear hx hy hz HR HR' HS HS' HN HN'
  go_enter Try.func78, Try.ntmps78
  go_wp2_with fail
  refine (abs_int _ 0 b1 o1 0 x _ (new_intAt w) (HX.out.below (below1 w _)) (by rw [Int.natAbs_natCast]; omega)).mono ?_
  rintro e w1 ⟨rfl, hi1, hu1⟩
  have hb1 := newB hu1
  rw [Int.natAbs_natCast] at hi1
  have z1 := hb1.size
  have HI1 := Lib.hid hi1
  have HB1 := Lib.hid hb1
  clear hi1 hu1 hb1
  go_wp2_with fail
  refine (abs_int _ 0 b2 o2 0 y _ (new_intAt w1) ((HY.out.below HB1.out).below (below1 w1 _)) (by rw [Int.natAbs_natCast]; omega)).mono ?_
  rintro e w2 ⟨rfl, hi2, hu2⟩
  have hb2 := newB hu2
  rw [Int.natAbs_natCast] at hi2
  have z2 := hb2.size
  have HI2 := Lib.hid hi2
  have HI1b := Lib.hid (HI1.out.below hb2)
  have HB2 := Lib.hid (below_then HB1.out hb2)
  clear hi2 hu2 hb2
  go_wp2_with fail
  refine (newInt_int 1 _ (by omega) (by omega)).mono ?_
  rintro e w3 ⟨bs, rfl, hbs, hbs', hi3, hb3⟩
  have z3 := hb3.size
  have HI3 := Lib.hid hi3
  have HI2b := Lib.hid (HI2.out.below hb3)
  have HI1c := Lib.hid (HI1b.out.below hb3)
  have HB3 := Lib.hid (below_then HB2.out hb3)
  clear hi3 hb3
  go_wp2_with fail
  refine (newInt_int 0 _ (by omega) (by omega)).mono ?_
  rintro e w4 ⟨bt, rfl, hbt, hbt', hi4, hb4⟩
  have z4 := hb4.size
  have HI4 := Lib.hid hi4
  have HI3b := Lib.hid (HI3.out.below hb4)
  have HI2c := Lib.hid (HI2b.out.below hb4)
  have HI1d := Lib.hid (HI1c.out.below hb4)
  have HB4 := Lib.hid (below_then HB3.out hb4)
  clear hi4 hb4
  go_wp2_with fail
  go_loopw [15, 16, 17, 18] (fun pv qv sv tv wr => ∃ (bp bq bs bt : Nat) (P Q : Nat) (S T : Int), pv = .pointer (some ⟨bp, 0, none⟩) ∧ qv = .pointer (some ⟨bq, 0, none⟩) ∧ sv = .pointer (some ⟨bs, 0, none⟩) ∧ tv = .pointer (some ⟨bt, 0, none⟩) ∧
    IntAt wr bp 0 (P : Int) ∧ IntAt wr bq 0 (Q : Int) ∧ IntAt wr bs 0 S ∧ IntAt wr bt 0 T ∧ Nat.gcd P Q = Nat.gcd x y ∧ 1 ≤ P ∧ P ≤ max x y ∧ Q ≤ y ∧ S.natAbs * Q + T.natAbs * P = y ∧ S * T ≤ 0 ∧ Below w.heap.size w wr ∧ gmu wr bq = Q) (fun _ qv _ _ wr => gmu wr (match qv with | .pointer (some a) => a.block | _ => 0))
  case atStart => exact ⟨_, _, _, _, x, y, 1, 0, rfl, rfl, rfl, rfl, HI1d.out, HI2c.out, HI3b.out, HI4.out, rfl, by omega, by omega, Nat.le_refl _, by simp, by simp, HB4.out, gmu_of HI2c.out⟩
  case round =>
    obtain ⟨bp, bq, bs', bt', P, Q, S, T, rfl, rfl, rfl, rfl, hp, hq, hs, ht, hg, hP1, hPm, hQm, hE, hO, hbw, hmu⟩ := hrel
    have hbig : ∀ k : Nat, k ≤ max x y → (dig k).length ≤ 1000000 := fun k hk => by
      rcases Nat.le_total x y with h | h
      · exact Nat.le_trans (dig_len_mono (show k ≤ y by omega)) hl'
      · exact Nat.le_trans (dig_len_mono (show k ≤ x by omega)) hl
    have HP := Lib.hid hp
    have HQ := Lib.hid hq
    have HSS := Lib.hid hs
    have HT := Lib.hid ht
    have HG := Lib.hid hg
    have HE := Lib.hid hE
    have HO := Lib.hid hO
    have HBW := Lib.hid hbw
    have HMU := Lib.hid hmu
    have HBIG := Lib.hid hbig
    have zw := hbw.size
    have lp := hp.lt
    have lq := hq.lt
    have ls := hs.lt
    have lt := ht.lt
    obtain ⟨Aq, nq, cq, sq, HNq, _, _, hq1, _, _⟩ := hq.open
    clear hp hq hs ht hg hE hO hbw hmu hbig
    by_cases hQ0 : Q = 0
    · have hn0 : nq = 0 := by rw [HNq.out, hQ0]; rfl
      subst hn0
      have hgp : P = Nat.gcd x y := by rw [← HG.out, hQ0, Nat.gcd_zero_right]
      have HGP := Lib.hid hgp
      clear hgp
      go_wp2_with fail
      refine (set_int b o bp 0 z P wr (HZ.out.below HBW.out) HP.out (by rw [Int.natAbs_natCast]; have := HBIG.out P hPm; omega)).mono ?_
      rintro e w9 ⟨rfl, hi9, hu9⟩
      have HI9 := Lib.hid hi9
      have HU9 := Lib.hid hu9
      clear hi9 hu9
      go_wp2_with fail
      go_ret
      rw [← HGP.out]
      exact ⟨rfl, HI9.out, Upd.after HBW.out HU9.out hblt⟩
    · have hnq : 0 < nq := by rw [HNq.out]; exact List.length_pos_iff.2 (dig_pos (by omega))
      have hnq' : decide ((0 : Int) < (nq : Int)) = true := by simp; omega
      have hSb : S.natAbs ≤ y := by
        have h1 := HE.out
        have h2 : S.natAbs * 1 ≤ S.natAbs * Q := Nat.mul_le_mul_left _ (by omega)
        omega
      have hTb : T.natAbs ≤ y := by
        have h1 := HE.out
        have h2 : T.natAbs * 1 ≤ T.natAbs * P := Nat.mul_le_mul_left _ hP1
        omega
      have hE2 := euclid_keep HE.out
      have hTb2 : S.natAbs + P / Q * T.natAbs ≤ y := by
        have h2 : (S.natAbs + P / Q * T.natAbs) * 1 ≤ (S.natAbs + P / Q * T.natAbs) * Q := Nat.mul_le_mul_left _ (by omega)
        omega
      have hda : ((P / Q : Nat) : Int).natAbs = P / Q := Int.natAbs_natCast _
      have hopp : (S - ((P / Q : Nat) : Int) * T).natAbs = S.natAbs + P / Q * T.natAbs := by rw [opp_abs HO.out (by omega), hda]
      have hopk := opp_keep (d := ((P / Q : Nat) : Int)) HO.out (by omega)
      have hdT : (((P / Q : Nat) : Int) * T).natAbs ≤ y := by rw [Int.natAbs_mul, hda]; omega
      have HE2 := Lib.hid hE2
      have HOP := Lib.hid hopp
      have HOK := Lib.hid hopk
      have HDT := Lib.hid hdT
      have HTB2 := Lib.hid hTb2
      have HQ0 := Lib.hid hQ0
      have hdm : ((P : Int).tdiv (Q : Int)) = ((P / Q : Nat) : Int) := rfl
      have hmm : ((P : Int).tmod (Q : Int)) = ((P % Q : Nat) : Int) := rfl
      have hdle : P / Q ≤ max x y := Nat.le_trans (Nat.div_le_self _ _) hPm
      have HDM := Lib.hid hdm
      have HMM := Lib.hid hmm
      clear hE2 hopp hopk hdT hTb2 hQ0 hdm hmm hda
      go_wp2_with fail
      refine (quoRem_int wr.heap.size 0 bp 0 bq 0 (wr.heap.size + 1) 0 0 P Q 0 _ (new2a wr) (HP.out.below (below2 wr _ _)) (HQ.out.below (below2 wr _ _)) (new2b wr) (fun e => absurd e (by omega)) (by rw [Int.natAbs_natCast]; have := HBIG.out P hPm; omega) (by rw [Int.natAbs_natCast]; have := HBIG.out Q (by omega); omega) (by have := HQ0.out; omega)).mono ?_
      rintro e w5 ⟨rfl, hd5, hr5, wm, hu5, hv5⟩
      rw [HDM.out] at hd5
      rw [HMM.out] at hr5
      have hb5 : Below wr.heap.size wr w5 := (below2 wr _ _).trans ((hu5.toB.below (Nat.le_refl _) (by simp; omega)).trans (hv5.toB.below (by omega) (by have := hu5.size; simp at this; omega)))
      have z5 := hb5.size
      have HD5 := Lib.hid hd5
      have HR5 := Lib.hid hr5
      have HB5 := Lib.hid hb5
      have HP5 := Lib.hid (HP.out.below hb5)
      have HQ5 := Lib.hid (HQ.out.below hb5)
      have HS5 := Lib.hid (HSS.out.below hb5)
      have HT5 := Lib.hid (HT.out.below hb5)
      clear hd5 hr5 hu5 hv5 hb5
      go_wp2_with fail
      refine (mul_int (w5.heap.size + 1) 0 wr.heap.size 0 bt' 0 0 ((P / Q : Nat) : Int) T _ (new2b w5) (HD5.out.below (below2 w5 _ _)) (HT5.out.below (below2 w5 _ _)) (by rw [Int.natAbs_natCast]; have := HBIG.out (P / Q) hdle; omega) (by have := HBIG.out T.natAbs (by omega); omega)).mono ?_
      rintro e w6 ⟨rfl, hi6, hu6⟩
      have hb6 : Below w5.heap.size w5 w6 := (below2 w5 _ _).trans (hu6.toB.below (by omega) (by simp; omega))
      have hn6 : IntAt w6 w5.heap.size 0 0 := (new2a w5).upd hu6 (fun e => absurd e (by omega))
      have z6 := hb6.size
      have HI6 := Lib.hid hi6
      have HN6 := Lib.hid hn6
      have HB6 := Lib.hid hb6
      have HQ6 := Lib.hid (HQ5.out.below hb6)
      have HR6 := Lib.hid (HR5.out.below hb6)
      have HS6 := Lib.hid (HS5.out.below hb6)
      have HT6 := Lib.hid (HT5.out.below hb6)
      have l6 := hi6.lt
      clear hi6 hu6 hb6 hn6
      go_wp2_with fail
      refine (sub_int w5.heap.size 0 bs' 0 (w5.heap.size + 1) 0 0 S (((P / Q : Nat) : Int) * T) _ HN6.out HS6.out HI6.out (by have := HBIG.out S.natAbs (by omega); omega) (by have := HBIG.out _ (Nat.le_trans HDT.out (by omega)); omega)).mono ?_
      rintro e w7 ⟨rfl, hi7, hu7⟩
      have hb7 : Below w5.heap.size w6 w7 := hu7.toB.below (Nat.le_refl _) (by omega)
      have z7 := hb7.size
      have hk7 : ∀ (bb : Nat) (vv : Int), IntAt w6 bb 0 vv → bb < w5.heap.size → IntAt w7 bb 0 vv := fun bb vv hh hlt => hh.upd hu7 (fun e => absurd e (by omega))
      have HI7 := Lib.hid hi7
      have HK7 := Lib.hid hk7
      have HB7 : Hid (Below w.heap.size w w7) := Lib.hid (HBW.out.trans ((HB5.out.mono zw).trans ((HB6.out.mono (by omega)).trans (hb7.mono (by omega)))))
      have l5 := HR5.out.lt
      clear hi7 hu7 hb7 hk7
      go_wp2_with fail
      refine ⟨⟨bq, wr.heap.size + 1, bt', w5.heap.size, Q, P % Q, T, S - ((P / Q : Nat) : Int) * T, rfl, rfl, rfl, rfl, HK7.out _ _ HQ6.out (by omega), HK7.out _ _ HR6.out l5, HK7.out _ _ HT6.out (by omega), HI7.out, ?_, by have := HQ0.out; omega, by omega, ?_, ?_, HOK.out, HB7.out, gmu_of (HK7.out _ _ HR6.out l5)⟩, ?_⟩
      · rw [← HG.out, Nat.gcd_comm P Q, Nat.gcd_rec Q P]; exact Nat.gcd_comm _ _
      · exact Nat.le_trans (Nat.le_of_lt (Nat.mod_lt _ (by have := HQ0.out; omega))) hQm
      · rw [HOP.out]; exact HE2.out
      · show gmu w7 (wr.heap.size + 1) < gmu wr bq
        rw [gmu_of (HK7.out _ _ HR6.out l5), HMU.out]
        exact Nat.mod_lt _ (by have := HQ0.out; omega)

end Go.Proofs.Ytfepmbpcdfdlhaa

/- ratio.whole: the walk -/
namespace Go.Proofs.Ytfepmbpcdfdlhaa
open Go.RowKit Go.Sort

theorem info_u8 : (Try.prog.info? 5).map (fun i => (i.zero, i.size, i.bytes)) = some (some (.int .u8 0), 1, 1) := by kernel_rfl
theorem made_u8 (n : Nat) : (madeCells (Value.int .u8 0).cells (n * 1)).toList = (List.replicate n 0).flatMap Bc := made_flat Bc 1 Bc.clen (by omega) 0 n
theorem own_bc {w : World} {base e g n cap : Nat} {ys : List Nat} (h : w.ownsRow base e 1 (.slice (some ⟨g, 0, none⟩) n cap) n (ys.flatMap Bc)) {i o : Nat} (ho : ys[i]? = some o) : w.cell? ⟨g, i, none⟩ = some (.int .u8 (o : Int)) := by
  have h1 := own_elem Bc.clen h ho 0 _ rfl
  rwa [Nat.mul_one, Nat.add_zero] at h1
theorem own_set_bc {w : World} {base e g n cap : Nat} {ys : List Nat} (h : w.ownsRow base e 1 (.slice (some ⟨g, 0, none⟩) n cap) n (ys.flatMap Bc)) {i : Nat} (hi : i < ys.length) (s : Nat) :
    (w.setCell ⟨g, i, none⟩ (.int .u8 (s : Int))).ownsRow base e 1 (.slice (some ⟨g, 0, none⟩) n cap) n ((ys.set i s).flatMap Bc) ∧ w.grownBy (w.setCell ⟨g, i, none⟩ (.int .u8 (s : Int))) (some g) := by
  have h1 := h.stored i (.int .u8 (s : Int))
  have h2 := putAll_flat (f := Bc) (size := 1) Bc.clen s ys i hi
  rw [Nat.mul_one] at h2
  rw [← h2]
  exact h1
theorem bys_set {xs : List Nat} {k v : Nat} (h : Bys xs) (hv : v < 256) : Bys (xs.set k v) := fun x hx => by
  rcases List.mem_or_eq_of_mem_set hx with h1 | rfl
  · exact h x h1
  · exact hv

theorem cast_shr8 (v s : Nat) : (v : Int) / 2 ^ s % 256 = ((v / 2 ^ s % 256 : Nat) : Int) := by
  have g2 : (2 : Int) ^ s = ((2 ^ s : Nat) : Int) := (Int.natCast_pow 2 s).symm
  rw [g2, ← Int.natCast_ediv]
  generalize v / 2 ^ s = q
  omega

set_option maxRecDepth 100000 in
set_option maxHeartbeats 4000000 in
theorem whole_ratio (A : Option Addr) (n c : Nat) (ls : List Nat) (w : World) (hx : RdE Lc 1 w (fun b => b < w.heap.size) A n ls) (hl : Lds ls) (hn : n ≤ 100000) :
    Calls Try.prog 52 #[.slice A n c] w fun e w' => ∃ g, e = .returned (.pointer (some ⟨g, 0, none⟩)) ∧ w.heap.size ≤ g ∧ g < w'.heap.size ∧ IntAt w' g 0 (ln ls : Int) ∧ Below w.heap.size w w' := by
  obtain ⟨i0, hi0, hz0, hz1, hz2⟩ := info_parts' info_u8
  have HX := Lib.hid hx
  have HL := Lib.hid hl
  clear hx hl
  go_enter Try.func52, Try.ntmps52
  go_wp2_with (at_make; go_must (refine wpList_make_full _ rfl _ _ _ rfl w.heap.size 5 i0 _ 1 Try.underlying124 hi0 hz0 hz1 .i64 .i64 _ _ (8 * n) (by show _ = _; congr 1 <;> omega) (by show _ = _; congr 1 <;> omega) (by omega) (by omega) (by rw [hz2]; omega) (by simp only [maxLen]; omega) (Nat.le_refl _) ?_); intro w1 hown1 hg1)
  rw [made_u8] at hown1
  have HI := Lib.hid hown1
  have HB1 := Lib.hid (below_of_grown hg1 (fun g hg => by cases hg))
  clear hown1 hg1
  go_loopw [12] (fun iv wr => ∃ (k : Nat) (bs : List Nat), k ≤ 8 * n ∧ iv = .int .i64 k ∧ bs.length = 8 * n ∧ Bys bs ∧ (∀ (j b : Nat), j < k → bs[j]? = some b → b = ln ls / 256 ^ (8 * n - 1 - j) % 256) ∧ wr.ownsRow w.heap.size 5 1 (.slice (some ⟨w.heap.size, 0, none⟩) (8 * n) (8 * n)) (8 * n) (bs.flatMap Bc) ∧ Below w.heap.size w wr) (fun iv _ => 8 * n - (intOf iv).toNat)
  case atStart => exact ⟨0, List.replicate (8 * n) 0, Nat.zero_le _, rfl, by simp, fun x hx => by rw [(List.mem_replicate.1 hx).2]; decide, fun j b h => absurd h (Nat.not_lt_zero _), HI.out, HB1.out⟩
  case round =>
    obtain ⟨k, bs, hk, rfl, hbl, hbb, hrel', hown, hbw⟩ := hrel
    have HO := Lib.hid hown
    have HBW := Lib.hid hbw
    have HBB := Lib.hid hbb
    have HREL := Lib.hid hrel'
    clear hown hbw hbb hrel'
    by_cases hlt : k < 8 * n
    · obtain ⟨bk, hbk⟩ : ∃ bk, bk = 8 * n - 1 - k := ⟨_, rfl⟩
      have e1 : 8 * (n : Int) - 1 - (k : Int) = (bk : Int) := by omega
      have hbl8 : bk / 8 < n := by omega
      obtain ⟨x, hx⟩ := get_some HX.out.num hbl8
      obtain ⟨b1, o1, rfl, hSb, hc⟩ := HX.out.elem Lc.clen hx (by omega)
      have q1 : wr.cell? ⟨b1, o1 + bk / 8, none⟩ = some (.int .u64 (x : Int)) := by have h := hc 0 _ rfl; rw [Nat.mul_one, Nat.add_zero] at h; exact bat HBW.out h
      obtain ⟨o, ho⟩ := get_some hbl hlt
      have q0 := own_bc HO.out ho
      have hf := HO.out.frozenAt k
      have hlb := limb_byte HL.out hx
      have HLB := Lib.hid hlb
      have hbkn : bk < 8 * n := by omega
      have HBK := Lib.hid hbk
      clear hlb hc ho hbk hx
      go_wp2_with fail
      rw [cast_shr8]
      have ho1 := own_set_bc HO.out (i := k) (by omega) (x / 2 ^ (8 * (bk % 8)) % 256)
      refine ⟨⟨k + 1, bs.set k (x / 2 ^ (8 * (bk % 8)) % 256), by omega, by go_num, by simp [hbl], bys_set HBB.out (Nat.mod_lt _ (by decide)), ?_, ho1.1, HBW.out.grown ho1.2 (Nat.le_of_lt (HO.out.lt w.heap.size rfl).2) (fun g hg => by injection hg with hg; omega)⟩, by simp [intOf]; omega⟩
      exact set_keeps HREL.out (by rw [HLB.out, HBK.out])
    · obtain rfl : 8 * n = k := by omega
      have hrd := RdE.of_own Bc.clen (by omega) HO.out
      have hbe : be bs 0 = ln ls := by
        apply be_all
        · have h1 := ln_lt HL.out
          rw [HX.out.num, W64_256] at h1
          rw [hbl]; exact h1
        · intro i b hb
          have hi := (List.getElem?_eq_some_iff.1 hb).1
          rw [hbl]
          exact HREL.out i b (by omega) hb
      have HBE := Lib.hid hbe
      have HRD : Hid (RdE Bc 1 wr (fun b => b < wr.heap.size) (some ⟨w.heap.size, 0, none⟩) (8 * n) bs) := Lib.hid (hrd.imp fun b h => h.2.1)
      have zr := HBW.out.size
      clear hrd hbe
      go_wp2_with fail
      refine (setBytes_int _ 0 0 (some ⟨w.heap.size, 0, none⟩) (8 * n) (8 * n) bs _ (new_intAt wr) ((HRD.out.keep (Keeps.below (below1 wr _) (fun b h => h))).imp fun b h => by simp; omega) HBB.out (by omega)).mono ?_
      rintro e w5 ⟨rfl, hi5, hu5⟩
      rw [HBE.out] at hi5
      have hb5 := newB hu5
      have HI5 := Lib.hid hi5
      have HB5 := Lib.hid (below_then HBW.out hb5)
      clear hi5 hu5 hb5
      go_wp2_with fail
      go_ret
      exact ⟨_, rfl, zr, HI5.out.lt, HI5.out, HB5.out⟩

end Go.Proofs.Ytfepmbpcdfdlhaa

/- low, of (numbers not below 0): the walks -/
namespace Go.Proofs.Ytfepmbpcdfdlhaa
open Go.RowKit Go.Sort

/-- the words of N, and noughts, n in all -/
def padded (N n : Nat) : List Nat := dig N ++ List.replicate (n - (dig N).length) 0
theorem padded_len {N n : Nat} (h : (dig N).length ≤ n) : (padded N n).length = n := by simp [padded]; omega
theorem padded_nv (N n : Nat) : nv (padded N n) = N := by
  have hz : nv (List.replicate (n - (dig N).length) 0) = 0 := nv_zero fun i x hx => (List.mem_replicate.1 (List.mem_of_getElem? hx)).2
  rw [padded, nv_append, nv_dig, hz, Nat.mul_zero, Nat.add_zero]
theorem padded_wds (N n : Nat) : Wds (padded N n) := (dig_wds N).append fun x hx => by rw [(List.mem_replicate.1 hx).2]; decide
theorem padded_zero {N n i x : Nat} (hi : (dig N).length ≤ i) (h : (padded N n)[i]? = some x) : x = 0 := by
  rw [padded, List.getElem?_append_right hi] at h
  exact (List.mem_replicate.1 (List.mem_of_getElem? h)).2

set_option maxRecDepth 100000 in
set_option maxHeartbeats 2000000 in
theorem low_int (b o n : Nat) (x : Int) (w : World) (hx : IntAt w b o x) (hx0 : 0 ≤ x) (hn : (dig x.natAbs).length < n) (hn2 : n ≤ 100000000) :
    Calls Try.prog 99 #[.pointer (some ⟨b, o, none⟩), .int .i64 n] w fun e w' => e = .returned (.slice (some ⟨w.heap.size, 0, none⟩) n n) ∧
      w'.ownsRow w.heap.size 135 1 (.slice (some ⟨w.heap.size, 0, none⟩) n n) n ((padded x.natAbs n).flatMap Wc) ∧ Below w.heap.size w w' := by
  obtain ⟨i0, hi0, hz0, hz1, hz2⟩ := info_parts' info_u32
  have hlt := hx.lt
  obtain ⟨A, m, c, s, HN, HS, h0, h1, hc, HR⟩ := hx.open
  rw [← HN.out] at hn
  have HR' : Hid (RdE Wc 1 w (fun d => d < w.heap.size) A m (dig x.natAbs)) := Lib.hid (HR.out.keep (fun _ _ => rfl))
  obtain rfl : s = false := by rw [HS.out]; simp; omega
  clear hx
  have hszk : (Try.prog.info? 135).map (·.size) = some 1 := by rw [hi0]; simp [hz1]
  have HSZK := Lib.hid hszk
  have C1 : Hid (((dig x.natAbs).flatMap Wc).length = Nat.min m n) := Lib.hid (by rw [flat_len Wc 1 Wc.clen, Nat.mul_one, ← HN.out]; exact (Nat.min_eq_left (by omega)).symm)
  have C3 : Hid (0 + ((dig x.natAbs).flatMap Wc).length ≤ ((List.replicate n 0).flatMap Wc).length) := Lib.hid (by rw [flat_len Wc 1 Wc.clen, flat_len Wc 1 Wc.clen, List.length_replicate, ← HN.out]; omega)
  clear hszk
  go_enter Try.func99, Try.ntmps99
  go_wp2_with (first | (refine wpList_copy_splice rfl _ _ _ _ rfl 135 Try.underlying78 HSZK.out _ _ n n _ c (by rfl) (by rfl) w.heap.size 0 ((List.replicate n 0).flatMap Wc) _ (own_blk HO3.out).1 ((dig x.natAbs).flatMap Wc) C1.out (fun hp => ⟨rfl, rd_src HR3.out.rd hp⟩) C3.out (wc_one _) w.heap.size w HB3.out (Nat.le_refl _) ?_; intro w5 hg5 hb5; have k3 := bat hb5 h0; have HG5 := Lib.hid hg5.out; have HB5 := Lib.hid hb5; clear hg5 hb5) | (at_make; go_must (refine wpList_make_full _ rfl _ _ _ rfl w.heap.size 135 i0 _ 1 Try.underlying78 hi0 hz0 hz1 .i64 .i64 _ _ n rfl rfl (by omega) (by omega) (by rw [hz2]; omega) (by simp only [maxLen]; omega) (Nat.le_refl _) ?_); intro w3 hown3 hg3; have hb3 : Below w.heap.size w w3 := below_of_grown hg3 (fun g hg => by cases hg); have k1 := bat hb3 h1; have HO3 : Hid (w3.ownsRow w.heap.size 135 1 (.slice (some ⟨w.heap.size, 0, none⟩) n n) n ((List.replicate n 0).flatMap Wc)) := Lib.hid (by rw [made_u32] at hown3; exact hown3); have HB3 := Lib.hid hb3; have HR3 := Lib.hid (HR'.out.keep (Keeps.below hb3 (fun b hb => hb))); clear hown3 hg3 hb3))
  go_ret
  have hg5 := HG5.out
  rw [splice_wc (by rw [← HN.out]; omega)] at hg5
  exact ⟨rfl, own_of_blk hg5 (by rw [flat_len Wc 1 Wc.clen, Nat.mul_one]; exact padded_len (by rw [← HN.out]; omega)) (Nat.le_refl _) (by simp only [maxLen]; omega), HB5.out⟩

set_option maxRecDepth 100000 in
set_option maxHeartbeats 2000000 in
theorem of_int (b o n B g : Nat) (z : Int) (xs : List Nat) (w : World) (hz : IntAt w b o z) (ho : w.ownsRow B 135 1 (.slice (some ⟨g, 0, none⟩) (n + 1) (n + 1)) (n + 1) (xs.flatMap Wc)) (hw : Wds xs) (ht : xs[n]? = some 0) (hn : n ≤ 100000000) :
    Calls Try.prog 100 #[.pointer (some ⟨b, o, none⟩), .slice (some ⟨g, 0, none⟩) (n + 1) (n + 1)] w fun e w' => e = .returned (.pointer (some ⟨b, o, none⟩)) ∧ IntAt w' b o (nv xs : Int) ∧ Upd w w' b o := by
  have q0 := own_wc ho ht
  have HZ := Lib.hid hz
  have HO := Lib.hid ho
  have HW := Lib.hid hw
  clear hz ho hw ht
  go_enter Try.func100, Try.ntmps100
  go_wp2_with fail
  refine (trim_own B g (n + 1) (n + 1) xs _ HO.out HW.out (by omega) (Nat.le_refl _)).mono ?_
  rintro e w1 ⟨rfl, hl1, hr1, hb1⟩
  have HR1 := Lib.hid hr1
  have HB1 := Lib.hid hb1
  clear hr1 hb1
  go_wp2_with fail
  refine (give_int _ _ (nv xs : Int) z false _ _ _ w1 (HZ.out.below HB1.out) rfl hl1 (HR1.out.imp fun d hd => hd.2) (by simp)).mono ?_
  rintro e w2 ⟨rfl, hi2, hu2⟩
  have HI2 := Lib.hid hi2
  have HU2 := Lib.hid hu2
  clear hi2 hu2
  go_wp2_with fail
  go_ret
  exact ⟨rfl, HI2.out, Upd.after HB1.out HU2.out HZ.out.lt⟩

end Go.Proofs.Ytfepmbpcdfdlhaa
