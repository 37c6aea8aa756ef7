import Derived.Test.YtjokpfgncmdomaaGreatDoorX19
set_option linter.unusedSimpArgs false
set_option linter.unusedVariables false
/- girderref07: one, Value, Sign: the walks -/
namespace Go.Proofs.YtjokpfgncmdomaaGreatDoor
open Go.RowKit Go.Sort

/-- a ratio (or a number of girderref07) whose lists have room for what they have -/
def FAt (w : World) (v : Value) (r : RV) : Prop := ∃ vn vd, v = .agg #[.bool r.neg, vn, vd] ∧ LAt w vn r.num ∧ LAt w vd r.den
def LdR (r : RV) : Prop := Lds r.num ∧ Lds r.den
theorem FAt.below {w w' : World} {v : Value} {r : RV} (h : FAt w v r) (hb : Below w.heap.size w w') : FAt w' v r := by
  obtain ⟨vn, vd, e, h1, h2⟩ := h
  exact ⟨vn, vd, e, h1.below hb, h2.below hb⟩
theorem FAt.rat {w : World} {v : Value} {r : RV} (h : FAt w v r) (hl : LdR r) : RAt w v r := by
  obtain ⟨vn, vd, e, ⟨A, c, rfl, _, h1⟩, ⟨A', c', rfl, _, h2⟩⟩ := h
  exact ⟨A, _, c, A', _, c', e, h1, h2, hl.1, hl.2⟩
theorem FAt.shape {w : World} {v : Value} {r : RV} (h : FAt w v r) : ∃ A n c A' n' c', v = .agg #[.bool r.neg, .slice A n c, .slice A' n' c'] ∧ LAt w (.slice A n c) r.num ∧ LAt w (.slice A' n' c') r.den := by
  obtain ⟨vn, vd, e, h1, h2⟩ := h
  have h1' := h1
  have h2' := h2
  obtain ⟨A, c, rfl, _, _⟩ := h1'
  obtain ⟨A', c', rfl, _, _⟩ := h2'
  exact ⟨_, _, _, _, _, _, e, h1, h2⟩
theorem lat_num {w : World} {A : Option Addr} {n c : Nat} {xs : List Nat} (h : LAt w (.slice A n c) xs) : n = xs.length ∧ n ≤ c ∧ RdE Lc 1 w (fun b => b < w.heap.size) A n xs := by
  obtain ⟨A', c', e, hc, hr⟩ := h
  injection e with e1 e2 e3
  subst e1 e2 e3
  exact ⟨rfl, hc, hr⟩
set_option maxRecDepth 100000 in
set_option maxHeartbeats 2000000 in
theorem one_any (w : World) : Calls Tryz.prog 81 #[] w fun e w' => ∃ v', e = .returned v' ∧ LAt w' v' [1] ∧ Below w.heap.size w w' := by
  have hr : LAt (w.alloc (.cells #[.int .u64 1] 58)) (.slice (some ⟨w.heap.size, 0, none⟩) 1 1) [1] :=
    ⟨some ⟨w.heap.size, 0, none⟩, 1, rfl, Nat.le_refl _, rde_blk (blk_new ..) rfl (by simp) rfl rfl⟩
  have HR := Lib.hid hr
  clear hr
  go_enter Tryz.func81, Tryz.ntmps81
  go_wp2_with fail
  go_ret
  exact ⟨_, rfl, HR.out, below1 ..⟩

set_option maxRecDepth 100000 in
set_option maxHeartbeats 4000000 in
theorem value_any (v : Value) (r : RV) (w : World) (h : FAt w v r) (hl : LdR r) (n1 : r.num.length ≤ 10000000000) (n2 : r.den.length ≤ 10000000000) :
    Calls Tryz.prog 57 #[v] w fun e w' => ∃ v', e = .returned v' ∧ FAt w' v' ⟨r.neg, lim (ln r.num), lim (ln r.den)⟩ ∧ Below w.heap.size w w' := by
  obtain ⟨s, xs, ys⟩ := r
  simp only at n1 n2 ⊢
  obtain ⟨A, n, c, A', n', c', rfl, h1, h2⟩ := h.shape
  simp only at h1 h2 ⊢
  have HL1 : Hid (Lds xs) := Lib.hid hl.1
  have HL2 : Hid (Lds ys) := Lib.hid hl.2
  have HX := Lib.hid h1
  have HY := Lib.hid h2
  obtain ⟨w0, hw0⟩ : ∃ w0, w0 = (w.alloc (.cells #[.bool s, .slice A n c, .slice A' n' c'] 24)).alloc (.cells #[.bool false, .slice none 0 0, .slice none 0 0] 77) := ⟨_, rfl⟩
  have hb0 : Below w.heap.size w w0 := by rw [hw0]; exact below2 ..
  have g1 : w0.heap[w.heap.size]? = some (.cells #[.bool s, .slice A n c, .slice A' n' c'] 24 (0, 0)) := by
    rw [hw0]; exact ((below1 (w.alloc _) _).block w.heap.size (by simp)).trans (blk_new w _ _)
  have g2 : w0.heap[w.heap.size + 1]? = some (.cells #[.bool false, .slice none 0 0, .slice none 0 0] 77 (0, 0)) := by
    rw [hw0]; exact blk2 w _ _ _
  have z0 : w0.heap.size = w.heap.size + 2 := by rw [hw0]; simp
  have k1 := (blk_cells g1).1
  have k10 := k1 0
  have k11 := k1 1
  have k12 := k1 2
  simp only [List.getElem?_toArray, List.getElem?_cons_zero, List.getElem?_cons_succ] at k10 k11 k12
  have G2 := Lib.hid g2
  have HB0 := Lib.hid hb0
  have HW0 := Lib.hid hw0
  clear hw0 hb0 g1 g2 k1 h1 h2 h hl
  go_enter Tryz.func57, Tryz.ntmps57
  go_wp2_with fail
  rw [← HW0.out]
  refine wp_region_G (S := (fun w' => w'.cell? ⟨w.heap.size, 0, none⟩ = some (.bool s) ∧ w'.cell? ⟨w.heap.size, 1, none⟩ = some (.slice A n c) ∧ w'.cell? ⟨w.heap.size, 2, none⟩ = some (.slice A' n' c'))) 9 (by kernel_rfl) ?_ (fun hHeld => ?_)
  · first | exact True.intro | ((try dsimp only); go_keep)
  refine tkG (i := 0) (v := ?_) rfl (by kernel_rfl) (Or.inl ⟨by kernel_rfl, ?_⟩) (by assumption) ?_
  rotate_left 1
  · (intro w hSw; (try dsimp only at hSw); go_simp; try with_reducible rfl)
  try simp only [lyA, lyB, lyC, Act.put, lyD, lyE, lyF]
  refine tkG (i := 1) (v := ?_) rfl (by kernel_rfl) (Or.inl ⟨by kernel_rfl, ?_⟩) (by assumption) ?_
  rotate_left 1
  · (intro w hSw; (try dsimp only at hSw); go_simp; try with_reducible rfl)
  try simp only [lyA, lyB, lyC, Act.put, lyD, lyE, lyF]
  refine tkG (i := 2) (v := ?_) rfl (by kernel_rfl) (Or.inl ⟨by kernel_rfl, ?_⟩) (by assumption) ?_
  rotate_left 1
  · (intro w hSw; (try dsimp only at hSw); go_simp; try with_reducible rfl)
  try simp only [lyA, lyB, lyC, Act.put, lyD, lyE, lyF]
  refine tkG (i := 3) (v := ?_) rfl (by kernel_rfl) (Or.inl ⟨by kernel_rfl, ?_⟩) (by assumption) ?_
  rotate_left 1
  · (intro w hSw; (try dsimp only at hSw); go_simp; try with_reducible rfl)
  try simp only [lyA, lyB, lyC, Act.put, lyD, lyE, lyF]
  refine tkG (i := 5) (v := ?_) rfl (by kernel_rfl) (Or.inl ⟨by kernel_rfl, ?_⟩) (by assumption) ?_
  rotate_left 1
  · (intro w hSw; (try dsimp only at hSw); go_simp; try with_reducible rfl)
  try simp only [lyA, lyB, lyC, Act.put, lyD, lyE, lyF]
  refine tkG (i := 6) (v := ?_) rfl (by kernel_rfl) (Or.inl ⟨by kernel_rfl, ?_⟩) (by assumption) ?_
  rotate_left 1
  · (intro w hSw; (try dsimp only at hSw); go_simp; try with_reducible rfl)
  try simp only [lyA, lyB, lyC, Act.put, lyD, lyE, lyF]
  refine wpAnyG_one (i := 4) (by kernel_rfl) rfl (fun K hK => ?_)
  go_simp
  (refine (natTrim_any _ xs w0.drew (HX.out.below HB0.out.drew) HL1.out (by omega)).mono ?_; rintro e wa ⟨va, rfl, hva, hba⟩; obtain ⟨x0, x1, x2⟩ := hHeld; have y0 := bat hba x0; have y1 := bat hba x1; have y2 := bat hba x2; have HVA := Lib.hid hva; have HBa : Hid (Below w0.heap.size w0 wa) := Lib.hid ((Below.refl w0.heap.size w0).drew.trans hba); clear hva hba x0 x1 x2)
  try go_wp2_with fail
  refine (fun hHeld => hK.out _ _ (.inl hHeld) (fun _ => ?_)) ?_
  rotate_left 1
  · first | exact True.intro | ((try dsimp only); go_keep)
  clear hK K
  try simp only [lyA, lyB, lyC, Act.put, lyD, lyE, lyF]
  refine wpAnyG_one (i := 7) (by kernel_rfl) rfl (fun K hK => ?_)
  go_simp
  (refine (natTrim_any _ ys wa (HY.out.below (HB0.out.trans (HBa.out.mono HB0.out.size))) HL2.out (by omega)).mono ?_; rintro e wb ⟨vb, rfl, hvb, hbb⟩; obtain ⟨x0, x1, x2⟩ := hHeld; have t0 := bat hbb x0; have t1 := bat hbb x1; have t2 := bat hbb x2; have HVB := Lib.hid hvb; have HVA2 := Lib.hid (HVA.out.below hbb); have HBb : Hid (Below w0.heap.size w0 wb) := Lib.hid (HBa.out.trans (hbb.mono HBa.out.size)); clear hvb hbb x0 x1 x2 y0 y1 y2; have f1 := blk_cells ((HBb.out.block (w.heap.size + 1) (by omega)).trans G2.out); have f10 := f1.2 0; have f11 := f1.2 1; have f12 := f1.2 2; have kc0 := f1.1 0; have kc1 := f1.1 1; have kc2 := f1.1 2; simp only [List.getElem?_toArray, List.getElem?_cons_zero, List.getElem?_cons_succ] at kc0 kc1 kc2; clear f1; obtain ⟨B, m, d, rfl, hlb⟩ : ∃ B m d, va = .slice B m d ∧ True := (by obtain ⟨B, d, e, _, _⟩ := HVA2.out; exact ⟨_, _, _, e, trivial⟩); clear hlb; obtain ⟨B', m', d', rfl, hlb⟩ : ∃ B m d, vb = .slice B m d ∧ True := (by obtain ⟨B, d, e, _, _⟩ := HVB.out; exact ⟨_, _, _, e, trivial⟩); clear hlb)
  try go_wp2_with fail
  refine (fun hHeld => hK.out _ _ (.inl hHeld) (fun _ => ?_)) ?_
  rotate_left 1
  · first | exact True.intro | ((try dsimp only); go_keep)
  clear hK K
  try simp only [lyA, lyB, lyC, Act.put, lyD, lyE, lyF]
  refine wpAnyG_one (i := 8) (by kernel_rfl) rfl (fun K hK => ?_)
  go_simp
  refine (fun hHeld => hK.out _ _ (.inl hHeld) (fun _ => ?_)) ?_
  rotate_left 1
  · first | exact True.intro | ((try dsimp only); go_keep)
  clear hK K
  try simp only [lyA, lyB, lyC, Act.put, lyD, lyE, lyF]
  refine wpAnyG_one (i := 9) (by kernel_rfl) rfl (fun K hK => ?_)
  go_simp
  refine hK.out _ _ ?_ (fun hHeld => ?_)
  · exact .inr (by kernel_rfl)
  clear hK K
  try simp only [lyA, lyB, lyC, Act.put, lyD, lyE, lyF]
  refine wpAnyG_done (by kernel_rfl) ?_ _
  obtain ⟨w6, hw6⟩ : ∃ w6, w6 = ((wb.setCell ⟨w.heap.size + 1, 0, none⟩ (.bool s)).setCell ⟨w.heap.size + 1, 1, none⟩ (.slice B m d)).setCell ⟨w.heap.size + 1, 2, none⟩ (.slice B' m' d') := ⟨_, rfl⟩
  obtain ⟨hu6, q0, q1, q2⟩ := rat_set kc0 kc1 kc2 _ _ _ _ _ _ _ _ hw6
  rw [← hw6]
  have HU6 := Lib.hid hu6
  have Q0 := Lib.hid q0
  have Q1 := Lib.hid q1
  have Q2 := Lib.hid q2
  clear hw6 hu6 q0 q1 q2 f10 f11 f12 kc0 kc1 kc2
  go_wp2_with fail
  have hu6 := HU6.out
  have q0 := Q0.out
  have q1 := Q1.out
  have q2 := Q2.out
  (try simp only [Exit.inBlock, Exit.then])
  refine bodyPost_ret (v := .agg #[.bool s, .slice B m d, .slice B' m' d']) (by simp [results, Tryz.results57, go_sem, q0, q1, q2]; done) rfl ?_
  have hb6 : Below w.heap.size w w6 := (HB0.out.trans (HBb.out.mono HB0.out.size)).trans (hu6.below (by omega) (by have := HBb.out.size; omega))
  have hup : ∀ {v : Value} {xs : List Nat}, LAt wb v xs → LAt w6 v xs := fun h => by
    obtain ⟨A, c, e, hc, hr⟩ := h
    exact ⟨A, c, e, hc, (hu6.limbs hr).imp fun b hb => Nat.lt_of_lt_of_le hb hu6.size⟩
  exact ⟨_, rfl, ⟨_, _, rfl, hup HVA2.out, hup HVB.out⟩, hb6⟩

end Go.Proofs.YtjokpfgncmdomaaGreatDoor

/- girderref07: Sign and Least of a number: the walks (printed by gen_h13.py) -/
namespace Go.Proofs.YtjokpfgncmdomaaGreatDoor
open Go.RowKit Go.Sort

/-- the sign of a number -/
def sgF (r : RV) : Int := if ln r.num = 0 then 0 else if r.neg then -1 else 1
theorem blen_eq0 {N : Nat} : ((blen N : Int) == 0) = decide (N = 0) := by
  by_cases h : N = 0
  · subst h; rfl
  · have := blen_pos h
    have h2 : blen N ≠ 0 := by omega
    simp [h, h2]

set_option maxRecDepth 100000 in
set_option maxHeartbeats 4000000 in
theorem signF_any (v : Value) (r : RV) (w : World) (h : FAt w v r) (hl : LdR r) (n1 : r.num.length ≤ 10000000000) :
    Calls Tryz.prog 115 #[v] w fun e w' => e = .returned (.int .i64 (sgF r)) ∧ Below w.heap.size w w' := by
  obtain ⟨s, xs, ys⟩ := r
  simp only at n1 ⊢
  obtain ⟨A, n, c, A', n', c', rfl, h1, h2⟩ := h.shape
  simp only at h1 h2 ⊢
  have HL1 : Hid (Lds xs) := Lib.hid hl.1
  have HX := Lib.hid h1
  have K0 := new_cell w #[.bool s, .slice A n c, .slice A' n' c'] 77 0 _ rfl
  have K1 := new_cell w #[.bool s, .slice A n c, .slice A' n' c'] 77 1 _ rfl
  have KK := Lib.hid K0
  clear h1 h2 h hl K0 K1
  go_enter Tryz.func115, Tryz.ntmps115
  go_wp2_with fail
  refine (natBits_any _ xs _ (HX.out.below (below1 ..)) HL1.out (by omega)).mono ?_
  rintro e w1 ⟨rfl, hb1⟩
  have q0 := bat hb1 KK.out
  have HB1 := Lib.hid (below_then (below1 w _) hb1)
  clear hb1
  by_cases h0 : ln xs = 0
  · have hb : ((blen (ln xs) : Int) == 0) = true := by rw [blen_eq0, decide_eq_true h0]
    have HS : Hid (sgF ⟨s, xs, ys⟩ = 0) := Lib.hid (by unfold sgF; rw [if_pos h0])
    clear h0
    go_wp2_with fail
    go_ret
    exact ⟨by rw [HS.out]; rfl, HB1.out⟩
  · have hb : ((blen (ln xs) : Int) == 0) = false := by rw [blen_eq0, decide_eq_false h0]
    cases s
    · have HS : Hid (sgF ⟨false, xs, ys⟩ = 1) := Lib.hid (by unfold sgF; rw [if_neg h0]; rfl)
      clear h0
      go_wp2_with fail
      go_ret
      exact ⟨by rw [HS.out]; rfl, HB1.out⟩
    · have HS : Hid (sgF ⟨true, xs, ys⟩ = -1) := Lib.hid (by unfold sgF; rw [if_neg h0]; rfl)
      clear h0
      go_wp2_with fail
      go_ret
      exact ⟨by rw [HS.out]; rfl, HB1.out⟩

theorem LAt.upb {w w' : World} {v : Value} {xs : List Nat} {g : Nat} (h : LAt w v xs) (hu : UpB w w' g) : LAt w' v xs := by
  obtain ⟨A, c, e, hc, hr⟩ := h
  exact ⟨A, c, e, hc, (hu.limbs hr).imp fun b hb => Nat.lt_of_lt_of_le hb hu.size⟩
theorem FAt.upb {w w' : World} {v : Value} {r : RV} {g : Nat} (h : FAt w v r) (hu : UpB w w' g) : FAt w' v r := by
  obtain ⟨vn, vd, e, h1, h2⟩ := h
  exact ⟨vn, vd, e, h1.upb hu, h2.upb hu⟩
/-- with no common divisor -/
def leastR (s : Bool) (N D : Nat) : RV := if N = 0 then ⟨false, [], [1]⟩ else ⟨s, lim (N / Nat.gcd N D), lim (D / Nat.gcd N D)⟩
theorem cmpN_one {g : Nat} (h : g ≠ 0) : (cmpN g (ln [1]) == 0) = decide (g = 1) := by
  have e : ln [1] = 1 := rfl
  rw [e]
  unfold cmpN
  by_cases h1 : g = 1
  · subst h1; rfl
  · have h2 : ¬ g < 1 := by omega
    have h3 : 1 < g := by omega
    simp [h1, h2, h3]

set_option maxRecDepth 100000 in
set_option maxHeartbeats 8000000 in
theorem least_any (v : Value) (s : Bool) (N D : Nat) (w : World) (h : FAt w v ⟨s, lim N, lim D⟩) (hD : D ≠ 0) (n1 : (lim N).length ≤ 10000000000) (n2 : (lim D).length ≤ 10000000000) :
    Calls Tryz.prog 123 #[v] w fun e w' => ∃ v', e = .returned v' ∧ FAt w' v' (leastR s N D) ∧ Below w.heap.size w w' := by
  obtain ⟨A, n, c, A', n', c', rfl, h1, h2⟩ := h.shape
  simp only at h1 h2
  have HX := Lib.hid h1
  have HY := Lib.hid h2
  have HF := Lib.hid h
  have HD0 := Lib.hid hD
  have HN1 := Lib.hid n1
  have HN2 := Lib.hid n2
  obtain ⟨w0, hw0⟩ : ∃ w0, w0 = (w.alloc (.cells #[.bool s, .slice A n c, .slice A' n' c'] 77)).alloc (.cells #[.bool false, .slice none 0 0, .slice none 0 0] 77) := ⟨_, rfl⟩
  have hb0 : Below w.heap.size w w0 := by rw [hw0]; exact below2 ..
  have g1 : w0.heap[w.heap.size]? = some (.cells #[.bool s, .slice A n c, .slice A' n' c'] 77 (0, 0)) := by
    rw [hw0]; exact ((below1 (w.alloc _) _).block w.heap.size (by simp)).trans (blk_new w _ _)
  have g2 : w0.heap[w.heap.size + 1]? = some (.cells #[.bool false, .slice none 0 0, .slice none 0 0] 77 (0, 0)) := by
    rw [hw0]; exact blk2 w _ _ _
  have z0 : w0.heap.size = w.heap.size + 2 := by rw [hw0]; simp
  have G1 := Lib.hid g1
  have G2 := Lib.hid g2
  have HB0 := Lib.hid hb0
  have HW0 := Lib.hid hw0
  clear hw0 hb0 g1 g2 h1 h2 h hD n1 n2
  go_enter Tryz.func123, Tryz.ntmps123
  go_wp2_with fail
  rw [← HW0.out]
  refine (signF_any _ ⟨s, lim N, lim D⟩ w0 (HF.out.below HB0.out) ⟨lim_lds _, lim_lds _⟩ HN1.out).mono ?_
  rintro e w1 ⟨rfl, hb1⟩
  have HB1 := Lib.hid hb1
  clear hb1
  by_cases h0 : N = 0
  · subst h0
    have HS : Hid (sgF ⟨s, lim 0, lim D⟩ = 0) := Lib.hid rfl
    rw [HS.out]
    go_wp2_with fail
    refine (one_any w1).mono ?_
    rintro e w2 ⟨v2, rfl, hv2, hb2⟩
    have HV2 := Lib.hid hv2
    have HB2 := Lib.hid (HB1.out.trans (hb2.mono HB1.out.size))
    obtain ⟨A2, c2, rfl, -, -⟩ := hv2
    clear hb2
    have cc := blk_cells ((HB2.out.block (w.heap.size + 1) (by omega)).trans G2.out)
    have b20 := cc.1 0
    have b21 := cc.1 1
    have b22 := cc.1 2
    have f20 := cc.2 0
    have f21 := cc.2 1
    have f22 := cc.2 2
    simp only [List.getElem?_toArray, List.getElem?_cons_zero, List.getElem?_cons_succ] at b20 b21 b22
    clear cc
    obtain ⟨w6, hw6⟩ : ∃ w6, w6 = ((w2.setCell ⟨w.heap.size + 1, 0, none⟩ (.bool false)).setCell ⟨w.heap.size + 1, 1, none⟩ (.slice none 0 0)).setCell ⟨w.heap.size + 1, 2, none⟩ (.slice A2 1 c2) := ⟨_, rfl⟩
    obtain ⟨hu6, q0, q1, q2⟩ := rat_set b20 b21 b22 _ _ _ _ _ _ _ _ hw6
    have HW6 := Lib.hid hw6
    have HU6 := Lib.hid hu6
    have Q0 := Lib.hid q0
    have Q1 := Lib.hid q1
    have Q2 := Lib.hid q2
    clear hw6 hu6 q0 q1 q2
    go_wp2_with fail
    rw [← HW6.out]
    have hu6 := HU6.out
    have q0 := Q0.out
    have q1 := Q1.out
    have q2 := Q2.out
    (try simp only [Exit.inBlock, Exit.then])
    refine bodyPost_ret (v := .agg #[.bool false, .slice none 0 0, .slice A2 1 c2]) (by simp [results, Tryz.results123, go_sem, q0, q1, q2]; done) rfl ?_
    have hz6 := HB2.out.size
    exact ⟨_, rfl, (show FAt w6 _ ⟨false, [], [1]⟩ from FAt.upb ⟨_, _, rfl, LAt.nil .., HV2.out⟩ hu6), (HB0.out.trans (HB2.out.mono HB0.out.size)).trans (hu6.below (by omega) (by omega))⟩
  · have hN := h0
    have hS : ((sgF ⟨s, lim N, lim D⟩) == 0) = false := by
      unfold sgF
      simp only [ln_dig]
      rw [if_neg h0]
      cases s <;> rfl
    obtain ⟨k, hk⟩ : ∃ k, k = sgF ⟨s, lim N, lim D⟩ := ⟨_, rfl⟩
    rw [← hk] at hS ⊢
    have HN0 := Lib.hid hN
    clear h0 hN hk
    have cc := blk_cells ((HB1.out.block (w.heap.size) (by omega)).trans G1.out)
    have b10 := cc.1 0
    have b11 := cc.1 1
    have b12 := cc.1 2
    simp only [List.getElem?_toArray, List.getElem?_cons_zero, List.getElem?_cons_succ] at b10 b11 b12
    clear cc
    go_wp2_with fail
    refine (natGcd_any _ _ _ _ w1 (HX.out.below (HB0.out.trans (HB1.out.mono HB0.out.size))) (HY.out.below (HB0.out.trans (HB1.out.mono HB0.out.size))) (lim_lds _) (lim_lds _) HN1.out HN2.out).mono ?_
    rintro e w2 ⟨v2, rfl, hv2, hb2⟩
    rw [ln_dig, ln_dig] at hv2
    obtain ⟨g, hg⟩ : ∃ g, g = Nat.gcd N D := ⟨_, rfl⟩
    rw [← hg] at hv2
    have hg0 : g ≠ 0 := by
      rw [hg]
      exact Nat.ne_of_gt (Nat.gcd_pos_of_pos_right _ (Nat.pos_of_ne_zero HD0.out))
    have hgN : g ≤ D := by rw [hg]; exact Nat.gcd_le_right _ (Nat.pos_of_ne_zero HD0.out)
    have hgl : (lim g).length ≤ 10000000000 := Nat.le_trans (lim_len_mono hgN) HN2.out
    have HGL := Lib.hid hgl
    have HG := Lib.hid hg
    have HG0 := Lib.hid hg0
    have HV2 := Lib.hid hv2
    have HB2 := Lib.hid (HB1.out.trans (hb2.mono HB1.out.size))
    obtain ⟨A2, c2, rfl, -, -⟩ := hv2
    clear hb2 hg hgl hgN
    clear b10 b11 b12
    go_wp2_with fail
    refine (one_any w2).mono ?_
    rintro e w3 ⟨v3, rfl, hv3, hb3⟩
    have HV3 := Lib.hid hv3
    have HV2b := Lib.hid (HV2.out.below hb3)
    have HB3 := Lib.hid (HB2.out.trans (hb3.mono HB2.out.size))
    obtain ⟨A3, c3, rfl, -, -⟩ := hv3
    clear hb3
    go_wp2_with fail
    refine (natCmp_any _ _ _ _ w3 HV2b.out HV3.out (lim_lds _) (fun x hx => by simp at hx; subst hx; decide) HGL.out (by simp)).mono ?_
    rintro e w4 ⟨rfl, hb4⟩
    have hcm := cmpN_one hg0
    rw [ln_dig]
    have HV2c := Lib.hid (HV2b.out.below hb4)
    have HB4 := Lib.hid (HB3.out.trans (hb4.mono HB3.out.size))
    have HBw := Lib.hid (HB0.out.trans (HB4.out.mono HB0.out.size))
    clear hb4
    by_cases h1 : g = 1
    · have hcq : (cmpN g (ln [1]) == 0) = true := by rw [hcm, decide_eq_true h1]
      have HL : Hid (leastR s N D = ⟨s, lim N, lim D⟩) := Lib.hid (by unfold leastR; rw [if_neg HN0.out, ← HG.out, h1, Nat.div_one, Nat.div_one])
      clear hcm h1
      have cc := blk_cells ((HB4.out.block (w.heap.size) (by omega)).trans G1.out)
      have b10 := cc.1 0
      have b11 := cc.1 1
      have b12 := cc.1 2
      simp only [List.getElem?_toArray, List.getElem?_cons_zero, List.getElem?_cons_succ] at b10 b11 b12
      clear cc
      have cc := blk_cells ((HB4.out.block (w.heap.size + 1) (by omega)).trans G2.out)
      have b20 := cc.1 0
      have b21 := cc.1 1
      have b22 := cc.1 2
      have f20 := cc.2 0
      have f21 := cc.2 1
      have f22 := cc.2 2
      simp only [List.getElem?_toArray, List.getElem?_cons_zero, List.getElem?_cons_succ] at b20 b21 b22
      clear cc
      obtain ⟨w6, hw6⟩ : ∃ w6, w6 = ((w4.setCell ⟨w.heap.size + 1, 0, none⟩ (.bool s)).setCell ⟨w.heap.size + 1, 1, none⟩ (.slice A n c)).setCell ⟨w.heap.size + 1, 2, none⟩ (.slice A' n' c') := ⟨_, rfl⟩
      obtain ⟨hu6, q0, q1, q2⟩ := rat_set b20 b21 b22 _ _ _ _ _ _ _ _ hw6
      have HW6 := Lib.hid hw6
      have HU6 := Lib.hid hu6
      have Q0 := Lib.hid q0
      have Q1 := Lib.hid q1
      have Q2 := Lib.hid q2
      clear hw6 hu6 q0 q1 q2
      go_wp2_with fail
      rw [← HW6.out]
      have hu6 := HU6.out
      have q0 := Q0.out
      have q1 := Q1.out
      have q2 := Q2.out
      (try simp only [Exit.inBlock, Exit.then])
      refine bodyPost_ret (v := .agg #[.bool s, .slice A n c, .slice A' n' c']) (by simp [results, Tryz.results123, go_sem, q0, q1, q2]; done) rfl ?_
      have hz6 := HB4.out.size
      exact ⟨_, rfl, (by rw [HL.out]; exact (HF.out.below HBw.out).upb hu6), (HB0.out.trans (HB4.out.mono HB0.out.size)).trans (hu6.below (by omega) (by omega))⟩
    · have hcq : (cmpN g (ln [1]) == 0) = false := by rw [hcm, decide_eq_false h1]
      have HL : Hid (leastR s N D = ⟨s, lim (N / g), lim (D / g)⟩) := Lib.hid (by unfold leastR; rw [if_neg HN0.out, ← HG.out])
      clear hcm h1
      have cc := blk_cells ((HB4.out.block (w.heap.size) (by omega)).trans G1.out)
      have b10 := cc.1 0
      have b11 := cc.1 1
      have b12 := cc.1 2
      simp only [List.getElem?_toArray, List.getElem?_cons_zero, List.getElem?_cons_succ] at b10 b11 b12
      clear cc
      go_wp2_with fail
      refine (natDiv_any _ _ _ _ w4 (HX.out.below HBw.out) HV2c.out (lim_lds _) (lim_lds _) HN1.out HGL.out (by rw [ln_dig]; exact HG0.out)).mono ?_
      rintro e w5 ⟨v5, v6, rfl, hv5, hv6, hb5⟩
      rw [ln_dig, ln_dig] at hv5
      have HV5 := Lib.hid hv5
      have HV2d := Lib.hid (HV2c.out.below hb5)
      have HB5 := Lib.hid (HB4.out.trans (hb5.mono HB4.out.size))
      have HBw5 := Lib.hid (HB0.out.trans (HB5.out.mono HB0.out.size))
      obtain ⟨A5, c5, rfl, -, -⟩ := hv5
      obtain ⟨A6, c6, rfl, -, -⟩ := hv6
      clear hb5
      clear b10 b11 b12
      have cc := blk_cells ((HB5.out.block (w.heap.size) (by omega)).trans G1.out)
      have b10 := cc.1 0
      have b11 := cc.1 1
      have b12 := cc.1 2
      simp only [List.getElem?_toArray, List.getElem?_cons_zero, List.getElem?_cons_succ] at b10 b11 b12
      clear cc
      go_wp2_with fail
      refine (natDiv_any _ _ _ _ w5 (HY.out.below HBw5.out) HV2d.out (lim_lds _) (lim_lds _) HN2.out HGL.out (by rw [ln_dig]; exact HG0.out)).mono ?_
      rintro e w7 ⟨v7, v8, rfl, hv7, hv8, hb7⟩
      rw [ln_dig, ln_dig] at hv7
      have HV7 := Lib.hid hv7
      have HV5b := Lib.hid (HV5.out.below hb7)
      have HB7 := Lib.hid (HB5.out.trans (hb7.mono HB5.out.size))
      obtain ⟨A7, c7, rfl, -, -⟩ := hv7
      obtain ⟨A8, c8, rfl, -, -⟩ := hv8
      clear hb7
      clear b10 b11 b12
      have cc := blk_cells ((HB7.out.block (w.heap.size) (by omega)).trans G1.out)
      have b10 := cc.1 0
      have b11 := cc.1 1
      have b12 := cc.1 2
      simp only [List.getElem?_toArray, List.getElem?_cons_zero, List.getElem?_cons_succ] at b10 b11 b12
      clear cc
      have cc := blk_cells ((HB7.out.block (w.heap.size + 1) (by omega)).trans G2.out)
      have b20 := cc.1 0
      have b21 := cc.1 1
      have b22 := cc.1 2
      have f20 := cc.2 0
      have f21 := cc.2 1
      have f22 := cc.2 2
      simp only [List.getElem?_toArray, List.getElem?_cons_zero, List.getElem?_cons_succ] at b20 b21 b22
      clear cc
      obtain ⟨w6, hw6⟩ : ∃ w6, w6 = ((w7.setCell ⟨w.heap.size + 1, 0, none⟩ (.bool s)).setCell ⟨w.heap.size + 1, 1, none⟩ (.slice A5 (lim (N / g)).length c5)).setCell ⟨w.heap.size + 1, 2, none⟩ (.slice A7 (lim (D / g)).length c7) := ⟨_, rfl⟩
      obtain ⟨hu6, q0, q1, q2⟩ := rat_set b20 b21 b22 _ _ _ _ _ _ _ _ hw6
      have HW6 := Lib.hid hw6
      have HU6 := Lib.hid hu6
      have Q0 := Lib.hid q0
      have Q1 := Lib.hid q1
      have Q2 := Lib.hid q2
      clear hw6 hu6 q0 q1 q2
      go_wp2_with fail
      rw [← HW6.out]
      have hu6 := HU6.out
      have q0 := Q0.out
      have q1 := Q1.out
      have q2 := Q2.out
      (try simp only [Exit.inBlock, Exit.then])
      refine bodyPost_ret (v := .agg #[.bool s, .slice A5 (lim (N / g)).length c5, .slice A7 (lim (D / g)).length c7]) (by simp [results, Tryz.results123, go_sem, q0, q1, q2]; done) rfl ?_
      have hz6 := HB7.out.size
      exact ⟨_, rfl, (by rw [HL.out]; exact FAt.upb ⟨_, _, rfl, HV5b.out, HV7.out⟩ hu6), (HB0.out.trans (HB7.out.mono HB0.out.size)).trans (hu6.below (by omega) (by omega))⟩

end Go.Proofs.YtjokpfgncmdomaaGreatDoor
