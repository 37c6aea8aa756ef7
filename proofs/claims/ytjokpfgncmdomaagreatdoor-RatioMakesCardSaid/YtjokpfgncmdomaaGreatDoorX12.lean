import Derived.Test.YtjokpfgncmdomaaGreatDoorX11
set_option linter.unusedSimpArgs false
set_option linter.unusedVariables false
/- ratio.fraction, told: the walks -/
namespace Go.Proofs.YtjokpfgncmdomaaGreatDoor
open Go.RowKit Go.Sort

/-- a ratio as it lies in a struct: sign, limbs of the numerator, limbs of the denominator -/
structure RV where
  neg : Bool
  num : List Nat
  den : List Nat
  deriving DecidableEq
/-- its numerator -/
def RV.top (r : RV) : Int := if r.neg then -(ln r.num : Int) else (ln r.num : Int)
/-- its value -/
def RV.q (r : RV) : Rat := Rat.divInt r.top (ln r.den)
/-- the value v, in the world w, is the ratio r -/
def RAt (w : World) (v : Value) (r : RV) : Prop := ∃ A n c A' n' c', v = .agg #[.bool r.neg, .slice A n c, .slice A' n' c'] ∧ RdE Lc 1 w (fun b => b < w.heap.size) A n r.num ∧ RdE Lc 1 w (fun b => b < w.heap.size) A' n' r.den ∧ Lds r.num ∧ Lds r.den
theorem RdE.belowL {w w' : World} {A : Option Addr} {n : Nat} {xs : List Nat} (h : RdE Lc 1 w (fun b => b < w.heap.size) A n xs) (hb : Below w.heap.size w w') : RdE Lc 1 w' (fun b => b < w'.heap.size) A n xs :=
  (h.keep (Keeps.below hb (fun _ h => h))).imp (fun _ h => Nat.lt_of_lt_of_le h hb.size)
theorem RAt.below {w w' : World} {v : Value} {r : RV} (h : RAt w v r) (hb : Below w.heap.size w w') : RAt w' v r := by
  obtain ⟨A, n, c, A', n', c', e, h1, h2, h3, h4⟩ := h
  exact ⟨A, n, c, A', n', c', e, h1.belowL hb, h2.belowL hb, h3, h4⟩
/-- the right ratio of a number -/
def rv (q : Rat) : RV := ⟨decide (q.num < 0), lim q.num.natAbs, lim q.den⟩
theorem dig_ln_len {ls : List Nat} (h : Lds ls) : (dig (ln ls)).length ≤ 2 * ls.length := dig_len_le (by
  have := ln_lt h
  rw [Nat.pow_mul]
  exact this)
theorem top_abs (r : RV) : r.top.natAbs = ln r.num := by
  unfold RV.top
  split <;> omega

set_option maxRecDepth 100000 in
set_option maxHeartbeats 4000000 in
theorem fraction_ratio (v : Value) (r : RV) (w : World) (hr : RAt w v r) (hd : ln r.den ≠ 0) (hn : r.num.length ≤ 1000) (hm : r.den.length ≤ 1000) :
    Calls Tryz.prog 67 #[v] w fun e w' => ∃ g, e = .returned (.pointer (some ⟨g, 0, none⟩)) ∧ w.heap.size ≤ g ∧ RatAt w' g r.q ∧ Below w.heap.size w w' := by
  obtain ⟨A, n, c, A', n', c', rfl, h1, h2, h3, h4⟩ := hr
  obtain ⟨s, ns, ds⟩ := r
  have en := h1.num
  have em := h2.num
  simp only at h1 h2 h3 h4 hd hn hm en em
  have H1 := Lib.hid h1
  have H2 := Lib.hid h2
  have H3 := Lib.hid h3
  have H4 := Lib.hid h4
  have HD := Lib.hid hd
  have EN := Lib.hid en
  have EM := Lib.hid em
  clear h1 h2 h3 h4 hd en em
  go_enter Tryz.func67, Tryz.ntmps67
  go_wp2_with fail
  refine (whole_ratio A n c ns _ (H1.out.belowL (below1 ..)) H3.out (by have := EN.out; omega)).mono ?_
  rintro e w1 ⟨g1, rfl, hg1, hg1', hi1, hb1⟩
  have k0 := bat hb1 (new_cell w #[.bool s, .slice A n c, .slice A' n' c'] 24 0 _ rfl)
  have k2 := bat hb1 (new_cell w #[.bool s, .slice A n c, .slice A' n' c'] 24 2 _ rfl)
  have hb1' := (below1 w (.cells #[.bool s, .slice A n c, .slice A' n' c'] 24)).trans (hb1.mono (by simp))
  have HB1 := Lib.hid hb1'
  have HI1 := Lib.hid hi1
  have HN := Lib.hid (show (dig (ln ns)).length ≤ 1000000 from Nat.le_trans (dig_ln_len H3.out) (by omega))
  have HM := Lib.hid (show (dig (ln ds)).length ≤ 1000000 from Nat.le_trans (dig_ln_len H4.out) (by omega))
  have z1 := hb1'.size
  have hg1s : w.heap.size + 1 ≤ g1 := by simpa using hg1
  clear hi1 hb1 hb1'
  cases s
  · have kx := bat (below1 w1 newR) k2
    go_wp2_with fail
    refine (whole_ratio A' n' c' ds _ (H2.out.belowL ((HB1.out).trans ((below1 w1 newR).mono z1))) H4.out (by have := EM.out; omega)).mono ?_
    rintro e w3 ⟨g3, rfl, hg3, hg3', hi3, hb3⟩
    have HI3 := Lib.hid hi3
    have HB3 := Lib.hid hb3
    have z3 := hb3.size
    have hw3 : w1.heap.size + 1 ≤ w3.heap.size := by simpa using hb3.size
    clear hi3 hb3
    go_wp2_with fail
    refine (setFrac_rat w1.heap.size g1 0 g3 0 ((ln ns : Int)) (ln ds : Int) _ ((new_rat w1).below HB3.out) ((HI1.out.below (below1 ..)).below HB3.out) HI3.out (by have := HD.out; omega) (by rw [Int.natAbs_natCast]; exact HN.out) (by rw [Int.natAbs_natCast]; exact HM.out)).mono ?_
    rintro e w4 ⟨rfl, hr4, hu4⟩
    have HR4 := Lib.hid hr4
    have HU4 := Lib.hid hu4
    clear hr4 hu4
    go_wp2_with fail
    go_ret
    exact ⟨w1.heap.size, rfl, z1, HR4.out, (HB1.out).trans (((below1 w1 newR).mono z1).trans ((HB3.out.mono (by simp; omega)).trans (HU4.out.below z1 (by omega))))⟩
  · go_wp2_with fail
    refine (neg_int g1 0 g1 0 (ln ns : Int) (ln ns : Int) _ HI1.out HI1.out (by rw [Int.natAbs_natCast]; have := HN.out; omega)).mono ?_
    rintro e w2 ⟨rfl, hi2, hu2⟩
    have k2b := hu2.cellOf k2 (fun e => absurd e (by omega))
    have HI2 := Lib.hid hi2
    have hb2 := HB1.out.trans (hu2.below (by omega) z1)
    have HB2 := Lib.hid hb2
    have z2 := hb2.size
    clear hi2 hu2 hb2
    have kx := bat (below1 w2 newR) k2b
    go_wp2_with fail
    refine (whole_ratio A' n' c' ds _ (H2.out.belowL ((HB2.out).trans ((below1 w2 newR).mono z2))) H4.out (by have := EM.out; omega)).mono ?_
    rintro e w3 ⟨g3, rfl, hg3, hg3', hi3, hb3⟩
    have HI3 := Lib.hid hi3
    have HB3 := Lib.hid hb3
    have z3 := hb3.size
    have hw3 : w2.heap.size + 1 ≤ w3.heap.size := by simpa using hb3.size
    clear hi3 hb3
    go_wp2_with fail
    refine (setFrac_rat w2.heap.size g1 0 g3 0 (-(ln ns : Int)) (ln ds : Int) _ ((new_rat w2).below HB3.out) ((HI2.out.below (below1 ..)).below HB3.out) HI3.out (by have := HD.out; omega) (by rw [Int.natAbs_neg, Int.natAbs_natCast]; exact HN.out) (by rw [Int.natAbs_natCast]; exact HM.out)).mono ?_
    rintro e w4 ⟨rfl, hr4, hu4⟩
    have HR4 := Lib.hid hr4
    have HU4 := Lib.hid hu4
    clear hr4 hu4
    go_wp2_with fail
    go_ret
    exact ⟨w2.heap.size, rfl, z2, HR4.out, (HB2.out).trans (((below1 w2 newR).mono z2).trans ((HB3.out.mono (by simp; omega)).trans (HU4.out.below z2 (by omega))))⟩

end Go.Proofs.YtjokpfgncmdomaaGreatDoor

/- ratio.told: the walk -/
namespace Go.Proofs.YtjokpfgncmdomaaGreatDoor
open Go.RowKit Go.Sort

/-- may it be told? -/
def fits (q : Rat) : Prop := (lim q.num.natAbs).length ≤ 256 ∧ (lim q.den).length ≤ 256
instance (q : Rat) : Decidable (fits q) := inferInstanceAs (Decidable (_ ∧ _))
def noR : RV := ⟨false, [], []⟩
def toldR (q : Rat) : RV := if fits q then rv q else noR
def toldE (q : Rat) : Int := if fits q then 0 else 3
theorem noR_at (w : World) (c c' : Nat) : RAt w (.agg #[.bool false, .slice none 0 c, .slice none 0 c']) noR :=
  ⟨none, 0, c, none, 0, c', rfl, RdE.nil .., RdE.nil .., fun _ h => absurd h (by simp [noR]), fun _ h => absurd h (by simp [noR])⟩
theorem sgnI_zero {x : Int} : (sgnI x == 0) = decide (x = 0) := by
  unfold sgnI
  by_cases h : x < 0
  · have : x ≠ 0 := by omega
    simp [h, this]
  · by_cases h0 : x = 0 <;> simp [h, h0]
theorem sgnI_lt {x : Int} : decide (sgnI x < 0) = decide (x < 0) := by
  unfold sgnI
  by_cases h : x < 0
  · simp [h]; try omega
  · by_cases h0 : x = 0
    · simp [h0]
    · simp [h, h0]
theorem blk_cells {w : World} {g : Nat} {cs : Array Value} {t : TypeId} (h : w.heap[g]? = some (.cells cs t (0, 0))) : (∀ i, w.cell? ⟨g, i, none⟩ = cs[i]?) ∧ (∀ i, w.frozen? ⟨g, i, none⟩ = false) :=
  ⟨fun i => by simp [World.cell?, h], fun i => by simp [World.frozen?, h]⟩
theorem RAt.upb {w w' : World} {v : Value} {r : RV} {g : Nat} (h : RAt w v r) (hb : UpB w w' g) : RAt w' v r := by
  obtain ⟨A, n, c, A', n', c', e, h1, h2, h3, h4⟩ := h
  exact ⟨A, n, c, A', n', c', e, (hb.limbs h1).imp fun d hd => Nat.lt_of_lt_of_le hd hb.size, (hb.limbs h2).imp fun d hd => Nat.lt_of_lt_of_le hd hb.size, h3, h4⟩
/-- a ratio's block, set -/
theorem rat_set {w : World} {g : Nat} {b0 : Bool} {A A' : Option Addr} {n n' c c' : Nat} (k0 : w.cell? ⟨g, 0, none⟩ = some (.bool b0)) (k1 : w.cell? ⟨g, 1, none⟩ = some (.slice A n c)) (k2 : w.cell? ⟨g, 2, none⟩ = some (.slice A' n' c'))
    (s : Bool) (d1 d2 : Option Addr) (n1 n2 c1 c2 : Nat) :
    ∀ w', w' = ((w.setCell ⟨g, 0, none⟩ (.bool s)).setCell ⟨g, 1, none⟩ (.slice d1 n1 c1)).setCell ⟨g, 2, none⟩ (.slice d2 n2 c2) → UpB w w' g ∧ w'.cell? ⟨g, 0, none⟩ = some (.bool s) ∧ w'.cell? ⟨g, 1, none⟩ = some (.slice d1 n1 c1) ∧ w'.cell? ⟨g, 2, none⟩ = some (.slice d2 n2 c2) := by
  intro w' hw'
  subst hw'
  refine ⟨⟨rfl, rfl, rfl, by simp, fun k hk hne => ?_, fun o k x hv => ?_⟩, ?_, ?_, ?_⟩
  · rw [Below.heap_setCell _ _ _ _ hne, Below.heap_setCell _ _ _ _ hne, Below.heap_setCell _ _ _ _ hne]
  · have e0 : o ≠ 0 := by rintro rfl; rw [k0] at hv; cases hv
    have e1 : o ≠ 1 := by rintro rfl; rw [k1] at hv; cases hv
    have e2 : o ≠ 2 := by rintro rfl; rw [k2] at hv; cases hv
    simp [go_sem, e0, e1, e2, hv]
  · simp [go_sem, k0]
  · simp [go_sem, k1]
  · simp [go_sem, k2]
def Told (w : World) (q : Rat) (e : Ending) (w' : World) : Prop := ∃ v, e = .returned (.tuple #[v, .int .i64 (toldE q)]) ∧ RAt w' v (toldR q) ∧ Below w.heap.size w w'

set_option maxRecDepth 100000 in
set_option maxHeartbeats 4000000 in
theorem told_ratio (b : Nat) (q : Rat) (w : World) (hq : RatAt w b q) (hn : (dig q.num.natAbs).length ≤ 1000000) (hd : (dig q.den).length ≤ 1000000) :
    Calls Tryz.prog 60 #[.pointer (some ⟨b, 0, none⟩)] w (Told w q) := by
  have HQ := Lib.hid hq
  have HN := Lib.hid hn
  have HD := Lib.hid hd
  have hblt := hq.1.lt
  clear hq hn hd
  go_enter Tryz.func60, Tryz.ntmps60
  go_wp2_with fail
  refine (sign_rat b q _ (HQ.out.below (below1 ..))).mono ?_
  rintro e w' ⟨rfl, rfl⟩
  by_cases h0 : q.num = 0
  · have e0 : (sgnI q.num == 0) = true := by rw [sgnI_zero]; simp [h0]
    have H0 := Lib.hid h0
    clear h0
    go_wp2_with fail
    (try simp only [Exit.inBlock, Exit.then])
    refine bodyPost_ret (v := .tuple #[.agg #[.bool false, .slice none 0 0, .slice (some ⟨w.heap.size + 1, 0, none⟩) 1 1], .int .i64 0]) (by simp [results, Tryz.results60, go_sem]; done) rfl ?_
    have h0 := H0.out
    have hq0 : q = 0 := (Rat.num_divInt_den q).symm.trans (by rw [h0, Rat.zero_divInt])
    have hf : fits q := by rw [hq0]; decide
    refine ⟨_, by rw [toldE, if_pos hf], ?_, (below1 ..).trans ((below1 ..).mono (by simp))⟩
    rw [toldR, if_pos hf, hq0]
    refine ⟨none, 0, 0, some ⟨w.heap.size + 1, 0, none⟩, 1, 1, rfl, RdE.nil .., ?_, fun _ h => absurd h (by simp [rv, lim_zero]), lim_lds _⟩
    refine rde_blk (fr := (0, 0)) (cs := #[.int .u64 1]) (t := 58) ?_ rfl ?_ rfl rfl
    · have := blk_new (w.alloc (.cells #[.bool false, .slice none 0 0, .slice (some ⟨w.heap.size + 1, 0, none⟩) 1 1] 24)) #[.int .u64 1] 58
      rwa [World.size_alloc] at this
    · simp
  · have e0 : (sgnI q.num == 0) = false := by rw [sgnI_zero]; simp [h0]
    have H0 := Lib.hid h0
    clear h0
    go_wp2_with fail
    refine (sign_rat b q _ (HQ.out.below (below1 ..))).mono ?_
    rintro e w' ⟨rfl, rfl⟩
    have el : decide (sgnI q.num < 0) = decide (q.num < 0) := sgnI_lt
    go_wp2_with fail
    refine (num_rat b _).mono ?_
    rintro e w' ⟨rfl, rfl⟩
    have hni : IntAt ((w.alloc (.cells #[.bool false, .slice none 0 0, .slice none 0 0] 24)).alloc newI) (w.heap.size + 1) 0 0 := by
      have h := new_intAt (w.alloc (.cells #[.bool false, .slice none 0 0, .slice none 0 0] 24))
      rwa [World.size_alloc] at h
    go_wp2_with fail
    refine (abs_int (w.heap.size + 1) 0 b 0 0 q.num _ hni ((HQ.out.below (below1 ..)).below (below1 ..)).1 (by have := HN.out; omega)).mono ?_
    rintro e w1 ⟨rfl, hi1, hu1⟩
    have hb1 := hu1.below (B := w.heap.size + 1) (by omega) (by simp)
    have hc1 := (hb1.block w.heap.size (by omega)).trans (blk_old (blk_new w #[.bool false, .slice none 0 0, .slice none 0 0] 24) newI)
    have hbw : Below w.heap.size w w1 := (below1 w _).trans (((below1 ..).mono (by simp)).trans (hb1.mono (by omega)))
    have HI1 := Lib.hid hi1
    have HC1 := Lib.hid hc1
    have HBW := Lib.hid hbw
    have z1 := hbw.size
    have z1' := hb1.size
    simp only [World.size_alloc] at z1'
    clear hi1 hb1 hc1 hbw hu1 hni
    go_wp2_with fail
    refine (limbs_ratio (w.heap.size + 1) 0 q.num.natAbs w1 HI1.out HN.out).mono ?_
    rintro e w2 ⟨A1, c1, rfl, hl1, hr1, hb2⟩
    have HR1 := Lib.hid hr1
    have HB2 := Lib.hid hb2
    have z2 := hb2.size
    clear hr1 hb2
    go_wp2_with fail
    refine (denom_rat b q w2 ((HQ.out.below HBW.out).below HB2.out) HD.out).mono ?_
    rintro e w3 ⟨g3, rfl, hg3, hg3', hi3, hb3⟩
    have HI3 := Lib.hid hi3
    have HB3 := Lib.hid hb3
    have z3 := hb3.size
    clear hi3 hb3
    go_wp2_with fail
    refine (limbs_ratio g3 0 q.den w3 HI3.out HD.out).mono ?_
    rintro e w4 ⟨A2, c2, rfl, hl2, hr2, hb4⟩
    have HR2 := Lib.hid hr2
    have HB4 := Lib.hid hb4
    have z4 := hb4.size
    have hbz : Below w1.heap.size w1 w4 := HB2.out.trans ((HB3.out.mono z2).trans (HB4.out.mono (by omega)))
    have HBZ := Lib.hid hbz
    have hc4 := (hbz.block w.heap.size (by omega)).trans HC1.out
    clear hr2 hb4 hbz
    have hR : RAt w4 (.agg #[.bool (decide (q.num < 0)), .slice A1 (lim q.num.natAbs).length c1, .slice A2 (lim q.den).length c2]) (rv q) :=
      ⟨_, _, _, _, _, _, rfl, (HR1.out.keep (Keeps.below (HB3.out.trans (HB4.out.mono z3)) (fun _ h => h.2))).imp (fun d h => by have := h.2; omega), HR2.out.imp (fun d h => h.2), lim_lds _, lim_lds _⟩
    have HRR := Lib.hid hR
    clear hR
    have hbx := HBW.out.trans (HBZ.out.mono z1)
    have HBX := Lib.hid hbx
    clear hbx
    by_cases hf : fits q
    · obtain ⟨f1, f2⟩ := hf
      obtain ⟨n1, hn1⟩ : ∃ n1, n1 = (lim q.num.natAbs).length := ⟨_, rfl⟩
      obtain ⟨n2, hn2⟩ : ∃ n2, n2 = (lim q.den).length := ⟨_, rfl⟩
      rw [← hn1] at f1
      rw [← hn2] at f2
      rw [← hn1, ← hn2] at HRR
      rw [← hn1, ← hn2]
      have HN1 := Lib.hid hn1
      have HN2 := Lib.hid hn2
      clear hn1 hn2
      obtain ⟨kc, kf⟩ := blk_cells (blk_old hc4 (.cells #[.bool (decide (q.num < 0)), .slice A1 n1 c1, .slice A2 n2 c2] 24))
      have kc0 := kc 0
      have kc1 := kc 1
      have kc2 := kc 2
      have kf0 := kf 0
      have kf1 := kf 1
      have kf2 := kf 2
      simp only [List.getElem?_toArray, List.getElem?_cons_zero, List.getElem?_cons_succ] at kc0 kc1 kc2
      obtain ⟨w6, hw6⟩ : ∃ w6, w6 = (((w4.alloc (.cells #[.bool (decide (q.num < 0)), .slice A1 n1 c1, .slice A2 n2 c2] 24)).setCell ⟨w.heap.size, 0, none⟩ (.bool (decide (q.num < 0)))).setCell ⟨w.heap.size, 1, none⟩ (.slice A1 n1 c1)).setCell ⟨w.heap.size, 2, none⟩ (.slice A2 n2 c2) := ⟨_, rfl⟩
      obtain ⟨hu6, q0, q1, q2⟩ := rat_set kc0 kc1 kc2 _ _ _ _ _ _ _ _ hw6
      have HW6 := Lib.hid hw6
      have HU6 := Lib.hid hu6
      have Q0 := Lib.hid q0
      have Q1 := Lib.hid q1
      have Q2 := Lib.hid q2
      clear kc kf hc4 hw6 hu6 q0 q1 q2
      go_wp2_with fail
      rw [← HW6.out]
      have q0 := Q0.out
      have q1 := Q1.out
      have q2 := Q2.out
      (try simp only [Exit.inBlock, Exit.then])
      refine bodyPost_ret (v := .tuple #[.agg #[.bool (decide (q.num < 0)), .slice A1 n1 c1, .slice A2 n2 c2], .int .i64 0]) (by simp [results, Tryz.results60, go_sem, q0, q1, q2]; done) rfl ?_
      have hf : fits q := ⟨by rw [← HN1.out]; exact f1, by rw [← HN2.out]; exact f2⟩
      refine ⟨_, by rw [toldE, if_pos hf], ?_, HBX.out.trans (((below1 ..).mono (by omega)).trans (HU6.out.below (Nat.le_refl _) (by simp; omega)))⟩
      rw [toldR, if_pos hf]
      exact (HRR.out.below (below1 ..)).upb HU6.out
    · obtain ⟨n1, hn1⟩ : ∃ n1, n1 = (lim q.num.natAbs).length := ⟨_, rfl⟩
      obtain ⟨n2, hn2⟩ : ∃ n2, n2 = (lim q.den).length := ⟨_, rfl⟩
      have hor : 256 < n1 ∨ 256 < n2 := by
        rw [hn1, hn2]
        unfold fits at hf
        omega
      have HF := Lib.hid hf
      rw [← hn1, ← hn2] at HRR
      rw [← hn1, ← hn2]
      clear hn1 hn2 hf
      by_cases f1 : 256 < n1
      · clear hor
        have hx : decide (256 < (n1 : Int)) = true := by simp; omega
        obtain ⟨kc, kf⟩ := blk_cells (blk_old hc4 (.cells #[.bool (decide (q.num < 0)), .slice A1 n1 c1, .slice A2 n2 c2] 24))
        have kc0 := kc 0
        have kc1 := kc 1
        have kc2 := kc 2
        have kf0 := kf 0
        have kf1 := kf 1
        have kf2 := kf 2
        simp only [List.getElem?_toArray, List.getElem?_cons_zero, List.getElem?_cons_succ] at kc0 kc1 kc2
        obtain ⟨w6, hw6⟩ : ∃ w6, w6 = (((w4.alloc (.cells #[.bool (decide (q.num < 0)), .slice A1 n1 c1, .slice A2 n2 c2] 24)).setCell ⟨w.heap.size, 0, none⟩ (.bool false)).setCell ⟨w.heap.size, 1, none⟩ (.slice none 0 0)).setCell ⟨w.heap.size, 2, none⟩ (.slice none 0 0) := ⟨_, rfl⟩
        obtain ⟨hu6, q0, q1, q2⟩ := rat_set kc0 kc1 kc2 _ _ _ _ _ _ _ _ hw6
        have HW6 := Lib.hid hw6
        have HU6 := Lib.hid hu6
        have Q0 := Lib.hid q0
        have Q1 := Lib.hid q1
        have Q2 := Lib.hid q2
        clear kc kf hc4 hw6 hu6 q0 q1 q2
        go_wp2_with fail
        rw [← HW6.out]
        have q0 := Q0.out
        have q1 := Q1.out
        have q2 := Q2.out
        (try simp only [Exit.inBlock, Exit.then])
        refine bodyPost_ret (v := .tuple #[.agg #[.bool false, .slice none 0 0, .slice none 0 0], .int .i64 3]) (by simp [results, Tryz.results60, go_sem, q0, q1, q2]; done) rfl ?_
        refine ⟨_, by rw [toldE, if_neg HF.out], ?_, HBX.out.trans (((below1 ..).mono (by omega)).trans (HU6.out.below (Nat.le_refl _) (by simp; omega)))⟩
        rw [toldR, if_neg HF.out]
        exact noR_at _ _ _
      · have f2 : 256 < n2 := by omega
        clear hor
        have hx : decide (256 < (n1 : Int)) = false := by simp; omega
        have hy : decide (256 < (n2 : Int)) = true := by simp; omega
        obtain ⟨kc, kf⟩ := blk_cells (blk_old hc4 (.cells #[.bool (decide (q.num < 0)), .slice A1 n1 c1, .slice A2 n2 c2] 24))
        have kc0 := kc 0
        have kc1 := kc 1
        have kc2 := kc 2
        have kf0 := kf 0
        have kf1 := kf 1
        have kf2 := kf 2
        simp only [List.getElem?_toArray, List.getElem?_cons_zero, List.getElem?_cons_succ] at kc0 kc1 kc2
        obtain ⟨w6, hw6⟩ : ∃ w6, w6 = (((w4.alloc (.cells #[.bool (decide (q.num < 0)), .slice A1 n1 c1, .slice A2 n2 c2] 24)).setCell ⟨w.heap.size, 0, none⟩ (.bool false)).setCell ⟨w.heap.size, 1, none⟩ (.slice none 0 0)).setCell ⟨w.heap.size, 2, none⟩ (.slice none 0 0) := ⟨_, rfl⟩
        obtain ⟨hu6, q0, q1, q2⟩ := rat_set kc0 kc1 kc2 _ _ _ _ _ _ _ _ hw6
        have HW6 := Lib.hid hw6
        have HU6 := Lib.hid hu6
        have Q0 := Lib.hid q0
        have Q1 := Lib.hid q1
        have Q2 := Lib.hid q2
        clear kc kf hc4 hw6 hu6 q0 q1 q2
        go_wp2_with fail
        rw [← HW6.out]
        have q0 := Q0.out
        have q1 := Q1.out
        have q2 := Q2.out
        (try simp only [Exit.inBlock, Exit.then])
        refine bodyPost_ret (v := .tuple #[.agg #[.bool false, .slice none 0 0, .slice none 0 0], .int .i64 3]) (by simp [results, Tryz.results60, go_sem, q0, q1, q2]; done) rfl ?_
        refine ⟨_, by rw [toldE, if_neg HF.out], ?_, HBX.out.trans (((below1 ..).mono (by omega)).trans (HU6.out.below (Nat.le_refl _) (by simp; omega)))⟩
        rw [toldR, if_neg HF.out]
        exact noR_at _ _ _

end Go.Proofs.YtjokpfgncmdomaaGreatDoor

/- lists of limbs held together: slices.Equal, SameLimbs; ratio.top, nought: the walks. Printed by gen_t5.py -/
namespace Go.Proofs.YtjokpfgncmdomaaGreatDoor
open Go.RowKit Go.Sort

theorem take_eq_succ {xs ys : List Nat} {k x : Nat} (h : xs.take k = ys.take k) (hx : xs[k]? = some x) (hy : ys[k]? = some x) : xs.take (k + 1) = ys.take (k + 1) := by
  rw [List.take_add_one, List.take_add_one, h, hx, hy]
theorem ne_of_get {xs ys : List Nat} {k x y : Nat} (hx : xs[k]? = some x) (hy : ys[k]? = some y) (h : x ≠ y) : decide (xs = ys) = false := by
  refine decide_eq_false fun e => h ?_
  rw [e, hy] at hx
  exact (Option.some.inj hx).symm

set_option maxRecDepth 100000 in
set_option maxHeartbeats 4000000 in
theorem equal_limbs (A A' : Option Addr) (n n' c c' : Nat) (xs ys : List Nat) (S S' : Nat → Prop) (w : World) (hx : RdE Lc 1 w S A n xs) (hy : RdE Lc 1 w S' A' n' ys) (hn : n ≤ 1000000000000000) (hn' : n' ≤ 1000000000000000) :
    Calls Tryz.prog 75 #[.slice A n c, .slice A' n' c'] w fun e w' => e = .returned (.bool (decide (xs = ys))) ∧ Below w.heap.size w w' := by
  have HX := Lib.hid hx
  have HY := Lib.hid hy
  clear hx hy
  by_cases hne : n = n'
  · subst hne
    go_enter Tryz.func75, Tryz.ntmps75
    go_wp2_with fail
    go_loopw [13] (fun i wr => ∃ k : Nat, k ≤ n ∧ i = .int .i64 k ∧ Below w.heap.size w wr ∧ xs.take k = ys.take k) (fun i _ => n - (intOf i).toNat)
    case atStart => exact ⟨0, Nat.zero_le _, rfl, Below.refl _ _, rfl⟩
    case round =>
      obtain ⟨k, hk, rfl, hb, hs⟩ := hrel
      have HS := Lib.hid hs
      have HB := Lib.hid hb
      clear hs hb
      by_cases hlt : k < n
      · obtain ⟨x, ex⟩ := get_some HX.out.num hlt
        obtain ⟨y, ey⟩ := get_some HY.out.num hlt
        obtain ⟨b1, o1, rfl, hb1, hc⟩ := HX.out.elem (f := Lc) (size := 1) (fun _ => rfl) ex (by omega)
        obtain ⟨b2, o2, rfl, hb2, hd⟩ := HY.out.elem (f := Lc) (size := 1) (fun _ => rfl) ey (by omega)
        have q1 : wr.cell? ⟨b1, o1 + k, none⟩ = some (.int .u64 (x : Int)) := by have h := hc 0 _ rfl; rw [Nat.mul_one, Nat.add_zero] at h; exact bat HB.out h
        have q2 : wr.cell? ⟨b2, o2 + k, none⟩ = some (.int .u64 (y : Int)) := by have h := hd 0 _ rfl; rw [Nat.mul_one, Nat.add_zero] at h; exact bat HB.out h
        have EX := Lib.hid ex
        have EY := Lib.hid ey
        clear hc hd ex ey
        by_cases h1 : x = y
        · subst h1
          have e1 : ((x : Int) != (x : Int)) = false := by simp
          go_wp2_with fail
          go_quiet (fail)
          go_wp2_with fail
          go_roundw
          case rel => exact ⟨k + 1, by omega, by go_num, below_drewN HB.out _, take_eq_succ HS.out EX.out EY.out⟩
          case measure => simp [intOf]; omega
        · have e1 : ((x : Int) != (y : Int)) = true := by simp; omega
          have HE := Lib.hid (ne_of_get EX.out EY.out h1)
          clear h1
          go_wp2_with fail
          go_quiet (fail)
          go_wp2_with fail
          go_ret
          exact ⟨by rw [HE.out]; rfl, below_drewN HB.out _⟩
      · obtain rfl : n = k := by omega
        go_wp2_with fail
        go_ret
        have e := HS.out
        rw [List.take_of_length_le (by rw [HX.out.num]; exact Nat.le_refl _), List.take_of_length_le (by rw [HY.out.num]; exact Nat.le_refl _)] at e
        exact ⟨by rw [decide_eq_true e]; rfl, HB.out⟩
  · have h1 : ((n : Int) != n') = true := by simp; omega
    have HE := Lib.hid (show decide (xs = ys) = false from decide_eq_false fun e => hne (by rw [← HX.out.num, ← HY.out.num, e]))
    clear hne
    go_enter Tryz.func75, Tryz.ntmps75
    go_wp2_with fail
    go_ret
    exact ⟨by rw [HE.out]; rfl, Below.refl _ _⟩

set_option maxRecDepth 100000 in
set_option maxHeartbeats 4000000 in
theorem same_limbs (A A' : Option Addr) (n n' c c' : Nat) (xs ys : List Nat) (S S' : Nat → Prop) (w : World) (hx : RdE Lc 1 w S A n xs) (hy : RdE Lc 1 w S' A' n' ys) (hn : n ≤ 1000000000000000) (hn' : n' ≤ 1000000000000000) :
    Calls Tryz.prog 59 #[.slice A n c, .slice A' n' c'] w fun e w' => e = .returned (.bool (decide (xs = ys))) ∧ Below w.heap.size w w' := by
  have HX := Lib.hid hx
  have HY := Lib.hid hy
  clear hx hy
  by_cases hne : n = n'
  · subst hne
    go_enter Tryz.func59, Tryz.ntmps59
    go_wp2_with fail
    go_loopw [5] (fun i wr => ∃ k : Nat, k ≤ n ∧ i = .int .i64 k ∧ Below w.heap.size w wr ∧ xs.take k = ys.take k) (fun i _ => n - (intOf i).toNat)
    case atStart => exact ⟨0, Nat.zero_le _, rfl, Below.refl _ _, rfl⟩
    case round =>
      obtain ⟨k, hk, rfl, hb, hs⟩ := hrel
      have HS := Lib.hid hs
      have HB := Lib.hid hb
      clear hs hb
      by_cases hlt : k < n
      · obtain ⟨x, ex⟩ := get_some HX.out.num hlt
        obtain ⟨y, ey⟩ := get_some HY.out.num hlt
        obtain ⟨b1, o1, rfl, hb1, hc⟩ := HX.out.elem (f := Lc) (size := 1) (fun _ => rfl) ex (by omega)
        obtain ⟨b2, o2, rfl, hb2, hd⟩ := HY.out.elem (f := Lc) (size := 1) (fun _ => rfl) ey (by omega)
        have q1 : wr.cell? ⟨b1, o1 + k, none⟩ = some (.int .u64 (x : Int)) := by have h := hc 0 _ rfl; rw [Nat.mul_one, Nat.add_zero] at h; exact bat HB.out h
        have q2 : wr.cell? ⟨b2, o2 + k, none⟩ = some (.int .u64 (y : Int)) := by have h := hd 0 _ rfl; rw [Nat.mul_one, Nat.add_zero] at h; exact bat HB.out h
        have EX := Lib.hid ex
        have EY := Lib.hid ey
        clear hc hd ex ey
        by_cases h1 : x = y
        · subst h1
          have e1 : ((x : Int) != (x : Int)) = false := by simp
          go_wp2_with fail
          go_quiet (fail)
          go_wp2_with fail
          go_roundw
          case rel => exact ⟨k + 1, by omega, by go_num, below_drewN HB.out _, take_eq_succ HS.out EX.out EY.out⟩
          case measure => simp [intOf]; omega
        · have e1 : ((x : Int) != (y : Int)) = true := by simp; omega
          have HE := Lib.hid (ne_of_get EX.out EY.out h1)
          clear h1
          go_wp2_with fail
          go_quiet (fail)
          go_wp2_with fail
          go_ret
          exact ⟨by rw [HE.out]; rfl, below_drewN HB.out _⟩
      · obtain rfl : n = k := by omega
        go_wp2_with fail
        go_ret
        have e := HS.out
        rw [List.take_of_length_le (by rw [HX.out.num]; exact Nat.le_refl _), List.take_of_length_le (by rw [HY.out.num]; exact Nat.le_refl _)] at e
        exact ⟨by rw [decide_eq_true e]; rfl, HB.out⟩
  · have h1 : ((n : Int) != n') = true := by simp; omega
    have HE := Lib.hid (show decide (xs = ys) = false from decide_eq_false fun e => hne (by rw [← HX.out.num, ← HY.out.num, e]))
    clear hne
    go_enter Tryz.func59, Tryz.ntmps59
    go_wp2_with fail
    go_ret
    exact ⟨by rw [HE.out]; rfl, Below.refl _ _⟩

end Go.Proofs.YtjokpfgncmdomaaGreatDoor

/- ratio.nought, top: the walks -/
namespace Go.Proofs.YtjokpfgncmdomaaGreatDoor
open Go.RowKit Go.Sort

theorem nought1_ratio (x : Nat) (w : World) : Calls Tryz.prog 130 #[.int .u64 (x : Int)] w fun e w' => e = .returned (.bool (decide (x ≠ 0))) ∧ w = w' := by
  go_enter Tryz.func130, Tryz.ntmps130
  go_wp2_with fail
  go_ret
  refine ⟨?_, rfl⟩
  show Ending.returned (.bool ((x : Int) != 0)) = _
  by_cases h : x = 0 <;> simp [h]

theorem ln_pos {xs : List Nat} {k x : Nat} (hx : xs[k]? = some x) (h : x ≠ 0) : ln xs ≠ 0 := by
  intro e
  have h1 := ln_split xs k
  have h2 : (xs.drop k) = x :: xs.drop (k + 1) := by
    obtain ⟨hl, rfl⟩ := List.getElem?_eq_some_iff.1 hx
    exact List.drop_eq_getElem_cons hl
  have h3 : ln (xs.drop k) = x + W64 * ln (xs.drop (k + 1)) := by rw [h2]; rfl
  have h4 : 0 < W64 ^ k := Nat.pow_pos (by decide)
  have h5 : 0 < W64 ^ k * ln (xs.drop k) := Nat.mul_pos h4 (by omega)
  omega

set_option maxRecDepth 100000 in
set_option maxHeartbeats 4000000 in
theorem index_ratio (A : Option Addr) (n c : Nat) (xs : List Nat) (S : Nat → Prop) (w : World) (hx : RdE Lc 1 w S A n xs) (hn : n ≤ 1000000000000000) :
    Calls Tryz.prog 164 #[.slice A n c, .func (Fn.func 130) #[] #[]] w fun e w' => ∃ z : Int, e = .returned (.int .i64 z) ∧ decide (0 ≤ z) = decide (ln xs ≠ 0) ∧ w = w' := by
  have HX := Lib.hid hx
  clear hx
  go_enter Tryz.func164, Tryz.ntmps164
  go_wp2_with fail
  go_loopw [8] (fun i wr => ∃ k : Nat, k ≤ n ∧ i = .int .i64 k ∧ w = wr ∧ ∀ j x, j < k → xs[j]? = some x → x = 0) (fun i _ => n - (intOf i).toNat)
  case atStart => exact ⟨0, Nat.zero_le _, rfl, rfl, fun j x h => absurd h (by omega)⟩
  case round =>
    obtain ⟨k, hk, rfl, rfl, hs⟩ := hrel
    have HS := Lib.hid hs
    clear hs
    by_cases hlt : k < n
    · obtain ⟨x, ex⟩ := get_some HX.out.num hlt
      obtain ⟨b1, o1, rfl, hb1, hc⟩ := HX.out.elem (f := Lc) (size := 1) (fun _ => rfl) ex (by omega)
      have q1 : w.cell? ⟨b1, o1 + k, none⟩ = some (.int .u64 (x : Int)) := by have h := hc 0 _ rfl; rwa [Nat.mul_one, Nat.add_zero] at h
      have EX := Lib.hid ex
      clear hc ex
      go_wp2_with fail
      refine (nought1_ratio x w).mono ?_
      rintro e w' ⟨rfl, rfl⟩
      by_cases h0 : x = 0
      · have e0 : decide (x ≠ 0) = false := by simp [h0]
        have H0 := Lib.hid h0
        rw [e0]
        clear h0 e0
        go_wp2_with fail
        go_roundw
        case rel =>
          refine ⟨k + 1, by omega, by go_num, trivial, fun j y hj hy => ?_⟩
          by_cases e : j = k
          · subst e
            rw [EX.out] at hy
            rw [← Option.some.inj hy]
            exact H0.out
          · exact HS.out j y (by omega) hy
        case measure => simp [intOf]; omega
      · have e0 : decide (x ≠ 0) = true := by simp [h0]
        have H0 := Lib.hid h0
        rw [e0]
        clear h0 e0
        go_wp2_with fail
        go_ret
        exact ⟨k, rfl, by rw [decide_eq_true (by omega), decide_eq_true (ln_pos EX.out H0.out)], rfl⟩
    · obtain rfl : n = k := by omega
      go_wp2_with fail
      go_ret
      have e : ln xs = 0 := ln_zero fun j x hj => HS.out j x (by have := (List.getElem?_eq_some_iff.1 hj).1; have := HX.out.num; omega) hj
      exact ⟨-1, rfl, by rw [e]; rfl, rfl⟩

theorem contains_ratio (A : Option Addr) (n c : Nat) (xs : List Nat) (S : Nat → Prop) (w : World) (hx : RdE Lc 1 w S A n xs) (hn : n ≤ 1000000000000000) :
    Calls Tryz.prog 129 #[.slice A n c, .func (Fn.func 130) #[] #[]] w fun e w' => e = .returned (.bool (decide (ln xs ≠ 0))) ∧ w = w' := by
  have HX := Lib.hid hx
  clear hx
  go_enter Tryz.func129, Tryz.ntmps129
  go_wp2_with fail
  refine (index_ratio A n c xs S w HX.out hn).mono ?_
  rintro e w' ⟨z, rfl, hz, rfl⟩
  have HZ := Lib.hid hz
  clear hz
  go_wp2_with fail
  go_ret
  exact ⟨by rw [← HZ.out]; rfl, rfl⟩

theorem nought_ratio (A : Option Addr) (n c : Nat) (xs : List Nat) (S : Nat → Prop) (w : World) (hx : RdE Lc 1 w S A n xs) (hn : n ≤ 1000000000000000) :
    Calls Tryz.prog 73 #[.slice A n c] w fun e w' => e = .returned (.bool (decide (ln xs = 0))) ∧ w = w' := by
  have HX := Lib.hid hx
  clear hx
  go_enter Tryz.func73, Tryz.ntmps73
  go_wp2_with fail
  refine (contains_ratio A n c xs S w HX.out hn).mono ?_
  rintro e w' ⟨rfl, rfl⟩
  go_wp2_with fail
  go_ret
  refine ⟨?_, rfl⟩
  by_cases h : ln xs = 0 <;> simp [h]

/-- the last limb stands -/
def topB (xs : List Nat) : Bool := decide (0 < xs.length) && decide (xs.length ≤ 256) && decide (xs.getLast? ≠ some 0)
set_option maxRecDepth 100000 in
set_option maxHeartbeats 4000000 in
theorem top_ratio (A : Option Addr) (n c : Nat) (xs : List Nat) (S : Nat → Prop) (w : World) (hx : RdE Lc 1 w S A n xs) (hn : n ≤ 1000000000000000) :
    Calls Tryz.prog 76 #[.slice A n c] w fun e w' => e = .returned (.bool (topB xs)) ∧ w = w' := by
  have HX := Lib.hid hx
  clear hx
  by_cases h0 : n = 0
  · subst h0
    have HT := Lib.hid (show topB xs = false by unfold topB; rw [HX.out.num]; rfl)
    go_enter Tryz.func76, Tryz.ntmps76
    go_wp2_with fail
    go_ret
    exact ⟨by rw [HT.out]; rfl, rfl⟩
  · obtain ⟨m, rfl⟩ : ∃ m, n = m + 1 := ⟨n - 1, by omega⟩
    by_cases h1 : m + 1 ≤ 256
    · obtain ⟨x, ex⟩ := get_some HX.out.num (show m < m + 1 by omega)
      obtain ⟨b1, o1, rfl, hb1, hc⟩ := HX.out.elem (f := Lc) (size := 1) (fun _ => rfl) ex (by omega)
      have q1 : w.cell? ⟨b1, o1 + m, none⟩ = some (.int .u64 (x : Int)) := by have h := hc 0 _ rfl; rwa [Nat.mul_one, Nat.add_zero] at h
      have HT := Lib.hid (show topB xs = ((x : Int) != 0) by
        unfold topB
        rw [List.getLast?_eq_getElem?, HX.out.num, Nat.add_sub_cancel, ex]
        simp [h1]
        by_cases h : x = 0 <;> simp [h])
      clear hc ex
      go_enter Tryz.func76, Tryz.ntmps76
      go_wp2_with fail
      go_ret
      exact ⟨by rw [HT.out]; rfl, rfl⟩
    · have HT := Lib.hid (show topB xs = false by unfold topB; rw [HX.out.num]; simp; omega)
      go_enter Tryz.func76, Tryz.ntmps76
      go_wp2_with fail
      go_ret
      exact ⟨by rw [HT.out]; rfl, rfl⟩

end Go.Proofs.YtjokpfgncmdomaaGreatDoor

/- ratio.Right: the walk -/
namespace Go.Proofs.YtjokpfgncmdomaaGreatDoor
open Go.RowKit Go.Sort

theorem one_blk (w : World) (o : Obj) (v : Value) : ((w.alloc o).alloc (.cells #[v] 58)).heap[w.heap.size + 1]? = some (.cells #[v] 58 (0, 0)) := by
  have h := blk_new (w.alloc o) #[v] 58
  rwa [World.size_alloc] at h
def rightB (r : RV) : Bool := if r.num.length = 0 then !r.neg && decide (r.den = [1]) else topB r.num && topB r.den && decide (Nat.gcd (ln r.num) (ln r.den) = 1)

theorem topB_len {xs : List Nat} {n : Nat} (h : topB xs = true) (e : xs.length = n) : n ≤ 256 := by
  unfold topB at h
  simp at h
  omega
theorem topB_ne {xs : List Nat} (h : topB xs = true) (hl : Lds xs) : ln xs ≠ 0 := by
  unfold topB at h
  simp at h
  obtain ⟨⟨h1, _⟩, h2⟩ := h
  have hne : xs ≠ [] := by intro e; rw [e] at h1; simp at h1
  rw [List.getLast?_eq_getElem?] at h2
  have hk : xs.length - 1 < xs.length := by omega
  exact ln_pos (List.getElem?_eq_getElem hk) (fun e => h2 (by rw [List.getElem?_eq_getElem hk, e]))
theorem RdE.belowL2 {w w' : World} {A : Option Addr} {n : Nat} {xs : List Nat} (h : RdE Lc 1 w (fun b => b < w.heap.size) A n xs) (hb : Below w.heap.size w w') : RdE Lc 1 w' (fun b => b < w'.heap.size) A n xs := h.belowL hb

/-- the memory while Right's divisor is worked out -/
def RgMF (w0 : World) (X Y G : Int) (listed : Array Bool) (p0 g1 g2 : Nat) (w : World) : Prop :=
  Below w0.heap.size w0 w ∧ (lst listed 0 = true → w0.heap.size ≤ p0 ∧ IntAt w p0 0 (if lst listed 7 = true then G else 0)) ∧ (lst listed 3 = true → lst listed 7 = false → IntAt w g1 0 X) ∧ (lst listed 6 = true → lst listed 7 = false → IntAt w g2 0 Y)
theorem RgMF.set {w0 : World} {X Y G : Int} {listed : Array Bool} {p0 g1 g2 : Nat} {w : World} (h : RgMF w0 X Y G listed p0 g1 g2 w) {i : Nat} (h0 : i ≠ 0) (h1 : i ≠ 3) (h7 : i ≠ 6) (h8 : i ≠ 7) : RgMF w0 X Y G (listed.setIfInBounds i true) p0 g1 g2 w := by
  unfold RgMF at h ⊢
  rw [lst_ne h0, lst_ne h1, lst_ne h7, lst_ne h8]
  exact h
def RgJ (s : Bool) (A A' : Option Addr) (n n' c c' : Nat) (b0 : Nat) (w0 : World) (X Y G : Int) (listed : Array Bool) (a : Act) (w : World) : Prop := ∃ p0 g1 g2 : Nat, a = ⟨#[(.agg #[.bool s, .slice A n c, .slice A' n' c']), (.pointer (some ⟨b0, 0, none⟩)), (.bool false), ((iv (lst listed 8) (.pointer (some ⟨p0, 0, none⟩)) (undef))), (.pointer (some ⟨b0, 1, none⟩)), (.slice A n c), (.int .i64 (n : Int)), (.bool false), (undef), (undef), (undef), (undef), (undef), (undef), (undef), (undef), (undef), (.pointer (some ⟨b0, 1, none⟩)), (.slice A n c), (.bool true), (.bool false), (.bool false), (.pointer (some ⟨b0, 2, none⟩)), (.slice A' n' c'), (.bool true), (.bool false), (.bool false), ((iv (lst listed 0) (.pointer (some ⟨p0, 0, none⟩)) (undef))), ((iv (lst listed 1) (.pointer (some ⟨b0, 1, none⟩)) (undef))), ((iv (lst listed 2) (.slice A n c) (undef))), ((iv (lst listed 3) (.pointer (some ⟨g1, 0, none⟩)) (undef))), ((iv (lst listed 4) (.pointer (some ⟨b0, 2, none⟩)) (undef))), ((iv (lst listed 5) (.slice A' n' c') (undef))), ((iv (lst listed 6) (.pointer (some ⟨g2, 0, none⟩)) (undef))), ((iv (lst listed 7) (.pointer (some ⟨p0, 0, none⟩)) (undef))), (undef), (undef), (undef), (undef), (undef), (undef), (undef)], []⟩ ∧ RgMF w0 X Y G listed p0 g1 g2 w

set_option maxRecDepth 100000 in
set_option maxHeartbeats 4000000 in
theorem right_ratio (v : Value) (r : RV) (w : World) (hr : RAt w v r) (hn : r.num.length ≤ 1000000000000000) (hm : r.den.length ≤ 1000000000000000) :
    Calls Tryz.prog 29 #[v] w fun e w' => e = .returned (.bool (rightB r)) ∧ Below w.heap.size w w' := by
  obtain ⟨A, n, c, A', n', c', rfl, h1, h2, h3, h4⟩ := hr
  obtain ⟨s, ns, ds⟩ := r
  have en := h1.num
  have em := h2.num
  simp only at h1 h2 h3 h4 hn hm en em
  have H1 := Lib.hid h1
  have H2 := Lib.hid h2
  have H3 := Lib.hid h3
  have H4 := Lib.hid h4
  have EN := Lib.hid en
  have EM := Lib.hid em
  have hn' : n ≤ 1000000000000000 := by omega
  have hm' : n' ≤ 1000000000000000 := by omega
  clear h1 h2 h3 h4 en em hn hm
  by_cases h0 : n = 0
  · subst h0
    cases s
    · have HR := Lib.hid (show rightB ⟨false, ns, ds⟩ = decide (ds = [1]) by unfold rightB; simp [EN.out])
      go_enter Tryz.func29, Tryz.ntmps29
      go_wp2_with fail
      refine (equal_limbs A' (some ⟨w.heap.size + 1, 0, none⟩) n' 1 c' 1 ds [1] _ (fun _ => True) _ (H2.out.belowL (below2 ..)) (rde_blk (one_blk w _ _) rfl trivial rfl rfl) hm' (by omega)).mono ?_
      rintro e w1 ⟨rfl, hb1⟩
      have HB1 := Lib.hid hb1
      clear hb1
      go_wp2_with fail
      go_ret
      exact ⟨by rw [HR.out]; rfl, (below2 ..).trans (HB1.out.mono (by simp; omega))⟩
    · have HR := Lib.hid (show rightB ⟨true, ns, ds⟩ = false by unfold rightB; simp [EN.out])
      go_enter Tryz.func29, Tryz.ntmps29
      go_wp2_with fail
      go_ret
      exact ⟨by rw [HR.out]; rfl, below1 ..⟩
  · have hz : ((n : Int) == 0) = false := by simp; omega
    have HN := Lib.hid h0
    clear h0
    go_enter Tryz.func29, Tryz.ntmps29
    go_wp2_with fail
    refine (top_ratio A n c ns _ _ (H1.out.belowL (below1 ..)) hn').mono ?_
    rintro e w' ⟨rfl, rfl⟩
    cases ht : topB ns
    · have HR := Lib.hid (show rightB ⟨s, ns, ds⟩ = false by unfold rightB; rw [if_neg (by rw [EN.out]; exact HN.out)]; simp [ht])
      clear ht
      go_wp2_with fail
      go_ret
      exact ⟨by rw [HR.out]; rfl, below1 ..⟩
    · have HT := Lib.hid ht
      clear ht
      go_wp2_with fail
      refine (top_ratio A' n' c' ds _ _ (H2.out.belowL (below1 ..)) hm').mono ?_
      rintro e w' ⟨rfl, rfl⟩
      cases ht : topB ds
      · have HR := Lib.hid (show rightB ⟨s, ns, ds⟩ = false by unfold rightB; rw [if_neg (by rw [EN.out]; exact HN.out)]; simp [ht])
        clear ht
        go_wp2_with fail
        go_ret
        exact ⟨by rw [HR.out]; rfl, below1 ..⟩
      · have HT2 := Lib.hid ht
        have HR := Lib.hid (show rightB ⟨s, ns, ds⟩ = decide (Nat.gcd (ln ns) (ln ds) = 1) by unfold rightB; rw [if_neg (by rw [EN.out]; exact HN.out)]; simp [ht, HT.out])
        clear ht
        go_wp2_with fail
        obtain ⟨w0, hw0⟩ : ∃ w0, w0 = w.alloc (.cells #[.bool s, .slice A n c, .slice A' n' c'] 24) := ⟨_, rfl⟩
        have K1 := Lib.hid (show w0.cell? ⟨w.heap.size, 1, none⟩ = some (.slice A n c) by rw [hw0]; exact new_cell w _ _ 1 _ rfl)
        have K2 := Lib.hid (show w0.cell? ⟨w.heap.size, 2, none⟩ = some (.slice A' n' c') by rw [hw0]; exact new_cell w _ _ 2 _ rfl)
        have HB0 := Lib.hid (show Below w.heap.size w w0 by rw [hw0]; exact below1 ..)
        have H1' := Lib.hid (H1.out.belowL (HB0.out))
        have H2' := Lib.hid (H2.out.belowL (HB0.out))
        have n1 : n ≤ 256 := topB_len HT.out EN.out
        have n2 : n' ≤ 256 := topB_len HT2.out EM.out
        have X0 := Lib.hid (topB_ne HT.out H3.out)
        have Y0 := Lib.hid (topB_ne HT2.out H4.out)
        have XL := Lib.hid (show (dig (ln ns)).length ≤ 1000000 from Nat.le_trans (dig_ln_len H3.out) (by have := EN.out; omega))
        have YL := Lib.hid (show (dig (ln ds)).length ≤ 1000000 from Nat.le_trans (dig_ln_len H4.out) (by have := EM.out; omega))
        rw [← hw0]
        clear hw0
        go_cut [3] (fun sv wx => ∃ p0 : Nat, sv = .pointer (some ⟨p0, 0, none⟩) ∧ IntAt wx p0 0 ((Nat.gcd (ln ns) (ln ds) : Nat) : Int) ∧ Below w.heap.size w wx)
        case first =>
         refine wp_region_inv (RgJ s A A' n n' c c' w.heap.size w0 (ln ns : Int) (ln ds : Int) ((Nat.gcd (ln ns) (ln ds) : Nat) : Int)) (by kernel_rfl) ?_ ?_ ?_
         · refine ⟨0, 0, 0, rfl, (Below.refl _ _).drew, ?_, ?_, ?_⟩
           all_goals (intro h; exact absurd h (by decide))
         · intro listed a w1 hs hcl hJ i hi
           obtain ⟨p0, g1, g2, rfl, hmf⟩ := hJ
           have hlt : i < 9 := by
             obtain ⟨_, o, ho, _⟩ := mem_ready.1 hi
             exact (Array.getElem?_eq_some_iff.1 ho).1
           have HSZ : Hid (listed.size = 9) := Lib.hid hs
           refine inv_deps (J := RgJ s A A' n n' c c' w.heap.size w0 (ln ns : Int) (ln ds : Int) ((Nat.gcd (ln ns) (ln ds) : Nat) : Int)) hi fun hu hdep => ?_
           clear hs hi
           have hm2 := hmf
           unfold RgMF at hm2
           have zw := hm2.1.size
           rcases (show i = 0 ∨ i = 1 ∨ i = 2 ∨ i = 3 ∨ i = 4 ∨ i = 5 ∨ i = 6 ∨ i = 7 ∨ i = 8 by omega) with rfl | rfl | rfl | rfl | rfl | rfl | rfl | rfl | rfl
           · -- operation 0
             have nn7 : lst listed 7 = false := closed_not hcl 8 (by kernel_rfl) hu
             have nn8 : lst listed 8 = false := closed_not hcl 8 (by kernel_rfl) hu
             refine inv_op rfl (fun K hK => ?_)
             go_simp
             refine hK.out _ _ ⟨w1.heap.size, g1, g2, ?_, ?_⟩
             · skip
               try simp only [Act.put, lyD, lyE, lyF]
               rw [lst_self (show 0 < listed.size by rw [HSZ.out]; decide)]
               simp only [lst_ne (show 0 ≠ 1 by decide), lst_ne (show 0 ≠ 2 by decide), lst_ne (show 0 ≠ 3 by decide), lst_ne (show 0 ≠ 4 by decide), lst_ne (show 0 ≠ 5 by decide), lst_ne (show 0 ≠ 6 by decide), lst_ne (show 0 ≠ 7 by decide), lst_ne (show 0 ≠ 8 by decide), iv_true, nn7, nn8, iv_false]
             · unfold RgMF
               rw [lst_ne (show 0 ≠ 3 by decide), lst_ne (show 0 ≠ 6 by decide), lst_ne (show 0 ≠ 7 by decide)]
               refine ⟨hm2.1.alloc zw _, fun _ => ?_, fun h h' => (hm2.2.2.1 h h').below (below1 w1 _), fun h h' => (hm2.2.2.2 h h').below (below1 w1 _)⟩
               rw [nn7]
               exact ⟨zw, new_intAt w1⟩
           · -- operation 1
             refine inv_op rfl (fun K hK => ?_)
             go_simp
             refine hK.out _ _ ⟨p0, g1, g2, ?_, hmf.set (by decide) (by decide) (by decide) (by decide)⟩
             · skip
               try simp only [Act.put, lyD, lyE, lyF]
               rw [lst_self (show 1 < listed.size by rw [HSZ.out]; decide)]
               simp only [lst_ne (show 1 ≠ 0 by decide), lst_ne (show 1 ≠ 2 by decide), lst_ne (show 1 ≠ 3 by decide), lst_ne (show 1 ≠ 4 by decide), lst_ne (show 1 ≠ 5 by decide), lst_ne (show 1 ≠ 6 by decide), lst_ne (show 1 ≠ 7 by decide), lst_ne (show 1 ≠ 8 by decide), iv_true]
           · -- operation 2
             have d1 : lst listed 1 = true := hdep 1 (by kernel_rfl)
             have kc := bat hm2.1 K1.out
             refine inv_op rfl (fun K hK => ?_)
             simp only [d1, iv_true]
             go_simp
             refine hK.out _ _ ⟨p0, g1, g2, ?_, hmf.set (by decide) (by decide) (by decide) (by decide)⟩
             · skip
               try simp only [Act.put, lyD, lyE, lyF]
               rw [lst_self (show 2 < listed.size by rw [HSZ.out]; decide)]
               simp only [lst_ne (show 2 ≠ 0 by decide), lst_ne (show 2 ≠ 1 by decide), lst_ne (show 2 ≠ 3 by decide), lst_ne (show 2 ≠ 4 by decide), lst_ne (show 2 ≠ 5 by decide), lst_ne (show 2 ≠ 6 by decide), lst_ne (show 2 ≠ 7 by decide), lst_ne (show 2 ≠ 8 by decide), iv_true, d1]
           · -- operation 3
             have d2 : lst listed 2 = true := hdep 2 (by kernel_rfl)
             have nn7 : lst listed 7 = false := closed_not hcl 8 (by kernel_rfl) hu
             have nn6 : lst listed 6 = false := closed_not hcl 8 (by kernel_rfl) hu
             refine inv_op rfl (fun K hK => ?_)
             simp only [d2, iv_true]
             go_simp
             refine (whole_ratio A n c ns w1 (H1'.out.belowL2 hm2.1) H3.out (by omega)).mono ?_
             rintro e w2 ⟨gg, rfl, hg, hg', hi2, hb2⟩
             try go_wp2_with fail
             refine hK.out _ _ ⟨p0, gg, g2, ?_, ?_⟩
             · skip
               try simp only [Act.put, lyD, lyE, lyF]
               rw [lst_self (show 3 < listed.size by rw [HSZ.out]; decide)]
               simp only [lst_ne (show 3 ≠ 0 by decide), lst_ne (show 3 ≠ 1 by decide), lst_ne (show 3 ≠ 2 by decide), lst_ne (show 3 ≠ 4 by decide), lst_ne (show 3 ≠ 5 by decide), lst_ne (show 3 ≠ 6 by decide), lst_ne (show 3 ≠ 7 by decide), lst_ne (show 3 ≠ 8 by decide), iv_true, d2, nn6, nn7, iv_false]
             · unfold RgMF
               rw [lst_ne (show 3 ≠ 0 by decide), lst_ne (show 3 ≠ 7 by decide), lst_ne (show 3 ≠ 6 by decide)]
               refine ⟨hm2.1.trans (hb2.mono zw), fun h => ⟨(hm2.2.1 h).1, (hm2.2.1 h).2.below hb2⟩, ?_, ?_⟩
               · exact fun _ _ => hi2
               · exact fun h h' => (hm2.2.2.2 h h').below hb2
           · -- operation 4
             refine inv_op rfl (fun K hK => ?_)
             go_simp
             refine hK.out _ _ ⟨p0, g1, g2, ?_, hmf.set (by decide) (by decide) (by decide) (by decide)⟩
             · skip
               try simp only [Act.put, lyD, lyE, lyF]
               rw [lst_self (show 4 < listed.size by rw [HSZ.out]; decide)]
               simp only [lst_ne (show 4 ≠ 0 by decide), lst_ne (show 4 ≠ 1 by decide), lst_ne (show 4 ≠ 2 by decide), lst_ne (show 4 ≠ 3 by decide), lst_ne (show 4 ≠ 5 by decide), lst_ne (show 4 ≠ 6 by decide), lst_ne (show 4 ≠ 7 by decide), lst_ne (show 4 ≠ 8 by decide), iv_true]
           · -- operation 5
             have d4 : lst listed 4 = true := hdep 4 (by kernel_rfl)
             have kc := bat hm2.1 K2.out
             refine inv_op rfl (fun K hK => ?_)
             simp only [d4, iv_true]
             go_simp
             refine hK.out _ _ ⟨p0, g1, g2, ?_, hmf.set (by decide) (by decide) (by decide) (by decide)⟩
             · skip
               try simp only [Act.put, lyD, lyE, lyF]
               rw [lst_self (show 5 < listed.size by rw [HSZ.out]; decide)]
               simp only [lst_ne (show 5 ≠ 0 by decide), lst_ne (show 5 ≠ 1 by decide), lst_ne (show 5 ≠ 2 by decide), lst_ne (show 5 ≠ 3 by decide), lst_ne (show 5 ≠ 4 by decide), lst_ne (show 5 ≠ 6 by decide), lst_ne (show 5 ≠ 7 by decide), lst_ne (show 5 ≠ 8 by decide), iv_true, d4]
           · -- operation 6
             have d5 : lst listed 5 = true := hdep 5 (by kernel_rfl)
             have d3 : lst listed 3 = true := hdep 3 (by kernel_rfl)
             have nn7 : lst listed 7 = false := closed_not hcl 8 (by kernel_rfl) hu
             refine inv_op rfl (fun K hK => ?_)
             simp only [d5, d3, iv_true]
             go_simp
             refine (whole_ratio A' n' c' ds w1 (H2'.out.belowL2 hm2.1) H4.out (by omega)).mono ?_
             rintro e w2 ⟨gg, rfl, hg, hg', hi2, hb2⟩
             try go_wp2_with fail
             refine hK.out _ _ ⟨p0, g1, gg, ?_, ?_⟩
             · skip
               try simp only [Act.put, lyD, lyE, lyF]
               rw [lst_self (show 6 < listed.size by rw [HSZ.out]; decide)]
               simp only [lst_ne (show 6 ≠ 0 by decide), lst_ne (show 6 ≠ 1 by decide), lst_ne (show 6 ≠ 2 by decide), lst_ne (show 6 ≠ 3 by decide), lst_ne (show 6 ≠ 4 by decide), lst_ne (show 6 ≠ 5 by decide), lst_ne (show 6 ≠ 7 by decide), lst_ne (show 6 ≠ 8 by decide), iv_true, d5, d3, nn7, iv_false]
             · unfold RgMF
               rw [lst_ne (show 6 ≠ 0 by decide), lst_ne (show 6 ≠ 7 by decide), lst_ne (show 6 ≠ 3 by decide)]
               refine ⟨hm2.1.trans (hb2.mono zw), fun h => ⟨(hm2.2.1 h).1, (hm2.2.1 h).2.below hb2⟩, ?_, ?_⟩
               · exact fun h h' => (hm2.2.2.1 h h').below hb2
               · exact fun _ _ => hi2
           · -- operation 7
             have d0 : lst listed 0 = true := hdep 0 (by kernel_rfl)
             have d3 : lst listed 3 = true := hdep 3 (by kernel_rfl)
             have d6 : lst listed 6 = true := hdep 6 (by kernel_rfl)
             refine inv_op rfl (fun K hK => ?_)
             simp only [d0, d3, d6, iv_true]
             go_simp
             have nI : lst listed 7 = false := hu
             have hme := hm2.2.1 d0
             have h1 := hm2.2.2.1 d3 nI
             have h2 := hm2.2.2.2 d6 nI
             rw [nI] at hme
             refine (gcd_int p0 0 g1 0 g2 0 0 (ln ns) (ln ds) w1 hme.2 h1 h2 X0.out Y0.out XL.out YL.out).mono ?_
             rintro e w2 ⟨rfl, hi2, hu2⟩
             try go_wp2_with fail
             refine hK.out _ _ ⟨p0, g1, g2, ?_, ?_⟩
             · skip
               try simp only [Act.put, lyD, lyE, lyF]
               rw [lst_self (show 7 < listed.size by rw [HSZ.out]; decide)]
               simp only [lst_ne (show 7 ≠ 0 by decide), lst_ne (show 7 ≠ 1 by decide), lst_ne (show 7 ≠ 2 by decide), lst_ne (show 7 ≠ 3 by decide), lst_ne (show 7 ≠ 4 by decide), lst_ne (show 7 ≠ 5 by decide), lst_ne (show 7 ≠ 6 by decide), lst_ne (show 7 ≠ 8 by decide), iv_true, d0, d3, d6]
             · unfold RgMF
               rw [lst_ne (show 7 ≠ 0 by decide), lst_ne (show 7 ≠ 3 by decide), lst_ne (show 7 ≠ 6 by decide), lst_self (show 7 < listed.size by rw [HSZ.out]; decide)]
               exact ⟨hm2.1.trans (hu2.toB.below hme.1 zw), fun _ => ⟨hme.1, hi2⟩, fun _ h => absurd h (by decide), fun _ h => absurd h (by decide)⟩
           · -- operation 8
             have d7 : lst listed 7 = true := hdep 7 (by kernel_rfl)
             refine inv_op rfl (fun K hK => ?_)
             simp only [d7, iv_true]
             go_simp
             refine hK.out _ _ ⟨p0, g1, g2, ?_, hmf.set (by decide) (by decide) (by decide) (by decide)⟩
             · skip
               try simp only [Act.put, lyD, lyE, lyF]
               rw [lst_self (show 8 < listed.size by rw [HSZ.out]; decide)]
               simp only [lst_ne (show 8 ≠ 0 by decide), lst_ne (show 8 ≠ 1 by decide), lst_ne (show 8 ≠ 2 by decide), lst_ne (show 8 ≠ 3 by decide), lst_ne (show 8 ≠ 4 by decide), lst_ne (show 8 ≠ 5 by decide), lst_ne (show 8 ≠ 6 by decide), lst_ne (show 8 ≠ 7 by decide), iv_true, d7]
         · intro listed a w1 hs hr hJ
           obtain ⟨p0, g1, g2, rfl, hmf⟩ := hJ
           have hall := all_listed hs hr (by kernel_rfl)
           have h0 := hmf.2.1 (hall 0 (by decide))
           rw [show lst listed 7 = true from hall 7 (by decide)] at h0
           have HM := Lib.hid h0
           have HB := Lib.hid hmf.1
           simp only [(show lst listed 0 = true from hall 0 (by decide)), (show lst listed 1 = true from hall 1 (by decide)), (show lst listed 2 = true from hall 2 (by decide)), (show lst listed 3 = true from hall 3 (by decide)), (show lst listed 4 = true from hall 4 (by decide)), (show lst listed 5 = true from hall 5 (by decide)), (show lst listed 6 = true from hall 6 (by decide)), (show lst listed 7 = true from hall 7 (by decide)), (show lst listed 8 = true from hall 8 (by decide)), iv_true]
           clear hmf hall h0 hs hr
           go_wp2_with fail
           go_meet
           exact ⟨p0, rfl, HM.out.2, HB0.out.trans (HB.out.mono HB0.out.size)⟩
        case rest =>
          obtain ⟨p0, rfl, hi, hb⟩ := hcut
          obtain ⟨G, hG⟩ : ∃ G, G = Nat.gcd (ln ns) (ln ds) := ⟨_, rfl⟩
          rw [← hG] at hi
          have HR2 := Lib.hid (show rightB ⟨s, ns, ds⟩ = decide (G = 1) by rw [HR.out, hG])
          have HI := Lib.hid hi
          have HB := Lib.hid hb
          have GL := Lib.hid (show (dig G).length ≤ 10000000 by
            rw [hG]
            exact Nat.le_trans (dig_len_mono (Nat.le_of_dvd (Nat.pos_of_ne_zero X0.out) (Nat.gcd_dvd_left _ _))) (by have := XL.out; omega))
          clear hG hi hb
          go_wp2_with fail
          refine (isU_int p0 0 (G : Int) _ HI.out (by rw [Int.natAbs_natCast]; exact GL.out) (by omega)).mono ?_
          rintro e w' ⟨rfl, rfl⟩
          rw [Int.natAbs_natCast]
          by_cases hU : blen G ≤ 64
          · have hlt : G < 18446744073709551616 := Nat.lt_of_lt_of_le blen_lt (Nat.pow_le_pow_right (by decide) hU)
            have HL := Lib.hid hlt
            rw [decide_eq_true hU]
            clear hU hlt
            go_wp2_with fail
            refine (uint64_int p0 0 (G : Int) _ HI.out).mono ?_
            rintro e w' ⟨rfl, rfl⟩
            rw [Int.natAbs_natCast, Nat.mod_eq_of_lt HL.out]
            go_wp2_with fail
            go_ret
            refine ⟨?_, HB.out⟩
            rw [HR2.out]
            by_cases h : G = 1 <;> simp [h]
            all_goals (try omega)
          · have hne : G ≠ 1 := by
              rintro rfl
              exact hU (by decide)
            have HL := Lib.hid hne
            rw [decide_eq_false hU]
            clear hU hne
            go_wp2_with fail
            go_ret
            refine ⟨?_, HB.out⟩
            rw [HR2.out, decide_eq_false HL.out]
            rfl

end Go.Proofs.YtjokpfgncmdomaaGreatDoor
