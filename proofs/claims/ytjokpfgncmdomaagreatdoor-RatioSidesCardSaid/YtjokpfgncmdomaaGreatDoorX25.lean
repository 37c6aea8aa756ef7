import Derived.Test.YtjokpfgncmdomaaGreatDoorX24
set_option linter.unusedSimpArgs false
set_option linter.unusedVariables false
/- ratio.Of, Round of right ones: the walks -/
namespace Go.Proofs.YtjokpfgncmdomaaGreatDoor
open Go.RowKit Go.Sort

set_option maxRecDepth 100000 in
set_option maxHeartbeats 4000000 in
theorem of_inf (u : Nat) (w : World) (hu : u < 18446744073709551616) (hi : u / 2 ^ 52 % 2048 = 2047) :
    Calls Tryz.prog 32 #[.float .f64 u] w (Fail 5 w) := by
  have HU := Lib.hid hu
  have HI := Lib.hid hi
  clear hu hi
  go_enter Tryz.func32, Tryz.ntmps32
  go_wp2_with fail
  refine (setFloat_inf (w.heap.size + 1) u _ HU.out HI.out).mono ?_
  rintro e w1 ⟨rfl, hw1⟩
  have hblk : w1.heap[w.heap.size]? = some (.cells #[.bool false, .slice none 0 0, .slice none 0 0] 24 (0, 0)) := by
    rw [← hw1]
    exact ((below1 (w.alloc (.cells #[.bool false, .slice none 0 0, .slice none 0 0] 24)) newR).block w.heap.size (by simp)).trans (blk_new w _ _)
  have HB1 : Hid (Below w.heap.size w w1) := Lib.hid (by
    rw [← hw1]
    exact (below1 w (.cells #[.bool false, .slice none 0 0, .slice none 0 0] 24)).trans ((below1 (w.alloc (.cells #[.bool false, .slice none 0 0, .slice none 0 0] 24)) newR).mono (by simp)))
  have zx : w.heap.size + 1 ≤ w1.heap.size := by rw [← hw1]; simp
  clear hw1
  obtain ⟨kc, kf⟩ := blk_cells hblk
  have kc0 := kc 0
  have kc1 := kc 1
  have kc2 := kc 2
  have kf0 := kf 0
  have kf1 := kf 1
  have kf2 := kf 2
  simp only [List.getElem?_toArray, List.getElem?_cons_zero, List.getElem?_cons_succ] at kc0 kc1 kc2
  obtain ⟨w6, hw6⟩ : ∃ w6, w6 = ((w1.setCell ⟨w.heap.size, 0, none⟩ (.bool false)).setCell ⟨w.heap.size, 1, none⟩ (.slice none 0 0)).setCell ⟨w.heap.size, 2, none⟩ (.slice none 0 0) := ⟨_, rfl⟩
  obtain ⟨hu6, q0, q1, q2⟩ := rat_set kc0 kc1 kc2 _ _ _ _ _ _ _ _ hw6
  have HW6 := Lib.hid hw6
  have HU6 := Lib.hid hu6
  have Q0 := Lib.hid q0
  have Q1 := Lib.hid q1
  have Q2 := Lib.hid q2
  clear kc kf hblk hw6 hu6 q0 q1 q2
  go_wp2_with fail
  rw [← HW6.out]
  have q0 := Q0.out
  have q1 := Q1.out
  have q2 := Q2.out
  (try simp only [Exit.inBlock, Exit.then])
  refine bodyPost_ret (v := .tuple #[.agg #[.bool false, .slice none 0 0, .slice none 0 0], .int .i64 5]) (by simp [results, Tryz.results32, go_sem, q0, q1, q2]; done) rfl ?_
  exact ⟨_, rfl, noR_at _ _ _, HB1.out.trans (HU6.out.below (by omega) (by omega))⟩

set_option maxRecDepth 100000 in
set_option maxHeartbeats 4000000 in
theorem of_flt (u : Nat) (w : World) (hu : u < 18446744073709551616) (hf : u % 9223372036854775808 < 9218868437227405312) :
    Calls Tryz.prog 32 #[.float .f64 u] w fun e w' => ∃ v, e = .returned (.tuple #[v, .int .i64 0]) ∧ At w' v (fltQ (decide (9223372036854775808 ≤ u)) (u % 9223372036854775808)) ∧ Below w.heap.size w w' := by
  have HU := Lib.hid hu
  have HFT := Lib.hid hf
  obtain ⟨q, hq⟩ : ∃ q, q = fltQ (decide (9223372036854775808 ≤ u)) (u % 9223372036854775808) := ⟨_, rfl⟩
  have hfs := fits_flt (decide (9223372036854775808 ≤ u)) hf
  have HS := Lib.hid (fun b w hz => setFloat_rat b u w hz hu hf)
  rw [← hq] at hfs HS ⊢
  have HF := Lib.hid hfs.1
  have SX := Lib.hid hfs.2
  clear hu hf hfs hq
  go_enter Tryz.func32, Tryz.ntmps32
  go_wp2_with fail
  refine (HS.out (w.heap.size + 1) _ (by have h := new_rat (w.alloc (.cells #[.bool false, .slice none 0 0, .slice none 0 0] 24)); rwa [World.size_alloc] at h)).mono ?_
  rintro e w1 ⟨rfl, hr1, wm, hbm, hum⟩
  have hblk : w1.heap[w.heap.size]? = some (.cells #[.bool false, .slice none 0 0, .slice none 0 0] 24 (0, 0)) := by
    rw [hum.blk w.heap.size (by have := hbm.size; simp at this; omega) (by omega), hbm.block w.heap.size (by simp; omega)]
    exact ((below1 (w.alloc (.cells #[.bool false, .slice none 0 0, .slice none 0 0] 24)) newR).block w.heap.size (by simp)).trans (blk_new w _ _)
  have HR1 := Lib.hid hr1
  have zm : w.heap.size + 2 ≤ wm.heap.size := by have := hbm.size; simp at this; omega
  have HB1 := Lib.hid (((below1 w (.cells #[.bool false, .slice none 0 0, .slice none 0 0] 24)).trans (((below1 (w.alloc (.cells #[.bool false, .slice none 0 0, .slice none 0 0] 24)) newR).mono (by simp)).trans (hbm.mono (by simp; omega)))).trans (hum.below (by omega) (by omega)))
  have zx : w.heap.size + 1 ≤ w1.heap.size := by have := hum.size; omega
  clear hr1 hum hbm
  go_wp2_with fail
  refine (told_ratio (w.heap.size + 1) q w1 HR1.out (by have := SX.out.1; omega) (by have := SX.out.2; omega)).mono ?_
  rintro e w3 ht
  obtain ⟨v2, rfl, hv2, hb2⟩ := told_at ht HF.out
  have HV2 := Lib.hid hv2
  obtain ⟨tn, B, m, d, B', m', d', rfl⟩ : ∃ s A n c A' n' c', v2 = .agg #[.bool s, .slice A n c, .slice A' n' c'] := by obtain ⟨⟨A, n, c, A', n', c', h, _⟩, _⟩ := hv2; exact ⟨_, _, _, _, _, _, _, h⟩
  have hblk2 : w3.heap[w.heap.size]? = some (.cells #[.bool false, .slice none 0 0, .slice none 0 0] 24 (0, 0)) := (hb2.block w.heap.size (by omega)).trans hblk
  have zz : w.heap.size + 1 ≤ w3.heap.size := by have := hb2.size; omega
  have HB3 := Lib.hid (HB1.out.trans (hb2.mono HB1.out.size))
  clear hb2 hblk hv2 ht
  obtain ⟨kc, kf⟩ := blk_cells hblk2
  have kc0 := kc 0
  have kc1 := kc 1
  have kc2 := kc 2
  have kf0 := kf 0
  have kf1 := kf 1
  have kf2 := kf 2
  simp only [List.getElem?_toArray, List.getElem?_cons_zero, List.getElem?_cons_succ] at kc0 kc1 kc2
  obtain ⟨w6, hw6⟩ : ∃ w6, w6 = ((w3.setCell ⟨w.heap.size, 0, none⟩ (.bool tn)).setCell ⟨w.heap.size, 1, none⟩ (.slice B m d)).setCell ⟨w.heap.size, 2, none⟩ (.slice B' m' d') := ⟨_, rfl⟩
  obtain ⟨hu6, q0, q1, q2⟩ := rat_set kc0 kc1 kc2 _ _ _ _ _ _ _ _ hw6
  have HW6 := Lib.hid hw6
  have HU6 := Lib.hid hu6
  have Q0 := Lib.hid q0
  have Q1 := Lib.hid q1
  have Q2 := Lib.hid q2
  clear kc kf hblk2 hw6 hu6 q0 q1 q2
  go_wp2_with fail
  rw [← HW6.out]
  have q0 := Q0.out
  have q1 := Q1.out
  have q2 := Q2.out
  (try simp only [Exit.inBlock, Exit.then])
  refine bodyPost_ret (v := .tuple #[.agg #[.bool tn, .slice B m d, .slice B' m' d'], .int .i64 0]) (by simp [results, Tryz.results32, go_sem, q0, q1, q2]; done) rfl ?_
  exact ⟨_, rfl, ⟨HV2.out.1.upb HU6.out, HV2.out.2⟩, HB3.out.trans (HU6.out.below (by omega) (by omega))⟩

/-- a number as a float -/
def rndQ (q : Rat) (md : Int) : Nat := rnd (decide (q.num < 0)) q.num.natAbs q.den md
theorem roundQ (v : Value) (q : Rat) (md : Int) (w : World) (hv : At w v q) (hw : Laid w) :
    Calls Tryz.prog 11 #[v, .int .i8 md] w fun e w' => e = .returned (.tuple #[.float .f64 (rndQ q md), .int .i64 0]) ∧ Below w.heap.size w w' := by
  have h := round_right v (rv q) md w hv.1 (rv_right hv.2) hw
  have e1 : ln (rv q).num = q.num.natAbs := ln_dig _
  have e2 : ln (rv q).den = q.den := ln_dig _
  have e3 : (rv q).neg = decide (q.num < 0) := rfl
  rw [e1, e2, e3] at h
  exact h

end Go.Proofs.YtjokpfgncmdomaaGreatDoor

/- floats of rungs: their order; what the four ways of rounding tell (plain) -/
namespace Go.Proofs.YtjokpfgncmdomaaGreatDoor
open Ieee

theorem sw_lt {s : Bool} {g : Nat} (h : g ≤ 9218868437227405312) : sw s g < 18446744073709551616 := by unfold sw; cases s <;> simp <;> omega
theorem sw_mod {s : Bool} {g : Nat} (h : g ≤ 9218868437227405312) : sw s g % 9223372036854775808 = g := by unfold sw; cases s <;> simp <;> omega
theorem sw_sign {s : Bool} {g : Nat} (h : g ≤ 9218868437227405312) : decide (9223372036854775808 ≤ sw s g) = s := by unfold sw; cases s <;> simp; omega
theorem sw_exp {s : Bool} : sw s 9218868437227405312 / 2 ^ 52 % 2048 = 2047 := by cases s <;> decide
theorem sw_word (s : Bool) (g : Nat) : sw s g = double.word s g := by
  unfold sw Format.word
  cases s
  · rfl
  · show g + 9223372036854775808 = 9223372036854775808 + g
    omega
theorem read_sw {s : Bool} {g : Nat} (h : g < 9218868437227405312) : ∃ (j m : Nat), double.read (sw s g) = .number s m ((j : Int) - 1074) ∧ Vr g = m * 2 ^ j := by
  obtain ⟨j, m, hg, h1, h2⟩ := rung_has g
  have hi : double.infRung = 9218868437227405312 := by decide
  refine ⟨j, m, ?_, by rw [hg]; exact Vr_parts (by omega) h2⟩
  have hr := read_word s m ((j : Int) - 1074) h1 (by omega) (h2.imp (fun e => by omega) id) (by rw [hi]; omega)
  rw [show ((j : Int) - 1074 + 1074).toNat = j by omega, ← hg] at hr
  rw [sw_word]; exact hr
theorem read_inf (s : Bool) : double.read (sw s 9218868437227405312) = .infinity s := by cases s <;> decide +kernel
theorem fnan_sw {s : Bool} {g : Nat} (h : g ≤ 9218868437227405312) : fnan (sw s g) = false := by
  unfold fnan
  rcases Nat.lt_or_eq_of_le h with h1 | h1
  · obtain ⟨j, m, hr, _⟩ := read_sw (s := s) h1
    rw [hr]; rfl
  · rw [h1, read_inf]; rfl
theorem fk_sw {s : Bool} {g : Nat} (h : g < 9218868437227405312) : fk (sw s g) = if s then -(Vr g : Int) else (Vr g : Int) := by
  obtain ⟨j, m, hr, hv⟩ := read_sw (s := s) h
  unfold fk
  rw [hr, hv]
  show signed s m ((j : Int) - 1074 + 1074).toNat = _
  rw [show ((j : Int) - 1074 + 1074).toNat = j by omega]
  unfold signed
  rw [Nat.shiftLeft_eq]
theorem fk_inf (s : Bool) : fk (sw s 9218868437227405312) = if s then -(bigN : Int) else (bigN : Int) := by
  unfold fk
  rw [read_inf]
  rfl
theorem Vr_big {g : Nat} (h : g < 9218868437227405312) : Vr g < bigN := by
  rw [bigN_eq]
  obtain ⟨a, ha⟩ : ∃ a : Nat, a = 2098 := ⟨_, rfl⟩
  have hV : Vr g < 2 ^ a := by rw [ha]; exact Vr_lt_inf h
  exact Nat.lt_of_lt_of_le hV (Nat.pow_le_pow_right (by decide) (by have := bigE_le; omega))
/-- a float's rung, with its sign -/
def sr (s : Bool) (g : Nat) : Int := if s then -(g : Int) else (g : Int)
theorem fk_rung {s t : Bool} {g h : Nat} (hg : g ≤ 9218868437227405312) (hh : h ≤ 9218868437227405312) : (fk (sw s g) < fk (sw t h) ↔ sr s g < sr t h) ∧ (fk (sw s g) = fk (sw t h) ↔ sr s g = sr t h) := by
  obtain ⟨K, hK⟩ : ∃ K : Nat → Nat, K = fun g => if g < 9218868437227405312 then Vr g else bigN := ⟨_, rfl⟩
  have hk : ∀ s g, g ≤ 9218868437227405312 → fk (sw s g) = if s then -(K g : Int) else (K g : Int) := by
    intro s g hg
    rw [hK]
    rcases Nat.lt_or_eq_of_le hg with h1 | h1
    · rw [fk_sw h1]; simp only [h1, if_true]
    · rw [h1, fk_inf]; simp only [Nat.lt_irrefl, if_false]
  have hm : ∀ a b, a ≤ 9218868437227405312 → b ≤ 9218868437227405312 → a < b → K a < K b := by
    intro a b ha hb hab
    have h1 : a < 9218868437227405312 := by omega
    rw [hK]
    simp only [h1, if_true]
    by_cases h2 : b < 9218868437227405312
    · simp only [h2, if_true]; exact Vr_lt hab
    · simp only [h2, if_false]; exact Vr_big h1
  have h0 : K 0 = 0 := by rw [hK]; rfl
  have hz : ∀ a, a ≤ 9218868437227405312 → 0 < a → 0 < K a := fun a ha h => by have := hm 0 a (by omega) ha h; omega
  rw [hk s g hg, hk t h hh]
  have a1 := hm g h hg hh
  have a2 := hm h g hh hg
  have a3 := hz g hg
  have a4 := hz h hh
  have a5 : g = h → K g = K h := fun e => by rw [e]
  have a6 : g = 0 → K g = 0 := fun e => by rw [e]; exact h0
  have a7 : h = 0 → K h = 0 := fun e => by rw [e]; exact h0
  unfold sr
  generalize K g = x at a1 a2 a3 a4 a5 a6 a7 ⊢
  generalize K h = y at a1 a2 a3 a4 a5 a6 a7 ⊢
  cases s <;> cases t <;> simp only [if_true, if_false, Bool.false_eq_true] <;> constructor <;> constructor <;> intro _ <;> omega
theorem order_sw {s t : Bool} {g h : Nat} (hg : g ≤ 9218868437227405312) (hh : h ≤ 9218868437227405312) : FloatKind.f64.format.order (sw s g) (sw t h) = some (compare (sr s g) (sr t h)) := by
  rw [order_fk (fnan_sw hg) (fnan_sw hh)]
  have h1 := fk_rung (s := s) (t := t) hg hh
  congr 1
  rcases Int.lt_trichotomy (sr s g) (sr t h) with h2 | h2 | h2
  · rw [icmp_lt h2, icmp_lt (h1.1.2 h2)]
  · rw [h2, h1.2.2 h2, icmp_eq, icmp_eq]
  · have h3 := (fk_rung (s := t) (t := s) hh hg).1.2 h2
    rw [icmp_gt h2, icmp_gt h3]
theorem eq_sw {s t : Bool} {g h : Nat} (hg : g ≤ 9218868437227405312) (hh : h ≤ 9218868437227405312) : (FloatKind.f64.format.order (sw s g) (sw t h) == some Ordering.eq) = decide (sr s g = sr t h) := by
  rw [order_sw hg hh]
  rcases Int.lt_trichotomy (sr s g) (sr t h) with h2 | h2 | h2
  · rw [icmp_lt h2, decide_eq_false (by omega)]; rfl
  · rw [h2, icmp_eq, decide_eq_true rfl]; rfl
  · rw [icmp_gt h2, decide_eq_false (by omega)]; rfl
theorem ne_sw {s t : Bool} {g h : Nat} (hg : g ≤ 9218868437227405312) (hh : h ≤ 9218868437227405312) : (FloatKind.f64.format.order (sw s g) (sw t h) != some Ordering.eq) = !decide (sr s g = sr t h) := by
  show (!(FloatKind.f64.format.order (sw s g) (sw t h) == some Ordering.eq)) = _
  rw [eq_sw hg hh]
theorem lt_sw {s t : Bool} {g h : Nat} (hg : g ≤ 9218868437227405312) (hh : h ≤ 9218868437227405312) : (FloatKind.f64.format.order (sw s g) (sw t h) == some Ordering.lt) = decide (sr s g < sr t h) := by
  rw [order_sw hg hh]
  rcases Int.lt_trichotomy (sr s g) (sr t h) with h2 | h2 | h2
  · rw [icmp_lt h2, decide_eq_true h2]; rfl
  · rw [h2, icmp_eq, decide_eq_false (by omega)]; rfl
  · rw [icmp_gt h2, decide_eq_false (by omega)]; rfl
theorem gt_sw {s t : Bool} {g h : Nat} (hg : g ≤ 9218868437227405312) (hh : h ≤ 9218868437227405312) : (FloatKind.f64.format.order (sw s g) (sw t h) == some Ordering.gt) = decide (sr t h < sr s g) := by
  rw [order_sw hg hh]
  rcases Int.lt_trichotomy (sr s g) (sr t h) with h2 | h2 | h2
  · rw [icmp_lt h2, decide_eq_false (by omega)]; rfl
  · rw [h2, icmp_eq, decide_eq_false (by omega)]; rfl
  · rw [icmp_gt h2, decide_eq_true h2]; rfl

/-- a number's size, in units of the least float -/
def unitsQ (q : Rat) : Nat := q.num.natAbs * 2 ^ 1074
/-- the two floats about a number, by size, and the nearer one -/
structure SideF (q : Rat) (neg : Bool) (lo hi n : Nat) : Prop where
  d1 : rndQ q 1 = sw neg (if neg then hi else lo)
  d2 : rndQ q 2 = sw neg (if neg then lo else hi)
  d3 : rndQ q 3 = sw neg lo
  d0 : rndQ q 0 = sw neg n
  nn : n = lo ∨ n = hi
  step : hi = lo ∨ hi = lo + 1
  lo_lt : lo < 9218868437227405312
  hi_le : hi ≤ 9218868437227405312
  sgn : neg = decide (q.num < 0)
  low : Vr lo * q.den ≤ unitsQ q
  high : hi < 9218868437227405312 → unitsQ q ≤ Vr hi * q.den
  exact : hi = lo → unitsQ q = Vr lo * q.den
  strict : hi ≠ lo → Vr lo * q.den < unitsQ q
  strictH : hi ≠ lo → hi < 9218868437227405312 → unitsQ q < Vr hi * q.den
  nearL : hi ≠ lo → hi < 9218868437227405312 → 2 * unitsQ q < (Vr lo + Vr hi) * q.den → n = lo
  nearH : hi ≠ lo → hi < 9218868437227405312 → (Vr lo + Vr hi) * q.den < 2 * unitsQ q → n = hi
theorem units_eq (q : Rat) : ∃ n : Nat, n = 1074 ∧ unitsQ q = q.num.natAbs * 2 ^ n := ⟨1074, rfl, by rw [unitsQ]⟩
theorem units_zero {q : Rat} (h : q.num = 0) : unitsQ q = 0 := by
  obtain ⟨n, _, e⟩ := units_eq q
  rw [e, h, Int.natAbs_zero, Nat.zero_mul]
theorem units_pos {q : Rat} (h : q.num ≠ 0) : 0 < unitsQ q := by
  obtain ⟨n, _, e⟩ := units_eq q
  rw [e]
  exact Nat.mul_pos (by omega) (Nat.pow_pos (by decide))
theorem rnd_specX (neg : Bool) (md : Int) {N D X n : Nat} (hn : n = 1074) (hX : X = N * 2 ^ n) (hN : N ≠ 0) (hD : D ≠ 0) :
    ∃ g, Vr g * D ≤ X ∧ X < Vr (g + 1) * D ∧ rnd neg N D md = outR neg md (upR neg md X D g) := by
  have h := rnd_spec neg md hN hD
  rw [← hn, ← hX] at h
  exact h
theorem rnd_zero (neg : Bool) (D : Nat) (md : Int) : rnd neg 0 D md = 0 := by unfold rnd; exact if_pos rfl
theorem side_has (q : Rat) : ∃ neg lo hi n, SideF q neg lo hi n := by
  by_cases h0 : q.num = 0
  · have hu := units_zero h0
    have hr : ∀ md, rndQ q md = sw false 0 := by
      intro md; unfold rndQ; rw [h0]; exact rnd_zero _ _ _
    refine ⟨false, 0, 0, 0, hr 1, hr 2, hr 3, hr 0, .inl rfl, .inl rfl, by decide, by decide, by rw [h0]; rfl, ?_, ?_, ?_, fun h => absurd rfl h, fun h => absurd rfl h, fun h => absurd rfl h, fun h => absurd rfl h⟩
    · rw [Vr_zero, Nat.zero_mul]; exact Nat.zero_le _
    · intro _; rw [hu]; exact Nat.zero_le _
    · intro _; rw [hu, Vr_zero, Nat.zero_mul]
  · have hN : q.num.natAbs ≠ 0 := by omega
    obtain ⟨neg, hneg⟩ : ∃ neg, neg = decide (q.num < 0) := ⟨_, rfl⟩
    have hup := units_pos h0
    obtain ⟨en, hen, e⟩ := units_eq q
    obtain ⟨X, hX⟩ : ∃ X, X = unitsQ q := ⟨_, rfl⟩
    rw [← hX] at hup e
    have hs := fun md => rnd_specX neg md hen e hN q.den_nz
    clear hen e
    have hrq : ∀ md, rndQ q md = rnd neg q.num.natAbs q.den md := by intro md; rw [hneg]; rfl
    obtain ⟨g, g1, g2, r1⟩ := hs 1
    have hs' : ∀ md, rndQ q md = outR neg md (upR neg md X q.den g) := by
      intro md
      obtain ⟨k, k1, k2, r⟩ := hs md
      rw [hrq, r, floor_uniq k1 k2 g1 g2]
    obtain ⟨D, hD⟩ : ∃ D, D = q.den := ⟨_, rfl⟩
    rw [← hD] at hs' g1 g2
    have hD0 : 0 < D := by rw [hD]; exact Nat.pos_of_ne_zero q.den_nz
    obtain ⟨b, hb⟩ : ∃ b, b = if Vr g * D < X then g + 1 else g := ⟨_, rfl⟩
    have hM : (2047 * 2 ^ 52 : Nat) = 9218868437227405312 := by decide
    have hbs : (b = g ∧ X = Vr g * D) ∨ (b = g + 1 ∧ Vr g * D < X) := by
      by_cases h : Vr g * D < X
      · rw [hb, if_pos h]; exact .inr ⟨rfl, h⟩
      · rw [hb, if_neg h]; exact .inl ⟨rfl, by omega⟩
    have u1 : upR neg 1 X D g = if neg then b else g := by
      unfold upR awayB
      rw [hb]
      cases neg <;> by_cases h : Vr g * D < X <;> simp [h]
    have u2 : upR neg 2 X D g = if neg then g else b := by
      unfold upR awayB
      rw [hb]
      cases neg <;> by_cases h : Vr g * D < X <;> simp [h]
    have u3 : upR neg 3 X D g = g := by
      unfold upR awayB
      simp
    have o1 : ∀ G, outR neg 1 G = sw neg (if G < 9218868437227405312 then G else if neg then 9218868437227405312 else 9218868437227405311) := by
      intro G; unfold outR mostB; rw [hM]
      by_cases h : G < 9218868437227405312 <;> cases neg <;> simp [h]
    have o2 : ∀ G, outR neg 2 G = sw neg (if G < 9218868437227405312 then G else if neg then 9218868437227405311 else 9218868437227405312) := by
      intro G; unfold outR mostB; rw [hM]
      by_cases h : G < 9218868437227405312 <;> cases neg <;> simp [h]
    have o3 : ∀ G, outR neg 3 G = sw neg (if G < 9218868437227405312 then G else 9218868437227405311) := by
      intro G; unfold outR mostB; rw [hM]
      by_cases h : G < 9218868437227405312 <;> cases neg <;> simp [h]
    have o0 : ∀ G, outR neg 0 G = sw neg (if G < 9218868437227405312 then G else 9218868437227405312) := by
      intro G; unfold outR mostB; rw [hM]
      by_cases h : G < 9218868437227405312 <;> cases neg <;> simp [h]
    obtain ⟨G, hG⟩ : ∃ G, G = upR neg 0 X D g := ⟨_, rfl⟩
    have hGb : G = g ∨ G = b := by
      rw [hG, hb]; unfold upR
      by_cases h : Vr g * D < X
      · simp only [h, true_and, if_true]
        split
        · exact .inr rfl
        · exact .inl rfl
      · simp [h]
    have aw : ∀ c od, awayB 0 neg c od = (decide (0 < c) || (decide (c = 0) && od)) := by
      intro c od; unfold awayB; simp
    have gL : Vr g * D < X → 2 * X < (Vr g + Vr (g + 1)) * D → G = g := by
      intro h1 h2
      rw [hG]; unfold upR
      rw [aw, show cmpN (2 * X) ((Vr g + Vr (g + 1)) * D) = -1 by unfold cmpN; rw [if_pos h2], if_neg (by simp)]
    have gH : Vr g * D < X → (Vr g + Vr (g + 1)) * D < 2 * X → G = g + 1 := by
      intro h1 h2
      rw [hG]; unfold upR
      rw [aw, show cmpN (2 * X) ((Vr g + Vr (g + 1)) * D) = 1 by unfold cmpN; rw [if_neg (by omega), if_pos h2], if_pos ⟨h1, by simp⟩]
    refine ⟨neg, if g < 9218868437227405312 then g else 9218868437227405311, if b < 9218868437227405312 then b else 9218868437227405312, if G < 9218868437227405312 then G else 9218868437227405312, ?_, ?_, ?_, ?_, ?_, ?_, ?_, ?_, hneg, ?_, ?_, ?_, ?_, ?_, ?_, ?_⟩
    · rw [hs', u1, o1]; cases neg <;> simp
    · rw [hs', u2, o2]; cases neg <;> simp
    · rw [hs', u3, o3]
    · rw [hs', ← hG, o0]
    · split <;> split <;> split <;> omega
    · split <;> split <;> omega
    · split <;> omega
    · split <;> omega
    · rw [← hX, ← hD]
      by_cases h : g < 9218868437227405312
      · rw [if_pos h]; exact g1
      · rw [if_neg h]
        exact Nat.le_trans (Nat.mul_le_mul_right _ (Vr_le (by omega))) g1
    · intro h
      rw [← hX, ← hD]
      have h1 : b < 9218868437227405312 := by split at h <;> omega
      rw [if_pos h1]
      rcases hbs with ⟨e1, e2⟩ | ⟨e1, _⟩
      · rw [e1]; omega
      · rw [e1]; exact Nat.le_of_lt g2
    · intro h
      rw [← hX, ← hD]
      have h1 : g < 9218868437227405312 ∧ b = g := by split at h <;> split at h <;> omega
      rw [if_pos h1.1]
      rcases hbs with ⟨_, e2⟩ | ⟨e1, _⟩
      · exact e2
      · omega
    · intro h
      rw [← hX, ← hD]
      by_cases h3 : g < 9218868437227405312
      · rw [if_pos h3] at h ⊢
        rcases hbs with ⟨e1, _⟩ | ⟨_, e2⟩
        · rw [e1, if_pos h3] at h; exact absurd rfl h
        · exact e2
      · rw [if_neg h3]
        exact Nat.lt_of_lt_of_le (Nat.mul_lt_mul_of_pos_right (Vr_lt (by omega)) hD0) g1
    · intro h h1
      rw [← hX, ← hD]
      have h2 : b < 9218868437227405312 := by split at h1 <;> omega
      have h3 : g < 9218868437227405312 := by omega
      rw [if_pos h2, if_pos h3] at h
      rw [if_pos h2]
      rcases hbs with ⟨e1, _⟩ | ⟨e1, _⟩
      · exact absurd e1 h
      · rw [e1]; exact g2
    · intro h h1
      rw [← hX, ← hD]
      have h2 : b < 9218868437227405312 := by split at h1 <;> omega
      have h3 : g < 9218868437227405312 := by omega
      rw [if_pos h2, if_pos h3] at h
      rw [if_pos h2, if_pos h3]
      rcases hbs with ⟨e1, _⟩ | ⟨e1, e2⟩
      · exact absurd e1 h
      · rw [e1]
        intro h4
        rw [gL e2 h4, if_pos h3]
    · intro h h1
      rw [← hX, ← hD]
      have h2 : b < 9218868437227405312 := by split at h1 <;> omega
      have h3 : g < 9218868437227405312 := by omega
      rw [if_pos h2, if_pos h3] at h
      rw [if_pos h2, if_pos h3]
      rcases hbs with ⟨e1, _⟩ | ⟨e1, e2⟩
      · exact absurd e1 h
      · rw [e1]
        intro h4
        rw [gH e2 h4, if_pos (by omega)]

end Go.Proofs.YtjokpfgncmdomaaGreatDoor

/- held together: an order: plain -/
namespace Go.Proofs.YtjokpfgncmdomaaGreatDoor
open Go.RowKit Go.Sort

theorem cmpQ_lt (x y : Rat) : cmpQ x y = if x < y then -1 else if y < x then 1 else 0 := by
  unfold cmpQ cmpI
  simp only [Rat.lt_iff]
theorem cmpQ_anti (x y : Rat) : cmpQ x y = -cmpQ y x := by
  rw [cmpQ_lt, cmpQ_lt]
  by_cases h1 : x < y
  · have : ¬ y < x := by grind
    simp [h1, this]
  · by_cases h2 : y < x <;> simp [h1, h2]
theorem cmpQ_le (x y : Rat) : cmpQ x y ≤ 0 ↔ x ≤ y := by
  rw [cmpQ_lt]
  by_cases h1 : x < y
  · have : x ≤ y := by grind
    simp [h1, this]
  · by_cases h2 : y < x
    · have : ¬ x ≤ y := by grind
      simp [h1, h2, this]
    · have : x ≤ y := by grind
      simp [h1, h2, this]
end Go.Proofs.YtjokpfgncmdomaaGreatDoor

/- math.Nextafter upwards: the walk; girderlaw07.below, above, exact: the walks -/
namespace Go.Proofs.YtjokpfgncmdomaaGreatDoor
open Go.RowKit Go.Sort

theorem sw_f (g : Nat) : sw false g = g := rfl
theorem sw_t (g : Nat) : sw true g = g + 9223372036854775808 := rfl
theorem srf (g : Nat) : sr false g = (g : Int) := rfl
theorem srt (g : Nat) : sr true g = -(g : Int) := rfl

set_option maxRecDepth 100000 in
set_option maxHeartbeats 4000000 in
theorem inf_call (w : World) : Calls Tryz.prog 41 #[.int .i64 1] w fun e w' => e = .returned (.float .f64 9218868437227405312) ∧ w = w' := by
  have hd2 := run_f64from
  go_enter Tryz.func41, Tryz.ntmps41
  go_wp2_with fail
  go_ret
  exact ⟨rfl, rfl⟩
set_option maxRecDepth 100000 in
set_option maxHeartbeats 4000000 in
theorem copysign_one (w : World) : Calls Tryz.prog 45 #[.float .f64 1, .float .f64 9218868437227405312] w fun e w' => e = .returned (.float .f64 1) ∧ w = w' := by
  have hd := run_f64bits
  have hd2 := run_f64from
  have b1 : bits BinOp.andNot IntKind.u64 1 9223372036854775808 = 1 := by decide +kernel
  have b2 : bits BinOp.and IntKind.u64 9218868437227405312 9223372036854775808 = 0 := by decide +kernel
  have b3 : bits BinOp.or IntKind.u64 1 0 = 1 := by decide +kernel
  go_enter Tryz.func45, Tryz.ntmps45
  go_wp2_with fail
  go_ret
  exact ⟨rfl, rfl⟩
set_option maxRecDepth 100000 in
set_option maxHeartbeats 4000000 in
theorem nextafter_zero (w : World) : Calls Tryz.prog 40 #[.float .f64 0, .float .f64 9218868437227405312] w fun e w' => e = .returned (.float .f64 1) ∧ w = w' := by
  have hd := run_f64bits
  have hd2 := run_f64from
  have o1 : (FloatKind.f64.format.order 0 0 != some Ordering.eq) = false := by decide +kernel
  have o2 : (FloatKind.f64.format.order 9218868437227405312 9218868437227405312 != some Ordering.eq) = false := by decide +kernel
  have o3 : (FloatKind.f64.format.order 0 9218868437227405312 == some Ordering.eq) = false := by decide +kernel
  have o4 : (FloatKind.f64.format.order 0 0 == some Ordering.eq) = true := by decide +kernel
  go_enter Tryz.func40, Tryz.ntmps40
  go_wp2_with fail
  refine (isNaN_w _ _ o1).mono ?_
  rintro e w' ⟨rfl, rfl⟩
  go_wp2_with fail
  refine (isNaN_w _ _ o2).mono ?_
  rintro e w' ⟨rfl, rfl⟩
  go_wp2_with fail
  refine (copysign_one _).mono ?_
  rintro e w' ⟨rfl, rfl⟩
  go_wp2_with fail
  go_ret
  exact ⟨rfl, rfl⟩
set_option maxRecDepth 100000 in
set_option maxHeartbeats 4000000 in
theorem nextafter_pos (g : Nat) (w : World) (h0 : 0 < g) (hg : g < 9218868437227405312) : Calls Tryz.prog 40 #[.float .f64 g, .float .f64 9218868437227405312] w fun e w' => e = .returned (.float .f64 (g + 1)) ∧ w = w' := by
  have hd := run_f64bits
  have hd2 := run_f64from
  have hl : g ≤ 9218868437227405312 := by omega
  have o1 : (FloatKind.f64.format.order g g != some Ordering.eq) = false := by
    have h := ne_sw (s := false) (t := false) hl hl
    rw [sw_f, srf] at h; rw [h]; simp
  have o2 : (FloatKind.f64.format.order 9218868437227405312 9218868437227405312 != some Ordering.eq) = false := by decide +kernel
  have o3 : (FloatKind.f64.format.order g 9218868437227405312 == some Ordering.eq) = false := by
    have h := eq_sw (s := false) (t := false) hl (Nat.le_refl 9218868437227405312)
    rw [sw_f, sw_f, srf, srf] at h; rw [h]; simp; omega
  have o4 : (FloatKind.f64.format.order g 0 == some Ordering.eq) = false := by
    have h := eq_sw (s := false) (t := false) hl (Nat.zero_le 9218868437227405312)
    rw [sw_f, sw_f, srf, srf] at h; rw [h]; simp; omega
  have o5 : (FloatKind.f64.format.order 9218868437227405312 g == some Ordering.gt) = true := by
    have h := gt_sw (s := false) (t := false) (Nat.le_refl 9218868437227405312) hl
    rw [sw_f, sw_f, srf, srf] at h; rw [h]; simp; omega
  have o6 : (FloatKind.f64.format.order g 0 == some Ordering.gt) = true := by
    have h := gt_sw (s := false) (t := false) hl (Nat.zero_le 9218868437227405312)
    rw [sw_f, sw_f, srf, srf] at h; rw [h]; simp; omega
  have e1 : ((g : Int) + 1).toNat = g + 1 := by omega
  clear hl h0
  go_enter Tryz.func40, Tryz.ntmps40
  go_wp2_with fail
  refine (isNaN_w _ _ o1).mono ?_
  rintro e w' ⟨rfl, rfl⟩
  go_wp2_with fail
  refine (isNaN_w _ _ o2).mono ?_
  rintro e w' ⟨rfl, rfl⟩
  go_wp2_with fail
  go_ret
  exact ⟨rfl, rfl⟩
set_option maxRecDepth 100000 in
set_option maxHeartbeats 4000000 in
theorem nextafter_neg (g : Nat) (w : World) (hg : g < 9218868437227405312) : Calls Tryz.prog 40 #[.float .f64 (sw true (g + 1)), .float .f64 9218868437227405312] w fun e w' => e = .returned (.float .f64 (sw true g)) ∧ w = w' := by
  have hd := run_f64bits
  have hd2 := run_f64from
  have hl : g + 1 ≤ 9218868437227405312 := by omega
  obtain ⟨V, hV⟩ : ∃ V, V = sw true (g + 1) := ⟨_, rfl⟩
  have hVg : V = g + 1 + 9223372036854775808 := by rw [hV, sw_t]
  have o1 : (FloatKind.f64.format.order V V != some Ordering.eq) = false := by
    have h := ne_sw (s := true) (t := true) hl hl
    rw [← hV] at h; rw [h]; simp
  have o2 : (FloatKind.f64.format.order 9218868437227405312 9218868437227405312 != some Ordering.eq) = false := by decide +kernel
  have o3 : (FloatKind.f64.format.order V 9218868437227405312 == some Ordering.eq) = false := by
    have h := eq_sw (s := true) (t := false) hl (Nat.le_refl 9218868437227405312)
    rw [← hV, sw_f, srf, srt] at h; rw [h]; simp; omega
  have o4 : (FloatKind.f64.format.order V 0 == some Ordering.eq) = false := by
    have h := eq_sw (s := true) (t := false) hl (Nat.zero_le 9218868437227405312)
    rw [← hV, sw_f, srf, srt] at h; rw [h]; simp; omega
  have o5 : (FloatKind.f64.format.order 9218868437227405312 V == some Ordering.gt) = true := by
    have h := gt_sw (s := false) (t := true) (Nat.le_refl 9218868437227405312) hl
    rw [← hV, sw_f, srf, srt] at h; rw [h]; simp; omega
  have o6 : (FloatKind.f64.format.order V 0 == some Ordering.gt) = false := by
    have h := gt_sw (s := true) (t := false) hl (Nat.zero_le 9218868437227405312)
    rw [← hV, sw_f, srf, srt] at h; rw [h]; simp; omega
  rw [← hV]
  have e1 : ((V : Int) - 1).toNat = sw true g := by rw [sw_t]; omega
  have e2 : 0 ≤ (V : Int) - 1 := by omega
  have e3 : (V : Int) - 1 < 18446744073709551616 := by omega
  clear hl hV hVg
  go_enter Tryz.func40, Tryz.ntmps40
  go_wp2_with fail
  refine (isNaN_w _ _ o1).mono ?_
  rintro e w' ⟨rfl, rfl⟩
  go_wp2_with fail
  refine (isNaN_w _ _ o2).mono ?_
  rintro e w' ⟨rfl, rfl⟩
  go_wp2_with fail
  go_ret
  exact ⟨rfl, rfl⟩
/-- one float up: from the rung behind -/
theorem nextafter_up (g : Nat) (w : World) (hg : g < 9218868437227405312) : Calls Tryz.prog 40 #[.float .f64 (sw false g), .float .f64 9218868437227405312] w fun e w' => e = .returned (.float .f64 (sw false (g + 1))) ∧ w = w' := by
  by_cases h : g = 0
  · subst h; exact nextafter_zero w
  · exact nextafter_pos g w (by omega) hg

/-- is a float not above a number, not below it -/
def belowB (s : Bool) (g : Nat) (q : Rat) : Bool := if g < 9218868437227405312 then decide (fltQ s g ≤ q) else s
def aboveB (s : Bool) (g : Nat) (q : Rat) : Bool := if g < 9218868437227405312 then decide (q ≤ fltQ s g) else !s
theorem cmpQ_ge (x y : Rat) : 0 ≤ cmpQ x y ↔ y ≤ x := by
  have h := cmpQ_anti x y
  rw [← cmpQ_le y x, h]
  omega
theorem at_shape {w : World} {v : Value} {q : Rat} (h : At w v q) : ∃ s A n c A' n' c', v = .agg #[.bool s, .slice A n c, .slice A' n' c'] := h.1.shape

set_option maxRecDepth 100000 in
set_option maxHeartbeats 4000000 in
theorem below_law (s : Bool) (g : Nat) (v : Value) (q : Rat) (w : World) (hg : g ≤ 9218868437227405312) (hv : At w v q) :
    Calls Tryz.prog 38 #[.float .f64 (sw s g), v] w fun e w' => e = .returned (.bool (belowB s g q)) ∧ Below w.heap.size w w' := by
  obtain ⟨r, A, n, c, A', n', c', rfl⟩ := at_shape hv
  have HV := Lib.hid hv
  have HG := Lib.hid hg
  obtain ⟨V, hV⟩ : ∃ V, V = sw s g := ⟨_, rfl⟩
  obtain ⟨w0, hw0⟩ : ∃ w0, w0 = w.alloc (.cells #[.bool r, .slice A n c, .slice A' n' c'] 24) := ⟨_, rfl⟩
  have HB0 : Hid (Below w.heap.size w w0) := Lib.hid (by rw [hw0]; exact below1 ..)
  have z0 : w.heap.size + 1 = w0.heap.size := by rw [hw0]; simp
  have k0 : w0.cell? ⟨w.heap.size, 0, none⟩ = some (.bool r) := by rw [hw0]; exact new_cell w _ _ 0 _ rfl
  have k1 : w0.cell? ⟨w.heap.size, 1, none⟩ = some (.slice A n c) := by rw [hw0]; exact new_cell w _ _ 1 _ rfl
  have k2 : w0.cell? ⟨w.heap.size, 2, none⟩ = some (.slice A' n' c') := by rw [hw0]; exact new_cell w _ _ 2 _ rfl
  have HK := Lib.hid (And.intro k0 (And.intro k1 k2))
  have HW0 := Lib.hid hw0
  have HVE := Lib.hid hV
  rw [← hV]
  clear hv hg hw0 k0 k1 k2 hV
  by_cases h1 : g < 9218868437227405312
  · have HL : Hid (belowB s g q = decide (cmpQ (fltQ s g) q ≤ 0)) := Lib.hid (by unfold belowB; rw [if_pos h1]; simp [cmpQ_le])
    rw [HL.out]
    have HO := Lib.hid (fun w => of_flt V w (by rw [HVE.out]; exact sw_lt HG.out) (by rw [HVE.out, sw_mod HG.out]; exact h1))
    rw [show decide (9223372036854775808 ≤ V) = s by rw [HVE.out]; exact sw_sign HG.out, show V % 9223372036854775808 = g by rw [HVE.out]; exact sw_mod HG.out] at HO
    obtain ⟨x, hx⟩ : ∃ x, x = fltQ s g := ⟨_, rfl⟩
    rw [← hx] at HO ⊢
    clear h1 HL hx
    go_enter Tryz.func38, Tryz.ntmps38
    go_wp2_with fail
    rw [← HW0.out]
    refine (HO.out w0).mono ?_
    rintro e w1 ⟨v1, rfl, hv1, hb1⟩
    obtain ⟨r1, B, m, d, B', m', d', rfl⟩ := at_shape hv1
    have p0 := bat hb1 HK.out.1
    have p1 := bat hb1 HK.out.2.1
    have p2 := bat hb1 HK.out.2.2
    have HV1 := Lib.hid hv1
    have HB1 := Lib.hid (HB0.out.trans (hb1.mono HB0.out.size))
    obtain ⟨w2, hw2⟩ : ∃ w2, w2 = w1.alloc (.cells #[.bool r1, .slice B m d, .slice B' m' d'] 24) := ⟨_, rfl⟩
    have hb2 : Below w1.heap.size w1 w2 := by rw [hw2]; exact below1 ..
    have q0 : w2.cell? ⟨w1.heap.size, 0, none⟩ = some (.bool r1) := by rw [hw2]; exact new_cell w1 _ _ 0 _ rfl
    have q1 : w2.cell? ⟨w1.heap.size, 1, none⟩ = some (.slice B m d) := by rw [hw2]; exact new_cell w1 _ _ 1 _ rfl
    have q2 : w2.cell? ⟨w1.heap.size, 2, none⟩ = some (.slice B' m' d') := by rw [hw2]; exact new_cell w1 _ _ 2 _ rfl
    have p0 := bat hb2 p0
    have p1 := bat hb2 p1
    have p2 := bat hb2 p2
    have HVr := Lib.hid ((HV.out.below (HB1.out)).below hb2)
    have HV1r := Lib.hid (HV1.out.below hb2)
    have HB2 := Lib.hid (HB1.out.trans (hb2.mono HB1.out.size))
    have HW2 := Lib.hid hw2
    rw [hw2] at p0 p1 p2 q0 q1 q2
    clear hv1 hb1 hb2 hw2
    go_wp2_with fail
    rw [← HW2.out]
    refine (cmpQ_ratio _ _ _ _ w2 HV1r.out HVr.out).mono ?_
    rintro e w3 ⟨rfl, hb3⟩
    have HB3 := Lib.hid (HB2.out.trans (hb3.mono HB2.out.size))
    clear hb3
    obtain ⟨k, hk⟩ : ∃ k, k = cmpQ x q := ⟨_, rfl⟩
    rw [← hk]
    have HKQ := Lib.hid hk
    clear hk
    go_wp2_with fail
    go_ret
    exact ⟨by rw [← HKQ.out]; rfl, HB3.out⟩
  · have he : g = 9218868437227405312 := by have := HG.out; omega
    have HL : Hid (belowB s g q = s) := Lib.hid (by unfold belowB; rw [if_neg h1])
    rw [HL.out]
    have HO := Lib.hid (fun w => of_inf V w (by rw [HVE.out]; exact sw_lt HG.out) (by rw [HVE.out, he]; exact sw_exp))
    have o1 : (FloatKind.f64.format.order V 0 == some Ordering.lt) = s := by
      have h := lt_sw (s := s) (t := false) HG.out (Nat.zero_le 9218868437227405312)
      rw [HVE.out]
      rw [sw_f] at h
      rw [h, he]
      cases s <;> simp [srt, srf]
    clear h1 he HL
    go_enter Tryz.func38, Tryz.ntmps38
    go_wp2_with fail
    rw [← HW0.out]
    refine (HO.out w0).mono ?_
    rintro e w1 ⟨v1, rfl, hv1, hb1⟩
    obtain ⟨r1, B, m, d, B', m', d', rfl⟩ := hv1.shape
    have HB1 := Lib.hid ((HB0.out.trans (hb1.mono HB0.out.size)).trans ((below1 w1 (.cells #[.bool r1, .slice B m d, .slice B' m' d'] 24)).mono (Nat.le_trans HB0.out.size hb1.size)))
    clear hv1 hb1
    go_wp2_with fail
    go_ret
    exact ⟨rfl, HB1.out⟩

set_option maxRecDepth 100000 in
set_option maxHeartbeats 4000000 in
theorem above_law (s : Bool) (g : Nat) (v : Value) (q : Rat) (w : World) (hg : g ≤ 9218868437227405312) (hv : At w v q) :
    Calls Tryz.prog 39 #[.float .f64 (sw s g), v] w fun e w' => e = .returned (.bool (aboveB s g q)) ∧ Below w.heap.size w w' := by
  obtain ⟨r, A, n, c, A', n', c', rfl⟩ := at_shape hv
  have HV := Lib.hid hv
  have HG := Lib.hid hg
  obtain ⟨V, hV⟩ : ∃ V, V = sw s g := ⟨_, rfl⟩
  obtain ⟨w0, hw0⟩ : ∃ w0, w0 = w.alloc (.cells #[.bool r, .slice A n c, .slice A' n' c'] 24) := ⟨_, rfl⟩
  have HB0 : Hid (Below w.heap.size w w0) := Lib.hid (by rw [hw0]; exact below1 ..)
  have z0 : w.heap.size + 1 = w0.heap.size := by rw [hw0]; simp
  have k0 : w0.cell? ⟨w.heap.size, 0, none⟩ = some (.bool r) := by rw [hw0]; exact new_cell w _ _ 0 _ rfl
  have k1 : w0.cell? ⟨w.heap.size, 1, none⟩ = some (.slice A n c) := by rw [hw0]; exact new_cell w _ _ 1 _ rfl
  have k2 : w0.cell? ⟨w.heap.size, 2, none⟩ = some (.slice A' n' c') := by rw [hw0]; exact new_cell w _ _ 2 _ rfl
  have HK := Lib.hid (And.intro k0 (And.intro k1 k2))
  have HW0 := Lib.hid hw0
  have HVE := Lib.hid hV
  rw [← hV]
  clear hv hg hw0 k0 k1 k2 hV
  by_cases h1 : g < 9218868437227405312
  · have HL : Hid (aboveB s g q = decide (0 ≤ cmpQ (fltQ s g) q)) := Lib.hid (by unfold aboveB; rw [if_pos h1]; simp [cmpQ_ge])
    rw [HL.out]
    have HO := Lib.hid (fun w => of_flt V w (by rw [HVE.out]; exact sw_lt HG.out) (by rw [HVE.out, sw_mod HG.out]; exact h1))
    rw [show decide (9223372036854775808 ≤ V) = s by rw [HVE.out]; exact sw_sign HG.out, show V % 9223372036854775808 = g by rw [HVE.out]; exact sw_mod HG.out] at HO
    obtain ⟨x, hx⟩ : ∃ x, x = fltQ s g := ⟨_, rfl⟩
    rw [← hx] at HO ⊢
    clear h1 HL hx
    go_enter Tryz.func39, Tryz.ntmps39
    go_wp2_with fail
    rw [← HW0.out]
    refine (HO.out w0).mono ?_
    rintro e w1 ⟨v1, rfl, hv1, hb1⟩
    obtain ⟨r1, B, m, d, B', m', d', rfl⟩ := at_shape hv1
    have p0 := bat hb1 HK.out.1
    have p1 := bat hb1 HK.out.2.1
    have p2 := bat hb1 HK.out.2.2
    have HV1 := Lib.hid hv1
    have HB1 := Lib.hid (HB0.out.trans (hb1.mono HB0.out.size))
    obtain ⟨w2, hw2⟩ : ∃ w2, w2 = w1.alloc (.cells #[.bool r1, .slice B m d, .slice B' m' d'] 24) := ⟨_, rfl⟩
    have hb2 : Below w1.heap.size w1 w2 := by rw [hw2]; exact below1 ..
    have q0 : w2.cell? ⟨w1.heap.size, 0, none⟩ = some (.bool r1) := by rw [hw2]; exact new_cell w1 _ _ 0 _ rfl
    have q1 : w2.cell? ⟨w1.heap.size, 1, none⟩ = some (.slice B m d) := by rw [hw2]; exact new_cell w1 _ _ 1 _ rfl
    have q2 : w2.cell? ⟨w1.heap.size, 2, none⟩ = some (.slice B' m' d') := by rw [hw2]; exact new_cell w1 _ _ 2 _ rfl
    have p0 := bat hb2 p0
    have p1 := bat hb2 p1
    have p2 := bat hb2 p2
    have HVr := Lib.hid ((HV.out.below (HB1.out)).below hb2)
    have HV1r := Lib.hid (HV1.out.below hb2)
    have HB2 := Lib.hid (HB1.out.trans (hb2.mono HB1.out.size))
    have HW2 := Lib.hid hw2
    rw [hw2] at p0 p1 p2 q0 q1 q2
    clear hv1 hb1 hb2 hw2
    go_wp2_with fail
    rw [← HW2.out]
    refine (cmpQ_ratio _ _ _ _ w2 HV1r.out HVr.out).mono ?_
    rintro e w3 ⟨rfl, hb3⟩
    have HB3 := Lib.hid (HB2.out.trans (hb3.mono HB2.out.size))
    clear hb3
    obtain ⟨k, hk⟩ : ∃ k, k = cmpQ x q := ⟨_, rfl⟩
    rw [← hk]
    have HKQ := Lib.hid hk
    clear hk
    go_wp2_with fail
    go_ret
    exact ⟨by rw [← HKQ.out]; rfl, HB3.out⟩
  · have he : g = 9218868437227405312 := by have := HG.out; omega
    have HL : Hid (aboveB s g q = !s) := Lib.hid (by unfold aboveB; rw [if_neg h1])
    rw [HL.out]
    have HO := Lib.hid (fun w => of_inf V w (by rw [HVE.out]; exact sw_lt HG.out) (by rw [HVE.out, he]; exact sw_exp))
    have o1 : (FloatKind.f64.format.order V 0 == some Ordering.gt) = !s := by
      have h := gt_sw (s := s) (t := false) HG.out (Nat.zero_le 9218868437227405312)
      rw [HVE.out]
      rw [sw_f] at h
      rw [h, he]
      cases s <;> simp [srt, srf]
    clear h1 he HL
    go_enter Tryz.func39, Tryz.ntmps39
    go_wp2_with fail
    rw [← HW0.out]
    refine (HO.out w0).mono ?_
    rintro e w1 ⟨v1, rfl, hv1, hb1⟩
    obtain ⟨r1, B, m, d, B', m', d', rfl⟩ := hv1.shape
    have HB1 := Lib.hid ((HB0.out.trans (hb1.mono HB0.out.size)).trans ((below1 w1 (.cells #[.bool r1, .slice B m d, .slice B' m' d'] 24)).mono (Nat.le_trans HB0.out.size hb1.size)))
    clear hv1 hb1
    go_wp2_with fail
    go_ret
    exact ⟨rfl, HB1.out⟩

set_option maxRecDepth 100000 in
set_option maxHeartbeats 4000000 in
theorem exact_law (s : Bool) (g : Nat) (v : Value) (q : Rat) (w : World) (hg : g ≤ 9218868437227405312) (hv : At w v q) (h1 : belowB s g q = true) (h2 : aboveB s g q = true) :
    Calls Tryz.prog 42 #[.float .f64 (sw s g), v] w fun e w' => e = .returned (.bool true) ∧ Below w.heap.size w w' := by
  obtain ⟨r, A, n, c, A', n', c', rfl⟩ := at_shape hv
  have HV := Lib.hid hv
  have HG := Lib.hid hg
  have H1 := Lib.hid h1
  have H2 := Lib.hid h2
  obtain ⟨w0, hw0⟩ : ∃ w0, w0 = w.alloc (.cells #[.bool r, .slice A n c, .slice A' n' c'] 24) := ⟨_, rfl⟩
  have HB0 : Hid (Below w.heap.size w w0) := Lib.hid (by rw [hw0]; exact below1 ..)
  have k0 : w0.cell? ⟨w.heap.size, 0, none⟩ = some (.bool r) := by rw [hw0]; exact new_cell w _ _ 0 _ rfl
  have k1 : w0.cell? ⟨w.heap.size, 1, none⟩ = some (.slice A n c) := by rw [hw0]; exact new_cell w _ _ 1 _ rfl
  have k2 : w0.cell? ⟨w.heap.size, 2, none⟩ = some (.slice A' n' c') := by rw [hw0]; exact new_cell w _ _ 2 _ rfl
  have HK := Lib.hid (And.intro k0 (And.intro k1 k2))
  have HW0 := Lib.hid hw0
  clear hv hg hw0 k0 k1 k2 h1 h2
  go_enter Tryz.func42, Tryz.ntmps42
  go_wp2_with fail
  rw [← HW0.out]
  refine (below_law s g _ q w0 HG.out (HV.out.below HB0.out)).mono ?_
  rintro e w1 ⟨rfl, hb1⟩
  rw [H1.out]
  have p0 := bat hb1 HK.out.1
  have p1 := bat hb1 HK.out.2.1
  have p2 := bat hb1 HK.out.2.2
  have HB1 := Lib.hid (HB0.out.trans (hb1.mono HB0.out.size))
  clear hb1
  go_wp2_with fail
  refine (above_law s g _ q w1 HG.out (HV.out.below HB1.out)).mono ?_
  rintro e w2 ⟨rfl, hb2⟩
  rw [H2.out]
  have HB2 := Lib.hid (HB1.out.trans (hb2.mono HB1.out.size))
  clear hb2
  go_wp2_with fail
  go_ret
  exact ⟨rfl, HB2.out⟩

end Go.Proofs.YtjokpfgncmdomaaGreatDoor

/- girderlaw07.nearer: the walk (printed by gen_y2.py) -/
namespace Go.Proofs.YtjokpfgncmdomaaGreatDoor
open Go.RowKit Go.Sort

set_option maxRecDepth 100000 in
set_option maxHeartbeats 4000000 in
theorem nearer_same (N D U : Nat) (v : Value) (q : Rat) (w : World) (hv : At w v q) (o1 : (FloatKind.f64.format.order D U == some Ordering.eq) = true) (o2 : (FloatKind.f64.format.order N D == some Ordering.eq) = true) :
    Calls Tryz.prog 43 #[.float .f64 N, .float .f64 D, .float .f64 U, v] w fun e w' => e = .returned (.bool true) ∧ Below w.heap.size w w' := by
  obtain ⟨r, A, n, c, A', n', c', rfl⟩ := at_shape hv
  clear hv
  go_enter Tryz.func43, Tryz.ntmps43
  go_wp2_with fail
  go_ret
  exact ⟨rfl, below1 ..⟩
/-- what Of tells of a float that is a number -/
def OfC (D : Nat) (x : Rat) : Prop := ∀ w, Calls Tryz.prog 32 #[.float .f64 D] w fun e w' => ∃ v, e = .returned (.tuple #[v, .int .i64 0]) ∧ At w' v x ∧ Below w.heap.size w w'
theorem ofC_sw {s : Bool} {g : Nat} (h : g < 9218868437227405312) : OfC (sw s g) (fltQ s g) := by
  intro w
  have h2 := of_flt (sw s g) w (sw_lt (by omega)) (by rw [sw_mod (by omega)]; exact h)
  rw [sw_sign (by omega), sw_mod (by omega)] at h2
  exact h2
theorem ofF_sw {s : Bool} (w : World) : Calls Tryz.prog 32 #[.float .f64 (sw s 9218868437227405312)] w (Fail 5 w) := of_inf _ w (sw_lt (by omega)) sw_exp

set_option maxRecDepth 100000 in
set_option maxHeartbeats 4000000 in
theorem nearer_infD (N D U : Nat) (x : Rat) (v : Value) (q : Rat) (w : World) (hv : At w v q) (o1 : (FloatKind.f64.format.order D U == some Ordering.eq) = false) (hF : ∀ w, Calls Tryz.prog 32 #[.float .f64 D] w (Fail 5 w)) (hO : OfC U x) :
    Calls Tryz.prog 43 #[.float .f64 N, .float .f64 D, .float .f64 U, v] w fun e w' => e = .returned (.bool true) ∧ Below w.heap.size w w' := by
  obtain ⟨r, A, n, c, A', n', c', rfl⟩ := at_shape hv
  have FQ := Lib.hid hv.2
  obtain ⟨w0, hw0⟩ : ∃ w0, w0 = w.alloc (.cells #[.bool r, .slice A n c, .slice A' n' c'] 24) := ⟨_, rfl⟩
  have HB0 : Hid (Below w.heap.size w w0) := Lib.hid (by rw [hw0]; exact below1 ..)
  have BX0 : Hid (BoxAt w0 w.heap.size r A n c A' n' c' (rv q)) := Lib.hid (by rw [hw0]; exact BoxAt.new hv.1 _)
  have HW0 := Lib.hid hw0
  clear hv hw0
  have HF := Lib.hid hF
  have HO := Lib.hid hO
  clear hF hO
  go_enter Tryz.func43, Tryz.ntmps43
  go_wp2_with fail
  rw [← HW0.out]
  refine (HF.out w0).mono ?_
  rintro e w1 ⟨v2, rfl, hv3, hb4⟩
  have HV5 := Lib.hid hv3
  have BX8 := Lib.hid (BX0.out.below hb4)
  clear BX0
  have HB9 := Lib.hid (HB0.out.trans (hb4.mono HB0.out.size))
  obtain ⟨s10, A11, n12, d13, C14, m15, f16, rfl⟩ := hv3.shape
  obtain ⟨w17, hw17⟩ : ∃ wm, wm = w1.alloc (.cells #[.bool s10, .slice A11 n12 d13, .slice C14 m15 f16] 24) := ⟨_, rfl⟩
  have HW18 := Lib.hid hw17
  have hb19 : Below w1.heap.size w1 w17 := by rw [hw17]; exact below1 ..
  have BX20 := Lib.hid (BX8.out.below hb19)
  clear BX8
  have HB21 := Lib.hid (HB9.out.trans (hb19.mono HB9.out.size))
  have BX22 : Hid (BoxAt w17 w1.heap.size s10 A11 n12 d13 C14 m15 f16 (noR)) := Lib.hid (by rw [hw17]; exact BoxAt.new HV5.out _)
  clear hv3 hb4 hw17 hb19
  go_wp2_with fail
  rw [← HW18.out]
  refine (HO.out w17).mono ?_
  rintro e w23 ⟨v24, rfl, hv25, hb26⟩
  have FX := Lib.hid hv25.2
  replace hv25 := hv25.1
  have HV27 := Lib.hid hv25
  have BX30 := Lib.hid (BX20.out.below hb26)
  clear BX20
  have BX31 := Lib.hid (BX22.out.below hb26)
  clear BX22
  have HB32 := Lib.hid (HB21.out.trans (hb26.mono HB21.out.size))
  obtain ⟨s33, A34, n35, d36, C37, m38, f39, rfl⟩ := hv25.shape
  obtain ⟨w40, hw40⟩ : ∃ wm, wm = w23.alloc (.cells #[.bool s33, .slice A34 n35 d36, .slice C37 m38 f39] 24) := ⟨_, rfl⟩
  have HW41 := Lib.hid hw40
  have hb42 : Below w23.heap.size w23 w40 := by rw [hw40]; exact below1 ..
  have BX43 := Lib.hid (BX30.out.below hb42)
  clear BX30
  have BX44 := Lib.hid (BX31.out.below hb42)
  clear BX31
  have HB45 := Lib.hid (HB32.out.trans (hb42.mono HB32.out.size))
  have BX46 : Hid (BoxAt w40 w23.heap.size s33 A34 n35 d36 C37 m38 f39 (rv x)) := Lib.hid (by rw [hw40]; exact BoxAt.new HV27.out _)
  clear hv25 hb26 hw40 hb42
  go_wp2_with fail
  rw [← HW41.out]
  go_ret
  exact ⟨rfl, HB45.out⟩
set_option maxRecDepth 100000 in
set_option maxHeartbeats 4000000 in
theorem nearer_infU (N D U : Nat) (x : Rat) (v : Value) (q : Rat) (w : World) (hv : At w v q) (o1 : (FloatKind.f64.format.order D U == some Ordering.eq) = false) (hF : ∀ w, Calls Tryz.prog 32 #[.float .f64 U] w (Fail 5 w)) (hO : OfC D x) :
    Calls Tryz.prog 43 #[.float .f64 N, .float .f64 D, .float .f64 U, v] w fun e w' => e = .returned (.bool true) ∧ Below w.heap.size w w' := by
  obtain ⟨r, A, n, c, A', n', c', rfl⟩ := at_shape hv
  have FQ := Lib.hid hv.2
  obtain ⟨w0, hw0⟩ : ∃ w0, w0 = w.alloc (.cells #[.bool r, .slice A n c, .slice A' n' c'] 24) := ⟨_, rfl⟩
  have HB0 : Hid (Below w.heap.size w w0) := Lib.hid (by rw [hw0]; exact below1 ..)
  have BX0 : Hid (BoxAt w0 w.heap.size r A n c A' n' c' (rv q)) := Lib.hid (by rw [hw0]; exact BoxAt.new hv.1 _)
  have HW0 := Lib.hid hw0
  clear hv hw0
  have HF := Lib.hid hF
  have HO := Lib.hid hO
  clear hF hO
  go_enter Tryz.func43, Tryz.ntmps43
  go_wp2_with fail
  rw [← HW0.out]
  refine (HO.out w0).mono ?_
  rintro e w47 ⟨v48, rfl, hv49, hb50⟩
  have FX := Lib.hid hv49.2
  replace hv49 := hv49.1
  have HV51 := Lib.hid hv49
  have BX54 := Lib.hid (BX0.out.below hb50)
  clear BX0
  have HB55 := Lib.hid (HB0.out.trans (hb50.mono HB0.out.size))
  obtain ⟨s56, A57, n58, d59, C60, m61, f62, rfl⟩ := hv49.shape
  obtain ⟨w63, hw63⟩ : ∃ wm, wm = w47.alloc (.cells #[.bool s56, .slice A57 n58 d59, .slice C60 m61 f62] 24) := ⟨_, rfl⟩
  have HW64 := Lib.hid hw63
  have hb65 : Below w47.heap.size w47 w63 := by rw [hw63]; exact below1 ..
  have BX66 := Lib.hid (BX54.out.below hb65)
  clear BX54
  have HB67 := Lib.hid (HB55.out.trans (hb65.mono HB55.out.size))
  have BX68 : Hid (BoxAt w63 w47.heap.size s56 A57 n58 d59 C60 m61 f62 (rv x)) := Lib.hid (by rw [hw63]; exact BoxAt.new HV51.out _)
  clear hv49 hb50 hw63 hb65
  go_wp2_with fail
  rw [← HW64.out]
  refine (HF.out w63).mono ?_
  rintro e w69 ⟨v70, rfl, hv71, hb72⟩
  have HV73 := Lib.hid hv71
  have BX76 := Lib.hid (BX66.out.below hb72)
  clear BX66
  have BX77 := Lib.hid (BX68.out.below hb72)
  clear BX68
  have HB78 := Lib.hid (HB67.out.trans (hb72.mono HB67.out.size))
  obtain ⟨s79, A80, n81, d82, C83, m84, f85, rfl⟩ := hv71.shape
  obtain ⟨w86, hw86⟩ : ∃ wm, wm = w69.alloc (.cells #[.bool s79, .slice A80 n81 d82, .slice C83 m84 f85] 24) := ⟨_, rfl⟩
  have HW87 := Lib.hid hw86
  have hb88 : Below w69.heap.size w69 w86 := by rw [hw86]; exact below1 ..
  have BX89 := Lib.hid (BX76.out.below hb88)
  clear BX76
  have BX90 := Lib.hid (BX77.out.below hb88)
  clear BX77
  have HB91 := Lib.hid (HB78.out.trans (hb88.mono HB78.out.size))
  have BX92 : Hid (BoxAt w86 w69.heap.size s79 A80 n81 d82 C83 m84 f85 (noR)) := Lib.hid (by rw [hw86]; exact BoxAt.new HV73.out _)
  clear hv71 hb72 hw86 hb88
  go_wp2_with fail
  rw [← HW87.out]
  go_ret
  exact ⟨rfl, HB91.out⟩
set_option maxRecDepth 100000 in
set_option maxHeartbeats 4000000 in
theorem nearer_fin (N D U : Nat) (oN : Bool) (x y : Rat) (v : Value) (q : Rat) (w : World) (hv : At w v q) (o1 : (FloatKind.f64.format.order D U == some Ordering.eq) = false) (o2 : (FloatKind.f64.format.order N D == some Ordering.eq) = oN)
    (hD : OfC D x) (hU : OfC U y) (hf : fits (x + y)) (hlt : cmpQ (q + q) (x + y) < 0 → oN = true) (hgt : 0 < cmpQ (q + q) (x + y) → oN = false) :
    Calls Tryz.prog 43 #[.float .f64 N, .float .f64 D, .float .f64 U, v] w fun e w' => e = .returned (.bool true) ∧ Below w.heap.size w w' := by
  obtain ⟨r, A, n, c, A', n', c', rfl⟩ := at_shape hv
  have FQ := Lib.hid hv.2
  obtain ⟨w0, hw0⟩ : ∃ w0, w0 = w.alloc (.cells #[.bool r, .slice A n c, .slice A' n' c'] 24) := ⟨_, rfl⟩
  have HB0 : Hid (Below w.heap.size w w0) := Lib.hid (by rw [hw0]; exact below1 ..)
  have BX0 : Hid (BoxAt w0 w.heap.size r A n c A' n' c' (rv q)) := Lib.hid (by rw [hw0]; exact BoxAt.new hv.1 _)
  have HW0 := Lib.hid hw0
  clear hv hw0
  have HD := Lib.hid hD
  have HU := Lib.hid hU
  have FS := Lib.hid hf
  have HL := Lib.hid (And.intro hlt hgt)
  have O2 := Lib.hid o2
  clear hD hU hf hlt hgt o2
  go_enter Tryz.func43, Tryz.ntmps43
  go_wp2_with fail
  rw [← HW0.out]
  refine (HD.out w0).mono ?_
  rintro e w93 ⟨v94, rfl, hv95, hb96⟩
  have FX := Lib.hid hv95.2
  replace hv95 := hv95.1
  have HV97 := Lib.hid hv95
  have BX100 := Lib.hid (BX0.out.below hb96)
  clear BX0
  have HB101 := Lib.hid (HB0.out.trans (hb96.mono HB0.out.size))
  obtain ⟨s102, A103, n104, d105, C106, m107, f108, rfl⟩ := hv95.shape
  obtain ⟨w109, hw109⟩ : ∃ wm, wm = w93.alloc (.cells #[.bool s102, .slice A103 n104 d105, .slice C106 m107 f108] 24) := ⟨_, rfl⟩
  have HW110 := Lib.hid hw109
  have hb111 : Below w93.heap.size w93 w109 := by rw [hw109]; exact below1 ..
  have BX112 := Lib.hid (BX100.out.below hb111)
  clear BX100
  have HB113 := Lib.hid (HB101.out.trans (hb111.mono HB101.out.size))
  have BX114 : Hid (BoxAt w109 w93.heap.size s102 A103 n104 d105 C106 m107 f108 (rv x)) := Lib.hid (by rw [hw109]; exact BoxAt.new HV97.out _)
  clear hv95 hb96 hw109 hb111
  go_wp2_with fail
  rw [← HW110.out]
  refine (HU.out w109).mono ?_
  rintro e w115 ⟨v116, rfl, hv117, hb118⟩
  have FY := Lib.hid hv117.2
  replace hv117 := hv117.1
  have HV119 := Lib.hid hv117
  have BX122 := Lib.hid (BX112.out.below hb118)
  clear BX112
  have BX123 := Lib.hid (BX114.out.below hb118)
  clear BX114
  have HB124 := Lib.hid (HB113.out.trans (hb118.mono HB113.out.size))
  obtain ⟨s125, A126, n127, d128, C129, m130, f131, rfl⟩ := hv117.shape
  obtain ⟨w132, hw132⟩ : ∃ wm, wm = w115.alloc (.cells #[.bool s125, .slice A126 n127 d128, .slice C129 m130 f131] 24) := ⟨_, rfl⟩
  have HW133 := Lib.hid hw132
  have hb134 : Below w115.heap.size w115 w132 := by rw [hw132]; exact below1 ..
  have BX135 := Lib.hid (BX122.out.below hb134)
  clear BX122
  have BX136 := Lib.hid (BX123.out.below hb134)
  clear BX123
  have HB137 := Lib.hid (HB124.out.trans (hb134.mono HB124.out.size))
  have BX138 : Hid (BoxAt w132 w115.heap.size s125 A126 n127 d128 C129 m130 f131 (rv y)) := Lib.hid (by rw [hw132]; exact BoxAt.new HV119.out _)
  clear hv117 hb118 hw132 hb134
  obtain ⟨x139, x140, x141⟩ := BX136.out.1
  obtain ⟨x142, x143, x144⟩ := BX138.out.1
  rw [HW133.out] at x139 x140 x141 x142 x143 x144
  go_wp2_with fail
  rw [← HW133.out]
  clear x139 x140 x141 x142 x143 x144
  refine (addQ _ _ _ _ w132 ⟨BX136.out.2, FX.out⟩ ⟨BX138.out.2, FY.out⟩).mono ?_
  rintro e w145 ⟨v146, rfl, hv147, hb148⟩
  have HV149 := Lib.hid hv147
  have BX152 := Lib.hid (BX135.out.below hb148)
  clear BX135
  have BX153 := Lib.hid (BX136.out.below hb148)
  clear BX136
  have BX154 := Lib.hid (BX138.out.below hb148)
  clear BX138
  have HB155 := Lib.hid (HB137.out.trans (hb148.mono HB137.out.size))
  obtain ⟨s156, A157, n158, d159, C160, m161, f162, rfl⟩ := hv147.shape
  obtain ⟨er150, her150⟩ : ∃ e, e = toldE (x + y) := ⟨_, rfl⟩
  rw [← her150]
  have E151 := Lib.hid her150
  clear her150
  obtain ⟨w163, hw163⟩ : ∃ wm, wm = w145.alloc (.cells #[.bool s156, .slice A157 n158 d159, .slice C160 m161 f162] 24) := ⟨_, rfl⟩
  have HW164 := Lib.hid hw163
  have hb165 : Below w145.heap.size w145 w163 := by rw [hw163]; exact below1 ..
  have BX166 := Lib.hid (BX152.out.below hb165)
  clear BX152
  have BX167 := Lib.hid (BX153.out.below hb165)
  clear BX153
  have BX168 := Lib.hid (BX154.out.below hb165)
  clear BX154
  have HB169 := Lib.hid (HB155.out.trans (hb165.mono HB155.out.size))
  have BX170 : Hid (BoxAt w163 w145.heap.size s156 A157 n158 d159 C160 m161 f162 (toldR (x + y))) := Lib.hid (by rw [hw163]; exact BoxAt.new HV149.out _)
  clear hv147 hb148 hw163 hb165
  have zs1 := (e_fits E151.out FS.out).1
  have zs2 := (e_fits E151.out FS.out).2
  obtain ⟨x171, x172, x173⟩ := BX166.out.1
  obtain ⟨x174, x175, x176⟩ := BX166.out.1
  rw [HW164.out] at x171 x172 x173 x174 x175 x176
  go_wp2_with fail
  rw [← HW164.out]
  clear x171 x172 x173 x174 x175 x176
  refine (addQ _ _ _ _ w163 ⟨BX166.out.2, FQ.out⟩ ⟨BX166.out.2, FQ.out⟩).mono ?_
  rintro e w177 ⟨v178, rfl, hv179, hb180⟩
  have HV181 := Lib.hid hv179
  have BX184 := Lib.hid (BX166.out.below hb180)
  clear BX166
  have BX185 := Lib.hid (BX167.out.below hb180)
  clear BX167
  have BX186 := Lib.hid (BX168.out.below hb180)
  clear BX168
  have BX187 := Lib.hid (BX170.out.below hb180)
  clear BX170
  have HB188 := Lib.hid (HB169.out.trans (hb180.mono HB169.out.size))
  obtain ⟨s189, A190, n191, d192, C193, m194, f195, rfl⟩ := hv179.shape
  obtain ⟨er182, her182⟩ : ∃ e, e = toldE (q + q) := ⟨_, rfl⟩
  rw [← her182]
  have E183 := Lib.hid her182
  clear her182
  obtain ⟨w196, hw196⟩ : ∃ wm, wm = w177.alloc (.cells #[.bool s189, .slice A190 n191 d192, .slice C193 m194 f195] 24) := ⟨_, rfl⟩
  have HW197 := Lib.hid hw196
  have hb198 : Below w177.heap.size w177 w196 := by rw [hw196]; exact below1 ..
  have BX199 := Lib.hid (BX184.out.below hb198)
  clear BX184
  have BX200 := Lib.hid (BX185.out.below hb198)
  clear BX185
  have BX201 := Lib.hid (BX186.out.below hb198)
  clear BX186
  have BX202 := Lib.hid (BX187.out.below hb198)
  clear BX187
  have HB203 := Lib.hid (HB188.out.trans (hb198.mono HB188.out.size))
  have BX204 : Hid (BoxAt w196 w177.heap.size s189 A190 n191 d192 C193 m194 f195 (toldR (q + q))) := Lib.hid (by rw [hw196]; exact BoxAt.new HV181.out _)
  clear hv179 hb180 hw196 hb198
  by_cases hf205 : fits (q + q)
  · have F206 := Lib.hid hf205
    have z207 := (e_fits E183.out hf205).1
    have y208 := (e_fits E183.out hf205).2
    clear hf205
    obtain ⟨x209, x210, x211⟩ := BX202.out.1
    obtain ⟨x212, x213, x214⟩ := BX204.out.1
    rw [HW197.out] at x209 x210 x211 x212 x213 x214
    go_wp2_with fail
    rw [← HW197.out]
    clear x209 x210 x211 x212 x213 x214
    refine (cmpQ_ratio _ _ _ _ w196 (atT BX204.out.2 F206.out) (atT BX202.out.2 FS.out)).mono ?_
    rintro e w215 ⟨rfl, hb216⟩
    have BX217 := Lib.hid (BX199.out.below hb216)
    clear BX199
    have BX218 := Lib.hid (BX200.out.below hb216)
    clear BX200
    have BX219 := Lib.hid (BX201.out.below hb216)
    clear BX201
    have BX220 := Lib.hid (BX202.out.below hb216)
    clear BX202
    have BX221 := Lib.hid (BX204.out.below hb216)
    clear BX204
    have HB222 := Lib.hid (HB203.out.trans (hb216.mono HB203.out.size))
    clear hb216
    obtain ⟨k, hk⟩ : ∃ k, k = cmpQ (q + q) (x + y) := ⟨_, rfl⟩
    rw [← hk]
    have HL1 := HL.out
    rw [← hk] at HL1
    clear hk
    rcases Int.lt_trichotomy k 0 with h | h | h
    · have b1 : (k == 0) = false := by simp; omega
      have b2 : decide (k < 0) = true := by simp; omega
      have o2 := O2.out
      rw [HL1.1 h] at o2
      clear h HL1
      go_wp2_with fail
      go_ret
      exact ⟨rfl, HB222.out⟩
    · subst h
      clear HL1
      go_wp2_with fail
      go_ret
      exact ⟨rfl, HB222.out⟩
    · have b1 : (k == 0) = false := by simp; omega
      have b2 : decide (k < 0) = false := by simp; omega
      have o2 := O2.out
      rw [HL1.2 h] at o2
      clear h HL1
      go_wp2_with fail
      go_ret
      exact ⟨rfl, HB222.out⟩
  · have F223 := Lib.hid hf205
    have z224 := (e_long E183.out hf205).1
    have y225 := (e_long E183.out hf205).2.1
    clear hf205
    go_wp2_with fail
    rw [← HW197.out]
    go_ret
    exact ⟨rfl, HB203.out⟩

end Go.Proofs.YtjokpfgncmdomaaGreatDoor
