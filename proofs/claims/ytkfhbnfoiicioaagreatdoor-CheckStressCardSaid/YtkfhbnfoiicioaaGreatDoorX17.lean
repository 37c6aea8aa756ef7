import Derived.Test.YtkfhbnfoiicioaaGreatDoorX16
import Derived.Deep.Cut
import Derived.Deep.DeepCutAuto
set_option linter.unusedSimpArgs false
set_option linter.unusedVariables false
/- girderref03: Exact, Div: the walks (printed by gen_q8.py) -/
namespace Go.Proofs.YtkfhbnfoiicioaaGreatDoor
open Ieee Go.RowKit Go.Sort

set_option maxRecDepth 100000 in
set_option maxHeartbeats 4000000 in
theorem exact03_any (u : Nat) (w : World) (hu : u < 18446744073709551616) (hf : u % 9223372036854775808 < 9218868437227405312) :
    Calls Tryz.prog 88 #[.float .f64 u] w fun e w' => ∃ v d, e = .returned v ∧ NF u d ∧ NA w' v d ∧ Below w.heap.size w w' := by
  have I1 := Lib.hid (fun w => float00_any u w hu hf)
  obtain ⟨w0, hw0⟩ : ∃ w0, w0 = w.alloc (.cells #[.bool false, .slice none 0 0, .int .i64 0] 100) := ⟨_, rfl⟩
  have g1 : w0.heap[w.heap.size]? = some (.cells #[.bool false, .slice none 0 0, .int .i64 0] 100 (0, 0)) := by rw [hw0]; exact blk_new ..
  have hb0 : Below w.heap.size w w0 := by rw [hw0]; exact below1 ..
  have z0 : w0.heap.size = w.heap.size + 1 := by rw [hw0]; simp
  have HB0 := Lib.hid hb0
  have HW := Lib.hid hw0
  have HG := Lib.hid g1
  have HZ := Lib.hid z0
  clear hw0 hb0 g1 z0
  go_enter Tryz.func88, Tryz.ntmps88
  go_wp2_with fail
  rw [← HW.out]
  refine (I1.out w0).mono ?_
  rintro e wb ⟨v, d, rfl, hnf, hna, hbb⟩
  have HNF := Lib.hid hnf
  have HNA := Lib.hid hna
  have HBB := Lib.hid (HB0.out.trans (hbb.mono HB0.out.size))
  have HGB := Lib.hid ((hbb.block _ (by have := HZ.out; omega)).trans HG.out)
  obtain ⟨C', nc, dc, rfl, _⟩ := hna.agg
  clear hnf hna hbb
  obtain ⟨r0, r1, r2, f0, f1, f2⟩ := cells3 HGB.out
  go_wp2_with fail
  obtain ⟨w6, hw6⟩ : ∃ w6, w6 = ((wb.setCell ⟨w.heap.size, 0, none⟩ (.bool d.neg)).setCell ⟨w.heap.size, 1, none⟩ (.slice C' nc dc)).setCell ⟨w.heap.size, 2, none⟩ (.int .i64 d.exp) := ⟨_, rfl⟩
  obtain ⟨hD6, hB6, q0, q1, q2⟩ := num_out (d := d) HGB.out HNA.out w6 hw6
  have hb6 := HBB.out.trans (hB6 w.heap.size (by omega))
  rw [← hw6]
  (try simp only [Exit.inBlock, Exit.then])
  refine bodyPost_ret (v := .agg #[.bool d.neg, .slice C' nc dc, .int .i64 d.exp]) (by simp [results, Tryz.results88, go_sem, q0, q1, q2]; done) rfl ?_
  exact ⟨_, d, rfl, HNF.out, hD6, hb6⟩

theorem numD_mul2 (s t : Bool) (a b : Nat) : numD (!(s == t)) (a * b) = numD s a * numD t b := by
  unfold numD
  cases s <;> cases t <;> simp [Int.neg_mul, Int.mul_neg]
theorem NF.val2 {u : Nat} {d : DV} (h : NF u d) (hu : u < 18446744073709551616) (hf : u % 9223372036854775808 < 9218868437227405312) : fk u = d.top * 2 ^ (d.exp + 1074).toNat := by
  rw [fk_num hu hf, h.val, top_num, h.neg, numD_mul]
  rfl
theorem times_cmp {a b q : Nat} {da dq db : DV} (ha : NF a da) (hq : NF q dq) (hb : NF b db) (la : a < 18446744073709551616) (lq : q < 18446744073709551616) (lb : b < 18446744073709551616) (fa : a % 9223372036854775808 < 9218868437227405312) (fq : q % 9223372036854775808 < 9218868437227405312) (fb : b % 9223372036854775808 < 9218868437227405312) :
    cmpE da.top da.exp (DV.top ⟨!(dq.neg == db.neg), lim (ln dq.mag * ln db.mag), dq.exp + db.exp⟩) (dq.exp + db.exp) = exS a b q := by
  rw [top_num ⟨!(dq.neg == db.neg), lim (ln dq.mag * ln db.mag), dq.exp + db.exp⟩]
  simp only
  rw [ln_dig, numD_mul2, ← top_num dq, ← top_num db]
  exact ex_eq (ha.val2 la fa) (hq.val2 lq fq) (hb.val2 lb fb) ha.lo hq.lo hb.lo
theorem wrap_sg {X : Int} {b : Nat} (h : X = 1 ∨ X = -1 ∨ X = 0) : wrap64 (X * sgF b) = X * sgF b := by
  have h2 := sgF_range b
  rcases h with h1 | h1 | h1 <;> rcases h2 with h2 | h2 | h2 <;> rw [h1, h2] <;> decide +kernel

set_option maxRecDepth 100000 in
set_option maxHeartbeats 8000000 in
theorem div03_any (a b q : Nat) (m : Int) (w : World) (ha : a < 18446744073709551616) (hb : b < 18446744073709551616) (hq : q < 18446744073709551616) (hr : floatBits .quo .f64 a b = some q) (hn : fnan q = false) (hm : m = 1 ∨ m = 2) (hz : b % 9223372036854775808 ≠ 0) :
    Calls Tryz.prog 70 #[.float .f64 a, .float .f64 b, .int .i8 m] w fun e w' => e = .returned (.float .f64 (divX a b m q)) ∧ Below w.heap.size w w' := by
  have hrun := fun w => run_float_arith (P := Tryz.prog) (w := w) BinOp.quo 22 FloatKind.f64 a b q hr
  have I1 := Lib.hid (fun w => fin03_any a w)
  have I2 := Lib.hid (fun w => fin03_any b w)
  have I3 := Lib.hid (fun w => fin03_any q w)
  have I4 := Lib.hid (fun w => great_any q m w hq hm (by rintro ⟨h1, h2⟩; have := (fgt_iff q 0).1 h1; have := (flt_iff q 0).1 h2; omega))
  have I5 := Lib.hid (fun w => middle_any a w ha)
  have I6 := Lib.hid (fun w => middle_any b w hb)
  have I7 := Lib.hid (fun w => middle_any q w hq)
  have I8 := Lib.hid (fun w u => sign03_any u w)
  have I9 := Lib.hid (fun w e => side_any q e m w hq hn hm)
  obtain ⟨r, hrr⟩ : ∃ r, r = divX a b m q := ⟨_, rfl⟩
  rw [← hrr]
  have hq1 : (finB a && finB b) = false ∨ feq a 0 = true ∨ feq b 0 = true → r = q := fun h => by rw [hrr]; unfold divX; rw [if_pos h]
  have hq2 : ¬ ((finB a && finB b) = false ∨ feq a 0 = true ∨ feq b 0 = true) → finB q = false → r = greatF q m := fun h h2 => by
    have hi : infB q = true := by rw [fin_inf hn, h2]; rfl
    rw [hrr]; unfold divX; rw [if_neg h, if_pos hi, set_great hi]
  have hq3 : ¬ ((finB a && finB b) = false ∨ feq a 0 = true ∨ feq b 0 = true) → finB q = true → r = sideF q (exS a b q * sgF b) m := fun h h2 => by
    have hi : infB q = false := by rw [fin_inf hn, h2]; rfl
    rw [hrr]; unfold divX; rw [if_neg h, if_neg (by rw [hi]; decide), set_side hq hn hi]
  have HQ := Lib.hid (And.intro hq1 (And.intro hq2 hq3))
  have hFM : midB a = true → midB b = true → midB q = true → ∃ fr, (∀ w, (callFunc 60 #[.float .f64 (negF q), .float .f64 b, .float .f64 a]).run Tryz.prog w = .ok (.value (.float .f64 fr)) w) ∧ sgF fr = exS a b q := fun h1 h2 h3 => by
    obtain ⟨fr, f1, f2, f3⟩ := fma_ex hq (midB_parts ha h1).1 (midB_parts hb h2).1 (midB_parts hq h3).1 hz hr (midB_parts ha h1).2.1 (midB_parts ha h1).2.2
    exact ⟨fr, fun w => run_fma f1 w, f3⟩
  have FM := Lib.hid hFM
  have hneg := fun w => run_neg hq w
  have X1 := Lib.hid (fun w h => exact03_any a w ha h)
  have X2 := Lib.hid (fun w h => exact03_any q w hq h)
  have X3 := Lib.hid (fun w h => exact03_any b w hb h)
  have TC := Lib.hid (fun (da dq db : DV) h1 h2 h3 fa fq fb => times_cmp (a := a) (b := b) (q := q) (da := da) (dq := dq) (db := db) h1 h2 h3 ha hq hb fa fq fb)
  have WS := Lib.hid (wrap_sg (b := b) (exS_range a b q))
  have HA : Hid (finB a = true → a % 9223372036854775808 < 9218868437227405312) := Lib.hid (fun h => of_decide_eq_true h)
  have HBf : Hid (finB b = true → b % 9223372036854775808 < 9218868437227405312) := Lib.hid (fun h => of_decide_eq_true h)
  have HQf : Hid (finB q = true → q % 9223372036854775808 < 9218868437227405312) := Lib.hid (fun h => of_decide_eq_true h)
  obtain ⟨X, hX⟩ : ∃ X, X = exS a b q := ⟨_, rfl⟩
  rw [← hX] at HQ FM WS TC
  have HR := Lib.hid (Below.refl w.heap.size w)
  clear hr hn hm hz hrr hq1 hq2 hq3 hFM hX
  obtain ⟨fa, hfa⟩ : ∃ f, finB a = f := ⟨_, rfl⟩
  obtain ⟨fb, hfb⟩ : ∃ f, finB b = f := ⟨_, rfl⟩
  obtain ⟨fq, hfq⟩ : ∃ f, finB q = f := ⟨_, rfl⟩
  obtain ⟨za, hza⟩ : ∃ f, feq a 0 = f := ⟨_, rfl⟩
  obtain ⟨zb, hzb⟩ : ∃ f, feq b 0 = f := ⟨_, rfl⟩
  obtain ⟨ma, hma⟩ : ∃ f, midB a = f := ⟨_, rfl⟩
  obtain ⟨mb, hmb⟩ : ∃ f, midB b = f := ⟨_, rfl⟩
  obtain ⟨mq, hmq⟩ : ∃ f, midB q = f := ⟨_, rfl⟩
  rw [hfa] at I1 HA
  rw [hfb] at I2 HBf
  rw [hfq] at I3 HQf
  rw [hma] at I5 FM
  rw [hmb] at I6 FM
  rw [hmq] at I7 FM
  rw [hfa, hfb, hza, hzb, hfq] at HQ
  unfold feq at hza hzb
  clear hfa hfb hfq hma hmb hmq
  cases fa
  · have HE := Lib.hid (HQ.out.1 (.inl rfl))
    go_enter Tryz.func70, Tryz.ntmps70
    go_wp2_with fail
    refine (I1.out w).mono ?_
    rintro e w1 ⟨rfl, hb1⟩
    have H1 := Lib.hid (HR.out.trans (hb1.mono HR.out.size))
    clear hb1
    go_wp2_with fail
    go_ret
    exact ⟨by rw [HE.out]; rfl, H1.out⟩
  cases fb
  · have HE := Lib.hid (HQ.out.1 (.inl rfl))
    go_enter Tryz.func70, Tryz.ntmps70
    go_wp2_with fail
    refine (I1.out w).mono ?_
    rintro e w1 ⟨rfl, hb1⟩
    have H1 := Lib.hid (HR.out.trans (hb1.mono HR.out.size))
    clear hb1
    go_wp2_with fail
    refine (I2.out w1).mono ?_
    rintro e w2 ⟨rfl, hb2⟩
    have H2 := Lib.hid (H1.out.trans (hb2.mono H1.out.size))
    clear hb2
    go_wp2_with fail
    go_ret
    exact ⟨by rw [HE.out]; rfl, H2.out⟩
  cases za
  rotate_left
  · have HE := Lib.hid (HQ.out.1 (.inr (.inl rfl)))
    go_enter Tryz.func70, Tryz.ntmps70
    go_wp2_with fail
    refine (I1.out w).mono ?_
    rintro e w1 ⟨rfl, hb1⟩
    have H1 := Lib.hid (HR.out.trans (hb1.mono HR.out.size))
    clear hb1
    go_wp2_with fail
    refine (I2.out w1).mono ?_
    rintro e w2 ⟨rfl, hb2⟩
    have H2 := Lib.hid (H1.out.trans (hb2.mono H1.out.size))
    clear hb2
    go_wp2_with fail
    go_ret
    exact ⟨by rw [HE.out]; rfl, H2.out⟩
  cases zb
  rotate_left
  · have HE := Lib.hid (HQ.out.1 (.inr (.inr rfl)))
    go_enter Tryz.func70, Tryz.ntmps70
    go_wp2_with fail
    refine (I1.out w).mono ?_
    rintro e w1 ⟨rfl, hb1⟩
    have H1 := Lib.hid (HR.out.trans (hb1.mono HR.out.size))
    clear hb1
    go_wp2_with fail
    refine (I2.out w1).mono ?_
    rintro e w2 ⟨rfl, hb2⟩
    have H2 := Lib.hid (H1.out.trans (hb2.mono H1.out.size))
    clear hb2
    go_wp2_with fail
    go_ret
    exact ⟨by rw [HE.out]; rfl, H2.out⟩
  cases fq
  · have HE := Lib.hid (HQ.out.2.1 (by decide) rfl)
    go_enter Tryz.func70, Tryz.ntmps70
    go_wp2_with fail
    refine (I1.out w).mono ?_
    rintro e w1 ⟨rfl, hb1⟩
    have H1 := Lib.hid (HR.out.trans (hb1.mono HR.out.size))
    clear hb1
    go_wp2_with fail
    refine (I2.out w1).mono ?_
    rintro e w2 ⟨rfl, hb2⟩
    have H2 := Lib.hid (H1.out.trans (hb2.mono H1.out.size))
    clear hb2
    go_wp2_with fail
    refine (I3.out w2).mono ?_
    rintro e w3 ⟨rfl, hb3⟩
    have H3 := Lib.hid (H2.out.trans (hb3.mono H2.out.size))
    clear hb3
    go_wp2_with fail
    refine (I4.out w3).mono ?_
    rintro e wz ⟨rfl, rfl⟩
    go_wp2_with fail
    go_ret
    exact ⟨by rw [HE.out]; rfl, H3.out⟩
  have HE := Lib.hid (HQ.out.2.2 (by decide) rfl)
  cases ma
  · skip
    go_enter Tryz.func70, Tryz.ntmps70
    go_wp2_with fail
    refine (I1.out w).mono ?_
    rintro e w1 ⟨rfl, hb1⟩
    have H1 := Lib.hid (HR.out.trans (hb1.mono HR.out.size))
    clear hb1
    go_wp2_with fail
    refine (I2.out w1).mono ?_
    rintro e w2 ⟨rfl, hb2⟩
    have H2 := Lib.hid (H1.out.trans (hb2.mono H1.out.size))
    clear hb2
    go_wp2_with fail
    refine (I3.out w2).mono ?_
    rintro e w3 ⟨rfl, hb3⟩
    have H3 := Lib.hid (H2.out.trans (hb3.mono H2.out.size))
    clear hb3
    go_wp2_with fail
    refine (I5.out w3).mono ?_
    rintro e wz ⟨rfl, rfl⟩
    go_wp2_with fail
    refine (X1.out w3 (HA.out (by first | rfl | trivial))).mono ?_
    rintro e w4 ⟨va, da, rfl, hnf, hna, hb4⟩
    have Fa := Lib.hid hnf
    have Na4 := Lib.hid hna
    have H4 := Lib.hid (H3.out.trans (hb4.mono H3.out.size))
    clear hnf hna hb4
    go_wp2_with fail
    refine (X2.out w4 (HQf.out (by first | rfl | trivial))).mono ?_
    rintro e w5 ⟨vq, dq, rfl, hnf, hna, hb5⟩
    have Fq := Lib.hid hnf
    have Nq5 := Lib.hid hna
    have Na5 := Lib.hid (Na4.out.below hb5)
    have H5 := Lib.hid (H4.out.trans (hb5.mono H4.out.size))
    clear hnf hna hb5
    go_wp2_with fail
    refine (X3.out w5 (HBf.out (by first | rfl | trivial))).mono ?_
    rintro e w6 ⟨vb, db, rfl, hnf, hna, hb6⟩
    have Fb := Lib.hid hnf
    have Nb6 := Lib.hid hna
    have Na6 := Lib.hid (Na5.out.below hb6)
    have Nq6 := Lib.hid (Nq5.out.below hb6)
    have H6 := Lib.hid (H5.out.trans (hb6.mono H5.out.size))
    clear hnf hna hb6
    go_wp2_with fail
    refine (timesN_any vq vb dq db w6 Nq6.out Nb6.out (Nat.le_trans Fq.out.len (by decide)) (Nat.le_trans Fb.out.len (by decide)) ⟨by have := Fq.out.lo; omega, by have := Fq.out.hi; omega⟩ ⟨by have := Fb.out.lo; omega, by have := Fb.out.hi; omega⟩).mono ?_
    rintro e w7 ⟨vt, rfl, hnt, hb7⟩
    have Nt := Lib.hid hnt
    have Na7 := Lib.hid (Na6.out.below hb7)
    have hlt : (lim (ln dq.mag * ln db.mag)).length ≤ 2 := by
      refine lim_len_le ?_
      rw [W64_pow]
      have a1 := ln_lt Nq6.out.2
      have a2 := ln_lt Nb6.out.2
      rw [W64_pow] at a1 a2
      have a3 : ln dq.mag < 2 ^ 64 := Nat.lt_of_lt_of_le a1 (Nat.pow_le_pow_right (by decide) (by have := Fq.out.len; omega))
      have a4 : ln db.mag < 2 ^ 64 := Nat.lt_of_lt_of_le a2 (Nat.pow_le_pow_right (by decide) (by have := Fb.out.len; omega))
      exact Nat.lt_of_lt_of_le (Nat.mul_lt_mul'' a3 a4) (by decide)
    have HLT := Lib.hid hlt
    have H7 := Lib.hid (H6.out.trans (hb7.mono H6.out.size))
    clear hnt hlt hb7
    go_wp2_with fail
    refine (compareN_any va vt da ⟨!(dq.neg == db.neg), lim (ln dq.mag * ln db.mag), dq.exp + db.exp⟩ w7 Na7.out Nt.out (Nat.le_trans Fa.out.len (by decide)) (Nat.le_trans HLT.out (by decide)) ⟨by have := Fa.out.lo; omega, by have := Fa.out.hi; omega⟩ ⟨by have := Fq.out.lo; have := Fb.out.lo; simp only; omega, by have := Fq.out.hi; have := Fb.out.hi; simp only; omega⟩).mono ?_
    rintro e w8 ⟨rfl, hb8⟩
    have H8 := Lib.hid (H7.out.trans (hb8.mono H7.out.size))
    clear hb8
    rw [TC.out da dq db Fa.out Fq.out Fb.out (HA.out (by first | rfl | trivial)) (HQf.out (by first | rfl | trivial)) (HBf.out (by first | rfl | trivial))]
    have hws := WS.out
    go_wp2_with fail
    refine (I8.out w8 _).mono ?_
    rintro e wz ⟨rfl, rfl⟩
    go_wp2_with fail
    refine (I9.out w8 _).mono ?_
    rintro e wz ⟨rfl, rfl⟩
    go_wp2_with fail
    go_ret
    exact ⟨by rw [HE.out]; rfl, H8.out⟩
  cases mb
  · skip
    go_enter Tryz.func70, Tryz.ntmps70
    go_wp2_with fail
    refine (I1.out w).mono ?_
    rintro e w1 ⟨rfl, hb1⟩
    have H1 := Lib.hid (HR.out.trans (hb1.mono HR.out.size))
    clear hb1
    go_wp2_with fail
    refine (I2.out w1).mono ?_
    rintro e w2 ⟨rfl, hb2⟩
    have H2 := Lib.hid (H1.out.trans (hb2.mono H1.out.size))
    clear hb2
    go_wp2_with fail
    refine (I3.out w2).mono ?_
    rintro e w3 ⟨rfl, hb3⟩
    have H3 := Lib.hid (H2.out.trans (hb3.mono H2.out.size))
    clear hb3
    go_wp2_with fail
    refine (I5.out w3).mono ?_
    rintro e wz ⟨rfl, rfl⟩
    go_wp2_with fail
    refine (I6.out w3).mono ?_
    rintro e wz ⟨rfl, rfl⟩
    go_wp2_with fail
    refine (X1.out w3 (HA.out (by first | rfl | trivial))).mono ?_
    rintro e w4 ⟨va, da, rfl, hnf, hna, hb4⟩
    have Fa := Lib.hid hnf
    have Na4 := Lib.hid hna
    have H4 := Lib.hid (H3.out.trans (hb4.mono H3.out.size))
    clear hnf hna hb4
    go_wp2_with fail
    refine (X2.out w4 (HQf.out (by first | rfl | trivial))).mono ?_
    rintro e w5 ⟨vq, dq, rfl, hnf, hna, hb5⟩
    have Fq := Lib.hid hnf
    have Nq5 := Lib.hid hna
    have Na5 := Lib.hid (Na4.out.below hb5)
    have H5 := Lib.hid (H4.out.trans (hb5.mono H4.out.size))
    clear hnf hna hb5
    go_wp2_with fail
    refine (X3.out w5 (HBf.out (by first | rfl | trivial))).mono ?_
    rintro e w6 ⟨vb, db, rfl, hnf, hna, hb6⟩
    have Fb := Lib.hid hnf
    have Nb6 := Lib.hid hna
    have Na6 := Lib.hid (Na5.out.below hb6)
    have Nq6 := Lib.hid (Nq5.out.below hb6)
    have H6 := Lib.hid (H5.out.trans (hb6.mono H5.out.size))
    clear hnf hna hb6
    go_wp2_with fail
    refine (timesN_any vq vb dq db w6 Nq6.out Nb6.out (Nat.le_trans Fq.out.len (by decide)) (Nat.le_trans Fb.out.len (by decide)) ⟨by have := Fq.out.lo; omega, by have := Fq.out.hi; omega⟩ ⟨by have := Fb.out.lo; omega, by have := Fb.out.hi; omega⟩).mono ?_
    rintro e w7 ⟨vt, rfl, hnt, hb7⟩
    have Nt := Lib.hid hnt
    have Na7 := Lib.hid (Na6.out.below hb7)
    have hlt : (lim (ln dq.mag * ln db.mag)).length ≤ 2 := by
      refine lim_len_le ?_
      rw [W64_pow]
      have a1 := ln_lt Nq6.out.2
      have a2 := ln_lt Nb6.out.2
      rw [W64_pow] at a1 a2
      have a3 : ln dq.mag < 2 ^ 64 := Nat.lt_of_lt_of_le a1 (Nat.pow_le_pow_right (by decide) (by have := Fq.out.len; omega))
      have a4 : ln db.mag < 2 ^ 64 := Nat.lt_of_lt_of_le a2 (Nat.pow_le_pow_right (by decide) (by have := Fb.out.len; omega))
      exact Nat.lt_of_lt_of_le (Nat.mul_lt_mul'' a3 a4) (by decide)
    have HLT := Lib.hid hlt
    have H7 := Lib.hid (H6.out.trans (hb7.mono H6.out.size))
    clear hnt hlt hb7
    go_wp2_with fail
    refine (compareN_any va vt da ⟨!(dq.neg == db.neg), lim (ln dq.mag * ln db.mag), dq.exp + db.exp⟩ w7 Na7.out Nt.out (Nat.le_trans Fa.out.len (by decide)) (Nat.le_trans HLT.out (by decide)) ⟨by have := Fa.out.lo; omega, by have := Fa.out.hi; omega⟩ ⟨by have := Fq.out.lo; have := Fb.out.lo; simp only; omega, by have := Fq.out.hi; have := Fb.out.hi; simp only; omega⟩).mono ?_
    rintro e w8 ⟨rfl, hb8⟩
    have H8 := Lib.hid (H7.out.trans (hb8.mono H7.out.size))
    clear hb8
    rw [TC.out da dq db Fa.out Fq.out Fb.out (HA.out (by first | rfl | trivial)) (HQf.out (by first | rfl | trivial)) (HBf.out (by first | rfl | trivial))]
    have hws := WS.out
    go_wp2_with fail
    refine (I8.out w8 _).mono ?_
    rintro e wz ⟨rfl, rfl⟩
    go_wp2_with fail
    refine (I9.out w8 _).mono ?_
    rintro e wz ⟨rfl, rfl⟩
    go_wp2_with fail
    go_ret
    exact ⟨by rw [HE.out]; rfl, H8.out⟩
  cases mq
  · skip
    go_enter Tryz.func70, Tryz.ntmps70
    go_wp2_with fail
    refine (I1.out w).mono ?_
    rintro e w1 ⟨rfl, hb1⟩
    have H1 := Lib.hid (HR.out.trans (hb1.mono HR.out.size))
    clear hb1
    go_wp2_with fail
    refine (I2.out w1).mono ?_
    rintro e w2 ⟨rfl, hb2⟩
    have H2 := Lib.hid (H1.out.trans (hb2.mono H1.out.size))
    clear hb2
    go_wp2_with fail
    refine (I3.out w2).mono ?_
    rintro e w3 ⟨rfl, hb3⟩
    have H3 := Lib.hid (H2.out.trans (hb3.mono H2.out.size))
    clear hb3
    go_wp2_with fail
    refine (I5.out w3).mono ?_
    rintro e wz ⟨rfl, rfl⟩
    go_wp2_with fail
    refine (I6.out w3).mono ?_
    rintro e wz ⟨rfl, rfl⟩
    go_wp2_with fail
    refine (I7.out w3).mono ?_
    rintro e wz ⟨rfl, rfl⟩
    go_wp2_with fail
    refine (X1.out w3 (HA.out (by first | rfl | trivial))).mono ?_
    rintro e w4 ⟨va, da, rfl, hnf, hna, hb4⟩
    have Fa := Lib.hid hnf
    have Na4 := Lib.hid hna
    have H4 := Lib.hid (H3.out.trans (hb4.mono H3.out.size))
    clear hnf hna hb4
    go_wp2_with fail
    refine (X2.out w4 (HQf.out (by first | rfl | trivial))).mono ?_
    rintro e w5 ⟨vq, dq, rfl, hnf, hna, hb5⟩
    have Fq := Lib.hid hnf
    have Nq5 := Lib.hid hna
    have Na5 := Lib.hid (Na4.out.below hb5)
    have H5 := Lib.hid (H4.out.trans (hb5.mono H4.out.size))
    clear hnf hna hb5
    go_wp2_with fail
    refine (X3.out w5 (HBf.out (by first | rfl | trivial))).mono ?_
    rintro e w6 ⟨vb, db, rfl, hnf, hna, hb6⟩
    have Fb := Lib.hid hnf
    have Nb6 := Lib.hid hna
    have Na6 := Lib.hid (Na5.out.below hb6)
    have Nq6 := Lib.hid (Nq5.out.below hb6)
    have H6 := Lib.hid (H5.out.trans (hb6.mono H5.out.size))
    clear hnf hna hb6
    go_wp2_with fail
    refine (timesN_any vq vb dq db w6 Nq6.out Nb6.out (Nat.le_trans Fq.out.len (by decide)) (Nat.le_trans Fb.out.len (by decide)) ⟨by have := Fq.out.lo; omega, by have := Fq.out.hi; omega⟩ ⟨by have := Fb.out.lo; omega, by have := Fb.out.hi; omega⟩).mono ?_
    rintro e w7 ⟨vt, rfl, hnt, hb7⟩
    have Nt := Lib.hid hnt
    have Na7 := Lib.hid (Na6.out.below hb7)
    have hlt : (lim (ln dq.mag * ln db.mag)).length ≤ 2 := by
      refine lim_len_le ?_
      rw [W64_pow]
      have a1 := ln_lt Nq6.out.2
      have a2 := ln_lt Nb6.out.2
      rw [W64_pow] at a1 a2
      have a3 : ln dq.mag < 2 ^ 64 := Nat.lt_of_lt_of_le a1 (Nat.pow_le_pow_right (by decide) (by have := Fq.out.len; omega))
      have a4 : ln db.mag < 2 ^ 64 := Nat.lt_of_lt_of_le a2 (Nat.pow_le_pow_right (by decide) (by have := Fb.out.len; omega))
      exact Nat.lt_of_lt_of_le (Nat.mul_lt_mul'' a3 a4) (by decide)
    have HLT := Lib.hid hlt
    have H7 := Lib.hid (H6.out.trans (hb7.mono H6.out.size))
    clear hnt hlt hb7
    go_wp2_with fail
    refine (compareN_any va vt da ⟨!(dq.neg == db.neg), lim (ln dq.mag * ln db.mag), dq.exp + db.exp⟩ w7 Na7.out Nt.out (Nat.le_trans Fa.out.len (by decide)) (Nat.le_trans HLT.out (by decide)) ⟨by have := Fa.out.lo; omega, by have := Fa.out.hi; omega⟩ ⟨by have := Fq.out.lo; have := Fb.out.lo; simp only; omega, by have := Fq.out.hi; have := Fb.out.hi; simp only; omega⟩).mono ?_
    rintro e w8 ⟨rfl, hb8⟩
    have H8 := Lib.hid (H7.out.trans (hb8.mono H7.out.size))
    clear hb8
    rw [TC.out da dq db Fa.out Fq.out Fb.out (HA.out (by first | rfl | trivial)) (HQf.out (by first | rfl | trivial)) (HBf.out (by first | rfl | trivial))]
    have hws := WS.out
    go_wp2_with fail
    refine (I8.out w8 _).mono ?_
    rintro e wz ⟨rfl, rfl⟩
    go_wp2_with fail
    refine (I9.out w8 _).mono ?_
    rintro e wz ⟨rfl, rfl⟩
    go_wp2_with fail
    go_ret
    exact ⟨by rw [HE.out]; rfl, H8.out⟩
  obtain ⟨fr, hfma, hfs⟩ := FM.out rfl rfl rfl
  have HFS := Lib.hid hfs
  clear hfs
  go_enter Tryz.func70, Tryz.ntmps70
  go_wp2_with fail
  refine (I1.out w).mono ?_
  rintro e w1 ⟨rfl, hb1⟩
  have H1 := Lib.hid (HR.out.trans (hb1.mono HR.out.size))
  clear hb1
  go_wp2_with fail
  refine (I2.out w1).mono ?_
  rintro e w2 ⟨rfl, hb2⟩
  have H2 := Lib.hid (H1.out.trans (hb2.mono H1.out.size))
  clear hb2
  go_wp2_with fail
  refine (I3.out w2).mono ?_
  rintro e w3 ⟨rfl, hb3⟩
  have H3 := Lib.hid (H2.out.trans (hb3.mono H2.out.size))
  clear hb3
  go_wp2_with fail
  refine (I5.out w3).mono ?_
  rintro e wz ⟨rfl, rfl⟩
  go_wp2_with fail
  refine (I6.out w3).mono ?_
  rintro e wz ⟨rfl, rfl⟩
  go_wp2_with fail
  refine (I7.out w3).mono ?_
  rintro e wz ⟨rfl, rfl⟩
  go_wp2_with fail
  refine (I8.out w3 _).mono ?_
  rintro e wz ⟨rfl, rfl⟩
  rw [HFS.out]
  have hws := WS.out
  go_wp2_with fail
  refine (I8.out w3 _).mono ?_
  rintro e wz ⟨rfl, rfl⟩
  go_wp2_with fail
  refine (I9.out w3 _).mono ?_
  rintro e wz ⟨rfl, rfl⟩
  go_wp2_with fail
  go_ret
  exact ⟨by rw [HE.out]; rfl, H3.out⟩

end Go.Proofs.YtkfhbnfoiicioaaGreatDoor

/- girderref03.Add: the walk (printed by gen_q9.py) -/
namespace Go.Proofs.YtkfhbnfoiicioaaGreatDoor
open Ieee Go.RowKit Go.Sort

set_option maxRecDepth 100000 in
set_option maxHeartbeats 8000000 in
theorem add03_any (a b s : Nat) (m : Int) (w : World) (ha : a < 18446744073709551616) (hb : b < 18446744073709551616) (hs : s < 18446744073709551616) (hr : floatBits .add .f64 a b = some s) (hn : fnan s = false) (hm : m = 1 ∨ m = 2) :
    Calls Tryz.prog 45 #[.float .f64 a, .float .f64 b, .int .i8 m] w fun e w' => e = .returned (.float .f64 (addF a b m s)) ∧ Below w.heap.size w w' := by
  have hrun := fun w => run_float_arith (P := Tryz.prog) (w := w) BinOp.add 22 FloatKind.f64 a b s hr
  have I1 := Lib.hid (fun w => fin03_any a w)
  have I2 := Lib.hid (fun w => fin03_any b w)
  have I3 := Lib.hid (fun w => fin03_any s w)
  have I4 := Lib.hid (fun w => great_any s m w hs hm (by rintro ⟨h1, h2⟩; have := (fgt_iff s 0).1 h1; have := (flt_iff s 0).1 h2; omega))
  have I5 := Lib.hid (fun w => signbit_any a w ha)
  have I6 := Lib.hid (fun w z n => nought_any z n b m w hb hm)
  have I7 := Lib.hid (fun w => abs_any a w ha)
  have I10 := Lib.hid (fun w => abs_any b w hb)
  have I8 := Lib.hid (fun w u => sign03_any u w)
  have I9 := Lib.hid (fun w e => side_any s e m w hs hn hm)
  obtain ⟨r, hrr⟩ : ∃ r, r = addF a b m s := ⟨_, rfl⟩
  rw [← hrr]
  rw [add_eq ha hb hs hr hn] at hrr
  have HRR := Lib.hid hrr
  have S1 : Hid (finB s = true → finB a = true → finB b = true → (floatBits .sub .f64 s a = some (subF s a) ∧ floatBits .sub .f64 b (subF s a) = some (subF b (subF s a)))) := Lib.hid (fun h h1 h2 => ⟨(subF_run h h1).1, subF_run2 h2 (subF_run h h1).2⟩)
  have S2 : Hid (finB s = true → finB a = true → finB b = true → (floatBits .sub .f64 s b = some (subF s b) ∧ floatBits .sub .f64 a (subF s b) = some (subF a (subF s b)))) := Lib.hid (fun h h1 h2 => ⟨(subF_run h h2).1, subF_run2 h1 (subF_run h h2).2⟩)
  have HR := Lib.hid (Below.refl w.heap.size w)
  clear hr hn hm hrr
  cases hfa : finB a
  · have HE := Lib.hid (show r = s by rw [HRR.out]; unfold raddF; rw [if_pos (by rw [hfa]; rfl)])
    rw [hfa] at I1
    clear hfa
    go_enter Tryz.func45, Tryz.ntmps45
    go_wp2_with fail
    refine (I1.out w).mono ?_
    rintro e w1 ⟨rfl, hb1⟩
    have H1 := Lib.hid (HR.out.trans (hb1.mono HR.out.size))
    clear hb1
    go_wp2_with fail
    go_ret
    exact ⟨by rw [HE.out]; rfl, H1.out⟩
  rw [hfa] at I1
  cases hfb : finB b
  · have HE := Lib.hid (show r = s by rw [HRR.out]; unfold raddF; rw [if_pos (by rw [hfa, hfb]; rfl)])
    rw [hfb] at I2
    clear hfa hfb
    go_enter Tryz.func45, Tryz.ntmps45
    go_wp2_with fail
    refine (I1.out w).mono ?_
    rintro e w1 ⟨rfl, hb1⟩
    have H1 := Lib.hid (HR.out.trans (hb1.mono HR.out.size))
    clear hb1
    go_wp2_with fail
    refine (I2.out w1).mono ?_
    rintro e w2 ⟨rfl, hb2⟩
    have H2 := Lib.hid (H1.out.trans (hb2.mono H1.out.size))
    clear hb2
    go_wp2_with fail
    go_ret
    exact ⟨by rw [HE.out]; rfl, H2.out⟩
  rw [hfb] at I2
  have hne : ¬ (finB a && finB b) = false := by rw [hfa, hfb]; decide
  cases hfs : finB s
  · have HE := Lib.hid (show r = greatF s m by rw [HRR.out]; unfold raddF; rw [if_neg hne, if_pos hfs])
    rw [hfs] at I3
    clear hfa hfb hfs hne
    go_enter Tryz.func45, Tryz.ntmps45
    go_wp2_with fail
    refine (I1.out w).mono ?_
    rintro e w1 ⟨rfl, hb1⟩
    have H1 := Lib.hid (HR.out.trans (hb1.mono HR.out.size))
    clear hb1
    go_wp2_with fail
    refine (I2.out w1).mono ?_
    rintro e w2 ⟨rfl, hb2⟩
    have H2 := Lib.hid (H1.out.trans (hb2.mono H1.out.size))
    clear hb2
    go_wp2_with fail
    refine (I3.out w2).mono ?_
    rintro e w3 ⟨rfl, hb3⟩
    have H3 := Lib.hid (H2.out.trans (hb3.mono H2.out.size))
    clear hb3
    go_wp2_with fail
    refine (I4.out w3).mono ?_
    rintro e wz ⟨rfl, rfl⟩
    go_wp2_with fail
    go_ret
    exact ⟨by rw [HE.out]; rfl, H3.out⟩
  rw [hfs] at I3
  cases hz : feq s 0
  rotate_left
  · obtain ⟨z, hz2⟩ : ∃ z, feq a 0 = z := ⟨_, rfl⟩
    have HE := Lib.hid (show r = noughtF z (sgbB a) b m by rw [HRR.out]; unfold raddF; rw [if_neg hne, if_neg (by rw [hfs]; decide), if_pos hz, hz2])
    unfold feq at hz hz2
    clear hfa hfb hfs hne
    go_enter Tryz.func45, Tryz.ntmps45
    go_wp2_with fail
    refine (I1.out w).mono ?_
    rintro e w1 ⟨rfl, hb1⟩
    have H1 := Lib.hid (HR.out.trans (hb1.mono HR.out.size))
    clear hb1
    go_wp2_with fail
    refine (I2.out w1).mono ?_
    rintro e w2 ⟨rfl, hb2⟩
    have H2 := Lib.hid (H1.out.trans (hb2.mono H1.out.size))
    clear hb2
    go_wp2_with fail
    refine (I3.out w2).mono ?_
    rintro e w3 ⟨rfl, hb3⟩
    have H3 := Lib.hid (H2.out.trans (hb3.mono H2.out.size))
    clear hb3
    go_wp2_with fail
    refine (I5.out w3).mono ?_
    rintro e wz ⟨rfl, rfl⟩
    go_wp2_with fail
    refine (I6.out w3 _ _).mono ?_
    rintro e wz ⟨rfl, rfl⟩
    go_wp2_with fail
    go_ret
    exact ⟨by rw [HE.out]; rfl, H3.out⟩
  have HE0 := Lib.hid (show r = sideF s (sgF (lostF a b s)) m by rw [HRR.out]; unfold raddF; rw [if_neg hne, if_neg (by rw [hfs]; decide), if_neg (by rw [hz]; decide)])
  unfold feq at hz
  cases hl : flt (absF a) (absF b)
  · have hlost : lostF a b s = subF b (subF s a) := by unfold lostF; rw [hl, if_neg (by decide)]
    have HE := Lib.hid (show r = sideF s (sgF (subF b (subF s a))) m by rw [HE0.out, hlost])
    obtain ⟨g1, g2⟩ := S1.out hfs hfa hfb
    have q1 := fun w => run_float_arith (P := Tryz.prog) (w := w) BinOp.sub 22 FloatKind.f64 s a _ g1
    have q2 := fun w => run_float_arith (P := Tryz.prog) (w := w) BinOp.sub 22 FloatKind.f64 b (subF s a) _ g2
    clear hlost g1 g2 HE0 S1 S2
    generalize subF s a = x1 at *
    generalize subF b x1 = x2 at *
    unfold flt at hl
    clear hfa hfb hfs hne
    go_enter Tryz.func45, Tryz.ntmps45
    go_wp2_with fail
    refine (I1.out w).mono ?_
    rintro e w1 ⟨rfl, hb1⟩
    have H1 := Lib.hid (HR.out.trans (hb1.mono HR.out.size))
    clear hb1
    go_wp2_with fail
    refine (I2.out w1).mono ?_
    rintro e w2 ⟨rfl, hb2⟩
    have H2 := Lib.hid (H1.out.trans (hb2.mono H1.out.size))
    clear hb2
    go_wp2_with fail
    refine (I3.out w2).mono ?_
    rintro e w3 ⟨rfl, hb3⟩
    have H3 := Lib.hid (H2.out.trans (hb3.mono H2.out.size))
    clear hb3
    go_wp2_with fail
    refine (I7.out w3).mono ?_
    rintro e wz ⟨rfl, rfl⟩
    go_wp2_with fail
    refine (I10.out w3).mono ?_
    rintro e wz ⟨rfl, rfl⟩
    go_wp2_with fail
    refine (I8.out w3 _).mono ?_
    rintro e wz ⟨rfl, rfl⟩
    go_wp2_with fail
    refine (I9.out w3 _).mono ?_
    rintro e wz ⟨rfl, rfl⟩
    go_wp2_with fail
    go_ret
    exact ⟨by rw [HE.out]; rfl, H3.out⟩
  · have hlost : lostF a b s = subF a (subF s b) := by unfold lostF; rw [hl, if_pos rfl]
    have HE := Lib.hid (show r = sideF s (sgF (subF a (subF s b))) m by rw [HE0.out, hlost])
    obtain ⟨g1, g2⟩ := S2.out hfs hfa hfb
    have q1 := fun w => run_float_arith (P := Tryz.prog) (w := w) BinOp.sub 22 FloatKind.f64 s b _ g1
    have q2 := fun w => run_float_arith (P := Tryz.prog) (w := w) BinOp.sub 22 FloatKind.f64 a (subF s b) _ g2
    clear hlost g1 g2 HE0 S1 S2
    generalize subF s b = x1 at *
    generalize subF a x1 = x2 at *
    unfold flt at hl
    clear hfa hfb hfs hne
    go_enter Tryz.func45, Tryz.ntmps45
    go_wp2_with fail
    refine (I1.out w).mono ?_
    rintro e w1 ⟨rfl, hb1⟩
    have H1 := Lib.hid (HR.out.trans (hb1.mono HR.out.size))
    clear hb1
    go_wp2_with fail
    refine (I2.out w1).mono ?_
    rintro e w2 ⟨rfl, hb2⟩
    have H2 := Lib.hid (H1.out.trans (hb2.mono H1.out.size))
    clear hb2
    go_wp2_with fail
    refine (I3.out w2).mono ?_
    rintro e w3 ⟨rfl, hb3⟩
    have H3 := Lib.hid (H2.out.trans (hb3.mono H2.out.size))
    clear hb3
    go_wp2_with fail
    refine (I7.out w3).mono ?_
    rintro e wz ⟨rfl, rfl⟩
    go_wp2_with fail
    refine (I10.out w3).mono ?_
    rintro e wz ⟨rfl, rfl⟩
    go_wp2_with fail
    refine (I8.out w3 _).mono ?_
    rintro e wz ⟨rfl, rfl⟩
    go_wp2_with fail
    refine (I9.out w3 _).mono ?_
    rintro e wz ⟨rfl, rfl⟩
    go_wp2_with fail
    go_ret
    exact ⟨by rw [HE.out]; rfl, H3.out⟩

end Go.Proofs.YtkfhbnfoiicioaaGreatDoor

/- girderref01: fields, Kind, Nan, Place, Order of numbers: the walks -/
namespace Go.Proofs.YtkfhbnfoiicioaaGreatDoor
open Ieee Go.RowKit Go.Sort

set_option maxRecDepth 100000 in
set_option maxHeartbeats 2000000 in
theorem fields_any (u : Nat) (w : World) (hu : u < 18446744073709551616) :
    Calls Tryz.prog 69 #[.float .f64 u] w fun e w' => e = .returned (.tuple #[.bool (sgbB u), .int .i64 ((u / 4503599627370496 % 2048 : Nat) : Int), .int .u64 ((u % 4503599627370496 : Nat) : Int)]) ∧ w = w' := by
  have hfb := fun w => run_f64bits u w
  obtain ⟨b, hb⟩ : ∃ b, b = sgbB u := ⟨_, rfl⟩
  have e1 : ((u : Int) / 9223372036854775808 == 1) = b := by
    rw [hb]
    unfold sgbB
    by_cases h : 9223372036854775808 ≤ u
    · rw [decide_eq_true h, show (u : Int) / 9223372036854775808 = 1 by omega]; rfl
    · rw [decide_eq_false h, show (u : Int) / 9223372036854775808 = 0 by omega]; rfl
  have e2 : ((u / 4503599627370496 % 2048 : Nat) : Int) = (u : Int) / 4503599627370496 % 2048 := by omega
  have e3 : ((u % 4503599627370496 : Nat) : Int) = (u : Int) % 4503599627370496 := by omega
  have e4 : IntKind.i64.wrap ((u : Int) / 4503599627370496 % 2048) = (u : Int) / 4503599627370496 % 2048 := IntWalk.i64_in _ (by omega)
  rw [← hb, e2, e3]
  clear hb e2 e3
  go_enter Tryz.func69, Tryz.ntmps69
  go_wp2_with fail
  go_ret3
  exact ⟨rfl, rfl⟩

set_option maxRecDepth 100000 in
set_option maxHeartbeats 2000000 in
theorem kind_no (u : Nat) (w : World) (hu : u < 18446744073709551616) (hn : fnan u = false) :
    Calls Tryz.prog 85 #[.float .f64 u] w fun e w' => (∃ k : Int, e = .returned (.int .i64 k) ∧ 0 ≤ k ∧ k ≤ 3) ∧ w = w' := by
  have HF := Lib.hid (fun w => fields_any u w hu)
  have hle := num_le hn
  have hEf : ¬ (u / 4503599627370496 % 2048 = 2047 ∧ u % 4503599627370496 ≠ 0) := by omega
  obtain ⟨E, hE⟩ : ∃ E, E = u / 4503599627370496 % 2048 := ⟨_, rfl⟩
  obtain ⟨f, hff⟩ : ∃ f, f = u % 4503599627370496 := ⟨_, rfl⟩
  rw [← hE] at HF hEf
  rw [← hff] at HF hEf
  clear hE hff hn hle
  by_cases h1 : E = 2047
  · obtain rfl : f = 0 := by omega
    subst h1
    go_enter Tryz.func85, Tryz.ntmps85
    go_wp2_with fail
    refine (HF.out _).mono ?_
    rintro e w1 ⟨rfl, rfl⟩
    go_wp2_with fail
    go_ret
    exact ⟨⟨3, rfl, by decide, by decide⟩, rfl⟩
  · have e1 : ((E : Int) == 2047) = false := by simp; omega
    by_cases h0 : 0 < E
    · have e2 : decide (0 < (E : Int)) = true := by simp; omega
      clear h1 hEf
      go_enter Tryz.func85, Tryz.ntmps85
      go_wp2_with fail
      refine (HF.out _).mono ?_
      rintro e w1 ⟨rfl, rfl⟩
      go_wp2_with fail
      go_ret
      exact ⟨⟨2, rfl, by decide, by decide⟩, rfl⟩
    · have e2 : decide (0 < (E : Int)) = false := by simp; omega
      obtain rfl : E = 0 := by omega
      obtain ⟨b, hb⟩ : ∃ b, ((f : Int) != 0) = b := ⟨_, rfl⟩
      clear h1 hEf h0
      cases b
      · go_enter Tryz.func85, Tryz.ntmps85
        go_wp2_with fail
        refine (HF.out _).mono ?_
        rintro e w1 ⟨rfl, rfl⟩
        go_wp2_with fail
        go_ret
        exact ⟨⟨0, rfl, by decide, by decide⟩, rfl⟩
      · go_enter Tryz.func85, Tryz.ntmps85
        go_wp2_with fail
        refine (HF.out _).mono ?_
        rintro e w1 ⟨rfl, rfl⟩
        go_wp2_with fail
        go_ret
        exact ⟨⟨1, rfl, by decide, by decide⟩, rfl⟩
theorem nan_no (u : Nat) (w : World) (hu : u < 18446744073709551616) (hn : fnan u = false) :
    Calls Tryz.prog 67 #[.float .f64 u] w fun e w' => e = .returned (.bool false) ∧ w = w' := by
  have HK := Lib.hid (fun w => kind_no u w hu hn)
  clear hn
  go_enter Tryz.func67, Tryz.ntmps67
  go_wp2_with fail
  refine (HK.out _).mono ?_
  rintro e w1 ⟨⟨k, rfl, h1, h2⟩, rfl⟩
  have hk : (k == 4) = false := by simp; omega
  go_wp2_with fail
  go_ret
  exact ⟨rfl, rfl⟩
/-- a number's place -/
def pl01 (u : Nat) : Int := if sgbB u = true then -((u % 9223372036854775808 : Nat) : Int) else ((u % 9223372036854775808 : Nat) : Int)
set_option maxRecDepth 100000 in
set_option maxHeartbeats 2000000 in
theorem place01_any (u : Nat) (w : World) (hu : u < 18446744073709551616) (hn : fnan u = false) :
    Calls Tryz.prog 68 #[.float .f64 u] w fun e w' => e = .returned (.tuple #[.int .i64 (pl01 u), .bool true]) ∧ w = w' := by
  have HF := Lib.hid (fun w => fields_any u w hu)
  have HN := Lib.hid (fun w => nan_no u w hu hn)
  have hle := num_le hn
  obtain ⟨E, hE⟩ : ∃ E, E = u / 4503599627370496 % 2048 := ⟨_, rfl⟩
  obtain ⟨f, hff⟩ : ∃ f, f = u % 4503599627370496 := ⟨_, rfl⟩
  rw [← hE, ← hff] at HF
  obtain ⟨G, hG⟩ : ∃ G, G = u % 9223372036854775808 := ⟨_, rfl⟩
  have hsum : (E : Int) * 4503599627370496 + f = (G : Int) := by omega
  have hGl : G < 9223372036854775808 := by omega
  have e1 : IntKind.i64.wrap ((E : Int) * 4503599627370496) = (E : Int) * 4503599627370496 := IntWalk.i64_in _ (by omega)
  have e2 : IntKind.i64.wrap (f : Int) = (f : Int) := IntWalk.i64_in _ (by omega)
  have e3 : IntKind.i64.wrap ((E : Int) * 4503599627370496 + (f : Int)) = (G : Int) := by rw [hsum]; exact IntWalk.i64_in _ (by omega)
  have e4 : IntKind.i64.wrap (-(G : Int)) = -(G : Int) := IntWalk.i64_in _ (by omega)
  obtain ⟨r, hr⟩ : ∃ r, r = pl01 u := ⟨_, rfl⟩
  rw [← hr]
  unfold pl01 at hr
  rw [← hG] at hr
  have HRR := Lib.hid hr
  generalize sgbB u = s at HF HRR
  have hEl : E ≤ 2047 := by omega
  have hfl : f < 4503599627370496 := by omega
  clear hr hE hff hG hle hn
  cases s
  · go_enter Tryz.func68, Tryz.ntmps68
    go_wp2_with fail
    refine (HN.out _).mono ?_
    rintro e w1 ⟨rfl, rfl⟩
    go_wp2_with fail
    refine (HF.out _).mono ?_
    rintro e w1 ⟨rfl, rfl⟩
    go_wp2_with fail
    go_ret2
    exact ⟨by rw [HRR.out]; simp [hsum], rfl⟩
  · go_enter Tryz.func68, Tryz.ntmps68
    go_wp2_with fail
    refine (HN.out _).mono ?_
    rintro e w1 ⟨rfl, rfl⟩
    go_wp2_with fail
    refine (HF.out _).mono ?_
    rintro e w1 ⟨rfl, rfl⟩
    go_wp2_with fail
    go_ret2
    exact ⟨by rw [HRR.out]; simp [hsum], rfl⟩
theorem ord01_eq {a b : Nat} (ha : a < 18446744073709551616) (hb : b < 18446744073709551616) (na : fnan a = false) (nb : fnan b = false) :
    ordI a b = if pl01 a ≠ pl01 b then (if pl01 a < pl01 b then -1 else 1) else if sgbB a = true ∧ sgbB b = false then -1 else if sgbB b = true ∧ sgbB a = false then 1 else 0 := by
  have h1 := num_le na
  have h2 := num_le nb
  unfold ordI keyO pl01 sgbB
  rw [na, nb]
  simp only [Bool.false_eq_true, if_false, decide_eq_true_eq, decide_eq_false_iff_not]
  by_cases c1 : 9223372036854775808 ≤ a <;> by_cases c2 : 9223372036854775808 ≤ b <;> simp only [c1, c2, if_true, if_false, not_true, not_false_iff, and_true, and_false, true_and, false_and] <;> (repeat' split) <;> first | rfl | omega
set_option maxRecDepth 100000 in
set_option maxHeartbeats 4000000 in
theorem order01_any (a b : Nat) (w : World) (ha : a < 18446744073709551616) (hb : b < 18446744073709551616) (na : fnan a = false) (nb : fnan b = false) :
    Calls Tryz.prog 41 #[.float .f64 a, .float .f64 b] w fun e w' => e = .returned (.int .i64 (ordI a b)) ∧ w = w' := by
  have A1 := Lib.hid (fun w => nan_no a w ha na)
  have B1 := Lib.hid (fun w => nan_no b w hb nb)
  have A2 := Lib.hid (fun w => place01_any a w ha na)
  have B2 := Lib.hid (fun w => place01_any b w hb nb)
  have A3 := Lib.hid (fun w => fields_any a w ha)
  have B3 := Lib.hid (fun w => fields_any b w hb)
  have HO := Lib.hid (ord01_eq ha hb na nb)
  obtain ⟨r, hr⟩ : ∃ r, r = ordI a b := ⟨_, rfl⟩
  rw [← hr] at HO ⊢
  generalize pl01 a = p at *
  generalize pl01 b = q at *
  generalize sgbB a = s at *
  generalize sgbB b = t at *
  generalize ((a / 4503599627370496 % 2048 : Nat) : Int) = ea at *
  generalize ((b / 4503599627370496 % 2048 : Nat) : Int) = eb at *
  generalize ((a % 4503599627370496 : Nat) : Int) = fa at *
  generalize ((b % 4503599627370496 : Nat) : Int) = fb at *
  clear hr na nb
  by_cases hpq : p = q
  · have d1 : (p != q) = false := by simp [hpq]
    have HR : Hid (r = if s = true ∧ t = false then -1 else if t = true ∧ s = false then 1 else 0) := Lib.hid (by rw [HO.out, if_neg (by simp [hpq])])
    clear hpq HO
    cases s <;> cases t
    all_goals
      go_enter Tryz.func41, Tryz.ntmps41
      go_wp2_with fail
      refine (A1.out _).mono ?_
      rintro e w1 ⟨rfl, rfl⟩
      go_wp2_with fail
      refine (B1.out _).mono ?_
      rintro e w1 ⟨rfl, rfl⟩
      go_wp2_with fail
      refine (A2.out _).mono ?_
      rintro e w1 ⟨rfl, rfl⟩
      go_wp2_with fail
      refine (B2.out _).mono ?_
      rintro e w1 ⟨rfl, rfl⟩
      go_wp2_with fail
      refine (A3.out _).mono ?_
      rintro e w1 ⟨rfl, rfl⟩
      go_wp2_with fail
      refine (B3.out _).mono ?_
      rintro e w1 ⟨rfl, rfl⟩
      go_wp2_with fail
      go_ret
      exact ⟨by rw [HR.out]; rfl, rfl⟩
  · have d1 : (p != q) = true := by simp [hpq]
    have HR : Hid (r = if p < q then -1 else 1) := Lib.hid (by rw [HO.out, if_pos hpq])
    clear hpq HO
    cases d2 : decide (p < q)
    all_goals
      have HD := Lib.hid d2
      go_enter Tryz.func41, Tryz.ntmps41
      go_wp2_with fail
      refine (A1.out _).mono ?_
      rintro e w1 ⟨rfl, rfl⟩
      go_wp2_with fail
      refine (B1.out _).mono ?_
      rintro e w1 ⟨rfl, rfl⟩
      go_wp2_with fail
      refine (A2.out _).mono ?_
      rintro e w1 ⟨rfl, rfl⟩
      go_wp2_with fail
      refine (B2.out _).mono ?_
      rintro e w1 ⟨rfl, rfl⟩
      go_wp2_with fail
      go_ret
      first
      | exact ⟨by rw [HR.out, if_pos (of_decide_eq_true HD.out)]; rfl, rfl⟩
      | exact ⟨by rw [HR.out, if_neg (of_decide_eq_false HD.out)]; rfl, rfl⟩

end Go.Proofs.YtkfhbnfoiicioaaGreatDoor

/- check.number, check.Stress: the walks -/
namespace Go.Proofs.YtkfhbnfoiicioaaGreatDoor
open Go.RowKit Go.Sort

def numB (x : Nat) : Bool := (FloatKind.f64.format.order x 4336966441157787648 == some .gt || FloatKind.f64.format.order x 4336966441157787648 == some .eq) && fle x 4877398396442247168
theorem number_any (x : Nat) (w : World) : Calls Tryz.prog 15 #[.float .f64 x] w fun e w' => e = .returned (.bool (numB x)) ∧ w = w' := by
  unfold numB
  obtain ⟨b1, h1⟩ : ∃ b, (FloatKind.f64.format.order x 4336966441157787648 == some .gt || FloatKind.f64.format.order x 4336966441157787648 == some .eq) = b := ⟨_, rfl⟩
  obtain ⟨b2, h2⟩ : ∃ b, fle x 4877398396442247168 = b := ⟨_, rfl⟩
  rw [h1, h2]
  unfold fle at h2
  cases b1
  · go_enter Tryz.func15, Tryz.ntmps15
    go_wp2_with fail
    go_ret
    exact ⟨rfl, rfl⟩
  · cases b2
    · go_enter Tryz.func15, Tryz.ntmps15
      go_wp2_with fail
      go_ret
      exact ⟨rfl, rfl⟩
    · go_enter Tryz.func15, Tryz.ntmps15
      go_wp2_with fail
      go_ret
      exact ⟨rfl, rfl⟩
set_option maxRecDepth 100000 in
set_option maxHeartbeats 4000000 in
theorem stress_bad (n ma mb : Spn) (ar wd : Nat) (w : World) (h : (n.ok && (ma.ok && (mb.ok && (numB ar && numB wd)))) = false) :
    Calls Tryz.prog 6 #[.agg #[.float .f64 n.lo, .float .f64 n.hi, .float .f64 ma.lo, .float .f64 ma.hi, .float .f64 mb.lo, .float .f64 mb.hi], .float .f64 ar, .float .f64 wd] w fun e w' => e = .returned (.tuple #[.agg #[.float .f64 0, .float .f64 0], .int .i64 2]) ∧ Below w.heap.size w w' := by
  have I1 := Lib.hid (fun w => right_any n w)
  have I2 := Lib.hid (fun w => right_any ma w)
  have I3 := Lib.hid (fun w => right_any mb w)
  have I4 := Lib.hid (fun w => number_any ar w)
  have I5 := Lib.hid (fun w => number_any wd w)
  have ok1 : n.ok = spB n.lo n.hi := rfl
  have ok2 : ma.ok = spB ma.lo ma.hi := rfl
  have ok3 : mb.ok = spB mb.lo mb.hi := rfl
  rw [ok1, ok2, ok3] at h
  obtain ⟨n0, n1⟩ := n
  obtain ⟨a0, a1⟩ := ma
  obtain ⟨b0, b1⟩ := mb
  simp only at I1 I2 I3 h ⊢
  obtain ⟨w0, hw0⟩ : ∃ w0, w0 = (w.alloc (.cells #[.float .f64 n0, .float .f64 n1, .float .f64 a0, .float .f64 a1, .float .f64 b0, .float .f64 b1] 26)).alloc (.cells #[.float .f64 0, .float .f64 0] 24) := ⟨_, rfl⟩
  have hb0 : Below w.heap.size w w0 := by rw [hw0]; exact below2 ..
  have z0 : w0.heap.size = w.heap.size + 2 := by rw [hw0]; simp
  have g1 : w0.heap[w.heap.size]? = some (.cells #[.float .f64 n0, .float .f64 n1, .float .f64 a0, .float .f64 a1, .float .f64 b0, .float .f64 b1] 26 (0, 0)) := by
    rw [hw0]; exact ((below1 (w.alloc _) _).block w.heap.size (by simp)).trans (blk_new w _ _)
  have g2 : w0.heap[w.heap.size + 1]? = some (.cells #[.float .f64 0, .float .f64 0] 24 (0, 0)) := by
    rw [hw0]
    have h := blk_new (w.alloc (.cells #[.float .f64 n0, .float .f64 n1, .float .f64 a0, .float .f64 a1, .float .f64 b0, .float .f64 b1] 26)) #[.float .f64 0, .float .f64 0] 24
    rwa [World.size_alloc] at h
  have G1 := Lib.hid g1
  have G2 := Lib.hid g2
  have HB0 := Lib.hid hb0
  have HW0 := Lib.hid hw0
  have fin : ∀ (w1 : World), Below w0.heap.size w0 w1 → w1.cell? ⟨w.heap.size + 1, 0, none⟩ = some (.float .f64 0) ∧ w1.cell? ⟨w.heap.size + 1, 1, none⟩ = some (.float .f64 0) ∧ w1.frozen? ⟨w.heap.size + 1, 0, none⟩ = false ∧ w1.frozen? ⟨w.heap.size + 1, 1, none⟩ = false ∧ ∀ w8, w8 = (w1.setCell ⟨w.heap.size + 1, 0, none⟩ (.float .f64 0)).setCell ⟨w.heap.size + 1, 1, none⟩ (.float .f64 0) → Below w.heap.size w w8 ∧ BxS w8 (w.heap.size + 1) ⟨0, 0⟩ := by
    intro w1 hb1
    have zz1 := hb1.size
    obtain ⟨hk2, hf2⟩ := blk_cs ((hb1.block (w.heap.size + 1) (by omega)).trans G2.out)
    refine ⟨hk2 0, hk2 1, hf2 0, hf2 1, fun w8 hw8 => ?_⟩
    obtain ⟨hu8, hq⟩ := spn_set (hk2 0) (hk2 1) _ _ _ hw8
    exact ⟨HB0.out.trans ((hb1.mono HB0.out.size).trans (hu8.below (by omega) (by omega))), hq⟩
  have FIN := Lib.hid fin
  have KN : Hid (∀ w1 : World, Below w0.heap.size w0 w1 → w1.cell? ⟨w.heap.size, 0, none⟩ = some (.float .f64 n0) ∧ w1.cell? ⟨w.heap.size, 1, none⟩ = some (.float .f64 n1) ∧ w1.cell? ⟨w.heap.size, 2, none⟩ = some (.float .f64 a0) ∧ w1.cell? ⟨w.heap.size, 3, none⟩ = some (.float .f64 a1) ∧ w1.cell? ⟨w.heap.size, 4, none⟩ = some (.float .f64 b0) ∧ w1.cell? ⟨w.heap.size, 5, none⟩ = some (.float .f64 b1)) := Lib.hid (by
    intro w1 hb1
    obtain ⟨hk, _⟩ := blk_cs ((hb1.block w.heap.size (by omega)).trans G1.out)
    exact ⟨hk 0, hk 1, hk 2, hk 3, hk 4, hk 5⟩)
  clear ok1 ok2 ok3 hw0 hb0 g1 g2 fin
  generalize spB n0 n1 = p1 at *
  generalize spB a0 a1 = p2 at *
  generalize spB b0 b1 = p3 at *
  generalize numB ar = p4 at *
  generalize numB wd = p5 at *
  cases p1
  · clear h
    go_enter Tryz.func6, Tryz.ntmps6
    go_wp2_with fail
    rw [← HW0.out]
    refine (I1.out w0).mono ?_
    rintro e w1 ⟨rfl, hb⟩
    have HBw1 := Lib.hid hb
    clear hb
    obtain ⟨k20, k21, f20, f21, hfin⟩ := FIN.out w1 HBw1.out
    obtain ⟨w8, hw8⟩ : ∃ w8, w8 = (w1.setCell ⟨w.heap.size + 1, 0, none⟩ (.float .f64 0)).setCell ⟨w.heap.size + 1, 1, none⟩ (.float .f64 0) := ⟨_, rfl⟩
    have HQ := Lib.hid (hfin _ hw8)
    have HW8 := Lib.hid hw8
    clear hfin hw8
    go_wp2_with fail
    rw [← HW8.out]
    obtain ⟨hb8, q0, q1⟩ := HQ.out
    (try simp only [Exit.inBlock, Exit.then])
    refine bodyPost_ret (v := .tuple #[.agg #[.float .f64 0, .float .f64 0], .int .i64 2]) (by simp [results, Tryz.results6, go_sem, q0, q1]; done) rfl ?_
    exact ⟨rfl, hb8⟩
  · skip
    cases p2
    · clear h
      go_enter Tryz.func6, Tryz.ntmps6
      go_wp2_with fail
      rw [← HW0.out]
      refine (I1.out w0).mono ?_
      rintro e w1 ⟨rfl, hb⟩
      have HBw1 := Lib.hid hb
      clear hb
      obtain ⟨c0, c1, c2, c3, c4, c5⟩ := KN.out w1 HBw1.out
      go_wp2_with fail
      clear c0 c1 c2 c3 c4 c5
      refine (I2.out w1).mono ?_
      rintro e w2 ⟨rfl, hb⟩
      have HBw2 := Lib.hid (HBw1.out.trans (hb.mono HBw1.out.size))
      clear hb
      obtain ⟨k20, k21, f20, f21, hfin⟩ := FIN.out w2 HBw2.out
      obtain ⟨w8, hw8⟩ : ∃ w8, w8 = (w2.setCell ⟨w.heap.size + 1, 0, none⟩ (.float .f64 0)).setCell ⟨w.heap.size + 1, 1, none⟩ (.float .f64 0) := ⟨_, rfl⟩
      have HQ := Lib.hid (hfin _ hw8)
      have HW8 := Lib.hid hw8
      clear hfin hw8
      go_wp2_with fail
      rw [← HW8.out]
      obtain ⟨hb8, q0, q1⟩ := HQ.out
      (try simp only [Exit.inBlock, Exit.then])
      refine bodyPost_ret (v := .tuple #[.agg #[.float .f64 0, .float .f64 0], .int .i64 2]) (by simp [results, Tryz.results6, go_sem, q0, q1]; done) rfl ?_
      exact ⟨rfl, hb8⟩
    · skip
      cases p3
      · clear h
        go_enter Tryz.func6, Tryz.ntmps6
        go_wp2_with fail
        rw [← HW0.out]
        refine (I1.out w0).mono ?_
        rintro e w1 ⟨rfl, hb⟩
        have HBw1 := Lib.hid hb
        clear hb
        obtain ⟨c0, c1, c2, c3, c4, c5⟩ := KN.out w1 HBw1.out
        go_wp2_with fail
        clear c0 c1 c2 c3 c4 c5
        refine (I2.out w1).mono ?_
        rintro e w2 ⟨rfl, hb⟩
        have HBw2 := Lib.hid (HBw1.out.trans (hb.mono HBw1.out.size))
        clear hb
        obtain ⟨c0, c1, c2, c3, c4, c5⟩ := KN.out w2 HBw2.out
        go_wp2_with fail
        clear c0 c1 c2 c3 c4 c5
        refine (I3.out w2).mono ?_
        rintro e w3 ⟨rfl, hb⟩
        have HBw3 := Lib.hid (HBw2.out.trans (hb.mono HBw2.out.size))
        clear hb
        obtain ⟨k20, k21, f20, f21, hfin⟩ := FIN.out w3 HBw3.out
        obtain ⟨w8, hw8⟩ : ∃ w8, w8 = (w3.setCell ⟨w.heap.size + 1, 0, none⟩ (.float .f64 0)).setCell ⟨w.heap.size + 1, 1, none⟩ (.float .f64 0) := ⟨_, rfl⟩
        have HQ := Lib.hid (hfin _ hw8)
        have HW8 := Lib.hid hw8
        clear hfin hw8
        go_wp2_with fail
        rw [← HW8.out]
        obtain ⟨hb8, q0, q1⟩ := HQ.out
        (try simp only [Exit.inBlock, Exit.then])
        refine bodyPost_ret (v := .tuple #[.agg #[.float .f64 0, .float .f64 0], .int .i64 2]) (by simp [results, Tryz.results6, go_sem, q0, q1]; done) rfl ?_
        exact ⟨rfl, hb8⟩
      · skip
        cases p4
        · clear h
          go_enter Tryz.func6, Tryz.ntmps6
          go_wp2_with fail
          rw [← HW0.out]
          refine (I1.out w0).mono ?_
          rintro e w1 ⟨rfl, hb⟩
          have HBw1 := Lib.hid hb
          clear hb
          obtain ⟨c0, c1, c2, c3, c4, c5⟩ := KN.out w1 HBw1.out
          go_wp2_with fail
          clear c0 c1 c2 c3 c4 c5
          refine (I2.out w1).mono ?_
          rintro e w2 ⟨rfl, hb⟩
          have HBw2 := Lib.hid (HBw1.out.trans (hb.mono HBw1.out.size))
          clear hb
          obtain ⟨c0, c1, c2, c3, c4, c5⟩ := KN.out w2 HBw2.out
          go_wp2_with fail
          clear c0 c1 c2 c3 c4 c5
          refine (I3.out w2).mono ?_
          rintro e w3 ⟨rfl, hb⟩
          have HBw3 := Lib.hid (HBw2.out.trans (hb.mono HBw2.out.size))
          clear hb
          obtain ⟨c0, c1, c2, c3, c4, c5⟩ := KN.out w3 HBw3.out
          go_wp2_with fail
          clear c0 c1 c2 c3 c4 c5
          refine (I4.out w3).mono ?_
          rintro e wz ⟨rfl, rfl⟩
          obtain ⟨k20, k21, f20, f21, hfin⟩ := FIN.out w3 HBw3.out
          obtain ⟨w8, hw8⟩ : ∃ w8, w8 = (w3.setCell ⟨w.heap.size + 1, 0, none⟩ (.float .f64 0)).setCell ⟨w.heap.size + 1, 1, none⟩ (.float .f64 0) := ⟨_, rfl⟩
          have HQ := Lib.hid (hfin _ hw8)
          have HW8 := Lib.hid hw8
          clear hfin hw8
          go_wp2_with fail
          rw [← HW8.out]
          obtain ⟨hb8, q0, q1⟩ := HQ.out
          (try simp only [Exit.inBlock, Exit.then])
          refine bodyPost_ret (v := .tuple #[.agg #[.float .f64 0, .float .f64 0], .int .i64 2]) (by simp [results, Tryz.results6, go_sem, q0, q1]; done) rfl ?_
          exact ⟨rfl, hb8⟩
        · skip
          cases p5
          · clear h
            go_enter Tryz.func6, Tryz.ntmps6
            go_wp2_with fail
            rw [← HW0.out]
            refine (I1.out w0).mono ?_
            rintro e w1 ⟨rfl, hb⟩
            have HBw1 := Lib.hid hb
            clear hb
            obtain ⟨c0, c1, c2, c3, c4, c5⟩ := KN.out w1 HBw1.out
            go_wp2_with fail
            clear c0 c1 c2 c3 c4 c5
            refine (I2.out w1).mono ?_
            rintro e w2 ⟨rfl, hb⟩
            have HBw2 := Lib.hid (HBw1.out.trans (hb.mono HBw1.out.size))
            clear hb
            obtain ⟨c0, c1, c2, c3, c4, c5⟩ := KN.out w2 HBw2.out
            go_wp2_with fail
            clear c0 c1 c2 c3 c4 c5
            refine (I3.out w2).mono ?_
            rintro e w3 ⟨rfl, hb⟩
            have HBw3 := Lib.hid (HBw2.out.trans (hb.mono HBw2.out.size))
            clear hb
            obtain ⟨c0, c1, c2, c3, c4, c5⟩ := KN.out w3 HBw3.out
            go_wp2_with fail
            clear c0 c1 c2 c3 c4 c5
            refine (I4.out w3).mono ?_
            rintro e wz ⟨rfl, rfl⟩
            obtain ⟨c0, c1, c2, c3, c4, c5⟩ := KN.out w3 HBw3.out
            go_wp2_with fail
            clear c0 c1 c2 c3 c4 c5
            refine (I5.out w3).mono ?_
            rintro e wz ⟨rfl, rfl⟩
            obtain ⟨k20, k21, f20, f21, hfin⟩ := FIN.out w3 HBw3.out
            obtain ⟨w8, hw8⟩ : ∃ w8, w8 = (w3.setCell ⟨w.heap.size + 1, 0, none⟩ (.float .f64 0)).setCell ⟨w.heap.size + 1, 1, none⟩ (.float .f64 0) := ⟨_, rfl⟩
            have HQ := Lib.hid (hfin _ hw8)
            have HW8 := Lib.hid hw8
            clear hfin hw8
            go_wp2_with fail
            rw [← HW8.out]
            obtain ⟨hb8, q0, q1⟩ := HQ.out
            (try simp only [Exit.inBlock, Exit.then])
            refine bodyPost_ret (v := .tuple #[.agg #[.float .f64 0, .float .f64 0], .int .i64 2]) (by simp [results, Tryz.results6, go_sem, q0, q1]; done) rfl ?_
            exact ⟨rfl, hb8⟩
          · skip
            exact absurd h (by decide)

end Go.Proofs.YtkfhbnfoiicioaaGreatDoor
