import Derived.Test.YtjokpfgncmdomaaGreatDoorX25
import Derived.Deep.Cut
import Derived.Deep.DeepCutAuto
set_option linter.unusedSimpArgs false
set_option linter.unusedVariables false
/- girderlaw07.RatioMakes: the walk (printed by gen_m7.py) -/
namespace Go.Proofs.YtjokpfgncmdomaaGreatDoor
open Go.RowKit Go.Sort

/-- three cells of a box -/
def K3 (w : World) (g : Nat) (a b c : Value) : Prop := w.cell? ⟨g, 0, none⟩ = some a ∧ w.cell? ⟨g, 1, none⟩ = some b ∧ w.cell? ⟨g, 2, none⟩ = some c
theorem K3.below {w w' : World} {g : Nat} {a b c : Value} (h : K3 w g a b c) (hb : Below w.heap.size w w') : K3 w' g a b c := ⟨bat hb h.1, bat hb h.2.1, bat hb h.2.2⟩
theorem K3.upb {w w' : World} {g g' : Nat} {a b c : Value} (h : K3 w g a b c) (hu : UpB w w' g') (hne : g ≠ g') : K3 w' g a b c := ⟨hu.cellOf h.1 hne, hu.cellOf h.2.1 hne, hu.cellOf h.2.2 hne⟩
theorem K3.of_blk {w : World} {g : Nat} {a b c : Value} {t : TypeId} (h : w.heap[g]? = some (.cells #[a, b, c] t (0, 0))) : K3 w g a b c := by
  obtain ⟨kc, _⟩ := blk_cells h
  exact ⟨kc 0, kc 1, kc 2⟩
theorem K3.regrown {w : World} {g : Nat} {a b c : Value} (h : K3 w g a b c) : (∀ d os, (grow (redrawn w d) os).cell? ⟨g, 0, none⟩ = some a) ∧ (∀ d os, (grow (redrawn w d) os).cell? ⟨g, 1, none⟩ = some b) ∧ (∀ d os, (grow (redrawn w d) os).cell? ⟨g, 2, none⟩ = some c) :=
  ⟨cell_regrown h.1, cell_regrown h.2.1, cell_regrown h.2.2⟩
theorem Fz.upb {w w' : World} {g g' : Nat} (h : Fz w g) (hu : UpB w w' g') (hg : g < w.heap.size) (hne : g ≠ g') : Fz w' g := by
  have e := hu.blk g hg hne
  obtain ⟨h0, h1, h2⟩ := h
  unfold World.frozen? at h0 h1 h2
  refine ⟨?_, ?_, ?_⟩
  · unfold World.frozen?
    simp only at h0 ⊢
    rw [e]; exact h0
  · unfold World.frozen?
    simp only at h1 ⊢
    rw [e]; exact h1
  · unfold World.frozen?
    simp only at h2 ⊢
    rw [e]; exact h2
/-- Norm of both sides tells the same -/
theorem norm_prog (v : Value) (r : RV) (w : World) (hr : RAt w v r) (l1 : r.num.length ≤ 1000) (l2 : r.den.length ≤ 1000) :
    Calls Tryz.prog 26 #[v] w fun e w' => ∃ v', e = .returned (.tuple #[v', .int .i64 (normE r)]) ∧ RAt w' v' (normR r) ∧ Below w.heap.size w w' := by
  refine (norm_ratio v r w hr l1 l2).mono ?_
  intro e w' h
  unfold NormPost at h
  unfold normE normR
  by_cases h0 : ln r.den = 0
  · rw [if_pos h0] at h
    rw [if_pos h0, if_pos h0]
    exact h
  · rw [if_neg h0] at h
    rw [if_neg h0, if_neg h0]
    exact h
theorem normR_len (r : RV) : (normR r).num.length ≤ 1000 ∧ (normR r).den.length ≤ 1000 := by
  unfold normR
  split
  · exact ⟨Nat.zero_le _, Nat.zero_le _⟩
  · exact toldR_len r.q
theorem ofDR_len (d : DV) : (ofDR d).num.length ≤ 1000 ∧ (ofDR d).den.length ≤ 1000 := by
  unfold ofDR
  split
  · exact toldR_len d.q
  · exact ⟨Nat.zero_le _, Nat.zero_le _⟩
theorem ofFR_len (u : Nat) : (ofFR u).num.length ≤ 1000 ∧ (ofFR u).den.length ≤ 1000 := by
  unfold ofFR
  split
  · rename_i h
    have hf := (fits_flt (decide (9223372036854775808 ≤ u)) (of_decide_eq_true h)).1
    generalize fltQ (decide (9223372036854775808 ≤ u)) (u % 9223372036854775808) = q at hf ⊢
    have h9 := rv_len hf
    exact ⟨by omega, by omega⟩
  · exact ⟨Nat.zero_le _, Nat.zero_le _⟩
/-- is, of answers that are the same -/
theorem is_same (va vb : Value) (e : Int) (a : RV) (w : World) (ha : RAt w va a) (hb : RAt w vb a) (hl : a.num.length ≤ 1000 ∧ a.den.length ≤ 1000) :
    Calls Tryz.prog 28 #[va, .int .i64 e, vb, .int .i64 e] w fun r w' => r = .returned (.bool true) ∧ Below w.heap.size w w' := by
  have h := is_law va vb e e a a w ha hb (by omega) (by omega) (by omega) (by omega)
  rw [decide_eq_true (rfl : e = e), decide_eq_true (rfl : a = a)] at h
  exact h

set_option maxRecDepth 100000 in
set_option maxHeartbeats 16000000 in
theorem makes_law (v : Value) (r : RV) (u : Nat) (Ad : Option Addr) (nd cd : Nat) (d : DV) (w : World) (ha : FAt w v r) (hl : LdR r) (l1 : r.num.length ≤ 100000000000000) (l2 : r.den.length ≤ 100000000000000) (hu : u < 18446744073709551616)
    (hd : LAt w (.slice Ad nd cd) d.mag) (hld : Lds d.mag) (l3 : d.mag.length ≤ 100000000000000) (hw : Laid w) :
    Calls Tryz.prog 6 #[v, .float .f64 u, .agg #[.bool d.neg, .slice Ad nd cd, .int .i64 d.exp]] w fun e w' => e = .returned (.bool true) ∧ Below w.heap.size w w' := by
  have HA := Lib.hid ha
  have HL := Lib.hid hl
  have HW := Lib.hid hw
  have HWO := Lib.hid hw
  have HU := Lib.hid hu
  have HD := Lib.hid hd
  have HLD := Lib.hid hld
  obtain ⟨A, n, c, A', n', c', rfl, h1, h2⟩ := ha.shape
  have x1 := (lat_num h1).1
  have x2 := (lat_num h2).1
  have x3 := (lat_num hd).1
  rw [← x1] at l1
  rw [← x2] at l2
  rw [← x3] at l3
  have X1 := Lib.hid x1
  have X2 := Lib.hid x2
  have X3 := Lib.hid x3
  obtain ⟨sg, hsg⟩ : ∃ sg, sg = r.neg := ⟨_, rfl⟩
  rw [← hsg] at HA ⊢
  have HSG := Lib.hid hsg
  obtain ⟨sd, hsd⟩ : ∃ sd, sd = d.neg := ⟨_, rfl⟩
  obtain ⟨ex, hex⟩ : ∃ ex, ex = d.exp := ⟨_, rfl⟩
  have HDL := Lib.hid (fun w (h : LAt w (.slice Ad nd cd) d.mag) (hn : d.mag.length ≤ 1000000) => lentD_any d w Ad nd cd h hn)
  have HDR := Lib.hid (fun w (h : LAt w (.slice Ad nd cd) d.mag) (hn : d.mag.length ≤ 1000) => ofDyad07_any Ad nd cd d w h hld hn)
  have HDK := Lib.hid (fun v1 w (h1 : LentD w v1 d) (h2 : LAt w (.slice Ad nd cd) d.mag) (hn : d.mag.length ≤ 1000000) => keptD_any v1 d Ad nd cd w h1 h2 hn)
  rw [← hsd, ← hex] at HDL HDR HDK ⊢
  have HSD := Lib.hid hsd
  have HEX := Lib.hid hex
  obtain ⟨w0, hw0⟩ : ∃ w0, w0 = (w.alloc (.cells #[.bool sg, .slice A n c, .slice A' n' c'] 24)).alloc (.cells #[.bool sd, .slice Ad nd cd, .int .i64 ex] 46) := ⟨_, rfl⟩
  have hb0 : Below w.heap.size w w0 := by rw [hw0]; exact below2 ..
  have g1 : w0.heap[w.heap.size]? = some (.cells #[.bool sg, .slice A n c, .slice A' n' c'] 24 (0, 0)) := by
    rw [hw0]; exact ((below1 (w.alloc _) _).block w.heap.size (by simp)).trans (blk_new w _ _)
  have g2 : w0.heap[w.heap.size + 1]? = some (.cells #[.bool sd, .slice Ad nd cd, .int .i64 ex] 46 (0, 0)) := by
    rw [hw0]; exact blk2 w _ _ _
  have z0 : w0.heap.size = w.heap.size + 2 := by rw [hw0]; simp
  have KR := Lib.hid (K3.of_blk g1)
  have KD := Lib.hid (K3.of_blk g2)
  have HB := Lib.hid hb0
  have HW0 := Lib.hid hw0
  replace HA := Lib.hid (HA.out.below hb0)
  replace HD := Lib.hid (HD.out.below hb0)
  replace HW := Lib.hid (HW.out.below hb0)
  clear ha hl hw hu hd hld h1 h2 x1 x2 x3 hsg hsd hex hb0 g1 g2
  obtain ⟨gr, hgr⟩ : ∃ gr, gr = (decide (300 < n) || decide (300 < n')) := ⟨_, rfl⟩
  have HG := Lib.hid (fun w => great_any sg A A' n n' c c' w l1 l2)
  rw [← hgr] at HG
  have HGR := Lib.hid hgr
  clear hgr
  have ZS : Hid (w.heap.size + 2 ≤ w0.heap.size) := Lib.hid (by omega)
  have hnd : nd ≤ 100000000000000 := l3
  cases gr
  case true =>
    have k0 := KR.out.1
    have k1 := KR.out.2.1
    have k2 := KR.out.2.2
    rw [hw0] at k0 k1 k2
    clear hw0
    go_enter Tryz.func6, Tryz.ntmps6
    go_wp2_with fail
    rw [← HW0.out]
    refine (HG.out w0).mono ?_
    rintro e w1 ⟨rfl, hb1⟩
    replace HW := Lib.hid (HW.out.below hb1)
    replace HB := Lib.hid (HB.out.trans (hb1.mono HB.out.size))
    clear hb1 k0 k1 k2
    go_wp2_with fail
    refine (awake_law w1 HW.out).mono ?_
    rintro e w2 ⟨rfl, hb2⟩
    replace HB := Lib.hid (HB.out.trans (hb2.mono HB.out.size))
    clear hb2
    go_wp2_with fail
    go_ret
    exact ⟨rfl, HB.out⟩
  case false =>
    have hn : n ≤ 300 ∧ n' ≤ 300 := by
      have h := HGR.out
      have h9 := Bool.or_eq_false_iff.1 h.symm
      have h10 := of_decide_eq_false h9.1
      have h11 := of_decide_eq_false h9.2
      omega
    by_cases hlong : 300 < nd
    · have e300 : decide ((300 : Int) < (nd : Int)) = true := decide_eq_true (by omega)
      have k0 := KR.out.1
      have k1 := KR.out.2.1
      have k2 := KR.out.2.2
      rw [hw0] at k0 k1 k2
      clear hw0 hlong
      go_enter Tryz.func6, Tryz.ntmps6
      go_wp2_with fail
      rw [← HW0.out]
      refine (HG.out w0).mono ?_
      rintro e w1 ⟨rfl, hb1⟩
      replace HW := Lib.hid (HW.out.below hb1)
      replace KD := Lib.hid (KD.out.below hb1)
      replace HB := Lib.hid (HB.out.trans (hb1.mono HB.out.size))
      clear hb1 k0 k1 k2
      obtain ⟨k0, k1, k2⟩ := KD.out
      go_wp2_with fail
      refine (awake_law w1 HW.out).mono ?_
      rintro e w2 ⟨rfl, hb2⟩
      replace HB := Lib.hid (HB.out.trans (hb2.mono HB.out.size))
      clear hb2 k0 k1 k2
      go_wp2_with fail
      go_ret
      exact ⟨rfl, HB.out⟩
    · have e300 : decide ((300 : Int) < (nd : Int)) = false := decide_eq_false (by omega)
      have N1 : Hid (r.num.length ≤ 300 ∧ r.den.length ≤ 300 ∧ d.mag.length ≤ 300) := Lib.hid (by rw [← X1.out, ← X2.out, ← X3.out]; omega)
      have HN1 := Lib.hid (fun v w (h : RAt w v r) => norm_prog v r w h (by have := N1.out; omega) (by have := N1.out; omega))
      have HN2 := Lib.hid (fun v w (h : FAt w v r) => norm07_any v r w h HL.out (by have := N1.out; omega) (by have := N1.out; omega))
      have HNL := Lib.hid (normR_len r)
      obtain ⟨ne, hne⟩ : ∃ ne, ne = normE r := ⟨_, rfl⟩
      obtain ⟨nr, hnr⟩ : ∃ nr, nr = normR r := ⟨_, rfl⟩
      rw [← hne, ← hnr] at HN1 HN2
      rw [← hnr] at HNL
      have HR1 := Lib.hid (fun v w (h : RAt w v r) => right_ratio v r w h (by have := N1.out; omega) (by have := N1.out; omega))
      have HR2 := Lib.hid (fun v w (h : FAt w v r) => refRight_any v r w h HL.out (by have := N1.out; omega) (by have := N1.out; omega))
      obtain ⟨rb, hrb⟩ : ∃ rb, rb = rightB r := ⟨_, rfl⟩
      rw [← hrb] at HR1 HR2
      have erb : (rb != rb) = false := by simp
      have HO1 := Lib.hid (fun w => ofF_prog u w HU.out)
      have HO2 := Lib.hid (fun w => ofF_ref u w HU.out)
      have HOL := Lib.hid (ofFR_len u)
      obtain ⟨fe, hfe⟩ : ∃ fe, fe = ofFE u := ⟨_, rfl⟩
      obtain ⟨fr, hfr⟩ : ∃ fr, fr = ofFR u := ⟨_, rfl⟩
      rw [← hfe, ← hfr] at HO1 HO2
      rw [← hfr] at HOL
      have HD1 := Lib.hid (fun v w (h : DAt w v d) => ofDyad_any v d w h (by have := N1.out; omega))
      have HDLn := Lib.hid (ofDR_len d)
      obtain ⟨de, hde⟩ : ∃ de, de = ofDE d := ⟨_, rfl⟩
      obtain ⟨dr, hdr⟩ : ∃ dr, dr = ofDR d := ⟨_, rfl⟩
      rw [← hde, ← hdr] at HD1 HDR
      rw [← hdr] at HDLn
      have k0 := KR.out.1
      have k1 := KR.out.2.1
      have k2 := KR.out.2.2
      rw [hw0] at k0 k1 k2
      clear hw0 hlong hn hne hnr hrb hfe hfr hde hdr
      obtain ⟨b0, hb0⟩ : ∃ b0, b0 = w.heap.size := ⟨_, rfl⟩
      go_enter Tryz.func6, Tryz.ntmps6
      go_wp2_with fail
      rw [← HW0.out]
      refine (HG.out w0).mono ?_
      clear k0 k1 k2
      rintro e w1 ⟨rfl, hb1⟩
      replace HA := Lib.hid (HA.out.below hb1)
      replace HD := Lib.hid (HD.out.below hb1)
      replace KR := Lib.hid (KR.out.below hb1)
      replace KD := Lib.hid (KD.out.below hb1)
      replace HB := Lib.hid (HB.out.trans (hb1.mono HB.out.size))
      replace ZS := Lib.hid (Nat.le_trans ZS.out hb1.size)
      clear hb1
      obtain ⟨qR0, qR1, qR2⟩ := KR.out
      obtain ⟨qD0, qD1, qD2⟩ := KD.out
      go_upto_region 3 with fail
      go_wp2_with fail
      clear qR0 qR1 qR2
      clear qD0 qD1 qD2
      refine (lentR_any _ r w1 HA.out (by have := N1.out; omega) (by have := N1.out; omega)).mono ?_
      rintro e w2 ⟨v2, rfl, hv2, hb2⟩
      replace HA := Lib.hid (HA.out.below hb2)
      replace HD := Lib.hid (HD.out.below hb2)
      replace KR := Lib.hid (KR.out.below hb2)
      replace KD := Lib.hid (KD.out.below hb2)
      replace HB := Lib.hid (HB.out.trans (hb2.mono HB.out.size))
      replace ZS := Lib.hid (Nat.le_trans ZS.out hb2.size)
      have HI := Lib.hid hv2
      obtain ⟨vi1, vi2, rfl, hi1, hi2⟩ := hv2
      obtain ⟨B1, m1, d1, rfl⟩ := hi1.shape
      obtain ⟨B2, m2, d2, rfl⟩ := hi2.shape
      rw [← HSG.out] at HI ⊢
      have ZS0 := Lib.hid ZS.out
      clear hi1 hi2 hb2
      obtain ⟨w3, hbx⟩ : ∃ w3, w3 = w2.alloc (.cells #[.bool sg, .slice B1 m1 d1, .slice B2 m2 d2] 24) := ⟨_, rfl⟩
      have hbb : Below w2.heap.size w2 w3 := by rw [hbx]; exact below1 ..
      have hblk : w3.heap[w2.heap.size]? = some (.cells #[.bool sg, .slice B1 m1 d1, .slice B2 m2 d2] 24 (0, 0)) := by rw [hbx]; exact blk_new ..
      obtain ⟨gI, hgI⟩ : ∃ g, g = w2.heap.size := ⟨_, rfl⟩
      rw [← hgI] at hblk
      replace HA := Lib.hid (HA.out.below hbb)
      replace HD := Lib.hid (HD.out.below hbb)
      replace HI := Lib.hid (HI.out.below hbb)
      replace KR := Lib.hid (KR.out.below hbb)
      replace KD := Lib.hid (KD.out.below hbb)
      replace HB := Lib.hid (HB.out.trans (hbb.mono HB.out.size))
      replace ZS := Lib.hid (Nat.le_trans ZS.out hbb.size)
      have KI := Lib.hid (K3.of_blk hblk)
      have FI := Lib.hid (Fz.of_blk hblk)
      have ZI : Hid (w.heap.size + 2 ≤ gI ∧ gI < w3.heap.size) := Lib.hid ⟨by have := ZS0.out; omega, by rw [hbx, hgI]; simp⟩
      have HWI := Lib.hid hbx
      have HGI := Lib.hid hgI
      clear hbx hbb hblk hgI
      clear ZS0
      go_upto_region 4 with fail
      rw [← HWI.out, ← HGI.out]
      obtain ⟨qI0, qI1, qI2⟩ := KI.out
      go_wp2_with fail
      clear qI0 qI1 qI2
      refine (HN1.out _ w3 (HI.out.fat.rat HL.out)).mono ?_
      rintro e w4 ⟨v4, rfl, hv4, hb4⟩
      replace HA := Lib.hid (HA.out.below hb4)
      replace HD := Lib.hid (HD.out.below hb4)
      replace HI := Lib.hid (HI.out.below hb4)
      replace KR := Lib.hid (KR.out.below hb4)
      replace KD := Lib.hid (KD.out.below hb4)
      replace KI := Lib.hid (KI.out.below hb4)
      replace FI := Lib.hid (FI.out.below hb4 (by have := ZI.out; omega))
      replace HB := Lib.hid (HB.out.trans (hb4.mono HB.out.size))
      replace ZS := Lib.hid (Nat.le_trans ZS.out hb4.size)
      replace ZI := Lib.hid (And.intro ZI.out.1 (Nat.lt_of_lt_of_le ZI.out.2 hb4.size))
      obtain ⟨sa, C1, p1, f1, C2, p2, f2, rfl⟩ := hv4.shape
      have HVA := Lib.hid hv4
      have ZS0 := Lib.hid ZS.out
      clear hv4 hb4
      obtain ⟨w5, hbx⟩ : ∃ w5, w5 = w4.alloc (.cells #[.bool sa, .slice C1 p1 f1, .slice C2 p2 f2] 24) := ⟨_, rfl⟩
      have hbb : Below w4.heap.size w4 w5 := by rw [hbx]; exact below1 ..
      have hblk : w5.heap[w4.heap.size]? = some (.cells #[.bool sa, .slice C1 p1 f1, .slice C2 p2 f2] 24 (0, 0)) := by rw [hbx]; exact blk_new ..
      obtain ⟨gA, hgA⟩ : ∃ g, g = w4.heap.size := ⟨_, rfl⟩
      have NIA : Hid (gI ≠ gA) := Lib.hid (by have := ZI.out; omega)
      rw [← hgA] at hblk
      replace HA := Lib.hid (HA.out.below hbb)
      replace HD := Lib.hid (HD.out.below hbb)
      replace HI := Lib.hid (HI.out.below hbb)
      replace HVA := Lib.hid (HVA.out.below hbb)
      replace KR := Lib.hid (KR.out.below hbb)
      replace KD := Lib.hid (KD.out.below hbb)
      replace KI := Lib.hid (KI.out.below hbb)
      replace FI := Lib.hid (FI.out.below hbb (by have := ZI.out; omega))
      replace HB := Lib.hid (HB.out.trans (hbb.mono HB.out.size))
      replace ZS := Lib.hid (Nat.le_trans ZS.out hbb.size)
      replace ZI := Lib.hid (And.intro ZI.out.1 (Nat.lt_of_lt_of_le ZI.out.2 hbb.size))
      have KA := Lib.hid (K3.of_blk hblk)
      have FA := Lib.hid (Fz.of_blk hblk)
      have ZA : Hid (w.heap.size + 2 ≤ gA ∧ gA < w5.heap.size) := Lib.hid ⟨by have := ZS0.out; omega, by rw [hbx, hgA]; simp⟩
      have HWA := Lib.hid hbx
      have HGA := Lib.hid hgA
      clear hbx hbb hblk hgA
      clear ZS0
      go_upto_region 5 with fail
      rw [← HWA.out, ← HGA.out]
      obtain ⟨qR0, qR1, qR2⟩ := KR.out
      go_wp2_with fail
      clear qR0 qR1 qR2
      refine (HN2.out _ w5 HA.out).mono ?_
      rintro e w6 ⟨v6, rfl, hv6, hb6⟩
      replace HA := Lib.hid (HA.out.below hb6)
      replace HD := Lib.hid (HD.out.below hb6)
      replace HI := Lib.hid (HI.out.below hb6)
      replace HVA := Lib.hid (HVA.out.below hb6)
      replace KR := Lib.hid (KR.out.below hb6)
      replace KD := Lib.hid (KD.out.below hb6)
      replace KI := Lib.hid (KI.out.below hb6)
      replace KA := Lib.hid (KA.out.below hb6)
      replace FI := Lib.hid (FI.out.below hb6 (by have := ZI.out; omega))
      replace FA := Lib.hid (FA.out.below hb6 (by have := ZA.out; omega))
      replace HB := Lib.hid (HB.out.trans (hb6.mono HB.out.size))
      replace ZS := Lib.hid (Nat.le_trans ZS.out hb6.size)
      replace ZI := Lib.hid (And.intro ZI.out.1 (Nat.lt_of_lt_of_le ZI.out.2 hb6.size))
      replace ZA := Lib.hid (And.intro ZA.out.1 (Nat.lt_of_lt_of_le ZA.out.2 hb6.size))
      obtain ⟨sb, E1, t1, i1, E2, t2, i2, rfl⟩ := hv6.shape
      have HVB := Lib.hid hv6
      have ZS0 := Lib.hid ZS.out
      clear hv6 hb6
      obtain ⟨w7, hbx⟩ : ∃ w7, w7 = w6.alloc (.cells #[.bool sb, .slice E1 t1 i1, .slice E2 t2 i2] 24) := ⟨_, rfl⟩
      have hbb : Below w6.heap.size w6 w7 := by rw [hbx]; exact below1 ..
      have hblk : w7.heap[w6.heap.size]? = some (.cells #[.bool sb, .slice E1 t1 i1, .slice E2 t2 i2] 24 (0, 0)) := by rw [hbx]; exact blk_new ..
      obtain ⟨gB, hgB⟩ : ∃ g, g = w6.heap.size := ⟨_, rfl⟩
      have NIB : Hid (gI ≠ gB) := Lib.hid (by have := ZI.out; omega)
      have NAB : Hid (gA ≠ gB) := Lib.hid (by have := ZA.out; omega)
      rw [← hgB] at hblk
      replace HA := Lib.hid (HA.out.below hbb)
      replace HD := Lib.hid (HD.out.below hbb)
      replace HI := Lib.hid (HI.out.below hbb)
      replace HVA := Lib.hid (HVA.out.below hbb)
      replace HVB := Lib.hid (HVB.out.below hbb)
      replace KR := Lib.hid (KR.out.below hbb)
      replace KD := Lib.hid (KD.out.below hbb)
      replace KI := Lib.hid (KI.out.below hbb)
      replace KA := Lib.hid (KA.out.below hbb)
      replace FI := Lib.hid (FI.out.below hbb (by have := ZI.out; omega))
      replace FA := Lib.hid (FA.out.below hbb (by have := ZA.out; omega))
      replace HB := Lib.hid (HB.out.trans (hbb.mono HB.out.size))
      replace ZS := Lib.hid (Nat.le_trans ZS.out hbb.size)
      replace ZI := Lib.hid (And.intro ZI.out.1 (Nat.lt_of_lt_of_le ZI.out.2 hbb.size))
      replace ZA := Lib.hid (And.intro ZA.out.1 (Nat.lt_of_lt_of_le ZA.out.2 hbb.size))
      have KB := Lib.hid (K3.of_blk hblk)
      have FB := Lib.hid (Fz.of_blk hblk)
      have ZB : Hid (w.heap.size + 2 ≤ gB ∧ gB < w7.heap.size) := Lib.hid ⟨by have := ZS0.out; omega, by rw [hbx, hgB]; simp⟩
      have HWB := Lib.hid hbx
      have HGB := Lib.hid hgB
      clear hbx hbb hblk hgB
      clear ZS0
      go_upto_region 6 with fail
      rw [← HWB.out, ← HGB.out]
      obtain ⟨qR0, qR1, qR2⟩ := KR.out.regrown
      obtain ⟨qI0, qI1, qI2⟩ := KI.out.regrown
      obtain ⟨qA0, qA1, qA2⟩ := KA.out.regrown
      obtain ⟨qB0, qB1, qB2⟩ := KB.out.regrown
      have cI : ∀ dd os, Calls Tryz.prog 28 #[.agg #[.bool sa, .slice C1 p1 f1, .slice C2 p2 f2], .int .i64 ne, .agg #[.bool sb, .slice E1 t1 i1, .slice E2 t2 i2], .int .i64 ne] (grow (redrawn w7 dd) os) fun e w'' => e = .returned (.bool true) ∧ ∃ p : Regrown, w'' = grow (redrawn w7 p.d) p.os := fun dd os => Calls.regrown_of (is_same _ _ ne nr _ (HVA.out.below (below_regrown w7 dd os)) (HVB.out.below (below_regrown w7 dd os)) HNL.out)
      have cR : ∀ dd os, Calls Tryz.prog 29 #[.agg #[.bool sg, .slice B1 m1 d1, .slice B2 m2 d2]] (grow (redrawn w7 dd) os) fun e w'' => e = .returned (.bool rb) ∧ ∃ p : Regrown, w'' = grow (redrawn w7 p.d) p.os := fun dd os => Calls.regrown_of (HR1.out _ _ ((HI.out.below (below_regrown w7 dd os)).fat.rat HL.out))
      have cS : ∀ dd os, Calls Tryz.prog 30 #[.agg #[.bool sg, .slice A n c, .slice A' n' c']] (grow (redrawn w7 dd) os) fun e w'' => e = .returned (.bool rb) ∧ ∃ p : Regrown, w'' = grow (redrawn w7 p.d) p.os := fun dd os => Calls.regrown_of (HR2.out _ _ (HA.out.below (below_regrown w7 dd os)))
      have cK : ∀ dd os, Calls Tryz.prog 31 #[.agg #[.bool sg, .slice B1 m1 d1, .slice B2 m2 d2], .agg #[.bool sg, .slice A n c, .slice A' n' c']] (grow (redrawn w7 dd) os) fun e w'' => e = .returned (.bool true) ∧ ∃ p : Regrown, w'' = grow (redrawn w7 p.d) p.os := fun dd os => Calls.regrown_of (keptR_any _ _ r _ (HI.out.below (below_regrown w7 dd os)) (HA.out.below (below_regrown w7 dd os)) HL.out (by have := N1.out; omega) (by have := N1.out; omega))
      clear HR1 HR2 HN1 HN2 HGR HG
      refine wp_region_quiet_below (by kernel_rfl) (by kernel_rfl) ?_
      repeat (first | go_big_quiet_step (first | exact cI _ _ | exact cR _ _ | exact cS _ _ | exact cK _ _) | quiet_step (first | exact cI _ _ | exact cR _ _ | exact cS _ _ | exact cK _ _))
      refine wpQuiet_nil ?_
      intro wq hwq
      have hbq := below_class hwq
      clear hwq
      clear qR0 qR1 qR2
      clear qI0 qI1 qI2
      clear qA0 qA1 qA2
      clear qB0 qB1 qB2
      clear cI cR cS cK
      have hb8 : Below w7.heap.size w7 wq := hbq
      replace HA := Lib.hid (HA.out.below hb8)
      replace HD := Lib.hid (HD.out.below hb8)
      replace HI := Lib.hid (HI.out.below hb8)
      replace HVA := Lib.hid (HVA.out.below hb8)
      replace HVB := Lib.hid (HVB.out.below hb8)
      replace KR := Lib.hid (KR.out.below hb8)
      replace KD := Lib.hid (KD.out.below hb8)
      replace KI := Lib.hid (KI.out.below hb8)
      replace KA := Lib.hid (KA.out.below hb8)
      replace KB := Lib.hid (KB.out.below hb8)
      replace FI := Lib.hid (FI.out.below hb8 (by have := ZI.out; omega))
      replace FA := Lib.hid (FA.out.below hb8 (by have := ZA.out; omega))
      replace FB := Lib.hid (FB.out.below hb8 (by have := ZB.out; omega))
      replace HB := Lib.hid (HB.out.trans (hb8.mono HB.out.size))
      replace ZS := Lib.hid (Nat.le_trans ZS.out hb8.size)
      replace ZI := Lib.hid (And.intro ZI.out.1 (Nat.lt_of_lt_of_le ZI.out.2 hb8.size))
      replace ZA := Lib.hid (And.intro ZA.out.1 (Nat.lt_of_lt_of_le ZA.out.2 hb8.size))
      replace ZB := Lib.hid (And.intro ZB.out.1 (Nat.lt_of_lt_of_le ZB.out.2 hb8.size))
      clear hbq hb8
      go_wp2_with fail
      refine (HO1.out wq).mono ?_
      rintro e w9 ⟨v9, rfl, hv9, hb9⟩
      replace HA := Lib.hid (HA.out.below hb9)
      replace HD := Lib.hid (HD.out.below hb9)
      replace HI := Lib.hid (HI.out.below hb9)
      replace HVA := Lib.hid (HVA.out.below hb9)
      replace HVB := Lib.hid (HVB.out.below hb9)
      replace KR := Lib.hid (KR.out.below hb9)
      replace KD := Lib.hid (KD.out.below hb9)
      replace KI := Lib.hid (KI.out.below hb9)
      replace KA := Lib.hid (KA.out.below hb9)
      replace KB := Lib.hid (KB.out.below hb9)
      replace FI := Lib.hid (FI.out.below hb9 (by have := ZI.out; omega))
      replace FA := Lib.hid (FA.out.below hb9 (by have := ZA.out; omega))
      replace FB := Lib.hid (FB.out.below hb9 (by have := ZB.out; omega))
      replace HB := Lib.hid (HB.out.trans (hb9.mono HB.out.size))
      replace ZS := Lib.hid (Nat.le_trans ZS.out hb9.size)
      replace ZI := Lib.hid (And.intro ZI.out.1 (Nat.lt_of_lt_of_le ZI.out.2 hb9.size))
      replace ZA := Lib.hid (And.intro ZA.out.1 (Nat.lt_of_lt_of_le ZA.out.2 hb9.size))
      replace ZB := Lib.hid (And.intro ZB.out.1 (Nat.lt_of_lt_of_le ZB.out.2 hb9.size))
      obtain ⟨sa9, G1, p3, f3, G2, p4, f4, rfl⟩ := hv9.shape
      replace HVA := Lib.hid hv9
      clear hv9 hb9
      obtain ⟨kc0, kc1, kc2⟩ := KA.out
      obtain ⟨kf0, kf1, kf2⟩ := FA.out
      obtain ⟨w10, hw8⟩ : ∃ w8, w8 = ((w9.setCell ⟨gA, 0, none⟩ (.bool sa9)).setCell ⟨gA, 1, none⟩ (.slice G1 p3 f3)).setCell ⟨gA, 2, none⟩ (.slice G2 p4 f4) := ⟨_, rfl⟩
      obtain ⟨hu8, y0, y1, y2⟩ := rat_set kc0 kc1 kc2 _ _ _ _ _ _ _ _ hw8
      replace FA : Hid (Fz w10 gA) := Lib.hid (by rw [hw8]; exact ((FA.out.set _ _ _).set _ _ _).set _ _ _)
      replace HA := Lib.hid (HA.out.upb hu8)
      replace HD := Lib.hid (HD.out.upb hu8)
      replace HI := Lib.hid (HI.out.upb hu8)
      replace HVA := Lib.hid (HVA.out.upb hu8)
      replace HVB := Lib.hid (HVB.out.upb hu8)
      replace KR := Lib.hid (KR.out.upb hu8 (by have := ZA.out; omega))
      replace KD := Lib.hid (KD.out.upb hu8 (by have := ZA.out; omega))
      replace KI := Lib.hid (KI.out.upb hu8 NIA.out)
      replace KB := Lib.hid (KB.out.upb hu8 NAB.out.symm)
      replace FI := Lib.hid (FI.out.upb hu8 ZI.out.2 NIA.out)
      replace FB := Lib.hid (FB.out.upb hu8 ZB.out.2 NAB.out.symm)
      replace KA : Hid (K3 w10 gA (.bool sa9) (.slice G1 p3 f3) (.slice G2 p4 f4)) := Lib.hid ⟨y0, y1, y2⟩
      replace HB := Lib.hid (HB.out.trans (hu8.below (by have := ZA.out; omega) (by have := ZB.out; omega)))
      replace ZS := Lib.hid (Nat.le_trans ZS.out hu8.size)
      replace ZI := Lib.hid (And.intro ZI.out.1 (Nat.lt_of_lt_of_le ZI.out.2 hu8.size))
      replace ZA := Lib.hid (And.intro ZA.out.1 (Nat.lt_of_lt_of_le ZA.out.2 hu8.size))
      replace ZB := Lib.hid (And.intro ZB.out.1 (Nat.lt_of_lt_of_le ZB.out.2 hu8.size))
      have HW8 := Lib.hid hw8
      clear hw8 hu8 y0 y1 y2
      go_upto_region 9 with fail
      rw [← HW8.out]
      clear HW8 kc0 kc1 kc2 kf0 kf1 kf2
      go_wp2_with fail
      refine (HO2.out w10).mono ?_
      rintro e w11 ⟨v11, rfl, hv11, hb11⟩
      replace HA := Lib.hid (HA.out.below hb11)
      replace HD := Lib.hid (HD.out.below hb11)
      replace HI := Lib.hid (HI.out.below hb11)
      replace HVA := Lib.hid (HVA.out.below hb11)
      replace HVB := Lib.hid (HVB.out.below hb11)
      replace KR := Lib.hid (KR.out.below hb11)
      replace KD := Lib.hid (KD.out.below hb11)
      replace KI := Lib.hid (KI.out.below hb11)
      replace KA := Lib.hid (KA.out.below hb11)
      replace KB := Lib.hid (KB.out.below hb11)
      replace FI := Lib.hid (FI.out.below hb11 (by have := ZI.out; omega))
      replace FA := Lib.hid (FA.out.below hb11 (by have := ZA.out; omega))
      replace FB := Lib.hid (FB.out.below hb11 (by have := ZB.out; omega))
      replace HB := Lib.hid (HB.out.trans (hb11.mono HB.out.size))
      replace ZS := Lib.hid (Nat.le_trans ZS.out hb11.size)
      replace ZI := Lib.hid (And.intro ZI.out.1 (Nat.lt_of_lt_of_le ZI.out.2 hb11.size))
      replace ZA := Lib.hid (And.intro ZA.out.1 (Nat.lt_of_lt_of_le ZA.out.2 hb11.size))
      replace ZB := Lib.hid (And.intro ZB.out.1 (Nat.lt_of_lt_of_le ZB.out.2 hb11.size))
      obtain ⟨sb9, J1, t3, i3, J2, t4, i4, rfl⟩ := hv11.shape
      replace HVB := Lib.hid hv11
      clear hv11 hb11
      obtain ⟨kc0, kc1, kc2⟩ := KB.out
      obtain ⟨kf0, kf1, kf2⟩ := FB.out
      obtain ⟨w12, hw8⟩ : ∃ w8, w8 = ((w11.setCell ⟨gB, 0, none⟩ (.bool sb9)).setCell ⟨gB, 1, none⟩ (.slice J1 t3 i3)).setCell ⟨gB, 2, none⟩ (.slice J2 t4 i4) := ⟨_, rfl⟩
      obtain ⟨hu8, y0, y1, y2⟩ := rat_set kc0 kc1 kc2 _ _ _ _ _ _ _ _ hw8
      replace FB : Hid (Fz w12 gB) := Lib.hid (by rw [hw8]; exact ((FB.out.set _ _ _).set _ _ _).set _ _ _)
      replace HA := Lib.hid (HA.out.upb hu8)
      replace HD := Lib.hid (HD.out.upb hu8)
      replace HI := Lib.hid (HI.out.upb hu8)
      replace HVA := Lib.hid (HVA.out.upb hu8)
      replace HVB := Lib.hid (HVB.out.upb hu8)
      replace KR := Lib.hid (KR.out.upb hu8 (by have := ZB.out; omega))
      replace KD := Lib.hid (KD.out.upb hu8 (by have := ZB.out; omega))
      replace KI := Lib.hid (KI.out.upb hu8 NIB.out)
      replace KA := Lib.hid (KA.out.upb hu8 NAB.out)
      replace FI := Lib.hid (FI.out.upb hu8 ZI.out.2 NIB.out)
      replace FA := Lib.hid (FA.out.upb hu8 ZA.out.2 NAB.out)
      replace KB : Hid (K3 w12 gB (.bool sb9) (.slice J1 t3 i3) (.slice J2 t4 i4)) := Lib.hid ⟨y0, y1, y2⟩
      replace HB := Lib.hid (HB.out.trans (hu8.below (by have := ZB.out; omega) (by have := ZB.out; omega)))
      replace ZS := Lib.hid (Nat.le_trans ZS.out hu8.size)
      replace ZI := Lib.hid (And.intro ZI.out.1 (Nat.lt_of_lt_of_le ZI.out.2 hu8.size))
      replace ZA := Lib.hid (And.intro ZA.out.1 (Nat.lt_of_lt_of_le ZA.out.2 hu8.size))
      replace ZB := Lib.hid (And.intro ZB.out.1 (Nat.lt_of_lt_of_le ZB.out.2 hu8.size))
      have HW8 := Lib.hid hw8
      clear hw8 hu8 y0 y1 y2
      go_upto_region 10 with fail
      rw [← HW8.out]
      clear HW8 kc0 kc1 kc2 kf0 kf1 kf2
      obtain ⟨qA0, qA1, qA2⟩ := KA.out
      obtain ⟨qB0, qB1, qB2⟩ := KB.out
      go_wp2_with fail
      clear qA0 qA1 qA2
      clear qB0 qB1 qB2
      refine (is_same _ _ fe fr w12 HVA.out HVB.out HOL.out).mono ?_
      rintro e w13 ⟨rfl, hb13⟩
      replace HA := Lib.hid (HA.out.below hb13)
      replace HD := Lib.hid (HD.out.below hb13)
      replace HI := Lib.hid (HI.out.below hb13)
      replace HVA := Lib.hid (HVA.out.below hb13)
      replace HVB := Lib.hid (HVB.out.below hb13)
      replace KR := Lib.hid (KR.out.below hb13)
      replace KD := Lib.hid (KD.out.below hb13)
      replace KI := Lib.hid (KI.out.below hb13)
      replace KA := Lib.hid (KA.out.below hb13)
      replace KB := Lib.hid (KB.out.below hb13)
      replace FI := Lib.hid (FI.out.below hb13 (by have := ZI.out; omega))
      replace FA := Lib.hid (FA.out.below hb13 (by have := ZA.out; omega))
      replace FB := Lib.hid (FB.out.below hb13 (by have := ZB.out; omega))
      replace HB := Lib.hid (HB.out.trans (hb13.mono HB.out.size))
      replace ZS := Lib.hid (Nat.le_trans ZS.out hb13.size)
      replace ZI := Lib.hid (And.intro ZI.out.1 (Nat.lt_of_lt_of_le ZI.out.2 hb13.size))
      replace ZA := Lib.hid (And.intro ZA.out.1 (Nat.lt_of_lt_of_le ZA.out.2 hb13.size))
      replace ZB := Lib.hid (And.intro ZB.out.1 (Nat.lt_of_lt_of_le ZB.out.2 hb13.size))
      clear hb13
      go_upto_region 12 with fail
      obtain ⟨qD0, qD1, qD2⟩ := KD.out
      go_wp2_with fail
      clear qD0 qD1 qD2
      refine (HDL.out w13 HD.out (by have := N1.out; omega)).mono ?_
      rintro e w14 ⟨v14, rfl, hv14, hb14⟩
      replace HA := Lib.hid (HA.out.below hb14)
      replace HD := Lib.hid (HD.out.below hb14)
      replace HI := Lib.hid (HI.out.below hb14)
      replace HVA := Lib.hid (HVA.out.below hb14)
      replace HVB := Lib.hid (HVB.out.below hb14)
      replace KR := Lib.hid (KR.out.below hb14)
      replace KD := Lib.hid (KD.out.below hb14)
      replace KI := Lib.hid (KI.out.below hb14)
      replace KA := Lib.hid (KA.out.below hb14)
      replace KB := Lib.hid (KB.out.below hb14)
      replace FI := Lib.hid (FI.out.below hb14 (by have := ZI.out; omega))
      replace FA := Lib.hid (FA.out.below hb14 (by have := ZA.out; omega))
      replace FB := Lib.hid (FB.out.below hb14 (by have := ZB.out; omega))
      replace HB := Lib.hid (HB.out.trans (hb14.mono HB.out.size))
      replace ZS := Lib.hid (Nat.le_trans ZS.out hb14.size)
      replace ZI := Lib.hid (And.intro ZI.out.1 (Nat.lt_of_lt_of_le ZI.out.2 hb14.size))
      replace ZA := Lib.hid (And.intro ZA.out.1 (Nat.lt_of_lt_of_le ZA.out.2 hb14.size))
      replace ZB := Lib.hid (And.intro ZB.out.1 (Nat.lt_of_lt_of_le ZB.out.2 hb14.size))
      have HK := Lib.hid hv14
      obtain ⟨vk, rfl, hk1⟩ := hv14
      obtain ⟨B3, m3, d3, rfl⟩ := hk1.shape
      rw [← HSD.out, ← HEX.out] at HK ⊢
      have ZS0 := Lib.hid ZS.out
      clear hk1 hb14
      obtain ⟨w15, hbx⟩ : ∃ w15, w15 = w14.alloc (.cells #[.bool sd, .slice B3 m3 d3, .int .i64 ex] 46) := ⟨_, rfl⟩
      have hbb : Below w14.heap.size w14 w15 := by rw [hbx]; exact below1 ..
      have hblk : w15.heap[w14.heap.size]? = some (.cells #[.bool sd, .slice B3 m3 d3, .int .i64 ex] 46 (0, 0)) := by rw [hbx]; exact blk_new ..
      obtain ⟨gK, hgK⟩ : ∃ g, g = w14.heap.size := ⟨_, rfl⟩
      have NIK : Hid (gI ≠ gK) := Lib.hid (by have := ZI.out; omega)
      have NAK : Hid (gA ≠ gK) := Lib.hid (by have := ZA.out; omega)
      have NBK : Hid (gB ≠ gK) := Lib.hid (by have := ZB.out; omega)
      rw [← hgK] at hblk
      replace HA := Lib.hid (HA.out.below hbb)
      replace HD := Lib.hid (HD.out.below hbb)
      replace HI := Lib.hid (HI.out.below hbb)
      replace HVA := Lib.hid (HVA.out.below hbb)
      replace HVB := Lib.hid (HVB.out.below hbb)
      replace HK := Lib.hid (HK.out.below hbb)
      replace KR := Lib.hid (KR.out.below hbb)
      replace KD := Lib.hid (KD.out.below hbb)
      replace KI := Lib.hid (KI.out.below hbb)
      replace KA := Lib.hid (KA.out.below hbb)
      replace KB := Lib.hid (KB.out.below hbb)
      replace FI := Lib.hid (FI.out.below hbb (by have := ZI.out; omega))
      replace FA := Lib.hid (FA.out.below hbb (by have := ZA.out; omega))
      replace FB := Lib.hid (FB.out.below hbb (by have := ZB.out; omega))
      replace HB := Lib.hid (HB.out.trans (hbb.mono HB.out.size))
      replace ZS := Lib.hid (Nat.le_trans ZS.out hbb.size)
      replace ZI := Lib.hid (And.intro ZI.out.1 (Nat.lt_of_lt_of_le ZI.out.2 hbb.size))
      replace ZA := Lib.hid (And.intro ZA.out.1 (Nat.lt_of_lt_of_le ZA.out.2 hbb.size))
      replace ZB := Lib.hid (And.intro ZB.out.1 (Nat.lt_of_lt_of_le ZB.out.2 hbb.size))
      have KK := Lib.hid (K3.of_blk hblk)
      have FK := Lib.hid (Fz.of_blk hblk)
      have ZK : Hid (w.heap.size + 2 ≤ gK ∧ gK < w15.heap.size) := Lib.hid ⟨by have := ZS0.out; omega, by rw [hbx, hgK]; simp⟩
      have HWK := Lib.hid hbx
      have HGK := Lib.hid hgK
      clear hbx hbb hblk hgK
      clear ZS0
      go_upto_region 13 with fail
      rw [← HWK.out, ← HGK.out]
      obtain ⟨qK0, qK1, qK2⟩ := KK.out
      go_wp2_with fail
      clear qK0 qK1 qK2
      refine (HD1.out _ w15 (HK.out.dat HLD.out)).mono ?_
      rintro e w16 ⟨v16, rfl, hv16, hb16⟩
      replace HA := Lib.hid (HA.out.below hb16)
      replace HD := Lib.hid (HD.out.below hb16)
      replace HI := Lib.hid (HI.out.below hb16)
      replace HVA := Lib.hid (HVA.out.below hb16)
      replace HVB := Lib.hid (HVB.out.below hb16)
      replace HK := Lib.hid (HK.out.below hb16)
      replace KR := Lib.hid (KR.out.below hb16)
      replace KD := Lib.hid (KD.out.below hb16)
      replace KI := Lib.hid (KI.out.below hb16)
      replace KA := Lib.hid (KA.out.below hb16)
      replace KB := Lib.hid (KB.out.below hb16)
      replace KK := Lib.hid (KK.out.below hb16)
      replace FI := Lib.hid (FI.out.below hb16 (by have := ZI.out; omega))
      replace FA := Lib.hid (FA.out.below hb16 (by have := ZA.out; omega))
      replace FB := Lib.hid (FB.out.below hb16 (by have := ZB.out; omega))
      replace FK := Lib.hid (FK.out.below hb16 (by have := ZK.out; omega))
      replace HB := Lib.hid (HB.out.trans (hb16.mono HB.out.size))
      replace ZS := Lib.hid (Nat.le_trans ZS.out hb16.size)
      replace ZI := Lib.hid (And.intro ZI.out.1 (Nat.lt_of_lt_of_le ZI.out.2 hb16.size))
      replace ZA := Lib.hid (And.intro ZA.out.1 (Nat.lt_of_lt_of_le ZA.out.2 hb16.size))
      replace ZB := Lib.hid (And.intro ZB.out.1 (Nat.lt_of_lt_of_le ZB.out.2 hb16.size))
      replace ZK := Lib.hid (And.intro ZK.out.1 (Nat.lt_of_lt_of_le ZK.out.2 hb16.size))
      obtain ⟨sa10, G3, p5, f5, G4, p6, f6, rfl⟩ := hv16.shape
      replace HVA := Lib.hid hv16
      clear hv16 hb16
      obtain ⟨kc0, kc1, kc2⟩ := KA.out
      obtain ⟨kf0, kf1, kf2⟩ := FA.out
      obtain ⟨w17, hw8⟩ : ∃ w8, w8 = ((w16.setCell ⟨gA, 0, none⟩ (.bool sa10)).setCell ⟨gA, 1, none⟩ (.slice G3 p5 f5)).setCell ⟨gA, 2, none⟩ (.slice G4 p6 f6) := ⟨_, rfl⟩
      obtain ⟨hu8, y0, y1, y2⟩ := rat_set kc0 kc1 kc2 _ _ _ _ _ _ _ _ hw8
      replace FA : Hid (Fz w17 gA) := Lib.hid (by rw [hw8]; exact ((FA.out.set _ _ _).set _ _ _).set _ _ _)
      replace HA := Lib.hid (HA.out.upb hu8)
      replace HD := Lib.hid (HD.out.upb hu8)
      replace HI := Lib.hid (HI.out.upb hu8)
      replace HVA := Lib.hid (HVA.out.upb hu8)
      replace HVB := Lib.hid (HVB.out.upb hu8)
      replace HK := Lib.hid (HK.out.upb hu8)
      replace KR := Lib.hid (KR.out.upb hu8 (by have := ZA.out; omega))
      replace KD := Lib.hid (KD.out.upb hu8 (by have := ZA.out; omega))
      replace KI := Lib.hid (KI.out.upb hu8 NIA.out)
      replace KB := Lib.hid (KB.out.upb hu8 NAB.out.symm)
      replace KK := Lib.hid (KK.out.upb hu8 NAK.out.symm)
      replace FI := Lib.hid (FI.out.upb hu8 ZI.out.2 NIA.out)
      replace FB := Lib.hid (FB.out.upb hu8 ZB.out.2 NAB.out.symm)
      replace FK := Lib.hid (FK.out.upb hu8 ZK.out.2 NAK.out.symm)
      replace KA : Hid (K3 w17 gA (.bool sa10) (.slice G3 p5 f5) (.slice G4 p6 f6)) := Lib.hid ⟨y0, y1, y2⟩
      replace HB := Lib.hid (HB.out.trans (hu8.below (by have := ZA.out; omega) (by have := ZB.out; omega)))
      replace ZS := Lib.hid (Nat.le_trans ZS.out hu8.size)
      replace ZI := Lib.hid (And.intro ZI.out.1 (Nat.lt_of_lt_of_le ZI.out.2 hu8.size))
      replace ZA := Lib.hid (And.intro ZA.out.1 (Nat.lt_of_lt_of_le ZA.out.2 hu8.size))
      replace ZB := Lib.hid (And.intro ZB.out.1 (Nat.lt_of_lt_of_le ZB.out.2 hu8.size))
      replace ZK := Lib.hid (And.intro ZK.out.1 (Nat.lt_of_lt_of_le ZK.out.2 hu8.size))
      have HW8 := Lib.hid hw8
      clear hw8 hu8 y0 y1 y2
      go_upto_region 14 with fail
      rw [← HW8.out]
      clear HW8 kc0 kc1 kc2 kf0 kf1 kf2
      obtain ⟨qD0, qD1, qD2⟩ := KD.out
      go_wp2_with fail
      clear qD0 qD1 qD2
      refine (HDR.out w17 HD.out (by have := N1.out; omega)).mono ?_
      rintro e w18 ⟨v18, rfl, hv18, hb18⟩
      replace HA := Lib.hid (HA.out.below hb18)
      replace HD := Lib.hid (HD.out.below hb18)
      replace HI := Lib.hid (HI.out.below hb18)
      replace HVA := Lib.hid (HVA.out.below hb18)
      replace HVB := Lib.hid (HVB.out.below hb18)
      replace HK := Lib.hid (HK.out.below hb18)
      replace KR := Lib.hid (KR.out.below hb18)
      replace KD := Lib.hid (KD.out.below hb18)
      replace KI := Lib.hid (KI.out.below hb18)
      replace KA := Lib.hid (KA.out.below hb18)
      replace KB := Lib.hid (KB.out.below hb18)
      replace KK := Lib.hid (KK.out.below hb18)
      replace FI := Lib.hid (FI.out.below hb18 (by have := ZI.out; omega))
      replace FA := Lib.hid (FA.out.below hb18 (by have := ZA.out; omega))
      replace FB := Lib.hid (FB.out.below hb18 (by have := ZB.out; omega))
      replace FK := Lib.hid (FK.out.below hb18 (by have := ZK.out; omega))
      replace HB := Lib.hid (HB.out.trans (hb18.mono HB.out.size))
      replace ZS := Lib.hid (Nat.le_trans ZS.out hb18.size)
      replace ZI := Lib.hid (And.intro ZI.out.1 (Nat.lt_of_lt_of_le ZI.out.2 hb18.size))
      replace ZA := Lib.hid (And.intro ZA.out.1 (Nat.lt_of_lt_of_le ZA.out.2 hb18.size))
      replace ZB := Lib.hid (And.intro ZB.out.1 (Nat.lt_of_lt_of_le ZB.out.2 hb18.size))
      replace ZK := Lib.hid (And.intro ZK.out.1 (Nat.lt_of_lt_of_le ZK.out.2 hb18.size))
      obtain ⟨sb10, J3, t5, i5, J4, t6, i6, rfl⟩ := hv18.shape
      replace HVB := Lib.hid hv18
      clear hv18 hb18
      obtain ⟨kc0, kc1, kc2⟩ := KB.out
      obtain ⟨kf0, kf1, kf2⟩ := FB.out
      obtain ⟨w19, hw8⟩ : ∃ w8, w8 = ((w18.setCell ⟨gB, 0, none⟩ (.bool sb10)).setCell ⟨gB, 1, none⟩ (.slice J3 t5 i5)).setCell ⟨gB, 2, none⟩ (.slice J4 t6 i6) := ⟨_, rfl⟩
      obtain ⟨hu8, y0, y1, y2⟩ := rat_set kc0 kc1 kc2 _ _ _ _ _ _ _ _ hw8
      replace FB : Hid (Fz w19 gB) := Lib.hid (by rw [hw8]; exact ((FB.out.set _ _ _).set _ _ _).set _ _ _)
      replace HA := Lib.hid (HA.out.upb hu8)
      replace HD := Lib.hid (HD.out.upb hu8)
      replace HI := Lib.hid (HI.out.upb hu8)
      replace HVA := Lib.hid (HVA.out.upb hu8)
      replace HVB := Lib.hid (HVB.out.upb hu8)
      replace HK := Lib.hid (HK.out.upb hu8)
      replace KR := Lib.hid (KR.out.upb hu8 (by have := ZB.out; omega))
      replace KD := Lib.hid (KD.out.upb hu8 (by have := ZB.out; omega))
      replace KI := Lib.hid (KI.out.upb hu8 NIB.out)
      replace KA := Lib.hid (KA.out.upb hu8 NAB.out)
      replace KK := Lib.hid (KK.out.upb hu8 NBK.out.symm)
      replace FI := Lib.hid (FI.out.upb hu8 ZI.out.2 NIB.out)
      replace FA := Lib.hid (FA.out.upb hu8 ZA.out.2 NAB.out)
      replace FK := Lib.hid (FK.out.upb hu8 ZK.out.2 NBK.out.symm)
      replace KB : Hid (K3 w19 gB (.bool sb10) (.slice J3 t5 i5) (.slice J4 t6 i6)) := Lib.hid ⟨y0, y1, y2⟩
      replace HB := Lib.hid (HB.out.trans (hu8.below (by have := ZB.out; omega) (by have := ZB.out; omega)))
      replace ZS := Lib.hid (Nat.le_trans ZS.out hu8.size)
      replace ZI := Lib.hid (And.intro ZI.out.1 (Nat.lt_of_lt_of_le ZI.out.2 hu8.size))
      replace ZA := Lib.hid (And.intro ZA.out.1 (Nat.lt_of_lt_of_le ZA.out.2 hu8.size))
      replace ZB := Lib.hid (And.intro ZB.out.1 (Nat.lt_of_lt_of_le ZB.out.2 hu8.size))
      replace ZK := Lib.hid (And.intro ZK.out.1 (Nat.lt_of_lt_of_le ZK.out.2 hu8.size))
      have HW8 := Lib.hid hw8
      clear hw8 hu8 y0 y1 y2
      go_upto_region 15 with fail
      rw [← HW8.out]
      clear HW8 kc0 kc1 kc2 kf0 kf1 kf2
      obtain ⟨qA0, qA1, qA2⟩ := KA.out
      obtain ⟨qB0, qB1, qB2⟩ := KB.out
      go_wp2_with fail
      clear qA0 qA1 qA2
      clear qB0 qB1 qB2
      refine (is_same _ _ de dr w19 HVA.out HVB.out HDLn.out).mono ?_
      rintro e w20 ⟨rfl, hb20⟩
      replace HA := Lib.hid (HA.out.below hb20)
      replace HD := Lib.hid (HD.out.below hb20)
      replace HI := Lib.hid (HI.out.below hb20)
      replace HVA := Lib.hid (HVA.out.below hb20)
      replace HVB := Lib.hid (HVB.out.below hb20)
      replace HK := Lib.hid (HK.out.below hb20)
      replace KR := Lib.hid (KR.out.below hb20)
      replace KD := Lib.hid (KD.out.below hb20)
      replace KI := Lib.hid (KI.out.below hb20)
      replace KA := Lib.hid (KA.out.below hb20)
      replace KB := Lib.hid (KB.out.below hb20)
      replace KK := Lib.hid (KK.out.below hb20)
      replace FI := Lib.hid (FI.out.below hb20 (by have := ZI.out; omega))
      replace FA := Lib.hid (FA.out.below hb20 (by have := ZA.out; omega))
      replace FB := Lib.hid (FB.out.below hb20 (by have := ZB.out; omega))
      replace FK := Lib.hid (FK.out.below hb20 (by have := ZK.out; omega))
      replace HB := Lib.hid (HB.out.trans (hb20.mono HB.out.size))
      replace ZS := Lib.hid (Nat.le_trans ZS.out hb20.size)
      replace ZI := Lib.hid (And.intro ZI.out.1 (Nat.lt_of_lt_of_le ZI.out.2 hb20.size))
      replace ZA := Lib.hid (And.intro ZA.out.1 (Nat.lt_of_lt_of_le ZA.out.2 hb20.size))
      replace ZB := Lib.hid (And.intro ZB.out.1 (Nat.lt_of_lt_of_le ZB.out.2 hb20.size))
      replace ZK := Lib.hid (And.intro ZK.out.1 (Nat.lt_of_lt_of_le ZK.out.2 hb20.size))
      clear hb20
      obtain ⟨qK0, qK1, qK2⟩ := KK.out
      obtain ⟨qD0, qD1, qD2⟩ := KD.out
      go_wp2_with fail
      clear qK0 qK1 qK2
      clear qD0 qD1 qD2
      refine (HDK.out _ w20 HK.out HD.out (by have := N1.out; omega)).mono ?_
      rintro e w21 ⟨rfl, hb21⟩
      replace HA := Lib.hid (HA.out.below hb21)
      replace HD := Lib.hid (HD.out.below hb21)
      replace HI := Lib.hid (HI.out.below hb21)
      replace HVA := Lib.hid (HVA.out.below hb21)
      replace HVB := Lib.hid (HVB.out.below hb21)
      replace HK := Lib.hid (HK.out.below hb21)
      replace KR := Lib.hid (KR.out.below hb21)
      replace KD := Lib.hid (KD.out.below hb21)
      replace KI := Lib.hid (KI.out.below hb21)
      replace KA := Lib.hid (KA.out.below hb21)
      replace KB := Lib.hid (KB.out.below hb21)
      replace KK := Lib.hid (KK.out.below hb21)
      replace FI := Lib.hid (FI.out.below hb21 (by have := ZI.out; omega))
      replace FA := Lib.hid (FA.out.below hb21 (by have := ZA.out; omega))
      replace FB := Lib.hid (FB.out.below hb21 (by have := ZB.out; omega))
      replace FK := Lib.hid (FK.out.below hb21 (by have := ZK.out; omega))
      replace HB := Lib.hid (HB.out.trans (hb21.mono HB.out.size))
      replace ZS := Lib.hid (Nat.le_trans ZS.out hb21.size)
      replace ZI := Lib.hid (And.intro ZI.out.1 (Nat.lt_of_lt_of_le ZI.out.2 hb21.size))
      replace ZA := Lib.hid (And.intro ZA.out.1 (Nat.lt_of_lt_of_le ZA.out.2 hb21.size))
      replace ZB := Lib.hid (And.intro ZB.out.1 (Nat.lt_of_lt_of_le ZB.out.2 hb21.size))
      replace ZK := Lib.hid (And.intro ZK.out.1 (Nat.lt_of_lt_of_le ZK.out.2 hb21.size))
      clear hb21
      go_wp2_with fail
      refine (awake_law w21 (HWO.out.below HB.out)).mono ?_
      rintro e w22 ⟨rfl, hb22⟩
      replace HB := Lib.hid (HB.out.trans (hb22.mono HB.out.size))
      clear hb22
      go_wp2_with fail
      go_ret
      exact ⟨rfl, HB.out⟩

end Go.Proofs.YtjokpfgncmdomaaGreatDoor
