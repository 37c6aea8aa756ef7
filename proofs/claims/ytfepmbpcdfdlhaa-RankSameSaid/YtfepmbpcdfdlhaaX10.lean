import Derived.Test.YtfepmbpcdfdlhaaX09
set_option linter.unusedSimpArgs false
set_option linter.unusedVariables false
/- Rat: SetFrac, SetInt64, den, Num, Denom, Sign: the walks -/
namespace Go.Proofs.Ytfepmbpcdfdlhaa
open Go.RowKit Go.Sort

abbrev newR : Obj := .cells #[.bool false, .slice none 0 0, .bool false, .slice none 0 0] 100

/-- a Rat object, whatever it holds: two Ints -/
def RatObj (w : World) (b : Nat) : Prop := ∃ A B : Int, IntAt w b 0 A ∧ IntAt w b 2 B
theorem RatAt.below {w w' : World} {b : Nat} {q : Rat} (h : RatAt w b q) (hb : Below w.heap.size w w') : RatAt w' b q := ⟨h.1.below hb, h.2.below hb⟩
theorem RatObj.below {w w' : World} {b : Nat} (h : RatObj w b) (hb : Below w.heap.size w w') : RatObj w' b := by obtain ⟨A, B, h1, h2⟩ := h; exact ⟨A, B, h1.below hb, h2.below hb⟩
theorem new_rat (w : World) : RatObj (w.alloc newR) w.heap.size :=
  ⟨0, 0, IntAt.of_cells (new_cell w _ _ 0 _ rfl) (new_cell w _ _ 1 _ rfl) (by simp) rfl (Nat.le_refl _) (RdE.nil ..) (by simp [go_sem]) (by simp [go_sem]),
    IntAt.of_cells (new_cell w _ _ 2 _ rfl) (new_cell w _ _ 3 _ rfl) (by simp) rfl (Nat.le_refl _) (RdE.nil ..) (by simp [go_sem]) (by simp [go_sem])⟩

/-- four cells set, as SetFrac does -/
theorem frac_set {w : World} {b : Nat} {A B : Int} {s1 s2 : Bool} {d1 d2 : Option Addr} {n1 n2 c1 c2 : Nat} (ho : RatObj w b) (hb : (dig B.natAbs).length ≤ c2) (ha : (dig A.natAbs).length ≤ c1)
    (hn1 : n1 = (dig A.natAbs).length) (hn2 : n2 = (dig B.natAbs).length) (hs1 : s1 = decide (A < 0)) (hs2 : s2 = decide (B < 0)) (r1 : RdE Wc 1 w (fun d => d < w.heap.size) d1 n1 (dig A.natAbs)) (r2 : RdE Wc 1 w (fun d => d < w.heap.size) d2 n2 (dig B.natAbs)) :
    ∀ w', w' = (((w.setCell ⟨b, 0, none⟩ (.bool s1)).setCell ⟨b, 1, none⟩ (.slice d1 n1 c1)).setCell ⟨b, 2, none⟩ (.bool s2)).setCell ⟨b, 3, none⟩ (.slice d2 n2 c2) → IntAt w' b 0 A ∧ IntAt w' b 2 B ∧ UpB w w' b := by
  intro w' hw'
  obtain ⟨A0, B0, h1, h2⟩ := ho
  obtain ⟨dA, cA, a1, _, _⟩ := h1.abs
  obtain ⟨dB, cB, b1, _, _⟩ := h2.abs
  have a0 := h1.neg
  have b0 := h2.neg
  have b1' : w.cell? ⟨b, 3, none⟩ = some (.slice dB (dig B0.natAbs).length cB) := b1
  have fa := h1.fz
  have fb := h2.fz
  have fa1 : w.frozen? ⟨b, 1, none⟩ = false := h1.fz1
  have fb1 : w.frozen? ⟨b, 3, none⟩ = false := h2.fz1
  have a1' : w.cell? ⟨b, 1, none⟩ = some (.slice dA (dig A0.natAbs).length cA) := a1
  have hU : UpB w w' b := by
    subst hw'
    refine ⟨rfl, rfl, rfl, by simp, fun k hk hne => ?_, fun o k x hv => ?_⟩
    · rw [Below.heap_setCell _ _ _ _ hne, Below.heap_setCell _ _ _ _ hne, Below.heap_setCell _ _ _ _ hne, Below.heap_setCell _ _ _ _ hne]
    · have e0 : o ≠ 0 := by rintro rfl; rw [a0] at hv; cases hv
      have e1 : o ≠ 1 := by rintro rfl; rw [a1'] at hv; cases hv
      have e2 : o ≠ 2 := by rintro rfl; rw [b0] at hv; cases hv
      have e3 : o ≠ 3 := by rintro rfl; rw [b1'] at hv; cases hv
      simp [go_sem, e0, e1, e2, e3, hv]
  refine ⟨IntAt.of_cells (s := s1) (A := d1) (n := n1) (c := c1) ?_ ?_ hs1 hn1 (by omega) ((hU.words r1).imp fun d hd => Nat.lt_of_lt_of_le hd hU.size) ?_ ?_,
    IntAt.of_cells (s := s2) (A := d2) (n := n2) (c := c2) ?_ ?_ hs2 hn2 (by omega) ((hU.words r2).imp fun d hd => Nat.lt_of_lt_of_le hd hU.size) ?_ ?_, hU⟩
  all_goals subst hw'
  · simp [go_sem, a0]
  · simp [go_sem, a1']
  · simp [go_sem, fa]
  · simp [go_sem, fa1]
  · simp [go_sem, b0]
  · simp [go_sem, b1']
  · simp [go_sem, fb]
  · simp [go_sem, fb1]

set_option maxRecDepth 100000 in
set_option maxHeartbeats 4000000 in
theorem setFrac_rat (b b1 o1 b2 o2 : Nat) (A B : Int) (w : World) (hz : RatObj w b) (hA : IntAt w b1 o1 A) (hB : IntAt w b2 o2 B) (hB0 : B ≠ 0) (hlA : (dig A.natAbs).length ≤ 1000000) (hlB : (dig B.natAbs).length ≤ 1000000) :
    Calls Try.prog 53 #[.pointer (some ⟨b, 0, none⟩), .pointer (some ⟨b1, o1, none⟩), .pointer (some ⟨b2, o2, none⟩)] w fun e w' => e = .returned (.pointer (some ⟨b, 0, none⟩)) ∧ RatAt w' b (Rat.divInt A B) ∧ UpB w w' b := by
  have HZ := Lib.hid hz
  have HA := Lib.hid hA
  have HB := Lib.hid hB
  have hblt : b < w.heap.size := by obtain ⟨_, _, h, _⟩ := hz; exact h.lt
  obtain ⟨dB, nB, cB, sB, HNB, HSB, b0, b1', hcB, HRB⟩ := hB.open
  have hnB : 0 < nB := by rw [HNB.out]; exact List.length_pos_iff.2 (dig_pos (by omega))
  have eB : ((nB : Int) == 0) = false := by simp; omega
  clear hz hA hB HRB HSB hcB HNB
  go_enter Try.func53, Try.ntmps53
  go_wp2_with fail
  refine (set_int _ 0 b1 o1 0 A _ (new_intAt w) (HA.out.below (below1 w _)) (by omega)).mono ?_
  rintro e w1 ⟨rfl, hi1, hu1⟩
  have hb1 := newB hu1
  have z1 := hb1.size
  have HI1 := Lib.hid hi1
  have HB1 := Lib.hid hb1
  have HBB := Lib.hid (HB.out.below hb1)
  clear hi1 hu1 hb1
  go_wp2_with fail
  refine (set_int _ 0 b2 o2 0 B _ (new_intAt w1) (HBB.out.below (below1 w1 _)) (by omega)).mono ?_
  rintro e w2 ⟨rfl, hi2, hu2⟩
  have hb2 := newB hu2
  have z2 := hb2.size
  have HI2 := Lib.hid hi2
  have HI1b := Lib.hid (HI1.out.below hb2)
  have HB2 := Lib.hid (below_then HB1.out hb2)
  clear hi2 hu2 hb2
  obtain ⟨e1, n1, c1, s1, HN1, HS1, p0, p1, hc1, HR1⟩ := HI1b.out.open
  obtain ⟨e2, n2, c2, s2, HN2, HS2, q0, q1, hc2, HR2⟩ := HI2.out.open
  obtain ⟨A0, B0, hz1, hz2⟩ := HZ.out.below HB2.out
  obtain ⟨dA, cA, ra1, _, _⟩ := hz1.abs
  obtain ⟨dB', cB', rb1, _, _⟩ := hz2.abs
  have ra0 := hz1.neg
  have rb0 := hz2.neg
  have fa := hz1.fz
  have fb := hz2.fz
  have fa1 := hz1.fz1
  have fb1 := hz2.fz1
  have hn1 : ¬ b = w.heap.size := by omega
  have hn2 : ¬ b = w1.heap.size := by omega
  have hn3 : ¬ w.heap.size = b := by omega
  have hn4 : ¬ w1.heap.size = b := by omega
  clear hz1 hz2
  go_wp2_with fail
  obtain ⟨ka, kb, hu⟩ := frac_set (HZ.out.below HB2.out) (by rw [← HN2.out]; exact hc2) (by rw [← HN1.out]; exact hc1) HN1.out HN2.out HS1.out HS2.out (HR1.out.keep (fun _ _ => rfl)) (HR2.out.keep (fun _ _ => rfl)) _ rfl
  refine (norm_rat b A B _ ka kb hB0 hlA hlB).mono ?_
  rintro e w6 ⟨rfl, hr6, hu6⟩
  have HR6 := Lib.hid hr6
  have HU6 := Lib.hid ((UpB.of_below b HB2.out).trans (hu.trans hu6))
  clear hr6 hu6 ka kb hu
  go_wp2_with fail
  go_ret
  exact ⟨rfl, HR6.out, HU6.out⟩

set_option maxRecDepth 100000 in
set_option maxHeartbeats 4000000 in
theorem setI_rat (b : Nat) (x : Int) (w : World) (hz : RatObj w b) (hx : -9223372036854775808 ≤ x) (hx2 : x ≤ 9223372036854775807) :
    Calls Try.prog 50 #[.pointer (some ⟨b, 0, none⟩), .int .i64 x] w fun e w' => e = .returned (.pointer (some ⟨b, 0, none⟩)) ∧ RatAt w' b (Rat.divInt x 1) ∧ UpB w w' b := by
  have HZ := Lib.hid hz
  have hblt : b < w.heap.size := by obtain ⟨_, _, h, _⟩ := hz; exact h.lt
  have hxl : (dig x.natAbs).length ≤ 2 := dig_len_small (by omega)
  clear hz
  go_enter Try.func50, Try.ntmps50
  go_wp2_with fail
  refine (newInt_int x _ hx hx2).mono ?_
  rintro e w1 ⟨g1, rfl, hg1, hg1', hi1, hb1⟩
  have HI1 := Lib.hid hi1
  have HB1 := Lib.hid hb1
  clear hi1 hb1
  go_wp2_with fail
  refine (newInt_int 1 _ (by omega) (by omega)).mono ?_
  rintro e w2 ⟨g2, rfl, hg2, hg2', hi2, hb2⟩
  have HI2 := Lib.hid hi2
  have HI1b := Lib.hid (HI1.out.below hb2)
  have HB2 := Lib.hid (below_then HB1.out hb2)
  clear hi2 hb2
  go_wp2_with fail
  refine (setFrac_rat b g1 0 g2 0 x 1 _ (HZ.out.below HB2.out) HI1b.out HI2.out (by decide) (by omega) (by decide)).mono ?_
  rintro e w3 ⟨rfl, hr3, hu3⟩
  have HR3 := Lib.hid hr3
  have HU3 := Lib.hid ((UpB.of_below b HB2.out).trans hu3)
  clear hr3 hu3
  go_wp2_with fail
  go_ret
  exact ⟨rfl, HR3.out, HU3.out⟩

theorem num_rat (b : Nat) (w : World) : Calls Try.prog 65 #[.pointer (some ⟨b, 0, none⟩)] w fun e w' => e = .returned (.pointer (some ⟨b, 0, none⟩)) ∧ w = w' := by
  go_enter Try.func65, Try.ntmps65
  go_wp2_with fail
  go_ret
  exact ⟨rfl, rfl⟩

theorem den_rat (b : Nat) (q : Rat) (w : World) (hq : RatAt w b q) : Calls Try.prog 86 #[.pointer (some ⟨b, 0, none⟩)] w fun e w' => e = .returned (.pointer (some ⟨b, 2, none⟩)) ∧ w = w' := by
  obtain ⟨dB, nB, cB, sB, HNB, HSB, b0, b1, hcB, HRB⟩ := hq.2.open
  have hnB : 0 < nB := by rw [HNB.out]; exact List.length_pos_iff.2 (dig_pos (by have := q.den_nz; omega))
  have eB : ((nB : Int) == 0) = false := by simp; omega
  have b1' : w.cell? ⟨b, 3, none⟩ = some (.slice dB nB cB) := b1
  clear hq HRB HSB HNB b1
  go_enter Try.func86, Try.ntmps86
  go_wp2_with fail
  go_ret
  exact ⟨rfl, rfl⟩

set_option maxRecDepth 100000 in
set_option maxHeartbeats 4000000 in
theorem denom_rat (b : Nat) (q : Rat) (w : World) (hq : RatAt w b q) (hl : (dig q.den).length ≤ 1000000) : Calls Try.prog 66 #[.pointer (some ⟨b, 0, none⟩)] w fun e w' => ∃ g, e = .returned (.pointer (some ⟨g, 0, none⟩)) ∧ w.heap.size ≤ g ∧ g < w'.heap.size ∧ IntAt w' g 0 (q.den : Int) ∧ Below w.heap.size w w' := by
  have HQ := Lib.hid hq
  clear hq
  go_enter Try.func66, Try.ntmps66
  go_wp2_with fail
  refine (den_rat b q _ (HQ.out.below (below1 w _))).mono ?_
  rintro e w' ⟨rfl, rfl⟩
  go_wp2_with fail
  refine (set_int _ 0 b 2 0 (q.den : Int) _ (new_intAt w) (HQ.out.below (below1 w _)).2 (by rw [Int.natAbs_natCast]; omega)).mono ?_
  rintro e w1 ⟨rfl, hi1, hu1⟩
  have hb1 := newB hu1
  have HI1 := Lib.hid hi1
  have HB1 := Lib.hid hb1
  clear hi1 hu1 hb1
  go_wp2_with fail
  go_ret
  exact ⟨_, rfl, Nat.le_refl _, HI1.out.lt, HI1.out, HB1.out⟩

theorem sign_rat (b : Nat) (q : Rat) (w : World) (hq : RatAt w b q) : Calls Try.prog 63 #[.pointer (some ⟨b, 0, none⟩)] w fun e w' => e = .returned (.int .i64 (sgnI q.num)) ∧ w = w' := by
  have HQ := Lib.hid hq
  clear hq
  go_enter Try.func63, Try.ntmps63
  go_wp2_with fail
  refine (sign_int b 0 q.num _ HQ.out.1).mono ?_
  rintro e w' ⟨rfl, rfl⟩
  go_wp2_with fail
  go_ret
  exact ⟨rfl, rfl⟩

end Go.Proofs.Ytfepmbpcdfdlhaa

/-
  A region that draws its order, by an invariant: J is shown behind each operation, whichever came before.
-/
namespace Go.Proofs.Ytfepmbpcdfdlhaa
open Go.RowKit Go.Sort

section
variable {P : Program} {ops : Array Oper} {md : Region.Mode} {Q : Exit → Act → World → Prop}

def unl (listed : Array Bool) (n : Nat) : Nat := (List.range n).countP fun i => !listed.getD i false
theorem unl_set {listed : Array Bool} {n i : Nat} (hi : i < n) (hs : i < listed.size) (hu : listed.getD i false = false) : unl (listed.setIfInBounds i true) n < unl listed n := by
  unfold unl
  have h1 : ∀ j, (!(listed.setIfInBounds i true).getD j false) = true → (!listed.getD j false) = true := by
    intro j h
    by_cases e : i = j
    · subst e; rw [hu]; rfl
    · rw [getDf_set_ne e] at h; exact h
  have hself : (listed.setIfInBounds i true).getD i false = true := by simp [hs]
  clear hs
  induction n with
  | zero => omega
  | succ n ih =>
    rw [List.range_succ, List.countP_append, List.countP_append]
    by_cases e : i = n
    · subst e
      have h2 : (List.range i).countP (fun j => !(listed.setIfInBounds i true).getD j false) ≤ (List.range i).countP (fun j => !listed.getD j false) := List.countP_mono_left fun j _ h => h1 j h
      have e1 : [i].countP (fun j => !(listed.setIfInBounds i true).getD j false) = 0 := by simp only [List.countP_singleton, hself]; rfl
      have e2 : [i].countP (fun j => !listed.getD j false) = 1 := by simp only [List.countP_singleton, hu]; rfl
      omega
    · have h2 := ih (by omega)
      have h3 : [n].countP (fun j => !(listed.setIfInBounds i true).getD j false) = [n].countP (fun j => !listed.getD j false) := by
        simp only [List.countP_singleton, getDf_set_ne e]
      omega
theorem unl_zero {listed : Array Bool} {n : Nat} (h : unl listed n = 0) {i : Nat} (hi : i < n) : listed.getD i false = true := by
  unfold unl at h
  rw [List.countP_eq_zero] at h
  have := h i (List.mem_range.2 hi)
  simpa using this

theorem wpAny_inv (J : Array Bool → Act → World → Prop)
    (hstep : ∀ listed a w, listed.size = ops.size → Closed md ops listed → J listed a w → ∀ i ∈ Region.ready md ops listed, wpOp P ops Q i (fun a' w' => J (listed.setIfInBounds i true) a' w') a w)
    (hend : ∀ listed a w, listed.size = ops.size → Region.ready md ops listed = [] → J listed a w → Q .normal a w) :
    ∀ (f : Nat) (listed : Array Bool) (a : Act) (w : World), listed.size = ops.size → Closed md ops listed → unl listed ops.size ≤ f → J listed a w → wpAny P md ops Q f listed a w := by
  intro f
  induction f with
  | zero =>
    intro listed a w hs hcl hf hJ
    have hr : Region.ready md ops listed = [] := by
      cases hl : Region.ready md ops listed with
      | nil => rfl
      | cons i is =>
        have hi : i ∈ Region.ready md ops listed := by rw [hl]; exact List.mem_cons_self
        obtain ⟨hu, o, ho, _⟩ := mem_ready.1 hi
        have hlt := (Array.getElem?_eq_some_iff.1 ho).1
        have h1 := unl_zero (Nat.eq_zero_of_le_zero hf) hlt
        rw [getD_both hu] at h1
        cases h1
    exact ⟨hr, hend listed a w hs hr hJ⟩
  | succ f ih =>
    intro listed a w hs hcl hf hJ
    refine ⟨fun hr => hend listed a w hs hr hJ, fun i hi => ?_⟩
    obtain ⟨hu, o, ho, _⟩ := mem_ready.1 hi
    have hlt := (Array.getElem?_eq_some_iff.1 ho).1
    refine wpOp_mono (fun a' w' h' => ih _ a' w' (by simpa using hs) (hcl.set hi) ?_ h') (hstep listed a w hs hcl hJ i hi)
    have h5 := unl_set (listed := listed) hlt (hs.symm ▸ hlt) (by rw [getD_both hu])
    omega

theorem wp_region_inv {id : Nat} {a : Act} {w : World} (J : Array Bool → Act → World → Prop) (hm : P.follows .mixedOrders = true)
    (h0 : J (Array.replicate ops.size false) a w.drew)
    (hstep : ∀ listed a w, listed.size = ops.size → Closed .any ops listed → J listed a w → ∀ i ∈ Region.ready .any ops listed, wpOp P ops Q i (fun a' w' => J (listed.setIfInBounds i true) a' w') a w)
    (hend : ∀ listed a w, listed.size = ops.size → Region.ready .any ops listed = [] → J listed a w → Q .normal a w) : (Code.region id ops true).wp P Q a w :=
  wp_region_any hm (wpAny_inv J hstep hend _ _ _ _ (by simp) (fun j oj _ hl => by rw [getD_replicate_false] at hl; cases hl) (by
    unfold unl
    exact Nat.le_trans List.countP_le_length (by simp)) h0)

theorem closed_not {listed : Array Bool} (hc : Closed md ops listed) {c i : Nat} (f : Nat) (hr : reachG md ops f c i = true) (hi : listed.getD i false = false) : listed.getD c false = false := by
  cases hl : listed.getD c false with
  | false => rfl
  | true =>
    obtain ⟨k, hk, hkl⟩ := reachG_spec hc hi f c hr
    obtain ⟨oc, hoc, e, he, hb, hon⟩ := Region.waitsFor_spec hk
    have h3 := hc c oc hoc hl e he hb
    rw [hon, hkl] at h3
    cases h3
theorem getDf_set_self {listed : Array Bool} {i : Nat} (h : i < listed.size) : (listed.setIfInBounds i true).getD i false = true := by simp [h]
/-- has operation i come up? -/
def lst (listed : Array Bool) (i : Nat) : Bool := listed.getD i false
theorem lst_ne {listed : Array Bool} {i j : Nat} (h : i ≠ j) : lst (listed.setIfInBounds i true) j = lst listed j := getDf_set_ne h
theorem lst_self {listed : Array Bool} {i : Nat} (h : i < listed.size) : lst (listed.setIfInBounds i true) i = true := getDf_set_self h
/-- a slot that an operation fills -/
def iv (c : Bool) (v u : Value) : Value := if c then v else u
theorem iv_true (v u : Value) : iv true v u = v := rfl
theorem iv_false (v u : Value) : iv false v u = u := rfl

theorem inv_deps {J : Array Bool → Act → World → Prop} {listed : Array Bool} {a : Act} {w : World} {i : Nat} (hi : i ∈ Region.ready md ops listed)
    (h : listed.getD i false = false → (∀ k, Region.waitsFor md ops i k = true → listed.getD k false = true) → wpOp P ops Q i (fun a' w' => J (listed.setIfInBounds i true) a' w') a w) :
    wpOp P ops Q i (fun a' w' => J (listed.setIfInBounds i true) a' w') a w := by
  obtain ⟨hu, o, ho, hall⟩ := mem_ready.1 hi
  refine h (by rw [getD_both hu]) fun k hk => ?_
  obtain ⟨o', ho', e, he, hb, hon⟩ := Region.waitsFor_spec hk
  obtain rfl : o' = o := Option.some.inj (ho'.symm.trans ho)
  rw [← hon]
  exact hall e he hb
def monoB (md : Region.Mode) (ops : Array Oper) : Bool := (List.range ops.size).all fun i => match ops[i]? with
  | some o => o.after.all fun e => !Region.binds md e || decide (e.on < i)
  | none => true
theorem all_listed {listed : Array Bool} (hs : listed.size = ops.size) (hr : Region.ready md ops listed = []) (f : monoB md ops = true) : ∀ i, i < ops.size → listed.getD i false = true := by
  intro i
  induction i using Nat.strongRecOn with
  | _ i ih =>
    intro hi
    cases hl : listed.getD i false with
    | true => rfl
    | false =>
      exfalso
      have hmem : i ∈ Region.ready md ops listed := by
        refine mem_ready.2 ⟨?_, _, Array.getElem?_eq_getElem hi, fun e he hb => ?_⟩
        · have : i < listed.size := by omega
          simp [this] at hl ⊢
          exact hl
        · have h1 := List.all_eq_true.1 f i (List.mem_range.2 hi)
          rw [Array.getElem?_eq_getElem hi] at h1
          simp only [Array.all_eq_true'] at h1
          have h2 := h1 e he
          rw [hb] at h2
          have h3 : e.on < i := by simpa using h2
          exact ih e.on h3 (by omega)
      rw [hr] at hmem
      cases hmem
theorem inv_op {J : Array Bool → Act → World → Prop} {listed : Array Bool} {a : Act} {w : World} {i : Nat} {o : Oper} (ho : ops[i]? = some o)
    (h : ∀ K' : Act → World → Prop, Shut (∀ a w, J (listed.setIfInBounds i true) a w → K' a w) → if Region.wanted o (yielded ops a.tmps) = true then Oper.wp P o a w K' Q else K' (a.put o.dst undef) w) :
    wpOp P ops Q i (fun a' w' => J (listed.setIfInBounds i true) a' w') a w :=
  wpOp_step ho (fun K' hK => h K' (fun a w hS => hK a w hS))
end

end Go.Proofs.Ytfepmbpcdfdlhaa

/- Rat: Mul, Quo, Add, Sub: the walks (printed by wip/Int/gen_r3.py) -/
namespace Go.Proofs.Ytfepmbpcdfdlhaa
open Go.RowKit Go.Sort
theorem mul_len (a b : Nat) : (dig (a * b)).length ≤ (dig a).length + (dig b).length := by
  apply dig_len_le
  rw [Nat.pow_add]
  exact Nat.mul_lt_mul_of_lt_of_lt (lt_dig_len a) (lt_dig_len b)

end Go.Proofs.Ytfepmbpcdfdlhaa

/- Rat: Add, Sub: the walks (printed by wip/Int/gen_r4.py) -/
namespace Go.Proofs.Ytfepmbpcdfdlhaa
open Go.RowKit Go.Sort
end Go.Proofs.Ytfepmbpcdfdlhaa

/- ratio.fraction, told: the walks -/
namespace Go.Proofs.Ytfepmbpcdfdlhaa
open Go.RowKit Go.Sort

/-- a ratio as it lies in a struct: sign, limbs of the numerator, limbs of the denominator -/
structure RV where
  neg : Bool
  num : List Nat
  den : List Nat
  deriving DecidableEq
/-- its numerator -/
def RV.top (r : RV) : Int := if r.neg then -(ln r.num : Int) else (ln r.num : Int)
/-- its value -/
def RV.q (r : RV) : Rat := Rat.divInt r.top (ln r.den)
/-- the value v, in the world w, is the ratio r -/
def RAt (w : World) (v : Value) (r : RV) : Prop := ∃ A n c A' n' c', v = .agg #[.bool r.neg, .slice A n c, .slice A' n' c'] ∧ RdE Lc 1 w (fun b => b < w.heap.size) A n r.num ∧ RdE Lc 1 w (fun b => b < w.heap.size) A' n' r.den ∧ Lds r.num ∧ Lds r.den
theorem RdE.belowL {w w' : World} {A : Option Addr} {n : Nat} {xs : List Nat} (h : RdE Lc 1 w (fun b => b < w.heap.size) A n xs) (hb : Below w.heap.size w w') : RdE Lc 1 w' (fun b => b < w'.heap.size) A n xs :=
  (h.keep (Keeps.below hb (fun _ h => h))).imp (fun _ h => Nat.lt_of_lt_of_le h hb.size)
theorem RAt.below {w w' : World} {v : Value} {r : RV} (h : RAt w v r) (hb : Below w.heap.size w w') : RAt w' v r := by
  obtain ⟨A, n, c, A', n', c', e, h1, h2, h3, h4⟩ := h
  exact ⟨A, n, c, A', n', c', e, h1.belowL hb, h2.belowL hb, h3, h4⟩
/-- the right ratio of a number -/
def rv (q : Rat) : RV := ⟨decide (q.num < 0), lim q.num.natAbs, lim q.den⟩
theorem rv_q (q : Rat) : (rv q).q = q := by
  have e : (rv q).top = q.num := by
    unfold RV.top rv
    simp only [ln_dig]
    by_cases h : q.num < 0 <;> simp only [h, decide_true, decide_false, if_true, Bool.false_eq_true, if_false] <;> omega
  unfold RV.q
  rw [e]
  show Rat.divInt q.num (ln (lim q.den)) = q
  rw [ln_dig]
  exact Rat.num_divInt_den q
theorem dig_ln_len {ls : List Nat} (h : Lds ls) : (dig (ln ls)).length ≤ 2 * ls.length := dig_len_le (by
  have := ln_lt h
  rw [Nat.pow_mul]
  exact this)
theorem top_abs (r : RV) : r.top.natAbs = ln r.num := by
  unfold RV.top
  split <;> omega

set_option maxRecDepth 100000 in
set_option maxHeartbeats 4000000 in
theorem fraction_ratio (v : Value) (r : RV) (w : World) (hr : RAt w v r) (hd : ln r.den ≠ 0) (hn : r.num.length ≤ 20000) (hm : r.den.length ≤ 20000) :
    Calls Try.prog 70 #[v] w fun e w' => ∃ g, e = .returned (.pointer (some ⟨g, 0, none⟩)) ∧ w.heap.size ≤ g ∧ RatAt w' g r.q ∧ Below w.heap.size w w' := by
  obtain ⟨A, n, c, A', n', c', rfl, h1, h2, h3, h4⟩ := hr
  obtain ⟨s, ns, ds⟩ := r
  have en := h1.num
  have em := h2.num
  simp only at h1 h2 h3 h4 hd hn hm en em
  have H1 := Lib.hid h1
  have H2 := Lib.hid h2
  have H3 := Lib.hid h3
  have H4 := Lib.hid h4
  have HD := Lib.hid hd
  have EN := Lib.hid en
  have EM := Lib.hid em
  clear h1 h2 h3 h4 hd en em
  go_enter Try.func70, Try.ntmps70
  go_wp2_with fail
  refine (whole_ratio A n c ns _ (H1.out.belowL (below1 ..)) H3.out (by have := EN.out; omega)).mono ?_
  rintro e w1 ⟨g1, rfl, hg1, hg1', hi1, hb1⟩
  have k0 := bat hb1 (new_cell w #[.bool s, .slice A n c, .slice A' n' c'] 43 0 _ rfl)
  have k2 := bat hb1 (new_cell w #[.bool s, .slice A n c, .slice A' n' c'] 43 2 _ rfl)
  have hb1' := (below1 w (.cells #[.bool s, .slice A n c, .slice A' n' c'] 43)).trans (hb1.mono (by simp))
  have HB1 := Lib.hid hb1'
  have HI1 := Lib.hid hi1
  have HN := Lib.hid (show (dig (ln ns)).length ≤ 1000000 from Nat.le_trans (dig_ln_len H3.out) (by omega))
  have HM := Lib.hid (show (dig (ln ds)).length ≤ 1000000 from Nat.le_trans (dig_ln_len H4.out) (by omega))
  have z1 := hb1'.size
  have hg1s : w.heap.size + 1 ≤ g1 := by simpa using hg1
  clear hi1 hb1 hb1'
  cases s
  · have kx := bat (below1 w1 newR) k2
    go_wp2_with fail
    refine (whole_ratio A' n' c' ds _ (H2.out.belowL ((HB1.out).trans ((below1 w1 newR).mono z1))) H4.out (by have := EM.out; omega)).mono ?_
    rintro e w3 ⟨g3, rfl, hg3, hg3', hi3, hb3⟩
    have HI3 := Lib.hid hi3
    have HB3 := Lib.hid hb3
    have z3 := hb3.size
    have hw3 : w1.heap.size + 1 ≤ w3.heap.size := by simpa using hb3.size
    clear hi3 hb3
    go_wp2_with fail
    refine (setFrac_rat w1.heap.size g1 0 g3 0 ((ln ns : Int)) (ln ds : Int) _ ((new_rat w1).below HB3.out) ((HI1.out.below (below1 ..)).below HB3.out) HI3.out (by have := HD.out; omega) (by rw [Int.natAbs_natCast]; exact HN.out) (by rw [Int.natAbs_natCast]; exact HM.out)).mono ?_
    rintro e w4 ⟨rfl, hr4, hu4⟩
    have HR4 := Lib.hid hr4
    have HU4 := Lib.hid hu4
    clear hr4 hu4
    go_wp2_with fail
    go_ret
    exact ⟨w1.heap.size, rfl, z1, HR4.out, (HB1.out).trans (((below1 w1 newR).mono z1).trans ((HB3.out.mono (by simp; omega)).trans (HU4.out.below z1 (by omega))))⟩
  · go_wp2_with fail
    refine (neg_int g1 0 g1 0 (ln ns : Int) (ln ns : Int) _ HI1.out HI1.out (by rw [Int.natAbs_natCast]; have := HN.out; omega)).mono ?_
    rintro e w2 ⟨rfl, hi2, hu2⟩
    have k2b := hu2.cellOf k2 (fun e => absurd e (by omega))
    have HI2 := Lib.hid hi2
    have hb2 := HB1.out.trans (hu2.below (by omega) z1)
    have HB2 := Lib.hid hb2
    have z2 := hb2.size
    clear hi2 hu2 hb2
    have kx := bat (below1 w2 newR) k2b
    go_wp2_with fail
    refine (whole_ratio A' n' c' ds _ (H2.out.belowL ((HB2.out).trans ((below1 w2 newR).mono z2))) H4.out (by have := EM.out; omega)).mono ?_
    rintro e w3 ⟨g3, rfl, hg3, hg3', hi3, hb3⟩
    have HI3 := Lib.hid hi3
    have HB3 := Lib.hid hb3
    have z3 := hb3.size
    have hw3 : w2.heap.size + 1 ≤ w3.heap.size := by simpa using hb3.size
    clear hi3 hb3
    go_wp2_with fail
    refine (setFrac_rat w2.heap.size g1 0 g3 0 (-(ln ns : Int)) (ln ds : Int) _ ((new_rat w2).below HB3.out) ((HI2.out.below (below1 ..)).below HB3.out) HI3.out (by have := HD.out; omega) (by rw [Int.natAbs_neg, Int.natAbs_natCast]; exact HN.out) (by rw [Int.natAbs_natCast]; exact HM.out)).mono ?_
    rintro e w4 ⟨rfl, hr4, hu4⟩
    have HR4 := Lib.hid hr4
    have HU4 := Lib.hid hu4
    clear hr4 hu4
    go_wp2_with fail
    go_ret
    exact ⟨w2.heap.size, rfl, z2, HR4.out, (HB2.out).trans (((below1 w2 newR).mono z2).trans ((HB3.out.mono (by simp; omega)).trans (HU4.out.below z2 (by omega))))⟩

end Go.Proofs.Ytfepmbpcdfdlhaa

/- ratio.told: the walk -/
namespace Go.Proofs.Ytfepmbpcdfdlhaa
open Go.RowKit Go.Sort

/-- may it be told? -/
def fits (q : Rat) : Prop := (lim q.num.natAbs).length ≤ 256 ∧ (lim q.den).length ≤ 256
instance (q : Rat) : Decidable (fits q) := inferInstanceAs (Decidable (_ ∧ _))
def noR : RV := ⟨false, [], []⟩
def toldR (q : Rat) : RV := if fits q then rv q else noR
def toldE (q : Rat) : Int := if fits q then 0 else 3
theorem noR_at (w : World) (c c' : Nat) : RAt w (.agg #[.bool false, .slice none 0 c, .slice none 0 c']) noR :=
  ⟨none, 0, c, none, 0, c', rfl, RdE.nil .., RdE.nil .., fun _ h => absurd h (by simp [noR]), fun _ h => absurd h (by simp [noR])⟩
theorem sgnI_zero {x : Int} : (sgnI x == 0) = decide (x = 0) := by
  unfold sgnI
  by_cases h : x < 0
  · have : x ≠ 0 := by omega
    simp [h, this]
  · by_cases h0 : x = 0 <;> simp [h, h0]
theorem sgnI_lt {x : Int} : decide (sgnI x < 0) = decide (x < 0) := by
  unfold sgnI
  by_cases h : x < 0
  · simp [h]; try omega
  · by_cases h0 : x = 0
    · simp [h0]
    · simp [h, h0]
theorem blk_cells {w : World} {g : Nat} {cs : Array Value} {t : TypeId} (h : w.heap[g]? = some (.cells cs t (0, 0))) : (∀ i, w.cell? ⟨g, i, none⟩ = cs[i]?) ∧ (∀ i, w.frozen? ⟨g, i, none⟩ = false) :=
  ⟨fun i => by simp [World.cell?, h], fun i => by simp [World.frozen?, h]⟩
theorem RAt.upb {w w' : World} {v : Value} {r : RV} {g : Nat} (h : RAt w v r) (hb : UpB w w' g) : RAt w' v r := by
  obtain ⟨A, n, c, A', n', c', e, h1, h2, h3, h4⟩ := h
  exact ⟨A, n, c, A', n', c', e, (hb.limbs h1).imp fun d hd => Nat.lt_of_lt_of_le hd hb.size, (hb.limbs h2).imp fun d hd => Nat.lt_of_lt_of_le hd hb.size, h3, h4⟩
/-- a ratio's block, set -/
theorem rat_set {w : World} {g : Nat} {b0 : Bool} {A A' : Option Addr} {n n' c c' : Nat} (k0 : w.cell? ⟨g, 0, none⟩ = some (.bool b0)) (k1 : w.cell? ⟨g, 1, none⟩ = some (.slice A n c)) (k2 : w.cell? ⟨g, 2, none⟩ = some (.slice A' n' c'))
    (s : Bool) (d1 d2 : Option Addr) (n1 n2 c1 c2 : Nat) :
    ∀ w', w' = ((w.setCell ⟨g, 0, none⟩ (.bool s)).setCell ⟨g, 1, none⟩ (.slice d1 n1 c1)).setCell ⟨g, 2, none⟩ (.slice d2 n2 c2) → UpB w w' g ∧ w'.cell? ⟨g, 0, none⟩ = some (.bool s) ∧ w'.cell? ⟨g, 1, none⟩ = some (.slice d1 n1 c1) ∧ w'.cell? ⟨g, 2, none⟩ = some (.slice d2 n2 c2) := by
  intro w' hw'
  subst hw'
  refine ⟨⟨rfl, rfl, rfl, by simp, fun k hk hne => ?_, fun o k x hv => ?_⟩, ?_, ?_, ?_⟩
  · rw [Below.heap_setCell _ _ _ _ hne, Below.heap_setCell _ _ _ _ hne, Below.heap_setCell _ _ _ _ hne]
  · have e0 : o ≠ 0 := by rintro rfl; rw [k0] at hv; cases hv
    have e1 : o ≠ 1 := by rintro rfl; rw [k1] at hv; cases hv
    have e2 : o ≠ 2 := by rintro rfl; rw [k2] at hv; cases hv
    simp [go_sem, e0, e1, e2, hv]
  · simp [go_sem, k0]
  · simp [go_sem, k1]
  · simp [go_sem, k2]
def Told (w : World) (q : Rat) (e : Ending) (w' : World) : Prop := ∃ v, e = .returned (.tuple #[v, .int .i64 (toldE q)]) ∧ RAt w' v (toldR q) ∧ Below w.heap.size w w'

set_option maxRecDepth 100000 in
set_option maxHeartbeats 4000000 in
theorem told_ratio (b : Nat) (q : Rat) (w : World) (hq : RatAt w b q) (hn : (dig q.num.natAbs).length ≤ 1000000) (hd : (dig q.den).length ≤ 1000000) :
    Calls Try.prog 49 #[.pointer (some ⟨b, 0, none⟩)] w (Told w q) := by
  have HQ := Lib.hid hq
  have HN := Lib.hid hn
  have HD := Lib.hid hd
  have hblt := hq.1.lt
  clear hq hn hd
  go_enter Try.func49, Try.ntmps49
  go_wp2_with fail
  refine (sign_rat b q _ (HQ.out.below (below1 ..))).mono ?_
  rintro e w' ⟨rfl, rfl⟩
  by_cases h0 : q.num = 0
  · have e0 : (sgnI q.num == 0) = true := by rw [sgnI_zero]; simp [h0]
    have H0 := Lib.hid h0
    clear h0
    go_wp2_with fail
    (try simp only [Exit.inBlock, Exit.then])
    refine bodyPost_ret (v := .tuple #[.agg #[.bool false, .slice none 0 0, .slice (some ⟨w.heap.size + 1, 0, none⟩) 1 1], .int .i64 0]) (by simp [results, Try.results49, go_sem]; done) rfl ?_
    have h0 := H0.out
    have hq0 : q = 0 := (Rat.num_divInt_den q).symm.trans (by rw [h0, Rat.zero_divInt])
    have hf : fits q := by rw [hq0]; decide
    refine ⟨_, by rw [toldE, if_pos hf], ?_, (below1 ..).trans ((below1 ..).mono (by simp))⟩
    rw [toldR, if_pos hf, hq0]
    refine ⟨none, 0, 0, some ⟨w.heap.size + 1, 0, none⟩, 1, 1, rfl, RdE.nil .., ?_, fun _ h => absurd h (by simp [rv, lim_zero]), lim_lds _⟩
    refine rde_blk (fr := (0, 0)) (cs := #[.int .u64 1]) (t := 45) ?_ rfl ?_ rfl rfl
    · have := blk_new (w.alloc (.cells #[.bool false, .slice none 0 0, .slice (some ⟨w.heap.size + 1, 0, none⟩) 1 1] 43)) #[.int .u64 1] 45
      rwa [World.size_alloc] at this
    · simp
  · have e0 : (sgnI q.num == 0) = false := by rw [sgnI_zero]; simp [h0]
    have H0 := Lib.hid h0
    clear h0
    go_wp2_with fail
    refine (sign_rat b q _ (HQ.out.below (below1 ..))).mono ?_
    rintro e w' ⟨rfl, rfl⟩
    have el : decide (sgnI q.num < 0) = decide (q.num < 0) := sgnI_lt
    go_wp2_with fail
    refine (num_rat b _).mono ?_
    rintro e w' ⟨rfl, rfl⟩
    have hni : IntAt ((w.alloc (.cells #[.bool false, .slice none 0 0, .slice none 0 0] 43)).alloc newI) (w.heap.size + 1) 0 0 := by
      have h := new_intAt (w.alloc (.cells #[.bool false, .slice none 0 0, .slice none 0 0] 43))
      rwa [World.size_alloc] at h
    go_wp2_with fail
    refine (abs_int (w.heap.size + 1) 0 b 0 0 q.num _ hni ((HQ.out.below (below1 ..)).below (below1 ..)).1 (by have := HN.out; omega)).mono ?_
    rintro e w1 ⟨rfl, hi1, hu1⟩
    have hb1 := hu1.below (B := w.heap.size + 1) (by omega) (by simp)
    have hc1 := (hb1.block w.heap.size (by omega)).trans (blk_old (blk_new w #[.bool false, .slice none 0 0, .slice none 0 0] 43) newI)
    have hbw : Below w.heap.size w w1 := (below1 w _).trans (((below1 ..).mono (by simp)).trans (hb1.mono (by omega)))
    have HI1 := Lib.hid hi1
    have HC1 := Lib.hid hc1
    have HBW := Lib.hid hbw
    have z1 := hbw.size
    have z1' := hb1.size
    simp only [World.size_alloc] at z1'
    clear hi1 hb1 hc1 hbw hu1 hni
    go_wp2_with fail
    refine (limbs_ratio (w.heap.size + 1) 0 q.num.natAbs w1 HI1.out HN.out).mono ?_
    rintro e w2 ⟨A1, c1, rfl, hl1, hr1, hb2⟩
    have HR1 := Lib.hid hr1
    have HB2 := Lib.hid hb2
    have z2 := hb2.size
    clear hr1 hb2
    go_wp2_with fail
    refine (denom_rat b q w2 ((HQ.out.below HBW.out).below HB2.out) HD.out).mono ?_
    rintro e w3 ⟨g3, rfl, hg3, hg3', hi3, hb3⟩
    have HI3 := Lib.hid hi3
    have HB3 := Lib.hid hb3
    have z3 := hb3.size
    clear hi3 hb3
    go_wp2_with fail
    refine (limbs_ratio g3 0 q.den w3 HI3.out HD.out).mono ?_
    rintro e w4 ⟨A2, c2, rfl, hl2, hr2, hb4⟩
    have HR2 := Lib.hid hr2
    have HB4 := Lib.hid hb4
    have z4 := hb4.size
    have hbz : Below w1.heap.size w1 w4 := HB2.out.trans ((HB3.out.mono z2).trans (HB4.out.mono (by omega)))
    have HBZ := Lib.hid hbz
    have hc4 := (hbz.block w.heap.size (by omega)).trans HC1.out
    clear hr2 hb4 hbz
    have hR : RAt w4 (.agg #[.bool (decide (q.num < 0)), .slice A1 (lim q.num.natAbs).length c1, .slice A2 (lim q.den).length c2]) (rv q) :=
      ⟨_, _, _, _, _, _, rfl, (HR1.out.keep (Keeps.below (HB3.out.trans (HB4.out.mono z3)) (fun _ h => h.2))).imp (fun d h => by have := h.2; omega), HR2.out.imp (fun d h => h.2), lim_lds _, lim_lds _⟩
    have HRR := Lib.hid hR
    clear hR
    have hbx := HBW.out.trans (HBZ.out.mono z1)
    have HBX := Lib.hid hbx
    clear hbx
    by_cases hf : fits q
    · obtain ⟨f1, f2⟩ := hf
      obtain ⟨n1, hn1⟩ : ∃ n1, n1 = (lim q.num.natAbs).length := ⟨_, rfl⟩
      obtain ⟨n2, hn2⟩ : ∃ n2, n2 = (lim q.den).length := ⟨_, rfl⟩
      rw [← hn1] at f1
      rw [← hn2] at f2
      rw [← hn1, ← hn2] at HRR
      rw [← hn1, ← hn2]
      have HN1 := Lib.hid hn1
      have HN2 := Lib.hid hn2
      clear hn1 hn2
      obtain ⟨kc, kf⟩ := blk_cells (blk_old hc4 (.cells #[.bool (decide (q.num < 0)), .slice A1 n1 c1, .slice A2 n2 c2] 43))
      have kc0 := kc 0
      have kc1 := kc 1
      have kc2 := kc 2
      have kf0 := kf 0
      have kf1 := kf 1
      have kf2 := kf 2
      simp only [List.getElem?_toArray, List.getElem?_cons_zero, List.getElem?_cons_succ] at kc0 kc1 kc2
      obtain ⟨w6, hw6⟩ : ∃ w6, w6 = (((w4.alloc (.cells #[.bool (decide (q.num < 0)), .slice A1 n1 c1, .slice A2 n2 c2] 43)).setCell ⟨w.heap.size, 0, none⟩ (.bool (decide (q.num < 0)))).setCell ⟨w.heap.size, 1, none⟩ (.slice A1 n1 c1)).setCell ⟨w.heap.size, 2, none⟩ (.slice A2 n2 c2) := ⟨_, rfl⟩
      obtain ⟨hu6, q0, q1, q2⟩ := rat_set kc0 kc1 kc2 _ _ _ _ _ _ _ _ hw6
      have HW6 := Lib.hid hw6
      have HU6 := Lib.hid hu6
      have Q0 := Lib.hid q0
      have Q1 := Lib.hid q1
      have Q2 := Lib.hid q2
      clear kc kf hc4 hw6 hu6 q0 q1 q2
      go_wp2_with fail
      rw [← HW6.out]
      have q0 := Q0.out
      have q1 := Q1.out
      have q2 := Q2.out
      (try simp only [Exit.inBlock, Exit.then])
      refine bodyPost_ret (v := .tuple #[.agg #[.bool (decide (q.num < 0)), .slice A1 n1 c1, .slice A2 n2 c2], .int .i64 0]) (by simp [results, Try.results49, go_sem, q0, q1, q2]; done) rfl ?_
      have hf : fits q := ⟨by rw [← HN1.out]; exact f1, by rw [← HN2.out]; exact f2⟩
      refine ⟨_, by rw [toldE, if_pos hf], ?_, HBX.out.trans (((below1 ..).mono (by omega)).trans (HU6.out.below (Nat.le_refl _) (by simp; omega)))⟩
      rw [toldR, if_pos hf]
      exact (HRR.out.below (below1 ..)).upb HU6.out
    · obtain ⟨n1, hn1⟩ : ∃ n1, n1 = (lim q.num.natAbs).length := ⟨_, rfl⟩
      obtain ⟨n2, hn2⟩ : ∃ n2, n2 = (lim q.den).length := ⟨_, rfl⟩
      have hor : 256 < n1 ∨ 256 < n2 := by
        rw [hn1, hn2]
        unfold fits at hf
        omega
      have HF := Lib.hid hf
      rw [← hn1, ← hn2] at HRR
      rw [← hn1, ← hn2]
      clear hn1 hn2 hf
      by_cases f1 : 256 < n1
      · clear hor
        have hx : decide (256 < (n1 : Int)) = true := by simp; omega
        obtain ⟨kc, kf⟩ := blk_cells (blk_old hc4 (.cells #[.bool (decide (q.num < 0)), .slice A1 n1 c1, .slice A2 n2 c2] 43))
        have kc0 := kc 0
        have kc1 := kc 1
        have kc2 := kc 2
        have kf0 := kf 0
        have kf1 := kf 1
        have kf2 := kf 2
        simp only [List.getElem?_toArray, List.getElem?_cons_zero, List.getElem?_cons_succ] at kc0 kc1 kc2
        obtain ⟨w6, hw6⟩ : ∃ w6, w6 = (((w4.alloc (.cells #[.bool (decide (q.num < 0)), .slice A1 n1 c1, .slice A2 n2 c2] 43)).setCell ⟨w.heap.size, 0, none⟩ (.bool false)).setCell ⟨w.heap.size, 1, none⟩ (.slice none 0 0)).setCell ⟨w.heap.size, 2, none⟩ (.slice none 0 0) := ⟨_, rfl⟩
        obtain ⟨hu6, q0, q1, q2⟩ := rat_set kc0 kc1 kc2 _ _ _ _ _ _ _ _ hw6
        have HW6 := Lib.hid hw6
        have HU6 := Lib.hid hu6
        have Q0 := Lib.hid q0
        have Q1 := Lib.hid q1
        have Q2 := Lib.hid q2
        clear kc kf hc4 hw6 hu6 q0 q1 q2
        go_wp2_with fail
        rw [← HW6.out]
        have q0 := Q0.out
        have q1 := Q1.out
        have q2 := Q2.out
        (try simp only [Exit.inBlock, Exit.then])
        refine bodyPost_ret (v := .tuple #[.agg #[.bool false, .slice none 0 0, .slice none 0 0], .int .i64 3]) (by simp [results, Try.results49, go_sem, q0, q1, q2]; done) rfl ?_
        refine ⟨_, by rw [toldE, if_neg HF.out], ?_, HBX.out.trans (((below1 ..).mono (by omega)).trans (HU6.out.below (Nat.le_refl _) (by simp; omega)))⟩
        rw [toldR, if_neg HF.out]
        exact noR_at _ _ _
      · have f2 : 256 < n2 := by omega
        clear hor
        have hx : decide (256 < (n1 : Int)) = false := by simp; omega
        have hy : decide (256 < (n2 : Int)) = true := by simp; omega
        obtain ⟨kc, kf⟩ := blk_cells (blk_old hc4 (.cells #[.bool (decide (q.num < 0)), .slice A1 n1 c1, .slice A2 n2 c2] 43))
        have kc0 := kc 0
        have kc1 := kc 1
        have kc2 := kc 2
        have kf0 := kf 0
        have kf1 := kf 1
        have kf2 := kf 2
        simp only [List.getElem?_toArray, List.getElem?_cons_zero, List.getElem?_cons_succ] at kc0 kc1 kc2
        obtain ⟨w6, hw6⟩ : ∃ w6, w6 = (((w4.alloc (.cells #[.bool (decide (q.num < 0)), .slice A1 n1 c1, .slice A2 n2 c2] 43)).setCell ⟨w.heap.size, 0, none⟩ (.bool false)).setCell ⟨w.heap.size, 1, none⟩ (.slice none 0 0)).setCell ⟨w.heap.size, 2, none⟩ (.slice none 0 0) := ⟨_, rfl⟩
        obtain ⟨hu6, q0, q1, q2⟩ := rat_set kc0 kc1 kc2 _ _ _ _ _ _ _ _ hw6
        have HW6 := Lib.hid hw6
        have HU6 := Lib.hid hu6
        have Q0 := Lib.hid q0
        have Q1 := Lib.hid q1
        have Q2 := Lib.hid q2
        clear kc kf hc4 hw6 hu6 q0 q1 q2
        go_wp2_with fail
        rw [← HW6.out]
        have q0 := Q0.out
        have q1 := Q1.out
        have q2 := Q2.out
        (try simp only [Exit.inBlock, Exit.then])
        refine bodyPost_ret (v := .tuple #[.agg #[.bool false, .slice none 0 0, .slice none 0 0], .int .i64 3]) (by simp [results, Try.results49, go_sem, q0, q1, q2]; done) rfl ?_
        refine ⟨_, by rw [toldE, if_neg HF.out], ?_, HBX.out.trans (((below1 ..).mono (by omega)).trans (HU6.out.below (Nat.le_refl _) (by simp; omega)))⟩
        rw [toldR, if_neg HF.out]
        exact noR_at _ _ _

end Go.Proofs.Ytfepmbpcdfdlhaa

/- lists of limbs held together: slices.Equal, SameLimbs; ratio.top, nought: the walks. Printed by gen_t5.py -/
namespace Go.Proofs.Ytfepmbpcdfdlhaa
open Go.RowKit Go.Sort

theorem take_eq_succ {xs ys : List Nat} {k x : Nat} (h : xs.take k = ys.take k) (hx : xs[k]? = some x) (hy : ys[k]? = some x) : xs.take (k + 1) = ys.take (k + 1) := by
  rw [List.take_add_one, List.take_add_one, h, hx, hy]
theorem ne_of_get {xs ys : List Nat} {k x y : Nat} (hx : xs[k]? = some x) (hy : ys[k]? = some y) (h : x ≠ y) : decide (xs = ys) = false := by
  refine decide_eq_false fun e => h ?_
  rw [e, hy] at hx
  exact (Option.some.inj hx).symm

set_option maxRecDepth 100000 in
set_option maxHeartbeats 4000000 in
theorem equal_limbs (A A' : Option Addr) (n n' c c' : Nat) (xs ys : List Nat) (S S' : Nat → Prop) (w : World) (hx : RdE Lc 1 w S A n xs) (hy : RdE Lc 1 w S' A' n' ys) (hn : n ≤ 1000000000000000) (hn' : n' ≤ 1000000000000000) :
    Calls Try.prog 95 #[.slice A n c, .slice A' n' c'] w fun e w' => e = .returned (.bool (decide (xs = ys))) ∧ Below w.heap.size w w' := by
  have HX := Lib.hid hx
  have HY := Lib.hid hy
  clear hx hy
  by_cases hne : n = n'
  · subst hne
    go_enter Try.func95, Try.ntmps95
    go_wp2_with fail
    go_loopw [13] (fun i wr => ∃ k : Nat, k ≤ n ∧ i = .int .i64 k ∧ Below w.heap.size w wr ∧ xs.take k = ys.take k) (fun i _ => n - (intOf i).toNat)
    case atStart => exact ⟨0, Nat.zero_le _, rfl, Below.refl _ _, rfl⟩
    case round =>
      obtain ⟨k, hk, rfl, hb, hs⟩ := hrel
      have HS := Lib.hid hs
      have HB := Lib.hid hb
      clear hs hb
      by_cases hlt : k < n
      · obtain ⟨x, ex⟩ := get_some HX.out.num hlt
        obtain ⟨y, ey⟩ := get_some HY.out.num hlt
        obtain ⟨b1, o1, rfl, hb1, hc⟩ := HX.out.elem (f := Lc) (size := 1) (fun _ => rfl) ex (by omega)
        obtain ⟨b2, o2, rfl, hb2, hd⟩ := HY.out.elem (f := Lc) (size := 1) (fun _ => rfl) ey (by omega)
        have q1 : wr.cell? ⟨b1, o1 + k, none⟩ = some (.int .u64 (x : Int)) := by have h := hc 0 _ rfl; rw [Nat.mul_one, Nat.add_zero] at h; exact bat HB.out h
        have q2 : wr.cell? ⟨b2, o2 + k, none⟩ = some (.int .u64 (y : Int)) := by have h := hd 0 _ rfl; rw [Nat.mul_one, Nat.add_zero] at h; exact bat HB.out h
        have EX := Lib.hid ex
        have EY := Lib.hid ey
        clear hc hd ex ey
        by_cases h1 : x = y
        · subst h1
          have e1 : ((x : Int) != (x : Int)) = false := by simp
          go_wp2_with fail
          go_quiet (fail)
          go_wp2_with fail
          go_roundw
          case rel => exact ⟨k + 1, by omega, by go_num, below_drewN HB.out _, take_eq_succ HS.out EX.out EY.out⟩
          case measure => simp [intOf]; omega
        · have e1 : ((x : Int) != (y : Int)) = true := by simp; omega
          have HE := Lib.hid (ne_of_get EX.out EY.out h1)
          clear h1
          go_wp2_with fail
          go_quiet (fail)
          go_wp2_with fail
          go_ret
          exact ⟨by rw [HE.out]; rfl, below_drewN HB.out _⟩
      · obtain rfl : n = k := by omega
        go_wp2_with fail
        go_ret
        have e := HS.out
        rw [List.take_of_length_le (by rw [HX.out.num]; exact Nat.le_refl _), List.take_of_length_le (by rw [HY.out.num]; exact Nat.le_refl _)] at e
        exact ⟨by rw [decide_eq_true e]; rfl, HB.out⟩
  · have h1 : ((n : Int) != n') = true := by simp; omega
    have HE := Lib.hid (show decide (xs = ys) = false from decide_eq_false fun e => hne (by rw [← HX.out.num, ← HY.out.num, e]))
    clear hne
    go_enter Try.func95, Try.ntmps95
    go_wp2_with fail
    go_ret
    exact ⟨by rw [HE.out]; rfl, Below.refl _ _⟩

set_option maxRecDepth 100000 in
set_option maxHeartbeats 4000000 in
theorem same_limbs (A A' : Option Addr) (n n' c c' : Nat) (xs ys : List Nat) (S S' : Nat → Prop) (w : World) (hx : RdE Lc 1 w S A n xs) (hy : RdE Lc 1 w S' A' n' ys) (hn : n ≤ 1000000000000000) (hn' : n' ≤ 1000000000000000) :
    Calls Try.prog 37 #[.slice A n c, .slice A' n' c'] w fun e w' => e = .returned (.bool (decide (xs = ys))) ∧ Below w.heap.size w w' := by
  have HX := Lib.hid hx
  have HY := Lib.hid hy
  clear hx hy
  by_cases hne : n = n'
  · subst hne
    go_enter Try.func37, Try.ntmps37
    go_wp2_with fail
    go_loopw [5] (fun i wr => ∃ k : Nat, k ≤ n ∧ i = .int .i64 k ∧ Below w.heap.size w wr ∧ xs.take k = ys.take k) (fun i _ => n - (intOf i).toNat)
    case atStart => exact ⟨0, Nat.zero_le _, rfl, Below.refl _ _, rfl⟩
    case round =>
      obtain ⟨k, hk, rfl, hb, hs⟩ := hrel
      have HS := Lib.hid hs
      have HB := Lib.hid hb
      clear hs hb
      by_cases hlt : k < n
      · obtain ⟨x, ex⟩ := get_some HX.out.num hlt
        obtain ⟨y, ey⟩ := get_some HY.out.num hlt
        obtain ⟨b1, o1, rfl, hb1, hc⟩ := HX.out.elem (f := Lc) (size := 1) (fun _ => rfl) ex (by omega)
        obtain ⟨b2, o2, rfl, hb2, hd⟩ := HY.out.elem (f := Lc) (size := 1) (fun _ => rfl) ey (by omega)
        have q1 : wr.cell? ⟨b1, o1 + k, none⟩ = some (.int .u64 (x : Int)) := by have h := hc 0 _ rfl; rw [Nat.mul_one, Nat.add_zero] at h; exact bat HB.out h
        have q2 : wr.cell? ⟨b2, o2 + k, none⟩ = some (.int .u64 (y : Int)) := by have h := hd 0 _ rfl; rw [Nat.mul_one, Nat.add_zero] at h; exact bat HB.out h
        have EX := Lib.hid ex
        have EY := Lib.hid ey
        clear hc hd ex ey
        by_cases h1 : x = y
        · subst h1
          have e1 : ((x : Int) != (x : Int)) = false := by simp
          go_wp2_with fail
          go_quiet (fail)
          go_wp2_with fail
          go_roundw
          case rel => exact ⟨k + 1, by omega, by go_num, below_drewN HB.out _, take_eq_succ HS.out EX.out EY.out⟩
          case measure => simp [intOf]; omega
        · have e1 : ((x : Int) != (y : Int)) = true := by simp; omega
          have HE := Lib.hid (ne_of_get EX.out EY.out h1)
          clear h1
          go_wp2_with fail
          go_quiet (fail)
          go_wp2_with fail
          go_ret
          exact ⟨by rw [HE.out]; rfl, below_drewN HB.out _⟩
      · obtain rfl : n = k := by omega
        go_wp2_with fail
        go_ret
        have e := HS.out
        rw [List.take_of_length_le (by rw [HX.out.num]; exact Nat.le_refl _), List.take_of_length_le (by rw [HY.out.num]; exact Nat.le_refl _)] at e
        exact ⟨by rw [decide_eq_true e]; rfl, HB.out⟩
  · have h1 : ((n : Int) != n') = true := by simp; omega
    have HE := Lib.hid (show decide (xs = ys) = false from decide_eq_false fun e => hne (by rw [← HX.out.num, ← HY.out.num, e]))
    clear hne
    go_enter Try.func37, Try.ntmps37
    go_wp2_with fail
    go_ret
    exact ⟨by rw [HE.out]; rfl, Below.refl _ _⟩

end Go.Proofs.Ytfepmbpcdfdlhaa

/- ratio.nought, top: the walks -/
namespace Go.Proofs.Ytfepmbpcdfdlhaa
open Go.RowKit Go.Sort

theorem nought1_ratio (x : Nat) (w : World) : Calls Try.prog 113 #[.int .u64 (x : Int)] w fun e w' => e = .returned (.bool (decide (x ≠ 0))) ∧ w = w' := by
  go_enter Try.func113, Try.ntmps113
  go_wp2_with fail
  go_ret
  refine ⟨?_, rfl⟩
  show Ending.returned (.bool ((x : Int) != 0)) = _
  by_cases h : x = 0 <;> simp [h]

theorem ln_pos {xs : List Nat} {k x : Nat} (hx : xs[k]? = some x) (h : x ≠ 0) : ln xs ≠ 0 := by
  intro e
  have h1 := ln_split xs k
  have h2 : (xs.drop k) = x :: xs.drop (k + 1) := by
    obtain ⟨hl, rfl⟩ := List.getElem?_eq_some_iff.1 hx
    exact List.drop_eq_getElem_cons hl
  have h3 : ln (xs.drop k) = x + W64 * ln (xs.drop (k + 1)) := by rw [h2]; rfl
  have h4 : 0 < W64 ^ k := Nat.pow_pos (by decide)
  have h5 : 0 < W64 ^ k * ln (xs.drop k) := Nat.mul_pos h4 (by omega)
  omega

set_option maxRecDepth 100000 in
set_option maxHeartbeats 4000000 in
theorem index_ratio (A : Option Addr) (n c : Nat) (xs : List Nat) (S : Nat → Prop) (w : World) (hx : RdE Lc 1 w S A n xs) (hn : n ≤ 1000000000000000) :
    Calls Try.prog 116 #[.slice A n c, .func (Fn.func 113) #[] #[]] w fun e w' => ∃ z : Int, e = .returned (.int .i64 z) ∧ decide (0 ≤ z) = decide (ln xs ≠ 0) ∧ w = w' := by
  have HX := Lib.hid hx
  clear hx
  go_enter Try.func116, Try.ntmps116
  go_wp2_with fail
  go_loopw [8] (fun i wr => ∃ k : Nat, k ≤ n ∧ i = .int .i64 k ∧ w = wr ∧ ∀ j x, j < k → xs[j]? = some x → x = 0) (fun i _ => n - (intOf i).toNat)
  case atStart => exact ⟨0, Nat.zero_le _, rfl, rfl, fun j x h => absurd h (by omega)⟩
  case round =>
    obtain ⟨k, hk, rfl, rfl, hs⟩ := hrel
    have HS := Lib.hid hs
    clear hs
    by_cases hlt : k < n
    · obtain ⟨x, ex⟩ := get_some HX.out.num hlt
      obtain ⟨b1, o1, rfl, hb1, hc⟩ := HX.out.elem (f := Lc) (size := 1) (fun _ => rfl) ex (by omega)
      have q1 : w.cell? ⟨b1, o1 + k, none⟩ = some (.int .u64 (x : Int)) := by have h := hc 0 _ rfl; rwa [Nat.mul_one, Nat.add_zero] at h
      have EX := Lib.hid ex
      clear hc ex
      go_wp2_with fail
      refine (nought1_ratio x w).mono ?_
      rintro e w' ⟨rfl, rfl⟩
      by_cases h0 : x = 0
      · have e0 : decide (x ≠ 0) = false := by simp [h0]
        have H0 := Lib.hid h0
        rw [e0]
        clear h0 e0
        go_wp2_with fail
        go_roundw
        case rel =>
          refine ⟨k + 1, by omega, by go_num, trivial, fun j y hj hy => ?_⟩
          by_cases e : j = k
          · subst e
            rw [EX.out] at hy
            rw [← Option.some.inj hy]
            exact H0.out
          · exact HS.out j y (by omega) hy
        case measure => simp [intOf]; omega
      · have e0 : decide (x ≠ 0) = true := by simp [h0]
        have H0 := Lib.hid h0
        rw [e0]
        clear h0 e0
        go_wp2_with fail
        go_ret
        exact ⟨k, rfl, by rw [decide_eq_true (by omega), decide_eq_true (ln_pos EX.out H0.out)], rfl⟩
    · obtain rfl : n = k := by omega
      go_wp2_with fail
      go_ret
      have e : ln xs = 0 := ln_zero fun j x hj => HS.out j x (by have := (List.getElem?_eq_some_iff.1 hj).1; have := HX.out.num; omega) hj
      exact ⟨-1, rfl, by rw [e]; rfl, rfl⟩

theorem contains_ratio (A : Option Addr) (n c : Nat) (xs : List Nat) (S : Nat → Prop) (w : World) (hx : RdE Lc 1 w S A n xs) (hn : n ≤ 1000000000000000) :
    Calls Try.prog 112 #[.slice A n c, .func (Fn.func 113) #[] #[]] w fun e w' => e = .returned (.bool (decide (ln xs ≠ 0))) ∧ w = w' := by
  have HX := Lib.hid hx
  clear hx
  go_enter Try.func112, Try.ntmps112
  go_wp2_with fail
  refine (index_ratio A n c xs S w HX.out hn).mono ?_
  rintro e w' ⟨z, rfl, hz, rfl⟩
  have HZ := Lib.hid hz
  clear hz
  go_wp2_with fail
  go_ret
  exact ⟨by rw [← HZ.out]; rfl, rfl⟩

theorem nought_ratio (A : Option Addr) (n c : Nat) (xs : List Nat) (S : Nat → Prop) (w : World) (hx : RdE Lc 1 w S A n xs) (hn : n ≤ 1000000000000000) :
    Calls Try.prog 92 #[.slice A n c] w fun e w' => e = .returned (.bool (decide (ln xs = 0))) ∧ w = w' := by
  have HX := Lib.hid hx
  clear hx
  go_enter Try.func92, Try.ntmps92
  go_wp2_with fail
  refine (contains_ratio A n c xs S w HX.out hn).mono ?_
  rintro e w' ⟨rfl, rfl⟩
  go_wp2_with fail
  go_ret
  refine ⟨?_, rfl⟩
  by_cases h : ln xs = 0 <;> simp [h]

/-- the last limb stands -/
def topB (xs : List Nat) : Bool := decide (0 < xs.length) && decide (xs.length ≤ 256) && decide (xs.getLast? ≠ some 0)
set_option maxRecDepth 100000 in
set_option maxHeartbeats 4000000 in
theorem top_ratio (A : Option Addr) (n c : Nat) (xs : List Nat) (S : Nat → Prop) (w : World) (hx : RdE Lc 1 w S A n xs) (hn : n ≤ 1000000000000000) :
    Calls Try.prog 96 #[.slice A n c] w fun e w' => e = .returned (.bool (topB xs)) ∧ w = w' := by
  have HX := Lib.hid hx
  clear hx
  by_cases h0 : n = 0
  · subst h0
    have HT := Lib.hid (show topB xs = false by unfold topB; rw [HX.out.num]; rfl)
    go_enter Try.func96, Try.ntmps96
    go_wp2_with fail
    go_ret
    exact ⟨by rw [HT.out]; rfl, rfl⟩
  · obtain ⟨m, rfl⟩ : ∃ m, n = m + 1 := ⟨n - 1, by omega⟩
    by_cases h1 : m + 1 ≤ 256
    · obtain ⟨x, ex⟩ := get_some HX.out.num (show m < m + 1 by omega)
      obtain ⟨b1, o1, rfl, hb1, hc⟩ := HX.out.elem (f := Lc) (size := 1) (fun _ => rfl) ex (by omega)
      have q1 : w.cell? ⟨b1, o1 + m, none⟩ = some (.int .u64 (x : Int)) := by have h := hc 0 _ rfl; rwa [Nat.mul_one, Nat.add_zero] at h
      have HT := Lib.hid (show topB xs = ((x : Int) != 0) by
        unfold topB
        rw [List.getLast?_eq_getElem?, HX.out.num, Nat.add_sub_cancel, ex]
        simp [h1]
        by_cases h : x = 0 <;> simp [h])
      clear hc ex
      go_enter Try.func96, Try.ntmps96
      go_wp2_with fail
      go_ret
      exact ⟨by rw [HT.out]; rfl, rfl⟩
    · have HT := Lib.hid (show topB xs = false by unfold topB; rw [HX.out.num]; simp; omega)
      go_enter Try.func96, Try.ntmps96
      go_wp2_with fail
      go_ret
      exact ⟨by rw [HT.out]; rfl, rfl⟩

end Go.Proofs.Ytfepmbpcdfdlhaa
