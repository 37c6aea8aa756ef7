import Derived.Test.YtmeljjijofkllaaE2
import Derived.Test.YtmeljjijofkllaaE4p
/- the document's Right: it answers as the program's -/
namespace Go.Proofs.Ytmeljjijofkllaa
open Go.RowKit Go.Sort Ieee Ieee.Datum

def finB (a : Nat) : Bool := match FloatKind.f64.format.sub a a with
  | some r => feq r 0
  | none => false
theorem finite_any (a : Nat) (w : World) : Calls Try.prog 38 #[.float .f64 a] w fun e w' => e = .returned (.bool (finB a)) ∧ Below w.heap.size w w' := by
  cases h : FloatKind.f64.format.sub a a with
  | none =>
    refine (finite_nan a w h).mono ?_
    rintro e w' ⟨rfl, n, rfl⟩
    exact ⟨by simp [finB, h], below_drewN (Below.refl _ _) n⟩
  | some r =>
    refine (finite_num a w r h).mono ?_
    rintro e w' ⟨rfl, n, rfl⟩
    exact ⟨by simp [finB, h], below_drewN (Below.refl _ _) n⟩

theorem fin_number {a : Nat} {s : Bool} {m : Nat} {e : Int} (h : Ieee.double.read a = .number s m e) : finB a = true := by
  have h1 : FloatKind.f64.format.sub a a = some 0 := by
    show ((Ieee.double.read a).sum (Ieee.double.read a).opposite).map Ieee.double.write = some 0
    rw [h]
    have ht : signed s m (e - min e e).toNat + signed (!s) m (e - min e e).toNat = 0 := by
      unfold signed
      cases s <;> simp <;> omega
    simp only [opposite, sum, Option.map_some, ht, Int.natAbs_zero, if_true]
    cases s <;> rfl
  unfold finB
  rw [h1]
  decide +kernel
theorem fin_inf {a : Nat} {s : Bool} (h : Ieee.double.read a = .infinity s) : finB a = false := by
  have h1 : FloatKind.f64.format.sub a a = none := by
    show ((Ieee.double.read a).sum (Ieee.double.read a).opposite).map Ieee.double.write = none
    rw [h]
    cases s <;> rfl
  unfold finB
  rw [h1]

theorem fk_zero : fk 0 = 0 := by
  have h : Ieee.double.read 0 = .number false 0 (-1074) := by decide +kernel
  unfold fk
  rw [h]
  rfl
theorem fk_pinf : fk 9218868437227405312 = (bigN : Int) := by
  have h : Ieee.double.read 9218868437227405312 = .infinity false := by decide +kernel
  unfold fk
  rw [h]
  rfl
theorem fk_ninf : fk 18442240474082181120 = -(bigN : Int) := by
  have h : Ieee.double.read 18442240474082181120 = .infinity true := by decide +kernel
  unfold fk
  rw [h]
  rfl
theorem bigN_pos : (0 : Int) < (bigN : Int) := by rw [bigN_eq]; exact_mod_cast Nat.two_pow_pos bigE
theorem low_right {a : Nat} (h : fnan a = false) : (finB a || flt a 0) = flt a 9218868437227405312 := by
  have hN := bigN_pos
  have n0 : fnan 0 = false := by decide +kernel
  have n1 : fnan 9218868437227405312 = false := by decide +kernel
  cases hr : Ieee.double.read a with
  | number s m e =>
    rw [fin_number hr, Bool.true_or]
    symm
    rw [flt_iff]
    have hf := read_fits a
    rw [hr] at hf
    refine ⟨h, n1, ?_⟩
    rw [fk_pinf]
    unfold fk
    rw [hr]
    exact (key_lt s m e hf).1
  | infinity s =>
    rw [fin_inf hr, Bool.false_or]
    have hk : fk a = if s then -(bigN : Int) else (bigN : Int) := by unfold fk; rw [hr]; rfl
    cases s
    · have e1 : flt a 0 = false := Bool.eq_false_iff.2 (fun h => by have := ((flt_iff _ _).1 h).2.2; rw [fk_zero, hk] at this; simp at this; omega)
      have e2 : flt a 9218868437227405312 = false := Bool.eq_false_iff.2 (fun h => by have := ((flt_iff _ _).1 h).2.2; rw [fk_pinf, hk] at this; simp at this)
      rw [e1, e2]
    · rw [(flt_iff _ _).2 ⟨h, n0, by rw [fk_zero, hk]; simp; omega⟩, (flt_iff _ _).2 ⟨h, n1, by rw [fk_pinf, hk]; simp; omega⟩]
  | nan s t => unfold fnan at h; rw [hr] at h; cases h
theorem high_right {a : Nat} (h : fnan a = false) : (finB a || fgt a 0) = fgt a 18442240474082181120 := by
  have hN := bigN_pos
  have n0 : fnan 0 = false := by decide +kernel
  have n1 : fnan 18442240474082181120 = false := by decide +kernel
  cases hr : Ieee.double.read a with
  | number s m e =>
    rw [fin_number hr, Bool.true_or]
    symm
    rw [fgt_iff]
    have hf := read_fits a
    rw [hr] at hf
    refine ⟨h, n1, ?_⟩
    rw [fk_ninf]
    unfold fk
    rw [hr]
    exact (key_lt s m e hf).2
  | infinity s =>
    rw [fin_inf hr, Bool.false_or]
    have hk : fk a = if s then -(bigN : Int) else (bigN : Int) := by unfold fk; rw [hr]; rfl
    cases s
    · rw [(fgt_iff _ _).2 ⟨h, n0, by rw [fk_zero, hk]; simp; omega⟩, (fgt_iff _ _).2 ⟨h, n1, by rw [fk_ninf, hk]; simp; omega⟩]
    · have e1 : fgt a 0 = false := Bool.eq_false_iff.2 (fun h => by have := ((fgt_iff _ _).1 h).2.2; rw [fk_zero, hk] at this; simp at this; omega)
      have e2 : fgt a 18442240474082181120 = false := Bool.eq_false_iff.2 (fun h => by have := ((fgt_iff _ _).1 h).2.2; rw [fk_ninf, hk] at this; simp at this)
      rw [e1, e2]
  | nan s t => unfold fnan at h; rw [hr] at h; cases h

theorem right_ref {x : Spn} (h1 : fnan x.lo = false) (h2 : fnan x.hi = false) (h3 : fgt x.lo x.hi = false) : rightB x = ((finB x.lo || flt x.lo 0) && (finB x.hi || fgt x.hi 0)) := by
  rw [low_right h1, high_right h2]
  unfold rightB
  have : fle x.lo x.hi = true := by
    rw [fle_iff]
    refine ⟨h1, h2, ?_⟩
    have h := mt (fgt_iff x.lo x.hi).2 (by rw [h3]; simp)
    simp only [h1, h2, true_and] at h
    omega
  rw [this, Bool.true_and]
theorem right_bad {x : Spn} (h : fnan x.lo = true ∨ fnan x.hi = true ∨ fgt x.lo x.hi = true) : rightB x = false := by
  unfold rightB
  have : fle x.lo x.hi = false := by
    rw [← Bool.not_eq_true, fle_iff]
    rintro ⟨h1, h2, h3⟩
    rcases h with h | h | h
    · rw [h1] at h; cases h
    · rw [h2] at h; cases h
    · have := ((fgt_iff _ _).1 h).2.2; omega
  rw [this, Bool.false_and]

set_option maxHeartbeats 2000000 in
theorem refRight_any (x : Spn) (w : World) : Calls Try.prog 31 #[x.val] w fun e w' => e = .returned (.bool (rightB x)) ∧ Below w.heap.size w w' := by
  obtain ⟨a, b⟩ := x
  have i1 := finite_any
  have I1 := Lib.hid i1
  clear i1
  cases h1 : feq a a
  · have hr := Lib.hid (right_bad (x := ⟨a, b⟩) (.inl (by rw [feq_self] at h1; simpa using h1)))
    have v1 : (FloatKind.f64.format.order a a != some .eq) = true := by unfold feq at h1; simp [bne, h1]
    clear h1
    go_enter Try.func31, Try.ntmps31
    go_wp2_with fail
    go_ret
    exact ⟨by rw [hr.out]; rfl, below1 ..⟩
  · cases h2 : feq b b
    · have hr := Lib.hid (right_bad (x := ⟨a, b⟩) (.inr (.inl (by rw [feq_self] at h2; simpa using h2))))
      have v1 : (FloatKind.f64.format.order a a != some .eq) = false := by unfold feq at h1; simp [bne, h1]
      have v2 : (FloatKind.f64.format.order b b != some .eq) = true := by unfold feq at h2; simp [bne, h2]
      clear h1 h2
      go_enter Try.func31, Try.ntmps31
      go_wp2_with fail
      go_ret
      exact ⟨by rw [hr.out]; rfl, below1 ..⟩
    · have n1 : fnan a = false := by rw [feq_self] at h1; simpa using h1
      have n2 : fnan b = false := by rw [feq_self] at h2; simpa using h2
      have v1 : (FloatKind.f64.format.order a a != some .eq) = false := by unfold feq at h1; simp [bne, h1]
      have v2 : (FloatKind.f64.format.order b b != some .eq) = false := by unfold feq at h2; simp [bne, h2]
      cases h3 : fgt a b
      · have v3 : (FloatKind.f64.format.order a b == some .gt) = false := h3
        have hr := Lib.hid (right_ref (x := ⟨a, b⟩) n1 n2 h3)
        clear h1 h2 h3 n1 n2
        cases h4 : finB a <;> cases h5 : flt a 0 <;> cases h6 : finB b <;> cases h7 : fgt b 0
        all_goals
          have v5 : (FloatKind.f64.format.order a 0 == some .lt) = _ := h5
          have v7 : (FloatKind.f64.format.order b 0 == some .gt) = _ := h7
          have H4 := Lib.hid h4
          have H5 := Lib.hid h5
          have H6 := Lib.hid h6
          have H7 := Lib.hid h7
          clear h4 h5 h6 h7
          go_enter Try.func31, Try.ntmps31
          go_wp2_with (go_at_call 38; refine (I1.out _ _).mono ?_; rintro e w' ⟨rfl, hb⟩; (first | (have p0 := bat hb (new_cell w #[.float .f64 a, .float .f64 b] 43 0 _ rfl); have p1 := bat hb (new_cell w #[.float .f64 a, .float .f64 b] 43 1 _ rfl); have B1 := Lib.hid (below_then (below1 ..) hb)) | (have p2 := bat hb p0; have p3 := bat hb p1; have B2 := Lib.hid (below_then B1.out hb))); clear hb; (first | rw [H4.out] | rw [H6.out]))
          go_ret
          first
            | exact ⟨by rw [hr.out, H4.out, H5.out, H6.out, H7.out]; rfl, B2.out⟩
            | exact ⟨by rw [hr.out, H4.out, H5.out, H6.out, H7.out]; rfl, B1.out⟩
      · have v3 : (FloatKind.f64.format.order a b == some .gt) = true := h3
        have hr := Lib.hid (right_bad (x := ⟨a, b⟩) (.inr (.inr h3)))
        clear h1 h2 h3 n1 n2
        go_enter Try.func31, Try.ntmps31
        go_wp2_with fail
        go_ret
        exact ⟨by rw [hr.out]; rfl, below1 ..⟩

end Go.Proofs.Ytmeljjijofkllaa
