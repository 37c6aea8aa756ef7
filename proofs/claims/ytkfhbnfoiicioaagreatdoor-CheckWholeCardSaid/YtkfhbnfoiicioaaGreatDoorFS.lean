import Derived.Test.YtkfhbnfoiicioaaGreatDoorFK
import Derived.Laws.FloatArith
/- x - x, whatever x is -/
set_option linter.unusedSimpArgs false
set_option linter.unusedVariables false
namespace Go.Proofs.YtkfhbnfoiicioaaGreatDoor
open Go.RowKit Go.Sort Ieee

theorem read_nan0 (s m : Nat) (hs : s < 2) (hm : m < 4503599627370495) : ∃ neg fr, Ieee.double.read (s * 9223372036854775808 + 9218868437227405312 + 1 + m) = .nan neg fr := by
  refine ⟨(s * 9223372036854775808 + 9218868437227405312 + 1 + m) / 9223372036854775808 % 2 == 1, (s * 9223372036854775808 + 9218868437227405312 + 1 + m) % 9223372036854775808 - 9218868437227405312, ?_⟩
  have e1 : Ieee.double.signWeight = 9223372036854775808 := by decide
  have e2 : Ieee.double.binade = 4503599627370496 := by decide
  have e3 : Ieee.double.infRung = 9218868437227405312 := by decide
  unfold Ieee.Format.read
  simp only [e1, e2, e3]
  rw [if_neg (by omega), if_neg (by omega), if_neg (by omega)]
theorem run_sub_nan0 {P : Program} (w : World) (t : TypeId) (x y : Nat) (h : FloatKind.f64.format.sub x y = none) :
    ∃ b, (binOp .sub t (.float .f64 x) (.float .f64 y)).run P w = .ok (.float .f64 b) w.drew ∧ ∀ z, FloatKind.f64.format.order b z = none := by
  refine ⟨Question.cut (.nanBits .f64 x y) (w.tape w.drawn (.nanBits .f64 x y)), by simp only [binOp]; simp [Op.floatArith, h, choose, Sem.run, Question.forced], ?_⟩
  intro z
  generalize w.tape w.drawn (.nanBits .f64 x y) = n
  obtain ⟨neg, fr, e⟩ := read_nan0 (n % 2) (n / 2 % 4503599627370495) (by omega) (by omega)
  have e' : Ieee.double.read (Question.cut (.nanBits .f64 x y) n) = .nan neg fr := e
  unfold Ieee.Format.order
  show Ieee.Datum.order (Ieee.double.read _) _ = _
  rw [e']
  rfl
/-- is a word a number's -/
def finB (u : Nat) : Bool := decide (u % 9223372036854775808 < 9218868437227405312)
theorem sub_self_fin {u : Nat} (h : finB u = true) : floatBits .sub .f64 u u = some 0 := by
  have h : u % 9223372036854775808 < 9218868437227405312 := of_decide_eq_true h
  have e1 : Ieee.double.signWeight = 9223372036854775808 := by decide
  have e2 : Ieee.double.binade = 4503599627370496 := by decide
  have e3 : Ieee.double.infRung = 9218868437227405312 := by decide
  have hr : ∃ s m e, Ieee.double.read u = .number s m e := by
    unfold Ieee.Format.read
    simp only [e1, e2, e3]
    split
    · exact ⟨_, _, _, rfl⟩
    · first | exact ⟨_, _, _, rfl⟩ | (rw [if_pos (by omega)]; exact ⟨_, _, _, rfl⟩)
  obtain ⟨s, m, e, hr⟩ := hr
  show ((Ieee.double.read u).sum (Ieee.double.read u).opposite).map Ieee.double.write = some 0
  rw [hr]
  have hz : ∀ a, signed s m a + signed (!s) m a = 0 := fun a => by unfold signed; cases s <;> simp <;> omega
  show some (Ieee.double.write (.number (if signed s m (e - min e e).toNat + signed (!s) m (e - min e e).toNat = 0 then s && !s else decide (signed s m (e - min e e).toNat + signed (!s) m (e - min e e).toNat < 0)) (signed s m (e - min e e).toNat + signed (!s) m (e - min e e).toNat).natAbs (min e e))) = some 0
  rw [hz]
  simp only [if_true, Int.natAbs_zero, Bool.and_not_self]
  unfold Ieee.Format.write Ieee.Format.nearest
  simp
  rfl
theorem sub_self_nan {u : Nat} (h : finB u = false) : FloatKind.f64.format.sub u u = none := by
  have h : ¬ u % 9223372036854775808 < 9218868437227405312 := of_decide_eq_false h
  have e1 : Ieee.double.signWeight = 9223372036854775808 := by decide
  have e2 : Ieee.double.binade = 4503599627370496 := by decide
  have e3 : Ieee.double.infRung = 9218868437227405312 := by decide
  have hr : (∃ s, Ieee.double.read u = .infinity s) ∨ ∃ s m, Ieee.double.read u = .nan s m := by
    unfold Ieee.Format.read
    simp only [e1, e2, e3]
    rw [if_neg (by omega), if_neg h]
    split
    · exact .inl ⟨_, rfl⟩
    · exact .inr ⟨_, _, rfl⟩
  show ((Ieee.double.read u).sum (Ieee.double.read u).opposite).map Ieee.double.write = none
  rcases hr with ⟨s, hr⟩ | ⟨s, m, hr⟩
  · rw [hr]
    show ((if s = !s then _ else none).map _) = none
    cases s <;> rfl
  · rw [hr]; rfl
/-- x - x, whatever x is -/
theorem sub_self (t : TypeId) (u : Nat) (w : World) : ∃ b n, (binOp .sub t (.float .f64 u) (.float .f64 u)).run Tryz.prog w = .ok (.float .f64 b) (w.drewN n) ∧ (FloatKind.f64.format.order b 0 == some Ordering.eq) = finB u := by
  cases h : finB u
  · obtain ⟨b, h1, h2⟩ := run_sub_nan0 (P := Tryz.prog) w t u u (sub_self_nan h)
    exact ⟨b, 1, h1, by rw [h2]; rfl⟩
  · exact ⟨0, 0, run_float_arith w .sub t .f64 u u 0 (sub_self_fin h), by decide +kernel⟩

end Go.Proofs.YtkfhbnfoiicioaaGreatDoor
