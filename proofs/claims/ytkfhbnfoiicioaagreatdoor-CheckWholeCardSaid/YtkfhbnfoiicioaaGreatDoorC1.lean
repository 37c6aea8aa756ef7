import Derived.Test.YtkfhbnfoiicioaaGreatDoorFS
/- right spans (plain) -/
set_option linter.unusedSimpArgs false
set_option linter.unusedVariables false
namespace Go.Proofs.YtkfhbnfoiicioaaGreatDoor
open Ieee

theorem finB_read {u : Nat} : (finB u = true → ∃ s m e, Ieee.double.read u = .number s m e) ∧ (finB u = false → (∃ s, Ieee.double.read u = .infinity s) ∨ ∃ s m, Ieee.double.read u = .nan s m) := by
  have e1 : Ieee.double.signWeight = 9223372036854775808 := by decide
  have e2 : Ieee.double.binade = 4503599627370496 := by decide
  have e3 : Ieee.double.infRung = 9218868437227405312 := by decide
  constructor
  · intro h
    have h : u % 9223372036854775808 < 9218868437227405312 := of_decide_eq_true h
    unfold Ieee.Format.read
    simp only [e1, e2, e3]
    split
    · exact ⟨_, _, _, rfl⟩
    · first | exact ⟨_, _, _, rfl⟩ | (rw [if_pos (by omega)]; exact ⟨_, _, _, rfl⟩)
  · intro h
    have h : ¬ u % 9223372036854775808 < 9218868437227405312 := of_decide_eq_false h
    unfold Ieee.Format.read
    simp only [e1, e2, e3]
    rw [if_neg (by omega), if_neg h]
    split
    · exact .inl ⟨_, rfl⟩
    · exact .inr ⟨_, _, rfl⟩
theorem fk_fin {u : Nat} (h : finB u = true) : fnan u = false ∧ -(bigN : Int) < fk u ∧ fk u < bigN := by
  obtain ⟨s, m, e, hr⟩ := finB_read.1 h
  have hf := read_fits u
  unfold fnan fk
  rw [hr] at hf ⊢
  have h2 := key_lt s m e hf
  exact ⟨rfl, h2.2, h2.1⟩
theorem fk_inf {u : Nat} (h : finB u = false) : fnan u = true ∨ (fnan u = false ∧ (fk u = (bigN : Int) ∨ fk u = -(bigN : Int))) := by
  unfold fnan fk
  rcases finB_read.2 h with ⟨s, hr⟩ | ⟨s, m, hr⟩
  · rw [hr]
    refine .inr ⟨rfl, ?_⟩
    show (if s then -(bigN : Int) else (bigN : Int)) = _ ∨ (if s then -(bigN : Int) else (bigN : Int)) = _
    cases s
    · exact .inl rfl
    · exact .inr rfl
  · rw [hr]
    exact .inl rfl
theorem fk_pinf : fnan 9218868437227405312 = false ∧ fk 9218868437227405312 = (bigN : Int) := by
  have hr : Ieee.double.read 9218868437227405312 = .infinity false := by decide
  unfold fnan fk
  rw [hr]
  exact ⟨rfl, rfl⟩
theorem fk_ninf : fnan 18442240474082181120 = false ∧ fk 18442240474082181120 = -(bigN : Int) := by
  have hr : Ieee.double.read 18442240474082181120 = .infinity true := by decide
  unfold fnan fk
  rw [hr]
  exact ⟨rfl, rfl⟩
theorem fk_zero : fnan 0 = false ∧ fk 0 = 0 := by
  have hr : Ieee.double.read 0 = .number false 0 (-1074) := by decide
  unfold fnan fk
  rw [hr]
  exact ⟨rfl, rfl⟩
theorem bigN_pos : (0 : Int) < (bigN : Int) := by rw [bigN_eq]; exact_mod_cast Nat.two_pow_pos bigE
/-- is it a right span -/
def spB (lo hi : Nat) : Bool := fle lo hi && (flt lo 9218868437227405312 && fgt hi 18442240474082181120)
/-- the document's -/
def spR (lo hi : Nat) : Bool := if (!feq lo lo || (!feq hi hi || fgt lo hi)) = true then false else ((finB lo || flt lo 0) && (finB hi || fgt hi 0))
theorem ite_ft (c b : Bool) : (if c = true then false else b) = true ↔ (¬ c = true ∧ b = true) := by cases c <;> simp
theorem spR_eq (lo hi : Nat) : spR lo hi = spB lo hi := by
  have hN := bigN_pos
  unfold spR spB
  rw [feq_self, feq_self]
  rw [Bool.eq_iff_iff]
  simp only [Bool.not_not]
  have p1 := fk_pinf
  have p2 := fk_ninf
  have p3 := fk_zero
  have i1 := fle_iff lo hi
  have i2 := flt_iff lo 9218868437227405312
  have i3 := fgt_iff hi 18442240474082181120
  have i4 := fgt_iff lo hi
  have i5 := flt_iff lo 0
  have i6 := fgt_iff hi 0
  rw [p1.1, p1.2] at i2
  rw [p2.1, p2.2] at i3
  rw [p3.1, p3.2] at i5 i6
  have a1 : (finB lo = true ∧ fnan lo = false ∧ -(bigN : Int) < fk lo ∧ fk lo < bigN) ∨ (finB lo = false ∧ (fnan lo = true ∨ (fnan lo = false ∧ (fk lo = (bigN : Int) ∨ fk lo = -(bigN : Int))))) := by
    cases h : finB lo
    · exact .inr ⟨rfl, fk_inf h⟩
    · exact .inl ⟨rfl, fk_fin h⟩
  have a2 : (finB hi = true ∧ fnan hi = false ∧ -(bigN : Int) < fk hi ∧ fk hi < bigN) ∨ (finB hi = false ∧ (fnan hi = true ∨ (fnan hi = false ∧ (fk hi = (bigN : Int) ∨ fk hi = -(bigN : Int))))) := by
    cases h : finB hi
    · exact .inr ⟨rfl, fk_inf h⟩
    · exact .inl ⟨rfl, fk_fin h⟩
  clear p1 p2 p3
  generalize fk lo = x at *
  generalize fk hi = y at *
  generalize (bigN : Int) = N at *
  generalize fle lo hi = b1 at *
  generalize flt lo 9218868437227405312 = b2 at *
  generalize fgt hi 18442240474082181120 = b3 at *
  generalize fgt lo hi = b4 at *
  generalize flt lo 0 = b5 at *
  generalize fgt hi 0 = b6 at *
  generalize fnan lo = n1 at *
  generalize fnan hi = n2 at *
  generalize finB lo = f1 at *
  generalize finB hi = f2 at *
  cases n1 <;> cases n2 <;> cases f1 <;> cases f2 <;> cases b4 <;> cases b1 <;> cases b2 <;> cases b3 <;> cases b5 <;> cases b6 <;> simp at * <;> omega

end Go.Proofs.YtkfhbnfoiicioaaGreatDoor
