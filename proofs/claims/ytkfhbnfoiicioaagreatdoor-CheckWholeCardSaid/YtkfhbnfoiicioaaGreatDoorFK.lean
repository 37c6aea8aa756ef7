import Derived.Test.YtkfhbnfoiicioaaGreatDoorQT
import Derived.Laws.FloatArith
/-
  Floats by a whole number: each float (64 bits) that is a number stands for fk x times 2^-1074; the infinities lie beyond all of them.
-/
set_option linter.unusedSimpArgs false
set_option linter.unusedVariables false
namespace Go.Proofs.YtkfhbnfoiicioaaGreatDoor
open Ieee

def fnan (x : Nat) : Bool := (Ieee.double.read x).isNaN
def bigE : Nat := 4000
theorem bigE_le : 3000 ≤ bigE := by decide
def bigN : Nat := 2 ^ bigE
theorem bigN_eq : bigN = 2 ^ bigE := by unfold bigN; with_reducible rfl
def dkey : Datum → Int
  | .number s m e => signed s m (e + 1074).toNat
  | .infinity s => if s then -(bigN : Int) else (bigN : Int)
  | .nan .. => 0
def fk (x : Nat) : Int := dkey (Ieee.double.read x)

theorem signed_mul (s : Bool) (m i : Nat) : signed s m i = (if s then -1 else 1) * (m : Int) * (2 ^ i : Nat) := by
  unfold signed
  rw [Nat.shiftLeft_eq]
  cases s <;> simp [Int.neg_mul]
theorem signed_add (s : Bool) (m i d : Nat) : signed s m (i + d) = signed s m i * (2 ^ d : Nat) := by
  rw [signed_mul, signed_mul, Nat.pow_add, Int.natCast_mul, ← Int.mul_assoc]
theorem compare_scale (a b : Int) (d : Nat) : compare (a * (2 ^ d : Nat)) (b * (2 ^ d : Nat)) = compare a b := by
  have hp : (0 : Int) < (2 ^ d : Nat) := by exact_mod_cast Nat.two_pow_pos d
  rcases Int.lt_trichotomy a b with h | h | h
  · rw [Int.compare_eq_lt.2 h, Int.compare_eq_lt.2 (Int.mul_lt_mul_of_pos_right h hp)]
  · subst h; simp
  · rw [Int.compare_eq_gt.2 h, Int.compare_eq_gt.2 (Int.mul_lt_mul_of_pos_right h hp)]

/-- what a float's word stands for, as far as sizes go -/
def Fits : Datum → Prop
  | .number _ m e => m < 2 ^ 53 ∧ -1074 ≤ e ∧ e ≤ 971
  | .infinity _ => True
  | .nan .. => True
theorem read_fits (x : Nat) : Fits (Ieee.double.read x) := by
  have e1 : Ieee.double.signWeight = 9223372036854775808 := by decide
  have e2 : Ieee.double.binade = 4503599627370496 := by decide
  have e3 : Ieee.double.infRung = 9218868437227405312 := by decide
  have e4 : Ieee.double.leastPlace = -1074 := by decide
  unfold Ieee.Format.read
  simp only [e1, e2, e3, e4]
  split
  · simp only [Fits]; omega
  · split
    · simp only [Fits]; omega
    · split <;> trivial

theorem key_lt (s : Bool) (m : Nat) (e : Int) (h : Fits (.number s m e)) : dkey (.number s m e) < (bigN : Int) ∧ -(bigN : Int) < dkey (.number s m e) := by
  obtain ⟨h1, h2, h3⟩ := h
  have hk : m * 2 ^ (e + 1074).toNat < bigN := by
    rw [bigN_eq]
    refine Nat.lt_of_lt_of_le (Nat.mul_lt_mul_of_pos_right h1 (Nat.two_pow_pos _)) ?_
    rw [← Nat.pow_add]
    have := bigE_le
    exact Nat.pow_le_pow_right (by omega) (by omega)
  have e1 : dkey (.number s m e) = if s then -((m * 2 ^ (e + 1074).toNat : Nat) : Int) else ((m * 2 ^ (e + 1074).toNat : Nat) : Int) := by
    show signed s m _ = _
    unfold signed
    rw [Nat.shiftLeft_eq]
  rw [e1]
  generalize m * 2 ^ (e + 1074).toNat = k at hk ⊢
  generalize bigN = N at hk ⊢
  cases s <;> simp <;> omega

theorem order_dkey (a b : Datum) (ha : Fits a) (hb : Fits b) (na : a.isNaN = false) (nb : b.isNaN = false) : a.order b = some (compare (dkey a) (dkey b)) := by
  have hN : (0 : Int) < (bigN : Int) := by rw [bigN_eq]; exact_mod_cast Nat.two_pow_pos bigE
  cases a with
  | nan s f => simp [Datum.isNaN] at na
  | infinity s =>
    cases b with
    | nan s f => simp [Datum.isNaN] at nb
    | infinity t =>
      unfold Datum.order dkey
      generalize bigN = N at hN ⊢
      cases s <;> cases t
      · simp
      · rw [Int.compare_eq_gt.2 (show (if true = true then -(N : Int) else (N : Int)) < (if false = true then -(N : Int) else (N : Int)) by simp; omega)]; rfl
      · rw [Int.compare_eq_lt.2 (show (if true = true then -(N : Int) else (N : Int)) < (if false = true then -(N : Int) else (N : Int)) by simp; omega)]; rfl
      · simp
    | number t n j =>
      obtain ⟨h1, h2⟩ := key_lt t n j hb
      have e : dkey (.infinity s) = if s then -(bigN : Int) else (bigN : Int) := rfl
      rw [e]
      unfold Datum.order
      generalize dkey (.number t n j) = k at h1 h2 ⊢
      generalize bigN = N at h1 h2 ⊢
      cases s
      · simp only [Bool.false_eq_true, if_false]; rw [Int.compare_eq_gt.2 h1]
      · simp only [if_true]; rw [Int.compare_eq_lt.2 h2]
  | number s m i =>
    cases b with
    | nan s f => simp [Datum.isNaN] at nb
    | infinity t =>
      obtain ⟨h1, h2⟩ := key_lt s m i ha
      have e : dkey (.infinity t) = if t then -(bigN : Int) else (bigN : Int) := rfl
      rw [e]
      unfold Datum.order
      generalize dkey (.number s m i) = k at h1 h2 ⊢
      generalize bigN = N at h1 h2 ⊢
      cases t
      · simp only [Bool.false_eq_true, if_false]; rw [Int.compare_eq_lt.2 h1]
      · simp only [if_true]; rw [Int.compare_eq_gt.2 h2]
    | number t n j =>
      obtain ⟨_, hi, _⟩ := ha
      obtain ⟨_, hj, _⟩ := hb
      show some (compare (signed s m (i - min i j).toNat) (signed t n (j - min i j).toNat)) = _
      rw [← compare_scale _ _ (min i j + 1074).toNat, ← signed_add, ← signed_add]
      have e1 : (i - min i j).toNat + (min i j + 1074).toNat = (i + 1074).toNat := by omega
      have e2 : (j - min i j).toNat + (min i j + 1074).toNat = (j + 1074).toNat := by omega
      rw [e1, e2]
      rfl

theorem order_fk {x y : Nat} (hx : fnan x = false) (hy : fnan y = false) : FloatKind.f64.format.order x y = some (compare (fk x) (fk y)) :=
  order_dkey _ _ (read_fits x) (read_fits y) hx hy
theorem order_nan {x y : Nat} (h : fnan x = true ∨ fnan y = true) : FloatKind.f64.format.order x y = none := by
  unfold fnan at h
  show (Ieee.double.read x).order (Ieee.double.read y) = none
  generalize Ieee.double.read x = a at h ⊢
  generalize Ieee.double.read y = b at h ⊢
  cases a <;> cases b <;> simp [Datum.isNaN] at h <;> rfl

/-- floats by their words: less, greater, at most, same number -/
def flt (a b : Nat) : Bool := FloatKind.f64.format.order a b == some .lt
def fgt (a b : Nat) : Bool := FloatKind.f64.format.order a b == some .gt
def fle (a b : Nat) : Bool := FloatKind.f64.format.order a b == some .lt || FloatKind.f64.format.order a b == some .eq
def feq (a b : Nat) : Bool := FloatKind.f64.format.order a b == some .eq

theorem flt_iff (a b : Nat) : flt a b = true ↔ fnan a = false ∧ fnan b = false ∧ fk a < fk b := by
  unfold flt
  cases ha : fnan a
  · cases hb : fnan b
    · rw [order_fk ha hb]; simp [Int.compare_eq_lt]
    · rw [order_nan (.inr hb)]; simp
  · rw [order_nan (.inl ha)]; simp
theorem fgt_iff (a b : Nat) : fgt a b = true ↔ fnan a = false ∧ fnan b = false ∧ fk b < fk a := by
  unfold fgt
  cases ha : fnan a
  · cases hb : fnan b
    · rw [order_fk ha hb]; simp [Int.compare_eq_gt]
    · rw [order_nan (.inr hb)]; simp
  · rw [order_nan (.inl ha)]; simp
theorem feq_iff (a b : Nat) : feq a b = true ↔ fnan a = false ∧ fnan b = false ∧ fk a = fk b := by
  unfold feq
  cases ha : fnan a
  · cases hb : fnan b
    · rw [order_fk ha hb]; simp
    · rw [order_nan (.inr hb)]; simp
  · rw [order_nan (.inl ha)]; simp
theorem fle_iff (a b : Nat) : fle a b = true ↔ fnan a = false ∧ fnan b = false ∧ fk a ≤ fk b := by
  have h : fle a b = (flt a b || feq a b) := rfl
  rw [h, Bool.or_eq_true, flt_iff, feq_iff]
  constructor
  · rintro (⟨h1, h2, h3⟩ | ⟨h1, h2, h3⟩) <;> exact ⟨h1, h2, by omega⟩
  · rintro ⟨h1, h2, h3⟩
    by_cases h4 : fk a < fk b
    · exact .inl ⟨h1, h2, h4⟩
    · exact .inr ⟨h1, h2, by omega⟩
theorem feq_self (a : Nat) : feq a a = !fnan a := by
  cases h : fnan a
  · exact (feq_iff a a).2 ⟨h, h, rfl⟩
  · cases h2 : feq a a
    · rfl
    · have := ((feq_iff a a).1 h2).1; rw [h] at this; cases this

end Go.Proofs.YtkfhbnfoiicioaaGreatDoor
