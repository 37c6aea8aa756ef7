import Derived.Test.YtmeljjijofkllaaE1
import Derived.Laws.FloatArith
namespace Go.Proofs.Ytmeljjijofkllaa
open Go.RowKit

theorem read_nan (s m : Nat) (hs : s < 2) (hm : m < 4503599627370495) : ∃ neg fr, Ieee.double.read (s * 9223372036854775808 + 9218868437227405312 + 1 + m) = .nan neg fr := by
  refine ⟨(s * 9223372036854775808 + 9218868437227405312 + 1 + m) / 9223372036854775808 % 2 == 1, (s * 9223372036854775808 + 9218868437227405312 + 1 + m) % 9223372036854775808 - 9218868437227405312, ?_⟩
  have e1 : Ieee.double.signWeight = 9223372036854775808 := by decide
  have e2 : Ieee.double.binade = 4503599627370496 := by decide
  have e3 : Ieee.double.infRung = 9218868437227405312 := by decide
  unfold Ieee.Format.read
  simp only [e1, e2, e3]
  rw [if_neg (by omega), if_neg (by omega), if_neg (by omega)]

theorem run_sub_nan {P : Program} (w : World) (t : TypeId) (x y : Nat) (h : FloatKind.f64.format.sub x y = none) :
    ∃ b, (binOp .sub t (.float .f64 x) (.float .f64 y)).run P w = .ok (.float .f64 b) w.drew ∧ ∀ z, FloatKind.f64.format.order b z = none := by
  refine ⟨Question.cut (.nanBits .f64 x y) (w.tape w.drawn (.nanBits .f64 x y)), by simp only [binOp]; simp [Op.floatArith, h, choose, Sem.run, Question.forced], ?_⟩
  intro z
  generalize w.tape w.drawn (.nanBits .f64 x y) = n
  obtain ⟨neg, fr, e⟩ := read_nan (n % 2) (n / 2 % 4503599627370495) (by omega) (by omega)
  have e' : Ieee.double.read (Question.cut (.nanBits .f64 x y) n) = .nan neg fr := e
  unfold Ieee.Format.order
  show Ieee.Datum.order (Ieee.double.read _) _ = _
  rw [e']
  rfl

theorem finite_num (a : Nat) (w : World) (r : Nat) (h : FloatKind.f64.format.sub a a = some r) :
    Calls Try.prog 38 #[.float .f64 a] w fun e w' => e = .returned (.bool (feq r 0)) ∧ ∃ n, w' = w.drewN n := by
  have hr := fun t => run_float_arith (P := Try.prog) w .sub t .f64 a a r h
  clear h
  go_enter Try.func38, Try.ntmps38
  go_wp2
  go_ret
  exact ⟨rfl, 0, rfl⟩
theorem finite_nan (a : Nat) (w : World) (h : FloatKind.f64.format.sub a a = none) :
    Calls Try.prog 38 #[.float .f64 a] w fun e w' => e = .returned (.bool false) ∧ ∃ n, w' = w.drewN n := by
  obtain ⟨b, hr, hb⟩ := run_sub_nan (P := Try.prog) w 41 a a h
  clear h
  go_enter Try.func38, Try.ntmps38
  go_wp2
  go_ret
  exact ⟨rfl, 1, rfl⟩

end Go.Proofs.Ytmeljjijofkllaa
