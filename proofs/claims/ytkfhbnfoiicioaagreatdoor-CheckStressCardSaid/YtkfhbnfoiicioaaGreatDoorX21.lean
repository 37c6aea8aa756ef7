import Derived.Test.YtkfhbnfoiicioaaGreatDoorX20
import Derived.Deep.Cut
import Derived.Deep.DeepCutAuto
set_option linter.unusedSimpArgs false
set_option linter.unusedVariables false
/- what a member bears: the quotients and sums exist, their spans are right; both sides' Stress answer alike -/
namespace Go.Proofs.YtkfhbnfoiicioaaGreatDoor
open Ieee Go.RowKit Go.Sort

theorem word_of {u : Nat} (hu : u < 18446744073709551616) : Ieee.double.word (sgbB u) (u % 9223372036854775808) = u := by
  have e1 : Ieee.double.signWeight = 9223372036854775808 := by decide
  unfold Ieee.Format.word sgbB
  rw [e1]
  by_cases h : 9223372036854775808 ≤ u
  · rw [decide_eq_true h, if_pos rfl]; omega
  · rw [decide_eq_false h]; simp only [Bool.false_eq_true, if_false]; omega
theorem num_of {u : Nat} (hu : u < 18446744073709551616) (h : u % 9223372036854775808 ≤ 9218868437227405312) : fnan u = false := by
  have := (word_sign (sgbB u) h).1
  rwa [word_of hu] at this
/-- what infinity is worth -/
def bigI : Int := fk 9218868437227405312
theorem fk_word0 {g : Nat} (h : g ≤ 9218868437227405312) : 0 ≤ fk g := by
  rcases Nat.eq_zero_or_pos g with h0 | h0
  · rw [h0, fk_zero.2]
    exact Int.le_refl 0
  · have := word_fk (Nat.zero_le _) h h0
    rw [fk_zero.2] at this
    omega
theorem fk_mono {x y : Nat} (hy : y ≤ 9218868437227405312) (h : x ≤ y) : fk x ≤ fk y := by
  rcases Nat.lt_or_eq_of_le h with h1 | h1
  · exact Int.le_of_lt (word_fk (by omega) hy h1)
  · rw [h1]; exact Int.le_refl _
theorem fk_minf : fk 18442240474082181120 = -fk 9218868437227405312 := by decide +kernel
theorem fk_sg {u : Nat} (hu : u < 18446744073709551616) (hn : fnan u = false) : fk u = if sgbB u = true then -fk (u % 9223372036854775808) else fk (u % 9223372036854775808) := by
  have hle := num_le hn
  rcases Nat.lt_or_eq_of_le hle with h | h
  · rw [fk_num hu h, fk_vr h]
    unfold numD
    rfl
  · rw [h]
    unfold sgbB
    by_cases hs : 9223372036854775808 ≤ u
    · rw [decide_eq_true hs, if_pos rfl, show u = 18442240474082181120 by omega, fk_minf]
    · rw [decide_eq_false hs, if_neg (by decide), show u = 9218868437227405312 by omega]
theorem pl_fk {a b : Nat} (ha : a < 18446744073709551616) (hb : b < 18446744073709551616) (na : fnan a = false) (nb : fnan b = false) (h : pl01 a ≤ pl01 b) : fk a ≤ fk b := by
  have la := num_le na
  have lb := num_le nb
  have za := fk_word0 la
  have zb := fk_word0 lb
  rw [fk_sg ha na, fk_sg hb nb]
  unfold pl01 at h
  cases h1 : sgbB a <;> cases h2 : sgbB b <;> simp only [h1, h2, Bool.false_eq_true, if_true, if_false] at h ⊢
  · exact fk_mono lb (by omega)
  · have e1 : a % 9223372036854775808 = 0 := by omega
    have e2 : b % 9223372036854775808 = 0 := by omega
    rw [e1, e2, fk_zero.2]
    decide
  · omega
  · have := fk_mono la (show b % 9223372036854775808 ≤ a % 9223372036854775808 by omega)
    omega
theorem key_pl {a b : Nat} (ha : a < 18446744073709551616) (hb : b < 18446744073709551616) (na : fnan a = false) (nb : fnan b = false) (h : keyO a ≤ keyO b) : fk a ≤ fk b := by
  refine pl_fk ha hb na nb ?_
  unfold keyO at h
  rw [na, nb] at h
  unfold pl01 sgbB
  simp only [Bool.false_eq_true, if_false, decide_eq_true_eq] at h ⊢
  split at h <;> split at h <;> (repeat' split) <;> omega
structure NumB (u : Nat) : Prop where
  lt : u < 18446744073709551616
  nn : fnan u = false
theorem les_le {a b : Nat} (ha : NumB a) (hb : NumB b) : NumB (lesF a b) ∧ fk (lesF a b) ≤ fk a ∧ fk (lesF a b) ≤ fk b := by
  rw [lesF_key]
  split
  · rename_i h
    exact ⟨hb, key_pl hb.lt ha.lt hb.nn ha.nn (Int.le_of_lt h), Int.le_refl _⟩
  · rename_i h
    exact ⟨ha, Int.le_refl _, key_pl ha.lt hb.lt ha.nn hb.nn (by omega)⟩
theorem gre_ge {a b : Nat} (ha : NumB a) (hb : NumB b) : NumB (greF a b) ∧ fk a ≤ fk (greF a b) ∧ fk b ≤ fk (greF a b) := by
  rw [greF_key]
  split
  · rename_i h
    exact ⟨hb, key_pl ha.lt hb.lt ha.nn hb.nn (Int.le_of_lt h), Int.le_refl _⟩
  · rename_i h
    exact ⟨ha, Int.le_refl _, key_pl hb.lt ha.lt hb.nn ha.nn (by omega)⟩
/-- a right span -/
theorem sp_iff {lo hi : Nat} (hl : NumB lo) (hh : NumB hi) : spB lo hi = true ↔ fk lo ≤ fk hi ∧ fk lo < bigI ∧ -bigI < fk hi := by
  unfold spB
  rw [Bool.and_eq_true, Bool.and_eq_true, fle_iff, flt_iff, fgt_iff, fk_minf]
  have n1 : fnan 9218868437227405312 = false := by decide
  have n2 : fnan 18442240474082181120 = false := by decide
  simp only [hl.nn, hh.nn, n1, n2, true_and]
  rfl
theorem neg_num {u : Nat} (h : NumB u) : NumB (negF u) ∧ fk (negF u) = -fk u := by
  obtain ⟨n1, n2⟩ := negF_num h.lt h.nn
  refine ⟨⟨n2, n1⟩, ?_⟩
  have hm : negF u % 9223372036854775808 = u % 9223372036854775808 := by have := h.lt; unfold negF; split <;> omega
  have hs : sgbB (negF u) = !sgbB u := by
    have := h.lt
    unfold sgbB negF
    by_cases h : u < 9223372036854775808
    · rw [if_pos h, decide_eq_true (by omega), decide_eq_false (by omega)]; rfl
    · rw [if_neg h, decide_eq_false (by omega), decide_eq_true (by omega)]; rfl
  rw [fk_sg n2 n1, fk_sg h.lt h.nn, hm, hs]
  cases sgbB u <;> simp
/-- the two ways of the last step -/
theorem set_num {s : Nat} {e m : Int} (h : NumB s) : NumB (setF s e m) ∧ (m = 1 → fk (setF s e m) ≤ fk s ∧ (fk s < bigI ∨ infB s = true → fk (setF s e m) < bigI)) ∧ (m = 2 → fk s ≤ fk (setF s e m) ∧ (-bigI < fk s ∨ infB s = true → -bigI < fk (setF s e m))) := by
  have hle := num_le h.nn
  have hlt := h.lt
  obtain ⟨s1, s2⟩ := sgn_word h.lt h.nn
  have hz := feq_zero h.lt
  have hpos : 0 < bigI := by unfold bigI; have := word_fk (Nat.zero_le _) (Nat.le_refl 9218868437227405312) (show 0 < 9218868437227405312 by decide); rw [fk_zero.2] at this; exact this
  have hM : NumB 9218868437227405311 ∧ fk 9218868437227405311 < bigI ∧ 0 ≤ fk 9218868437227405311 := ⟨⟨by decide, by decide⟩, word_fk (by decide) (by decide) (by decide), fk_word0 (by decide)⟩
  have hM2 : NumB 18442240474082181119 ∧ -bigI < fk 18442240474082181119 ∧ fk 18442240474082181119 ≤ 0 := by
    have hn := neg_num hM.1
    have e : negF 9218868437227405311 = 18442240474082181119 := by decide
    rw [e] at hn
    exact ⟨hn.1, by rw [hn.2]; omega, by rw [hn.2]; omega⟩
  unfold setF
  by_cases hi : infB s = true
  · rw [if_pos hi]
    have hi2 : s % 9223372036854775808 = 9218868437227405312 := of_decide_eq_true hi
    by_cases hs : 9223372036854775808 ≤ s
    · obtain rfl : s = 18442240474082181120 := by omega
      have f1 : fgt 18442240474082181120 0 = false := by decide +kernel
      have f2 : flt 18442240474082181120 0 = true := by decide +kernel
      have f3 : maxF 18442240474082181120 = 18442240474082181119 := by decide
      rw [f1, f2, f3, fk_minf]
      have hb : fk 9218868437227405312 = bigI := rfl
      rw [hb]
      by_cases hm : m = 2
      · rw [if_pos (.inr ⟨rfl, hm⟩)]
        exact ⟨hM2.1, fun h => by omega, fun _ => ⟨by omega, fun _ => hM2.2.1⟩⟩
      · rw [if_neg (by simp [hm])]
        refine ⟨h, fun _ => ⟨Int.le_refl _, fun _ => ?_⟩, fun h => absurd h hm⟩
        rw [fk_minf, hb]
        omega
    · obtain rfl : s = 9218868437227405312 := by omega
      have f1 : fgt 9218868437227405312 0 = true := by decide +kernel
      have f2 : flt 9218868437227405312 0 = false := by decide +kernel
      have f3 : maxF 9218868437227405312 = 9218868437227405311 := by decide
      rw [f1, f2, f3]
      have hb : fk 9218868437227405312 = bigI := rfl
      rw [hb]
      by_cases hm : m = 1
      · rw [if_pos (.inl ⟨rfl, hm⟩)]
        exact ⟨hM.1, fun _ => ⟨by omega, fun _ => hM.2.1⟩, fun h => by omega⟩
      · rw [if_neg (by simp [hm])]
        refine ⟨h, fun h => absurd h hm, fun _ => ⟨Int.le_refl _, fun _ => ?_⟩⟩
        rw [hb]
        omega
  · rw [if_neg hi]
    have hfin : s % 9223372036854775808 < 9218868437227405312 := by
      rcases Nat.lt_or_eq_of_le hle with h1 | h1
      · exact h1
      · exact absurd (decide_eq_true h1) hi
    by_cases hgo : (e < 0 ∧ m = 1) ∨ (0 < e ∧ m = 2)
    · rw [if_pos hgo]
      have hst : NumB (stepF s (decide (0 < e))) ∧ (0 < e → fk s ≤ fk (stepF s (decide (0 < e)))) ∧ (e < 0 → fk (stepF s (decide (0 < e))) ≤ fk s) := by
        have key : ∀ t : Nat, t < 18446744073709551616 → t % 9223372036854775808 ≤ 9218868437227405312 → (0 < e → pl01 s ≤ pl01 t) → (e < 0 → pl01 t ≤ pl01 s) → NumB t ∧ (0 < e → fk s ≤ fk t) ∧ (e < 0 → fk t ≤ fk s) := by
          intro t h1 h2 h3 h4
          have hn := num_of h1 h2
          exact ⟨⟨h1, hn⟩, fun h5 => pl_fk h.lt h1 h.nn hn (h3 h5), fun h5 => pl_fk h1 h.lt hn h.nn (h4 h5)⟩
        unfold stepF
        by_cases h0 : feq s 0 = true
        · rw [if_pos h0]
          rw [h0] at hz
          have hz := of_decide_eq_true hz.symm
          by_cases hu : 0 < e
          · rw [decide_eq_true hu, if_pos rfl]
            refine key 1 (by decide) (by decide) (fun _ => ?_) (fun h => by omega)
            unfold pl01 sgbB
            rcases hz with rfl | rfl <;> decide
          · rw [decide_eq_false hu, if_neg (by decide)]
            refine key 9223372036854775809 (by decide) (by decide) (fun h => absurd h hu) (fun _ => ?_)
            unfold pl01 sgbB
            rcases hz with rfl | rfl <;> decide
        · rw [if_neg h0]
          have h00 : feq s 0 = false := by simpa using h0
          rw [h00] at hz
          have hz := of_decide_eq_false hz.symm
          by_cases hs : 9223372036854775808 ≤ s
          · have f1 : fgt s 0 = false := by
              cases h : fgt s 0
              · rfl
              · have := s1.1 h; omega
            rw [f1]
            by_cases hu : 0 < e
            · rw [decide_eq_true hu, if_neg (by decide)]
              refine key (s - 1) (by omega) (by omega) (fun _ => ?_) (fun h => by omega)
              unfold pl01 sgbB
              rw [decide_eq_true hs, decide_eq_true (by omega), if_pos rfl, if_pos rfl]
              omega
            · rw [decide_eq_false hu, if_pos rfl]
              refine key (s + 1) (by omega) (by omega) (fun h => absurd h hu) (fun _ => ?_)
              unfold pl01 sgbB
              rw [decide_eq_true hs, decide_eq_true (by omega), if_pos rfl, if_pos rfl]
              omega
          · have f1 : fgt s 0 = true := s1.2 ⟨by omega, by omega⟩
            rw [f1]
            by_cases hu : 0 < e
            · rw [decide_eq_true hu, if_pos rfl]
              refine key (s + 1) (by omega) (by omega) (fun _ => ?_) (fun h => by omega)
              unfold pl01 sgbB
              rw [decide_eq_false hs, decide_eq_false (by omega), if_neg (by decide), if_neg (by decide)]
              omega
            · rw [decide_eq_false hu, if_neg (by decide)]
              refine key (s - 1) (by omega) (by omega) (fun h => absurd h hu) (fun _ => ?_)
              unfold pl01 sgbB
              rw [decide_eq_false hs, decide_eq_false (by omega), if_neg (by decide), if_neg (by decide)]
              omega
      refine ⟨hst.1, fun hm => ?_, fun hm => ?_⟩
      · have := hst.2.2 (by omega)
        exact ⟨this, fun h => by
          rcases h with h | h
          · omega
          · exact absurd h hi⟩
      · have := hst.2.1 (by omega)
        exact ⟨this, fun h => by
          rcases h with h | h
          · omega
          · exact absurd h hi⟩
    · rw [if_neg hgo]
      refine ⟨h, fun hm => ⟨Int.le_refl _, fun h => ?_⟩, fun hm => ⟨Int.le_refl _, fun h => ?_⟩⟩
      · rcases h with h | h
        · exact h
        · exact absurd h hi
      · rcases h with h | h
        · exact h
        · exact absurd h hi

end Go.Proofs.YtkfhbnfoiicioaaGreatDoor

/- what a member bears: quotients and sums of ends, right spans; both sides' Stress answer alike -/
namespace Go.Proofs.YtkfhbnfoiicioaaGreatDoor
open Ieee Go.RowKit Go.Sort

theorem bigI_N : bigI = (bigN : Int) := fk_pinf.2
theorem bigI_pos : 0 < bigI := by rw [bigI_N]; exact bigN_pos
theorem inf_word {u : Nat} (h : NumB u) (hf : finB u = false) : u = 9218868437227405312 ∨ u = 18442240474082181120 := by
  have hle := num_le h.nn
  have hlt := h.lt
  have : ¬ u % 9223372036854775808 < 9218868437227405312 := of_decide_eq_false hf
  omega
theorem inf_num2 (s : Bool) : NumB (Ieee.double.write (.infinity s)) := by
  cases s
  · exact ⟨by decide, by decide⟩
  · exact ⟨by decide, by decide⟩
theorem quo_num {x b : Nat} (hx : NumB x) (hb : finB b = true) (hz : b % 9223372036854775808 ≠ 0) : ∃ q, floatBits .quo .f64 x b = some q ∧ NumB q := by
  cases hf : finB x
  · obtain ⟨t, n, h2, _⟩ := fin_parts2 hb
    have key : ∀ s, Ieee.double.read x = .infinity s → ∃ q, floatBits .quo .f64 x b = some q ∧ NumB q := by
      intro s h1
      have h : floatBits .quo .f64 x b = ((Ieee.double.read x).quotient (Ieee.double.fractionBits + 2) (Ieee.double.read b)).map Ieee.double.write := rfl
      rw [h, h1, h2]
      exact ⟨_, rfl, inf_num2 _⟩
    rcases inf_word hx hf with rfl | rfl
    · exact key false (by decide)
    · exact key true (by decide)
  · obtain ⟨q, h1, h2, h3⟩ := quo_fin hf hb hz
    exact ⟨q, h1, h3, h2⟩
theorem quo_zero {x b q : Nat} (hx : feq x 0 = true) (lx : x < 18446744073709551616) (hb : finB b = true) (hz : b % 9223372036854775808 ≠ 0) (hr : floatBits .quo .f64 x b = some q) : fk q = 0 := by
  have hx0 := zero_word lx hx
  obtain ⟨t, n, h2, _, _, _, h3⟩ := fin_parts2 hb
  have key : ∀ s, Ieee.double.read x = .number s 0 (-1074) → fk q = 0 := by
    intro s h1
    obtain ⟨r, hr2⟩ := quo_parts h1 h2 (fun h => hz (h3 h))
    rw [hr] at hr2
    injection hr2 with hr2
    have e0 : 2 * ((0 <<< (54 + n.log2 - (0 : Nat).log2)) / n) + ((0 <<< (54 + n.log2 - (0 : Nat).log2)) % n != 0).toNat = 0 := by
      rw [Nat.zero_shiftLeft, Nat.zero_div, Nat.zero_mod]
      rfl
    rw [e0] at hr2
    obtain ⟨g, hg, hgl, hg0, _⟩ := nearest_word r 0 (-1074 - plc b - ((54 + n.log2 - (0 : Nat).log2 : Nat) : Int) - 1)
    rw [hr2, hg]
    exact (word_sign r hgl).2.1 (hg0 rfl)
  rcases hx0 with rfl | rfl
  · exact key false (by decide)
  · exact key true (by decide)
/-- a number from 2^-60 to 2^60 -/
theorem numB_parts {b : Nat} (hb : b < 18446744073709551616) (h : numB b = true) : finB b = true ∧ b % 9223372036854775808 ≠ 0 ∧ NumB b ∧ fle b 0 = false ∧ spB b b = true := by
  unfold numB at h
  rw [Bool.and_eq_true, Bool.or_eq_true] at h
  obtain ⟨h1, h2⟩ := h
  have k1 : fnan b = false ∧ fk 4336966441157787648 ≤ fk b := by
    rcases h1 with h | h
    · have := (fgt_iff _ _).1 h; exact ⟨this.1, by omega⟩
    · have := (feq_iff _ _).1 h; exact ⟨this.1, by omega⟩
  have k2 := ((fle_iff _ _).1 h2).2.2
  have p1 : 0 < fk 4336966441157787648 := by
    have := word_fk (Nat.zero_le _) (show 4336966441157787648 ≤ 9218868437227405312 by decide) (show 0 < 4336966441157787648 by decide)
    rw [fk_zero.2] at this
    exact this
  have p2 : fk 4877398396442247168 < bigI := word_fk (by decide) (by decide) (by decide)
  have hn : NumB b := ⟨hb, k1.1⟩
  have hfin : finB b = true := by
    cases hf : finB b
    · rcases inf_word hn hf with rfl | rfl
      · have e : fk 9218868437227405312 = bigI := rfl
        rw [e] at k2
        omega
      · rw [fk_minf] at k1
        have e : fk 9218868437227405312 = bigI := rfl
        rw [e] at k1
        have := bigI_pos
        omega
    · rfl
  refine ⟨hfin, fun h0 => ?_, hn, ?_, ?_⟩
  · have hs := fk_sg hn.lt hn.nn
    rw [h0, fk_zero.2] at hs
    have : fk b = 0 := by rw [hs]; split <;> rfl
    omega
  · cases hl : fle b 0
    · rfl
    · have := ((fle_iff _ _).1 hl).2.2
      rw [fk_zero.2] at this
      omega
  · rw [sp_iff hn hn]
    have := bigI_pos
    exact ⟨Int.le_refl _, by omega, by omega⟩
/-- a quotient's two ends -/
theorem div_num {x b q : Nat} (hx : NumB x) (hb : b < 18446744073709551616) (hnb : numB b = true) (hr : floatBits .quo .f64 x b = some q) (hq : NumB q) (m : Int) :
    NumB (divX x b m q) ∧ (m = 1 → fk (divX x b m q) ≤ fk q ∧ (fk x < bigI → fk (divX x b m q) < bigI)) ∧ (m = 2 → fk q ≤ fk (divX x b m q) ∧ (-bigI < fk x → -bigI < fk (divX x b m q))) := by
  obtain ⟨fb, zb, nb, lb, _⟩ := numB_parts hb hnb
  have hpos := bigI_pos
  have hbz : feq b 0 = false := by
    cases h : feq b 0
    · rfl
    · have := zero_word hb h
      omega
  unfold divX
  by_cases c1 : (finB x && finB b) = false ∨ feq x 0 = true ∨ feq b 0 = true
  · rw [if_pos c1]
    have hkq : fk x < bigI → fk q < bigI := fun h => by
      rcases c1 with c | c | c
      · rw [fb, Bool.and_true] at c
        rcases inf_word hx c with rfl | rfl
        · exact absurd h (Int.lt_irrefl _)
        · obtain ⟨t, n, h2, _⟩ := fin_parts2 fb
          have hs : Ieee.double.read b = .number false n (plc b) := by
            have e : t = false := by
              cases t
              · rfl
              · exfalso
                have h5 := fk_parts h2
                have h6 : fle b 0 = true := (fle_iff _ _).2 ⟨nb.nn, fk_zero.1, by
                  rw [h5, fk_zero.2]
                  unfold signed
                  simp only [if_true]
                  generalize n <<< (plc b + 1074).toNat = k
                  omega⟩
                rw [lb] at h6
                cases h6
            rw [← e]
            exact h2
          have h : floatBits .quo .f64 18442240474082181120 b = ((Ieee.double.read 18442240474082181120).quotient (Ieee.double.fractionBits + 2) (Ieee.double.read b)).map Ieee.double.write := rfl
          rw [h, show Ieee.double.read 18442240474082181120 = .infinity true by decide, hs] at hr
          have h7 : q = 18442240474082181120 := by
            have h8 : some (Ieee.double.write (.infinity (true ^^ false))) = some q := hr
            injection h8 with h8
            rw [← h8]
            decide
          rw [h7, fk_minf]
          have e : fk 9218868437227405312 = bigI := rfl
          rw [e]
          omega
      · rw [quo_zero c hx.lt fb zb hr]; exact hpos
      · rw [hbz] at c; cases c
    have hkq2 : -bigI < fk x → -bigI < fk q := fun h => by
      rcases c1 with c | c | c
      · rw [fb, Bool.and_true] at c
        rcases inf_word hx c with rfl | rfl
        · obtain ⟨t, n, h2, _⟩ := fin_parts2 fb
          have hs : Ieee.double.read b = .number false n (plc b) := by
            have e : t = false := by
              cases t
              · rfl
              · exfalso
                have h5 := fk_parts h2
                have h6 : fle b 0 = true := (fle_iff _ _).2 ⟨nb.nn, fk_zero.1, by
                  rw [h5, fk_zero.2]
                  unfold signed
                  simp only [if_true]
                  generalize n <<< (plc b + 1074).toNat = k
                  omega⟩
                rw [lb] at h6
                cases h6
            rw [← e]
            exact h2
          have h : floatBits .quo .f64 9218868437227405312 b = ((Ieee.double.read 9218868437227405312).quotient (Ieee.double.fractionBits + 2) (Ieee.double.read b)).map Ieee.double.write := rfl
          rw [h, show Ieee.double.read 9218868437227405312 = .infinity false by decide, hs] at hr
          have h7 : q = 9218868437227405312 := by
            have h8 : some (Ieee.double.write (.infinity (false ^^ false))) = some q := hr
            injection h8 with h8
            rw [← h8]
            decide
          rw [h7]
          have e : fk 9218868437227405312 = bigI := rfl
          rw [e]
          omega
        · rw [fk_minf] at h
          exact absurd h (Int.lt_irrefl _)
      · rw [quo_zero c hx.lt fb zb hr]; omega
      · rw [hbz] at c; cases c
    exact ⟨hq, fun _ => ⟨Int.le_refl _, hkq⟩, fun _ => ⟨Int.le_refl _, hkq2⟩⟩
  · rw [if_neg c1]
    have hfin : infB q = false → -bigI < fk q ∧ fk q < bigI := fun h => by
      have hf := fin_inf hq.nn
      rw [h] at hf
      have := fk_fin (u := q) (by simpa using hf.symm)
      rw [bigI_N]
      exact ⟨this.2.1, this.2.2⟩
    by_cases c2 : infB q = true
    · rw [if_pos c2]
      obtain ⟨s1, s2, s3⟩ := set_num (e := 0) (m := m) hq
      exact ⟨s1, fun h => ⟨(s2 h).1, fun _ => (s2 h).2 (.inr c2)⟩, fun h => ⟨(s3 h).1, fun _ => (s3 h).2 (.inr c2)⟩⟩
    · rw [if_neg c2]
      have hf := hfin (by simpa using c2)
      obtain ⟨s1, s2, s3⟩ := set_num (e := exS x b q * sgF b) (m := m) hq
      exact ⟨s1, fun h => ⟨(s2 h).1, fun _ => (s2 h).2 (.inl hf.2)⟩, fun h => ⟨(s3 h).1, fun _ => (s3 h).2 (.inl hf.1)⟩⟩
/-- a sum of ends -/
theorem add_num {x y : Nat} (hx : NumB x) (hy : NumB y) (h : (fk x < bigI ∧ fk y < bigI) ∨ (-bigI < fk x ∧ -bigI < fk y)) : ∃ s, floatBits .add .f64 x y = some s ∧ NumB s := by
  have hadd : floatBits .add .f64 x y = ((Ieee.double.read x).sum (Ieee.double.read y)).map Ieee.double.write := rfl
  have hpos := bigI_pos
  have eI : fk 9218868437227405312 = bigI := rfl
  cases fx : finB x
  · cases fy : finB y
    · rcases inf_word hx fx with rfl | rfl <;> rcases inf_word hy fy with rfl | rfl
      · exact ⟨9218868437227405312, by decide +kernel, by decide, by decide⟩
      · exfalso; rw [fk_minf, eI] at h; omega
      · exfalso; rw [fk_minf, eI] at h; omega
      · exact ⟨18442240474082181120, by decide +kernel, by decide, by decide⟩
    · obtain ⟨t, n, h2, _⟩ := fin_parts2 fy
      rw [hadd, h2]
      rcases inf_word hx fx with rfl | rfl
      · rw [show Ieee.double.read 9218868437227405312 = .infinity false by decide]
        exact ⟨_, rfl, inf_num2 _⟩
      · rw [show Ieee.double.read 18442240474082181120 = .infinity true by decide]
        exact ⟨_, rfl, inf_num2 _⟩
  · obtain ⟨s, m, h1, _⟩ := fin_parts2 fx
    cases fy : finB y
    · rw [hadd, h1]
      rcases inf_word hy fy with rfl | rfl
      · rw [show Ieee.double.read 9218868437227405312 = .infinity false by decide]
        exact ⟨_, rfl, inf_num2 _⟩
      · rw [show Ieee.double.read 18442240474082181120 = .infinity true by decide]
        exact ⟨_, rfl, inf_num2 _⟩
    · obtain ⟨t, n, h2, _⟩ := fin_parts2 fy
      rw [hadd, h1, h2]
      exact ⟨_, rfl, nearest_lt _ _ _, nearest_num _ _ _⟩

/-- a right span of numbers -/
structure SpOk (x : Spn) : Prop where
  lo : NumB x.lo
  hi : NumB x.hi
  le : fk x.lo ≤ fk x.hi
  ltI : fk x.lo < bigI
  gtI : -bigI < fk x.hi
theorem SpOk.ok {x : Spn} (h : SpOk x) : x.ok = true := (sp_iff h.lo h.hi).2 ⟨h.le, h.ltI, h.gtI⟩
theorem spOk_of {x : Spn} (h1 : x.lo < 18446744073709551616) (h2 : x.hi < 18446744073709551616) (h : x.ok = true) : SpOk x := by
  have hn := spB_num (show spB x.lo x.hi = true from h)
  have a : NumB x.lo := ⟨h1, hn.1⟩
  have b : NumB x.hi := ⟨h2, hn.2⟩
  obtain ⟨k1, k2, k3⟩ := (sp_iff a b).1 h
  exact ⟨a, b, k1, k2, k3⟩
theorem abs_num {u : Nat} (h : NumB u) : NumB (absF u) ∧ 0 ≤ fk (absF u) := by
  have hle := num_le h.nn
  have e : absF u = u % 9223372036854775808 := rfl
  rw [e]
  exact ⟨⟨by omega, word_nan hle⟩, fk_word0 hle⟩
theorem absS_ok {x : Spn} (h : SpOk x) : SpOk (absS x) := by
  have hpos := bigI_pos
  unfold absS
  split
  · exact h
  · split
    · obtain ⟨a1, a2⟩ := neg_num h.lo
      obtain ⟨b1, b2⟩ := neg_num h.hi
      have k1 := h.le
      have k2 := h.ltI
      have k3 := h.gtI
      exact ⟨b1, a1, by simp only; omega, by simp only; omega, by simp only; omega⟩
    · obtain ⟨a1, a2⟩ := abs_num h.lo
      obtain ⟨b1, b2⟩ := abs_num h.hi
      have hm : NumB (max (absF x.lo) (absF x.hi)) ∧ 0 ≤ fk (max (absF x.lo) (absF x.hi)) := by
        rcases Nat.le_total (absF x.lo) (absF x.hi) with h1 | h1
        · rw [Nat.max_eq_right h1]; exact ⟨b1, b2⟩
        · rw [Nat.max_eq_left h1]; exact ⟨a1, a2⟩
      refine ⟨⟨by show (0 : Nat) < 18446744073709551616; decide, fk_zero.1⟩, hm.1, ?_, ?_, ?_⟩
      · show fk 0 ≤ fk (max (absF x.lo) (absF x.hi))
        rw [fk_zero.2]; exact hm.2
      · show fk 0 < bigI
        rw [fk_zero.2]; exact hpos
      · show -bigI < fk (max (absF x.lo) (absF x.hi))
        have := hm.2
        omega
theorem greS_ok {a b : Spn} (ha : SpOk a) (hb : SpOk b) : SpOk (greS a b) := by
  obtain ⟨l1, l2, l3⟩ := gre_ge ha.lo hb.lo
  obtain ⟨h1, h2, h3⟩ := gre_ge ha.hi hb.hi
  have k1 := ha.le
  have k2 := hb.le
  have k3 := ha.gtI
  have k4 := ha.ltI
  have k5 := hb.ltI
  refine ⟨l1, h1, ?_, ?_, ?_⟩
  · show fk (greF a.lo b.lo) ≤ fk (greF a.hi b.hi)
    rcases greF_or a.lo b.lo with h | h <;> rw [h] <;> omega
  · show fk (greF a.lo b.lo) < bigI
    rcases greF_or a.lo b.lo with h | h <;> rw [h] <;> omega
  · show -bigI < fk (greF a.hi b.hi)
    omega
def quoF (x y : Nat) : Nat := (floatBits .quo .f64 x y).getD 0
def DX (x y : Nat) (m : Int) : Nat := divX x y m (quoF x y)
theorem quoF_of {x b : Nat} (hx : NumB x) (hb : b < 18446744073709551616) (hnb : numB b = true) : floatBits .quo .f64 x b = some (quoF x b) ∧ NumB (quoF x b) := by
  obtain ⟨fb, zb, _⟩ := numB_parts hb hnb
  obtain ⟨q, h1, h2⟩ := quo_num hx fb zb
  have e : quoF x b = q := by unfold quoF; rw [h1]; rfl
  rw [e]
  exact ⟨h1, h2⟩
theorem DX_num {x b : Nat} (hx : NumB x) (hb : b < 18446744073709551616) (hnb : numB b = true) : NumB (DX x b 1) ∧ NumB (DX x b 2) ∧ fk (DX x b 1) ≤ fk (DX x b 2) ∧ (fk x < bigI → fk (DX x b 1) < bigI) ∧ (-bigI < fk x → -bigI < fk (DX x b 2)) := by
  obtain ⟨h1, h2⟩ := quoF_of hx hb hnb
  obtain ⟨a1, a2, _⟩ := div_num hx hb hnb h1 h2 1
  obtain ⟨b1, _, b3⟩ := div_num hx hb hnb h1 h2 2
  have c1 := a2 rfl
  have c2 := b3 rfl
  exact ⟨a1, b1, Int.le_trans c1.1 c2.1, c1.2, c2.2⟩
theorem corS_ok {x : Spn} {b : Nat} (h : SpOk x) (hb : b < 18446744073709551616) (hnb : numB b = true) : SpOk (corS x ⟨b, b⟩ DX) := by
  obtain ⟨p1, p2, p3, p4, p5⟩ := DX_num h.lo hb hnb
  obtain ⟨q1, q2, q3, q4, q5⟩ := DX_num h.hi hb hnb
  have el : (corS x ⟨b, b⟩ DX).lo = lesF (lesF (lesF (DX x.lo b 1) (DX x.lo b 1)) (DX x.hi b 1)) (DX x.hi b 1) := rfl
  have eh : (corS x ⟨b, b⟩ DX).hi = greF (greF (greF (DX x.lo b 2) (DX x.lo b 2)) (DX x.hi b 2)) (DX x.hi b 2) := rfl
  obtain ⟨l1, l2, _⟩ := les_le p1 p1
  obtain ⟨l3, l4, _⟩ := les_le l1 q1
  obtain ⟨l5, l6, l7⟩ := les_le l3 q1
  obtain ⟨g1, g2, _⟩ := gre_ge p2 p2
  obtain ⟨g3, g4, _⟩ := gre_ge g1 q2
  obtain ⟨g5, g6, g7⟩ := gre_ge g3 q2
  rw [← el] at l5 l6 l7
  rw [← eh] at g5 g6 g7
  have k4 := p4 h.ltI
  have k5 := q5 h.gtI
  exact ⟨l5, g5, by omega, by omega, by omega⟩

end Go.Proofs.YtkfhbnfoiicioaaGreatDoor

/- check.Under, check.Whole: the walks -/
namespace Go.Proofs.YtkfhbnfoiicioaaGreatDoor
open Go.RowKit Go.Sort

theorem under_chk (x : Spn) (most : Nat) (w : World) : Calls Tryz.prog 13 #[x.val, .float .f64 most] w fun e w' => e = .returned (.int .i8 (underI x.lo x.hi most)) ∧ Below w.heap.size w w' := by
  have I1 := Lib.hid (fun w => right_any x w)
  unfold underI
  obtain ⟨lo, hi⟩ := x
  simp only at I1 ⊢
  obtain ⟨b1, h1⟩ : ∃ b, spB lo hi = b := ⟨_, rfl⟩
  obtain ⟨b2, h2⟩ : ∃ b, feq most most = b := ⟨_, rfl⟩
  obtain ⟨b3, h3⟩ : ∃ b, fle hi most = b := ⟨_, rfl⟩
  obtain ⟨b4, h4⟩ : ∃ b, fgt lo most = b := ⟨_, rfl⟩
  rw [h1] at I1
  rw [h1, h2, h3, h4]
  have h2' : (FloatKind.f64.format.order most most != some .eq) = !b2 := by rw [← h2]; rfl
  unfold fle at h3
  unfold fgt at h4
  obtain ⟨w0, hw0⟩ : ∃ w0, w0 = w.alloc (.cells #[.float .f64 lo, .float .f64 hi] 24) := ⟨_, rfl⟩
  have hb0 : Below w.heap.size w w0 := by rw [hw0]; exact below1 ..
  have K1 := Lib.hid (BxS.of_blk (s := ⟨lo, hi⟩) (show w0.heap[w.heap.size]? = some (.cells #[.float .f64 lo, .float .f64 hi] 24 (0, 0)) by rw [hw0]; exact blk_new ..))
  have HB0 := Lib.hid hb0
  have HW0 := Lib.hid hw0
  clear h1 h2 hw0 hb0
  cases b1
  · rw [if_pos (by rfl)]
    go_enter Tryz.func13, Tryz.ntmps13
    go_wp2_with fail
    rw [← HW0.out]
    refine (I1.out w0).mono ?_
    rintro e w1 ⟨rfl, hb1⟩
    have HB1 := Lib.hid (HB0.out.trans (hb1.mono HB0.out.size))
    clear hb1
    go_wp2_with fail
    go_ret
    exact ⟨rfl, HB1.out⟩
  · cases b2
    · rw [if_pos (by rfl)]
      simp only [Bool.not_false] at h2'
      go_enter Tryz.func13, Tryz.ntmps13
      go_wp2_with fail
      rw [← HW0.out]
      refine (I1.out w0).mono ?_
      rintro e w1 ⟨rfl, hb1⟩
      have HB1 := Lib.hid (HB0.out.trans (hb1.mono HB0.out.size))
      clear hb1
      go_wp2_with fail
      go_ret
      exact ⟨rfl, HB1.out⟩
    · rw [if_neg (by decide)]
      simp only [Bool.not_true] at h2'
      cases b3
      · rw [if_neg (by decide)]
        cases b4
        · rw [if_neg (by decide)]
          go_enter Tryz.func13, Tryz.ntmps13
          go_wp2_with fail
          rw [← HW0.out]
          refine (I1.out w0).mono ?_
          rintro e w1 ⟨rfl, hb1⟩
          have HB1 := Lib.hid (HB0.out.trans (hb1.mono HB0.out.size))
          obtain ⟨k0, k1⟩ := K1.out.below hb1
          simp only at k0 k1
          clear hb1
          go_wp2_with fail
          go_ret
          exact ⟨rfl, HB1.out⟩
        · rw [if_pos rfl]
          go_enter Tryz.func13, Tryz.ntmps13
          go_wp2_with fail
          rw [← HW0.out]
          refine (I1.out w0).mono ?_
          rintro e w1 ⟨rfl, hb1⟩
          have HB1 := Lib.hid (HB0.out.trans (hb1.mono HB0.out.size))
          obtain ⟨k0, k1⟩ := K1.out.below hb1
          simp only at k0 k1
          clear hb1
          go_wp2_with fail
          go_ret
          exact ⟨rfl, HB1.out⟩
      · rw [if_pos rfl]
        go_enter Tryz.func13, Tryz.ntmps13
        go_wp2_with fail
        rw [← HW0.out]
        refine (I1.out w0).mono ?_
        rintro e w1 ⟨rfl, hb1⟩
        have HB1 := Lib.hid (HB0.out.trans (hb1.mono HB0.out.size))
        obtain ⟨k0, k1⟩ := K1.out.below hb1
        simp only at k0 k1
        clear hb1
        go_wp2_with fail
        go_ret
        exact ⟨rfl, HB1.out⟩
/-- a verdict -/
structure Vd where
  joint : Bool
  for_ : Int
  is_ : Int
  lo : Nat
  hi : Nat
  of_ : Int
def Vd.cells (x : Vd) : List Value := [.bool x.joint, .int .i64 x.for_, .int .i8 x.is_, .float .f64 x.lo, .float .f64 x.hi, .int .i64 x.of_]
theorem Vd.clen (x : Vd) : x.cells.length = 6 := rfl
def Vd.no (x : Vd) : Bool := x.is_ == 2
def Vd.yes (x : Vd) : Bool := x.is_ == 1
def wholeI (xs : List Vd) : Int := if xs.any Vd.no = true then 2 else if xs.all Vd.yes = true then 1 else 0
def yesI (b : Bool) : Int := if b = true then 1 else 0
theorem take_anyV {p : Vd → Bool} {xs : List Vd} {k : Nat} {x : Vd} (h : (xs.take k).any p = false) (hx : xs[k]? = some x) (hp : p x = false) : (xs.take (k + 1)).any p = false := by
  obtain ⟨hl, e⟩ := List.getElem?_eq_some_iff.1 hx
  rw [List.take_succ_eq_append_getElem hl, List.any_append, h, e]
  simp [hp]
theorem take_allV {p : Vd → Bool} {xs : List Vd} {k : Nat} {x : Vd} (hx : xs[k]? = some x) : (xs.take (k + 1)).all p = ((xs.take k).all p && p x) := by
  obtain ⟨hl, e⟩ := List.getElem?_eq_some_iff.1 hx
  rw [List.take_succ_eq_append_getElem hl, List.all_append, e]
  simp
set_option maxRecDepth 100000 in
set_option maxHeartbeats 4000000 in
theorem whole_any (A : Option Addr) (n c : Nat) (xs : List Vd) (S : Nat → Prop) (w : World) (hx : RdE Vd.cells 6 w S A n xs) (hS : ∀ b, S b → b < w.heap.size) (hn : n ≤ 1000000000000000) :
    Calls Tryz.prog 10 #[.slice A n c] w fun e w' => e = .returned (.int .i8 (wholeI xs)) ∧ Below w.heap.size w w' := by
  obtain ⟨r, hr⟩ : ∃ r, r = wholeI xs := ⟨_, rfl⟩
  rw [← hr]
  have HR := Lib.hid hr
  have HX := Lib.hid hx
  have HS := Lib.hid hS
  clear hr hx hS
  go_enter Tryz.func10, Tryz.ntmps10
  go_wp2_with fail
  go_loopw [3, 8] (fun ov iv wr => ∃ k : Nat, k ≤ n ∧ iv = .int .i64 k ∧ ov = .int .i8 (yesI ((xs.take k).all Vd.yes)) ∧ (xs.take k).any Vd.no = false ∧ Below w.heap.size w wr) (fun _ iv _ => n - (intOf iv).toNat)
  case atStart => exact ⟨0, by omega, rfl, by simp [yesI], by simp, Below.refl _ _⟩
  case round =>
    obtain ⟨k, hk, rfl, rfl, hno, hbw⟩ := hrel
    have HN := Lib.hid hno
    have HBW := Lib.hid hbw
    obtain ⟨a, ha⟩ : ∃ a, a = (xs.take k).all Vd.yes := ⟨_, rfl⟩
    rw [← ha]
    have HA := Lib.hid ha
    clear hno ha
    by_cases hlt : k < n
    · obtain ⟨x, ex⟩ := get_some HX.out.num hlt
      obtain ⟨b, o, rfl, hSb, hc⟩ := HX.out.elem Vd.clen ex (by omega)
      have k0 : wr.cell? ⟨b, o + k * 6, none⟩ = some (.bool x.joint) := bat hbw (by have h := hc 0 _ rfl; simpa using h)
      have k1 : wr.cell? ⟨b, o + k * 6 + 1, none⟩ = some (.int .i64 x.for_) := bat hbw (hc 1 _ rfl)
      have k2 : wr.cell? ⟨b, o + k * 6 + 2, none⟩ = some (.int .i8 x.is_) := bat hbw (hc 2 _ rfl)
      have k3 : wr.cell? ⟨b, o + k * 6 + 3, none⟩ = some (.float .f64 x.lo) := bat hbw (hc 3 _ rfl)
      have k4 : wr.cell? ⟨b, o + k * 6 + 4, none⟩ = some (.float .f64 x.hi) := bat hbw (hc 4 _ rfl)
      have k5 : wr.cell? ⟨b, o + k * 6 + 5, none⟩ = some (.int .i64 x.of_) := bat hbw (hc 5 _ rfl)
      have HEX := Lib.hid ex
      obtain ⟨w1, hw1⟩ : ∃ w1, w1 = wr.alloc (.cells #[.bool x.joint, .int .i64 x.for_, .int .i8 x.is_, .float .f64 x.lo, .float .f64 x.hi, .int .i64 x.of_] 42) := ⟨_, rfl⟩
      have hb1 : Below wr.heap.size wr w1 := by rw [hw1]; exact below1 ..
      have HB1 := Lib.hid (HBW.out.trans (hb1.mono HBW.out.size))
      have HW1 := Lib.hid hw1
      have eyes : Vd.yes x = (x.is_ == 1) := rfl
      have eno : Vd.no x = (x.is_ == 2) := rfl
      have HEY := Lib.hid eyes
      have HEN := Lib.hid eno
      clear hc ex hbw hw1 hb1 eyes eno
      cases h2 : (x.is_ == 2)
      · have hno2 : (xs.take (k + 1)).any Vd.no = false := take_anyV HN.out HEX.out (by rw [HEN.out, h2])
        have HN2 := Lib.hid hno2
        cases h1 : (x.is_ == 1)
        · have hyes : (xs.take (k + 1)).all Vd.yes = false := by rw [take_allV HEX.out, HEY.out, h1, Bool.and_false]
          have HY := Lib.hid hyes
          clear hyes hno2
          go_wp2_with fail
          rw [← HW1.out]
          go_roundw
          case rel => exact ⟨k + 1, by omega, by go_num, by rw [HY.out]; rfl, HN2.out, HB1.out⟩
          case measure => simp [intOf]; omega
        · have hyes : (xs.take (k + 1)).all Vd.yes = a := by rw [take_allV HEX.out, HEY.out, h1, Bool.and_true, HA.out]
          have HY := Lib.hid hyes
          clear hyes hno2
          go_wp2_with fail
          rw [← HW1.out]
          go_roundw
          case rel => exact ⟨k + 1, by omega, by go_num, by rw [HY.out], HN2.out, HB1.out⟩
          case measure => simp [intOf]; omega
      · have hany : xs.any Vd.no = true := by rw [List.any_eq_true]; exact ⟨x, List.mem_of_getElem? HEX.out, by rw [HEN.out, h2]⟩
        have HAN := Lib.hid hany
        clear hany
        go_wp2_with fail
        rw [← HW1.out]
        go_ret
        exact ⟨by rw [HR.out]; unfold wholeI; rw [if_pos HAN.out]; rfl, HB1.out⟩
    · obtain rfl : k = n := by omega
      clear hbw
      go_wp2_with fail
      go_ret
      refine ⟨?_, HBW.out⟩
      have h1 := HN.out
      have h2 := HA.out
      rw [List.take_of_length_le (by rw [HX.out.num]; exact Nat.le_refl _)] at h1 h2
      rw [HR.out]
      unfold wholeI
      rw [h1, ← h2, if_neg (by decide)]
      rfl

end Go.Proofs.YtkfhbnfoiicioaaGreatDoor

/- girderlaw29.awake: the walk -/
namespace Go.Proofs.YtkfhbnfoiicioaaGreatDoor
open Go.RowKit Go.Sort

def divD (x y : Nat) (m : Int) : Nat := divF x y m ((floatBits .quo .f64 x y).getD 0) 0
theorem divC_easy {x y q : Nat} (hx : x < 18446744073709551616) (hy : y < 18446744073709551616) (hq : q < 18446744073709551616) (hr : floatBits .quo .f64 x y = some q) (hn : fnan q = false) (hp : (plB x && (plB y && plB q)) = true) (hf : ∃ r, FloatKind.f64.format.fma (negF q) y x = some r)
    (n1 : fnan (divD x y 1) = false) (n2 : fnan (divD x y 2) = false) (l1 : divD x y 1 < 18446744073709551616) (l2 : divD x y 2 < 18446744073709551616) : DivC x y divD := by
  have e : (floatBits .quo .f64 x y).getD 0 = q := by rw [hr]; rfl
  refine ⟨fun w hL => div1_any x y _ 1 (fun w _ => ?_) n1 w hL, fun w hL => div1_any x y _ 2 (fun w _ => ?_) n2 w hL, l1, l2⟩
  · have h := div_easy x y q 1 0 w hx hy hq hr hn (.inl rfl) (fun _ => hf) (.inr (.inr (.inr (.inl hp))))
    unfold divD
    rw [e]
    exact h
  · have h := div_easy x y q 2 0 w hx hy hq hr hn (.inr rfl) (fun _ => hf) (.inr (.inr (.inr (.inl hp))))
    unfold divD
    rw [e]
    exact h
theorem spn_eq {x : Spn} {a b : Nat} (h1 : x.lo = a) (h2 : x.hi = b) : x = ⟨a, b⟩ := by cases x; simp only at h1 h2; rw [h1, h2]
theorem d62 : DivC 4618441417868443648 4611686018427387904 divD :=
  divC_easy (q := 4613937818241073152) (by decide) (by decide) (by decide) (by decide +kernel) (by decide +kernel) (by decide +kernel) ⟨0, by decide +kernel⟩ (by decide +kernel) (by decide +kernel) (by decide +kernel) (by decide +kernel)
theorem d11 : DivC 4607182418800017408 4607182418800017408 divD :=
  divC_easy (q := 4607182418800017408) (by decide) (by decide) (by decide) (by decide +kernel) (by decide +kernel) (by decide +kernel) ⟨0, by decide +kernel⟩ (by decide +kernel) (by decide +kernel) (by decide +kernel) (by decide +kernel)
theorem d31 : DivC 4613937818241073152 4607182418800017408 divD :=
  divC_easy (q := 4613937818241073152) (by decide) (by decide) (by decide) (by decide +kernel) (by decide +kernel) (by decide +kernel) ⟨0, by decide +kernel⟩ (by decide +kernel) (by decide +kernel) (by decide +kernel) (by decide +kernel)
theorem a31 : AddC 4613937818241073152 4607182418800017408 1 4616189618054758400 := fun w => by
  have h := add_any 4613937818241073152 4607182418800017408 4616189618054758400 1 w (by decide) (by decide) (by decide) (by decide +kernel) (by decide +kernel) (.inl rfl)
  rwa [show addF 4613937818241073152 4607182418800017408 1 4616189618054758400 = 4616189618054758400 by decide +kernel] at h
theorem a33 : AddC 4613937818241073152 4613937818241073152 2 4618441417868443648 := fun w => by
  have h := add_any 4613937818241073152 4613937818241073152 4618441417868443648 2 w (by decide) (by decide) (by decide) (by decide +kernel) (by decide +kernel) (.inr rfl)
  rwa [show addF 4613937818241073152 4613937818241073152 2 4618441417868443648 = 4618441417868443648 by decide +kernel] at h
theorem stress1 (w : World) (hL : Laid w) : Calls Tryz.prog 6 #[.agg #[.float .f64 13841813454723219456, .float .f64 13841813454723219456, .float .f64 4607182418800017408, .float .f64 4611686018427387904, .float .f64 13837309855095848960, .float .f64 0], .float .f64 4611686018427387904, .float .f64 4607182418800017408] w fun e w' => e = .returned (.tuple #[.agg #[.float .f64 4616189618054758400, .float .f64 4618441417868443648], .int .i64 0]) ∧ Below w.heap.size w w' := by
  have e1 : absS ⟨13841813454723219456, 13841813454723219456⟩ = ⟨4618441417868443648, 4618441417868443648⟩ := spn_eq (by decide +kernel) (by decide +kernel)
  have e2 : greS (absS ⟨4607182418800017408, 4611686018427387904⟩) (absS ⟨13837309855095848960, 0⟩) = ⟨4607182418800017408, 4613937818241073152⟩ := spn_eq (by decide +kernel) (by decide +kernel)
  have e3 : corS ⟨4618441417868443648, 4618441417868443648⟩ ⟨4611686018427387904, 4611686018427387904⟩ divD = ⟨4613937818241073152, 4613937818241073152⟩ := spn_eq (by decide +kernel) (by decide +kernel)
  have e4 : corS ⟨4607182418800017408, 4613937818241073152⟩ ⟨4607182418800017408, 4607182418800017408⟩ divD = ⟨4607182418800017408, 4613937818241073152⟩ := spn_eq (by decide +kernel) (by decide +kernel)
  refine stress_ok ⟨13841813454723219456, 13841813454723219456⟩ ⟨4607182418800017408, 4611686018427387904⟩ ⟨13837309855095848960, 0⟩ 4611686018427387904 4607182418800017408 divD _ _ w (by decide +kernel) (by decide) (by decide) (by decide)
    ?_ ?_ ?_ ?_ (by decide +kernel) (by decide +kernel) (by decide +kernel) (by decide +kernel) ?_ ?_ ?_ ?_ hL
  · rw [e1]; exact ⟨d62, d62, d62, d62⟩
  · rw [e2]; exact ⟨d11, d11, d31, d31⟩
  · rw [e1]; decide +kernel
  · rw [e2]; decide +kernel
  · rw [e1, e3]; decide +kernel
  · rw [e2, e4]; decide +kernel
  · rw [e1, e2, e3, e4]; exact a31
  · rw [e1, e2, e3, e4]; exact a33
theorem stress2 (w : World) : Calls Tryz.prog 6 #[.agg #[.float .f64 0, .float .f64 0, .float .f64 0, .float .f64 0, .float .f64 0, .float .f64 0], .float .f64 0, .float .f64 4607182418800017408] w fun e w' => e = .returned (.tuple #[.agg #[.float .f64 0, .float .f64 0], .int .i64 2]) ∧ Below w.heap.size w w' :=
  stress_bad ⟨0, 0⟩ ⟨0, 0⟩ ⟨0, 0⟩ 0 4607182418800017408 w (by decide +kernel)
theorem und (lo hi m : Nat) (k : Int) (h : underI lo hi m = k) (w : World) : Calls Tryz.prog 13 #[.agg #[.float .f64 lo, .float .f64 hi], .float .f64 m] w fun e w' => e = .returned (.int .i8 k) ∧ Below w.heap.size w w' := by
  have h2 := under_chk ⟨lo, hi⟩ m w
  simp only [h] at h2
  exact h2
set_option maxRecDepth 100000 in
set_option maxHeartbeats 4000000 in
theorem awake_law (w : World) (hL : Laid w) : Calls Tryz.prog 5 #[] w fun e w' => e = .returned (.bool true) ∧ Below w.heap.size w w' := by
  have S1 := Lib.hid stress1
  have S2 := Lib.hid stress2
  have U1 := Lib.hid (fun w => und 4607182418800017408 4611686018427387904 4611686018427387904 1 (by decide +kernel) w)
  have U2 := Lib.hid (fun w => und 4607182418800017408 4611686018427387904 4609434218613702656 0 (by decide +kernel) w)
  have U3 := Lib.hid (fun w => und 4607182418800017408 4611686018427387904 4602678819172646912 2 (by decide +kernel) w)
  have o4 : ∀ w, (Op.equalIn 9999 22 (.float .f64 4616189618054758400) (.float .f64 4616189618054758400)).run Tryz.prog w = .ok true w := fun _ => by kernel_rfl
  have o6 : ∀ w, (Op.equalIn 9999 22 (.float .f64 4618441417868443648) (.float .f64 4618441417868443648)).run Tryz.prog w = .ok true w := fun _ => by kernel_rfl
  obtain ⟨w1, hw1⟩ : ∃ w1, w1 = w.alloc (.cells #[.float .f64 4607182418800017408, .float .f64 4611686018427387904] 24) := ⟨_, rfl⟩
  have hb1 : Below w.heap.size w w1 := by rw [hw1]; exact below1 ..
  have X1 := Lib.hid (BxS.of_blk (s := ⟨4607182418800017408, 4611686018427387904⟩) (show w1.heap[w.heap.size]? = some (.cells #[.float .f64 4607182418800017408, .float .f64 4611686018427387904] 24 (0, 0)) by rw [hw1]; exact blk_new ..))
  have HB := Lib.hid hb1
  have HW1 := Lib.hid hw1
  have LW := Lib.hid (hL.below hb1)
  clear hw1 hb1 hL
  go_enter Tryz.func5, Tryz.ntmps5
  go_wp2_with fail
  rw [← HW1.out]
  refine (S1.out w1 LW.out).mono ?_
  rintro e w2 ⟨rfl, hb2⟩
  replace X1 := Lib.hid (X1.out.below hb2)
  replace HB := Lib.hid (HB.out.trans (hb2.mono HB.out.size))
  obtain ⟨w3, hw3⟩ : ∃ w3, w3 = w2.alloc (.cells #[.float .f64 4616189618054758400, .float .f64 4618441417868443648] 24) := ⟨_, rfl⟩
  obtain ⟨g2, hg2⟩ : ∃ g, g = w2.heap.size := ⟨_, rfl⟩
  have hb3 : Below w2.heap.size w2 w3 := by rw [hw3]; exact below1 ..
  have X2 := Lib.hid (BxS.of_blk (s := ⟨4616189618054758400, 4618441417868443648⟩) (show w3.heap[g2]? = some (.cells #[.float .f64 4616189618054758400, .float .f64 4618441417868443648] 24 (0, 0)) by rw [hw3, hg2]; exact blk_new ..))
  replace X1 := Lib.hid (X1.out.below hb3)
  replace HB := Lib.hid (HB.out.trans (hb3.mono HB.out.size))
  have HW3 := Lib.hid hw3
  have HG2 := Lib.hid hg2
  clear hb2 hb3 hw3 hg2
  go_upto_region 3 with fail
  rw [← HW3.out, ← HG2.out]
  go_wp2_with fail
  refine (S2.out w3).mono ?_
  rintro e w4 ⟨rfl, hb4⟩
  obtain ⟨w5, hw5⟩ : ∃ w5, w5 = w4.alloc (.cells #[.float .f64 0, .float .f64 0] 24) := ⟨_, rfl⟩
  have hb5 : Below w4.heap.size w4 w5 := by rw [hw5]; exact below1 ..
  replace X1 := Lib.hid ((X1.out.below hb4).below hb5)
  replace X2 := Lib.hid ((X2.out.below hb4).below hb5)
  replace HB := Lib.hid ((HB.out.trans (hb4.mono HB.out.size)).trans (hb5.mono (Nat.le_trans HB.out.size hb4.size)))
  have HW5 := Lib.hid hw5
  clear hb4 hb5 hw5
  go_upto_region 4 with fail
  rw [← HW5.out]
  obtain ⟨p0, p1⟩ := X1.out
  simp only at p0 p1
  go_wp2_with fail
  refine (U1.out w5).mono ?_
  rintro e w6 ⟨rfl, hb6⟩
  replace X1 := Lib.hid (X1.out.below hb6)
  replace X2 := Lib.hid (X2.out.below hb6)
  replace HB := Lib.hid (HB.out.trans (hb6.mono HB.out.size))
  clear hb6 p0 p1
  obtain ⟨p0, p1⟩ := X1.out
  simp only at p0 p1
  go_wp2_with fail
  refine (U2.out w6).mono ?_
  rintro e w7 ⟨rfl, hb7⟩
  replace X1 := Lib.hid (X1.out.below hb7)
  replace X2 := Lib.hid (X2.out.below hb7)
  replace HB := Lib.hid (HB.out.trans (hb7.mono HB.out.size))
  clear hb7 p0 p1
  obtain ⟨p0, p1⟩ := X1.out
  simp only at p0 p1
  go_wp2_with fail
  refine (U3.out w7).mono ?_
  rintro e w8 ⟨rfl, hb8⟩
  replace X2 := Lib.hid (X2.out.below hb8)
  replace HB := Lib.hid (HB.out.trans (hb8.mono HB.out.size))
  clear hb8 p0 p1
  obtain ⟨p0, p1⟩ := X2.out
  simp only at p0 p1
  obtain ⟨w9, hw9⟩ : ∃ w9, w9 = w8.alloc (.cells #[.bool false, .int .i64 0, .int .i8 1, .float .f64 0, .float .f64 0, .int .i64 0, .bool false, .int .i64 0, .int .i8 0, .float .f64 0, .float .f64 0, .int .i64 0] 42) := ⟨_, rfl⟩
  have hb9 : Below w8.heap.size w8 w9 := by rw [hw9]; exact below1 ..
  have hx9 : RdE Vd.cells 6 w9 (fun b => b < w9.heap.size) (some ⟨w8.heap.size, 0, none⟩) 2 [⟨false, 0, 1, 0, 0, 0⟩, ⟨false, 0, 0, 0, 0, 0⟩] := by rw [hw9]; exact rde_blk (blk_new ..) rfl (by simp) rfl rfl
  have WH := Lib.hid (whole_any _ 2 2 _ _ w9 hx9 (fun b h => h) (by omega))
  rw [show wholeI [⟨false, 0, 1, 0, 0, 0⟩, ⟨false, 0, 0, 0, 0, 0⟩] = 0 by decide +kernel] at WH
  replace HB := Lib.hid (HB.out.trans (hb9.mono HB.out.size))
  have HW9 := Lib.hid hw9
  clear hb9 hx9 hw9
  go_wp2_with fail
  rw [← HW9.out]
  refine WH.out.mono ?_
  rintro e w10 ⟨rfl, hb10⟩
  replace HB := Lib.hid (HB.out.trans (hb10.mono HB.out.size))
  clear hb10
  go_wp2_with fail
  go_ret
  exact ⟨rfl, HB.out⟩

end Go.Proofs.YtkfhbnfoiicioaaGreatDoor

/- SameFloat, SameSpan: the walks -/
namespace Go.Proofs.YtkfhbnfoiicioaaGreatDoor
open Go.RowKit Go.Sort

def sameF (a b : Nat) : Bool := decide ((a : Int) = b) || (!feq a a && !feq b b)
theorem sameF_any (a b : Nat) (w : World) :
    Calls Tryz.prog 26 #[.float .f64 a, .float .f64 b] w fun e w' => e = .returned (.bool (sameF a b)) ∧ w = w' := by
  unfold sameF
  cases h1 : ((a : Int) == b) <;> cases h2 : feq a a
  all_goals
    have h2' := h2
    unfold feq at h2'
    have h3 : (FloatKind.f64.format.order a a != some .eq) = !(FloatKind.f64.format.order a a == some .eq) := rfl
    rw [h2'] at h3
    simp only [Bool.not_false, Bool.not_true] at h3
    have H2 := Lib.hid h2
    clear h2 h2'
    go_enter Tryz.func26, Tryz.ntmps26
    go_wp2
    go_ret
    refine ⟨?_, rfl⟩
    simp_all [feq, H2.out]
    try rfl

theorem sameSpan_any (x y : Spn) (w : World) :
    Calls Tryz.prog 8 #[x.val, y.val] w fun e w' => e = .returned (.bool (sameF x.lo y.lo && sameF x.hi y.hi)) ∧ Below w.heap.size w w' := by
  obtain ⟨a, b⟩ := x
  obtain ⟨c, d⟩ := y
  have i1 := sameF_any
  have I1 := Lib.hid i1
  clear i1
  cases h1 : sameF a c <;> cases h2 : sameF b d
  all_goals
    have H1 := Lib.hid h1
    have H2 := Lib.hid h2
    clear h1 h2
    go_enter Tryz.func8, Tryz.ntmps8
    go_wp2_with (go_at_call 26; refine (I1.out _ _ _).mono ?_; rintro e w' ⟨rfl, rfl⟩; first | rw [H1.out] | rw [H2.out])
    go_ret
    exact ⟨by simp [H1.out, H2.out], below2 ..⟩



end Go.Proofs.YtkfhbnfoiicioaaGreatDoor

/- both sides' Stress answer alike; girderlaw29.CheckStress: the walk -/
namespace Go.Proofs.YtkfhbnfoiicioaaGreatDoor
open Ieee Go.RowKit Go.Sort

theorem divC_of {x b : Nat} (hx : NumB x) (hb : b < 18446744073709551616) (hnb : numB b = true) : DivC x b DX := by
  obtain ⟨h1, h2⟩ := quoF_of hx hb hnb
  obtain ⟨p1, p2, _⟩ := DX_num hx hb hnb
  obtain ⟨fb, zb, _⟩ := numB_parts hb hnb
  exact ⟨fun w hL => div1_any x b _ 1 (fun w hL => div_any x b _ 1 w hx.lt hb h2.lt h1 h2.nn (.inl rfl) zb hL) p1.nn w hL, fun w hL => div1_any x b _ 2 (fun w hL => div_any x b _ 2 w hx.lt hb h2.lt h1 h2.nn (.inr rfl) zb hL) p2.nn w hL, p1.lt, p2.lt⟩
theorem ovC_of {x b : Nat} (hx : NumB x) (hb : b < 18446744073709551616) (hnb : numB b = true) : OvC x b DX := by
  obtain ⟨h1, h2⟩ := quoF_of hx hb hnb
  obtain ⟨p1, p2, _⟩ := DX_num hx hb hnb
  obtain ⟨fb, zb, _⟩ := numB_parts hb hnb
  exact ⟨fun w => over05_any x b _ 1 w fb (fun w => div03_any x b _ 1 w hx.lt hb h2.lt h1 h2.nn (.inl rfl) zb), fun w => over05_any x b _ 2 w fb (fun w => div03_any x b _ 2 w hx.lt hb h2.lt h1 h2.nn (.inr rfl) zb), p1.lt, p2.lt, p1.nn, p2.nn⟩
theorem addC_of {x y : Nat} {m : Int} (hm : m = 1 ∨ m = 2) (hx : NumB x) (hy : NumB y) (h : (fk x < bigI ∧ fk y < bigI) ∨ (-bigI < fk x ∧ -bigI < fk y)) : ∃ r, AddC x y m r ∧ AddR x y m r := by
  obtain ⟨s, h1, h2⟩ := add_num hx hy h
  exact ⟨addF x y m s, fun w => add_any x y s m w hx.lt hy.lt h2.lt h1 h2.nn hm, fun w => add03_any x y s m w hx.lt hy.lt h2.lt h1 h2.nn hm⟩
abbrev EndsV (n ma mb : Spn) : Value := .agg #[.float .f64 n.lo, .float .f64 n.hi, .float .f64 ma.lo, .float .f64 ma.hi, .float .f64 mb.lo, .float .f64 mb.hi]
theorem both_stress (n ma mb : Spn) (ar wd : Nat) (ln : n.lo < 18446744073709551616 ∧ n.hi < 18446744073709551616) (la : ma.lo < 18446744073709551616 ∧ ma.hi < 18446744073709551616) (lb : mb.lo < 18446744073709551616 ∧ mb.hi < 18446744073709551616) (har : ar < 18446744073709551616) (hwd : wd < 18446744073709551616) :
    ∃ (s : Spn) (f : Int), (∀ w, Laid w → Calls Tryz.prog 6 #[EndsV n ma mb, .float .f64 ar, .float .f64 wd] w fun e w' => e = .returned (.tuple #[s.val, .int .i64 f]) ∧ Below w.heap.size w w') ∧
      (∀ w, Calls Tryz.prog 7 #[EndsV n ma mb, .float .f64 ar, .float .f64 wd] w fun e w' => e = .returned (.tuple #[s.val, .int .i64 f]) ∧ Below w.heap.size w w') := by
  cases h : (n.ok && (ma.ok && (mb.ok && (numB ar && numB wd))))
  · exact ⟨⟨0, 0⟩, 2, fun w _ => stress_bad n ma mb ar wd w h, fun w => bad29 n ma mb ar wd w h⟩
  · have h0 := h
    simp only [Bool.and_eq_true] at h
    obtain ⟨o1, o2, o3, o4, o5⟩ := h
    have s1 := absS_ok (spOk_of ln.1 ln.2 o1)
    have s2 := absS_ok (spOk_of la.1 la.2 o2)
    have s3 := absS_ok (spOk_of lb.1 lb.2 o3)
    have s4 := greS_ok s2 s3
    have c1 := corS_ok s1 har o4
    have c2 := corS_ok s4 hwd o5
    obtain ⟨_, _, _, zar, kar⟩ := numB_parts har o4
    obtain ⟨_, _, _, zwd, kwd⟩ := numB_parts hwd o5
    obtain ⟨rl, a1, b1⟩ := addC_of (m := 1) (.inl rfl) c1.lo c2.lo (.inl ⟨c1.ltI, c2.ltI⟩)
    obtain ⟨ru, a2, b2⟩ := addC_of (m := 2) (.inr rfl) c1.hi c2.hi (.inr ⟨c1.gtI, c2.gtI⟩)
    refine ⟨⟨rl, ru⟩, 0, fun w hL => ?_, fun w => ?_⟩
    · exact stress_ok n ma mb ar wd DX rl ru w h0 ln la lb ⟨divC_of s1.lo har o4, divC_of s1.lo har o4, divC_of s1.hi har o4, divC_of s1.hi har o4⟩ ⟨divC_of s4.lo hwd o5, divC_of s4.lo hwd o5, divC_of s4.hi hwd o5, divC_of s4.hi hwd o5⟩ s1.ok s4.ok kar kwd zar zwd c1.ok c2.ok a1 a2 hL
    · exact stress29 n ma mb ar wd DX rl ru w h0 ln la lb ⟨ovC_of s1.lo har o4, ovC_of s1.lo har o4, ovC_of s1.hi har o4, ovC_of s1.hi har o4⟩ ⟨ovC_of s4.lo hwd o5, ovC_of s4.lo hwd o5, ovC_of s4.hi hwd o5, ovC_of s4.hi hwd o5⟩ s1.ok s4.ok kar kwd zar zwd ⟨s2.lo.nn, s2.hi.nn⟩ ⟨s3.lo.nn, s3.hi.nn⟩ c1.ok c2.ok b1 b2
theorem sameF_self (a : Nat) : sameF a a = true := by unfold sameF; rw [decide_eq_true rfl]; rfl

set_option maxRecDepth 100000 in
set_option maxHeartbeats 4000000 in
theorem stress_law (n ma mb : Spn) (ar wd : Nat) (w : World) (ln : n.lo < 18446744073709551616 ∧ n.hi < 18446744073709551616) (la : ma.lo < 18446744073709551616 ∧ ma.hi < 18446744073709551616) (lb : mb.lo < 18446744073709551616 ∧ mb.hi < 18446744073709551616) (har : ar < 18446744073709551616) (hwd : wd < 18446744073709551616) (hL : Laid w) :
    Calls Tryz.prog 3 #[EndsV n ma mb, .float .f64 ar, .float .f64 wd] w fun e w' => e = .returned (.bool true) ∧ Below w.heap.size w w' := by
  obtain ⟨s, f, h1, h2⟩ := both_stress n ma mb ar wd ln la lb har hwd
  have I0 := Lib.hid awake_law
  have I1 := Lib.hid h1
  have I2 := Lib.hid h2
  have I3 := Lib.hid (fun w => sameSpan_any s s w)
  rw [sameF_self, sameF_self] at I3
  obtain ⟨n0, n1⟩ := n
  obtain ⟨a0, a1⟩ := ma
  obtain ⟨b0, b1⟩ := mb
  obtain ⟨s0, s1⟩ := s
  simp only [EndsV, Spn.val] at I1 I2 I3 ⊢
  have hff : (f == f) = true := by simp
  obtain ⟨w0, hw0⟩ : ∃ w0, w0 = w.alloc (.cells #[.float .f64 n0, .float .f64 n1, .float .f64 a0, .float .f64 a1, .float .f64 b0, .float .f64 b1] 26) := ⟨_, rfl⟩
  have hb0 : Below w.heap.size w w0 := by rw [hw0]; exact below1 ..
  have z0 : w.heap.size < w0.heap.size := by rw [hw0]; simp
  have g1 : w0.heap[w.heap.size]? = some (.cells #[.float .f64 n0, .float .f64 n1, .float .f64 a0, .float .f64 a1, .float .f64 b0, .float .f64 b1] 26 (0, 0)) := by rw [hw0]; exact blk_new ..
  have KN : Hid (∀ w1 : World, Below w0.heap.size w0 w1 → w1.cell? ⟨w.heap.size, 0, none⟩ = some (.float .f64 n0) ∧ w1.cell? ⟨w.heap.size, 1, none⟩ = some (.float .f64 n1) ∧ w1.cell? ⟨w.heap.size, 2, none⟩ = some (.float .f64 a0) ∧ w1.cell? ⟨w.heap.size, 3, none⟩ = some (.float .f64 a1) ∧ w1.cell? ⟨w.heap.size, 4, none⟩ = some (.float .f64 b0) ∧ w1.cell? ⟨w.heap.size, 5, none⟩ = some (.float .f64 b1)) := Lib.hid (by
    intro w1 hb1
    obtain ⟨hk, _⟩ := blk_cs ((hb1.block w.heap.size z0).trans g1)
    exact ⟨hk 0, hk 1, hk 2, hk 3, hk 4, hk 5⟩)
  have HB0 := Lib.hid hb0
  have HW0 := Lib.hid hw0
  have HL := Lib.hid (hL.below hb0)
  clear h1 h2 hw0 hb0 g1 z0 hL ln la lb har hwd
  go_enter Tryz.func3, Tryz.ntmps3
  go_wp2_with fail
  rw [← HW0.out]
  refine (I0.out w0 HL.out).mono ?_
  rintro e w1 ⟨rfl, hb⟩
  have HB1 := Lib.hid hb
  clear hb
  go_upto_region 3 with fail
  obtain ⟨c0, c1, c2, c3, c4, c5⟩ := KN.out w1 HB1.out
  go_wp2_with fail
  clear c0 c1 c2 c3 c4 c5
  refine (I1.out w1 (HL.out.below HB1.out)).mono ?_
  rintro e w2 ⟨rfl, hb⟩
  have HB2 := Lib.hid (HB1.out.trans (hb.mono HB1.out.size))
  clear hb
  obtain ⟨w3, hw3⟩ : ∃ w3, w3 = w2.alloc (.cells #[.float .f64 s0, .float .f64 s1] 24) := ⟨_, rfl⟩
  obtain ⟨gS, hgS⟩ : ∃ g, g = w2.heap.size := ⟨_, rfl⟩
  have hbb : Below w2.heap.size w2 w3 := by rw [hw3]; exact below1 ..
  have XS := Lib.hid (BxS.of_blk (s := ⟨s0, s1⟩) (show w3.heap[gS]? = some (.cells #[.float .f64 s0, .float .f64 s1] 24 (0, 0)) by rw [hw3, hgS]; exact blk_new ..))
  have HB3 := Lib.hid (HB2.out.trans (hbb.mono HB2.out.size))
  have HW3 := Lib.hid hw3
  have HG := Lib.hid hgS
  clear hbb hw3 hgS
  go_upto_region 4 with fail
  rw [← HW3.out, ← HG.out]
  obtain ⟨c0, c1, c2, c3, c4, c5⟩ := KN.out w3 HB3.out
  go_wp2_with fail
  clear c0 c1 c2 c3 c4 c5
  refine (I2.out w3).mono ?_
  rintro e w4 ⟨rfl, hb⟩
  replace XS := Lib.hid (XS.out.below hb)
  have HB4 := Lib.hid (HB3.out.trans (hb.mono HB3.out.size))
  clear hb
  obtain ⟨w5, hw5⟩ : ∃ w5, w5 = w4.alloc (.cells #[.float .f64 s0, .float .f64 s1] 24) := ⟨_, rfl⟩
  obtain ⟨gT, hgT⟩ : ∃ g, g = w4.heap.size := ⟨_, rfl⟩
  have hbb : Below w4.heap.size w4 w5 := by rw [hw5]; exact below1 ..
  have XT := Lib.hid (BxS.of_blk (s := ⟨s0, s1⟩) (show w5.heap[gT]? = some (.cells #[.float .f64 s0, .float .f64 s1] 24 (0, 0)) by rw [hw5, hgT]; exact blk_new ..))
  replace XS := Lib.hid (XS.out.below hbb)
  have HB5 := Lib.hid (HB4.out.trans (hbb.mono HB4.out.size))
  have HW5 := Lib.hid hw5
  have HG5 := Lib.hid hgT
  clear hbb hw5 hgT
  go_upto_region 5 with fail
  rw [← HW5.out, ← HG5.out]
  obtain ⟨p0, p1⟩ := XS.out
  obtain ⟨r0, r1⟩ := XT.out
  simp only at p0 p1 r0 r1
  go_wp2_with fail
  refine (I3.out w5).mono ?_
  rintro e w6 ⟨rfl, hb⟩
  have HB6 := Lib.hid (HB5.out.trans (hb.mono HB5.out.size))
  clear hb
  go_wp2_with fail
  go_ret
  exact ⟨rfl, HB0.out.trans (HB6.out.mono HB0.out.size)⟩

end Go.Proofs.YtkfhbnfoiicioaaGreatDoor
