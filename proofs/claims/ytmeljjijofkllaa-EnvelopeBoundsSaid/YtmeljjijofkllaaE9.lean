import Derived.Test.YtmeljjijofkllaaE6
import Derived.Test.YtmeljjijofkllaaE7
import Derived.Test.YtmeljjijofkllaaE8
import Derived.Test.YtmeljjijofkllaaOP
import Derived.Test.YtmeljjijofkllaaRows
/- EnvelopeBounds: for any lists of spans, the ranges that envelope.Of tells of them (the first 60) bound all of them, and are met by the lists that they name, first; what is not right is refused. -/
namespace Go.Proofs.Ytmeljjijofkllaa.bnd
open Go.RowKit Go.Sort

theorem not_ok {L : List (List Spn)} (h : okB L = false) : ofRes L = [] ∧ (ofErr L = 4 ∨ ofErr L = 2) := by
  have hne : L ≠ [] := by rintro rfl; simp [okB, evenB, rightsB] at h
  unfold okB at h
  unfold ofRes ofErr
  cases he : evenB L
  · simp [hne]
  · rw [he, Bool.true_and] at h
    simp [hne, h]
theorem is_ok {L : List (List Spn)} (h : okB L = true) : ofErr L = 0 ∧ (L = [] ∧ ofRes L = [] ∨ L ≠ [] ∧ ofRes L = upTo L (L.getD 0 []).length L.length) ∧ (∀ (i : Nat) (l : List Spn), L[i]? = some l → l.length = (L.getD 0 []).length) ∧ (∀ (i : Nat) (l : List Spn), L[i]? = some l → l.all rightB = true) := by
  unfold okB at h
  rw [Bool.and_eq_true] at h
  obtain ⟨h1, h2⟩ := h
  refine ⟨by simp [ofErr, h1, h2], ?_, fun i l hl => ?_, fun i l hl => ?_⟩
  · by_cases hne : L = []
    · exact .inl ⟨hne, by simp [ofRes, hne]⟩
    · exact .inr ⟨hne, by simp only [ofRes, h1, h2, hne, if_false, Bool.true_eq_false]⟩
  · simpa using List.all_eq_true.1 h1 l (List.mem_of_getElem? hl)
  · exact List.all_eq_true.1 h2 l (List.mem_of_getElem? hl)

theorem walk (A : Option Addr) (n c : Nat) (L : List (List Spn)) (S : Nat → Prop) (w : World) (hx : RdRows Spn.cells 2 w S A n L) (hS : ∀ b, S b → b < w.heap.size) (hn : n ≤ 100000000000000) (hnc : n ≤ c) (hc : c ≤ maxLen) (hL : ∀ (i : Nat) (l : List Spn), L[i]? = some l → l.length ≤ 8796093021952) :
    Calls Try.prog 3 #[.slice A n c] w fun e w' => e = .returned (.bool true) ∧ Below w.heap.size w w' := by
  obtain ⟨m, M, hmn, hm60, hcase, hM, hML⟩ : ∃ m M, m ≤ n ∧ m ≤ 60 ∧ ((60 < n ∧ m = 60) ∨ (n ≤ 60 ∧ m = n)) ∧ RdRows Spn.cells 2 w S A m M ∧ (∀ (i : Nat) (l : List Spn), M[i]? = some l → l.length ≤ 8796093021952) := by
    by_cases h : 60 < n
    · refine ⟨60, L.take 60, by omega, Nat.le_refl _, .inl ⟨h, rfl⟩, hx.take (by omega), fun i l hl => ?_⟩
      rw [List.getElem?_take] at hl
      split at hl
      · exact hL i l hl
      · cases hl
    · exact ⟨n, L, Nat.le_refl _, by omega, .inr ⟨by omega, rfl⟩, hx, hL⟩
  unfold maxLen at hc
  have HM := Lib.hid hM
  have HML := Lib.hid hML
  have HS := Lib.hid hS
  clear hx hM hML hL hS
  rcases hcase with ⟨hbig, rfl⟩ | ⟨hbig, rfl⟩
  all_goals
    go_enter Try.func3, Try.ntmps3
    go_wp2_with fail
    refine (awake_any w).mono ?_
    rintro e wa ⟨rfl, hba⟩
    have HA := Lib.hid hba
    clear hba
    go_wp2_with fail
    refine (copyRows_any _ _ _ M S wa (HM.out.keep (Keeps.below HA.out HS.out)) (fun b hb => Nat.lt_of_lt_of_le (HS.out b hb) HA.out.size) (by omega) (fun i l h => Nat.le_trans (HML.out i l h) (by omega))).mono ?_
    rintro e w1 ⟨A1, c1, rfl, hc1, hr1, hb1⟩
    have H1 := Lib.hid hr1
    have HB1 := Lib.hid hb1
    clear hr1 hb1
    go_wp2_with fail
    refine (of_any A1 _ c1 M _ w1 H1.out (fun b hb => hb.2) (by omega) HML.out).mono ?_
    rintro e w2 ⟨A2, n2, c2, he2, hnc2, hr2, hb2⟩
    have HB2 := Lib.hid (below_then (below_then HA.out HB1.out) hb2)
    have HB2' := Lib.hid hb2
    have hM2 := HM.out.keep (Keeps.below HB2.out HS.out)
    have hS2 : ∀ b, S b → b < w2.heap.size := fun b hb => Nat.lt_of_lt_of_le (HS.out b hb) HB2.out.size
    cases hok : okB M
    · obtain ⟨hres, herr⟩ := not_ok hok
      rw [hres] at hr2
      obtain rfl : 0 = n2 := hr2.num
      rcases herr with herr | herr
      all_goals
        rw [herr] at he2
        subst he2
        have HOK := Lib.hid hok
        have HM2 := Lib.hid hM2
        have HS2 := Lib.hid hS2
        clear hok hres herr hr2 hb2 hM2 hS2
        go_wp2_with fail
        refine (rights_any _ _ _ M S w2 HM2.out HS2.out (by omega) HML.out).mono ?_
        rintro e w3 ⟨rfl, hb3⟩
        rw [HOK.out]
        have HB3 := Lib.hid hb3
        clear hb3
        go_wp2
        go_ret
        exact ⟨rfl, below_then HB2.out HB3.out⟩
    · obtain ⟨herr, hres, hev, hrt⟩ := is_ok hok
      rw [herr] at he2
      subst he2
      have hMl := HM.out.num
      have hg : ∀ (k : Nat) (r : Rng), (ofRes M)[k]? = some r → GoodR M k r := by
        intro k r hk
        rcases hres with ⟨_, hres⟩ | ⟨hne, hres⟩
        · rw [hres] at hk; simp at hk
        · rw [hres] at hk
          exact upTo_good hev hrt (List.length_pos_iff.2 hne) k r hk
      have hn2 : n2 = (M.getD 0 []).length := by
        rw [← hr2.num]
        rcases hres with ⟨hne, hres⟩ | ⟨hne, hres⟩
        · rw [hres, hne]; rfl
        · rw [hres]; exact upTo_len M _ _ (fun k l _ h => hev k l h) (Nat.le_refl _)
      have h0 : M.length = 0 → n2 = 0 := by
        intro h
        rw [List.length_eq_zero_iff] at h
        rw [hn2, h]; rfl
      have hn2b : n2 ≤ 8796093021952 := by
        rw [hn2]
        rcases Nat.eq_zero_or_pos M.length with h | h
        · rw [List.length_eq_zero_iff.1 h]; exact Nat.zero_le _
        · obtain ⟨l0, hl0⟩ := get_some (xs := M) rfl h
          rw [getD_some hl0]; exact HML.out 0 l0 hl0
      rw [← hn2] at hev
      have HOK := Lib.hid hok
      have HM2 := Lib.hid hM2
      have HS2 := Lib.hid hS2
      have HG := Lib.hid hg
      have HE := Lib.hid hev
      have H0 := Lib.hid h0
      have HR2 := Lib.hid hr2
      have HN := Lib.hid hMl
      clear hok hres herr hr2 hb2 hM2 hS2 hg hev hrt h0 hn2 hMl
      go_wp2_with fail
      refine (rights_any _ _ _ M S w2 HM2.out HS2.out (by omega) HML.out).mono ?_
      rintro e w3 ⟨rfl, hb3⟩
      rw [HOK.out]
      have HB3 := Lib.hid hb3
      clear hb3
      go_wp2_with fail
      refine (bounds_any _ _ _ _ _ _ M (ofRes M) S (fun b => w1.heap.size ≤ b ∧ b < w2.heap.size) w3 (HM2.out.keep (Keeps.below HB3.out HS2.out)) (fun b hb => Nat.lt_of_lt_of_le (HS2.out b hb) HB3.out.size) (HR2.out.keep (Keeps.below HB3.out (fun b hb => hb.2))) (fun b hb => Nat.lt_of_lt_of_le hb.2 HB3.out.size) (by omega) hn2b HE.out HG.out (fun h => H0.out (by rw [HN.out]; exact h))).mono ?_
      rintro e w4 ⟨rfl, hb4⟩
      have HB4 := Lib.hid hb4
      clear hb4
      go_wp2
      go_ret
      exact ⟨rfl, below_then (below_then HB2.out HB3.out) HB4.out⟩

end Go.Proofs.Ytmeljjijofkllaa.bnd
