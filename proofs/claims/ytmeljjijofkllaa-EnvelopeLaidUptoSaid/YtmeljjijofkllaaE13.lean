import Derived.Test.YtmeljjijofkllaaE5
import Derived.Test.YtmeljjijofkllaaE8
import Derived.Test.YtmeljjijofkllaaE12
import Derived.Test.YtmeljjijofkllaaOP
import Derived.Test.YtmeljjijofkllaaRows
/- EnvelopeLaid: the walk -/
namespace Go.Proofs.Ytmeljjijofkllaa
open Go.RowKit Go.Sort

section
variable {α : Type} {f : α → List Value} {size : Nat} {w : World} {S : Nat → Prop} {n : Nat} {L : List (List α)}
theorem Rd.drop1 {b o : Nat} {vs : List Value} (h : Rd w S 1 (some ⟨b, o, none⟩) n vs) {m : Nat} (hm : m ≤ n) : Rd w S 1 (some ⟨b, o + m, none⟩) (n - m) (vs.drop m) := by
  refine ⟨by rw [List.length_drop, h.len]; omega, fun j v hj => ?_⟩
  rw [List.getElem?_drop] at hj
  obtain ⟨b', o', e, hs, hc⟩ := h.at_ _ v hj
  cases e
  exact ⟨b, o + m, rfl, hs, by rw [Nat.add_assoc]; exact hc⟩
theorem RdRows.drop {b o : Nat} (h : RdRows f size w S (some ⟨b, o, none⟩) n L) {m : Nat} (hm : m ≤ n) : RdRows f size w S (some ⟨b, o + m, none⟩) (n - m) (L.drop m) := by
  obtain ⟨vs, h1, h2⟩ := h.vs
  refine ⟨⟨vs.drop m, h1.drop1 hm, fun i l hl => ?_⟩, by rw [List.length_drop, h.num]⟩
  rw [List.getElem?_drop] at hl
  obtain ⟨A', c', e, hc, hr⟩ := h2 _ l hl
  exact ⟨A', c', by rw [List.getElem?_drop]; exact e, hc, hr⟩
end

theorem rows_ok {L : List (List Spn)} (h : okB L = true) : Rows' L (L.getD 0 []).length := by
  unfold okB at h
  rw [Bool.and_eq_true] at h
  obtain ⟨h1, h2⟩ := h
  refine ⟨fun i l hl => ?_, fun i l hl => ?_⟩
  · simpa using List.all_eq_true.1 h1 l (List.mem_of_getElem? hl)
  · exact List.all_eq_true.1 h2 l (List.mem_of_getElem? hl)

theorem res_width {L : List (List Spn)} {m : Nat} (h : Rows' L m) (hn : 0 < L.length) : (ofRes L).length = m := by
  rw [(h.ok hn).2]
  exact upTo_len L m L.length (fun k l _ => h.even k l) (Nat.le_refl _)

set_option maxHeartbeats 1000000 in
theorem laid_walk (A : Option Addr) (n c : Nat) (at_ : Int) (L : List (List Spn)) (S : Nat → Prop) (w : World) (hx : RdRows Spn.cells 2 w S A n L) (hS : ∀ b, S b → b < w.heap.size) (hn : n ≤ 100000000000000) (hnc : n ≤ c) (hc : c ≤ maxLen) (hL : ∀ (i : Nat) (l : List Spn), L[i]? = some l → l.length ≤ 1000000000000)
    (ha1 : -9223372036854775808 ≤ at_) (ha2 : at_ ≤ 9223372036854775807) :
    Calls Try.prog 6 #[.slice A n c, .int .i64 at_] w fun e w' => e = .returned (.bool true) ∧ Below w.heap.size w w' := by
  obtain ⟨m, M, hmn, hm60, hcase, hM, hML⟩ : ∃ m M, m ≤ n ∧ m ≤ 60 ∧ ((60 < n ∧ m = 60) ∨ (n ≤ 60 ∧ m = n)) ∧ RdRows Spn.cells 2 w S A m M ∧ (∀ (i : Nat) (l : List Spn), M[i]? = some l → l.length ≤ 1000000000000) := by
    by_cases h : 60 < n
    · refine ⟨60, L.take 60, by omega, Nat.le_refl _, .inl ⟨h, rfl⟩, hx.take (by omega), fun i l hl => ?_⟩
      rw [List.getElem?_take] at hl
      split at hl
      · exact hL i l hl
      · cases hl
    · exact ⟨n, L, Nat.le_refl _, by omega, .inr ⟨by omega, rfl⟩, hx, hL⟩
  unfold maxLen at hc
  have HM := Lib.hid hM
  have HML := Lib.hid hML
  have HS := Lib.hid hS
  clear hx hM hML hL hS
  by_cases h2 : m < 2
  · obtain rfl : n = m := by rcases hcase with ⟨h, rfl⟩ | ⟨h, rfl⟩ <;> omega
    clear hcase
    go_enter Try.func6, Try.ntmps6
    go_wp2_with fail
    refine (awake_any w).mono ?_
    rintro e wa ⟨rfl, hba⟩
    have HA := Lib.hid hba
    clear hba
    go_wp2_with fail
    go_ret
    exact ⟨rfl, HA.out⟩
  · obtain ⟨b0, o0, rfl⟩ : ∃ b o, A = some ⟨b, o, none⟩ := by
      obtain ⟨l0, hl0⟩ := get_some HM.out.num (show 0 < m by omega)
      obtain ⟨b0, o0, A0, c0, e, _⟩ := HM.out.row hl0
      exact ⟨b0, o0, e⟩
    rcases hcase with ⟨hbig, rfl⟩ | ⟨hbig, rfl⟩
    all_goals
      go_enter Try.func6, Try.ntmps6
      go_wp2_with fail
      refine (awake_any w).mono ?_
      rintro e wa ⟨rfl, hba⟩
      have HA := Lib.hid hba
      clear hba
      go_wp2_with fail
      refine (rights_any _ _ _ M S wa (HM.out.keep (Keeps.below HA.out HS.out)) (fun b hb => Nat.lt_of_lt_of_le (HS.out b hb) HA.out.size) (by omega) (fun i l h => Nat.le_trans (HML.out i l h) (by omega))).mono ?_
      rintro e w1 ⟨rfl, hb1⟩
      have HB1 := Lib.hid (below_then HA.out hb1)
      clear hb1
      cases hok : okB M
      · go_wp2_with fail
        go_ret
        exact ⟨rfl, HB1.out⟩
      · have HOK := Lib.hid (rows_ok hok)
        clear hok
        go_wp2_with fail
        refine (pick_any at_ _ w1 ha1 ha2 (by omega) (by omega)).mono ?_
        rintro e w2 ⟨⟨k, rfl, hk⟩, rfl⟩
        have hkm : 1 + k < M.length := by rw [HM.out.num]; omega
        have hM60 : M.length ≤ 60 := by rw [HM.out.num]; omega
        have HT := Lib.hid (HM.out.take (m := 1 + k) (by omega))
        have HD := Lib.hid (HM.out.drop (m := 1 + k) (by omega))
        have HTL : Hid (∀ (i : Nat) (l : List Spn), (M.take (1 + k))[i]? = some l → l.length ≤ 1000000000000) := Lib.hid fun i l h => by
          rw [List.getElem?_take] at h
          split at h
          · exact HML.out i l h
          · cases h
        have HDL : Hid (∀ (i : Nat) (l : List Spn), (M.drop (1 + k))[i]? = some l → l.length ≤ 1000000000000) := Lib.hid fun i l h => by
          rw [List.getElem?_drop] at h
          exact HML.out _ l h
        have okT := Lib.hid ((HOK.out.take (1 + k)).ok (by rw [List.length_take]; omega))
        have okD := Lib.hid ((HOK.out.drop (1 + k)).ok (by rw [List.length_drop]; omega))
        have okM := Lib.hid (HOK.out.ok (by omega))
        have HLAID := Lib.hid (laid HOK.out (n := 1 + k) (by omega) hkm hM60)
        have hMn := Lib.hid HM.out.num
        clear hkm hM60
        go_wp2_with fail
        refine (copyRows_any _ _ _ (M.take (1 + k)) S w1 (HT.out.keep (Keeps.below HB1.out HS.out)) (fun b hb => Nat.lt_of_lt_of_le (HS.out b hb) HB1.out.size) (by omega) (fun i l h => Nat.le_trans (HTL.out i l h) (by omega))).mono ?_
        rintro e v1 ⟨A1, c1, rfl, hc1, hr1, hbc1⟩
        have HR1 := Lib.hid hr1
        have HC1 := Lib.hid (below_then HB1.out hbc1)
        have HW1 := Lib.hid hbc1
        clear hr1 hbc1
        go_wp2_with fail
        refine (of_any A1 _ c1 (M.take (1 + k)) _ v1 HR1.out (fun b hb => hb.2) (by omega) (fun i l h => Nat.le_trans (HTL.out i l h) (by omega))).mono ?_
        rintro e x1 ⟨D1, n1, d1, he1, hd1, hq1, hbo1⟩
        rw [(okT.out).1] at he1
        subst he1
        have HQ1 := Lib.hid hq1
        have HO1 := Lib.hid hbo1
        have HB1b := Lib.hid (below_then HC1.out hbo1)
        clear hq1 hbo1 hd1
        go_wp2_with fail
        refine (copyRows_any _ _ _ (M.drop (1 + k)) S x1 (HD.out.keep (Keeps.below HB1b.out HS.out)) (fun b hb => Nat.lt_of_lt_of_le (HS.out b hb) HB1b.out.size) (by omega) (fun i l h => Nat.le_trans (HDL.out i l h) (by omega))).mono ?_
        rintro e v2 ⟨A2, c2, rfl, hc2, hr2, hbc2⟩
        have HR2 := Lib.hid hr2
        have HC2 := Lib.hid (below_then HB1b.out hbc2)
        have HW2 := Lib.hid hbc2
        clear hr2 hbc2
        go_wp2_with fail
        refine (of_any A2 _ c2 (M.drop (1 + k)) _ v2 HR2.out (fun b hb => hb.2) (by omega) (fun i l h => Nat.le_trans (HDL.out i l h) (by omega))).mono ?_
        rintro e x2 ⟨D2, n2, d2, he2, hd2, hq2, hbo2⟩
        rw [(okD.out).1] at he2
        subst he2
        have HQ2 := Lib.hid hq2
        have HO2 := Lib.hid hbo2
        have HB2b := Lib.hid (below_then HC2.out hbo2)
        clear hq2 hbo2 hd2
        go_wp2_with fail
        refine (copyRows_any _ _ _ (M) S x2 (HM.out.keep (Keeps.below HB2b.out HS.out)) (fun b hb => Nat.lt_of_lt_of_le (HS.out b hb) HB2b.out.size) (by omega) (fun i l h => Nat.le_trans (HML.out i l h) (by omega))).mono ?_
        rintro e v3 ⟨A3, c3, rfl, hc3, hr3, hbc3⟩
        have HR3 := Lib.hid hr3
        have HC3 := Lib.hid (below_then HB2b.out hbc3)
        have HW3 := Lib.hid hbc3
        clear hr3 hbc3
        go_wp2_with fail
        refine (of_any A3 _ c3 (M) _ v3 HR3.out (fun b hb => hb.2) (by omega) (fun i l h => Nat.le_trans (HML.out i l h) (by omega))).mono ?_
        rintro e x3 ⟨D3, n3, d3, he3, hd3, hq3, hbo3⟩
        rw [(okM.out).1] at he3
        subst he3
        have HQ3 := Lib.hid hq3
        have HO3 := Lib.hid hbo3
        have HB3b := Lib.hid (below_then HC3.out hbo3)
        clear hq3 hbo3 hd3
        have hw0 : (M.getD 0 []).length ≤ 1000000000000 := by
          obtain ⟨l0, h0⟩ := get_some (xs := M) rfl (show 0 < M.length by rw [hMn.out]; omega)
          rw [getD_some h0]; exact HML.out 0 l0 h0
        have e1 : n1 ≤ 1000000000000 := by rw [← HQ1.out.num, res_width (HOK.out.take (1 + k)) (by rw [List.length_take, hMn.out]; omega)]; exact hw0
        have e2 : n2 ≤ 1000000000000 := by rw [← HQ2.out.num, res_width (HOK.out.drop (1 + k)) (by rw [List.length_drop, hMn.out]; omega)]; exact hw0
        have e3 : n3 ≤ 1000000000000 := by rw [← HQ3.out.num, res_width HOK.out (by rw [hMn.out]; omega)]; exact hw0
        have HX3 := Lib.hid (below_then HW3.out HO3.out)
        have HX1 := Lib.hid (below_then (below_then HW2.out HO2.out) HX3.out)
        have hcast : ((1 + k : Nat) : Int) = 1 + (k : Int) := by omega
        have hj := HLAID.out
        rw [hcast] at hj
        have HJ := Lib.hid hj
        clear hj hcast hw0
        go_wp2_with fail
        refine (join_any D1 D2 n1 n2 d1 d2 (ofRes (M.take (1 + k))) (ofRes (M.drop (1 + k))) (1 + k) x3 _ _ (HQ1.out.keep (Keeps.below HX1.out (fun b hb => hb.2))) (HQ2.out.keep (Keeps.below HX3.out (fun b hb => hb.2))) (fun b hb => Nat.lt_of_lt_of_le hb.2 HX1.out.size) (fun b hb => Nat.lt_of_lt_of_le hb.2 HX3.out.size) e1 e2).mono ?_
        rintro e x4 ⟨D4, n4, d4, he4, hd4, hq4, hb4⟩
        rw [HJ.out.1] at he4
        subst he4
        rw [HJ.out.2] at hq4
        have e4 : n4 ≤ 1000000000000 := by rw [← hq4.num, res_width HOK.out (by rw [hMn.out]; omega), ← res_width HOK.out (by rw [hMn.out]; omega), HQ3.out.num]; exact e3
        have HQ4 := Lib.hid hq4
        have HB4 := Lib.hid (below_then HB3b.out hb4)
        have HO4 := Lib.hid hb4
        clear hq4 hb4 hd4
        go_wp2_with fail
        refine (sameRngs_any D4 D3 n4 n3 d4 d3 (ofRes M) (ofRes M) _ _ x4 HQ4.out (HQ3.out.keep (Keeps.below HO4.out (fun b hb => hb.2))) (fun b hb => hb.2) (fun b hb => Nat.lt_of_lt_of_le hb.2 HO4.out.size) (by omega) (by omega)).mono ?_
        rintro e x5 ⟨rfl, hb5⟩
        rw [sameRs_self]
        have HB5 := Lib.hid (below_then HB4.out hb5)
        clear hb5
        go_wp2_with fail
        go_ret
        exact ⟨rfl, HB5.out⟩

end Go.Proofs.Ytmeljjijofkllaa
