import Derived.Test.YtmeljjijofkllaaK5
import Derived.Test.YtmeljjijofkllaaK6
import Derived.Test.YtmeljjijofkllaaE8
import Derived.Test.YtmeljjijofkllaaE12
import Derived.Test.YtmeljjijofkllaaOP
import Derived.Test.YtmeljjijofkllaaRows
/- EnvelopeOf: the walk -/
namespace Go.Proofs.Ytmeljjijofkllaa
open Go.RowKit Go.Sort

theorem lent_rows {w : World} {B g n d : Nat} {L : List (List Spn)} (h : LentSt w B (.slice (some ⟨g, 0, none⟩) (n + 12) d) (L.map rowEnt ++ marksE)) (hn : L.length = n) :
    RdRows Spn.cells 2 w (fun b => b < w.heap.size) (some ⟨g, 0, none⟩) n L := by
  obtain ⟨vs, gs, hown, hgl, hat, _⟩ := h.st
  have hel : (L.map rowEnt ++ marksE).length = n + 12 := by rw [List.length_append, List.length_map, hn, marksE_len]
  rw [hel] at hown hgl
  have h1 := ((Rd.of_own hown).imp (S' := fun b => b < w.heap.size) fun b hb => hb.2.1).take (m := n) (by omega)
  rw [Nat.mul_one] at h1
  refine ⟨⟨vs.take n, h1, fun i l hl => ?_⟩, hn⟩
  have hi : i < n := by have := (List.getElem?_eq_some_iff.1 hl).1; omega
  obtain ⟨g1, hg1⟩ := get_some hgl (show i < n + 12 by omega)
  have ea := hat i _ g1 ((lent_get hn).1 hi l hl) hg1
  obtain ⟨d1, e1, e2, e3, e4⟩ := ea.rd (by simp [rowEnt]) (by simp [rowEnt])
  exact ⟨_, d1, by rw [List.getElem?_take, if_pos hi]; exact e1, by simp [rowEnt] at e2; omega, e4.imp fun b hb => by rw [hb]; exact ea.lt⟩
theorem Within.under {B C E : Nat} {a b c : World} (h : Below B a b) (k : Within C E b c) (hb : B ≤ C) (ha : B ≤ b.heap.size) : Below B a c :=
  ⟨k.os.trans h.os, k.tape.trans h.tape, k.output.trans h.output, Nat.le_trans h.size k.size, fun x hx => (k.block x (by omega) (.inl (by omega))).trans (h.block x hx)⟩
theorem ofRes_le {L : List (List Spn)} {m : Nat} (h : ∀ (i : Nat) (l : List Spn), L[i]? = some l → l.length ≤ m) : (ofRes L).length ≤ m := by
  unfold ofRes
  split
  · simp
  · split
    · simp
    · split
      · simp
      · rename_i h1 h2 h3
        have he : ∀ (i : Nat) (l : List Spn), L[i]? = some l → l.length = (L.getD 0 []).length := fun i l hl => by
          have h4 : evenB L = true := by simpa using h2
          simpa using List.all_eq_true.1 h4 l (List.mem_of_getElem? hl)
        rw [upTo_len L _ L.length (fun k l _ => he k l) (Nat.le_refl _)]
        obtain ⟨l0, h0⟩ := get_some (xs := L) rfl (show 0 < L.length from List.length_pos_iff.2 h1)
        rw [getD_some h0]
        exact h 0 l0 h0

set_option maxHeartbeats 1000000 in
set_option maxRecDepth 100000 in
theorem ofs_walk (A : Option Addr) (n c : Nat) (L : List (List Spn)) (S : Nat → Prop) (w : World) (hx : RdRows Spn.cells 2 w S A n L) (hS : ∀ b, S b → b < w.heap.size) (hn : n ≤ 100000000000000) (hnc : n ≤ c) (hc : c ≤ maxLen) (hL : ∀ (i : Nat) (l : List Spn), L[i]? = some l → l.length ≤ 8796093021952) :
    Calls Try.prog 4 #[.slice A n c] w fun e w' => e = .returned (.bool true) ∧ Below w.heap.size w w' := by
  obtain ⟨m, M, hmn, hm60, hcase, hM, hML⟩ : ∃ m M, m ≤ n ∧ m ≤ 200 ∧ ((200 < n ∧ m = 200) ∨ (n ≤ 200 ∧ m = n)) ∧ RdRows Spn.cells 2 w S A m M ∧ (∀ (i : Nat) (l : List Spn), M[i]? = some l → l.length ≤ 8796093021952) := by
    by_cases h : 200 < n
    · refine ⟨200, L.take 200, by omega, Nat.le_refl _, .inl ⟨h, rfl⟩, hx.take (by omega), fun i l hl => ?_⟩
      rw [List.getElem?_take] at hl
      split at hl
      · exact hL i l hl
      · cases hl
    · exact ⟨n, L, Nat.le_refl _, by omega, .inr ⟨by omega, rfl⟩, hx, hL⟩
  unfold maxLen at hc
  have HM := Lib.hid hM
  have HML := Lib.hid hML
  have HS := Lib.hid hS
  clear hx hM hML hL hS
  rcases hcase with ⟨hbig, hmm⟩ | ⟨hbig, hmm⟩
  all_goals
    subst hmm
    go_enter Try.func4, Try.ntmps4
    go_wp2_with fail
    refine (awake_any w).mono ?_
    rintro e wa ⟨rfl, hba⟩
    have HA := Lib.hid hba
    clear hba
    go_wp2_with fail
    have hMl := HM.out.num
    go_loop [3] (fun i => ∃ k : Nat, k ≤ M.length ∧ i = .int .i64 k ∧ ∀ (i : Nat) (l : List Spn), i < k → M[i]? = some l → l.length ≤ 3000) (fun i => M.length - (intOf i).toNat)
    case atStart => exact ⟨0, Nat.zero_le _, rfl, fun i l h => absurd h (Nat.not_lt_zero _)⟩
    case round =>
      obtain ⟨k, hk, rfl, hsm⟩ := hrel
      have HSM := Lib.hid hsm
      clear hsm
      by_cases hlt : k < M.length
      · obtain ⟨l, hl⟩ := get_some (xs := M) rfl hlt
        obtain ⟨b, o, A1, c1, rfl, hSb, hcell, hlc, hr⟩ := HM.out.row hl
        rw [← HA.out.cell (p := ⟨b, o + k, none⟩) (HS.out b hSb)] at hcell
        have HL := Lib.hid hl
        clear hl hr
        have hlt2 := hlt
        rw [hMl] at hlt2
        by_cases h3 : 3000 < l.length
        · go_wp2_with fail
          go_ret
          exact ⟨rfl, HA.out⟩
        · go_wp2_with fail
          go_round
          case rel =>
            refine ⟨k + 1, by omega, by go_num, fun i l' hi hl' => ?_⟩
            by_cases e : i < k
            · exact HSM.out i l' e hl'
            · obtain rfl : i = k := by omega
              rw [HL.out] at hl'
              injection hl' with hl'
              subst hl'
              omega
          case measure => simp [intOf]; omega
      · have hkm : k = M.length := by omega
        have HK := Lib.hid (fun (i : Nat) (l : List Spn) (h : M[i]? = some l) => HSM.out i l (by have := (List.getElem?_eq_some_iff.1 h).1; omega) h)
        have hge := hlt
        rw [hMl] at hge
        clear hlt hkm
        go_wp2_with fail
        refine (lentRows_any _ _ _ M S wa (HM.out.keep (Keeps.below HA.out HS.out)) (fun b hb => Nat.lt_of_lt_of_le (HS.out b hb) HA.out.size) (by omega) (fun i l h => Nat.le_trans (HK.out i l h) (by omega))).mono ?_
        rintro e w1 ⟨g1, d1, rfl, hd1, hst1, hb1⟩
        have HST1 := Lib.hid hst1
        have HB1 := Lib.hid hb1
        have HW1 := Lib.hid (below_then HA.out hb1)
        have HG1 := Lib.hid hb1.size
        clear hst1 hb1
        go_wp2_with fail
        refine (of_any (some ⟨g1, 0, none⟩) _ d1 M _ w1 (lent_rows HST1.out hMl) (fun b hb => hb) (by omega) (fun i l h => Nat.le_trans (HK.out i l h) (by omega))).mono ?_
        rintro e w2 ⟨D2, n2, d2, he2, hd2, hq2, hb2⟩
        obtain ⟨er, her⟩ : ∃ er, ofErr M = er := ⟨_, rfl⟩
        rw [her] at he2
        subst he2
        have HER := Lib.hid her
        have HQ2 := Lib.hid hq2
        have HB2 := Lib.hid hb2
        have HW2 := Lib.hid (below_then HW1.out hb2)
        clear her hq2 hb2 hd2
        go_wp2_with fail
        refine (keptRows_any _ _ g1 _ _ d1 M S w2 (HM.out.keep (Keeps.below HW2.out HS.out)) (fun b hb => Nat.lt_of_lt_of_le (HS.out b hb) HW2.out.size) (HST1.out.below HB2.out) (by omega) (by omega) (fun i l h => Nat.le_trans (HK.out i l h) (by omega))).mono ?_
        rintro e w3 ⟨rfl, hb3⟩
        have HB3 := Lib.hid hb3
        have HW3 := Lib.hid (below_then HW2.out hb3)
        have HQ3 := Lib.hid (HQ2.out.keep (Keeps.below hb3 (fun b hb => hb.2)))
        clear hb3
        go_wp2_with fail
        refine (overRows_any _ g1 _ d1 M w1 w3 HST1.out (below_then HB2.out HB3.out) HG1.out hMl (fun i l h => Nat.le_trans (HK.out i l h) (by omega)) (by omega) (by omega)).mono ?_
        rintro e w4 ⟨rfl, hw4⟩
        have hws := HW1.out.size
        have hwa := HA.out.size
        have hw3 := HW3.out.size
        have HZ3 := Lib.hid HB3.out.size
        have HQ4 := Lib.hid (HQ3.out.keep (fun b hb => hw4.block b (Nat.lt_of_lt_of_le hb.2 HZ3.out) (.inr hb.1)))
        have HW4 := Lib.hid (Within.under HW3.out hw4 hwa hw3)
        have HZ4 := Lib.hid (Nat.le_trans HZ3.out hw4.size)
        clear hw4
        go_wp2_with fail
        refine (refOf_any _ _ _ M S w4 (HM.out.keep (Keeps.below HW4.out HS.out)) (fun b hb => Nat.lt_of_lt_of_le (HS.out b hb) HW4.out.size) (by omega) (fun i l h => Nat.le_trans (HK.out i l h) (by omega))).mono ?_
        rintro e w5 ⟨D5, n5, d5, he5, hd5, hq5, hb5⟩
        rw [HER.out] at he5
        subst he5
        have HQ5 := Lib.hid hq5
        have HQ25 := Lib.hid (HQ4.out.keep (Keeps.below hb5 (fun b hb => Nat.lt_of_lt_of_le hb.2 HZ4.out)))
        have HW5 := Lib.hid (below_then HW4.out hb5)
        have HZ5 := Lib.hid (Nat.le_trans HZ4.out hb5.size)
        clear hq5 hb5 hd5
        have e2 : n2 ≤ 1000000000000000 := by have h := ofRes_le HK.out; rw [HQ2.out.num] at h; omega
        have e5 : n5 ≤ 1000000000000000 := by have h := ofRes_le HK.out; rw [HQ5.out.num] at h; omega
        go_wp2_with fail
        refine (sameRngs_any D2 D5 n2 n5 d2 d5 (ofRes M) (ofRes M) _ _ w5 HQ25.out HQ5.out (fun b hb => Nat.lt_of_lt_of_le hb.2 HZ5.out) (fun b hb => hb.2) e2 e5).mono ?_
        rintro e w6 ⟨rfl, hb6⟩
        rw [sameRs_self]
        have HW6 := Lib.hid (below_then HW5.out hb6)
        clear hb6
        go_wp2_with fail
        go_ret
        exact ⟨rfl, HW6.out⟩

end Go.Proofs.Ytmeljjijofkllaa
