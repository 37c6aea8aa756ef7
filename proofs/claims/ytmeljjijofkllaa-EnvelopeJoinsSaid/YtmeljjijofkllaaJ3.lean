import Derived.Test.YtmeljjijofkllaaJ1
import Derived.Test.YtmeljjijofkllaaJ2
import Derived.Test.YtmeljjijofkllaaE12
import Derived.Test.YtmeljjijofkllaaE8
import Derived.Test.YtmeljjijofkllaaOP
import Derived.Test.YtmeljjijofkllaaRows
/- EnvelopeJoins: the walk -/
namespace Go.Proofs.Ytmeljjijofkllaa
open Go.RowKit Go.Sort

theorem lent_rd {w : World} {base g n d : Nat} {xs ys : List Rng} (h : w.ownsRow base 47 4 (.slice (some ⟨g, 0, none⟩) (n + 12) d) (n + 12) ((xs ++ ys).flatMap Rng.cells)) (hn : xs.length = n) :
    RdE Rng.cells 4 w (fun b => b = g) (some ⟨g, 0, none⟩) (n + 12) (xs ++ ys) ∧ RdE Rng.cells 4 w (fun b => b = g) (some ⟨g, 0, none⟩) n xs := by
  have h1 : RdE Rng.cells 4 w (fun b => b = g) (some ⟨g, 0, none⟩) (n + 12) (xs ++ ys) := (RdE.of_own Rng.clen (by omega) h).imp (fun b hb => by have := hb.2.2; simp [Value.ownBlock] at this; exact this.symm)
  have h2 := h1.take Rng.clen (m := n) (by omega)
  rw [List.take_append_of_le_length (by omega), List.take_of_length_le (by omega)] at h2
  exact ⟨h1, h2⟩

theorem joinRes_le (a b : List Rng) (more : Int) : (joinRes a b more).length ≤ b.length := by
  unfold joinRes
  split
  · rw [List.length_zipWith]; omega
  · simp

set_option maxHeartbeats 1000000 in
theorem joins_walk (A B : Option Addr) (n m c d : Nat) (more : Int) (a b : List Rng) (S S' : Nat → Prop) (w : World) (hx : RdE Rng.cells 4 w S A n a) (hy : RdE Rng.cells 4 w S' B m b) (hS : ∀ b, S b → b < w.heap.size) (hS' : ∀ b, S' b → b < w.heap.size) :
    Calls Try.prog 5 #[.slice A n c, .slice B m d, .int .i64 more] w fun e w' => e = .returned (.bool true) ∧ Below w.heap.size w w' := by
  have HX := Lib.hid hx
  have HY := Lib.hid hy
  have HS := Lib.hid hS
  have HS' := Lib.hid hS'
  clear hx hy hS hS'
  by_cases hn : 3000 < n
  · go_enter Try.func5, Try.ntmps5
    go_wp2_with fail
    refine (awake_any w).mono ?_
    rintro e wa ⟨rfl, hba⟩
    have HA := Lib.hid hba
    clear hba
    go_wp2_with fail
    go_ret
    exact ⟨rfl, HA.out⟩
  · by_cases hm : 3000 < m
    · go_enter Try.func5, Try.ntmps5
      go_wp2_with fail
      refine (awake_any w).mono ?_
      rintro e wa ⟨rfl, hba⟩
      have HA := Lib.hid hba
      clear hba
      go_wp2_with fail
      go_ret
      exact ⟨rfl, HA.out⟩
    · go_enter Try.func5, Try.ntmps5
      go_wp2_with fail
      refine (awake_any w).mono ?_
      rintro e wa ⟨rfl, hba⟩
      have HA := Lib.hid hba
      clear hba
      go_wp2_with fail
      refine (lentRngs_any A n c a S wa (HX.out.keep (Keeps.below HA.out HS.out)) (fun b hb => Nat.lt_of_lt_of_le (HS.out b hb) HA.out.size) (by omega)).mono ?_
      rintro e w1 ⟨g1, d1, rfl, hd1, ho1, hb1⟩
      have HO1 := Lib.hid ho1
      have HB1 := Lib.hid (below_then HA.out hb1)
      clear ho1 hb1
      go_wp2_with fail
      refine (lentRngs_any B m d b S' w1 (HY.out.keep (Keeps.below HB1.out HS'.out)) (fun b hb => Nat.lt_of_lt_of_le (HS'.out b hb) HB1.out.size) (by omega)).mono ?_
      rintro e w2 ⟨g2, d2, rfl, hd2, ho2, hb2⟩
      have HO1' := Lib.hid (own_below HO1.out hb2)
      have HO2 := Lib.hid ho2
      have HB2 := Lib.hid (below_then HB1.out hb2)
      clear ho2 hb2
      go_wp2_with fail
      refine (join_any (some ⟨g1, 0, none⟩) (some ⟨g2, 0, none⟩) n m d1 d2 a b more w2 _ _ (lent_rd HO1'.out HX.out.num).2 (lent_rd HO2.out HY.out.num).2 (fun b hb => by rw [hb]; exact (HO1'.out.lt g1 rfl).2) (fun b hb => by rw [hb]; exact (HO2.out.lt g2 rfl).2) (by omega) (by omega)).mono ?_
      rintro e w3 ⟨D3, n3, d3, he3, hd3, hq3, hb3⟩
      have HQ3 := Lib.hid hq3
      have HO13 := Lib.hid (own_below HO1'.out hb3)
      have HO23 := Lib.hid (own_below HO2.out hb3)
      have HZ3 := Lib.hid hb3.size
      have HB3 := Lib.hid (below_then HB2.out hb3)
      clear hq3 hb3 hd3
      obtain ⟨er, her⟩ : ∃ er, joinErr a b more = er := ⟨_, rfl⟩
      rw [her] at he3
      subst he3
      have HER := Lib.hid her
      clear her
      go_wp2_with fail
      refine (keptRngs_any A g1 0 n c d1 a _ _ w3 (HX.out.keep (Keeps.below HB3.out HS.out)) (lent_rd HO13.out HX.out.num).1 (by omega) (by omega)).mono ?_
      rintro e w4 ⟨rfl, hb4⟩
      have HO14 := Lib.hid (own_below HO13.out hb4)
      have HO24 := Lib.hid (own_below HO23.out hb4)
      have HQ4 := Lib.hid (HQ3.out.keep (Keeps.below hb4 (fun b hb => hb.2)))
      have HZ4 := Lib.hid hb4.size
      have HB4 := Lib.hid (below_then HB3.out hb4)
      clear hb4
      go_wp2_with fail
      refine (keptRngs_any B g2 0 m d d2 b _ _ w4 (HY.out.keep (Keeps.below HB4.out HS'.out)) (lent_rd HO24.out HY.out.num).1 (by omega) (by omega)).mono ?_
      rintro e w5 ⟨rfl, hb5⟩
      have HO15 := Lib.hid (own_below HO14.out hb5)
      have HO25 := Lib.hid (own_below HO24.out hb5)
      have HQ5 := Lib.hid (HQ4.out.keep (Keeps.below hb5 (fun b hb => Nat.lt_of_lt_of_le hb.2 HZ4.out)))
      have HZ5 := Lib.hid (Nat.le_trans HZ4.out hb5.size)
      have HB5 := Lib.hid (below_then HB4.out hb5)
      clear hb5
      have hg1 := HO1.out.lt g1 rfl
      have hg2 := HO2.out.lt g2 rfl
      have hw2 := HB2.out.size
      have hwa := HA.out.size
      have hw1 := HB1.out.size
      have hl2 : w2.heap.size ≤ w5.heap.size := Nat.le_trans HZ3.out HZ5.out
      go_wp2_with fail
      refine (overRngs_any _ g1 n d1 _ w5 HO15.out (by omega) (by omega)).mono ?_
      rintro e w6 ⟨rfl, hg6⟩
      have HO26 := Lib.hid (HO25.out.kept hg6 (by simp [Value.ownBlock]; omega))
      have HQ6 := Lib.hid (HQ5.out.keep (Keeps.grown hg6 (fun b hb => ⟨Nat.lt_of_lt_of_le hb.2 HZ5.out, fun h => by injection h with h; have := hb.1; omega⟩)))
      have HB6 := Lib.hid (HB5.out.grown hg6 (by have := HB5.out.size; omega) (fun g hg => by injection hg with hg; omega))
      have HZ6 := Lib.hid hg6.size
      clear hg6
      go_wp2_with fail
      refine (overRngs_any _ g2 m d2 _ w6 HO26.out (by omega) (by omega)).mono ?_
      rintro e w7 ⟨rfl, hg7⟩
      have HQ7 := Lib.hid (HQ6.out.keep (Keeps.grown hg7 (fun b hb => ⟨Nat.lt_of_lt_of_le hb.2 (Nat.le_trans HZ5.out HZ6.out), fun h => by injection h with h; have := hb.1; omega⟩)))
      have HB7 := Lib.hid (HB6.out.grown hg7 (by have := HB6.out.size; omega) (fun g hg => by injection hg with hg; omega))
      have HZ7 := Lib.hid (Nat.le_trans HZ6.out hg7.size)
      clear hg7
      go_wp2_with fail
      refine (refJoin_any A B n m c d a b more w7 _ _ (HX.out.keep (Keeps.below HB7.out HS.out)) (HY.out.keep (Keeps.below HB7.out HS'.out)) (fun b hb => Nat.lt_of_lt_of_le (HS.out b hb) HB7.out.size) (fun b hb => Nat.lt_of_lt_of_le (HS'.out b hb) HB7.out.size) (by omega) (by omega)).mono ?_
      rintro e w8 ⟨D8, n8, d8, he8, hd8, hq8, hb8⟩
      rw [HER.out] at he8
      subst he8
      have HQ8 := Lib.hid hq8
      have HQ78 := Lib.hid (HQ7.out.keep (Keeps.below hb8 (fun b hb => Nat.lt_of_lt_of_le hb.2 (Nat.le_trans HZ5.out HZ7.out))))
      have HB8 := Lib.hid (below_then HB7.out hb8)
      have HZ8 := Lib.hid (Nat.le_trans HZ7.out hb8.size)
      clear hq8 hb8 hd8
      have e3 : n3 ≤ 1000000000000000 := by have h := joinRes_le a b more; rw [HQ3.out.num, HY.out.num] at h; omega
      have e8 : n8 ≤ 1000000000000000 := by have h := joinRes_le a b more; rw [HQ8.out.num, HY.out.num] at h; omega
      go_wp2_with fail
      refine (sameRngs_any D3 D8 n3 n8 d3 d8 (joinRes a b more) (joinRes a b more) _ _ w8 HQ78.out HQ8.out (fun b hb => Nat.lt_of_lt_of_le hb.2 (Nat.le_trans HZ5.out HZ8.out)) (fun b hb => hb.2) e3 e8).mono ?_
      rintro e w9 ⟨rfl, hb9⟩
      rw [sameRs_self]
      have HB9 := Lib.hid (below_then HB8.out hb9)
      clear hb9
      go_wp2_with fail
      go_ret
      exact ⟨rfl, HB9.out⟩

end Go.Proofs.Ytmeljjijofkllaa
