import Derived.Test.YtfepmbpcdfdlhaaX08
set_option linter.unusedSimpArgs false
set_option linter.unusedVariables false
/- Rat.norm: the walk (printed by wip/Int/gen_r1.py) -/
namespace Go.Proofs.Ytfepmbpcdfdlhaa
open Go.RowKit Go.Sort

/-- a Rat at the head of block b -/
def RatAt (w : World) (b : Nat) (q : Rat) : Prop := IntAt w b 0 q.num ∧ IntAt w b 2 (q.den : Int)

theorem normRat_zero {w : World} {b : Nat} {A B : Int} (h : A = 0) (ha : IntAt w b 0 A) (hb : IntAt w b 2 1) : RatAt w b (Rat.divInt A B) := by
  subst h
  rw [Rat.zero_divInt]
  exact ⟨ha, hb⟩
theorem normRat_one {w : World} {b : Nat} {A B : Int} (h : B = 1) (ha : IntAt w b 0 A) (hb : IntAt w b 2 B) : RatAt w b (Rat.divInt A B) := by
  subst h
  have h1 := rn_pos (a := A) (b := 1) (by decide)
  have e1 : (Rat.divInt A 1).num = A := by rw [h1.1]; simp
  have e2 : (Rat.divInt A 1).den = 1 := by rw [h1.2]; simp
  refine ⟨by rw [e1]; exact ha, by rw [e2]; exact hb⟩

theorem normRat_g1 {w : World} {b : Nat} {A B : Int} (hB : 0 < B) (h : Nat.gcd A.natAbs B.natAbs = 1) (ha : IntAt w b 0 A) (hb : IntAt w b 2 B) : RatAt w b (Rat.divInt A B) := by
  have h1 := rn_pos (a := A) hB
  rw [h] at h1
  have e1 : (Rat.divInt A B).num = A := by rw [h1.1]; simp
  have e2 : ((Rat.divInt A B).den : Int) = B := by rw [h1.2]; simp; omega
  exact ⟨by rw [e1]; exact ha, by rw [e2]; exact hb⟩
theorem normRat_store {w : World} {b : Nat} {A B : Int} {G : Nat} {A2 A4 : Option Addr} {c2 c4 : Nat} (hB : 0 < B) (hG : G = Nat.gcd A.natAbs B.natAbs) (ha : IntAt w b 0 A) (hb : IntAt w b 2 B) (hc2 : (dig (A.natAbs / G)).length ≤ c2) (hc4 : (dig (B.natAbs / G)).length ≤ c4)
    (hr2 : RdE Wc 1 w (fun d => d < w.heap.size) A2 (dig (A.natAbs / G)).length (dig (A.natAbs / G))) (hr4 : RdE Wc 1 w (fun d => d < w.heap.size) A4 (dig (B.natAbs / G)).length (dig (B.natAbs / G))) :
    RatAt ((w.setCell ⟨b, 1, none⟩ (.slice A2 (dig (A.natAbs / G)).length c2)).setCell ⟨b, 3, none⟩ (.slice A4 (dig (B.natAbs / G)).length c4)) b (Rat.divInt A B) ∧
      UpB w ((w.setCell ⟨b, 1, none⟩ (.slice A2 (dig (A.natAbs / G)).length c2)).setCell ⟨b, 3, none⟩ (.slice A4 (dig (B.natAbs / G)).length c4)) b := by
  obtain ⟨dA, cA, a1, _, _⟩ := ha.abs
  obtain ⟨dB, cB, b1, _, _⟩ := hb.abs
  have a0 := ha.neg
  have b0 := hb.neg
  have hlt := ha.lt
  have hU : UpB w ((w.setCell ⟨b, 1, none⟩ (.slice A2 (dig (A.natAbs / G)).length c2)).setCell ⟨b, 3, none⟩ (.slice A4 (dig (B.natAbs / G)).length c4)) b := by
    refine ⟨rfl, rfl, rfl, by simp, fun k hk hne => ?_, fun o k x hv => ?_⟩
    · rw [Below.heap_setCell _ _ _ _ hne, Below.heap_setCell _ _ _ _ hne]
    · have h1 : o ≠ 1 := by rintro rfl; rw [a1] at hv; cases hv
      have h3 : o ≠ 3 := by rintro rfl; rw [b1] at hv; cases hv
      simp [go_sem, h1, h3, hv]
  have hn := rn_num (a := A) hB
  have hd := (rn_pos (a := A) hB).2
  rw [← hG] at hn hd
  refine ⟨⟨?_, ?_⟩, hU⟩
  · refine IntAt.of_cells (s := decide (A < 0)) (A := A2) (n := (dig (A.natAbs / G)).length) (c := c2) ?_ ?_ ?_ ?_ hc2 ?_ ?_ ?_
    · simp [go_sem, a0]
    · simp [go_sem, a1]
    · simp only [hn.2]
    · rw [hn.1]
    · rw [hn.1]; exact (hU.words hr2).imp fun d hd => Nat.lt_of_lt_of_le hd hU.size
    · simp [go_sem, ha.fz]
    · simp [go_sem]; exact ha.fz1
  · refine IntAt.of_cells (s := false) (A := A4) (n := (dig (B.natAbs / G)).length) (c := c4) ?_ ?_ ?_ ?_ hc4 ?_ ?_ ?_
    · have e : decide (B < 0) = false := by simp; omega
      rw [e] at b0
      simp [go_sem, b0]
    · have b1' : w.cell? ⟨b, 3, none⟩ = some (.slice dB (dig B.natAbs).length cB) := b1
      simp [go_sem, b1']
    · simp
    · rw [Int.natAbs_natCast, hd]
    · rw [Int.natAbs_natCast, hd]; exact (hU.words hr4).imp fun d hd => Nat.lt_of_lt_of_le hd hU.size
    · simp [go_sem, hb.fz]
    · simp [go_sem]; exact hb.fz1
theorem rnn {w : World} {b : Nat} {A B : Int} (h : RatAt w b (Rat.divInt (-A) (-B))) : RatAt w b (Rat.divInt A B) := by rwa [rn_neg] at h

set_option maxRecDepth 100000 in
set_option maxHeartbeats 8000000 in
theorem norm_rat (b : Nat) (A B : Int) (w : World) (hA : IntAt w b 0 A) (hB : IntAt w b 2 B) (hB0 : B ≠ 0) (hlA : (dig A.natAbs).length ≤ 1000000) (hlB : (dig B.natAbs).length ≤ 1000000) :
    Calls Try.prog 85 #[.pointer (some ⟨b, 0, none⟩)] w fun e w' => e = .returned (.pointer (some ⟨b, 0, none⟩)) ∧ RatAt w' b (Rat.divInt A B) ∧ UpB w w' b := by
  have HA := Lib.hid hA
  have HB := Lib.hid hB
  obtain ⟨dA, nA, cA, sA, HNA, HSA, a0, a1, hcA, HRA⟩ := hA.open
  obtain ⟨dB, nB, cB, sB, HNB, HSB, b0, b1, hcB, HRB⟩ := hB.open
  rw [← HNA.out] at hlA
  rw [← HNB.out] at hlB
  have hnB : 0 < nB := by rw [HNB.out]; exact List.length_pos_iff.2 (dig_pos (by omega))
  have eB : ((nB : Int) == 0) = false := by simp; omega
  clear hA hB
  by_cases hneg : B < 0
  · obtain rfl : sB = true := by rw [HSB.out]; simp [hneg]
    go_enter Try.func85, Try.ntmps85
    go_wp2_with fail
    refine wp_region_G (S := (fun _ => True)) 6 (by kernel_rfl) ?_ (fun hHeld => ?_)
    · first | exact True.intro | ((try dsimp only); go_keep)
    refine tkG (i := 0) (v := ?_) rfl (by kernel_rfl) (Or.inl ⟨by kernel_rfl, ?_⟩) (by assumption) ?_
    rotate_left 1
    · (intro w hSw; (try dsimp only at hSw); go_simp; try with_reducible rfl)
    try simp only [lyA, lyB, lyC, Act.put, lyD, lyE, lyF]
    refine tkG (i := 1) (v := ?_) rfl (by kernel_rfl) (Or.inl ⟨by kernel_rfl, ?_⟩) (by assumption) ?_
    rotate_left 1
    · (intro w hSw; (try dsimp only at hSw); go_simp; try with_reducible rfl)
    try simp only [lyA, lyB, lyC, Act.put, lyD, lyE, lyF]
    refine tkG (i := 2) (v := ?_) rfl (by kernel_rfl) (Or.inl ⟨by kernel_rfl, ?_⟩) (by assumption) ?_
    rotate_left 1
    · (intro w hSw; (try dsimp only at hSw); go_simp; try with_reducible rfl)
    try simp only [lyA, lyB, lyC, Act.put, lyD, lyE, lyF]
    refine tkG (i := 3) (v := ?_) rfl (by kernel_rfl) (Or.inl ⟨by kernel_rfl, ?_⟩) (by assumption) ?_
    rotate_left 1
    · (intro w hSw; (try dsimp only at hSw); go_simp; try with_reducible rfl)
    try simp only [lyA, lyB, lyC, Act.put, lyD, lyE, lyF]
    refine tkG (i := 4) (v := ?_) rfl (by kernel_rfl) (Or.inl ⟨by kernel_rfl, ?_⟩) (by assumption) ?_
    rotate_left 1
    · (intro w hSw; (try dsimp only at hSw); go_simp; try with_reducible rfl)
    try simp only [lyA, lyB, lyC, Act.put, lyD, lyE, lyF]
    refine tkG (i := 5) (v := ?_) rfl (by kernel_rfl) (Or.inl ⟨by kernel_rfl, ?_⟩) (by assumption) ?_
    rotate_left 1
    · (intro w hSw; (try dsimp only at hSw); go_simp; try with_reducible rfl)
    try simp only [lyA, lyB, lyC, Act.put, lyD, lyE, lyF]
    refine wpAnyG_one (i := 6) (by kernel_rfl) rfl (fun K hK => ?_)
    go_simp
    (refine (neg_int b 0 b 0 A A (w.drew) (drew_int HA.out) (drew_int HA.out) (by rw [← HNA.out]; omega)).mono ?_; rintro e w4 ⟨rfl, hi4, hu4⟩; have HI4 := Lib.hid hi4; have HU4 : Hid (UpB w w4 b) := Lib.hid ((UpB.of_below b ((Below.refl _ _).drew)).trans hu4.toB); have HB4 := Lib.hid ((drew_int HB.out).upd hu4 (fun _ => by decide)); clear hi4 hu4)
    try go_wp2_with fail
    refine hK.out _ _ ?_ (fun hHeld => ?_)
    · exact .inr (by kernel_rfl)
    clear hK K
    try simp only [lyA, lyB, lyC, Act.put, lyD, lyE, lyF]
    refine wpAnyG_done (by kernel_rfl) ?_ _
    go_wp2_with fail
    refine wp_region_G (S := (fun _ => True)) 6 (by kernel_rfl) ?_ (fun hHeld => ?_)
    · first | exact True.intro | ((try dsimp only); go_keep)
    refine tkG (i := 0) (v := ?_) rfl (by kernel_rfl) (Or.inl ⟨by kernel_rfl, ?_⟩) (by assumption) ?_
    rotate_left 1
    · (intro w hSw; (try dsimp only at hSw); go_simp; try with_reducible rfl)
    try simp only [lyA, lyB, lyC, Act.put, lyD, lyE, lyF]
    refine tkG (i := 1) (v := ?_) rfl (by kernel_rfl) (Or.inl ⟨by kernel_rfl, ?_⟩) (by assumption) ?_
    rotate_left 1
    · (intro w hSw; (try dsimp only at hSw); go_simp; try with_reducible rfl)
    try simp only [lyA, lyB, lyC, Act.put, lyD, lyE, lyF]
    refine tkG (i := 2) (v := ?_) rfl (by kernel_rfl) (Or.inl ⟨by kernel_rfl, ?_⟩) (by assumption) ?_
    rotate_left 1
    · (intro w hSw; (try dsimp only at hSw); go_simp; try with_reducible rfl)
    try simp only [lyA, lyB, lyC, Act.put, lyD, lyE, lyF]
    refine tkG (i := 3) (v := ?_) rfl (by kernel_rfl) (Or.inl ⟨by kernel_rfl, ?_⟩) (by assumption) ?_
    rotate_left 1
    · (intro w hSw; (try dsimp only at hSw); go_simp; try with_reducible rfl)
    try simp only [lyA, lyB, lyC, Act.put, lyD, lyE, lyF]
    refine tkG (i := 4) (v := ?_) rfl (by kernel_rfl) (Or.inl ⟨by kernel_rfl, ?_⟩) (by assumption) ?_
    rotate_left 1
    · (intro w hSw; (try dsimp only at hSw); go_simp; try with_reducible rfl)
    try simp only [lyA, lyB, lyC, Act.put, lyD, lyE, lyF]
    refine tkG (i := 5) (v := ?_) rfl (by kernel_rfl) (Or.inl ⟨by kernel_rfl, ?_⟩) (by assumption) ?_
    rotate_left 1
    · (intro w hSw; (try dsimp only at hSw); go_simp; try with_reducible rfl)
    try simp only [lyA, lyB, lyC, Act.put, lyD, lyE, lyF]
    refine wpAnyG_one (i := 6) (by kernel_rfl) rfl (fun K hK => ?_)
    go_simp
    (refine (neg_int b 2 b 2 B B (w4.drew) (drew_int HB4.out) (drew_int HB4.out) (by rw [← HNB.out]; omega)).mono ?_; rintro e w5 ⟨rfl, hi5, hu5⟩; have HI5 := Lib.hid hi5; have HU5 : Hid (UpB w w5 b) := Lib.hid ((HU4.out.trans (UpB.of_below b ((Below.refl _ _).drew))).trans hu5.toB); have HA5 := Lib.hid ((drew_int HI4.out).upd hu5 (fun _ => by decide)); clear hi5 hu5)
    try go_wp2_with fail
    refine hK.out _ _ ?_ (fun hHeld => ?_)
    · exact .inr (by kernel_rfl)
    clear hK K
    try simp only [lyA, lyB, lyC, Act.put, lyD, lyE, lyF]
    refine wpAnyG_done (by kernel_rfl) ?_ _
    have hnA : nA = (dig (-A).natAbs).length := by rw [Int.natAbs_neg]; exact HNA.out
    have hnB : nB = (dig (-B).natAbs).length := by rw [Int.natAbs_neg]; exact HNB.out
    have hBpos : 0 < -B := by omega
    clear a0 a1 b0 b1 hcA hcB HRA HRB HSA HSB
    obtain ⟨dA', nA', cA', sA', HNA', HSA, a0, a1, hcA, HRA⟩ := HA5.out.open
    obtain ⟨dB', nB', cB', sB', HNB', HSB, b0, b1, hcB, HRB⟩ := HI5.out.open
    have enA : nA' = nA := by rw [HNA'.out, hnA]
    have enB : nB' = nB := by rw [HNB'.out, hnB]
    rw [← enA] at hlA
    rw [← enB] at hlB
    clear HNA HNB hnA hnB eB enA enB
    obtain ⟨A', hA'⟩ : ∃ A', A' = -A := ⟨_, rfl⟩
    obtain ⟨B', hB'⟩ : ∃ B', B' = -B := ⟨_, rfl⟩
    rw [← hA'] at HA5 HNA' HRA
    rw [← hB'] at HI5 HNB' HRB hBpos
    have HRN : Hid (∀ {w : World}, RatAt w b (Rat.divInt A' B') → RatAt w b (Rat.divInt A B)) := Lib.hid (fun h => rnn (by rw [← hA', ← hB']; exact h))
    have HNA := HNA'
    have HNB := HNB'
    clear hA' hB' hneg HNA' HNB'
    by_cases ha0 : A' = 0
    · have hn0 : nA' = 0 := by rw [HNA.out, ha0]; rfl
      subst hn0
      have HA0 := Lib.hid ha0
      clear ha0
      go_wp2_with fail
      refine (setI_int b 2 _ 1 w5 HI5.out (by omega) (by omega)).mono ?_
      rintro e w8 ⟨rfl, hi8, hu8⟩
      have HI8 := Lib.hid hi8
      have HU8 := Lib.hid hu8
      have HA8 := Lib.hid ((HA5.out).upd hu8 (fun _ => by decide))
      clear hi8 hu8
      go_wp2_with fail
      go_ret
      exact ⟨rfl, HRN.out <| normRat_zero HA0.out HA8.out HI8.out, HU5.out.trans HU8.out.toB⟩
    · have hnA : 0 < nA' := by rw [HNA.out]; exact List.length_pos_iff.2 (dig_pos (by omega))
      have eA : ((nA' : Int) == 0) = false := by simp; omega
      by_cases hone : B' = 1
      · have hn1 : nB' = 1 := by rw [HNB.out, hone]; rfl
        subst hn1
        have hrb := HRB.out
        rw [hone] at hrb
        obtain ⟨bd, od, rfl, _, hcd⟩ := hrb.elem Wc.clen (show (dig (1 : Int).natAbs)[0]? = some 1 from rfl) (by omega)
        have qd : (w5).cell? ⟨bd, od, none⟩ = some (.int .u32 1) := hcd 0 _ rfl
        have HONE := Lib.hid hone
        clear hrb hcd hone
        go_wp2_with fail
        go_ret
        exact ⟨rfl, HRN.out <| normRat_one HONE.out HA5.out HI5.out, HU5.out⟩
      · have HONE := Lib.hid hone
        clear hone
        have HG : Hid (Nat.gcd (A').natAbs (B').natAbs ≠ 0) := Lib.hid (by have := Nat.gcd_pos_of_pos_left (B').natAbs (show 0 < (A').natAbs by omega); omega)
        obtain ⟨G, hG⟩ : ∃ G, G = Nat.gcd (A').natAbs (B').natAbs := ⟨_, rfl⟩
        rw [← hG] at HG
        have hGl : (dig G).length ≤ 1000000 := by
          have h1 : G ≤ (A').natAbs := by rw [hG]; exact Nat.le_of_dvd (by omega) (Nat.gcd_dvd_left _ _)
          have h2 := dig_len_mono h1
          rw [← HNA.out] at h2
          omega
        have HGG := Lib.hid hG
        clear hG
        by_cases hb1 : nB' = 1
        · obtain ⟨v, hv⟩ := get_some HRB.out.num (show 0 < nB' by omega)
          have hv1 : v ≠ 1 := fun e => HONE.out (by
            have h3 := HNB.out
            rw [hb1] at h3
            have h4 := nv_dig (B').natAbs
            match hd : dig (B').natAbs, h3 with
            | [t], _ => rw [hd] at hv h4; simp at hv; simp [nv] at h4; omega)
          obtain ⟨bd, od, rfl, _, hcd⟩ := HRB.out.elem Wc.clen hv (by omega)
          have qd : (w5).cell? ⟨bd, od, none⟩ = some (.int .u32 (v : Int)) := hcd 0 _ rfl
          have ev : ((v : Int) == 1) = false := by simp; omega
          subst hb1
          clear hcd hv
          go_wp2_with fail
          clear qd ev
          refine wp_region_held_drew (S := (fun w' => w'.cell? ⟨b, 1, none⟩ = some (.slice dA' nA' cA') ∧ w'.cell? ⟨b, 2 + 1, none⟩ = some (.slice (some ⟨bd, od, none⟩) 1 cB'))) (by kernel_rfl) ?_ (fun hHeld => ?_)
          · first | exact True.intro | ((try dsimp only); go_keep)
          refine tkH (i := 0) (v := ?_) rfl (by kernel_rfl) (Or.inl ⟨by kernel_rfl, ?_⟩) (by assumption) ?_
          rotate_left 1
          · (intro w hSw; (try dsimp only at hSw); go_simp; try with_reducible rfl)
          try simp only [lyA, lyB, lyC, Act.put, lyD, lyE, lyF]
          refine tkH (i := 1) (v := ?_) rfl (by kernel_rfl) (Or.inl ⟨by kernel_rfl, ?_⟩) (by assumption) ?_
          rotate_left 1
          · (intro w hSw; (try dsimp only at hSw); go_simp; try with_reducible rfl)
          try simp only [lyA, lyB, lyC, Act.put, lyD, lyE, lyF]
          refine tkH (i := 2) (v := ?_) rfl (by kernel_rfl) (Or.inl ⟨by kernel_rfl, ?_⟩) (by assumption) ?_
          rotate_left 1
          · (intro w hSw; (try dsimp only at hSw); go_simp; try with_reducible rfl)
          try simp only [lyA, lyB, lyC, Act.put, lyD, lyE, lyF]
          refine tkH (i := 3) (v := ?_) rfl (by kernel_rfl) (Or.inl ⟨by kernel_rfl, ?_⟩) (by assumption) ?_
          rotate_left 1
          · (intro w hSw; (try dsimp only at hSw); go_simp; try with_reducible rfl)
          try simp only [lyA, lyB, lyC, Act.put, lyD, lyE, lyF]
          refine tkH (i := 4) (v := ?_) rfl (by kernel_rfl) (Or.inl ⟨by kernel_rfl, ?_⟩) (by assumption) ?_
          rotate_left 1
          · (intro w hSw; (try dsimp only at hSw); go_simp; try with_reducible rfl)
          try simp only [lyA, lyB, lyC, Act.put, lyD, lyE, lyF]
          refine tkH (i := 5) (v := ?_) rfl (by kernel_rfl) (Or.inl ⟨by kernel_rfl, ?_⟩) (by assumption) ?_
          rotate_left 1
          · (intro w hSw; (try dsimp only at hSw); go_simp; try with_reducible rfl)
          try simp only [lyA, lyB, lyC, Act.put, lyD, lyE, lyF]
          refine tkH (i := 6) (v := ?_) rfl (by kernel_rfl) (Or.inl ⟨by kernel_rfl, ?_⟩) (by assumption) ?_
          rotate_left 1
          · (intro w hSw; (try dsimp only at hSw); go_simp; try with_reducible rfl)
          try simp only [lyA, lyB, lyC, Act.put, lyD, lyE, lyF]
          refine tkH (i := 7) (v := ?_) rfl (by kernel_rfl) (Or.inl ⟨by kernel_rfl, ?_⟩) (by assumption) ?_
          rotate_left 1
          · (intro w hSw; (try dsimp only at hSw); go_simp; try with_reducible rfl)
          try simp only [lyA, lyB, lyC, Act.put, lyD, lyE, lyF]
          refine tkH (i := 8) (v := ?_) rfl (by kernel_rfl) (Or.inl ⟨by kernel_rfl, ?_⟩) (by assumption) ?_
          rotate_left 1
          · (intro w hSw; (try dsimp only at hSw); go_simp; try with_reducible rfl)
          try simp only [lyA, lyB, lyC, Act.put, lyD, lyE, lyF]
          refine tkH (i := 9) (v := ?_) rfl (by kernel_rfl) (Or.inl ⟨by kernel_rfl, ?_⟩) (by assumption) ?_
          rotate_left 1
          · (intro w hSw; (try dsimp only at hSw); go_simp; try with_reducible rfl)
          try simp only [lyA, lyB, lyC, Act.put, lyD, lyE, lyF]
          refine wpAnyH_ready (rs := [10]) (by kernel_rfl) (by simp) ?_
          refine AllReadyH.cons rfl (fun K hK => ?_) AllReadyH.nil
          go_simp
          (refine (common_any _ _ _ _ _ _ (A').natAbs (B').natAbs ((w5).drew) (HRA.out.keep (fun _ _ => rfl)) (HRB.out.keep (fun _ _ => rfl)) hlA (by omega) hcA hcB).mono ?_; rw [← HGG.out]; rintro e w1 ⟨A1, c1, rfl, hc1, hr1, hb1⟩; have k1 := bat hb1 hHeld.1; have k2 := bat hb1 hHeld.2; have HR1 := Lib.hid hr1; have HB1 : Hid (Below (w5).heap.size (w5) w1) := Lib.hid (((Below.refl (w5).heap.size (w5)).drew).trans hb1); clear hr1 hb1)
          try go_wp2_with fail
          refine hK.out _ _ ?_ (fun hHeld => ?_)
          · first | exact True.intro | ((try dsimp only); go_keep)
          clear hK K
          try simp only [lyA, lyB, lyC, Act.put, lyD, lyE, lyF]
          refine tkH (i := 11) (v := ?_) rfl (by kernel_rfl) (Or.inl ⟨by kernel_rfl, ?_⟩) (by assumption) ?_
          rotate_left 1
          · (intro w hSw; (try dsimp only at hSw); go_simp; try with_reducible rfl)
          try simp only [lyA, lyB, lyC, Act.put, lyD, lyE, lyF]
          refine wpAnyH_done (by kernel_rfl) ?_ _
          have IA1 := Lib.hid ((HA5.out).below HB1.out)
          have IB1 := Lib.hid ((HI5.out).below HB1.out)
          have RA1 : Hid (RdE Wc 1 w1 (fun d => d < w1.heap.size) dA' nA' (dig (A').natAbs)) := Lib.hid ((HRA.out.keep (w' := w1) (fun d hd => HB1.out.block d hd)).imp fun d hd => Nat.lt_of_lt_of_le hd HB1.out.size)
          have RB1 : Hid (RdE Wc 1 w1 (fun d => d < w1.heap.size) (some ⟨bd, od, none⟩) 1 (dig (B').natAbs)) := Lib.hid ((HRB.out.keep (w' := w1) (fun d hd => HB1.out.block d hd)).imp fun d hd => Nat.lt_of_lt_of_le hd HB1.out.size)
          clear hHeld
          by_cases hg1 : G = 1
          · subst hg1
            obtain ⟨bg, og, rfl, _, hcg⟩ := HR1.out.elem Wc.clen (show (dig 1)[0]? = some 1 from rfl) (by omega)
            have qg : w1.cell? ⟨bg, og, none⟩ = some (.int .u32 1) := hcg 0 _ rfl
            have hd1 : (dig 1).length = 1 := rfl
            rw [hd1]
            clear hcg
            go_wp2_with fail
            go_ret
            exact ⟨rfl, HRN.out <| normRat_g1 (by omega) HGG.out.symm IA1.out IB1.out, HU5.out.trans (UpB.of_below b HB1.out)⟩
          · obtain ⟨ng, hng⟩ : ∃ ng, ng = (dig G).length := ⟨_, rfl⟩
            have hng0 : 0 < ng := by rw [hng]; exact List.length_pos_iff.2 (dig_pos HG.out)
            rw [← hng] at hc1 hGl ⊢
            have HNG := Lib.hid hng
            have HR1' : Hid (RdE Wc 1 w1 (fun d => d < w1.heap.size) A1 ng (dig G)) := Lib.hid (by rw [HNG.out]; exact HR1.out)
            have HG1 := Lib.hid hg1
            clear hng hg1 HR1
            obtain ⟨v, hv⟩ := get_some HR1'.out.num hng0
            obtain ⟨bg, og, rfl, _, hcg⟩ := HR1'.out.elem Wc.clen hv (by omega)
            have qg : w1.cell? ⟨bg, og, none⟩ = some (.int .u32 (v : Int)) := hcg 0 _ rfl
            have hor : ng = 1 → v ≠ 1 := fun h1 h2 => HG1.out (by
              have h3 := HNG.out
              rw [h1] at h3
              have h4 := nv_dig G
              match hd : dig G, h3 with
              | [t], _ => rw [hd] at hv h4; simp at hv; simp [nv] at h4; omega)
            clear hcg hv
            by_cases hng1 : ng = 1
            · have ev9 : ((v : Int) == 1) = false := by have := hor hng1; simp; omega
              subst hng1
              clear hor
              go_wp2_with fail
              refine (div_any _ _ _ _ _ _ (A').natAbs G w1 RA1.out HR1'.out (by omega) (by omega) HG.out).mono ?_
              rintro e w2 ⟨A2, c2, A3, c3, rfl, hc2, hc3, hr2, hr3, hb2⟩
              have k3 := bat hb2 k1
              have k4 := bat hb2 k2
              have HR2 := Lib.hid hr2
              have HB2 := Lib.hid hb2
              have HG2 := Lib.hid ((HR1'.out.keep (Keeps.below hb2 (fun b hb => hb))).imp (S' := fun b => b < w2.heap.size) fun b hb => Nat.lt_of_lt_of_le hb hb2.size)
              have RB2 := Lib.hid ((RB1.out.keep (Keeps.below hb2 (fun b hb => hb))).imp (S' := fun b => b < w2.heap.size) fun b hb => Nat.lt_of_lt_of_le hb hb2.size)
              clear hr2 hr3 hb2
              go_wp2_with fail
              refine (div_any _ _ _ _ _ _ (B').natAbs G w2 RB2.out HG2.out (by omega) (by omega) HG.out).mono ?_
              rintro e w3 ⟨A4, c4, A5, c5, rfl, hc4, hc5, hr4, hr5, hb3⟩
              have k5 := bat hb3 k3
              have k6 := bat hb3 k4
              have HR4 := Lib.hid hr4
              have HB3 := Lib.hid hb3
              have HR2' := Lib.hid ((HR2.out.keep (Keeps.below hb3 (fun b hb => hb.2))).imp (S' := fun b => b < w3.heap.size) fun b hb => Nat.lt_of_lt_of_le hb.2 hb3.size)
              have IA3 := Lib.hid ((IA1.out.below HB2.out).below hb3)
              have IB3 := Lib.hid ((IB1.out.below HB2.out).below hb3)
              have f1 := IA3.out.fz1
              have f2 := IB3.out.fz1
              clear hr4 hr5 hb3
              go_wp2_with fail
              go_ret
              obtain ⟨r1, r2⟩ := normRat_store (A2 := A2) (c2 := c2) (A4 := A4) (c4 := c4) (by omega) HGG.out IA3.out IB3.out hc2 hc4 HR2'.out (HR4.out.imp fun d hd => hd.2)
              exact ⟨rfl, HRN.out <| r1, HU5.out.trans ((UpB.of_below b (below_then HB1.out (below_then HB2.out HB3.out))).trans r2)⟩
            · have en9 : ((ng : Int) == 1) = false := by simp; omega
              clear hor
              go_wp2_with fail
              refine (div_any _ _ _ _ _ _ (A').natAbs G w1 RA1.out HR1'.out (by omega) (by omega) HG.out).mono ?_
              rintro e w2 ⟨A2, c2, A3, c3, rfl, hc2, hc3, hr2, hr3, hb2⟩
              have k3 := bat hb2 k1
              have k4 := bat hb2 k2
              have HR2 := Lib.hid hr2
              have HB2 := Lib.hid hb2
              have HG2 := Lib.hid ((HR1'.out.keep (Keeps.below hb2 (fun b hb => hb))).imp (S' := fun b => b < w2.heap.size) fun b hb => Nat.lt_of_lt_of_le hb hb2.size)
              have RB2 := Lib.hid ((RB1.out.keep (Keeps.below hb2 (fun b hb => hb))).imp (S' := fun b => b < w2.heap.size) fun b hb => Nat.lt_of_lt_of_le hb hb2.size)
              clear hr2 hr3 hb2
              go_wp2_with fail
              refine (div_any _ _ _ _ _ _ (B').natAbs G w2 RB2.out HG2.out (by omega) (by omega) HG.out).mono ?_
              rintro e w3 ⟨A4, c4, A5, c5, rfl, hc4, hc5, hr4, hr5, hb3⟩
              have k5 := bat hb3 k3
              have k6 := bat hb3 k4
              have HR4 := Lib.hid hr4
              have HB3 := Lib.hid hb3
              have HR2' := Lib.hid ((HR2.out.keep (Keeps.below hb3 (fun b hb => hb.2))).imp (S' := fun b => b < w3.heap.size) fun b hb => Nat.lt_of_lt_of_le hb.2 hb3.size)
              have IA3 := Lib.hid ((IA1.out.below HB2.out).below hb3)
              have IB3 := Lib.hid ((IB1.out.below HB2.out).below hb3)
              have f1 := IA3.out.fz1
              have f2 := IB3.out.fz1
              clear hr4 hr5 hb3
              go_wp2_with fail
              go_ret
              obtain ⟨r1, r2⟩ := normRat_store (A2 := A2) (c2 := c2) (A4 := A4) (c4 := c4) (by omega) HGG.out IA3.out IB3.out hc2 hc4 HR2'.out (HR4.out.imp fun d hd => hd.2)
              exact ⟨rfl, HRN.out <| r1, HU5.out.trans ((UpB.of_below b (below_then HB1.out (below_then HB2.out HB3.out))).trans r2)⟩
        · have eB1 : ((nB' : Int) == 1) = false := by simp; omega
          go_wp2_with fail
          clear eB1
          refine wp_region_held_drew (S := (fun w' => w'.cell? ⟨b, 1, none⟩ = some (.slice dA' nA' cA') ∧ w'.cell? ⟨b, 2 + 1, none⟩ = some (.slice dB' nB' cB'))) (by kernel_rfl) ?_ (fun hHeld => ?_)
          · first | exact True.intro | ((try dsimp only); go_keep)
          refine tkH (i := 0) (v := ?_) rfl (by kernel_rfl) (Or.inl ⟨by kernel_rfl, ?_⟩) (by assumption) ?_
          rotate_left 1
          · (intro w hSw; (try dsimp only at hSw); go_simp; try with_reducible rfl)
          try simp only [lyA, lyB, lyC, Act.put, lyD, lyE, lyF]
          refine tkH (i := 1) (v := ?_) rfl (by kernel_rfl) (Or.inl ⟨by kernel_rfl, ?_⟩) (by assumption) ?_
          rotate_left 1
          · (intro w hSw; (try dsimp only at hSw); go_simp; try with_reducible rfl)
          try simp only [lyA, lyB, lyC, Act.put, lyD, lyE, lyF]
          refine tkH (i := 2) (v := ?_) rfl (by kernel_rfl) (Or.inl ⟨by kernel_rfl, ?_⟩) (by assumption) ?_
          rotate_left 1
          · (intro w hSw; (try dsimp only at hSw); go_simp; try with_reducible rfl)
          try simp only [lyA, lyB, lyC, Act.put, lyD, lyE, lyF]
          refine tkH (i := 3) (v := ?_) rfl (by kernel_rfl) (Or.inl ⟨by kernel_rfl, ?_⟩) (by assumption) ?_
          rotate_left 1
          · (intro w hSw; (try dsimp only at hSw); go_simp; try with_reducible rfl)
          try simp only [lyA, lyB, lyC, Act.put, lyD, lyE, lyF]
          refine tkH (i := 4) (v := ?_) rfl (by kernel_rfl) (Or.inl ⟨by kernel_rfl, ?_⟩) (by assumption) ?_
          rotate_left 1
          · (intro w hSw; (try dsimp only at hSw); go_simp; try with_reducible rfl)
          try simp only [lyA, lyB, lyC, Act.put, lyD, lyE, lyF]
          refine tkH (i := 5) (v := ?_) rfl (by kernel_rfl) (Or.inl ⟨by kernel_rfl, ?_⟩) (by assumption) ?_
          rotate_left 1
          · (intro w hSw; (try dsimp only at hSw); go_simp; try with_reducible rfl)
          try simp only [lyA, lyB, lyC, Act.put, lyD, lyE, lyF]
          refine tkH (i := 6) (v := ?_) rfl (by kernel_rfl) (Or.inl ⟨by kernel_rfl, ?_⟩) (by assumption) ?_
          rotate_left 1
          · (intro w hSw; (try dsimp only at hSw); go_simp; try with_reducible rfl)
          try simp only [lyA, lyB, lyC, Act.put, lyD, lyE, lyF]
          refine tkH (i := 7) (v := ?_) rfl (by kernel_rfl) (Or.inl ⟨by kernel_rfl, ?_⟩) (by assumption) ?_
          rotate_left 1
          · (intro w hSw; (try dsimp only at hSw); go_simp; try with_reducible rfl)
          try simp only [lyA, lyB, lyC, Act.put, lyD, lyE, lyF]
          refine tkH (i := 8) (v := ?_) rfl (by kernel_rfl) (Or.inl ⟨by kernel_rfl, ?_⟩) (by assumption) ?_
          rotate_left 1
          · (intro w hSw; (try dsimp only at hSw); go_simp; try with_reducible rfl)
          try simp only [lyA, lyB, lyC, Act.put, lyD, lyE, lyF]
          refine tkH (i := 9) (v := ?_) rfl (by kernel_rfl) (Or.inl ⟨by kernel_rfl, ?_⟩) (by assumption) ?_
          rotate_left 1
          · (intro w hSw; (try dsimp only at hSw); go_simp; try with_reducible rfl)
          try simp only [lyA, lyB, lyC, Act.put, lyD, lyE, lyF]
          refine wpAnyH_ready (rs := [10]) (by kernel_rfl) (by simp) ?_
          refine AllReadyH.cons rfl (fun K hK => ?_) AllReadyH.nil
          go_simp
          (refine (common_any _ _ _ _ _ _ (A').natAbs (B').natAbs ((w5).drew) (HRA.out.keep (fun _ _ => rfl)) (HRB.out.keep (fun _ _ => rfl)) hlA (by omega) hcA hcB).mono ?_; rw [← HGG.out]; rintro e w1 ⟨A1, c1, rfl, hc1, hr1, hb1⟩; have k1 := bat hb1 hHeld.1; have k2 := bat hb1 hHeld.2; have HR1 := Lib.hid hr1; have HB1 : Hid (Below (w5).heap.size (w5) w1) := Lib.hid (((Below.refl (w5).heap.size (w5)).drew).trans hb1); clear hr1 hb1)
          try go_wp2_with fail
          refine hK.out _ _ ?_ (fun hHeld => ?_)
          · first | exact True.intro | ((try dsimp only); go_keep)
          clear hK K
          try simp only [lyA, lyB, lyC, Act.put, lyD, lyE, lyF]
          refine tkH (i := 11) (v := ?_) rfl (by kernel_rfl) (Or.inl ⟨by kernel_rfl, ?_⟩) (by assumption) ?_
          rotate_left 1
          · (intro w hSw; (try dsimp only at hSw); go_simp; try with_reducible rfl)
          try simp only [lyA, lyB, lyC, Act.put, lyD, lyE, lyF]
          refine wpAnyH_done (by kernel_rfl) ?_ _
          have IA1 := Lib.hid ((HA5.out).below HB1.out)
          have IB1 := Lib.hid ((HI5.out).below HB1.out)
          have RA1 : Hid (RdE Wc 1 w1 (fun d => d < w1.heap.size) dA' nA' (dig (A').natAbs)) := Lib.hid ((HRA.out.keep (w' := w1) (fun d hd => HB1.out.block d hd)).imp fun d hd => Nat.lt_of_lt_of_le hd HB1.out.size)
          have RB1 : Hid (RdE Wc 1 w1 (fun d => d < w1.heap.size) dB' nB' (dig (B').natAbs)) := Lib.hid ((HRB.out.keep (w' := w1) (fun d hd => HB1.out.block d hd)).imp fun d hd => Nat.lt_of_lt_of_le hd HB1.out.size)
          clear hHeld
          by_cases hg1 : G = 1
          · subst hg1
            obtain ⟨bg, og, rfl, _, hcg⟩ := HR1.out.elem Wc.clen (show (dig 1)[0]? = some 1 from rfl) (by omega)
            have qg : w1.cell? ⟨bg, og, none⟩ = some (.int .u32 1) := hcg 0 _ rfl
            have hd1 : (dig 1).length = 1 := rfl
            rw [hd1]
            clear hcg
            go_wp2_with fail
            go_ret
            exact ⟨rfl, HRN.out <| normRat_g1 (by omega) HGG.out.symm IA1.out IB1.out, HU5.out.trans (UpB.of_below b HB1.out)⟩
          · obtain ⟨ng, hng⟩ : ∃ ng, ng = (dig G).length := ⟨_, rfl⟩
            have hng0 : 0 < ng := by rw [hng]; exact List.length_pos_iff.2 (dig_pos HG.out)
            rw [← hng] at hc1 hGl ⊢
            have HNG := Lib.hid hng
            have HR1' : Hid (RdE Wc 1 w1 (fun d => d < w1.heap.size) A1 ng (dig G)) := Lib.hid (by rw [HNG.out]; exact HR1.out)
            have HG1 := Lib.hid hg1
            clear hng hg1 HR1
            obtain ⟨v, hv⟩ := get_some HR1'.out.num hng0
            obtain ⟨bg, og, rfl, _, hcg⟩ := HR1'.out.elem Wc.clen hv (by omega)
            have qg : w1.cell? ⟨bg, og, none⟩ = some (.int .u32 (v : Int)) := hcg 0 _ rfl
            have hor : ng = 1 → v ≠ 1 := fun h1 h2 => HG1.out (by
              have h3 := HNG.out
              rw [h1] at h3
              have h4 := nv_dig G
              match hd : dig G, h3 with
              | [t], _ => rw [hd] at hv h4; simp at hv; simp [nv] at h4; omega)
            clear hcg hv
            by_cases hng1 : ng = 1
            · have ev9 : ((v : Int) == 1) = false := by have := hor hng1; simp; omega
              subst hng1
              clear hor
              go_wp2_with fail
              refine (div_any _ _ _ _ _ _ (A').natAbs G w1 RA1.out HR1'.out (by omega) (by omega) HG.out).mono ?_
              rintro e w2 ⟨A2, c2, A3, c3, rfl, hc2, hc3, hr2, hr3, hb2⟩
              have k3 := bat hb2 k1
              have k4 := bat hb2 k2
              have HR2 := Lib.hid hr2
              have HB2 := Lib.hid hb2
              have HG2 := Lib.hid ((HR1'.out.keep (Keeps.below hb2 (fun b hb => hb))).imp (S' := fun b => b < w2.heap.size) fun b hb => Nat.lt_of_lt_of_le hb hb2.size)
              have RB2 := Lib.hid ((RB1.out.keep (Keeps.below hb2 (fun b hb => hb))).imp (S' := fun b => b < w2.heap.size) fun b hb => Nat.lt_of_lt_of_le hb hb2.size)
              clear hr2 hr3 hb2
              go_wp2_with fail
              refine (div_any _ _ _ _ _ _ (B').natAbs G w2 RB2.out HG2.out (by omega) (by omega) HG.out).mono ?_
              rintro e w3 ⟨A4, c4, A5, c5, rfl, hc4, hc5, hr4, hr5, hb3⟩
              have k5 := bat hb3 k3
              have k6 := bat hb3 k4
              have HR4 := Lib.hid hr4
              have HB3 := Lib.hid hb3
              have HR2' := Lib.hid ((HR2.out.keep (Keeps.below hb3 (fun b hb => hb.2))).imp (S' := fun b => b < w3.heap.size) fun b hb => Nat.lt_of_lt_of_le hb.2 hb3.size)
              have IA3 := Lib.hid ((IA1.out.below HB2.out).below hb3)
              have IB3 := Lib.hid ((IB1.out.below HB2.out).below hb3)
              have f1 := IA3.out.fz1
              have f2 := IB3.out.fz1
              clear hr4 hr5 hb3
              go_wp2_with fail
              go_ret
              obtain ⟨r1, r2⟩ := normRat_store (A2 := A2) (c2 := c2) (A4 := A4) (c4 := c4) (by omega) HGG.out IA3.out IB3.out hc2 hc4 HR2'.out (HR4.out.imp fun d hd => hd.2)
              exact ⟨rfl, HRN.out <| r1, HU5.out.trans ((UpB.of_below b (below_then HB1.out (below_then HB2.out HB3.out))).trans r2)⟩
            · have en9 : ((ng : Int) == 1) = false := by simp; omega
              clear hor
              go_wp2_with fail
              refine (div_any _ _ _ _ _ _ (A').natAbs G w1 RA1.out HR1'.out (by omega) (by omega) HG.out).mono ?_
              rintro e w2 ⟨A2, c2, A3, c3, rfl, hc2, hc3, hr2, hr3, hb2⟩
              have k3 := bat hb2 k1
              have k4 := bat hb2 k2
              have HR2 := Lib.hid hr2
              have HB2 := Lib.hid hb2
              have HG2 := Lib.hid ((HR1'.out.keep (Keeps.below hb2 (fun b hb => hb))).imp (S' := fun b => b < w2.heap.size) fun b hb => Nat.lt_of_lt_of_le hb hb2.size)
              have RB2 := Lib.hid ((RB1.out.keep (Keeps.below hb2 (fun b hb => hb))).imp (S' := fun b => b < w2.heap.size) fun b hb => Nat.lt_of_lt_of_le hb hb2.size)
              clear hr2 hr3 hb2
              go_wp2_with fail
              refine (div_any _ _ _ _ _ _ (B').natAbs G w2 RB2.out HG2.out (by omega) (by omega) HG.out).mono ?_
              rintro e w3 ⟨A4, c4, A5, c5, rfl, hc4, hc5, hr4, hr5, hb3⟩
              have k5 := bat hb3 k3
              have k6 := bat hb3 k4
              have HR4 := Lib.hid hr4
              have HB3 := Lib.hid hb3
              have HR2' := Lib.hid ((HR2.out.keep (Keeps.below hb3 (fun b hb => hb.2))).imp (S' := fun b => b < w3.heap.size) fun b hb => Nat.lt_of_lt_of_le hb.2 hb3.size)
              have IA3 := Lib.hid ((IA1.out.below HB2.out).below hb3)
              have IB3 := Lib.hid ((IB1.out.below HB2.out).below hb3)
              have f1 := IA3.out.fz1
              have f2 := IB3.out.fz1
              clear hr4 hr5 hb3
              go_wp2_with fail
              go_ret
              obtain ⟨r1, r2⟩ := normRat_store (A2 := A2) (c2 := c2) (A4 := A4) (c4 := c4) (by omega) HGG.out IA3.out IB3.out hc2 hc4 HR2'.out (HR4.out.imp fun d hd => hd.2)
              exact ⟨rfl, HRN.out <| r1, HU5.out.trans ((UpB.of_below b (below_then HB1.out (below_then HB2.out HB3.out))).trans r2)⟩
  · obtain rfl : sB = false := by rw [HSB.out]; simp [hneg]
    go_enter Try.func85, Try.ntmps85
    by_cases ha0 : A = 0
    · have hn0 : nA = 0 := by rw [HNA.out, ha0]; rfl
      subst hn0
      have HA0 := Lib.hid ha0
      clear ha0
      go_wp2_with fail
      refine (setI_int b 2 _ 1 w HB.out (by omega) (by omega)).mono ?_
      rintro e w8 ⟨rfl, hi8, hu8⟩
      have HI8 := Lib.hid hi8
      have HU8 := Lib.hid hu8
      have HA8 := Lib.hid ((HA.out).upd hu8 (fun _ => by decide))
      clear hi8 hu8
      go_wp2_with fail
      go_ret
      exact ⟨rfl, normRat_zero HA0.out HA8.out HI8.out, (UpB.of_below b (Below.refl _ _)).trans HU8.out.toB⟩
    · have hnA : 0 < nA := by rw [HNA.out]; exact List.length_pos_iff.2 (dig_pos (by omega))
      have eA : ((nA : Int) == 0) = false := by simp; omega
      by_cases hone : B = 1
      · have hn1 : nB = 1 := by rw [HNB.out, hone]; rfl
        subst hn1
        have hrb := HRB.out
        rw [hone] at hrb
        obtain ⟨bd, od, rfl, _, hcd⟩ := hrb.elem Wc.clen (show (dig (1 : Int).natAbs)[0]? = some 1 from rfl) (by omega)
        have qd : (w).cell? ⟨bd, od, none⟩ = some (.int .u32 1) := hcd 0 _ rfl
        have HONE := Lib.hid hone
        clear hrb hcd hone
        go_wp2_with fail
        go_ret
        exact ⟨rfl, normRat_one HONE.out HA.out HB.out, (UpB.of_below b (Below.refl _ _))⟩
      · have HONE := Lib.hid hone
        clear hone
        have HG : Hid (Nat.gcd (A).natAbs (B).natAbs ≠ 0) := Lib.hid (by have := Nat.gcd_pos_of_pos_left (B).natAbs (show 0 < (A).natAbs by omega); omega)
        obtain ⟨G, hG⟩ : ∃ G, G = Nat.gcd (A).natAbs (B).natAbs := ⟨_, rfl⟩
        rw [← hG] at HG
        have hGl : (dig G).length ≤ 1000000 := by
          have h1 : G ≤ (A).natAbs := by rw [hG]; exact Nat.le_of_dvd (by omega) (Nat.gcd_dvd_left _ _)
          have h2 := dig_len_mono h1
          rw [← HNA.out] at h2
          omega
        have HGG := Lib.hid hG
        clear hG
        by_cases hb1 : nB = 1
        · obtain ⟨v, hv⟩ := get_some HRB.out.num (show 0 < nB by omega)
          have hv1 : v ≠ 1 := fun e => HONE.out (by
            have h3 := HNB.out
            rw [hb1] at h3
            have h4 := nv_dig (B).natAbs
            match hd : dig (B).natAbs, h3 with
            | [t], _ => rw [hd] at hv h4; simp at hv; simp [nv] at h4; omega)
          obtain ⟨bd, od, rfl, _, hcd⟩ := HRB.out.elem Wc.clen hv (by omega)
          have qd : (w).cell? ⟨bd, od, none⟩ = some (.int .u32 (v : Int)) := hcd 0 _ rfl
          have ev : ((v : Int) == 1) = false := by simp; omega
          subst hb1
          clear hcd hv
          go_wp2_with fail
          clear qd ev
          refine wp_region_held_drew (S := (fun w' => w'.cell? ⟨b, 1, none⟩ = some (.slice dA nA cA) ∧ w'.cell? ⟨b, 2 + 1, none⟩ = some (.slice (some ⟨bd, od, none⟩) 1 cB))) (by kernel_rfl) ?_ (fun hHeld => ?_)
          · first | exact True.intro | ((try dsimp only); go_keep)
          refine tkH (i := 0) (v := ?_) rfl (by kernel_rfl) (Or.inl ⟨by kernel_rfl, ?_⟩) (by assumption) ?_
          rotate_left 1
          · (intro w hSw; (try dsimp only at hSw); go_simp; try with_reducible rfl)
          try simp only [lyA, lyB, lyC, Act.put, lyD, lyE, lyF]
          refine tkH (i := 1) (v := ?_) rfl (by kernel_rfl) (Or.inl ⟨by kernel_rfl, ?_⟩) (by assumption) ?_
          rotate_left 1
          · (intro w hSw; (try dsimp only at hSw); go_simp; try with_reducible rfl)
          try simp only [lyA, lyB, lyC, Act.put, lyD, lyE, lyF]
          refine tkH (i := 2) (v := ?_) rfl (by kernel_rfl) (Or.inl ⟨by kernel_rfl, ?_⟩) (by assumption) ?_
          rotate_left 1
          · (intro w hSw; (try dsimp only at hSw); go_simp; try with_reducible rfl)
          try simp only [lyA, lyB, lyC, Act.put, lyD, lyE, lyF]
          refine tkH (i := 3) (v := ?_) rfl (by kernel_rfl) (Or.inl ⟨by kernel_rfl, ?_⟩) (by assumption) ?_
          rotate_left 1
          · (intro w hSw; (try dsimp only at hSw); go_simp; try with_reducible rfl)
          try simp only [lyA, lyB, lyC, Act.put, lyD, lyE, lyF]
          refine tkH (i := 4) (v := ?_) rfl (by kernel_rfl) (Or.inl ⟨by kernel_rfl, ?_⟩) (by assumption) ?_
          rotate_left 1
          · (intro w hSw; (try dsimp only at hSw); go_simp; try with_reducible rfl)
          try simp only [lyA, lyB, lyC, Act.put, lyD, lyE, lyF]
          refine tkH (i := 5) (v := ?_) rfl (by kernel_rfl) (Or.inl ⟨by kernel_rfl, ?_⟩) (by assumption) ?_
          rotate_left 1
          · (intro w hSw; (try dsimp only at hSw); go_simp; try with_reducible rfl)
          try simp only [lyA, lyB, lyC, Act.put, lyD, lyE, lyF]
          refine tkH (i := 6) (v := ?_) rfl (by kernel_rfl) (Or.inl ⟨by kernel_rfl, ?_⟩) (by assumption) ?_
          rotate_left 1
          · (intro w hSw; (try dsimp only at hSw); go_simp; try with_reducible rfl)
          try simp only [lyA, lyB, lyC, Act.put, lyD, lyE, lyF]
          refine tkH (i := 7) (v := ?_) rfl (by kernel_rfl) (Or.inl ⟨by kernel_rfl, ?_⟩) (by assumption) ?_
          rotate_left 1
          · (intro w hSw; (try dsimp only at hSw); go_simp; try with_reducible rfl)
          try simp only [lyA, lyB, lyC, Act.put, lyD, lyE, lyF]
          refine tkH (i := 8) (v := ?_) rfl (by kernel_rfl) (Or.inl ⟨by kernel_rfl, ?_⟩) (by assumption) ?_
          rotate_left 1
          · (intro w hSw; (try dsimp only at hSw); go_simp; try with_reducible rfl)
          try simp only [lyA, lyB, lyC, Act.put, lyD, lyE, lyF]
          refine tkH (i := 9) (v := ?_) rfl (by kernel_rfl) (Or.inl ⟨by kernel_rfl, ?_⟩) (by assumption) ?_
          rotate_left 1
          · (intro w hSw; (try dsimp only at hSw); go_simp; try with_reducible rfl)
          try simp only [lyA, lyB, lyC, Act.put, lyD, lyE, lyF]
          refine wpAnyH_ready (rs := [10]) (by kernel_rfl) (by simp) ?_
          refine AllReadyH.cons rfl (fun K hK => ?_) AllReadyH.nil
          go_simp
          (refine (common_any _ _ _ _ _ _ (A).natAbs (B).natAbs ((w).drew) (HRA.out.keep (fun _ _ => rfl)) (HRB.out.keep (fun _ _ => rfl)) hlA (by omega) hcA hcB).mono ?_; rw [← HGG.out]; rintro e w1 ⟨A1, c1, rfl, hc1, hr1, hb1⟩; have k1 := bat hb1 hHeld.1; have k2 := bat hb1 hHeld.2; have HR1 := Lib.hid hr1; have HB1 : Hid (Below (w).heap.size (w) w1) := Lib.hid (((Below.refl (w).heap.size (w)).drew).trans hb1); clear hr1 hb1)
          try go_wp2_with fail
          refine hK.out _ _ ?_ (fun hHeld => ?_)
          · first | exact True.intro | ((try dsimp only); go_keep)
          clear hK K
          try simp only [lyA, lyB, lyC, Act.put, lyD, lyE, lyF]
          refine tkH (i := 11) (v := ?_) rfl (by kernel_rfl) (Or.inl ⟨by kernel_rfl, ?_⟩) (by assumption) ?_
          rotate_left 1
          · (intro w hSw; (try dsimp only at hSw); go_simp; try with_reducible rfl)
          try simp only [lyA, lyB, lyC, Act.put, lyD, lyE, lyF]
          refine wpAnyH_done (by kernel_rfl) ?_ _
          have IA1 := Lib.hid ((HA.out).below HB1.out)
          have IB1 := Lib.hid ((HB.out).below HB1.out)
          have RA1 : Hid (RdE Wc 1 w1 (fun d => d < w1.heap.size) dA nA (dig (A).natAbs)) := Lib.hid ((HRA.out.keep (w' := w1) (fun d hd => HB1.out.block d hd)).imp fun d hd => Nat.lt_of_lt_of_le hd HB1.out.size)
          have RB1 : Hid (RdE Wc 1 w1 (fun d => d < w1.heap.size) (some ⟨bd, od, none⟩) 1 (dig (B).natAbs)) := Lib.hid ((HRB.out.keep (w' := w1) (fun d hd => HB1.out.block d hd)).imp fun d hd => Nat.lt_of_lt_of_le hd HB1.out.size)
          clear hHeld
          by_cases hg1 : G = 1
          · subst hg1
            obtain ⟨bg, og, rfl, _, hcg⟩ := HR1.out.elem Wc.clen (show (dig 1)[0]? = some 1 from rfl) (by omega)
            have qg : w1.cell? ⟨bg, og, none⟩ = some (.int .u32 1) := hcg 0 _ rfl
            have hd1 : (dig 1).length = 1 := rfl
            rw [hd1]
            clear hcg
            go_wp2_with fail
            go_ret
            exact ⟨rfl, normRat_g1 (by omega) HGG.out.symm IA1.out IB1.out, (UpB.of_below b (Below.refl _ _)).trans (UpB.of_below b HB1.out)⟩
          · obtain ⟨ng, hng⟩ : ∃ ng, ng = (dig G).length := ⟨_, rfl⟩
            have hng0 : 0 < ng := by rw [hng]; exact List.length_pos_iff.2 (dig_pos HG.out)
            rw [← hng] at hc1 hGl ⊢
            have HNG := Lib.hid hng
            have HR1' : Hid (RdE Wc 1 w1 (fun d => d < w1.heap.size) A1 ng (dig G)) := Lib.hid (by rw [HNG.out]; exact HR1.out)
            have HG1 := Lib.hid hg1
            clear hng hg1 HR1
            obtain ⟨v, hv⟩ := get_some HR1'.out.num hng0
            obtain ⟨bg, og, rfl, _, hcg⟩ := HR1'.out.elem Wc.clen hv (by omega)
            have qg : w1.cell? ⟨bg, og, none⟩ = some (.int .u32 (v : Int)) := hcg 0 _ rfl
            have hor : ng = 1 → v ≠ 1 := fun h1 h2 => HG1.out (by
              have h3 := HNG.out
              rw [h1] at h3
              have h4 := nv_dig G
              match hd : dig G, h3 with
              | [t], _ => rw [hd] at hv h4; simp at hv; simp [nv] at h4; omega)
            clear hcg hv
            by_cases hng1 : ng = 1
            · have ev9 : ((v : Int) == 1) = false := by have := hor hng1; simp; omega
              subst hng1
              clear hor
              go_wp2_with fail
              refine (div_any _ _ _ _ _ _ (A).natAbs G w1 RA1.out HR1'.out (by omega) (by omega) HG.out).mono ?_
              rintro e w2 ⟨A2, c2, A3, c3, rfl, hc2, hc3, hr2, hr3, hb2⟩
              have k3 := bat hb2 k1
              have k4 := bat hb2 k2
              have HR2 := Lib.hid hr2
              have HB2 := Lib.hid hb2
              have HG2 := Lib.hid ((HR1'.out.keep (Keeps.below hb2 (fun b hb => hb))).imp (S' := fun b => b < w2.heap.size) fun b hb => Nat.lt_of_lt_of_le hb hb2.size)
              have RB2 := Lib.hid ((RB1.out.keep (Keeps.below hb2 (fun b hb => hb))).imp (S' := fun b => b < w2.heap.size) fun b hb => Nat.lt_of_lt_of_le hb hb2.size)
              clear hr2 hr3 hb2
              go_wp2_with fail
              refine (div_any _ _ _ _ _ _ (B).natAbs G w2 RB2.out HG2.out (by omega) (by omega) HG.out).mono ?_
              rintro e w3 ⟨A4, c4, A5, c5, rfl, hc4, hc5, hr4, hr5, hb3⟩
              have k5 := bat hb3 k3
              have k6 := bat hb3 k4
              have HR4 := Lib.hid hr4
              have HB3 := Lib.hid hb3
              have HR2' := Lib.hid ((HR2.out.keep (Keeps.below hb3 (fun b hb => hb.2))).imp (S' := fun b => b < w3.heap.size) fun b hb => Nat.lt_of_lt_of_le hb.2 hb3.size)
              have IA3 := Lib.hid ((IA1.out.below HB2.out).below hb3)
              have IB3 := Lib.hid ((IB1.out.below HB2.out).below hb3)
              have f1 := IA3.out.fz1
              have f2 := IB3.out.fz1
              clear hr4 hr5 hb3
              go_wp2_with fail
              go_ret
              obtain ⟨r1, r2⟩ := normRat_store (A2 := A2) (c2 := c2) (A4 := A4) (c4 := c4) (by omega) HGG.out IA3.out IB3.out hc2 hc4 HR2'.out (HR4.out.imp fun d hd => hd.2)
              exact ⟨rfl, r1, (UpB.of_below b (Below.refl _ _)).trans ((UpB.of_below b (below_then HB1.out (below_then HB2.out HB3.out))).trans r2)⟩
            · have en9 : ((ng : Int) == 1) = false := by simp; omega
              clear hor
              go_wp2_with fail
              refine (div_any _ _ _ _ _ _ (A).natAbs G w1 RA1.out HR1'.out (by omega) (by omega) HG.out).mono ?_
              rintro e w2 ⟨A2, c2, A3, c3, rfl, hc2, hc3, hr2, hr3, hb2⟩
              have k3 := bat hb2 k1
              have k4 := bat hb2 k2
              have HR2 := Lib.hid hr2
              have HB2 := Lib.hid hb2
              have HG2 := Lib.hid ((HR1'.out.keep (Keeps.below hb2 (fun b hb => hb))).imp (S' := fun b => b < w2.heap.size) fun b hb => Nat.lt_of_lt_of_le hb hb2.size)
              have RB2 := Lib.hid ((RB1.out.keep (Keeps.below hb2 (fun b hb => hb))).imp (S' := fun b => b < w2.heap.size) fun b hb => Nat.lt_of_lt_of_le hb hb2.size)
              clear hr2 hr3 hb2
              go_wp2_with fail
              refine (div_any _ _ _ _ _ _ (B).natAbs G w2 RB2.out HG2.out (by omega) (by omega) HG.out).mono ?_
              rintro e w3 ⟨A4, c4, A5, c5, rfl, hc4, hc5, hr4, hr5, hb3⟩
              have k5 := bat hb3 k3
              have k6 := bat hb3 k4
              have HR4 := Lib.hid hr4
              have HB3 := Lib.hid hb3
              have HR2' := Lib.hid ((HR2.out.keep (Keeps.below hb3 (fun b hb => hb.2))).imp (S' := fun b => b < w3.heap.size) fun b hb => Nat.lt_of_lt_of_le hb.2 hb3.size)
              have IA3 := Lib.hid ((IA1.out.below HB2.out).below hb3)
              have IB3 := Lib.hid ((IB1.out.below HB2.out).below hb3)
              have f1 := IA3.out.fz1
              have f2 := IB3.out.fz1
              clear hr4 hr5 hb3
              go_wp2_with fail
              go_ret
              obtain ⟨r1, r2⟩ := normRat_store (A2 := A2) (c2 := c2) (A4 := A4) (c4 := c4) (by omega) HGG.out IA3.out IB3.out hc2 hc4 HR2'.out (HR4.out.imp fun d hd => hd.2)
              exact ⟨rfl, r1, (UpB.of_below b (Below.refl _ _)).trans ((UpB.of_below b (below_then HB1.out (below_then HB2.out HB3.out))).trans r2)⟩
        · have eB1 : ((nB : Int) == 1) = false := by simp; omega
          go_wp2_with fail
          clear eB1
          refine wp_region_held_drew (S := (fun w' => w'.cell? ⟨b, 1, none⟩ = some (.slice dA nA cA) ∧ w'.cell? ⟨b, 2 + 1, none⟩ = some (.slice dB nB cB))) (by kernel_rfl) ?_ (fun hHeld => ?_)
          · first | exact True.intro | ((try dsimp only); go_keep)
          refine tkH (i := 0) (v := ?_) rfl (by kernel_rfl) (Or.inl ⟨by kernel_rfl, ?_⟩) (by assumption) ?_
          rotate_left 1
          · (intro w hSw; (try dsimp only at hSw); go_simp; try with_reducible rfl)
          try simp only [lyA, lyB, lyC, Act.put, lyD, lyE, lyF]
          refine tkH (i := 1) (v := ?_) rfl (by kernel_rfl) (Or.inl ⟨by kernel_rfl, ?_⟩) (by assumption) ?_
          rotate_left 1
          · (intro w hSw; (try dsimp only at hSw); go_simp; try with_reducible rfl)
          try simp only [lyA, lyB, lyC, Act.put, lyD, lyE, lyF]
          refine tkH (i := 2) (v := ?_) rfl (by kernel_rfl) (Or.inl ⟨by kernel_rfl, ?_⟩) (by assumption) ?_
          rotate_left 1
          · (intro w hSw; (try dsimp only at hSw); go_simp; try with_reducible rfl)
          try simp only [lyA, lyB, lyC, Act.put, lyD, lyE, lyF]
          refine tkH (i := 3) (v := ?_) rfl (by kernel_rfl) (Or.inl ⟨by kernel_rfl, ?_⟩) (by assumption) ?_
          rotate_left 1
          · (intro w hSw; (try dsimp only at hSw); go_simp; try with_reducible rfl)
          try simp only [lyA, lyB, lyC, Act.put, lyD, lyE, lyF]
          refine tkH (i := 4) (v := ?_) rfl (by kernel_rfl) (Or.inl ⟨by kernel_rfl, ?_⟩) (by assumption) ?_
          rotate_left 1
          · (intro w hSw; (try dsimp only at hSw); go_simp; try with_reducible rfl)
          try simp only [lyA, lyB, lyC, Act.put, lyD, lyE, lyF]
          refine tkH (i := 5) (v := ?_) rfl (by kernel_rfl) (Or.inl ⟨by kernel_rfl, ?_⟩) (by assumption) ?_
          rotate_left 1
          · (intro w hSw; (try dsimp only at hSw); go_simp; try with_reducible rfl)
          try simp only [lyA, lyB, lyC, Act.put, lyD, lyE, lyF]
          refine tkH (i := 6) (v := ?_) rfl (by kernel_rfl) (Or.inl ⟨by kernel_rfl, ?_⟩) (by assumption) ?_
          rotate_left 1
          · (intro w hSw; (try dsimp only at hSw); go_simp; try with_reducible rfl)
          try simp only [lyA, lyB, lyC, Act.put, lyD, lyE, lyF]
          refine tkH (i := 7) (v := ?_) rfl (by kernel_rfl) (Or.inl ⟨by kernel_rfl, ?_⟩) (by assumption) ?_
          rotate_left 1
          · (intro w hSw; (try dsimp only at hSw); go_simp; try with_reducible rfl)
          try simp only [lyA, lyB, lyC, Act.put, lyD, lyE, lyF]
          refine tkH (i := 8) (v := ?_) rfl (by kernel_rfl) (Or.inl ⟨by kernel_rfl, ?_⟩) (by assumption) ?_
          rotate_left 1
          · (intro w hSw; (try dsimp only at hSw); go_simp; try with_reducible rfl)
          try simp only [lyA, lyB, lyC, Act.put, lyD, lyE, lyF]
          refine tkH (i := 9) (v := ?_) rfl (by kernel_rfl) (Or.inl ⟨by kernel_rfl, ?_⟩) (by assumption) ?_
          rotate_left 1
          · (intro w hSw; (try dsimp only at hSw); go_simp; try with_reducible rfl)
          try simp only [lyA, lyB, lyC, Act.put, lyD, lyE, lyF]
          refine wpAnyH_ready (rs := [10]) (by kernel_rfl) (by simp) ?_
          refine AllReadyH.cons rfl (fun K hK => ?_) AllReadyH.nil
          go_simp
          (refine (common_any _ _ _ _ _ _ (A).natAbs (B).natAbs ((w).drew) (HRA.out.keep (fun _ _ => rfl)) (HRB.out.keep (fun _ _ => rfl)) hlA (by omega) hcA hcB).mono ?_; rw [← HGG.out]; rintro e w1 ⟨A1, c1, rfl, hc1, hr1, hb1⟩; have k1 := bat hb1 hHeld.1; have k2 := bat hb1 hHeld.2; have HR1 := Lib.hid hr1; have HB1 : Hid (Below (w).heap.size (w) w1) := Lib.hid (((Below.refl (w).heap.size (w)).drew).trans hb1); clear hr1 hb1)
          try go_wp2_with fail
          refine hK.out _ _ ?_ (fun hHeld => ?_)
          · first | exact True.intro | ((try dsimp only); go_keep)
          clear hK K
          try simp only [lyA, lyB, lyC, Act.put, lyD, lyE, lyF]
          refine tkH (i := 11) (v := ?_) rfl (by kernel_rfl) (Or.inl ⟨by kernel_rfl, ?_⟩) (by assumption) ?_
          rotate_left 1
          · (intro w hSw; (try dsimp only at hSw); go_simp; try with_reducible rfl)
          try simp only [lyA, lyB, lyC, Act.put, lyD, lyE, lyF]
          refine wpAnyH_done (by kernel_rfl) ?_ _
          have IA1 := Lib.hid ((HA.out).below HB1.out)
          have IB1 := Lib.hid ((HB.out).below HB1.out)
          have RA1 : Hid (RdE Wc 1 w1 (fun d => d < w1.heap.size) dA nA (dig (A).natAbs)) := Lib.hid ((HRA.out.keep (w' := w1) (fun d hd => HB1.out.block d hd)).imp fun d hd => Nat.lt_of_lt_of_le hd HB1.out.size)
          have RB1 : Hid (RdE Wc 1 w1 (fun d => d < w1.heap.size) dB nB (dig (B).natAbs)) := Lib.hid ((HRB.out.keep (w' := w1) (fun d hd => HB1.out.block d hd)).imp fun d hd => Nat.lt_of_lt_of_le hd HB1.out.size)
          clear hHeld
          by_cases hg1 : G = 1
          · subst hg1
            obtain ⟨bg, og, rfl, _, hcg⟩ := HR1.out.elem Wc.clen (show (dig 1)[0]? = some 1 from rfl) (by omega)
            have qg : w1.cell? ⟨bg, og, none⟩ = some (.int .u32 1) := hcg 0 _ rfl
            have hd1 : (dig 1).length = 1 := rfl
            rw [hd1]
            clear hcg
            go_wp2_with fail
            go_ret
            exact ⟨rfl, normRat_g1 (by omega) HGG.out.symm IA1.out IB1.out, (UpB.of_below b (Below.refl _ _)).trans (UpB.of_below b HB1.out)⟩
          · obtain ⟨ng, hng⟩ : ∃ ng, ng = (dig G).length := ⟨_, rfl⟩
            have hng0 : 0 < ng := by rw [hng]; exact List.length_pos_iff.2 (dig_pos HG.out)
            rw [← hng] at hc1 hGl ⊢
            have HNG := Lib.hid hng
            have HR1' : Hid (RdE Wc 1 w1 (fun d => d < w1.heap.size) A1 ng (dig G)) := Lib.hid (by rw [HNG.out]; exact HR1.out)
            have HG1 := Lib.hid hg1
            clear hng hg1 HR1
            obtain ⟨v, hv⟩ := get_some HR1'.out.num hng0
            obtain ⟨bg, og, rfl, _, hcg⟩ := HR1'.out.elem Wc.clen hv (by omega)
            have qg : w1.cell? ⟨bg, og, none⟩ = some (.int .u32 (v : Int)) := hcg 0 _ rfl
            have hor : ng = 1 → v ≠ 1 := fun h1 h2 => HG1.out (by
              have h3 := HNG.out
              rw [h1] at h3
              have h4 := nv_dig G
              match hd : dig G, h3 with
              | [t], _ => rw [hd] at hv h4; simp at hv; simp [nv] at h4; omega)
            clear hcg hv
            by_cases hng1 : ng = 1
            · have ev9 : ((v : Int) == 1) = false := by have := hor hng1; simp; omega
              subst hng1
              clear hor
              go_wp2_with fail
              refine (div_any _ _ _ _ _ _ (A).natAbs G w1 RA1.out HR1'.out (by omega) (by omega) HG.out).mono ?_
              rintro e w2 ⟨A2, c2, A3, c3, rfl, hc2, hc3, hr2, hr3, hb2⟩
              have k3 := bat hb2 k1
              have k4 := bat hb2 k2
              have HR2 := Lib.hid hr2
              have HB2 := Lib.hid hb2
              have HG2 := Lib.hid ((HR1'.out.keep (Keeps.below hb2 (fun b hb => hb))).imp (S' := fun b => b < w2.heap.size) fun b hb => Nat.lt_of_lt_of_le hb hb2.size)
              have RB2 := Lib.hid ((RB1.out.keep (Keeps.below hb2 (fun b hb => hb))).imp (S' := fun b => b < w2.heap.size) fun b hb => Nat.lt_of_lt_of_le hb hb2.size)
              clear hr2 hr3 hb2
              go_wp2_with fail
              refine (div_any _ _ _ _ _ _ (B).natAbs G w2 RB2.out HG2.out (by omega) (by omega) HG.out).mono ?_
              rintro e w3 ⟨A4, c4, A5, c5, rfl, hc4, hc5, hr4, hr5, hb3⟩
              have k5 := bat hb3 k3
              have k6 := bat hb3 k4
              have HR4 := Lib.hid hr4
              have HB3 := Lib.hid hb3
              have HR2' := Lib.hid ((HR2.out.keep (Keeps.below hb3 (fun b hb => hb.2))).imp (S' := fun b => b < w3.heap.size) fun b hb => Nat.lt_of_lt_of_le hb.2 hb3.size)
              have IA3 := Lib.hid ((IA1.out.below HB2.out).below hb3)
              have IB3 := Lib.hid ((IB1.out.below HB2.out).below hb3)
              have f1 := IA3.out.fz1
              have f2 := IB3.out.fz1
              clear hr4 hr5 hb3
              go_wp2_with fail
              go_ret
              obtain ⟨r1, r2⟩ := normRat_store (A2 := A2) (c2 := c2) (A4 := A4) (c4 := c4) (by omega) HGG.out IA3.out IB3.out hc2 hc4 HR2'.out (HR4.out.imp fun d hd => hd.2)
              exact ⟨rfl, r1, (UpB.of_below b (Below.refl _ _)).trans ((UpB.of_below b (below_then HB1.out (below_then HB2.out HB3.out))).trans r2)⟩
            · have en9 : ((ng : Int) == 1) = false := by simp; omega
              clear hor
              go_wp2_with fail
              refine (div_any _ _ _ _ _ _ (A).natAbs G w1 RA1.out HR1'.out (by omega) (by omega) HG.out).mono ?_
              rintro e w2 ⟨A2, c2, A3, c3, rfl, hc2, hc3, hr2, hr3, hb2⟩
              have k3 := bat hb2 k1
              have k4 := bat hb2 k2
              have HR2 := Lib.hid hr2
              have HB2 := Lib.hid hb2
              have HG2 := Lib.hid ((HR1'.out.keep (Keeps.below hb2 (fun b hb => hb))).imp (S' := fun b => b < w2.heap.size) fun b hb => Nat.lt_of_lt_of_le hb hb2.size)
              have RB2 := Lib.hid ((RB1.out.keep (Keeps.below hb2 (fun b hb => hb))).imp (S' := fun b => b < w2.heap.size) fun b hb => Nat.lt_of_lt_of_le hb hb2.size)
              clear hr2 hr3 hb2
              go_wp2_with fail
              refine (div_any _ _ _ _ _ _ (B).natAbs G w2 RB2.out HG2.out (by omega) (by omega) HG.out).mono ?_
              rintro e w3 ⟨A4, c4, A5, c5, rfl, hc4, hc5, hr4, hr5, hb3⟩
              have k5 := bat hb3 k3
              have k6 := bat hb3 k4
              have HR4 := Lib.hid hr4
              have HB3 := Lib.hid hb3
              have HR2' := Lib.hid ((HR2.out.keep (Keeps.below hb3 (fun b hb => hb.2))).imp (S' := fun b => b < w3.heap.size) fun b hb => Nat.lt_of_lt_of_le hb.2 hb3.size)
              have IA3 := Lib.hid ((IA1.out.below HB2.out).below hb3)
              have IB3 := Lib.hid ((IB1.out.below HB2.out).below hb3)
              have f1 := IA3.out.fz1
              have f2 := IB3.out.fz1
              clear hr4 hr5 hb3
              go_wp2_with fail
              go_ret
              obtain ⟨r1, r2⟩ := normRat_store (A2 := A2) (c2 := c2) (A4 := A4) (c4 := c4) (by omega) HGG.out IA3.out IB3.out hc2 hc4 HR2'.out (HR4.out.imp fun d hd => hd.2)
              exact ⟨rfl, r1, (UpB.of_below b (Below.refl _ _)).trans ((UpB.of_below b (below_then HB1.out (below_then HB2.out HB3.out))).trans r2)⟩

end Go.Proofs.Ytfepmbpcdfdlhaa
