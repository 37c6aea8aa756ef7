import Derived.Test.YtfepmbpcdfdlhaaX18
set_option linter.unusedSimpArgs false
set_option linter.unusedVariables false
/- rank.system: the walk -/
namespace Go.Proofs.Ytfepmbpcdfdlhaa
open Go.RowKit Go.Sort

set_option maxRecDepth 100000 in
set_option maxHeartbeats 4000000 in
theorem system_any (r c : Int) (n cA m cB : Nat) (A B : Option Addr) (ds : List DV) (bs : List RV) (w : World) (hr : Z63 r) (hc : Z63 c) (hn : n ≤ 9223372036854775807) (hm : m ≤ 9223372036854775807)
    (hd : DyadsAt w A n ds) (hb : RVsAt w B m bs) (hdl : ∀ d ∈ ds, d.mag.length ≤ 1000000000000) (hbl : ∀ x ∈ bs, x.num.length ≤ 1000000000000000 ∧ x.den.length ≤ 1000000000000000) :
    Calls Try.prog 39 #[.agg #[.int .i64 r, .int .i64 c, .slice A n cA], .slice B m cB] w fun e w' => e = .returned (.bool (sysB r c ds bs)) ∧ Below w.heap.size w w' := by
  have hr1 := hr.1
  have hr2 := hr.2
  have hc1 := hc.1
  have hc2 := hc.2
  have hdn := hd.len
  have hbn := hb.len
  have HD := Lib.hid hd
  have HB := Lib.hid hb
  have HDL := Lib.hid hdl
  have HBL := Lib.hid hbl
  clear hr hc hd hb hdl hbl
  by_cases h1 : r = c
  · subst h1
    by_cases h2 : 0 ≤ r
    · by_cases h3 : r ≤ 48
      · obtain ⟨R, rfl⟩ := Int.eq_ofNat_of_zero_le h2
        obtain ⟨p, hp⟩ : ∃ p, p = R * R := ⟨_, rfl⟩
        have hpc : (R : Int) * (R : Int) = (p : Int) := by rw [hp]; simp
        have hpl : p ≤ 48 * 48 := by rw [hp]; exact Nat.mul_le_mul (by omega) (by omega)
        clear hp
        by_cases h4 : n = p
        · by_cases h5 : m = R
          · subst h4
            subst h5
            have hv : sysB (m : Int) (m : Int) ds bs = (ds.all rightDB && bs.all rightB) := by
              unfold sysB
              rw [hpc, decide_eq_true (by omega)]; rfl
            have HVV := Lib.hid hv
            have HDN := Lib.hid hdn
            have HBN := Lib.hid hbn
            have hnl : n ≤ 2304 := by omega
            have hml : m ≤ 48 := by omega
            have hq0 : ¬ ((m : Int) < 0) := by omega
            have hq1 : ¬ (48 < (m : Int)) := by omega
            have kk := blk_new w #[.int .i64 (m : Int), .int .i64 (m : Int), .slice A n cA] 51
            obtain ⟨wb, hwb⟩ : ∃ wb, wb = w.alloc (.cells #[.int .i64 (m : Int), .int .i64 (m : Int), .slice A n cA] 51) := ⟨_, rfl⟩
            obtain ⟨ga, hga⟩ : ∃ ga, ga = w.heap.size := ⟨_, rfl⟩
            have hbb : Below w.heap.size w wb := by rw [hwb]; exact below1 ..
            rw [← hwb, ← hga] at kk
            have q0 : wb.cell? ⟨ga, 0, none⟩ = some (.int .i64 (m : Int)) := by rw [cell_of_row _ ga 0 _ _ (0, 0) kk]; rfl
            have q1 : wb.cell? ⟨ga, 1, none⟩ = some (.int .i64 (m : Int)) := by rw [cell_of_row _ ga 1 _ _ (0, 0) kk]; rfl
            have q2 : wb.cell? ⟨ga, 2, none⟩ = some (.slice A n cA) := by rw [cell_of_row _ ga 2 _ _ (0, 0) kk]; rfl
            clear hv hdn hbn
            go_enter Try.func39, Try.ntmps39
            go_upto_region 1 with fail
            rw [← hga, ← hwb]
            have HBB := Lib.hid hbb
            have HWB := Lib.hid hwb
            have HGA := Lib.hid hga
            clear kk hbb hwb hga
            go_wp2_with fail
            clear q0 q1 q2
            go_loopw [45] (fun iv wr => ∃ k : Nat, k ≤ n ∧ iv = .int .i64 k ∧ Below w.heap.size w wr ∧ (ds.take k).all rightDB = true) (fun iv _ => n - (intOf iv).toNat)
            case atStart => exact ⟨0, Nat.zero_le _, rfl, HBB.out, rfl⟩
            case round =>
              obtain ⟨k, hk, rfl, hb, hall⟩ := hrel
              have HB1 := Lib.hid hb
              have HALL := Lib.hid hall
              clear hb hall
              by_cases hlt : k < n
              · have hlti : (k : Int) < (n : Int) := by omega
                obtain ⟨b1, o1, t, d, rfl, hdk, hat, c0, c1, c2⟩ := HD.out.get hlt
                have q0 := bat HB1.out c0
                have q1 := bat HB1.out c1
                have q2 := bat HB1.out c2
                have HAT := Lib.hid hat
                have HDK := Lib.hid hdk
                clear c0 c1 c2 hat hdk
                go_upto_region 6 with fail
                obtain ⟨w4, hw4⟩ : ∃ w4, w4 = wr.alloc (.cells #[.bool t.s, .slice t.a t.n t.c, .int .i64 t.x] 61) := ⟨_, rfl⟩
                rw [← hw4]
                obtain ⟨hb4, x0, x1, x2⟩ := box3 hw4
                have HB4 := Lib.hid (HB1.out.trans (hb4.mono HB1.out.size))
                clear q0 q1 q2 hw4 hb4
                go_wp2_with fail
                refine (rightD_prog _ d w4 (HAT.out.below HB4.out) (HDL.out d (List.mem_of_getElem? HDK.out))).mono ?_
                rintro e w5 ⟨rfl, hb5⟩
                have HB5 := Lib.hid (HB4.out.trans (hb5.mono HB4.out.size))
                clear hb5 x0 x1 x2
                cases hrd : rightDB d with
                | false =>
                  go_wp2_with fail
                  go_ret
                  refine ⟨?_, HB5.out⟩
                  rw [HVV.out, all_false HDK.out hrd]
                  rfl
                | true =>
                  go_wp2_with fail
                  refine ⟨⟨k + 1, by omega, by go_num, HB5.out, by rw [take_all HDK.out, HALL.out, hrd]; rfl⟩, by simp [intOf]; omega⟩
              · obtain rfl : n = k := by omega
                have hnl : ¬ ((n : Int) < (n : Int)) := by omega
                rw [← HDN.out, List.take_length] at HALL
                have HALL1 := HALL
                clear HALL
                obtain ⟨wq, hwq⟩ : ∃ wq, wq = wr := ⟨_, rfl⟩
                rw [← hwq] at HB1 ⊢
                have HBQ := HB1
                clear HB1 hwq
                go_wp2_with fail
                go_loopw [55] (fun iv wr => ∃ k : Nat, k ≤ m ∧ iv = .int .i64 k ∧ Below w.heap.size w wr ∧ (bs.take k).all rightB = true) (fun iv _ => m - (intOf iv).toNat)
                case atStart => exact ⟨0, Nat.zero_le _, rfl, HBQ.out, rfl⟩
                case round =>
                  obtain ⟨k, hk, rfl, hb, hall⟩ := hrel
                  have HB1 := Lib.hid hb
                  have HALL := Lib.hid hall
                  clear hb hall
                  by_cases hlt : k < m
                  · have hlti : (k : Int) < (m : Int) := by omega
                    obtain ⟨b1, o1, t, d, rfl, hdk, hat, c0, c1, c2⟩ := HB.out.get hlt
                    have q0 := bat HB1.out c0
                    have q1 := bat HB1.out c1
                    have q2 := bat HB1.out c2
                    have HAT := Lib.hid hat
                    have HDK := Lib.hid hdk
                    clear c0 c1 c2 hat hdk
                    go_upto_region 12 with fail
                    obtain ⟨w4, hw4⟩ : ∃ w4, w4 = wr.alloc (.cells #[.bool t.s, .slice t.a t.n t.c, .slice t.a' t.n' t.c'] 43) := ⟨_, rfl⟩
                    rw [← hw4]
                    obtain ⟨hb4, x0, x1, x2⟩ := box3 hw4
                    have HB4 := Lib.hid (HB1.out.trans (hb4.mono HB1.out.size))
                    clear q0 q1 q2 hw4 hb4
                    have hll := HBL.out d (List.mem_of_getElem? HDK.out)
                    go_wp2_with fail
                    refine (right_ratio _ d w4 (HAT.out.below HB4.out) hll.1 hll.2).mono ?_
                    rintro e w5 ⟨rfl, hb5⟩
                    have HB5 := Lib.hid (HB4.out.trans (hb5.mono HB4.out.size))
                    clear hb5 x0 x1 x2
                    cases hrd : rightB d with
                    | false =>
                      go_wp2_with fail
                      go_ret
                      refine ⟨?_, HB5.out⟩
                      rw [HVV.out, all_false (p := rightB) HDK.out hrd, Bool.and_false]
                      rfl
                    | true =>
                      go_wp2_with fail
                      refine ⟨⟨k + 1, by omega, by go_num, HB5.out, by rw [take_all HDK.out, HALL.out, hrd]; rfl⟩, by simp [intOf]; omega⟩
                  · obtain rfl : m = k := by omega
                    have hnl : ¬ ((m : Int) < (m : Int)) := by omega
                    rw [← HBN.out, List.take_length] at HALL
                    go_wp2_with fail
                    go_ret
                    refine ⟨?_, HB1.out⟩
                    rw [HVV.out, HALL1.out, HALL.out]
                    rfl
          · rw [sysB_not (by rw [hpc]; omega)]
            have e5 : ¬ ((m : Int) = (R : Int)) := by omega
            have e6 : ((m : Int) != (R : Int)) = true := by simp; omega
            have e7 : ¬ ((R : Int) < 0) := by omega
            have e8 : ¬ (48 < (R : Int)) := by omega
            subst h4
            clear hdn hbn
            go_enter Try.func39, Try.ntmps39
            go_wp2_with fail
            go_ret
            exact ⟨by simp, below1 ..⟩
        · rw [sysB_not (by rw [hpc]; omega)]
          have e4 : ¬ ((n : Int) = (p : Int)) := by omega
          clear hdn hbn
          go_enter Try.func39, Try.ntmps39
          go_wp2_with fail
          go_ret
          exact ⟨by simp, below1 ..⟩
      · rw [sysB_not (by omega)]
        clear hdn hbn
        go_enter Try.func39, Try.ntmps39
        go_wp2_with fail
        go_ret
        exact ⟨by simp, below1 ..⟩
    · rw [sysB_not (by omega)]
      clear hdn hbn
      go_enter Try.func39, Try.ntmps39
      go_wp2_with fail
      go_ret
      exact ⟨by simp, below1 ..⟩
  · rw [sysB_not (by omega)]
    clear hdn hbn
    go_enter Try.func39, Try.ntmps39
    go_wp2_with fail
    go_ret
    exact ⟨by simp, below1 ..⟩

end Go.Proofs.Ytfepmbpcdfdlhaa

/- rank.spread: the walk -/
namespace Go.Proofs.Ytfepmbpcdfdlhaa
open Go.RowKit Go.Sort

theorem run_min_int (x y : Int) (t : TypeId) (w : World) : (Builtin.min_ #[t, t] t #[.int .i64 x, .int .i64 y]).run Try.prog w = .ok (.int .i64 (min x y)) w := by
  have e : (if y < x then y else x) = min x y := by omega
  rw [← e]; rfl
/-- the least power, and how far the dyads reach -/
def sprStep (p : Int × Int) (d : DV) : Int × Int := if d.mag.length = 0 then p else (min p.1 d.exp, max p.2 (d.exp + (blen (ln d.mag) : Int)))
def sprS (ds : List DV) : Int × Int := ds.foldl sprStep (9223372036854775807, -9223372036854775808)
def sprW (ds : List DV) : Int := if (sprS ds).1 > (sprS ds).2 then 0 else (sprS ds).2 - (sprS ds).1
def sprL (ds : List DV) : Int := if (sprS ds).1 > (sprS ds).2 then 0 else (sprS ds).1
theorem sprS_take {ds : List DV} {k : Nat} {d : DV} (h : ds[k]? = some d) : sprS (ds.take (k + 1)) = sprStep (sprS (ds.take k)) d := by
  unfold sprS
  rw [List.take_add_one, h, List.foldl_append]; rfl
def SprOk (p : Int × Int) : Prop := (p.1 = 9223372036854775807 ∧ p.2 = -9223372036854775808) ∨ (-65536 ≤ p.1 ∧ p.1 ≤ 65536 ∧ p.1 ≤ p.2 ∧ p.2 ≤ 100000)
theorem right_mag {d : DV} (h : rightDB d = true) (h0 : d.mag.length ≠ 0) : d.mag.length ≤ 256 ∧ -65536 ≤ d.exp ∧ d.exp ≤ 65536 := by
  unfold rightDB at h
  rw [if_neg h0] at h
  simp only [Bool.and_eq_true, decide_eq_true_eq] at h
  exact ⟨h.1.1.1.1, h.1.2, h.2⟩
theorem blen_lds {ls : List Nat} (h : Lds ls) {n : Nat} (hn : ls.length ≤ n) : blen (ln ls) ≤ 64 * n := by
  have h1 := ln_lt h
  have h2 : (lim (ln ls)).length ≤ ls.length := lim_len_le h1
  rw [lim_len] at h2
  omega
theorem sprOk_step {p : Int × Int} {d : DV} (hp : SprOk p) (hl : Lds d.mag) (hr : rightDB d = true) : SprOk (sprStep p d) := by
  unfold sprStep
  split
  · exact hp
  · rename_i h0
    obtain ⟨h1, h2, h3⟩ := right_mag hr h0
    have h4 := blen_lds hl h1
    unfold SprOk at hp ⊢
    right
    simp only
    rcases hp with ⟨e1, e2⟩ | ⟨e1, e2, e3, e4⟩
    · rw [e1, e2]; omega
    · omega

set_option maxRecDepth 100000 in
set_option maxHeartbeats 4000000 in
theorem spread_any (n cA : Nat) (A : Option Addr) (ds : List DV) (w : World) (hd : DyadsAt w A n ds) (hr : ∀ d ∈ ds, rightDB d = true) (hn : n ≤ 1000000) :
    Calls Try.prog 40 #[.slice A n cA] w fun e w' => e = .returned (.tuple #[.int .i64 (sprW ds), .int .i64 (sprL ds)]) ∧ Below w.heap.size w w' := by
  have HD := Lib.hid hd
  have HR := Lib.hid hr
  have HDN := Lib.hid hd.len
  clear hd hr
  go_enter Try.func40, Try.ntmps40
  go_wp2_with fail
  go_loopw [4, 5, 10] (fun lv hv iv wr => ∃ k : Nat, k ≤ n ∧ iv = .int .i64 k ∧ lv = .int .i64 (sprS (ds.take k)).1 ∧ hv = .int .i64 (sprS (ds.take k)).2 ∧ SprOk (sprS (ds.take k)) ∧ Below w.heap.size w wr) (fun _ _ iv _ => n - (intOf iv).toNat)
  case atStart => exact ⟨0, Nat.zero_le _, rfl, rfl, rfl, .inl ⟨rfl, rfl⟩, Below.refl _ _⟩
  case round =>
    obtain ⟨k, hk, rfl, hlo, hhi, hok, hb⟩ := hrel
    obtain ⟨p, hp⟩ : ∃ p, p = sprS (ds.take k) := ⟨_, rfl⟩
    rw [← hp] at hlo hhi hok
    obtain ⟨lo, hi⟩ := p
    simp only at hlo hhi
    subst hlo hhi
    have HP := Lib.hid hp
    have HOK := Lib.hid hok
    have HB1 := Lib.hid hb
    clear hp hok hb
    by_cases hlt : k < n
    · have hlti : (k : Int) < (n : Int) := by omega
      obtain ⟨b1, o1, t, d, rfl, hdk, hat, c0, c1, c2⟩ := HD.out.get hlt
      have q0 := bat HB1.out c0
      have q1 := bat HB1.out c1
      have q2 := bat HB1.out c2
      have hrd := HR.out d (List.mem_of_getElem? hdk)
      obtain ⟨es, ex, en, hrdD, hldD⟩ := dat_d3 hat
      have hml : d.mag.length ≤ 256 ∨ d.mag.length = 0 := by
        by_cases h0 : d.mag.length = 0
        · exact .inr h0
        · exact .inl (right_mag hrd h0).1
      have htn : t.n ≤ 256 := by omega
      have HDK := Lib.hid hdk
      have HRD := Lib.hid hrdD
      have HLD := Lib.hid hldD
      have HEN := Lib.hid en
      have HEX := Lib.hid ex
      have HRI := Lib.hid hrd
      clear c0 c1 c2 hat hdk hrdD hldD es en ex hrd hml
      go_upto_region 5 with fail
      obtain ⟨w4, hw4⟩ : ∃ w4, w4 = wr.alloc (.cells #[.bool t.s, .slice t.a t.n t.c, .int .i64 t.x] 61) := ⟨_, rfl⟩
      rw [← hw4]
      obtain ⟨hb4, x0, x1, x2⟩ := box3 hw4
      have HB4 := Lib.hid (HB1.out.trans (hb4.mono HB1.out.size))
      have hgb : wr.heap.size < w4.heap.size := by rw [hw4]; simp
      clear q0 q1 q2 hw4 hb4
      obtain ⟨gb, hgbe⟩ : ∃ gb, gb = wr.heap.size := ⟨_, rfl⟩
      rw [← hgbe] at x0 x1 x2 hgb ⊢
      clear hgbe
      by_cases h0 : t.n = 0
      · have hz : ¬ (0 < (t.n : Int)) := by omega
        go_wp2_with fail
        refine ⟨⟨k + 1, by omega, by go_num, ?_, ?_, ?_, HB4.out⟩, by simp [intOf]; omega⟩
        all_goals
          rw [sprS_take HDK.out, ← HP.out, sprStep, if_pos (by rw [← HEN.out]; exact h0)]
        exact HOK.out
      · have hz : (0 < (t.n : Int)) := by omega
        obtain ⟨mg1, mg2, mg3⟩ := right_mag HRI.out (by rw [← HEN.out]; exact h0)
        rw [← HEX.out] at mg2 mg3
        have hok' := HOK.out
        unfold SprOk at hok'
        simp only at hok'
        obtain ⟨bl, hbl⟩ : ∃ bl, bl = blen (ln d.mag) := ⟨_, rfl⟩
        have hbl2 : bl ≤ 64 * 256 := by rw [hbl]; exact blen_lds HLD.out (by rw [← HEN.out]; exact htn)
        have HBL := Lib.hid hbl
        clear hbl
        go_upto_region 6 with fail
        obtain ⟨we, hwe⟩ : ∃ we, we = w4.drew := ⟨_, rfl⟩
        have hbe : Below w4.heap.size w4 we := by rw [hwe]; exact (Below.refl _ _).drew
        have HBE := Lib.hid hbe
        have X1 := Lib.hid (bat hbe x1)
        have X2 := Lib.hid (bat hbe x2)
        have y1 := bat hbe x1
        have y2 := bat hbe x2
        rw [hwe] at y1 y2
        have HWE := Lib.hid hwe
        have hmin := run_min_int lo t.x 3
        clear hbe hwe
        refine wp_region_held_drew (S := (fun w' => w'.cell? ⟨gb, 1, none⟩ = some (.slice t.a t.n t.c) ∧ w'.cell? ⟨gb, 2, none⟩ = some (.int .i64 t.x))) (by kernel_rfl) ?_ (fun hHeld => ?_)
        · first | exact True.intro | ((try dsimp only); go_keep)
        refine tkH (i := 0) (v := ?_) rfl (by kernel_rfl) (Or.inl ⟨by kernel_rfl, ?_⟩) (by assumption) ?_
        rotate_left 1
        · (intro w hSw; (try dsimp only at hSw); go_simp; try with_reducible rfl)
        try simp only [lyA, lyB, lyC, Act.put, lyD, lyE, lyF]
        refine tkH (i := 1) (v := ?_) rfl (by kernel_rfl) (Or.inl ⟨by kernel_rfl, ?_⟩) (by assumption) ?_
        rotate_left 1
        · (intro w hSw; (try dsimp only at hSw); go_simp; try with_reducible rfl)
        try simp only [lyA, lyB, lyC, Act.put, lyD, lyE, lyF]
        refine tkH (i := 2) (v := ?_) rfl (by kernel_rfl) (Or.inl ⟨by kernel_rfl, ?_⟩) (by assumption) ?_
        rotate_left 1
        · (intro w hSw; (try dsimp only at hSw); go_simp; try with_reducible rfl)
        try simp only [lyA, lyB, lyC, Act.put, lyD, lyE, lyF]
        refine tkH (i := 4) (v := ?_) rfl (by kernel_rfl) (Or.inl ⟨by kernel_rfl, ?_⟩) (by assumption) ?_
        rotate_left 1
        · (intro w hSw; (try dsimp only at hSw); go_simp; try with_reducible rfl)
        try simp only [lyA, lyB, lyC, Act.put, lyD, lyE, lyF]
        refine tkH (i := 5) (v := ?_) rfl (by kernel_rfl) (Or.inl ⟨by kernel_rfl, ?_⟩) (by assumption) ?_
        rotate_left 1
        · (intro w hSw; (try dsimp only at hSw); go_simp; try with_reducible rfl)
        try simp only [lyA, lyB, lyC, Act.put, lyD, lyE, lyF]
        refine tkH (i := 6) (v := ?_) rfl (by kernel_rfl) (Or.inl ⟨by kernel_rfl, ?_⟩) (by assumption) ?_
        rotate_left 1
        · (intro w hSw; (try dsimp only at hSw); go_simp; try with_reducible rfl)
        try simp only [lyA, lyB, lyC, Act.put, lyD, lyE, lyF]
        refine tkH (i := 7) (v := ?_) rfl (by kernel_rfl) (Or.inl ⟨by kernel_rfl, ?_⟩) (by assumption) ?_
        rotate_left 1
        · (intro w hSw; (try dsimp only at hSw); go_simp; try with_reducible rfl)
        try simp only [lyA, lyB, lyC, Act.put, lyD, lyE, lyF]
        refine tkH (i := 8) (v := ?_) rfl (by kernel_rfl) (Or.inl ⟨by kernel_rfl, ?_⟩) (by assumption) ?_
        rotate_left 1
        · (intro w hSw; (try dsimp only at hSw); go_simp; try with_reducible rfl)
        try simp only [lyA, lyB, lyC, Act.put, lyD, lyE, lyF]
        refine tkH (i := 3) (v := ?_) rfl (by kernel_rfl) (Or.inl ⟨by kernel_rfl, ?_⟩) (by assumption) ?_
        rotate_left 1
        · (intro w hSw; (try dsimp only at hSw); go_simp; try with_reducible rfl)
        try simp only [lyA, lyB, lyC, Act.put, lyD, lyE, lyF]
        rw [← HWE.out]
        clear y1 y2
        have hex1 : -100000 ≤ t.x ∧ t.x ≤ 100000 := by omega
        refine wpAnyH_ready (rs := [9]) (by kernel_rfl) (by simp) ?_
        refine AllReadyH.cons rfl (fun K hK => ?_) AllReadyH.nil
        go_simp
        (refine (whole_rank t.a t.n t.c false d.mag we (HRD.out.blw (HB4.out.trans (HBE.out.mono HB4.out.size))) HLD.out (by omega)).mono ?_; rintro e wA ⟨gA, rfl, hgA, hgAl, hiA, hbA⟩; have y1 := bat hbA X1.out; have y2 := bat hbA X2.out; have HIA := Lib.hid hiA; have HBA := Lib.hid hbA; clear hiA hbA)
        try go_wp2_with fail
        refine hK.out _ _ ?_ (fun hHeld => ?_)
        · first | exact True.intro | ((try dsimp only); go_keep)
        clear hK K
        try simp only [lyA, lyB, lyC, Act.put, lyD, lyE, lyF]
        have hsl : (dig (ln d.mag)).length ≤ 10000000 := by
          have := dig_ln_len HLD.out
          have := HEN.out
          omega
        have HSL := Lib.hid hsl
        clear hsl
        refine wpAnyH_ready (rs := [10]) (by kernel_rfl) (by simp) ?_
        refine AllReadyH.cons rfl (fun K hK => ?_) AllReadyH.nil
        go_simp
        (refine (bitLen_int gA 0 (ln d.mag : Int) wA HIA.out (by rw [Int.natAbs_natCast]; exact HSL.out)).mono ?_; rintro e w' ⟨rfl, rfl⟩; rw [Int.natAbs_natCast, ← HBL.out])
        try go_wp2_with fail
        refine hK.out _ _ ?_ (fun hHeld => ?_)
        · first | exact True.intro | ((try dsimp only); go_keep)
        clear hK K
        try simp only [lyA, lyB, lyC, Act.put, lyD, lyE, lyF]
        refine tkH (i := 11) (v := ?_) rfl (by kernel_rfl) (Or.inl ⟨by kernel_rfl, ?_⟩) (by assumption) ?_
        rotate_left 1
        · (intro w hSw; (try dsimp only at hSw); go_simp; try with_reducible rfl)
        try simp only [lyA, lyB, lyC, Act.put, lyD, lyE, lyF]
        refine tkH (i := 12) (v := ?_) rfl (by kernel_rfl) (Or.inl ⟨by kernel_rfl, ?_⟩) (by assumption) ?_
        rotate_left 1
        · (intro w hSw; (try dsimp only at hSw); go_simp; try with_reducible rfl)
        try simp only [lyA, lyB, lyC, Act.put, lyD, lyE, lyF]
        refine wpAnyH_ready (rs := [13]) (by kernel_rfl) (by simp) ?_
        refine AllReadyH.cons rfl (fun K hK => ?_) AllReadyH.nil
        go_simp
        refine hK.out _ _ ?_ (fun hHeld => ?_)
        · first | exact True.intro | ((try dsimp only); go_keep)
        clear hK K
        try simp only [lyA, lyB, lyC, Act.put, lyD, lyE, lyF]
        refine wpAnyH_ready (rs := [14]) (by kernel_rfl) (by simp) ?_
        refine AllReadyH.cons rfl (fun K hK => ?_) AllReadyH.nil
        go_simp
        refine hK.out _ _ ?_ (fun hHeld => ?_)
        · first | exact True.intro | ((try dsimp only); go_keep)
        clear hK K
        try simp only [lyA, lyB, lyC, Act.put, lyD, lyE, lyF]
        refine wpAnyH_done (by kernel_rfl) ?_ _
        clear hHeld
        have hw1 : IntKind.i64.wrap (t.x + (bl : Int)) = t.x + bl := IntWalk.i64_in _ (by omega)
        rw [hw1]
        have hmx : (if hi < t.x + (bl : Int) then t.x + (bl : Int) else hi) = max hi (t.x + bl) := by omega
        rw [hmx]
        clear hw1 hmx hmin
        go_wp2_with fail
        have hst : sprS (ds.take (k + 1)) = (min lo t.x, max hi (t.x + (bl : Int))) := by
          rw [sprS_take HDK.out, ← HP.out, sprStep, if_neg (by rw [← HEN.out]; exact h0), HBL.out, HEX.out]
        refine ⟨⟨k + 1, by omega, by go_num, ?_, ?_, ?_, HB4.out.trans ((HBE.out.trans (HBA.out.mono HBE.out.size)).mono HB4.out.size)⟩, by simp [intOf]; omega⟩
        · rw [hst]
        · rw [hst]
        · rw [sprS_take HDK.out, ← HP.out]
          exact sprOk_step HOK.out HLD.out HRI.out
    · obtain rfl : n = k := by omega
      have hnl : ¬ ((n : Int) < (n : Int)) := by omega
      rw [← HDN.out, List.take_length] at HP
      have hok' := HOK.out
      unfold SprOk at hok'
      simp only at hok'
      have hW : sprW ds = if lo > hi then 0 else hi - lo := by unfold sprW; rw [← HP.out]
      have hL : sprL ds = if lo > hi then 0 else lo := by unfold sprL; rw [← HP.out]
      have HW := Lib.hid hW
      have HL := Lib.hid hL
      clear hW hL
      by_cases hgt : hi < lo
      · go_wp2_with fail
        go_ret2
        refine ⟨?_, HB1.out⟩
        rw [HW.out, HL.out, if_pos hgt, if_pos hgt]
        rfl
      · have hrg : -200000 ≤ hi - lo ∧ hi - lo ≤ 200000 := by omega
        go_wp2_with fail
        go_ret2
        refine ⟨?_, HB1.out⟩
        rw [HW.out, HL.out, if_neg (show ¬ lo > hi by omega), if_neg (show ¬ lo > hi by omega)]
        rfl

end Go.Proofs.Ytfepmbpcdfdlhaa

/- a square grid beside the identity: its inverse, from both sides -/
namespace Go.Proofs.Ytfepmbpcdfdlhaa
/-- the grid A (n rows, m columns at least n): its right part is the identity -/
structure Beside (A : List (List Int)) (n : Nat) : Prop where
  rct : rect A n (n + n)
  one : ∀ i k, i < n → k < n → tf A i (n + k) = if i = k then 1 else 0
end Go.Proofs.Ytfepmbpcdfdlhaa

/- a grid beside the identity with fewer pivots than rows: some rows' sum, not all times 0, is nothing -/
namespace Go.Proofs.Ytfepmbpcdfdlhaa
end Go.Proofs.Ytfepmbpcdfdlhaa

/- the identity and the sum of rows laid on themselves: it has one solution -/
namespace Go.Proofs.Ytfepmbpcdfdlhaa
end Go.Proofs.Ytfepmbpcdfdlhaa

/- the document's way of taking rows off one another: the same pivots, rows up to factors -/
namespace Go.Proofs.Ytfepmbpcdfdlhaa
structure RrSt where
  rows : List (List Int)
  piv : List Nat
end Go.Proofs.Ytfepmbpcdfdlhaa

/- the document's way, where only the first columns are alike; what the rows tell of a solution stays -/
namespace Go.Proofs.Ytfepmbpcdfdlhaa
end Go.Proofs.Ytfepmbpcdfdlhaa

/- both ways tell one solution -/
namespace Go.Proofs.Ytfepmbpcdfdlhaa
end Go.Proofs.Ytfepmbpcdfdlhaa

/- a system's answers (plain) -/
namespace Go.Proofs.Ytfepmbpcdfdlhaa
open Go.RowKit Go.Sort

/-- at most e bits -/
def Bt (e : Nat) (z : Int) : Prop := z.natAbs ≤ 2 ^ e
theorem Bt.mono {a b : Nat} {z : Int} (h : Bt a z) (hab : a ≤ b) : Bt b z := Nat.le_trans h (Nat.pow_le_pow_right (by decide) hab)
theorem Bt.mul {a b : Nat} {x y : Int} (hx : Bt a x) (hy : Bt b y) : Bt (a + b) (x * y) := by
  unfold Bt at *
  rw [Int.natAbs_mul, Nat.pow_add]
  exact Nat.mul_le_mul hx hy
theorem Bt.add {a : Nat} {x y : Int} (hx : Bt a x) (hy : Bt a y) : Bt (a + 1) (x + y) := by
  unfold Bt at *
  rw [Nat.pow_succ]
  have := Int.natAbs_add_le x y
  omega
theorem Bt.pow (k : Nat) : Bt k ((2 : Int) ^ k) := by
  unfold Bt
  rw [Int.natAbs_pow]
  exact Nat.le_refl _
theorem pow_lt_lim {e k : Nat} (h : e < 64 * k) : 2 ^ e < W64 ^ k := by
  rw [show W64 = 2 ^ 64 from rfl, ← Nat.pow_mul]
  exact Nat.pow_lt_pow_right (by decide) h
theorem Bt.limL {e k : Nat} {z : Int} (h : Bt e z) (hk : e < 64 * k) : (lim z.natAbs).length ≤ k := lim_len_le (Nat.lt_of_le_of_lt h (pow_lt_lim hk))
theorem Bt.digL {e : Nat} {z : Int} (h : Bt e z) (he : e ≤ 30000000) : (dig z.natAbs).length ≤ 1000000 := by
  have h1 := dig_ln_len (lim_lds z.natAbs)
  rw [ln_dig] at h1
  have h2 := h.limL (k := 500000) (by omega)
  omega
theorem Bt.ten {e : Nat} {z : Int} (h : Bt e z) (he : e ≤ 30000000) : (dig z.natAbs).length ≤ 10000000 := Nat.le_trans (h.digL he) (by decide)
theorem lim_bt {N k : Nat} (h : (lim N).length ≤ k) : N ≤ 2 ^ (64 * k) := by
  have h1 := lt_lim_len N
  have h2 : W64 ^ (lim N).length ≤ W64 ^ k := Nat.pow_le_pow_right (by decide) h
  rw [show W64 = 2 ^ 64 from rfl, ← Nat.pow_mul, ← Nat.pow_mul] at h2
  rw [show W64 = 2 ^ 64 from rfl, ← Nat.pow_mul] at h1
  omega
theorem fits_bt {q : Rat} {k : Nat} (hk : 256 ≤ k) (h : fits q) : Bt (64 * k) q.num ∧ Bt (64 * k) (q.den : Int) :=
  ⟨lim_bt (Nat.le_trans h.1 hk), by unfold Bt; rw [Int.natAbs_natCast]; exact lim_bt (Nat.le_trans h.2 hk)⟩

/-- a multiple of all denominators -/
def allN (qs : List Rat) : Nat := qs.foldl (fun a q => a * (q.den / Nat.gcd a q.den)) 1
theorem allN_take {qs : List Rat} {k : Nat} {q : Rat} (h : qs[k]? = some q) : allN (qs.take (k + 1)) = allN (qs.take k) * (q.den / Nat.gcd (allN (qs.take k)) q.den) := by
  unfold allN
  rw [List.take_add_one, h, List.foldl_append]; rfl
theorem all_aux (E : Nat) : ∀ (qs : List Rat) (a e : Nat), 0 < a → a ≤ 2 ^ e → (∀ q ∈ qs, q.den ≤ 2 ^ E) →
    0 < qs.foldl (fun a q => a * (q.den / Nat.gcd a q.den)) a ∧ a ∣ qs.foldl (fun a q => a * (q.den / Nat.gcd a q.den)) a ∧ (∀ q ∈ qs, q.den ∣ qs.foldl (fun a q => a * (q.den / Nat.gcd a q.den)) a) ∧ qs.foldl (fun a q => a * (q.den / Nat.gcd a q.den)) a ≤ 2 ^ (e + E * qs.length)
  | [], a, e, ha, he, _ => ⟨ha, Nat.dvd_refl _, fun q hq => by simp at hq, by simpa using he⟩
  | q :: qs, a, e, ha, he, hq => by
    have hd : 0 < q.den := q.den_pos
    have hg : 0 < Nat.gcd a q.den := Nat.gcd_pos_of_pos_left _ ha
    have hgd := Nat.gcd_dvd_right a q.den
    have hga := Nat.gcd_dvd_left a q.den
    have hdg : 0 < q.den / Nat.gcd a q.den := Nat.div_pos (Nat.le_of_dvd hd hgd) hg
    have hle : a * (q.den / Nat.gcd a q.den) ≤ 2 ^ (e + E) := by
      rw [Nat.pow_add]
      exact Nat.mul_le_mul he (Nat.le_trans (Nat.div_le_self _ _) (hq q (by simp)))
    obtain ⟨h1, h2, h3, h4⟩ := all_aux E qs (a * (q.den / Nat.gcd a q.den)) (e + E) (Nat.mul_pos ha hdg) hle (fun r hr => hq r (List.mem_cons_of_mem _ hr))
    refine ⟨h1, Nat.dvd_trans (Nat.dvd_mul_right _ _) h2, fun r hr => ?_, ?_⟩
    · rcases List.mem_cons.1 hr with rfl | hr
      · refine Nat.dvd_trans ?_ h2
        obtain ⟨a', ha'⟩ := hga
        obtain ⟨d', hd'⟩ := hgd
        have e1 : r.den / Nat.gcd a r.den = d' := by
          conv => lhs; lhs; rw [hd']
          exact Nat.mul_div_cancel_left _ hg
        refine ⟨a', ?_⟩
        rw [e1]
        conv => lhs; lhs; rw [ha']
        conv => rhs; lhs; rw [hd']
        rw [Nat.mul_assoc, Nat.mul_assoc, Nat.mul_comm a' d']
      · exact h3 r hr
    · rw [List.length_cons, Nat.mul_succ, show e + (E * qs.length + E) = e + E + E * qs.length by omega]
      exact h4
theorem allN_ok {qs : List Rat} {k : Nat} (hk : 256 ≤ k) (h : ∀ q ∈ qs, fits q) : 0 < allN qs ∧ (∀ q ∈ qs, q.den ∣ allN qs) ∧ Bt (64 * k * qs.length) (allN qs : Int) := by
  obtain ⟨h1, _, h3, h4⟩ := all_aux (64 * k) qs 1 0 (by decide) (by decide) (fun q hq => by have := (fits_bt hk (h q hq)).2; unfold Bt at this; rwa [Int.natAbs_natCast] at this)
  exact ⟨h1, h3, by unfold Bt; rw [Int.natAbs_natCast]; rw [Nat.zero_add] at h4; exact h4⟩

def denN (qs : List Rat) (k : Nat) : Int := ((qs.getD k 0).den : Int)
def numN (qs : List Rat) (k : Nat) : Int := (qs.getD k 0).num
/-- the sum of the first k products -/
def psum (s : BSt) (n : Nat) (qs : List Rat) (i k : Nat) : Int := ((List.range k).map fun k => ((allN qs : Int) / denN qs k * numN qs k) * tf s.rows i (n + k)).sum
theorem psum_succ (s : BSt) (n : Nat) (qs : List Rat) (i k : Nat) : psum s n qs i (k + 1) = psum s n qs i k + ((allN qs : Int) / denN qs k * numN qs k) * tf s.rows i (n + k) := by
  simp [psum, List.range_succ]
theorem getD_some {α : Type} {xs : List α} {k : Nat} {x d : α} (h : xs[k]? = some x) : xs.getD k d = x := by rw [List.getD_eq_getElem?_getD, h]; rfl
theorem quot_bt {qs : List Rat} {k : Nat} {q : Rat} {e : Nat} (h : qs[k]? = some q) (he : Bt e (allN qs : Int)) : Bt e ((allN qs : Int) / denN qs k) := by
  unfold Bt denN at *
  rw [getD_some h]
  rw [Int.natAbs_natCast] at he
  rw [show (allN qs : Int) / (q.den : Int) = ((allN qs / q.den : Nat) : Int) from (Int.natCast_ediv _ _).symm, Int.natAbs_natCast]
  exact Nat.le_trans (Nat.div_le_self _ _) he
theorem psum_bt {s : BSt} {n : Nat} {qs : List Rat} {i e E Er : Nat} (h : ∀ q ∈ qs, fits q) (he : Bt e (allN qs : Int)) (hE : ∀ q ∈ qs, Bt E q.num) (hr : ∀ i k, Bt Er (tf s.rows i k)) : ∀ k, k ≤ qs.length → Bt (e + E + Er + k) (psum s n qs i k)
  | 0, _ => by unfold psum Bt; simp
  | k + 1, hk => by
    obtain ⟨q, hq⟩ : ∃ q, qs[k]? = some q := ⟨_, List.getElem?_eq_getElem (by omega)⟩
    rw [psum_succ]
    refine ((psum_bt h he hE hr k (by omega)).add ?_)
    refine Bt.mono (a := e + E + Er) ?_ (by omega)
    refine ((quot_bt hq he).mul ?_).mul (hr _ _)
    unfold numN
    rw [getD_some hq]
    exact hE q (List.mem_of_getElem? hq)

/-- the answer at place i -/
def ansN (s : BSt) (n : Nat) (qs : List Rat) (low : Int) (i : Nat) : Int := if low > 0 then psum s n qs i n else psum s n qs i n * 2 ^ (-low).toNat
def ansD (s : BSt) (qs : List Rat) (low : Int) : Int := if low > 0 then (allN qs : Int) * s.last * 2 ^ low.toNat else (allN qs : Int) * s.last
def ansQ (s : BSt) (n : Nat) (qs : List Rat) (low : Int) (i : Nat) : Rat := Rat.divInt (ansN s n qs low i) (ansD s qs low)
def ansL (s : BSt) (n : Nat) (qs : List Rat) (low : Int) (m : Nat) : List Rat := (List.range m).map (ansQ s n qs low)
theorem ansL_succ (s : BSt) (n : Nat) (qs : List Rat) (low : Int) (m : Nat) : ansL s n qs low (m + 1) = ansL s n qs low m ++ [ansQ s n qs low m] := by simp [ansL, List.range_succ]
theorem ansL_len (s : BSt) (n : Nat) (qs : List Rat) (low : Int) (m : Nat) : (ansL s n qs low m).length = m := by simp [ansL]

/-- a list of right ratios in the making -/
def Tk (v : Value) : Prop := (∃ b, v = .bool b) ∨ Sk v
theorem tk_int (k : IntKind) (x : Int) : ¬ Tk (.int k x) := fun h => by
  rcases h with ⟨b, h⟩ | h
  · cases h
  · exact sk_int k x h
structure BRats (w : World) (base : Nat) (V : Value) (ts : List T3) (qs : List Rat) : Prop where
  own : OwnR w base 43 3 Tk V qs.length (ts.flatMap Tc)
  len : ts.length = qs.length
  at_ : ∀ (k : Nat) (t : T3) (q : Rat), ts[k]? = some t → qs[k]? = some q → At w t.val q
theorem BRats.nil (w : World) (base : Nat) : BRats w base (.slice none 0 0) [] [] := ⟨OwnR.nil .., rfl, fun _ _ _ h => by simp at h⟩
theorem BRats.below {w w' : World} {base : Nat} {V : Value} {ts : List T3} {qs : List Rat} (h : BRats w base V ts qs) (hb : Below w.heap.size w w') : BRats w' base V ts qs :=
  ⟨h.own.below hb, h.len, fun k t q a b => (h.at_ k t q a b).below hb⟩
theorem BRats.app {w w' : World} {base : Nat} {V V' : Value} {ts : List T3} {qs : List Rat} {t : T3} {q : Rat} (h : BRats w base V ts qs) (ht : At w t.val q) (hg : GrowK w w' V.ownBlock Tk)
    (ho : OwnR w' base 43 3 Tk V' (qs.length + 1) (ts.flatMap Tc ++ Tc t)) : BRats w' base V' (ts ++ [t]) (qs ++ [q]) := by
  have hl := h.len
  have hn := hg.nm tk_int
  refine ⟨by simpa [List.flatMap_append] using ho, by simp [hl], fun k u p a b => ?_⟩
  rw [List.getElem?_append] at a b
  rw [hl] at a
  by_cases hk : k < qs.length
  · rw [if_pos hk] at a b
    exact (h.at_ k u p a b).nm hn
  · rw [if_neg hk] at a b
    cases e : k - qs.length with
    | zero =>
      rw [e] at a b
      obtain rfl : t = u := by simpa using a
      obtain rfl : q = p := by simpa using b
      exact ht.nm hn
    | succ j => rw [e] at a; simp at a
theorem BRats.done {w : World} {base : Nat} {V : Value} {ts : List T3} {qs : List Rat} (h : BRats w base V ts qs) : RatsAt w V qs := by
  obtain ⟨A, c, rfl, hc, hA⟩ := own_slice h.own.own
  exact ⟨A, c, ts, rfl, (RdE.of_own Tc.clen (by decide) h.own.own).imp fun b hb => hb.2.1, h.at_⟩
theorem RatsAt.get {w : World} {A : Option Addr} {n c : Nat} {qs : List Rat} (h : RatsAt w (.slice A n c) qs) {k : Nat} (hk : k < qs.length) :
    ∃ (b o : Nat) (t : T3) (q : Rat), A = some ⟨b, o, none⟩ ∧ qs[k]? = some q ∧ At w t.val q ∧ w.cell? ⟨b, o + k * 3, none⟩ = some (.bool t.s) ∧ w.cell? ⟨b, o + k * 3 + 1, none⟩ = some (.slice t.a t.n t.c) ∧ w.cell? ⟨b, o + k * 3 + 2, none⟩ = some (.slice t.a' t.n' t.c') := by
  obtain ⟨A', c', ts, e, h1, h2⟩ := h.at_
  injection e with e1 e2 e3
  subst e1
  obtain ⟨t, ht⟩ := get_some h1.num hk
  obtain ⟨q, hq⟩ : ∃ q, qs[k]? = some q := ⟨_, List.getElem?_eq_getElem hk⟩
  obtain ⟨b, o, e, _, hc⟩ := h1.elem Tc.clen ht (by decide)
  exact ⟨b, o, t, q, e, hq, h2 k t q ht hq, hc 0 _ rfl, hc 1 _ rfl, hc 2 _ rfl⟩
theorem RatsAt.below {w w' : World} {V : Value} {qs : List Rat} (h : RatsAt w V qs) (hb : Below w.heap.size w w') : RatsAt w' V qs := by
  obtain ⟨A, c, ts, e, h1, h2⟩ := h.at_
  exact ⟨A, c, ts, e, h1.blw hb, fun k t q a b => (h2 k t q a b).below hb⟩

end Go.Proofs.Ytfepmbpcdfdlhaa
