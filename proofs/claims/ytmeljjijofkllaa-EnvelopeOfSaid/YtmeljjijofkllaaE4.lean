import Derived.Test.YtmeljjijofkllaaE4p
namespace Go.Proofs.Ytmeljjijofkllaa
open Go.RowKit Go.Sort

theorem of_any (A : Option Addr) (n c : Nat) (L : List (List Spn)) (S : Nat → Prop) (w : World) (hx : RdRows Spn.cells 2 w S A n L) (hS : ∀ b, S b → b < w.heap.size) (hn : n ≤ 1000000000) (hL : ∀ (i : Nat) (l : List Spn), L[i]? = some l → l.length ≤ 8796093021952) :
    Calls Try.prog 8 #[.slice A n c] w (OfPost L w) := by
  obtain ⟨i0, hi0, hz0, hz1, hz2⟩ := info_parts info_rng
  have HX := Lib.hid hx
  have HS := Lib.hid hS
  have HLL := Lib.hid hL
  clear hx hS hL
  by_cases h0 : n = 0
  · subst h0
    go_enter Try.func8, Try.ntmps8
    go_wp2
    go_ret2
    have hL0 : L = [] := List.eq_nil_of_length_eq_zero HX.out.num
    subst hL0
    exact ⟨none, 0, 0, rfl, Nat.le_refl _, RdE.nil .., Below.refl _ _⟩
  · have hn0 : 0 < n := by omega
    have hne : ((n : Int) == 0) = false := by simp; omega
    clear h0
    obtain ⟨l0, hl0⟩ := get_some HX.out.num hn0
    obtain ⟨b0, o0, A0, c0, rfl, hSb0, hcell0, hlc0, hr0⟩ := HX.out.row hl0
    have hl0len := HLL.out 0 l0 hl0
    rw [Nat.add_zero] at hcell0
    have HL0 := Lib.hid hl0
    have HR0 := Lib.hid hr0
    clear hl0 hr0
    go_enter Try.func8, Try.ntmps8
    go_wp2
    go_loop [17] (fun i => ∃ k : Nat, k ≤ n ∧ i = .int .i64 k ∧ EvenTo L k) (fun i => n - (intOf i).toNat)
    case atStart => exact ⟨0, Nat.zero_le _, rfl, fun i l h => absurd h (Nat.not_lt_zero _)⟩
    case round =>
      obtain ⟨k, hk, rfl, hev⟩ := hrel
      have HE := Lib.hid hev
      clear hev
      by_cases hlt : k < n
      · obtain ⟨l, hl⟩ := get_some HX.out.num hlt
        obtain ⟨b, o, A1, c1, e1, hSb, hcell, hlc, hr⟩ := HX.out.row hl
        simp only [Option.some.injEq, Addr.mk.injEq, and_true] at e1
        obtain ⟨rfl, rfl⟩ := e1
        have HL := Lib.hid hl
        clear hl hr
        by_cases hll : l.length = l0.length
        · have hb1 : ((l.length : Int) != l0.length) = false := by simp [hll]
          have HLE := Lib.hid hll
          clear hll
          go_wp2
          go_round
          case rel => exact ⟨k + 1, by omega, by go_num, even_succ HE.out HL.out HL0.out HLE.out⟩
          case measure => simp [intOf]; omega
        · have hb1 : ((l.length : Int) != l0.length) = true := by simp; omega
          have hneq := Lib.hid hll
          clear hll
          go_wp2
          go_ret2
          exact of_uneven HX.out.num HL.out HL0.out hneq.out
      · obtain rfl : n = k := by omega
        have HLE := Lib.hid HE.out
        go_wp2_with (at_make; go_must (refine wpList_make_full _ rfl (.tmp 32) (.tmp 32) _ rfl w.heap.size 47 i0 _ 4 Try.underlying24 hi0 hz0 hz1 .i64 .i64 _ _ l0.length rfl rfl rfl rfl (by rw [hz2]; omega) (by simp only [maxLen]; omega) (Nat.le_refl _) ?_); intro w1 hown1 hg1)
        have hinv := Lib.hid (out_start (L := L) hown1 hg1)
        clear hown1 hg1
        go_loopw [36] (fun i wr => ∃ k : Nat, k ≤ n ∧ i = .int .i64 k ∧ OutInv w wr L l0.length k 0 ∧ RightTo L k) (fun i _ => n - (intOf i).toNat)
        case atStart => exact ⟨0, Nat.zero_le _, rfl, hinv.out, fun i l h => absurd h (Nat.not_lt_zero _)⟩
        case round =>
          obtain ⟨i, hi, rfl, hinv, hrt⟩ := hrel
          have HI := Lib.hid hinv
          have HRT := Lib.hid hrt
          clear hinv hrt
          by_cases hlt : i < n
          · obtain ⟨l, hl⟩ := get_some HX.out.num hlt
            obtain ⟨b, o, A1, c1, e1, hSb, hcell, hlc, hr⟩ := HX.out.row hl
            simp only [Option.some.injEq, Addr.mk.injEq, and_true] at e1
            obtain ⟨rfl, rfl⟩ := e1
            rw [← HI.out.below.cell (p := ⟨b0, o0 + i, none⟩) (HS.out _ hSb)] at hcell
            have hll := HLE.out i l hlt hl
            have hll0 : l.length = l0.length := by rw [hll, getD_some HL0.out]
            have hll1 : l.length ≤ l0.length := by omega
            have hll2 : l0.length ≤ l.length := by omega
            have HL := Lib.hid hl
            have HR := Lib.hid hr
            have HLL := Lib.hid hll0
            clear hll0
            have HLEN := Lib.hid (even_all HLE.out HX.out.num HL0.out)
            clear hl hr hll
            go_wp2_with fail
            obtain ⟨wo, rfl⟩ : ∃ wo : World, wo = wr := ⟨_, rfl⟩
            go_loopw [43] (fun j wr => ∃ k : Nat, k ≤ l.length ∧ j = .int .i64 k ∧ OutInv w wr L l0.length i k ∧ RightCol l k) (fun j _ => l.length - (intOf j).toNat)
            case atStart => exact ⟨0, Nat.zero_le _, rfl, HI.out, fun i x h => absurd h (Nat.not_lt_zero _)⟩
            case round =>
              obtain ⟨j, hj, rfl, hinv, hrc⟩ := hrel
              have HJ := Lib.hid hinv
              have HRC := Lib.hid hrc
              clear hinv hrc hcell
              by_cases hlj : j < l.length
              · obtain ⟨x, ex⟩ := get_some (n := l.length) rfl hlj
                obtain ⟨b1, o1, rfl, hSb1, hc⟩ := HR.out.elem Spn.clen ex (by omega)
                have hcx : wr.cell? ⟨b1, o1 + j * 2, none⟩ = some (.float .f64 x.lo) := (HJ.out.below.cell (p := ⟨b1, _, none⟩) (HS.out _ hSb1)).trans (hc 0 _ rfl)
                have hcy : wr.cell? ⟨b1, o1 + j * 2 + 1, none⟩ = some (.float .f64 x.hi) := (HJ.out.below.cell (p := ⟨b1, _, none⟩) (HS.out _ hSb1)).trans (hc 1 _ rfl)
                have EX := Lib.hid ex
                clear hc ex
                have hGi : w.heap.size < wr.heap.size := (HJ.out.own.lt w.heap.size rfl).2
                cases hrx : rightB x
                · have HRX := Lib.hid hrx
                  clear hrx
                  go_wp2_with (go_at_call 23; refine (right_any x _).mono ?_; rintro e w2 ⟨rfl, hb2⟩; have HB2 := Lib.hid hb2; clear hb2; rw [HRX.out])
                  go_ret2
                  exact of_wrong HX.out.num HLE.out HL.out EX.out HRX.out (HJ.out.below.trans ((below_then (below1 ..) HB2.out).mono HJ.out.below.size))
                · have HRX := Lib.hid hrx
                  clear hrx
                  obtain ⟨r, hr⟩ := get_some (own_num Rng.clen (by omega) HJ.out.own) (show j < l0.length by omega)
                  have hcells := own_elem Rng.clen HJ.out.own hr
                  have hg0 : wr.cell? ⟨w.heap.size, j * 4, none⟩ = some (.float .f64 r.least.at_) := hcells 0 _ rfl
                  have hg1 : wr.cell? ⟨w.heap.size, j * 4 + 1, none⟩ = some (.int .i64 r.least.of_) := hcells 1 _ rfl
                  have hg2 : wr.cell? ⟨w.heap.size, j * 4 + 2, none⟩ = some (.float .f64 r.most.at_) := hcells 2 _ rfl
                  have hg3 : wr.cell? ⟨w.heap.size, j * 4 + 3, none⟩ = some (.int .i64 r.most.of_) := hcells 3 _ rfl
                  have hf0 := HJ.out.own.frozenAt (j * 4)
                  have hf1 := HJ.out.own.frozenAt (j * 4 + 1)
                  have hf2 := HJ.out.own.frozenAt (j * 4 + 2)
                  have hf3 := HJ.out.own.frozenAt (j * 4 + 3)
                  have HRR := Lib.hid hr
                  clear hr hcells
                  have hleR : w.heap.size ≤ wr.heap.size := by omega
                  have hltR : w.heap.size < wr.heap.size + 1 := by omega
                  have hjl : j < l0.length := by omega
                  cases hi0 : ((i : Int) == 0)
                  · go_upto_region 21 with (go_at_call 23; refine (right_any x _).mono ?_; rintro e w2 ⟨rfl, hb2⟩; obtain ⟨hbc, hbf⟩ := bcell hb2; have hbz := hb2.size; have HB2 := Lib.hid hb2; clear hb2; simp only [World.size_alloc] at hbz; have hlt2 : w.heap.size < w2.heap.size := (by omega); rw [HRX.out])
                    have hle2 : wr.heap.size < w2.heap.size := by omega
                    have hlt3 : w.heap.size < w2.heap.size + 1 := by omega
                    have hlt4 : w.heap.size ≤ w2.heap.size := by omega
                    have hbA := below_then (below_then (below1 _ _) HB2.out) (below1 w2 (.cells #[.float .f64 x.lo, .int .i64 i, .float .f64 x.hi, .int .i64 i] 47))
                    have k0 := cell_regrown (bat hbA hg0)
                    have k1 := cell_regrown (bat hbA hg1)
                    have k2 := cell_regrown (bat hbA hg2)
                    have k3 := cell_regrown (bat hbA hg3)
                    have n0 := cell_regrown (new_cell w2 #[.float .f64 x.lo, .int .i64 i, .float .f64 x.hi, .int .i64 i] 47 0 _ rfl)
                    have n1 := cell_regrown (new_cell w2 #[.float .f64 x.lo, .int .i64 i, .float .f64 x.hi, .int .i64 i] 47 1 _ rfl)
                    have n2 := cell_regrown (new_cell w2 #[.float .f64 x.lo, .int .i64 i, .float .f64 x.hi, .int .i64 i] 47 2 _ rfl)
                    have n3 := cell_regrown (new_cell w2 #[.float .f64 x.lo, .int .i64 i, .float .f64 x.hi, .int .i64 i] 47 3 _ rfl)
                    have cQ : ∀ d os, Calls Try.prog 24 #[r.val, Rng.val ⟨⟨x.lo, i⟩, ⟨x.hi, i⟩⟩] (grow (redrawn (w2.alloc (.cells #[.float .f64 x.lo, .int .i64 i, .float .f64 x.hi, .int .i64 i] 47)) d) os) fun e w'' => e = .returned (bothR r ⟨⟨x.lo, i⟩, ⟨x.hi, i⟩⟩).val ∧ ∃ p : Regrown, w'' = grow (redrawn (w2.alloc (.cells #[.float .f64 x.lo, .int .i64 i, .float .f64 x.hi, .int .i64 i] 47)) p.d) p.os := fun d os => Calls.regrown_of (both_any _ _ _)
                    have HA := Lib.hid hbA
                    clear hbA
                    refine wp_region_tail_below 9 (by kernel_rfl) (by kernel_rfl) ?_
                    simp only [List.take_succ_cons, List.take_zero, List.drop_succ_cons, List.drop_zero]
                    repeat (quiet_step (exact cQ _ _))
                    refine wpQuiet_nil ?_
                    intro wq hwq
                    have hbq := below_class hwq
                    clear hwq
                    have HQ := Lib.hid hbq
                    clear hbq k0 k1 k2 k3 n0 n1 n2 n3 cQ
                    have hbAQ := below_then HA.out HQ.out
                    have g0 := bat hbAQ hg0
                    have g1 := bat hbAQ hg1
                    have g2 := bat hbAQ hg2
                    have g3 := bat hbAQ hg3
                    have f0 := bfz hbAQ hGi hf0
                    have f1 := bfz hbAQ hGi hf1
                    have f2 := bfz hbAQ hGi hf2
                    have f3 := bfz hbAQ hGi hf3
                    clear hbAQ hbc hbf
                    go_wp2
                    refine ⟨⟨j + 1, by omega, by go_num, out_step2 (r' := bothR r ⟨⟨x.lo, i⟩, ⟨x.hi, i⟩⟩) HJ.out (below_then HA.out HQ.out) HRR.out HL.out EX.out HLEN.out hjl (step_more hi0), right_succ HRC.out EX.out HRX.out⟩, by simp [intOf]; omega⟩
                  · go_wp2_with (go_at_call 23; refine (right_any x _).mono ?_; rintro e w2 ⟨rfl, hb2⟩; obtain ⟨hbc, hbf⟩ := bcell hb2; have hbz := hb2.size; have HB2 := Lib.hid hb2; clear hb2; simp only [World.size_alloc] at hbz; have hlt2 : w.heap.size < w2.heap.size := (by omega); rw [HRX.out])
                    refine ⟨⟨j + 1, by omega, by go_num, out_step (r' := ⟨⟨x.lo, i⟩, ⟨x.hi, i⟩⟩) HJ.out HB2.out HRR.out HL.out EX.out HLEN.out hjl (step_zero hi0), right_succ HRC.out EX.out HRX.out⟩, by simp [intOf]; omega⟩
              · have hjj : j = l.length := by omega
                clear hj hlj
                subst hjj
                go_wp2
                refine ⟨⟨i + 1, by omega, by go_num, out_next HJ.out HLEN.out HL.out, right_row HRT.out HL.out HRC.out⟩, by simp [intOf]; omega⟩
          · obtain rfl : n = i := by omega
            go_wp2
            go_ret2
            exact of_done HX.out.num HLE.out HL0.out HRT.out HI.out

end Go.Proofs.Ytmeljjijofkllaa
