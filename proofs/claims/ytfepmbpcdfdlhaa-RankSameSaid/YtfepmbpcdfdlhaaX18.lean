import Derived.Test.YtfepmbpcdfdlhaaX17
set_option linter.unusedSimpArgs false
set_option linter.unusedVariables false
/- rank.Kernel: the walk -/
namespace Go.Proofs.Ytfepmbpcdfdlhaa
open Go.RowKit Go.Sort

theorem info_ratio : (Try.prog.info? 43).map (fun i => (i.zero, i.size, i.bytes)) = some (some (.agg #[.bool false, .slice none 0 0, .slice none 0 0]), 3, 56) := by kernel_rfl
theorem info_ratrow : (Try.prog.info? 39).map (fun i => (i.zero, i.size, i.bytes)) = some (some (.slice none 0 0), 1, 24) := by kernel_rfl

theorem nodup_of {L : List Nat} (h : L.Pairwise (· < ·)) : L.Nodup := h.imp fun h => Nat.ne_of_lt h
theorem lt_powE {N e E : Nat} (h : N < 2 ^ e) (he : e ≤ E) : N < 2 ^ E := Nat.lt_of_lt_of_le h (Nat.pow_le_pow_right (by decide) he)
theorem big_powE {R E : Nat} {z : Int} (hR : R ≤ 144) (hE : 16384 ≤ E) (h : z.natAbs ≤ bigB R (2 ^ 63)) : z.natAbs < 2 ^ E := by
  have h1 : R + 1 ≤ 2 ^ 8 := by omega
  have h2 : (8 + 64) * (R + 1) + 2 ≤ E := by omega
  exact lt_powE (Nat.lt_of_le_of_lt h (bigB_lt (a := 8) (b := 64) h1 (by decide))) h2
theorem big_lim {R : Nat} {z : Int} (hR : R ≤ 144) (h : z.natAbs ≤ bigB R (2 ^ 63)) : (lim z.natAbs).length ≤ 20000 := by
  obtain ⟨E, hE⟩ : ∃ E, E = 16384 := ⟨_, rfl⟩
  exact lim_len_pow (big_powE (E := E) hR (by omega) h) (by omega)
theorem big_fits {R : Nat} {x y : Int} (hR : R ≤ 144) (hy : y ≠ 0) (h1 : x.natAbs ≤ bigB R (2 ^ 63)) (h2 : y.natAbs ≤ bigB R (2 ^ 63)) : fits (Rat.divInt x y) := by
  obtain ⟨E, hE⟩ : ∃ E, E = 16384 := ⟨_, rfl⟩
  exact fits_div (E := E) (by omega) hy (big_powE hR (by omega) h1) (big_powE hR (by omega) h2)
theorem big_dig {R : Nat} {z : Int} (hR : R ≤ 144) (h : z.natAbs ≤ bigB R (2 ^ 63)) : (dig z.natAbs).length ≤ 10000000 := by
  have h1 := dig_ln_len (lim_lds z.natAbs)
  rw [ln_dig] at h1
  have h2 := big_lim hR h
  omega
def noFlags : Array Value := #[.bool false, .bool false, .bool false, .bool false, .bool false, .bool false, .bool false, .bool false, .bool false, .bool false, .bool false, .bool false, .bool false, .bool false, .bool false, .bool false, .bool false, .bool false, .bool false, .bool false, .bool false, .bool false, .bool false, .bool false, .bool false, .bool false, .bool false, .bool false, .bool false, .bool false, .bool false, .bool false, .bool false, .bool false, .bool false, .bool false, .bool false, .bool false, .bool false, .bool false, .bool false, .bool false, .bool false, .bool false, .bool false, .bool false, .bool false, .bool false]
theorem new_flags (w : World) (t : TypeId) : Flg (w.alloc (.cells noFlags t)) w.heap.size [] := by
  have hblk : (w.alloc (.cells noFlags t)).heap[w.heap.size]? = some (.cells (List.replicate 48 (Value.bool false)).toArray t (0, 0)) := blk_new ..
  refine ⟨fun c hc => ?_, fun j => frozen_of_row _ _ j _ _ hblk⟩
  rw [cell_of_row _ _ c _ _ (0, 0) hblk, List.getElem?_toArray, List.getElem?_replicate, if_pos hc]
  simp

set_option maxRecDepth 100000 in
set_option maxHeartbeats 4000000 in
theorem kernel_any (v : Value) (r c : Int) (n : Nat) (xs : List Int) (w : World) (hg : GridAt w v r c n xs) :
    Calls Try.prog 12 #[v] w fun e w' => Below w.heap.size w w' ∧ ((rightG r c n = true ∧ ∃ V, e = .returned (.tuple #[V, .int .i64 0]) ∧ RatRows w' V (kerRows (gS r c xs) c.toNat c.toNat)) ∨
      (rightG r c n = false ∧ e = .returned (.tuple #[.slice none 0 0, .int .i64 4]))) := by
  obtain ⟨A, cD, rfl, hx⟩ := hg.val
  have HX := Lib.hid hx
  have HG := Lib.hid hg
  clear hg hx
  go_enter Try.func12, Try.ntmps12
  go_upto_region 1 with fail
  obtain ⟨wb, hwb⟩ : ∃ wb, wb = w.alloc (.cells #[.int .i64 r, .int .i64 c, .slice A n cD] 24) := ⟨_, rfl⟩
  obtain ⟨gg, hgg⟩ : ∃ gg, gg = w.heap.size := ⟨_, rfl⟩
  have hbb : Below w.heap.size w wb := by rw [hwb]; exact below1 ..
  have n1 : wb.heap[gg]? = some (.cells #[.int .i64 r, .int .i64 c, .slice A n cD] 24 (0, 0)) := by rw [hwb, hgg]; exact blk_new ..
  have e : ∀ (j : Nat) (v : Value), (#[Value.int .i64 r, Value.int .i64 c, Value.slice A n cD] : Array Value)[j]? = some v → wb.cell? ⟨gg, j, none⟩ = some v := fun j v hv => by rw [cell_of_row _ gg j _ _ (0, 0) n1]; exact hv
  have q0 := e 0 _ rfl
  have q1 := e 1 _ rfl
  have q2 := e 2 _ rfl
  have Q := Lib.hid (And.intro q0 (And.intro q1 q2))
  have HBB := Lib.hid hbb
  rw [← hgg, ← hwb]
  have hgb : gg = w.heap.size := hgg
  have HGG := Lib.hid hgb
  clear hbb n1 e hwb hgg hgb
  go_wp2_with fail
  clear q0 q1 q2
  refine (right_grid r c n cD A wb HG.out.r63 HG.out.c63 HG.out.ln).mono ?_
  rintro e w1 ⟨rfl, hb1⟩
  have q0 := bat hb1 Q.out.1
  have q1 := bat hb1 Q.out.2.1
  have q2 := bat hb1 Q.out.2.2
  have Q1 := Lib.hid q1
  have HB1 := Lib.hid (HBB.out.trans (hb1.mono HBB.out.size))
  clear hb1
  cases hrg : rightG r c n with
  | false =>
    go_wp2_with fail
    go_ret2
    exact ⟨HB1.out, .inr ⟨hrg, rfl⟩⟩
  | true =>
    obtain ⟨R, C, rfl, rfl, hR, hC, hn⟩ := rightG_nat hrg
    have HN := Lib.hid (And.intro hn (And.intro hR hC))
    have HRG := Lib.hid hrg
    clear hn hR hC hrg
    go_wp2_with fail
    clear q0 q1 q2
    refine (of_tab R C n cD A xs w1 (HX.out.blw HB1.out) HG.out.z63 HN.out.1 HN.out.2.1 HN.out.2.2).mono ?_
    rintro e wo ⟨gt, V, rfl, hbo, ho⟩
    obtain ⟨s, hs⟩ : ∃ s, s = brun (gridT xs R C) C := ⟨_, rfl⟩
    rw [← hs] at ho
    have HS := Lib.hid hs
    have HO := Lib.hid ho
    have HBO := Lib.hid (HB1.out.trans (hbo.mono HB1.out.size))
    have Q1o := Lib.hid (bat hbo Q1.out)
    clear hs ho hbo
    obtain ⟨Ap, cp, hV, _, _⟩ : ∃ Ap cp, V = .slice Ap s.piv.length cp ∧ True ∧ True := by
      obtain ⟨base, _, _, hown⟩ := HO.out.piv
      obtain ⟨A1, c1, e, _⟩ := own_slice hown.own
      exact ⟨A1, c1, e, trivial, trivial⟩
    have hprd : RdE Ic 1 wo (fun b => b < wo.heap.size) Ap s.piv.length s.piv := by
      obtain ⟨base, _, _, hown⟩ := HO.out.piv
      rw [hV] at hown
      exact (RdE.of_own (f := Ic) (fun _ => rfl) (by decide) hown.own).imp fun b h => h.2.1
    have hbe : BE (gridT xs R C) R C C s := by rw [HS.out]; exact brun_be (gridT_rect (by rw [HX.out.num]; exact HN.out.1)) C
    have hbm : BM R C (2 ^ 63) C s := by
      rw [HS.out]
      refine brun_bm (gridT_rect (by rw [HX.out.num]; exact HN.out.1)) (gridT_le fun x hx => ?_) C
      have h1 := HG.out.z63 x hx
      unfold Z63 at h1
      omega
    rw [hV] at HO
    have HPR := Lib.hid hprd
    have HBE := Lib.hid hbe
    have HBM := Lib.hid hbm
    have hple := Nat.le_trans hbe.le HN.out.2.1
    have HR48 := Lib.hid (And.intro HN.out.2.1 HN.out.2.2)
    clear hprd hbe hbm hV
    go_upto_region 5 with fail
    obtain ⟨wp, hwp⟩ : ∃ wp, wp = wo.alloc (.cells noFlags 76) := ⟨_, rfl⟩
    have hwp' := hwp
    unfold noFlags at hwp'
    rw [← hwp']
    clear hwp'
    obtain ⟨gp, hgp⟩ : ∃ gp, gp = wo.heap.size := ⟨_, rfl⟩
    have hbp : Below wo.heap.size wo wp := by rw [hwp]; exact below1 ..
    have hflg : Flg wp gp [] := by rw [hwp, hgp]; exact new_flags wo _
    have hpsz : wo.heap.size < wp.heap.size := by rw [hwp]; simp
    rw [← hgp]
    have HFL := Lib.hid hflg
    have HBP := Lib.hid hbp
    have hgpl : gp < wp.heap.size := by omega
    have HGP := Lib.hid hgp
    have t1 := bat hbp HO.out.c1
    clear hwp hbp hflg hgp
    go_wp2_with fail
    clear t1
    go_loopw [24] (fun kv wr => ∃ k : Nat, k ≤ s.piv.length ∧ kv = .int .i64 k ∧ Flg wr gp (s.piv.take k) ∧ Below wo.heap.size wo wr ∧ wp.heap.size ≤ wr.heap.size) (fun kv _ => s.piv.length - (intOf kv).toNat)
    case atStart => exact ⟨0, Nat.zero_le _, rfl, HFL.out, HBP.out, Nat.le_refl _⟩
    case round =>
      obtain ⟨k, hk, rfl, hfl, hbw, hsz⟩ := hrel
      have HF := Lib.hid hfl
      have HBW := Lib.hid hbw
      clear hfl hbw
      by_cases hlt : k < s.piv.length
      · have hlti : (k : Int) < (s.piv.length : Int) := by omega
        obtain ⟨c, hc⟩ := get_some HPR.out.num hlt
        obtain ⟨b1, o1, rfl, hSb, hcc⟩ := HPR.out.elem (f := Ic) (fun _ => rfl) hc (by decide)
        have q0 := hcc 0 _ rfl
        rw [Nat.mul_one, Nat.add_zero] at q0
        have q1 := bat HBW.out q0
        have hcC : c < C := HBE.out.lt c (List.mem_of_getElem? hc)
        have hc48 : c < 48 := by have := HR48.out.2; omega
        have q2 := HF.out.cell c hc48
        have q3 := HF.out.fz c
        obtain ⟨w9, hw9⟩ : ∃ w9, w9 = wr.setCell ⟨gp, c, none⟩ (.bool true) := ⟨_, rfl⟩
        have hset := HF.out.set hc48 hw9
        have HSET := Lib.hid hset
        have HW9 := Lib.hid hw9
        have HC := Lib.hid hc
        clear hcc q0 hset hw9 hc
        go_wp2_with fail
        rw [← HW9.out]
        have hs9 := HSET.out.2.size
        refine ⟨⟨k + 1, by omega, by go_num, ?_, HBW.out.trans (HSET.out.2.below (fun b e => by rw [e, HGP.out]; exact Nat.le_refl _) HBW.out.size), by omega⟩, by simp [intOf]; omega⟩
        rw [List.take_add_one, HC.out]
        exact HSET.out.1
      · obtain rfl : s.piv.length = k := by omega
        have hnl : ¬ ((s.piv.length : Int) < (s.piv.length : Int)) := by omega
        rw [List.take_length] at HF
        have g1 := bat HBW.out Q1o.out
        go_wp2_with fail
        obtain ⟨wq, hwq⟩ : ∃ wq, wq = wr := ⟨_, rfl⟩
        rw [← hwq] at HF HBW hsz ⊢
        clear g1 hwq
        obtain ⟨j0, hj0, hyy0, hyy1, hyy2⟩ := info_parts' info_ratrow
        obtain ⟨i0, hi0, hzz0, hzz1, hzz2⟩ := info_parts' info_ratio
        have hC48 : C ≤ 48 := HR48.out.2
        have hgq : gp < wq.heap.size := by omega
        go_loopw [8, 33] (fun ov fv wr => ∃ (f : Nat) (vs : List Value), f ≤ C ∧ fv = .int .i64 f ∧ BRows wr wq.heap.size ov vs (kerRows s C f) ∧ Flg wr gp s.piv ∧ Below wo.heap.size wo wr ∧ wq.heap.size ≤ wr.heap.size) (fun _ fv _ => C - (intOf fv).toNat)
        case atStart => exact ⟨0, [], Nat.zero_le _, rfl, BRows.nil _ _, HF.out, HBW.out, Nat.le_refl _⟩
        case round =>
          obtain ⟨f, vs, hf, rfl, hbr, hfl, hbw2, hsz2⟩ := hrel
          obtain ⟨wv, hwv⟩ : ∃ wv, wv = wr := ⟨_, rfl⟩
          rw [← hwv] at hbr hfl hbw2 hsz2 ⊢
          have HR := Lib.hid hbr
          have HF2 := Lib.hid hfl
          have HBW2 := Lib.hid hbw2
          clear hbr hfl hbw2 hwv
          by_cases hlt : f < C
          · have hlti : (f : Int) < (C : Int) := by omega
            have q0 := HF2.out.cell f (by omega)
            by_cases hfp : f ∈ s.piv
            · rw [decide_eq_true hfp] at q0
              have HFP := Lib.hid hfp
              clear hfp
              go_wp2_with fail
              refine ⟨⟨f + 1, vs, by omega, by go_num, by rw [kerRows_in HFP.out]; exact HR.out, HF2.out, HBW2.out, hsz2⟩, by simp [intOf]; omega⟩
            · rw [decide_eq_false hfp] at q0
              have HFP := Lib.hid hfp
              have g1 := bat HBW2.out Q1o.out
              clear hfp
              go_wp2_with (at_make; go_must (refine wpList_make_full _ rfl _ _ _ rfl wv.heap.size 43 i0 _ 3 Try.underlying39 hi0 hzz0 hzz1 .i64 .i64 _ _ C (by show _ = _; congr 1 <;> omega) (by show _ = _; congr 1 <;> omega) (by omega) (by omega) (by rw [hzz2]; omega) (by simp only [maxLen]; omega) (Nat.le_refl _) ?_); intro w3 hown3 hg3)
              clear q0 g1
              obtain ⟨gv, hgv⟩ : ∃ gv, gv = wv.heap.size := ⟨_, rfl⟩
              have hvr : VRow w3 gv gv C (fun _ => none) := by
                have e : (madeCells (Value.agg #[Value.bool false, Value.slice none 0 0, Value.slice none 0 0]).cells (C * 3)).toList = (List.replicate C zT).flatMap Tc := made_flat Tc 3 Tc.clen (by decide) zT C
                rw [e, ← hgv] at hown3
                exact VRow.made hown3
              have hb3 : Below wv.heap.size wv w3 := below_of_grown hg3 (fun g hg => by cases hg)
              rw [← hgv]
              have hgg3 : wv.heap.size ≤ gv := by omega
              have HV := Lib.hid hvr
              have HB3 := Lib.hid hb3
              clear hown3 hg3 hvr hb3 hgv
              go_wp2_with fail
              go_loopw [44] (fun cv wr => ∃ k : Nat, k ≤ C ∧ cv = .int .i64 k ∧ VRow wr gv gv C (fun j => if j < k then some 0 else none) ∧ Below wv.heap.size wv wr) (fun cv _ => C - (intOf cv).toNat)
              case atStart => exact ⟨0, Nat.zero_le _, rfl, HV.out.imp (fun k q _ h => by simp at h), HB3.out⟩
              case round =>
                obtain ⟨k, hk, rfl, hv, hb⟩ := hrel
                have HV4 := Lib.hid hv
                have HB4 := Lib.hid hb
                clear hv hb
                by_cases hlk : k < C
                · have hlki : (k : Int) < (C : Int) := by omega
                  go_wp2_with fail
                  refine (int_ratio 0 wr (by decide) (by decide)).mono ?_
                  rintro e w5 ⟨v5, rfl, hr5, hb5⟩
                  rw [Rat.zero_divInt] at hr5
                  have hat5 : At w5 v5 0 := ⟨hr5, by rw [← Rat.zero_divInt 1]; exact fits_int (by decide) (by decide)⟩
                  obtain ⟨t5, rfl⟩ := hat5.t3
                  have hv5 := HV4.out.below hb5
                  obtain ⟨t, e0, e1, e2, ef⟩ := hv5.cells hlk
                  have f0 := ef (k * 3)
                  have f1 := ef (k * 3 + 1)
                  have f2 := ef (k * 3 + 2)
                  obtain ⟨w6, hw6⟩ : ∃ w6, w6 = ((w5.setCell ⟨gv, k * 3, none⟩ (.bool t5.s)).setCell ⟨gv, k * 3 + 1, none⟩ (.slice t5.a t5.n t5.c)).setCell ⟨gv, k * 3 + 2, none⟩ (.slice t5.a' t5.n' t5.c') := ⟨_, rfl⟩
                  have HST := Lib.hid (hv5.store hlk hat5 hw6)
                  have HB5 := Lib.hid (HB4.out.trans (hb5.mono HB4.out.size))
                  have HW6 := Lib.hid hw6
                  clear hr5 hat5 hv5 hb5 ef hw6
                  go_wp2_with fail
                  rw [← HW6.out]
                  refine ⟨⟨k + 1, by omega, by go_num, HST.out.1.imp (fun j q _ h => ?_), HB5.out.trans (HST.out.2.below (fun b e => by omega) HB5.out.size)⟩, by simp [intOf]; omega⟩
                  by_cases hj : j = k
                  · rw [if_pos hj]; rw [if_pos (by omega)] at h; exact h
                  · rw [if_neg hj]
                    by_cases hj2 : j < k
                    · rw [if_pos hj2]; rw [if_pos (by omega)] at h; exact h
                    · rw [if_neg (by omega)] at h; cases h
                · obtain rfl : C = k := by omega
                  have hnl : ¬ ((C : Int) < (C : Int)) := by omega
                  go_upto_region 21 with fail
                  go_wp2_with fail
                  refine (int_ratio 1 wr (by decide) (by decide)).mono ?_
                  rintro e w5 ⟨v5, rfl, hr5, hb5⟩
                  rw [Rat.divInt_self' (by decide)] at hr5
                  have hat5 : At w5 v5 1 := ⟨hr5, by rw [← Rat.divInt_self' (n := 1) (by decide)]; exact fits_int (by decide) (by decide)⟩
                  obtain ⟨t5, rfl⟩ := hat5.t3
                  have hv5 := HV4.out.below hb5
                  obtain ⟨t, e0, e1, e2, ef⟩ := hv5.cells hlt
                  have f0 := ef (f * 3)
                  have f1 := ef (f * 3 + 1)
                  have f2 := ef (f * 3 + 2)
                  obtain ⟨w6, hw6⟩ : ∃ w6, w6 = ((w5.setCell ⟨gv, f * 3, none⟩ (.bool t5.s)).setCell ⟨gv, f * 3 + 1, none⟩ (.slice t5.a t5.n t5.c)).setCell ⟨gv, f * 3 + 2, none⟩ (.slice t5.a' t5.n' t5.c') := ⟨_, rfl⟩
                  obtain ⟨hst1, hst2⟩ := hv5.store hlt hat5 hw6
                  have hv6 : VRow w6 gv gv C (kerF s f 0) := hst1.imp (fun j q hj h => by
                    rw [kerF_zero] at h
                    by_cases hjf : j = f
                    · rw [if_pos hjf] at h ⊢; exact h
                    · rw [if_neg hjf] at h ⊢; rw [if_pos hj]; exact h)
                  have hb6 : Below wv.heap.size wv w6 := (HB4.out.trans (hb5.mono HB4.out.size)).trans (hst2.below (fun b e => by omega) (Nat.le_trans HB4.out.size hb5.size))
                  have HV6 := Lib.hid hv6
                  have HB6 := Lib.hid hb6
                  have HW6 := Lib.hid hw6
                  have t1 := bat (HBW2.out.trans (hb6.mono HBW2.out.size)) HO.out.c1
                  clear hr5 hat5 hv5 hb5 ef hw6 hst1 hst2 hv6 hb6
                  go_upto_region 22 with fail
                  rw [← HW6.out]
                  clear e0 e1 e2 f0 f1 f2
                  go_wp2_with fail
                  clear t1
                  go_loopw [61] (fun iv wr => ∃ k : Nat, k ≤ s.piv.length ∧ iv = .int .i64 k ∧ VRow wr gv gv C (kerF s f k) ∧ Below wv.heap.size wv wr) (fun iv _ => s.piv.length - (intOf iv).toNat)
                  case atStart => exact ⟨0, Nat.zero_le _, rfl, HV6.out, HB6.out⟩
                  case round =>
                    obtain ⟨k, hk, rfl, hv, hb⟩ := hrel
                    have HV7 := Lib.hid hv
                    have HB7 := Lib.hid hb
                    clear hv hb
                    by_cases hlk : k < s.piv.length
                    · have hlki : (k : Int) < (s.piv.length : Int) := by omega
                      obtain ⟨c, hc⟩ := get_some HPR.out.num hlk
                      obtain ⟨b1, o1, rfl, hSb, hcc⟩ := HPR.out.elem (f := Ic) (fun _ => rfl) hc (by decide)
                      have q0 := hcc 0 _ rfl
                      rw [Nat.mul_one, Nat.add_zero] at q0
                      have hbo : Below wo.heap.size wo wr := HBW2.out.trans (HB7.out.mono HBW2.out.size)
                      have q1 := bat hbo q0
                      have hcC : c < C := HBE.out.lt c (List.mem_of_getElem? hc)
                      have hpleR := HBE.out.le
                      obtain ⟨G, cR, base, gs, gl, hb00, hrst⟩ := HO.out.rst (by omega) (by omega)
                      have hrs := hrst.below hbo
                      obtain ⟨gk, zs, ps, ck, hgk, hzs, hzl, hprow, hcell⟩ := hrs.rows.get (show k < R by omega)
                      obtain ⟨zf, hzf⟩ := get_some hzl hlt
                      obtain ⟨zc, hzc⟩ := get_some hzl hcC
                      obtain ⟨pf, hpf⟩ := get_some (hprow.len.trans hzl) hlt
                      obtain ⟨pc, hpc⟩ := get_some (hprow.len.trans hzl) hcC
                      have i1 := hprow.int f pf zf hpf hzf
                      have i2 := hprow.int c pc zc hpc hzc
                      have p1 := hprow.ptr f pf hpf
                      have p2 := hprow.ptr c pc hpc
                      have et1 : tf s.rows k f = zf := tf_at hzs hzf
                      have et2 : tf s.rows k c = zc := tf_at hzs hzc
                      have ezc : zc = s.last := by rw [← et2, HBE.out.diag hc (List.mem_of_getElem? hc), if_pos rfl]
                      have hkI : kerI s f c = -zf := by rw [kerI_piv hc (nodup_of HBE.out.inc) HFP.out, et1]
                      have hzc0 : zc ≠ 0 := by rw [ezc]; exact HBE.out.last
                      have hbf : zf.natAbs ≤ bigB R (2 ^ 63) := by rw [← et1]; exact HBM.out.num k f
                      have hbc : zc.natAbs ≤ bigB R (2 ^ 63) := by rw [← et2]; exact HBM.out.num k c
                      have HQ := Lib.hid (And.intro hkI (And.intro ezc (And.intro hzc0 (And.intro hbf hbc))))
                      have HI1 := Lib.hid i1
                      have HI2 := Lib.hid i2
                      have HC := Lib.hid hc
                      have x0 := hrs.c0
                      obtain ⟨we, hwe⟩ : ∃ we, we = wr.drew := ⟨_, rfl⟩
                      have hbe : Below wr.heap.size wr we := by rw [hwe]; exact (Below.refl _ _).drew
                      have X0 := Lib.hid (bat hbe x0)
                      have X1 := Lib.hid (bat hbe hcell)
                      have X2 := Lib.hid (bat hbe p1)
                      have X3 := Lib.hid (bat hbe p2)
                      have HBE2 := Lib.hid hbe
                      have y0 := bat hbe x0
                      have y1 := bat hbe hcell
                      have y2 := bat hbe p1
                      have y3 := bat hbe p2
                      rw [hwe] at y0 y1 y2 y3
                      have HWE := Lib.hid hwe
                      have hkR : k < R := by omega
                      clear hcc q0 hbo hrst hrs hgk hzs hprow hcell hpf hpc hzf hzc i1 i2 p1 p2 et1 et2 ezc hkI hzc0 hbf hbc hc x0 hbe hwe hb00
                      go_upto_region 25 with fail
                      clear q1
                      refine wp_region_G (S := (fun w' => w'.cell? ⟨gt, 0, none⟩ = some (.slice (some ⟨G, 0, none⟩) R cR) ∧ w'.cell? ⟨G, k, none⟩ = some (.slice (some ⟨gk, 0, none⟩) C ck) ∧ w'.cell? ⟨gk, f, none⟩ = some (PtrV pf) ∧ w'.cell? ⟨gk, c, none⟩ = some (PtrV pc))) 24 (by kernel_rfl) ?_ (fun hHeld => ?_)
                      · first | exact True.intro | ((try dsimp only); go_keep)
                      refine wpAnyG_free (i := 0) (v := ?_) rfl (by kernel_rfl) (by kernel_rfl) (by kernel_rfl) (by decide) (fun _ _ _ h => h) (Or.inl ⟨by kernel_rfl, ?_⟩) (.inl (by assumption)) ?_
                      rotate_left 1
                      · (intro w _; go_simp; try with_reducible rfl)
                      try simp only [lyA, lyB, lyC, Act.put, lyD, lyE, lyF]
                      refine wpAnyG_free (i := 1) (v := ?_) rfl (by kernel_rfl) (by kernel_rfl) (by kernel_rfl) (by decide) (fun _ _ _ h => h) (Or.inl ⟨by kernel_rfl, ?_⟩) (.inl (by assumption)) ?_
                      rotate_left 1
                      · (intro w _; go_simp; try with_reducible rfl)
                      try simp only [lyA, lyB, lyC, Act.put, lyD, lyE, lyF]
                      refine wpAnyG_take (i := 3) (v := ?_) rfl (by kernel_rfl) (by kernel_rfl) (by kernel_rfl) (by kernel_rfl) 30 (by kernel_rfl) (fun _ _ _ h => h) (Or.inl ⟨by kernel_rfl, ?_⟩) (by assumption) ?_
                      rotate_left 1
                      · (intro w hSw; (try dsimp only at hSw); go_simp; try with_reducible rfl)
                      try simp only [lyA, lyB, lyC, Act.put, lyD, lyE, lyF]
                      refine wpAnyG_take (i := 4) (v := ?_) rfl (by kernel_rfl) (by kernel_rfl) (by kernel_rfl) (by kernel_rfl) 30 (by kernel_rfl) (fun _ _ _ h => h) (Or.inl ⟨by kernel_rfl, ?_⟩) (by assumption) ?_
                      rotate_left 1
                      · (intro w hSw; (try dsimp only at hSw); go_simp; try with_reducible rfl)
                      try simp only [lyA, lyB, lyC, Act.put, lyD, lyE, lyF]
                      refine wpAnyG_take (i := 5) (v := ?_) rfl (by kernel_rfl) (by kernel_rfl) (by kernel_rfl) (by kernel_rfl) 30 (by kernel_rfl) (fun _ _ _ h => h) (Or.inl ⟨by kernel_rfl, ?_⟩) (by assumption) ?_
                      rotate_left 1
                      · (intro w hSw; (try dsimp only at hSw); go_simp; try with_reducible rfl)
                      try simp only [lyA, lyB, lyC, Act.put, lyD, lyE, lyF]
                      refine wpAnyG_take (i := 6) (v := ?_) rfl (by kernel_rfl) (by kernel_rfl) (by kernel_rfl) (by kernel_rfl) 30 (by kernel_rfl) (fun _ _ _ h => h) (Or.inl ⟨by kernel_rfl, ?_⟩) (by assumption) ?_
                      rotate_left 1
                      · (intro w hSw; (try dsimp only at hSw); go_simp; try with_reducible rfl)
                      try simp only [lyA, lyB, lyC, Act.put, lyD, lyE, lyF]
                      refine wpAnyG_take (i := 7) (v := ?_) rfl (by kernel_rfl) (by kernel_rfl) (by kernel_rfl) (by kernel_rfl) 30 (by kernel_rfl) (fun _ _ _ h => h) (Or.inl ⟨by kernel_rfl, ?_⟩) (by assumption) ?_
                      rotate_left 1
                      · (intro w hSw; (try dsimp only at hSw); go_simp; try with_reducible rfl)
                      try simp only [lyA, lyB, lyC, Act.put, lyD, lyE, lyF]
                      refine wpAnyG_take (i := 8) (v := ?_) rfl (by kernel_rfl) (by kernel_rfl) (by kernel_rfl) (by kernel_rfl) 30 (by kernel_rfl) (fun _ _ _ h => h) (Or.inl ⟨by kernel_rfl, ?_⟩) (by assumption) ?_
                      rotate_left 1
                      · (intro w hSw; (try dsimp only at hSw); go_simp; try with_reducible rfl)
                      try simp only [lyA, lyB, lyC, Act.put, lyD, lyE, lyF]
                      refine wpAnyG_take (i := 9) (v := ?_) rfl (by kernel_rfl) (by kernel_rfl) (by kernel_rfl) (by kernel_rfl) 30 (by kernel_rfl) (fun _ _ _ h => h) (Or.inl ⟨by kernel_rfl, ?_⟩) (by assumption) ?_
                      rotate_left 1
                      · (intro w hSw; (try dsimp only at hSw); go_simp; try with_reducible rfl)
                      try simp only [lyA, lyB, lyC, Act.put, lyD, lyE, lyF]
                      refine wpAnyG_take (i := 10) (v := ?_) rfl (by kernel_rfl) (by kernel_rfl) (by kernel_rfl) (by kernel_rfl) 30 (by kernel_rfl) (fun _ _ _ h => h) (Or.inl ⟨by kernel_rfl, ?_⟩) (by assumption) ?_
                      rotate_left 1
                      · (intro w hSw; (try dsimp only at hSw); go_simp; try with_reducible rfl)
                      try simp only [lyA, lyB, lyC, Act.put, lyD, lyE, lyF]
                      refine wpAnyG_take (i := 11) (v := ?_) rfl (by kernel_rfl) (by kernel_rfl) (by kernel_rfl) (by kernel_rfl) 30 (by kernel_rfl) (fun _ _ _ h => h) (Or.inl ⟨by kernel_rfl, ?_⟩) (by assumption) ?_
                      rotate_left 1
                      · (intro w hSw; (try dsimp only at hSw); go_simp; try with_reducible rfl)
                      try simp only [lyA, lyB, lyC, Act.put, lyD, lyE, lyF]
                      refine wpAnyG_take (i := 12) (v := ?_) rfl (by kernel_rfl) (by kernel_rfl) (by kernel_rfl) (by kernel_rfl) 30 (by kernel_rfl) (fun _ _ _ h => h) (Or.inl ⟨by kernel_rfl, ?_⟩) (by assumption) ?_
                      rotate_left 1
                      · (intro w hSw; (try dsimp only at hSw); go_simp; try with_reducible rfl)
                      try simp only [lyA, lyB, lyC, Act.put, lyD, lyE, lyF]
                      refine wpAnyG_take (i := 14) (v := ?_) rfl (by kernel_rfl) (by kernel_rfl) (by kernel_rfl) (by kernel_rfl) 30 (by kernel_rfl) (fun _ _ _ h => h) (Or.inl ⟨by kernel_rfl, ?_⟩) (by assumption) ?_
                      rotate_left 1
                      · (intro w hSw; (try dsimp only at hSw); go_simp; try with_reducible rfl)
                      try simp only [lyA, lyB, lyC, Act.put, lyD, lyE, lyF]
                      refine wpAnyG_take (i := 15) (v := ?_) rfl (by kernel_rfl) (by kernel_rfl) (by kernel_rfl) (by kernel_rfl) 30 (by kernel_rfl) (fun _ _ _ h => h) (Or.inl ⟨by kernel_rfl, ?_⟩) (by assumption) ?_
                      rotate_left 1
                      · (intro w hSw; (try dsimp only at hSw); go_simp; try with_reducible rfl)
                      try simp only [lyA, lyB, lyC, Act.put, lyD, lyE, lyF]
                      refine wpAnyG_take (i := 16) (v := ?_) rfl (by kernel_rfl) (by kernel_rfl) (by kernel_rfl) (by kernel_rfl) 30 (by kernel_rfl) (fun _ _ _ h => h) (Or.inl ⟨by kernel_rfl, ?_⟩) (by assumption) ?_
                      rotate_left 1
                      · (intro w hSw; (try dsimp only at hSw); go_simp; try with_reducible rfl)
                      try simp only [lyA, lyB, lyC, Act.put, lyD, lyE, lyF]
                      refine wpAnyG_take (i := 17) (v := ?_) rfl (by kernel_rfl) (by kernel_rfl) (by kernel_rfl) (by kernel_rfl) 30 (by kernel_rfl) (fun _ _ _ h => h) (Or.inl ⟨by kernel_rfl, ?_⟩) (by assumption) ?_
                      rotate_left 1
                      · (intro w hSw; (try dsimp only at hSw); go_simp; try with_reducible rfl)
                      try simp only [lyA, lyB, lyC, Act.put, lyD, lyE, lyF]
                      refine wpAnyG_take (i := 18) (v := ?_) rfl (by kernel_rfl) (by kernel_rfl) (by kernel_rfl) (by kernel_rfl) 30 (by kernel_rfl) (fun _ _ _ h => h) (Or.inl ⟨by kernel_rfl, ?_⟩) (by assumption) ?_
                      rotate_left 1
                      · (intro w hSw; (try dsimp only at hSw); go_simp; try with_reducible rfl)
                      try simp only [lyA, lyB, lyC, Act.put, lyD, lyE, lyF]
                      refine wpAnyG_take (i := 19) (v := ?_) rfl (by kernel_rfl) (by kernel_rfl) (by kernel_rfl) (by kernel_rfl) 30 (by kernel_rfl) (fun _ _ _ h => h) (Or.inl ⟨by kernel_rfl, ?_⟩) (by assumption) ?_
                      rotate_left 1
                      · (intro w hSw; (try dsimp only at hSw); go_simp; try with_reducible rfl)
                      try simp only [lyA, lyB, lyC, Act.put, lyD, lyE, lyF]
                      refine wpAnyG_take (i := 20) (v := ?_) rfl (by kernel_rfl) (by kernel_rfl) (by kernel_rfl) (by kernel_rfl) 30 (by kernel_rfl) (fun _ _ _ h => h) (Or.inl ⟨by kernel_rfl, ?_⟩) (by assumption) ?_
                      rotate_left 1
                      · (intro w hSw; (try dsimp only at hSw); go_simp; try with_reducible rfl)
                      try simp only [lyA, lyB, lyC, Act.put, lyD, lyE, lyF]
                      refine wpAnyG_take (i := 21) (v := ?_) rfl (by kernel_rfl) (by kernel_rfl) (by kernel_rfl) (by kernel_rfl) 30 (by kernel_rfl) (fun _ _ _ h => h) (Or.inl ⟨by kernel_rfl, ?_⟩) (by assumption) ?_
                      rotate_left 1
                      · (intro w hSw; (try dsimp only at hSw); go_simp; try with_reducible rfl)
                      try simp only [lyA, lyB, lyC, Act.put, lyD, lyE, lyF]
                      refine wpAnyG_take (i := 22) (v := ?_) rfl (by kernel_rfl) (by kernel_rfl) (by kernel_rfl) (by kernel_rfl) 30 (by kernel_rfl) (fun _ _ _ h => h) (Or.inl ⟨by kernel_rfl, ?_⟩) (by assumption) ?_
                      rotate_left 1
                      · (intro w hSw; (try dsimp only at hSw); go_simp; try with_reducible rfl)
                      try simp only [lyA, lyB, lyC, Act.put, lyD, lyE, lyF]
                      refine wpAnyG_take (i := 23) (v := ?_) rfl (by kernel_rfl) (by kernel_rfl) (by kernel_rfl) (by kernel_rfl) 30 (by kernel_rfl) (fun _ _ _ h => h) (Or.inl ⟨by kernel_rfl, ?_⟩) (by assumption) ?_
                      rotate_left 1
                      · (intro w hSw; (try dsimp only at hSw); go_simp; try with_reducible rfl)
                      try simp only [lyA, lyB, lyC, Act.put, lyD, lyE, lyF]
                      rw [← HWE.out]
                      clear y0 y1 y2 y3
                      obtain ⟨weA, hweA⟩ : ∃ wA, wA = we.alloc (.cells #[.bool false, .slice none 0 0] 80) := ⟨_, rfl⟩
                      have hbA : Below we.heap.size we weA := by rw [hweA]; exact below1 ..
                      have hnA : IntAt weA we.heap.size 0 0 := by rw [hweA]; exact new_intAt we
                      have HWEA := Lib.hid hweA
                      have HBA := Lib.hid hbA
                      have HNA := Lib.hid hnA
                      have z0 := bat hbA X0.out
                      have z1 := bat hbA X1.out
                      have z2 := bat hbA X2.out
                      have z3 := bat hbA X3.out
                      rw [hweA] at z0 z1 z2 z3
                      have y0 := X0.out
                      have y1 := X1.out
                      have y2 := X2.out
                      have y3 := X3.out
                      clear hweA hbA hnA
                      refine wpAnyG_one (i := 2) (by kernel_rfl) rfl (fun K hK => ?_)
                      go_simp
                      refine (fun hHeld => hK.out _ _ (.inl hHeld) (fun _ => ?_)) ?_
                      rotate_left 1
                      · first | exact True.intro | ((try dsimp only); go_keep)
                      clear hK K
                      try simp only [lyA, lyB, lyC, Act.put, lyD, lyE, lyF]
                      rw [← HWEA.out]
                      clear z0 z1 z2 z3 y0 y1 y2 y3
                      have hsmf : (dig zf.natAbs).length ≤ 10000000 := big_dig HR48.out.1 HQ.out.2.2.2.1
                      have hbeA : Below wr.heap.size wr weA := HBE2.out.trans (HBA.out.mono HBE2.out.size)
                      have HBEA := Lib.hid hbeA
                      have HSMF := Lib.hid hsmf
                      have y0 := bat HBA.out X0.out
                      have y1 := bat HBA.out X1.out
                      have y2 := bat HBA.out X2.out
                      have y3 := bat HBA.out X3.out
                      have Y0 := Lib.hid y0
                      have Y1 := Lib.hid y1
                      have Y2 := Lib.hid y2
                      have Y3 := Lib.hid y3
                      clear hsmf hbeA
                      refine wpAnyG_one (i := 13) (by kernel_rfl) rfl (fun K hK => ?_)
                      go_simp
                      (refine (neg_int we.heap.size 0 pf 0 0 zf weA HNA.out (HI1.out.below HBEA.out) HSMF.out).mono ?_; rintro e wN ⟨rfl, hiN, huN⟩; have hbN : Below weA.heap.size weA wN ∨ True := .inr trivial; have HIN := Lib.hid hiN; have hbwN : Below we.heap.size we wN := HBA.out.trans (huN.below (Nat.le_refl _) HBA.out.size); have HBN := Lib.hid hbwN; have t0 := bat hbwN X0.out; have t1 := bat hbwN X1.out; have t2 := bat hbwN X2.out; have t3 := bat hbwN X3.out; clear hiN huN hbN hbwN)
                      try go_wp2_with fail
                      refine (fun hHeld => hK.out _ _ (.inl hHeld) (fun _ => ?_)) ?_
                      rotate_left 1
                      · first | exact True.intro | ((try dsimp only); go_keep)
                      clear hK K
                      try simp only [lyA, lyB, lyC, Act.put, lyD, lyE, lyF]
                      clear t0 t1 t2 t3 y0 y1 y2 y3
                      refine wpAnyG_one (i := 24) (by kernel_rfl) rfl (fun K hK => ?_)
                      go_simp
                      (refine (over_rank we.heap.size pc (-zf) zc wN HIN.out ((HI2.out.below HBE2.out).below HBN.out) HQ.out.2.2.1 (big_lim HR48.out.1 (by rw [Int.natAbs_neg]; exact HQ.out.2.2.2.1)) (big_lim HR48.out.1 HQ.out.2.2.2.2)).mono ?_; rintro e w9 htold; obtain ⟨v9, rfl, hat9, hb9⟩ := told_at htold (big_fits HR48.out.1 HQ.out.2.2.1 (by rw [Int.natAbs_neg]; exact HQ.out.2.2.2.1) HQ.out.2.2.2.2); obtain ⟨t9, rfl⟩ := hat9.t3; have HAT := Lib.hid hat9; have HB9 := Lib.hid hb9; clear htold hat9 hb9)
                      try go_wp2_with fail
                      refine hK.out _ _ ?_ (fun hHeld => ?_)
                      · exact .inr (by kernel_rfl)
                      clear hK K
                      try simp only [lyA, lyB, lyC, Act.put, lyD, lyE, lyF]
                      refine wpAnyG_one (i := 25) (by kernel_rfl) rfl (fun K hK => ?_)
                      go_simp
                      refine hK.out _ _ ?_ (fun hHeld => ?_)
                      · exact .inr (by kernel_rfl)
                      clear hK K
                      try simp only [lyA, lyB, lyC, Act.put, lyD, lyE, lyF]
                      refine wpAnyG_free (i := 26) (v := ?_) rfl (by kernel_rfl) (by kernel_rfl) (by kernel_rfl) (by decide) (fun _ _ _ h => h) (Or.inl ⟨by kernel_rfl, ?_⟩) (.inr (by kernel_rfl)) ?_
                      rotate_left 1
                      · (intro w _; go_simp; try with_reducible rfl)
                      try simp only [lyA, lyB, lyC, Act.put, lyD, lyE, lyF]
                      refine wpAnyG_free (i := 27) (v := ?_) rfl (by kernel_rfl) (by kernel_rfl) (by kernel_rfl) (by decide) (fun _ _ _ h => h) (Or.inl ⟨by kernel_rfl, ?_⟩) (.inr (by kernel_rfl)) ?_
                      rotate_left 1
                      · (intro w _; go_simp; try with_reducible rfl)
                      try simp only [lyA, lyB, lyC, Act.put, lyD, lyE, lyF]
                      refine wpAnyG_one (i := 28) (by kernel_rfl) rfl (fun K hK => ?_)
                      go_simp
                      refine hK.out _ _ ?_ (fun hHeld => ?_)
                      · exact .inr (by kernel_rfl)
                      clear hK K
                      try simp only [lyA, lyB, lyC, Act.put, lyD, lyE, lyF]
                      have hv9 := HV7.out.below (HBE2.out.trans ((HBN.out.trans (HB9.out.mono HBN.out.size)).mono HBE2.out.size))
                      obtain ⟨t, e0, e1, e2, ef⟩ := hv9.cells hcC
                      have f0 := ef (c * 3)
                      have f1 := ef (c * 3 + 1)
                      have f2 := ef (c * 3 + 2)
                      obtain ⟨wz, hwz⟩ : ∃ wz, wz = ((w9.setCell ⟨gv, c * 3, none⟩ (.bool t9.s)).setCell ⟨gv, c * 3 + 1, none⟩ (.slice t9.a t9.n t9.c)).setCell ⟨gv, c * 3 + 2, none⟩ (.slice t9.a' t9.n' t9.c') := ⟨_, rfl⟩
                      obtain ⟨hst1, hst2⟩ := hv9.store hcC HAT.out hwz
                      have HST1 := Lib.hid hst1
                      have HST2 := Lib.hid hst2
                      have HWZ := Lib.hid hwz
                      clear hv9 ef hst1 hst2 hwz
                      refine wpAnyG_one (i := 29) (by kernel_rfl) rfl (fun K hK => ?_)
                      go_simp
                      refine hK.out _ _ ?_ (fun hHeld => ?_)
                      · exact .inr (by kernel_rfl)
                      clear hK K
                      try simp only [lyA, lyB, lyC, Act.put, lyD, lyE, lyF]
                      refine wpAnyG_done (by kernel_rfl) ?_ _
                      clear hHeld e0 e1 e2 f0 f1 f2
                      go_wp2_with fail
                      rw [← HWZ.out]
                      have hb9 : Below wv.heap.size wv wz := ((HB7.out.trans ((HBE2.out.trans ((HBN.out.trans (HB9.out.mono HBN.out.size)).mono HBE2.out.size)).mono HB7.out.size))).trans (HST2.out.below (fun b e => by omega) (Nat.le_trans HB7.out.size (Nat.le_trans HBE2.out.size (Nat.le_trans HBN.out.size HB9.out.size))))
                      refine ⟨⟨k + 1, by omega, by go_num, HST1.out.imp (fun j q _ h => ?_), hb9⟩, by simp [intOf]; omega⟩
                      rw [← kerF_step HC.out HFP.out] at h
                      rw [← h]
                      have e : Rat.divInt (-zf) zc = kerQ s f c := by unfold kerQ; rw [HQ.out.1, HQ.out.2.1]
                      rw [e]
                    · obtain rfl : s.piv.length = k := by omega
                      have hnl : ¬ ((s.piv.length : Int) < (s.piv.length : Int)) := by omega
                      go_upto_region 27 with fail
                      obtain ⟨wb9, hwb9⟩ : ∃ wb, wb = wr.alloc (.cells #[.slice (some ⟨gv, 0, none⟩) C C] 39) := ⟨_, rfl⟩
                      have hbb : Below wr.heap.size wr wb9 := by rw [hwb9]; exact below1 ..
                      have hbv : Below wv.heap.size wv wb9 := HB7.out.trans (hbb.mono HB7.out.size)
                      have hrow : RatRow wb9 (.slice (some ⟨gv, 0, none⟩) C C) (kerVec s C f) := (HV7.out.done (by omega) (kerVec_len ..) (fun j q h => by
                        obtain ⟨e, _⟩ := kerVec_get h
                        rw [kerF_all HBE.out.last HFP.out, e])).below hbb
                      have hrs := HR.out.below hbv
                      have hob := hrs.own
                      have hbase : wq.heap.size ≤ wb9.heap.size := by have := hbv.size; omega
                      have hrd : Rd wb9 (fun _ => True) 1 (some ⟨wr.heap.size, 0, none⟩) 1 [.slice (some ⟨gv, 0, none⟩) C C] := by rw [hwb9]; exact rd_blk (blk_new ..) rfl trivial
                      have hklen := kerRows_len s C f
                      have HWB9 := Lib.hid hwb9
                      have HBV := Lib.hid hbv
                      have HROW := Lib.hid hrow
                      have HRS := Lib.hid hrs
                      rw [hwb9] at hob hbase hrd
                      have HOB := Lib.hid hob
                      have HBASE := Lib.hid hbase
                      have HRD := Lib.hid hrd
                      clear hwb9 hbb hbv hrow hrs hob hbase hrd
                      go_wp2_with (at_builtin; go_must (refine wpList_append_K rfl _ _ _ rfl wq.heap.size 39 j0 _ 1 24 Try.underlying32 hj0 hyy0 hyy1 hyy2 rfl (by omega) Sk (by intro u hu; simp [Value.cells] at hu; exact ⟨_, _, _, hu⟩) _ (kerRows s C f).length vs rfl HOB.out (fun _ => True) (some ⟨wr.heap.size, 0, none⟩) 1 1 [.slice (some ⟨gv, 0, none⟩) C C] rfl HRD.out (by intro u hu; simp at hu; rw [hu]; rfl) (by intro u hu; simp at hu; exact ⟨_, _, _, hu⟩) (by simp only [maxLen]; omega) (by omega) HBASE.out ?_); go_must (intro v2 w2 hown2 hg2); go_must (rw [← HWB9.out] at hg2))
                      have hlt2 := fun b e => (HRS.out.own.own.lt b e).1
                      have hbw9 : Below wo.heap.size wo w2 := (HBW2.out.trans (HBV.out.mono HBW2.out.size)).grown hg2.g (Nat.le_trans HBW2.out.size HBV.out.size) (fun b e => by have h1 := hlt2 b e; have h2 := HBW.out.size; omega)
                      refine ⟨⟨f + 1, vs ++ [.slice (some ⟨gv, 0, none⟩) C C], by omega, by go_num, ?_, (HF2.out.below HBV.out).grow hg2, hbw9, ?_⟩, by simp [intOf]; omega⟩
                      · rw [kerRows_out HFP.out]
                        exact HRS.out.app HROW.out hg2 hown2
                      · have h1 := hg2.g.size
                        have h2 := HBV.out.size
                        omega
          · obtain rfl : C = f := by omega
            have hnl : ¬ ((C : Int) < (C : Int)) := by omega
            go_wp2_with fail
            go_ret2
            refine ⟨HBO.out.trans (HBW2.out.mono HBO.out.size), .inl ⟨HRG.out, _, rfl, ?_⟩⟩
            have h := HR.out.done
            unfold gS
            simp only [Int.toNat_natCast]
            rw [← HS.out]
            exact h

end Go.Proofs.Ytfepmbpcdfdlhaa

/- dyad.whole: the walk -/
namespace Go.Proofs.Ytfepmbpcdfdlhaa
open Go.RowKit Go.Sort

/-- a dyad as it lies in a struct: sign, limbs, power -/
structure DV where
  neg : Bool
  mag : List Nat
  exp : Int
  deriving DecidableEq
/-- its whole number -/
def DV.top (d : DV) : Int := if d.neg then -(ln d.mag : Int) else (ln d.mag : Int)
/-- the value v, in the world w, is the dyad d -/
def DAt (w : World) (v : Value) (d : DV) : Prop := ∃ A n c, v = .agg #[.bool d.neg, .slice A n c, .int .i64 d.exp] ∧ RdE Lc 1 w (fun b => b < w.heap.size) A n d.mag ∧ Lds d.mag
theorem DAt.below {w w' : World} {v : Value} {d : DV} (h : DAt w v d) (hb : Below w.heap.size w w') : DAt w' v d := by
  obtain ⟨A, n, c, e, h1, h2⟩ := h
  exact ⟨A, n, c, e, h1.belowL hb, h2⟩
end Go.Proofs.Ytfepmbpcdfdlhaa

/- Right of any dyad, the program's and the reference's: the walks (printed by gen_h26.py) -/
namespace Go.Proofs.Ytfepmbpcdfdlhaa
open Go.RowKit Go.Sort

/-- is it a right dyad? -/
def rightDB (d : DV) : Bool := if d.mag.length = 0 then (!d.neg && decide (d.exp = 0)) else (decide (d.mag.length ≤ 256) && !decide (d.mag.getD (d.mag.length - 1) 0 = 0) && decide (d.mag.getD 0 0 % 2 = 1) && decide (-65536 ≤ d.exp) && decide (d.exp ≤ 65536))


set_option maxRecDepth 100000 in
set_option maxHeartbeats 8000000 in
theorem rightD_prog (v : Value) (d : DV) (w : World) (hd : DAt w v d) (hn : d.mag.length ≤ 1000000000000) :
    Calls Try.prog 51 #[v] w fun e w' => e = .returned (.bool (rightDB d)) ∧ Below w.heap.size w w' := by
  obtain ⟨B, hB⟩ : ∃ B, B = rightDB d := ⟨_, rfl⟩
  rw [← hB]
  obtain ⟨s, xs, ex⟩ := d
  obtain ⟨A, n, c, rfl, hx, hls⟩ := hd
  simp only at hx hls hn
  have en := hx.num
  rw [en] at hn
  unfold rightDB at hB
  simp only [en] at hB
  by_cases h0 : n = 0
  · subst h0
    rw [if_pos rfl] at hB
    obtain ⟨b, hb⟩ : ∃ b, b = decide (ex = 0) := ⟨_, rfl⟩
    have t1 : (ex == 0) = b := by rw [hb]; exact (Bool.beq_eq_decide_eq ex 0)
    rw [← hb] at hB
    have HV := Lib.hid hB
    clear hx hls en hb hB
    cases s
    · cases b
      · go_enter Try.func51, Try.ntmps51
        go_wp2_with fail
        go_ret
        exact ⟨by rw [HV.out]; rfl, below1 ..⟩
      · go_enter Try.func51, Try.ntmps51
        go_wp2_with fail
        go_ret
        exact ⟨by rw [HV.out]; rfl, below1 ..⟩
    · cases b
      · go_enter Try.func51, Try.ntmps51
        go_wp2_with fail
        go_ret
        exact ⟨by rw [HV.out]; rfl, below1 ..⟩
      · go_enter Try.func51, Try.ntmps51
        go_wp2_with fail
        go_ret
        exact ⟨by rw [HV.out]; rfl, below1 ..⟩
  · rw [if_neg h0] at hB
    obtain ⟨m, rfl⟩ : ∃ m, n = m + 1 := ⟨n - 1, by omega⟩
    obtain ⟨x, hxm⟩ := get_some en (show m < m + 1 by omega)
    obtain ⟨y, hy0⟩ := get_some en (show 0 < m + 1 by omega)
    have ly := hls.get hy0
    obtain ⟨b1, o1, hA, hb1, hc⟩ := hx.elem (f := Lc) (size := 1) (fun _ => rfl) hxm (by omega)
    obtain ⟨b2, o2, hA2, hb2, hd⟩ := hx.elem (f := Lc) (size := 1) (fun _ => rfl) hy0 (by omega)
    rw [hA] at hA2
    injection hA2 with hA2
    injection hA2 with e1 e2
    subst e1 e2
    subst hA
    have q1 : w.cell? ⟨b1, o1 + m, none⟩ = some (.int .u64 (x : Int)) := by have h := hc 0 _ rfl; rwa [Nat.mul_one, Nat.add_zero] at h
    have q2 : w.cell? ⟨b1, o1, none⟩ = some (.int .u64 (y : Int)) := by have h := hd 0 _ rfl; rwa [Nat.mul_one, Nat.add_zero] at h
    have hb := below1 w (.cells #[.bool s, .slice (some ⟨b1, o1, none⟩) (m + 1) c, .int .i64 ex] 61)
    have p1 := bat hb q1
    have p2 := bat hb q2
    have ex1 : xs.getD (m + 1 - 1) 0 = x := by rw [Nat.add_sub_cancel]; simp [List.getD, hxm]
    have ey1 : xs.getD 0 0 = y := by simp [List.getD, hy0]
    rw [ex1, ey1] at hB
    obtain ⟨v1, hv1⟩ : ∃ b, b = decide (m + 1 ≤ 256) := ⟨_, rfl⟩
    obtain ⟨v2, hv2⟩ : ∃ b, b = decide (x = 0) := ⟨_, rfl⟩
    obtain ⟨v3, hv3⟩ : ∃ b, b = decide (y % 2 = 1) := ⟨_, rfl⟩
    obtain ⟨v4, hv4⟩ : ∃ b, b = decide (-65536 ≤ ex) := ⟨_, rfl⟩
    obtain ⟨v5, hv5⟩ : ∃ b, b = decide (ex ≤ 65536) := ⟨_, rfl⟩
    rw [← hv1, ← hv2, ← hv3, ← hv4, ← hv5] at hB
    have t1 : ((x : Int) != 0) = !v2 := by
      rw [hv2]
      by_cases h : x = 0
      · subst h; rfl
      · rw [decide_eq_false h]; simp; omega
    have t2 : (bits BinOp.and IntKind.u64 (y : Int) 1 == 1) = v3 := by
      have h := bits_and_u64_nat y 1 ly (by decide)
      rw [Nat.and_one_is_mod] at h
      rw [show bits BinOp.and IntKind.u64 (y : Int) 1 = ((y % 2 : Nat) : Int) from h, hv3]
      by_cases h2 : y % 2 = 1
      · rw [h2]; rfl
      · rw [show y % 2 = 0 by omega]; rfl
    have t2' : ((y : Int).tmod 2 == 1) = v3 := by
      rw [Int.tmod_eq_emod_of_nonneg (by omega), hv3]
      by_cases h2 : y % 2 = 1
      · rw [decide_eq_true h2, show (y : Int) % 2 = 1 by omega]; rfl
      · rw [decide_eq_false h2, show (y : Int) % 2 = 0 by omega]; rfl
    have t2'' : ((y : Int) % 2 == 1) = v3 := by rw [← t2', Int.tmod_eq_emod_of_nonneg (by omega)]
    have t3 : decide ((m : Int) + 1 ≤ 256) = v1 := by rw [hv1]; exact decide_eq_decide.2 (by omega)
    have t6 : wrap64 (m : Int) = (m : Int) := by unfold wrap64; omega
    have hv4' := hv4.symm
    have hv5' := hv5.symm
    have HV := Lib.hid hB
    clear hx hls en hxm hy0 ly hc hd q1 q2 hb ex1 ey1 hv1 hv2 hv3 hv4 hv5 hB h0
    cases v1
    · go_enter Try.func51, Try.ntmps51
      go_wp2_with fail
      go_ret
      exact ⟨by rw [HV.out]; rfl, below1 ..⟩
    · cases v2
      · cases v3
        · go_enter Try.func51, Try.ntmps51
          go_wp2_with fail
          go_ret
          exact ⟨by rw [HV.out]; rfl, below1 ..⟩
        · cases v4
          · go_enter Try.func51, Try.ntmps51
            go_wp2_with fail
            go_ret
            exact ⟨by rw [HV.out]; rfl, below1 ..⟩
          · cases v5
            · go_enter Try.func51, Try.ntmps51
              go_wp2_with fail
              go_ret
              exact ⟨by rw [HV.out]; rfl, below1 ..⟩
            · go_enter Try.func51, Try.ntmps51
              go_wp2_with fail
              go_ret
              exact ⟨by rw [HV.out]; rfl, below1 ..⟩
      · go_enter Try.func51, Try.ntmps51
        go_wp2_with fail
        go_ret
        exact ⟨by rw [HV.out]; rfl, below1 ..⟩

end Go.Proofs.Ytfepmbpcdfdlhaa

/- rank.system: the walk -/
namespace Go.Proofs.Ytfepmbpcdfdlhaa
open Go.RowKit Go.Sort

/-- a dyad's three cells -/
structure D3 where
  s : Bool
  a : Option Addr
  n : Nat
  c : Nat
  x : Int
abbrev D3.val (t : D3) : Value := .agg #[.bool t.s, .slice t.a t.n t.c, .int .i64 t.x]
def Dc (t : D3) : List Value := [.bool t.s, .slice t.a t.n t.c, .int .i64 t.x]
theorem Dc.clen (t : D3) : (Dc t).length = 3 := rfl
/-- a list of dyads -/
structure DyadsAt (w : World) (A : Option Addr) (n : Nat) (ds : List DV) : Prop where
  at_ : ∃ ts, RdE Dc 3 w (fun b => b < w.heap.size) A n ts ∧ ∀ (k : Nat) (t : D3) (d : DV), ts[k]? = some t → ds[k]? = some d → DAt w t.val d
  len : ds.length = n
/-- a list of ratios -/
structure RVsAt (w : World) (A : Option Addr) (n : Nat) (rs : List RV) : Prop where
  at_ : ∃ ts, RdE Tc 3 w (fun b => b < w.heap.size) A n ts ∧ ∀ (k : Nat) (t : T3) (r : RV), ts[k]? = some t → rs[k]? = some r → RAt w t.val r
  len : rs.length = n
theorem DyadsAt.get {w : World} {A : Option Addr} {n : Nat} {ds : List DV} (h : DyadsAt w A n ds) {k : Nat} (hk : k < n) :
    ∃ (b o : Nat) (t : D3) (d : DV), A = some ⟨b, o, none⟩ ∧ ds[k]? = some d ∧ DAt w t.val d ∧ w.cell? ⟨b, o + k * 3, none⟩ = some (.bool t.s) ∧ w.cell? ⟨b, o + k * 3 + 1, none⟩ = some (.slice t.a t.n t.c) ∧ w.cell? ⟨b, o + k * 3 + 2, none⟩ = some (.int .i64 t.x) := by
  obtain ⟨ts, h1, h2⟩ := h.at_
  obtain ⟨t, ht⟩ := get_some h1.num hk
  obtain ⟨d, hd⟩ := get_some h.len hk
  obtain ⟨b, o, e, _, hc⟩ := h1.elem Dc.clen ht (by decide)
  exact ⟨b, o, t, d, e, hd, h2 k t d ht hd, hc 0 _ rfl, hc 1 _ rfl, hc 2 _ rfl⟩
theorem RVsAt.get {w : World} {A : Option Addr} {n : Nat} {rs : List RV} (h : RVsAt w A n rs) {k : Nat} (hk : k < n) :
    ∃ (b o : Nat) (t : T3) (r : RV), A = some ⟨b, o, none⟩ ∧ rs[k]? = some r ∧ RAt w t.val r ∧ w.cell? ⟨b, o + k * 3, none⟩ = some (.bool t.s) ∧ w.cell? ⟨b, o + k * 3 + 1, none⟩ = some (.slice t.a t.n t.c) ∧ w.cell? ⟨b, o + k * 3 + 2, none⟩ = some (.slice t.a' t.n' t.c') := by
  obtain ⟨ts, h1, h2⟩ := h.at_
  obtain ⟨t, ht⟩ := get_some h1.num hk
  obtain ⟨r, hr⟩ := get_some h.len hk
  obtain ⟨b, o, e, _, hc⟩ := h1.elem Tc.clen ht (by decide)
  exact ⟨b, o, t, r, e, hr, h2 k t r ht hr, hc 0 _ rfl, hc 1 _ rfl, hc 2 _ rfl⟩
theorem DyadsAt.below {w w' : World} {A : Option Addr} {n : Nat} {ds : List DV} (h : DyadsAt w A n ds) (hb : Below w.heap.size w w') : DyadsAt w' A n ds := by
  obtain ⟨ts, h1, h2⟩ := h.at_
  exact ⟨⟨ts, h1.blw hb, fun k t d a b => (h2 k t d a b).below hb⟩, h.len⟩
theorem RVsAt.below {w w' : World} {A : Option Addr} {n : Nat} {rs : List RV} (h : RVsAt w A n rs) (hb : Below w.heap.size w w') : RVsAt w' A n rs := by
  obtain ⟨ts, h1, h2⟩ := h.at_
  exact ⟨⟨ts, h1.blw hb, fun k t d a b => (h2 k t d a b).below hb⟩, h.len⟩
theorem dat_d3 {w : World} {t : D3} {d : DV} (h : DAt w t.val d) : t.s = d.neg ∧ t.x = d.exp ∧ t.n = d.mag.length ∧ RdE Lc 1 w (fun b => b < w.heap.size) t.a t.n d.mag ∧ Lds d.mag := by
  obtain ⟨A, n, c, e, h1, h2⟩ := h
  have e' : t.s = d.neg ∧ (t.a = A ∧ t.n = n ∧ t.c = c) ∧ t.x = d.exp := by simpa using e
  obtain ⟨e1, ⟨e2, e3, e4⟩, e5⟩ := e'
  rw [e2, e3]
  exact ⟨e1, e5, h1.num.symm, h1, h2⟩
theorem rat_t3 {w : World} {t : T3} {r : RV} (h : RAt w t.val r) : t.s = r.neg ∧ t.n = r.num.length ∧ t.n' = r.den.length ∧ RdE Lc 1 w (fun b => b < w.heap.size) t.a t.n r.num ∧ RdE Lc 1 w (fun b => b < w.heap.size) t.a' t.n' r.den ∧ Lds r.num ∧ Lds r.den := by
  obtain ⟨A, n, c, A', n', c', e, h1, h2, h3, h4⟩ := h
  have e' : t.s = r.neg ∧ (t.a = A ∧ t.n = n ∧ t.c = c) ∧ t.a' = A' ∧ t.n' = n' ∧ t.c' = c' := by simpa using e
  obtain ⟨e1, ⟨e2, e3, e4⟩, e5, e6, e7⟩ := e'
  rw [e2, e3, e5, e6]
  exact ⟨e1, h1.num.symm, h2.num.symm, h1, h2, h3, h4⟩
theorem box3 {w w' : World} {t : TypeId} {v0 v1 v2 : Value} (hw : w' = w.alloc (.cells #[v0, v1, v2] t)) :
    Below w.heap.size w w' ∧ w'.cell? ⟨w.heap.size, 0, none⟩ = some v0 ∧ w'.cell? ⟨w.heap.size, 1, none⟩ = some v1 ∧ w'.cell? ⟨w.heap.size, 2, none⟩ = some v2 := by
  have hb : w'.heap[w.heap.size]? = some (.cells #[v0, v1, v2] t (0, 0)) := by rw [hw]; exact blk_new ..
  exact ⟨by rw [hw]; exact below1 .., by rw [cell_of_row _ _ 0 _ _ (0, 0) hb]; rfl, by rw [cell_of_row _ _ 1 _ _ (0, 0) hb]; rfl, by rw [cell_of_row _ _ 2 _ _ (0, 0) hb]; rfl⟩

/-- is it a system? -/
def sysB (r c : Int) (ds : List DV) (bs : List RV) : Bool := decide (r = c ∧ 0 ≤ r ∧ r ≤ 48 ∧ (ds.length : Int) = r * r ∧ (bs.length : Int) = r) && ds.all rightDB && bs.all rightB
theorem sysB_not {r c : Int} {ds : List DV} {bs : List RV} (h : ¬ (r = c ∧ 0 ≤ r ∧ r ≤ 48 ∧ (ds.length : Int) = r * r ∧ (bs.length : Int) = r)) : sysB r c ds bs = false := by
  unfold sysB; rw [decide_eq_false h]; rfl
theorem take_all {α : Type} {p : α → Bool} {xs : List α} {k : Nat} {x : α} (hx : xs[k]? = some x) : (xs.take (k + 1)).all p = ((xs.take k).all p && p x) := by
  rw [List.take_add_one, hx, List.all_append]; simp
theorem all_false {α : Type} {p : α → Bool} {xs : List α} {k : Nat} {x : α} (hx : xs[k]? = some x) (h : p x = false) : xs.all p = false := by
  rw [List.all_eq_false]; exact ⟨x, List.mem_of_getElem? hx, by rw [h]; decide⟩

end Go.Proofs.Ytfepmbpcdfdlhaa
