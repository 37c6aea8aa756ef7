import Derived.Test.YtfepmbpcdfdlhaaX20
set_option linter.unusedSimpArgs false
set_option linter.unusedVariables false
/- rank.Solve: the walk -/
namespace Go.Proofs.Ytfepmbpcdfdlhaa
open Go.RowKit Go.Sort

theorem bt_one (e : Nat) : Bt e 1 := Nat.one_le_two_pow
theorem bt_tf0 (e i k : Nat) : Bt e (tf [] i k) := by
  have h : tf [] i k = 0 := by simp [tf]
  rw [h]
  exact Nat.zero_le _
theorem bt_big {n W E : Nat} {z : Int} (hn : n ≤ 48) (hW : W ≤ 8192) (hE : 401753 ≤ E) (h : z.natAbs ≤ bigB n (2 ^ W)) : Bt E z := by
  have h0 : n + 1 ≤ 2 ^ 6 := by omega
  have h1 : 2 ^ W + 1 ≤ 2 ^ (W + 1) := by rw [Nat.pow_succ]; have := Nat.two_pow_pos W; omega
  have h2 := bigB_lt (R := n) (M := 2 ^ W) (a := 6) (b := W + 1) h0 h1
  have h3 : (6 + (W + 1)) * (n + 1) + 2 ≤ E := by
    have : (6 + (W + 1)) * (n + 1) ≤ 8199 * 49 := Nat.mul_le_mul (by omega) (by omega)
    omega
  have h4 : Bt ((6 + (W + 1)) * (n + 1) + 2) z := Nat.le_of_lt (Nat.lt_of_le_of_lt h h2)
  exact h4.mono h3
theorem top_sgL (d : DV) : sgL d.neg d.mag = d.top := rfl
/-- the reduced table of a system -/
def solS (ds : List DV) (n : Nat) : BSt := brun (sysT ds n (sprL ds) n) n
def SolvePost (r c : Int) (ds : List DV) (bs : List RV) (w : World) (e : Ending) (w' : World) : Prop :=
  Below w.heap.size w w' ∧ ((sysB r c ds bs = false ∧ e = .returned (.tuple #[.slice none 0 0, .int .i64 4])) ∨
    (sysB r c ds bs = true ∧ 8192 < r * sprW ds ∧ e = .returned (.tuple #[.slice none 0 0, .int .i64 3])) ∨
    (sysB r c ds bs = true ∧ r * sprW ds ≤ 8192 ∧ (solS ds r.toNat).piv.length < r.toNat ∧ e = .returned (.tuple #[.slice none 0 0, .int .i64 210])) ∨
    (sysB r c ds bs = true ∧ r * sprW ds ≤ 8192 ∧ (solS ds r.toNat).piv.length = r.toNat ∧
      (((∀ i, i < r.toNat → fits (ansQ (solS ds r.toNat) r.toNat (bs.map RV.q) (sprL ds) i)) ∧ ∃ V, e = .returned (.tuple #[V, .int .i64 0]) ∧ RatsAt w' V (ansL (solS ds r.toNat) r.toNat (bs.map RV.q) (sprL ds) r.toNat)) ∨
       ((¬ ∀ i, i < r.toNat → fits (ansQ (solS ds r.toNat) r.toNat (bs.map RV.q) (sprL ds) i)) ∧ e = .returned (.tuple #[.slice none 0 0, .int .i64 3])))))
theorem sysB_true {r c : Int} {ds : List DV} {bs : List RV} (h : sysB r c ds bs = true) : ∃ n : Nat, r = n ∧ c = n ∧ n ≤ 48 ∧ ds.length = n * n ∧ bs.length = n ∧ (∀ d ∈ ds, rightDB d = true) ∧ (∀ b ∈ bs, rightB b = true) := by
  unfold sysB at h
  simp only [Bool.and_eq_true, decide_eq_true_eq, List.all_eq_true] at h
  obtain ⟨⟨⟨h1, h2, h3, h4, h5⟩, h6⟩, h7⟩ := h
  refine ⟨r.toNat, by omega, by omega, by omega, ?_, by omega, h6, h7⟩
  have e : ((r.toNat : Nat) : Int) = r := by omega
  rw [← e] at h4
  exact_mod_cast h4
theorem DyadsAt.lds {w : World} {A : Option Addr} {n : Nat} {ds : List DV} (h : DyadsAt w A n ds) : ∀ d ∈ ds, Lds d.mag := fun d hd => by
  obtain ⟨k, hk⟩ := List.getElem?_of_mem hd
  obtain ⟨b, o, t, d', _, h1, h2, _⟩ := h.get (k := k) (by rw [← h.len]; exact (List.getElem?_eq_some_iff.1 hk).1)
  rw [hk] at h1
  injection h1 with h1
  rw [h1]
  exact (dat_d3 h2).2.2.2.2
/-- right ratios, as a list of numbers -/
theorem RVsAt.rats {w : World} {A : Option Addr} {n c : Nat} {rs : List RV} (h : RVsAt w A n rs) (hr : ∀ b ∈ rs, rightB b = true) : RatsAt w (.slice A n c) (rs.map RV.q) := by
  obtain ⟨ts, h1, h2⟩ := h.at_
  have hl : (rs.map RV.q).length = n := by rw [List.length_map, h.len]
  refine ⟨A, c, ts, by rw [hl], by rw [hl]; exact h1, fun k t q a b => ?_⟩
  rw [List.getElem?_map] at b
  cases hk : rs[k]? with
  | none => rw [hk] at b; cases b
  | some r =>
    rw [hk] at b
    simp at b
    have h3 := h2 k t r a hk
    obtain ⟨_, _, _, _, _, l1, l2⟩ := rat_t3 h3
    obtain ⟨e1, e2⟩ := right_canon (hr r (List.mem_of_getElem? hk)) l1 l2
    subst b
    exact ⟨by rw [← e1]; exact h3, e2⟩
theorem ent_le {ds : List DV} (hr : ∀ d ∈ ds, rightDB d = true) (hl : ∀ d ∈ ds, Lds d.mag) {W : Nat} (hW : sprW ds = (W : Int)) : ∀ d ∈ ds, (ent (sprL ds) d).natAbs ≤ 2 ^ W := fun d hd => by
  obtain ⟨_, _, _, _, h5⟩ := spr_bounds hr hl
  unfold ent
  by_cases h0 : d.top = 0
  · rw [if_pos h0]; simp
  · rw [if_neg h0]
    have hm : d.mag.length ≠ 0 := fun e => h0 (by
      have := List.eq_nil_of_length_eq_zero e
      unfold DV.top
      rw [this, ln_nil]
      simp)
    obtain ⟨h6, h7⟩ := h5 d hd hm
    rw [hW] at h7
    have e1 : d.top.natAbs = ln d.mag := by unfold DV.top; split <;> simp
    rw [Int.natAbs_mul, e1, Int.natAbs_pow]
    have h8 : ln d.mag ≤ 2 ^ blen (ln d.mag) := Nat.le_of_lt blen_lt
    have h9 : ln d.mag * 2 ^ (d.exp - sprL ds).toNat ≤ 2 ^ (blen (ln d.mag) + (d.exp - sprL ds).toNat) := by rw [Nat.pow_add]; exact Nat.mul_le_mul_right _ h8
    exact Nat.le_trans h9 (Nat.pow_le_pow_right (by decide) (by omega))

set_option maxRecDepth 100000 in
set_option maxHeartbeats 8000000 in
theorem solve_any (r c : Int) (nA cA nB cB : Nat) (A B : Option Addr) (ds : List DV) (bs : List RV) (w : World) (hr : Z63 r) (hc : Z63 c) (hnA : nA ≤ 9223372036854775807) (hnB : nB ≤ 9223372036854775807) (hcA : nA ≤ cA)
    (hd : DyadsAt w A nA ds) (hb : RVsAt w B nB bs) (hdl : ∀ d ∈ ds, d.mag.length ≤ 1000000000000) (hbl : ∀ x ∈ bs, x.num.length ≤ 1000000000000000 ∧ x.den.length ≤ 1000000000000000) :
    Calls Try.prog 21 #[.agg #[.int .i64 r, .int .i64 c, .slice A nA cA], .slice B nB cB] w (SolvePost r c ds bs w) := by
  have HD := Lib.hid hd
  have HB := Lib.hid hb
  have HDL := Lib.hid hdl
  have HBL := Lib.hid hbl
  have HRC := Lib.hid (And.intro hr hc)
  clear hd hb hdl hbl hr hc
  go_enter Try.func21, Try.ntmps21
  go_upto_region 1 with fail
  obtain ⟨wb, hwb⟩ : ∃ wb, wb = w.alloc (.cells #[.int .i64 r, .int .i64 c, .slice A nA cA] 51) := ⟨_, rfl⟩
  obtain ⟨ga, hga⟩ : ∃ ga, ga = w.heap.size := ⟨_, rfl⟩
  rw [← hga, ← hwb]
  obtain ⟨hbb, q0, q1, q2⟩ := box3 hwb
  rw [← hga] at q0 q1 q2
  have hgal : ga < wb.heap.size := by rw [hwb, hga]; simp
  have hgag : w.heap.size ≤ ga := by omega
  have Q := Lib.hid (And.intro q0 (And.intro q1 q2))
  have HBB := Lib.hid hbb
  clear hbb hwb hga
  go_wp2_with fail
  clear q0 q1 q2
  refine (system_any r c nA cA nB cB A B ds bs wb HRC.out.1 HRC.out.2 hnA hnB (HD.out.below HBB.out) (HB.out.below HBB.out) HDL.out HBL.out).mono ?_
  rintro e w1 ⟨rfl, hb1⟩
  have HB1 := Lib.hid (HBB.out.trans (hb1.mono HBB.out.size))
  have q0 := bat hb1 Q.out.1
  have Q2 := Lib.hid (bat hb1 Q.out.2.2)
  have hga1 : ga < w1.heap.size := Nat.lt_of_lt_of_le hgal hb1.size
  have q2 := Q2.out
  clear hb1
  cases hsb : sysB r c ds bs with
  | false =>
    clear q2 q0
    go_wp2_with fail
    go_ret2
    exact ⟨HB1.out, .inl ⟨hsb, rfl⟩⟩
  | true =>
    have HSB := Lib.hid hsb
    obtain ⟨n, rfl, rfl, hn48, hdn, hbn, hdr, hbr⟩ := sysB_true hsb
    obtain ⟨hw0, hw1, hl0, hl1, hent⟩ := spr_bounds hdr HD.out.lds
    obtain ⟨W, hW⟩ : ∃ W : Nat, sprW ds = (W : Int) := ⟨(sprW ds).toNat, by omega⟩
    have HENT := Lib.hid hent
    have HLE := Lib.hid (ent_le hdr HD.out.lds hW)
    have HDN := Lib.hid hdn
    have HBN := Lib.hid hbn
    have HDR := Lib.hid hdr
    have HBR := Lib.hid hbr
    have HWW := Lib.hid hW
    have hnA2 : nA ≤ 2304 := by
      rw [← HD.out.len, HDN.out]
      exact Nat.mul_le_mul hn48 hn48
    obtain ⟨low, hlow⟩ : ∃ low, low = sprL ds := ⟨_, rfl⟩
    rw [← hlow] at hl0 hl1 HENT HLE
    have HLOW := Lib.hid hlow
    have hWl : W ≤ 200000 := by omega
    obtain ⟨p, hp⟩ : ∃ p, p = n * W := ⟨_, rfl⟩
    have hpc : (n : Int) * (W : Int) = (p : Int) := by rw [hp]; simp
    have hpl : p ≤ 48 * 200000 := by rw [hp]; exact Nat.mul_le_mul hn48 hWl
    have HP := Lib.hid hp
    clear hsb hdn hbn hdr hbr hw0 hw1 hent hW hlow hp
    go_wp2_with fail
    refine (spread_any nA cA A ds w1 (HD.out.below HB1.out) HDR.out (by omega)).mono ?_
    rw [HWW.out, ← HLOW.out]
    rintro e w2 ⟨rfl, hb2⟩
    have HB2 := Lib.hid (HB1.out.trans (hb2.mono HB1.out.size))
    have Q2' := Lib.hid (bat hb2 Q2.out)
    have hga2 : ga < w2.heap.size := Nat.lt_of_lt_of_le hga1 hb2.size
    clear hb2 q0 q2
    by_cases hlong : 8192 < p
    · have hli : 8192 < (p : Int) := by omega
      go_wp2_with fail
      go_ret2
      refine ⟨HB2.out, .inr (.inl ⟨HSB.out, ?_, rfl⟩)⟩
      rw [HWW.out, hpc]
      exact hli
    · have hli : ¬ 8192 < (p : Int) := by omega
      go_upto_region 8 with fail
      obtain ⟨i0, hi0, hzz0, hzz1, hzz2⟩ := info_parts' info_pint
      obtain ⟨j0, hj0, hyy0, hyy1, hyy2⟩ := info_parts' info_prow
      obtain ⟨wS, hwS⟩ : ∃ wS, wS = w2.alloc (.cells #[.slice none 0 0, .slice none 0 0, .pointer none] 74) := ⟨_, rfl⟩
      obtain ⟨gt, hgt⟩ : ∃ gt, gt = w2.heap.size := ⟨_, rfl⟩
      have hst : TabI wS gt (gt + 1) (n + n) (.slice none 0 0) [] [] (sysT ds n low 0) := by
        have hblk : wS.heap[gt]? = some (.cells #[.slice none 0 0, .slice none 0 0, .pointer none] 74 (0, 0)) := by rw [hwS, hgt]; exact blk_new ..
        refine ⟨BTab.nil _ _ _, ?_, ?_, ?_, fun j => frozen_of_row _ gt j _ _ hblk, by omega, by rw [hwS, hgt]; simp⟩
        · rw [cell_of_row _ gt 0 _ _ (0, 0) hblk]; rfl
        · rw [cell_of_row _ gt 1 _ _ (0, 0) hblk]; rfl
        · rw [cell_of_row _ gt 2 _ _ (0, 0) hblk]; rfl
      have hbS : Below w.heap.size w wS := HB2.out.trans (((by rw [hwS]; exact below1 ..) : Below w2.heap.size w2 wS).mono HB2.out.size)
      have hga0 : wS.cell? ⟨ga, 2, none⟩ = some (.slice A nA cA) := bat (by rw [hwS]; exact below1 ..) Q2'.out
      have hgat : ga < gt := by omega
      have hwgt : w.heap.size ≤ gt := by rw [hgt]; exact HB2.out.size
      rw [← hwS, ← hgt]
      have HST := Lib.hid hst
      have HBS := Lib.hid hbS
      have HGA := Lib.hid hga0
      clear hst hbS hga0 hwS hgt
      go_wp2_with fail
      go_loopw [36] (fun iv wr => ∃ (i : Nat) (VR : Value) (vs : List Value) (gs : List Nat), i ≤ n ∧ iv = .int .i64 i ∧ vs.length = i ∧ TabI wr gt (gt + 1) (n + n) VR vs gs (sysT ds n low i) ∧ Below gt wS wr) (fun iv _ => n - (intOf iv).toNat)
      case atStart => exact ⟨0, _, [], [], Nat.zero_le _, rfl, rfl, HST.out, Below.refl _ _⟩
      case round =>
        clear HST
        obtain ⟨i, VR, vs, gs, hi, rfl, hvl, ho, hbo⟩ := hrel
        obtain ⟨wo, hwo⟩ : ∃ wo, wo = wr := ⟨_, rfl⟩
        rw [← hwo] at ho hbo
        rw [← hwo]
        have HO := Lib.hid ho
        have HBO := Lib.hid hbo
        have HVL := Lib.hid hvl
        have g2 : wo.cell? ⟨ga, 2, none⟩ = some (.slice A nA cA) := (World.cell?_of_block (a := ⟨ga, 2, none⟩) (hbo.block ga hgat)).trans HGA.out
        have hBW : Below w.heap.size w wo := HBS.out.trans (hbo.mono hwgt)
        have HBW := Lib.hid hBW
        have hgto : gt + 1 ≤ wo.heap.size := ho.sz
        clear ho hvl hwo hbo hBW
        by_cases hlt : i < n
        · have hlti : (i : Int) < (n : Int) := by omega
          obtain ⟨o1, ho1⟩ : ∃ o, o = i * n := ⟨_, rfl⟩
          have hoc : (i : Int) * (n : Int) = (o1 : Int) := by rw [ho1]; simp
          have hoc2 : ((i : Int) + 1) * (n : Int) = ((o1 + n : Nat) : Int) := by rw [Int.add_mul, hoc]; omega
          obtain ⟨o2, ho2⟩ : ∃ o2, o2 = o1 + n := ⟨_, rfl⟩
          rw [← ho2] at hoc2
          have hon : o2 ≤ nA := by
            have h1 : (i + 1) * n ≤ n * n := Nat.mul_le_mul_right n hlt
            rw [Nat.add_mul, Nat.one_mul, ← ho1, ← HDN.out, HD.out.len] at h1
            omega
          have ho12 : o1 ≤ o2 := by omega
          have ho2n : o2 - o1 = n := by omega
          have HO1 := Lib.hid (And.intro ho1 ho2)
          obtain ⟨b0, of0, t0, d0, hA, _⟩ := HD.out.get (show o1 < nA by omega)
          have HAA := Lib.hid hA
          have ho2c : o2 ≤ cA := by omega
          clear ho1 ho2
          subst hA
          go_wp2_with fail
          go_loopw [11, 50] (fun rv kv wx => ∃ (k : Nat) (ps : List Nat), k ≤ n ∧ kv = .int .i64 k ∧ BRow wx wo.heap.size rv ps (((ds.drop o1).take k).map (ent low)) ∧ Below wo.heap.size wo wx) (fun _ kv _ => n - (intOf kv).toNat)
          case atStart => exact ⟨0, [], Nat.zero_le _, rfl, BRow.nil _ _, Below.refl _ _⟩
          case round =>
            obtain ⟨k, ps, hk, rfl, hbr, hbw⟩ := hrel
            have HBRW := Lib.hid hbr
            have HBK := Lib.hid hbw
            clear hbr hbw
            by_cases hlk : k < n
            · have hlki : (k : Int) < (n : Int) := by omega
              have hT : Below w.heap.size w wr := HBW.out.trans (HBK.out.mono HBW.out.size)
              obtain ⟨b1, f1, t, d, hA1, hdk, hat, c0, c1, c2⟩ := HD.out.get (show o1 + k < nA by omega)
              injection hA1 with hA1
              injection hA1 with hA1 hA2
              subst hA1 hA2
              have e3 : of0 + (o1 + k) * 3 = of0 + o1 * 3 + k * 3 := by omega
              rw [e3] at c0 c1 c2
              have q0 := bat hT c0
              have q1 := bat hT c1
              have q2 := bat hT c2
              obtain ⟨es, ex, en, hrd, hld⟩ := dat_d3 hat
              have hdm := List.mem_of_getElem? hdk
              have hml : d.mag.length ≤ 256 := by
                by_cases h0 : d.mag.length = 0
                · omega
                · exact (right_mag (HDR.out d hdm) h0).1
              have htn : t.n ≤ 256 := by omega
              have HRD := Lib.hid (And.intro hrd hld)
              have HES := Lib.hid (And.intro es (And.intro ex en))
              have HDK := Lib.hid hdk
              have HDM := Lib.hid hdm
              have HT := Lib.hid hT
              clear hT c0 c1 c2 hat hdk es ex en hrd hld hdm hml e3
              go_upto_region 15 with fail
              obtain ⟨w4, hw4⟩ : ∃ w4, w4 = wr.alloc (.cells #[.bool t.s, .slice t.a t.n t.c, .int .i64 t.x] 61) := ⟨_, rfl⟩
              obtain ⟨gb, hgb⟩ : ∃ gb, gb = wr.heap.size := ⟨_, rfl⟩
              rw [← hw4, ← hgb]
              obtain ⟨hb4, x0, x1, x2⟩ := box3 hw4
              rw [← hgb] at x0 x1 x2
              have hgbl : gb < w4.heap.size := by rw [hw4, hgb]; simp
              have HB4 := Lib.hid hb4
              have X2 := Lib.hid x2
              clear q0 q1 q2 hw4 hb4 hgb
              go_wp2_with fail
              clear x0 x1 x2
              refine (whole_rank t.a t.n t.c t.s d.mag w4 (HRD.out.1.blw (HT.out.trans (HB4.out.mono HT.out.size))) HRD.out.2 (by omega)).mono ?_
              rw [HES.out.1, top_sgL]
              rintro e w5 ⟨gx, rfl, hgx, hgxl, hi5, hb5⟩
              have HI5 := Lib.hid hi5
              have HB5 := Lib.hid hb5
              have x2 := bat hb5 X2.out
              clear hi5 hb5
              go_wp2_with fail
              refine (sign_int gx 0 d.top w5 HI5.out).mono ?_
              rintro e w' ⟨rfl, rfl⟩
              have htb : Bt (64 * 256) d.top := by
                have h1 := lim_bt (N := ln d.mag) (k := 256) (lim_len_le (Nat.lt_of_lt_of_le (ln_lt HRD.out.2) (Nat.pow_le_pow_right (by decide) (by rw [← HES.out.2.2]; exact htn))))
                unfold Bt DV.top
                split
                · rw [Int.natAbs_neg, Int.natAbs_natCast]; exact h1
                · rw [Int.natAbs_natCast]; exact h1
              have HTB := Lib.hid htb
              clear htb
              obtain ⟨f, hf⟩ : ∃ f, decide (d.top = 0) = f := ⟨_, rfl⟩
              have hsg : (sgnI d.top != 0) = !f := by
                rw [← hf]; unfold sgnI
                by_cases h : d.top = 0
                · simp [h]
                · by_cases h2 : d.top < 0
                  · simp [h, h2]
                  · simp [h, h2]
              have HF := Lib.hid hf
              clear hf
              go_upto_if 61 with fail
              go_cut [] from 1000 (fun wx => IntAt wx gx 0 (ent low d) ∧ Below wr.heap.size wr wx)
              case first =>
                have HSG := Lib.hid hsg
                clear hsg
                cases f with
                | true =>
                  have h0 : d.top = 0 := of_decide_eq_true HF.out
                  have HH0 := Lib.hid h0
                  clear h0 x2
                  go_wp2_with fail
                  go_meet
                  case rel =>
                    refine ⟨?_, HB4.out.trans (HB5.out.mono HB4.out.size)⟩
                    unfold ent
                    rw [if_pos HH0.out, ← HH0.out]
                    exact HI5.out
                | false =>
                  have h0 : ¬ d.top = 0 := of_decide_eq_false HF.out
                  have hm : d.mag.length ≠ 0 := fun e => h0 (by
                    have := List.eq_nil_of_length_eq_zero e
                    unfold DV.top
                    rw [this, ln_nil]
                    simp)
                  obtain ⟨he1, he2⟩ := HENT.out d HDM.out hm
                  obtain ⟨hr1, hr2, hr3⟩ := right_mag (HDR.out d HDM.out) hm
                  obtain ⟨L, hL⟩ : ∃ L : Nat, L = (d.exp - low).toNat := ⟨_, rfl⟩
                  have hLi : t.x - low = (L : Int) := by rw [HES.out.2.1]; omega
                  have hL2 : L ≤ 200000 := by omega
                  have HLL := Lib.hid hL
                  have HH0 := Lib.hid h0
                  have hrx : -100000 ≤ t.x ∧ t.x ≤ 100000 := by rw [HES.out.2.1]; omega
                  clear hL h0 hm he1 he2 hr1 hr2 hr3
                  go_wp2_with fail
                  refine (lsh_int gx 0 gx 0 d.top d.top L w5 HI5.out HI5.out (HTB.out.ten (by decide)) (by omega)).mono ?_
                  rintro e w6 ⟨rfl, hi6, hu6⟩
                  have HI6 := Lib.hid hi6
                  have HU6 := Lib.hid hu6
                  clear hi6 hu6 x2
                  go_wp2_with fail
                  go_meet
                  case rel =>
                    refine ⟨?_, (HB4.out.trans (HB5.out.mono HB4.out.size)).trans (HU6.out.below (Nat.le_trans HB4.out.size hgx) (Nat.le_trans HB4.out.size HB5.out.size))⟩
                    unfold ent
                    rw [if_neg HH0.out, ← HLL.out]
                    exact HI6.out
              case rest =>
                obtain ⟨hxi, hbc⟩ := hcut
                obtain ⟨wb9, hwb9⟩ : ∃ wb, wb = wc.alloc (.cells #[PtrV gx] 72) := ⟨_, rfl⟩
                have hbb : Below wc.heap.size wc wb9 := by rw [hwb9]; exact below1 ..
                have hbb2 : Below wr.heap.size wr wb9 := hbc.trans (hbb.mono hbc.size)
                have hrow := HBRW.out.below hbb2
                have HQI := Lib.hid (hxi.below hbb)
                have hwow : Below wo.heap.size wo wb9 := HBK.out.trans (hbb2.mono HBK.out.size)
                have HWOW := Lib.hid hwow
                have HROW := Lib.hid hrow
                have hob := hrow.own
                have hbase := hwow.size
                have hne : Rd wb9 (fun _ => True) 1 (some ⟨wc.heap.size, 0, none⟩) 1 [PtrV gx] := by rw [hwb9]; exact rd_blk (blk_new ..) rfl trivial
                have hpl : ps.length = k := by
                  have h1 := HBRW.out.len
                  rw [List.length_map, List.length_take, List.length_drop, HD.out.len] at h1
                  omega
                have HWBE := Lib.hid hwb9
                rw [hwb9] at hob hne hbase
                have HOB := Lib.hid hob
                have HRD9 := Lib.hid hne
                have HBASE := Lib.hid hbase
                clear hwb9 hbb hbb2 hrow hob hbase hne hwow hxi hbc x2 hsg
                go_wp2_with (at_builtin; go_must (refine wpList_append_K rfl _ _ _ rfl wo.heap.size 72 i0 _ 1 8 Try.underlying82 hi0 hzz0 hzz1 hzz2 rfl (by omega) Pk (by intro u hu; simp [Value.cells] at hu; exact ⟨_, hu⟩) _ ps.length (ps.flatMap Pc) rfl HOB.out (fun _ => True) (some ⟨wc.heap.size, 0, none⟩) 1 1 [PtrV gx] rfl HRD9.out (by simp [Value.oneCell']) (by intro u hu; simp at hu; exact ⟨_, hu⟩) (by simp only [maxLen]; omega) (by omega) HBASE.out ?_); go_must (intro v2 w9 hown2 hg2); go_must (rw [← HWBE.out] at hg2))
                refine ⟨⟨k + 1, ps ++ [gx], by omega, by go_num, ?_, HWOW.out.grown hg2.g HWOW.out.size fun b e => (HROW.out.own.own.lt b e).1⟩, by simp [intOf]; omega⟩
                have e : ((ds.drop o1).take (k + 1)).map (ent low) = ((ds.drop o1).take k).map (ent low) ++ [ent low d] := by
                  rw [List.take_add_one, List.getElem?_drop, HDK.out, List.map_append]; rfl
                rw [e]
                exact HROW.out.app hg2 hown2 HQI.out
            · obtain rfl : n = k := by omega
              have hnl : ¬ ((n : Int) < (n : Int)) := by omega
              obtain ⟨wm, hwm⟩ : ∃ wm, wm = wr := ⟨_, rfl⟩
              rw [← hwm] at HBRW HBK ⊢
              clear hwm
              go_wp2_with fail
              obtain ⟨lft, hlft⟩ : ∃ lft, lft = ((ds.drop o1).take n).map (ent low) := ⟨_, rfl⟩
              rw [← hlft] at HBRW
              have hlfl : lft.length = n := by rw [hlft, List.length_map, List.length_take, List.length_drop, HD.out.len]; omega
              have HLF := Lib.hid hlft
              clear hlft
              go_loopw [11, 76] (fun rv kv wx => ∃ (k : Nat) (ps : List Nat), k ≤ n ∧ kv = .int .i64 k ∧ BRow wx wo.heap.size rv ps (lft ++ (oneR n i).take k) ∧ Below wo.heap.size wo wx) (fun _ kv _ => n - (intOf kv).toNat)
              case atStart => exact ⟨0, ps, Nat.zero_le _, rfl, by rw [List.take_zero, List.append_nil]; exact HBRW.out, HBK.out⟩
              case round =>
                obtain ⟨k, ps2, hk, rfl, hbr, hbw⟩ := hrel
                have HBR2 := Lib.hid hbr
                have HBK2 := Lib.hid hbw
                clear hbr hbw
                by_cases hlk : k < n
                · have hlki : (k : Int) < (n : Int) := by omega
                  obtain ⟨f, hf⟩ : ∃ f, decide (k = i) = f := ⟨_, rfl⟩
                  have hfi : ((k : Int) == (i : Int)) = f := by
                    rw [← hf]
                    by_cases h : k = i
                    · simp [h]
                    · simp [h]; omega
                  have hfi2 : decide ((k : Int) = (i : Int)) = f := by
                    rw [← hf]
                    by_cases h : k = i
                    · simp [h]
                    · simp [h]; omega
                  have HF := Lib.hid hf
                  clear hf
                  go_upto_if 81 with fail
                  try rw [hfi]
                  try rw [hfi2]
                  go_cut [16] from 1000 (fun ov wx => ov = .int .i64 (if k = i then 1 else 0) ∧ wx = wr)
                  case first =>
                    clear hfi hfi2
                    cases f with
                    | true =>
                      go_wp2_with fail
                      go_meet
                      case rel => exact ⟨by rw [if_pos (of_decide_eq_true HF.out)], rfl⟩
                    | false =>
                      go_wp2_with fail
                      go_meet
                      case rel => exact ⟨by rw [if_neg (of_decide_eq_false HF.out)], rfl⟩
                  case rest =>
                    obtain ⟨rfl, hwc⟩ := hcut
                    rw [hwc]
                    clear hwc hfi hfi2
                    obtain ⟨on, hon2⟩ : ∃ on : Int, on = (if k = i then 1 else 0) := ⟨_, rfl⟩
                    rw [← hon2]
                    have hon3 : 0 ≤ on ∧ on ≤ 1 := by rw [hon2]; split <;> omega
                    have HON := Lib.hid hon2
                    clear hon2
                    go_wp2_with fail
                    refine (newInt_int on _ (by omega) (by omega)).mono ?_
                    rintro e wy ⟨q, rfl, hq1, hq2, hqi, hqb⟩
                    obtain ⟨wb9, hwb9⟩ : ∃ wb, wb = wy.alloc (.cells #[PtrV q] 72) := ⟨_, rfl⟩
                    have hbb : Below wy.heap.size wy wb9 := by rw [hwb9]; exact below1 ..
                    have hbb2 : Below wr.heap.size wr wb9 := hqb.trans (hbb.mono hqb.size)
                    have hrow := HBR2.out.below hbb2
                    have HQI := Lib.hid (hqi.below hbb)
                    have hwow : Below wo.heap.size wo wb9 := HBK2.out.trans (hbb2.mono HBK2.out.size)
                    have HWOW := Lib.hid hwow
                    have HROW := Lib.hid hrow
                    have hob := hrow.own
                    have hbase := hwow.size
                    have hne : Rd wb9 (fun _ => True) 1 (some ⟨wy.heap.size, 0, none⟩) 1 [PtrV q] := by rw [hwb9]; exact rd_blk (blk_new ..) rfl trivial
                    have hpl : ps2.length = n + k := by
                      have h1 := HBR2.out.len
                      rw [List.length_append, hlfl, List.length_take, oneR_len] at h1
                      omega
                    have HWBE := Lib.hid hwb9
                    rw [hwb9] at hob hne hbase
                    have HOB := Lib.hid hob
                    have HRD9 := Lib.hid hne
                    have HBASE := Lib.hid hbase
                    clear hwb9 hbb hbb2 hrow hob hbase hne hwow hqi hqb
                    go_wp2_with (at_builtin; go_must (refine wpList_append_K rfl _ _ _ rfl wo.heap.size 72 i0 _ 1 8 Try.underlying82 hi0 hzz0 hzz1 hzz2 rfl (by omega) Pk (by intro u hu; simp [Value.cells] at hu; exact ⟨_, hu⟩) _ ps2.length (ps2.flatMap Pc) rfl HOB.out (fun _ => True) (some ⟨wy.heap.size, 0, none⟩) 1 1 [PtrV q] rfl HRD9.out (by simp [Value.oneCell']) (by intro u hu; simp at hu; exact ⟨_, hu⟩) (by simp only [maxLen]; omega) (by omega) HBASE.out ?_); go_must (intro v2 w9 hown2 hg2); go_must (rw [← HWBE.out] at hg2))
                    refine ⟨⟨k + 1, ps2 ++ [q], by omega, by go_num, ?_, HWOW.out.grown hg2.g HWOW.out.size fun b e => (HROW.out.own.own.lt b e).1⟩, by simp [intOf]; omega⟩
                    rw [oneR_take n i k hlk, ← HON.out, ← List.append_assoc]
                    exact HROW.out.app hg2 hown2 HQI.out
                · obtain rfl : n = k := by omega
                  have hnl : ¬ ((n : Int) < (n : Int)) := by omega
                  have hO := HO.out.below HBK2.out
                  have hlen : (lft ++ (oneR n i).take n).length = n + n := by rw [List.length_append, hlfl, List.length_take, oneR_len]; omega
                  have erow : lft ++ (oneR n i).take n = sysRow ds n low i := by
                    rw [List.take_of_length_le (by rw [oneR_len]; exact Nat.le_refl _), HLF.out, HO1.out.1]
                    rfl
                  rw [erow] at hlen
                  have hrow := HBR2.out
                  rw [erow] at hrow
                  clear erow
                  obtain ⟨Au, cu, rfl, _, _⟩ := own_slice hrow.own.own
                  go_upto_region 28 with fail
                  obtain ⟨wb9, hwb9⟩ : ∃ wb, wb = wr.alloc (.cells #[.slice Au ps2.length cu] 82) := ⟨_, rfl⟩
                  have hbb : Below wr.heap.size wr wb9 := by rw [hwb9]; exact below1 ..
                  have hwow : Below wo.heap.size wo wb9 := HBK2.out.trans (hbb.mono HBK2.out.size)
                  have hOb := HO.out.below hwow
                  have q0 := hO.t0
                  have hob := hOb.tab.own
                  have hbase := hOb.sz
                  have hne : Rd wb9 (fun _ => True) 1 (some ⟨wr.heap.size, 0, none⟩) 1 [.slice Au ps2.length cu] := by rw [hwb9]; exact rd_blk (blk_new ..) rfl trivial
                  have HWBE := Lib.hid hwb9
                  have HROW := Lib.hid (hrow.below hbb)
                  have HOBI := Lib.hid hOb
                  have HWOW := Lib.hid hwow
                  have HLEN := Lib.hid hlen
                  have hvs : vs.length ≤ 48 := by rw [HVL.out]; omega
                  rw [hwb9] at hob hne hbase
                  have HOB := Lib.hid hob
                  have HRD9 := Lib.hid hne
                  have HBASE := Lib.hid hbase
                  clear hwb9 hbb hwow hOb hob hbase hne hrow hlen hO
                  go_wp2_with (at_builtin; go_must (refine wpList_append_K rfl _ _ _ rfl (gt + 1) 82 j0 _ 1 24 Try.underlying71 hj0 hyy0 hyy1 hyy2 rfl (by omega) Sk (by intro u hu; simp [Value.cells] at hu; exact ⟨_, _, _, hu⟩) _ vs.length vs rfl HOB.out (fun _ => True) (some ⟨wr.heap.size, 0, none⟩) 1 1 [.slice Au ps2.length cu] rfl HRD9.out (by intro u hu; simp at hu; rw [hu]; rfl) (by intro u hu; simp at hu; exact ⟨_, _, _, hu⟩) (by simp only [maxLen]; omega) (by omega) HBASE.out ?_); go_must (intro v2 w9 hown2 hg2); go_must (rw [← HWBE.out] at hg2); go_must (obtain ⟨A2, d2, rfl, _, _⟩ := own_slice hown2.own); go_must (have k0 := (HOBI.out.t0g hg2).1); go_must (have k1 := (HOBI.out.t0g hg2).2))
                  obtain ⟨⟨gs', hres⟩, hbres⟩ := HO.out.app HWOW.out HROW.out HLEN.out (Nat.le_refl _) hg2 hown2 rfl
                  refine ⟨⟨i + 1, .slice A2 (vs.length + 1) d2, vs ++ [.slice Au ps2.length cu], gs', by omega, by go_num, by simp [HVL.out], ?_, HBO.out.trans ((HWOW.out.mono (by omega)).trans hbres)⟩, by simp [intOf]; omega⟩
                  rw [sysT_succ]
                  exact hres
        · obtain rfl : n = i := by omega
          have hnl : ¬ ((n : Int) < (n : Int)) := by omega
          have hnB' : nB = n := by rw [← HB.out.len, HBN.out]
          obtain ⟨s, hs⟩ : ∃ s, s = brun (sysT ds n low n) n := ⟨_, rfl⟩
          have hsol : solS ds ((n : Int)).toNat = s := by rw [hs, HLOW.out]; rfl
          have hrat := HB.out.rats (c := cB) HBR.out
          have HRAT := Lib.hid hrat
          have HSOL := Lib.hid hsol
          have HS := Lib.hid hs
          subst hnB'
          have hpost : ∀ (e : Ending) (w' : World), Below w.heap.size w w' → (s.piv.length < nB ∧ e = .returned (.tuple #[.slice none 0 0, .int .i64 210]) ∨ s.piv.length = nB ∧ (((∀ i, i < nB → fits (ansQ s nB (bs.map RV.q) low i)) ∧ ∃ V, e = .returned (.tuple #[V, .int .i64 0]) ∧ RatsAt w' V (ansL s nB (bs.map RV.q) low nB)) ∨ ((¬ ∀ i, i < nB → fits (ansQ s nB (bs.map RV.q) low i)) ∧ e = .returned (.tuple #[.slice none 0 0, .int .i64 3])))) → SolvePost nB nB ds bs w e w' := fun e w' h1 h2 => by
            have hle : (nB : Int) * sprW ds ≤ 8192 := by rw [HWW.out, hpc]; omega
            refine ⟨h1, ?_⟩
            rw [HSOL.out, ← HLOW.out, Int.toNat_natCast]
            rcases h2 with ⟨a, b⟩ | ⟨a, b⟩
            · exact .inr (.inr (.inl ⟨HSB.out, hle, a, b⟩))
            · exact .inr (.inr (.inr ⟨HSB.out, hle, a, b⟩))
          have HPOST := Lib.hid hpost
          clear hrat hsol hs hpost
          go_wp2_with fail
          by_cases hz : nB = 0
          · subst hz
            obtain ⟨AV, cV, rfl, _, _⟩ := own_slice HO.out.tab.own.own
            refine (reduce_none gt vs.length cV 0 AV _ (by omega) HO.out.t0 HO.out.t1 HO.out.t2 HO.out.fz (by rw [HVL.out]; exact .inl rfl)).mono ?_
            rintro e w9 ⟨rfl, h91, h90, hu9⟩
            have hs0 : s.piv = [] := by rw [HS.out]; rfl
            have HS0 := Lib.hid hs0
            have hbw9 : Below w.heap.size w w9 := HBW.out.trans (hu9.below (fun k e => by omega) HBW.out.size)
            have HBW9 := Lib.hid hbw9
            have HRAT9 := Lib.hid (HRAT.out.below hbw9)
            clear hu9 hs0 hbw9 h90
            go_wp2_with fail
            clear h91
            refine (answers_tab gt 0 cB B low ⟨[], [], 1⟩ [] w9 (fun h => absurd h (Nat.lt_irrefl 0)) (by have h := HRAT9.out; have e0 : bs = [] := List.eq_nil_of_length_eq_zero HBN.out; rw [e0] at h; exact h) rfl (by decide) (fun i k => bt_tf0 _ i k) (bt_one _) (by decide) (by omega)).mono ?_
            rintro e wF ⟨hbF, hF⟩
            have HBF := Lib.hid (HBW9.out.trans (hbF.mono HBW9.out.size))
            clear hbF
            rcases hF with ⟨_, V, rfl, hV⟩ | ⟨hn, _⟩
            · have HV := Lib.hid hV
              clear hV
              go_wp2_with fail
              go_ret2
              refine HPOST.out _ _ HBF.out (.inr ⟨by rw [HS0.out]; rfl, .inl ⟨fun i h => absurd h (Nat.not_lt_zero i), V, rfl, ?_⟩⟩)
              exact HV.out
            · exact absurd (fun i h => absurd h (Nat.not_lt_zero i)) hn
          · obtain ⟨G, cR, hVR, hGb, hT⟩ := HO.out.tab.done (by omega) (by rw [HVL.out]; omega)
            rw [HVL.out] at hVR hT
            have ht0 := HO.out.t0
            rw [hVR] at ht0
            have hge := HO.out.tab.ge (by omega)
            have hWb : W ≤ 8192 := by
              have h1 : 1 * W ≤ nB * W := Nat.mul_le_mul_right W (by omega)
              rw [← HP.out] at h1
              omega
            have h6 : nB + 1 ≤ 2 ^ 6 := by omega
            have hM : ∀ i k, (tf (sysT ds nB low nB) i k).natAbs ≤ 2 ^ W := sysT_le HLE.out (Nat.one_le_two_pow)
            have hrect : rect (sysT ds nB low nB) nB (nB + nB) := sysT_rect HDN.out
            have hbm : BM nB (nB + nB) (2 ^ W) nB s := by rw [HS.out]; exact brun_bm hrect hM nB
            have HBM := Lib.hid hbm
            have HWB := Lib.hid hWb
            obtain ⟨E, hE⟩ : ∃ E, E = 500000 := ⟨_, rfl⟩
            have hbig : bigB nB (2 ^ W) < 2 ^ E := by
              have h1 : 2 ^ W + 1 ≤ 2 ^ (W + 1) := by rw [Nat.pow_succ]; have := Nat.two_pow_pos W; omega
              have h3 : (6 + (W + 1)) * (nB + 1) + 2 ≤ E := by
                have : (6 + (W + 1)) * (nB + 1) ≤ 8199 * 49 := Nat.mul_le_mul (by omega) (by omega)
                omega
              exact Nat.lt_of_lt_of_le (bigB_lt h6 h1) (Nat.pow_le_pow_right (by decide) h3)
            refine (reduce_tab gt G nB (nB + nB) cR nB (2 ^ W) E gs (sysT ds nB low nB) _ hT ht0 HO.out.t1 HO.out.t2 HO.out.fz (by omega) (fun hm => by have := hge _ hm; omega) (by omega) (by omega) (by omega) (by omega) (by omega) hM hbig (by omega)).mono ?_
            rintro e w9 ⟨rfl, gs', V, gl, hst9, hmem9, hu9⟩
            rw [← HS.out] at hst9
            have hbw9 : Below w.heap.size w w9 := HBW.out.trans (hu9.below (fun k e => by
              rcases e with rfl | rfl | h
              · omega
              · omega
              · have := hge _ h; omega) HBW.out.size)
            have HBW9 := Lib.hid hbw9
            have HRAT9 := Lib.hid (HRAT.out.below hbw9)
            have HST9 := Lib.hid hst9
            obtain ⟨AV, cV, hV, _, _⟩ := own_slice hst9.piv.own
            have c1 := hst9.c1
            rw [hV] at c1
            have hple : s.piv.length ≤ nB := HBM.out.le
            have hl0 : s.last ≠ 0 := HBM.out.last
            have HL0 := Lib.hid hl0
            clear hu9 hbw9 hst9 hV hge hT ht0 hM hrect hbm hbig hE hWb h6 hl0 hmem9 hVR hGb
            by_cases hpl : s.piv.length < nB
            · have hpli : (s.piv.length : Int) < (nB : Int) := by omega
              go_wp2_with fail
              go_ret2
              exact HPOST.out _ _ HBW9.out (.inl ⟨hpl, rfl⟩)
            · have hpli : ¬ (s.piv.length : Int) < (nB : Int) := by omega
              have hpe : s.piv.length = nB := by omega
              have HPE := Lib.hid hpe
              clear hpe hpl hple
              go_wp2_with fail
              clear c1
              refine (answers_tab gt nB cB B low s (bs.map RV.q) w9 (fun _ => ⟨G, cR, _, gs', V, gl, HST9.out⟩) HRAT9.out (by rw [List.length_map]; exact HBN.out) (by omega) (fun i k => bt_big (by omega) HWB.out (by decide) (HBM.out.num i k)) (bt_big (by omega) HWB.out (by decide) HBM.out.lastN) HL0.out (by omega)).mono ?_
              rintro e wF ⟨hbF, hF⟩
              have HBF := Lib.hid (HBW9.out.trans (hbF.mono HBW9.out.size))
              clear hbF
              rcases hF with ⟨hfa, V9, rfl, hV⟩ | ⟨hn, rfl⟩
              · have HV := Lib.hid (And.intro hfa hV)
                clear hV hfa
                go_wp2_with fail
                go_ret2
                exact HPOST.out _ _ HBF.out (.inr ⟨HPE.out, .inl ⟨HV.out.1, V9, rfl, HV.out.2⟩⟩)
              · have HN := Lib.hid hn
                clear hn
                go_wp2_with fail
                go_ret2
                exact HPOST.out _ _ HBF.out (.inr ⟨HPE.out, .inr ⟨HN.out, rfl⟩⟩)

end Go.Proofs.Ytfepmbpcdfdlhaa

/- girderkit.SameInts, SameRatios, SameRatioRows: the walks -/
namespace Go.Proofs.Ytfepmbpcdfdlhaa
open Go.RowKit Go.Sort

theorem take_eq_len {α : Type} {xs ys : List α} {n : Nat} (h1 : xs.length = n) (h2 : ys.length = n) (h : xs.take n = ys.take n) : xs = ys := by
  rw [List.take_of_length_le (by omega), List.take_of_length_le (by omega)] at h
  exact h
theorem take_succ_eq {α : Type} {xs ys : List α} {k : Nat} {x y : α} (h : xs.take k = ys.take k) (hx : xs[k]? = some x) (hy : ys[k]? = some y) (e : x = y) : xs.take (k + 1) = ys.take (k + 1) := by
  rw [List.take_add_one, List.take_add_one, h, hx, hy, e]
theorem ne_at {α : Type} {xs ys : List α} {k : Nat} {x y : α} (hx : xs[k]? = some x) (hy : ys[k]? = some y) (e : x ≠ y) : xs ≠ ys := fun h => e (by rw [h, hy] at hx; exact (Option.some.inj hx).symm)

set_option maxRecDepth 100000 in
set_option maxHeartbeats 4000000 in
theorem sameInts_any (A B : Option Addr) (n m cA cB : Nat) (xs ys : List Nat) (S T : Nat → Prop) (w : World) (hx : RdE Ic 1 w S A n xs) (hy : RdE Ic 1 w T B m ys) (hn : n ≤ 1000000) (hm : m ≤ 1000000) (hxb : ∀ x ∈ xs, x ≤ 1000000) (hyb : ∀ y ∈ ys, y ≤ 1000000) :
    Calls Try.prog 14 #[.slice A n cA, .slice B m cB] w fun e w' => e = .returned (.bool (decide (xs = ys))) ∧ Below w.heap.size w w' := by
  have HX := Lib.hid hx
  have HY := Lib.hid hy
  have HXB := Lib.hid hxb
  have HYB := Lib.hid hyb
  obtain ⟨f, hf⟩ : ∃ f, f = decide (xs = ys) := ⟨_, rfl⟩
  rw [← hf]
  have HF := Lib.hid hf
  clear hx hy hxb hyb hf
  by_cases hnm : n = m
  · subst hnm
    have hnn : (n : Int) = (n : Int) := rfl
    go_enter Try.func14, Try.ntmps14
    go_wp2_with fail
    go_loopw [5] (fun iv wr => ∃ k : Nat, k ≤ n ∧ iv = .int .i64 k ∧ xs.take k = ys.take k ∧ Below w.heap.size w wr) (fun iv _ => n - (intOf iv).toNat)
    case atStart => exact ⟨0, Nat.zero_le _, rfl, rfl, Below.refl _ _⟩
    case round =>
      obtain ⟨k, hk, rfl, htk, hb⟩ := hrel
      have HTK := Lib.hid htk
      have HB := Lib.hid hb
      clear htk hb
      by_cases hlt : k < n
      · have hlti : (k : Int) < (n : Int) := by omega
        obtain ⟨x, hxk⟩ := get_some HX.out.num hlt
        obtain ⟨y, hyk⟩ := get_some HY.out.num hlt
        obtain ⟨b1, o1, rfl, _, hc1⟩ := HX.out.elem (f := Ic) (fun _ => rfl) hxk (by decide)
        obtain ⟨b2, o2, rfl, _, hc2⟩ := HY.out.elem (f := Ic) (fun _ => rfl) hyk (by decide)
        have c1 := hc1 0 _ rfl
        have c2 := hc2 0 _ rfl
        rw [Nat.mul_one, Nat.add_zero] at c1 c2
        have r1 := cell_regrown (bat HB.out c1)
        have r2 := cell_regrown (bat HB.out c2)
        have HXK := Lib.hid hxk
        have HYK := Lib.hid hyk
        have hxl := HXB.out x (List.mem_of_getElem? hxk)
        have hyl := HYB.out y (List.mem_of_getElem? hyk)
        clear hc1 hc2 c1 c2 hxk hyk
        by_cases hxy : x = y
        · have hxe : ((x : Int) != (y : Int)) = false := by subst hxy; simp
          have HXY := Lib.hid hxy
          clear hxy
          go_upto_region 6 with fail
          refine wp_region_quiet_below (by kernel_rfl) (by kernel_rfl) ?_
          repeat (first | go_big_quiet_step (fail) | quiet_step (fail))
          refine wpQuiet_nil ?_
          intro wq hwq
          have hbq := below_class hwq
          clear hwq
          have HBQ := Lib.hid (HB.out.trans (hbq.mono HB.out.size))
          clear r1 r2 hbq
          go_wp2_with fail
          refine ⟨⟨k + 1, by omega, by go_num, take_succ_eq HTK.out HXK.out HYK.out HXY.out, HBQ.out⟩, by simp [intOf]; omega⟩
        · have hxe : ((x : Int) != (y : Int)) = true := by simp; omega
          have HXY := Lib.hid hxy
          clear hxy
          go_upto_region 6 with fail
          refine wp_region_quiet_below (by kernel_rfl) (by kernel_rfl) ?_
          repeat (first | go_big_quiet_step (fail) | quiet_step (fail))
          refine wpQuiet_nil ?_
          intro wq hwq
          have hbq := below_class hwq
          clear hwq
          have HBQ := Lib.hid (HB.out.trans (hbq.mono HB.out.size))
          clear r1 r2 hbq
          go_wp2_with fail
          go_ret
          refine ⟨?_, HBQ.out⟩
          rw [HF.out, decide_eq_false (ne_at HXK.out HYK.out HXY.out)]
          rfl
      · obtain rfl : n = k := by omega
        have hnl : ¬ ((n : Int) < (n : Int)) := by omega
        go_wp2_with fail
        go_ret
        refine ⟨?_, HB.out⟩
        rw [HF.out, decide_eq_true (take_eq_len HX.out.num HY.out.num HTK.out)]
        rfl
  · have hnn : ¬ (n : Int) = (m : Int) := by omega
    have hnm2 : ((n : Int) != (m : Int)) = true := by simp; omega
    go_enter Try.func14, Try.ntmps14
    go_wp2_with fail
    go_ret
    refine ⟨?_, Below.refl _ _⟩
    rw [HF.out, decide_eq_false (fun e => hnm (by rw [← HX.out.num, ← HY.out.num, e]))]
    rfl

end Go.Proofs.Ytfepmbpcdfdlhaa

/- girderkit.SameRatios, SameRatioRows: the walks -/
namespace Go.Proofs.Ytfepmbpcdfdlhaa
open Go.RowKit Go.Sort

theorem at_len {w : World} {t : T3} {q : Rat} (h : At w t.val q) : (rv q).num.length ≤ 1000000000000000 ∧ (rv q).den.length ≤ 1000000000000000 := ⟨Nat.le_trans h.2.1 (by decide), Nat.le_trans h.2.2 (by decide)⟩
theorem sameAt {w : World} {t u : T3} {q p : Rat} (ha : At w t.val q) (hb : At w u.val p) :
    Calls Try.prog 16 #[t.val, u.val] w fun e w' => e = .returned (.bool (decide (q = p))) ∧ Below w.heap.size w w' := by
  refine (same_ratio _ _ (rv q) (rv p) w ha.1 hb.1 (at_len ha).1 (at_len ha).2 (at_len hb).1 (at_len hb).2).mono ?_
  rintro e w' ⟨h1, h2⟩
  refine ⟨?_, h2⟩
  rw [h1]
  congr 2
  by_cases e : q = p
  · rw [decide_eq_true e, decide_eq_true (by rw [e])]
  · rw [decide_eq_false e, decide_eq_false (fun h => e (rv_inj h))]

set_option maxRecDepth 100000 in
set_option maxHeartbeats 4000000 in
theorem sameRatios_any (V U : Value) (qs ps : List Rat) (w : World) (hx : RatsAt w V qs) (hy : RatsAt w U ps) (hn : qs.length ≤ 1000000) (hm : ps.length ≤ 1000000) :
    Calls Try.prog 28 #[V, U] w fun e w' => e = .returned (.bool (decide (qs = ps))) ∧ Below w.heap.size w w' := by
  obtain ⟨A, cA, _, rfl, _, _⟩ := hx.at_
  obtain ⟨B, cB, _, rfl, _, _⟩ := hy.at_
  have HX := Lib.hid hx
  have HY := Lib.hid hy
  obtain ⟨f, hf⟩ : ∃ f, f = decide (qs = ps) := ⟨_, rfl⟩
  rw [← hf]
  have HF := Lib.hid hf
  obtain ⟨n, en⟩ : ∃ n, n = qs.length := ⟨_, rfl⟩
  obtain ⟨m, em⟩ : ∃ m, m = ps.length := ⟨_, rfl⟩
  rw [← en] at HX hn ⊢
  rw [← em] at HY hm ⊢
  have EN := Lib.hid en
  have EM := Lib.hid em
  clear hx hy hf en em
  by_cases hnm : n = m
  · subst hnm
    have hnn : (n : Int) = (n : Int) := rfl
    go_enter Try.func28, Try.ntmps28
    go_wp2_with fail
    go_loopw [5] (fun iv wr => ∃ k : Nat, k ≤ n ∧ iv = .int .i64 k ∧ qs.take k = ps.take k ∧ Below w.heap.size w wr) (fun iv _ => n - (intOf iv).toNat)
    case atStart => exact ⟨0, Nat.zero_le _, rfl, rfl, Below.refl _ _⟩
    case round =>
      obtain ⟨k, hk, rfl, htk, hb⟩ := hrel
      have HTK := Lib.hid htk
      have HB := Lib.hid hb
      clear htk hb
      by_cases hlt : k < n
      · have hlti : (k : Int) < (n : Int) := by omega
        obtain ⟨b1, o1, t, q, rfl, hqk, hta, c0, c1, c2⟩ := HX.out.get (show k < qs.length by rw [← EN.out]; exact hlt)
        obtain ⟨b2, o2, u, p, rfl, hpk, hua, d0, d1, d2⟩ := HY.out.get (show k < ps.length by rw [← EM.out]; exact hlt)
        have r0 := cell_regrown (bat HB.out c0)
        have r1 := cell_regrown (bat HB.out c1)
        have r2 := cell_regrown (bat HB.out c2)
        have s0 := cell_regrown (bat HB.out d0)
        have s1 := cell_regrown (bat HB.out d1)
        have s2 := cell_regrown (bat HB.out d2)
        have HTA := Lib.hid (hta.below HB.out)
        have HUA := Lib.hid (hua.below HB.out)
        obtain ⟨g, hg⟩ : ∃ g, g = decide (q = p) := ⟨_, rfl⟩
        have cS : ∀ d os, Calls Try.prog 16 #[t.val, u.val] (grow (redrawn wr d) os) fun e w'' => e = .returned (.bool g) ∧ ∃ p : Regrown, w'' = grow (redrawn wr p.d) p.os := fun d os => Calls.regrown_of (by rw [hg]; exact sameAt (HTA.out.below (below_regrown wr d os)) (HUA.out.below (below_regrown wr d os)))
        have HQK := Lib.hid hqk
        have HPK := Lib.hid hpk
        have HG := Lib.hid hg
        clear hqk hpk hta hua c0 c1 c2 d0 d1 d2 hg
        go_upto_region 6 with fail
        refine wp_region_quiet_below (by kernel_rfl) (by kernel_rfl) ?_
        repeat (first | go_big_quiet_step (exact cS _ _) | quiet_step (exact cS _ _))
        refine wpQuiet_nil ?_
        intro wq hwq
        have hbq := below_class hwq
        clear hwq
        have HBQ := Lib.hid (HB.out.trans (hbq.mono HB.out.size))
        clear r0 r1 r2 s0 s1 s2 cS hbq
        cases g with
        | true =>
          go_wp2_with fail
          refine ⟨⟨k + 1, by omega, by go_num, take_succ_eq HTK.out HQK.out HPK.out (of_decide_eq_true HG.out.symm), HBQ.out⟩, by simp [intOf]; omega⟩
        | false =>
          go_wp2_with fail
          go_ret
          refine ⟨?_, HBQ.out⟩
          rw [HF.out, decide_eq_false (ne_at HQK.out HPK.out (of_decide_eq_false HG.out.symm))]
          rfl
      · obtain rfl : n = k := by omega
        have hnl : ¬ ((n : Int) < (n : Int)) := by omega
        go_wp2_with fail
        go_ret
        refine ⟨?_, HB.out⟩
        rw [HF.out, decide_eq_true (take_eq_len EN.out.symm EM.out.symm HTK.out)]
        rfl
  · have hnn : ¬ (n : Int) = (m : Int) := by omega
    have hnm2 : ((n : Int) != (m : Int)) = true := by simp; omega
    go_enter Try.func28, Try.ntmps28
    go_wp2_with fail
    go_ret
    refine ⟨?_, Below.refl _ _⟩
    rw [HF.out, decide_eq_false (fun e => hnm (by rw [EN.out, EM.out, e]))]
    rfl

theorem RatRows.get {w : World} {A : Option Addr} {n c : Nat} {rows : List (List Rat)} (h : RatRows w (.slice A n c) rows) {k : Nat} (hk : k < rows.length) :
    ∃ (b o : Nat) (v : Value) (qs : List Rat), A = some ⟨b, o, none⟩ ∧ rows[k]? = some qs ∧ RatRow w v qs ∧ w.cell? ⟨b, o + k, none⟩ = some v := by
  obtain ⟨A', c', vs, e, h1, h2⟩ := h.at_
  injection e with e1 e2 e3
  subst e1
  obtain ⟨v, hv⟩ := get_some h1.num hk
  obtain ⟨qs, hq⟩ : ∃ qs, rows[k]? = some qs := ⟨_, List.getElem?_eq_getElem hk⟩
  obtain ⟨b, o, e, _, hc⟩ := h1.elem (f := fun v : Value => [v]) (fun _ => rfl) hv (by decide)
  have hc0 := hc 0 _ rfl
  rw [Nat.mul_one, Nat.add_zero] at hc0
  exact ⟨b, o, v, qs, e, hq, h2 k v qs hv hq, hc0⟩
theorem RatRows.below {w w' : World} {V : Value} {rows : List (List Rat)} (h : RatRows w V rows) (hb : Below w.heap.size w w') : RatRows w' V rows := by
  obtain ⟨A, c, vs, e, h1, h2⟩ := h.at_
  exact ⟨A, c, vs, e, h1.blw hb, fun k v qs a b => (h2 k v qs a b).below hb⟩

set_option maxRecDepth 100000 in
set_option maxHeartbeats 4000000 in
theorem sameRows_any (V U : Value) (xs ys : List (List Rat)) (w : World) (hx : RatRows w V xs) (hy : RatRows w U ys) (hn : xs.length ≤ 1000000) (hm : ys.length ≤ 1000000) (hxl : ∀ r ∈ xs, r.length ≤ 1000000) (hyl : ∀ r ∈ ys, r.length ≤ 1000000) :
    Calls Try.prog 15 #[V, U] w fun e w' => e = .returned (.bool (decide (xs = ys))) ∧ Below w.heap.size w w' := by
  obtain ⟨A, cA, _, rfl, _, _⟩ := hx.at_
  obtain ⟨B, cB, _, rfl, _, _⟩ := hy.at_
  have HX := Lib.hid hx
  have HY := Lib.hid hy
  have HXL := Lib.hid hxl
  have HYL := Lib.hid hyl
  obtain ⟨f, hf⟩ : ∃ f, f = decide (xs = ys) := ⟨_, rfl⟩
  rw [← hf]
  have HF := Lib.hid hf
  obtain ⟨n, en⟩ : ∃ n, n = xs.length := ⟨_, rfl⟩
  obtain ⟨m, em⟩ : ∃ m, m = ys.length := ⟨_, rfl⟩
  rw [← en] at HX hn ⊢
  rw [← em] at HY hm ⊢
  have EN := Lib.hid en
  have EM := Lib.hid em
  clear hx hy hf en em hxl hyl
  by_cases hnm : n = m
  · subst hnm
    have hnn : (n : Int) = (n : Int) := rfl
    go_enter Try.func15, Try.ntmps15
    go_wp2_with fail
    go_loopw [5] (fun iv wr => ∃ k : Nat, k ≤ n ∧ iv = .int .i64 k ∧ xs.take k = ys.take k ∧ Below w.heap.size w wr) (fun iv _ => n - (intOf iv).toNat)
    case atStart => exact ⟨0, Nat.zero_le _, rfl, rfl, Below.refl _ _⟩
    case round =>
      obtain ⟨k, hk, rfl, htk, hb⟩ := hrel
      have HTK := Lib.hid htk
      have HB := Lib.hid hb
      clear htk hb
      by_cases hlt : k < n
      · have hlti : (k : Int) < (n : Int) := by omega
        obtain ⟨b1, o1, v, q, rfl, hqk, hta, c0⟩ := HX.out.get (show k < xs.length by rw [← EN.out]; exact hlt)
        obtain ⟨b2, o2, u, p, rfl, hpk, hua, d0⟩ := HY.out.get (show k < ys.length by rw [← EM.out]; exact hlt)
        obtain ⟨A1, f1, _, hv1, _, _⟩ := hta.rats.at_
        obtain ⟨A2, f2, _, hv2, _, _⟩ := hua.rats.at_
        have hql := HXL.out q (List.mem_of_getElem? hqk)
        have hpl := HYL.out p (List.mem_of_getElem? hpk)
        subst hv1 hv2
        have r0 := cell_regrown (bat HB.out c0)
        have s0 := cell_regrown (bat HB.out d0)
        have HTA := Lib.hid (hta.below HB.out)
        have HUA := Lib.hid (hua.below HB.out)
        obtain ⟨g, hg⟩ : ∃ g, g = decide (q = p) := ⟨_, rfl⟩
        have cS : ∀ d os, Calls Try.prog 28 #[.slice A1 q.length f1, .slice A2 p.length f2] (grow (redrawn wr d) os) fun e w'' => e = .returned (.bool g) ∧ ∃ p : Regrown, w'' = grow (redrawn wr p.d) p.os := fun d os => Calls.regrown_of (by rw [hg]; exact sameRatios_any _ _ q p _ (HTA.out.below (below_regrown wr d os)).rats (HUA.out.below (below_regrown wr d os)).rats hql hpl)
        have HQK := Lib.hid hqk
        have HPK := Lib.hid hpk
        have HG := Lib.hid hg
        clear hqk hpk hta hua c0 d0 hg
        go_upto_region 6 with fail
        refine wp_region_quiet_below (by kernel_rfl) (by kernel_rfl) ?_
        repeat (first | go_big_quiet_step (exact cS _ _) | quiet_step (exact cS _ _))
        refine wpQuiet_nil ?_
        intro wq hwq
        have hbq := below_class hwq
        clear hwq
        have HBQ := Lib.hid (HB.out.trans (hbq.mono HB.out.size))
        clear r0 s0 cS hbq
        cases g with
        | true =>
          go_wp2_with fail
          refine ⟨⟨k + 1, by omega, by go_num, take_succ_eq HTK.out HQK.out HPK.out (of_decide_eq_true HG.out.symm), HBQ.out⟩, by simp [intOf]; omega⟩
        | false =>
          go_wp2_with fail
          go_ret
          refine ⟨?_, HBQ.out⟩
          rw [HF.out, decide_eq_false (ne_at HQK.out HPK.out (of_decide_eq_false HG.out.symm))]
          rfl
      · obtain rfl : n = k := by omega
        have hnl : ¬ ((n : Int) < (n : Int)) := by omega
        go_wp2_with fail
        go_ret
        refine ⟨?_, HB.out⟩
        rw [HF.out, decide_eq_true (take_eq_len EN.out.symm EM.out.symm HTK.out)]
        rfl
  · have hnn : ¬ (n : Int) = (m : Int) := by omega
    have hnm2 : ((n : Int) != (m : Int)) = true := by simp; omega
    go_enter Try.func15, Try.ntmps15
    go_wp2_with fail
    go_ret
    refine ⟨?_, Below.refl _ _⟩
    rw [HF.out, decide_eq_false (fun e => hnm (by rw [EN.out, EM.out, e]))]
    rfl

end Go.Proofs.Ytfepmbpcdfdlhaa

/- girderlaw11.whole, rows: the walks -/
namespace Go.Proofs.Ytfepmbpcdfdlhaa
open Go.RowKit Go.Sort

theorem rv_one : rv 1 = ⟨false, [1], [1]⟩ := by decide +kernel
theorem rv_nought : rv 0 = ⟨false, [], [1]⟩ := by decide +kernel
theorem rv_minus : rv (-1) = ⟨true, [1], [1]⟩ := by decide +kernel
theorem fits_one : fits 1 := by decide +kernel
theorem fits_nought : fits 0 := by decide +kernel
theorem fits_minus : fits (-1) := by decide +kernel
theorem lds_one : Lds [1] := by intro x hx; simp at hx; subst hx; decide
theorem lds_nil : Lds [] := fun x hx => by simp at hx
/-- a list of one limb in a block of its own -/
theorem rd_one {w : World} {g : Nat} {t : TypeId} (h : w.heap[g]? = some (.cells #[.int .u64 1] t (0, 0))) : RdE Lc 1 w (fun b => b < w.heap.size) (some ⟨g, 0, none⟩) 1 [1] :=
  rde_blk h rfl (Array.getElem?_eq_some_iff.1 h).1 rfl rfl
theorem whole_one (w : World) : Calls Try.prog 17 #[.int .u64 1] w fun e w' => ∃ v, e = .returned v ∧ At w' v 1 ∧ Below w.heap.size w w' := by
  go_enter Try.func17, Try.ntmps17
  go_wp2_with fail
  obtain ⟨v, hv⟩ : ∃ v, v = Value.agg #[.bool false, .slice (some ⟨w.heap.size + 1 + 1 + 1, 0, none⟩) 1 1, .slice (some ⟨w.heap.size + 1, 0, none⟩) 1 1] := ⟨_, rfl⟩
  (try simp only [Exit.inBlock, Exit.then])
  refine bodyPost_ret (v := v) (by rw [hv]; simp [results, Try.results17, go_sem]; done) rfl ?_
  refine ⟨v, rfl, ⟨?_, fits_one⟩, (below2 ..).trans ((below2 ..).mono (by simp; omega))⟩
  rw [rv_one, hv]
  have h2 := blk_new (w.alloc (.cells #[.bool false, .slice (some ⟨w.heap.size + 1 + 1 + 1, 0, none⟩) 1 1, .slice (some ⟨w.heap.size + 1, 0, none⟩) 1 1] 43)) #[.int .u64 1] 45
  rw [World.size_alloc] at h2
  have h4 := blk_new (((w.alloc (.cells #[.bool false, .slice (some ⟨w.heap.size + 1 + 1 + 1, 0, none⟩) 1 1, .slice (some ⟨w.heap.size + 1, 0, none⟩) 1 1] 43)).alloc (.cells #[.int .u64 1] 45)).alloc (.cells #[.bool false, .slice (some ⟨w.heap.size + 1 + 1 + 1, 0, none⟩) 1 1, .slice (some ⟨w.heap.size + 1, 0, none⟩) 1 1] 43)) #[.int .u64 1] 45
  rw [World.size_alloc, World.size_alloc, World.size_alloc] at h4
  exact ⟨_, _, _, _, _, _, rfl, rd_one h4, rd_one (blk_old (blk_old h2 _) _), lds_one, lds_one⟩
theorem whole_nought (w : World) : Calls Try.prog 17 #[.int .u64 0] w fun e w' => ∃ v, e = .returned v ∧ At w' v 0 ∧ Below w.heap.size w w' := by
  go_enter Try.func17, Try.ntmps17
  go_wp2_with fail
  obtain ⟨v, hv⟩ : ∃ v, v = Value.agg #[.bool false, .slice none 0 0, .slice (some ⟨w.heap.size + 1, 0, none⟩) 1 1] := ⟨_, rfl⟩
  (try simp only [Exit.inBlock, Exit.then])
  refine bodyPost_ret (v := v) (by rw [hv]; simp [results, Try.results17, go_sem]; done) rfl ?_
  refine ⟨v, rfl, ⟨?_, fits_nought⟩, (below2 ..).trans ((below1 ..).mono (by simp; omega))⟩
  rw [rv_nought, hv]
  have h2 := blk_new (w.alloc (.cells #[.bool false, .slice none 0 0, .slice (some ⟨w.heap.size + 1, 0, none⟩) 1 1] 43)) #[.int .u64 1] 45
  rw [World.size_alloc] at h2
  exact ⟨_, _, _, _, _, _, rfl, RdE.nil .., rd_one (blk_old h2 _), lds_nil, lds_one⟩
theorem rows_any (w : World) : Calls Try.prog 32 #[] w fun e w' => ∃ v, e = .returned v ∧ GridAt w' v 2 3 6 [1, 2, 3, 2, 4, 6] ∧ Below w.heap.size w w' := by
  go_enter Try.func32, Try.ntmps32
  go_wp2_with fail
  obtain ⟨v, hv⟩ : ∃ v, v = Value.agg #[.int .i64 2, .int .i64 3, .slice (some ⟨w.heap.size + 1, 0, none⟩) 6 6] := ⟨_, rfl⟩
  (try simp only [Exit.inBlock, Exit.then])
  refine bodyPost_ret (v := v) (by rw [hv]; simp [results, Try.results32, go_sem]; done) rfl ?_
  refine ⟨v, rfl, ⟨⟨_, _, hv, ?_⟩, fun x hx => ?_, by unfold Z63; decide, by unfold Z63; decide, by decide⟩, below2 ..⟩
  · have h2 := blk_new (w.alloc (.cells #[.int .i64 2, .int .i64 3, .slice (some ⟨w.heap.size + 1, 0, none⟩) 6 6] 24)) #[.int .i64 1, .int .i64 2, .int .i64 3, .int .i64 2, .int .i64 4, .int .i64 6] 2
    rw [World.size_alloc] at h2
    exact rde_blk h2 rfl (Array.getElem?_eq_some_iff.1 h2).1 rfl rfl
  · simp at hx
    unfold Z63
    omega

end Go.Proofs.Ytfepmbpcdfdlhaa
