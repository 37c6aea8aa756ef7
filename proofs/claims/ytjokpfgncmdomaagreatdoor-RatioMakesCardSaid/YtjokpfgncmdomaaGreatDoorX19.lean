import Derived.Test.YtjokpfgncmdomaaGreatDoorX18
set_option linter.unusedSimpArgs false
set_option linter.unusedVariables false
/- girderref02.less: the walk (printed by gen_h8.py) -/
namespace Go.Proofs.YtjokpfgncmdomaaGreatDoor
open Go.RowKit Go.Sort

theorem below_grown {w w' : World} (hb : Below w.heap.size w w') (row : Option Nat) : w.grownBy w' row := ⟨hb.os, hb.tape, hb.output, hb.size, fun k hk _ => hb.block k hk⟩
theorem grown_drewN' (w : World) (n : Nat) (row : Option Nat) : w.grownBy (w.drewN n) row := ⟨rfl, rfl, rfl, Nat.le_refl _, fun _ _ _ => rfl⟩
theorem less_le {P : Nat} {us : List Nat} {t : Nat} (h : P ≤ nv (us.drop t)) : W32 ^ t * P ≤ nv us := by
  have e := nv_split us t
  have h2 := Nat.mul_le_mul_left (W32 ^ t) h
  omega
theorem less_step {xs ps us : List Nat} {t k d d' o p s : Nat} (hI : nv xs + W32 ^ t * nv (ps.take k) = nv us + W32 ^ (t + k) * d) (ho : xs[t + k]? = some o) (hp : ps[k]? = some p) (hs : s % 4294967296 + p + d = o + 4294967296 * d') :
    nv (xs.set (t + k) (s % 4294967296)) + W32 ^ t * nv (ps.take (k + 1)) = nv us + W32 ^ (t + (k + 1)) * d' := by
  have h1 := nv_set (v := s % 4294967296) ho
  rw [nv_take_succ hp, Nat.mul_add, ← Nat.mul_assoc, ← Nat.pow_add]
  have e1 : W32 ^ (t + (k + 1)) * d' = W32 ^ (t + k) * (4294967296 * d') := by rw [← Nat.add_assoc, Nat.pow_succ, Nat.mul_assoc]
  rw [e1]
  have h2 : W32 ^ (t + k) * (s % 4294967296) + W32 ^ (t + k) * p + W32 ^ (t + k) * d = W32 ^ (t + k) * o + W32 ^ (t + k) * (4294967296 * d') := by
    rw [← Nat.mul_add, ← Nat.mul_add, hs, Nat.mul_add]
  omega

/-- what less does: u loses q times v at a place, if it can -/
def LessPost (base g L C t : Nat) (us v : List Nat) (q : Nat) (w : World) (e : Ending) (w' : World) : Prop :=
  ∃ ok : Bool, e = .returned (.bool ok) ∧ w.grownBy w' (some g) ∧
    (ok = true → ∃ xs, w'.ownsRow base 58 1 (.slice (some ⟨g, 0, none⟩) L C) L (xs.flatMap Lc) ∧ xs.length = L ∧ Wds xs ∧ nv xs + W32 ^ t * (q * nv v) = nv us) ∧
    (ok = false → w'.ownsRow base 58 1 (.slice (some ⟨g, 0, none⟩) L C) L (us.flatMap Lc) ∧ nv us < W32 ^ t * (q * nv v))

set_option maxRecDepth 100000 in
set_option maxHeartbeats 16000000 in
theorem less_any (base g L C t l c q : Nat) (B : Option Addr) (us v : List Nat) (w : World) (ho : w.ownsRow base 58 1 (.slice (some ⟨g, 0, none⟩) L C) L (us.flatMap Lc)) (hul : us.length = L) (hu : Wds us) (hv : RdE Lc 1 w (fun b => b < w.heap.size ∧ b ≠ g) B l v) (hvw : Wds v)
    (hq : q < 4294967296) (hL : t + l + 1 ≤ L) (hz : ZeroFrom us (t + l + 1)) (hb1 : l ≤ 50000000000) (hb2 : L ≤ 50000000000) :
    Calls Tryz.prog 174 #[.slice (some ⟨g, 0, none⟩) L C, .int .i64 (t : Int), .slice B l c, .int .u64 (q : Int)] w (LessPost base g L C t us v q w) := by
  have HO := Lib.hid ho
  have HUL := Lib.hid hul
  have HU := Lib.hid hu
  have HV := Lib.hid hv
  have HVW := Lib.hid hvw
  have HZU := Lib.hid hz
  have HGLT : Hid (g < w.heap.size) := Lib.hid (ho.lt g rfl).2
  have hfit : q * nv v < W32 ^ (l + 1) := by
    have h1 := nv_lt hvw
    rw [hv.num] at h1
    rw [Nat.pow_succ, Nat.mul_comm]
    exact Nat.mul_lt_mul'' h1 hq
  have HF := Lib.hid hfit
  clear ho hul hu hv hvw hz hfit
  go_enter Tryz.func174, Tryz.ntmps174
  go_wp2_with fail
  refine (times_any B l c q (l + 1) v _ w HV.out (fun b hb => hb.1) HVW.out (by omega) hq (by omega) (by omega) HF.out).mono ?_
  rintro e w1 ⟨ps, rfl, hop, hpn, hpw, hpv, hbt⟩
  have HOP := Lib.hid hop
  have HPN := Lib.hid hpn
  have HPW := Lib.hid hpw
  have HPV := Lib.hid hpv
  have HB1 := Lib.hid hbt
  have HO1 := Lib.hid (own_below HO.out hbt)
  clear hop hpn hpw hpv hbt
  go_wp2_with fail
  go_loopw [10] (fun iv wr => ∃ t1 : Nat, t1 ≤ l + 1 ∧ (∃ z : Int, iv = .int .i64 z ∧ z = (t1 : Int) - 1) ∧ nv (ps.drop t1) = nv ((us.drop t).drop t1) ∧ Below w1.heap.size w1 wr) (fun iv _ => (intOf iv + 1).toNat)
  case atStart => exact ⟨l + 1, Nat.le_refl _, ⟨_, rfl, by omega⟩, by
    rw [List.drop_of_length_le (by rw [HPN.out]; exact Nat.le_refl _), List.drop_drop]
    exact (nv_zero fun i x hx => by
      rw [List.getElem?_drop] at hx
      exact HZU.out _ _ (by omega) hx).symm, Below.refl _ _⟩
  case round =>
    obtain ⟨t1, ht, ⟨z, rfl, hz⟩, heq, hbw⟩ := hrel
    have HEQ := Lib.hid heq
    have HBW := Lib.hid hbw
    clear heq hbw
    by_cases h0 : t1 = 0
    · subst h0
      obtain rfl : z = -1 := by omega
      have HPL : Hid (nv ps ≤ nv (us.drop t)) := Lib.hid (by have h := HEQ.out; rw [List.drop_zero, List.drop_zero] at h; omega)
      have HOr := Lib.hid (own_below HO1.out HBW.out)
      have HG1 : Hid (w1.grownBy wr (some g)) := Lib.hid (below_grown HBW.out _)
      have HGr : Hid (w.grownBy wr (some g)) := Lib.hid ((below_grown HB1.out _).trans (below_grown HBW.out _))
      clear hz
      go_wp2_with fail
      have HLE : Hid (W32 ^ t * nv ps ≤ nv us) := Lib.hid (less_le HPL.out)
      clear HPL
      go_loopw [11, 12] (fun dv iv wx => ∃ (k d : Nat) (xs : List Nat), k ≤ l + 1 ∧ dv = .int .u64 d ∧ iv = .int .i64 k ∧ d < 2 ∧ xs.length = L ∧ Wds xs ∧ ZeroFrom xs (t + l + 1) ∧ nv xs + W32 ^ t * nv (ps.take k) = nv us + W32 ^ (t + k) * d ∧ wx.ownsRow base 58 1 (.slice (some ⟨g, 0, none⟩) L C) L (xs.flatMap Lc) ∧ w.grownBy wx (some g) ∧ w1.grownBy wx (some g)) (fun _ iv _ => l + 1 - (intOf iv).toNat)
      case atStart => exact ⟨0, 0, us, Nat.zero_le _, rfl, rfl, by decide, HUL.out, HU.out, HZU.out, by simp [nv], (by first | exact HOr.out | exact HOr.out _), (by first | exact HGr.out | exact HGr.out _), (by first | exact HG1.out | exact HG1.out _)⟩
      case round =>
        obtain ⟨k, d, xs, hk, rfl, rfl, hd, hxl, hxw, hxz, hsum, hown, hgr, hg1⟩ := hrel
        have HO := Lib.hid hown
        have HGR := Lib.hid hgr
        have HG1r := Lib.hid hg1
        have HXW := Lib.hid hxw
        have HXZ := Lib.hid hxz
        have HSUM := Lib.hid hsum
        clear hown hgr hg1 hxw hxz hsum
        by_cases hlt : k < l + 1
        · have hle : (k : Int) ≤ (l : Int) := by omega
          obtain ⟨o, ho⟩ := get_some hxl (show t + k < L by omega)
          obtain ⟨p, hp⟩ := get_some HPN.out hlt
          have ol : o < 4294967296 := HXW.out.get ho
          have pl : p < 4294967296 := HPW.out.get hp
          have q0 := own_lc HO.out ho
          have hf := HO.out.frozenAt (t + k)
          have q1 : wr.cell? ⟨w.heap.size, k, none⟩ = some (.int .u64 (p : Int)) := HG1r.out.cell (own_lc HOP.out hp) (by have := HGLT.out; simp; omega)
          have hst : ∃ s d' : Nat, 4294967296 + (o : Int) - p - d = (s : Int) ∧ s < 8589934592 ∧ 1 - (s : Int) / 4294967296 = (d' : Int) ∧ d' < 2 ∧ (s : Int) % 4294967296 = ((s % 4294967296 : Nat) : Int) ∧ s % 4294967296 + p + d = o + 4294967296 * d' :=
            ⟨4294967296 + o - p - d, 1 - (4294967296 + o - p - d) / 4294967296, by omega, by omega, by omega, by omega, by omega, by omega⟩
          obtain ⟨s, d', hs, hsl, hd', hdl, hsm, hse⟩ := hst
          have HOO := Lib.hid ho
          have HPP := Lib.hid hp
          have HSE := Lib.hid hse
          have HSM := Lib.hid hsm
          clear ho hp hse hsm
          go_wp2_with fail
          go_quiet (fail)
          go_wp2_with fail
          (try rw [hs])
          (try rw [HSM.out])
          (try rw [hd'])
          have ho1 := own_set_lc (own_drewN HO.out nq) (i := t + k) (by omega) (s % 4294967296)
          refine ⟨⟨k + 1, d', xs.set (t + k) (s % 4294967296), by omega, rfl, by go_num, hdl, by simp [hxl], wds_set HXW.out (Nat.mod_lt _ (by decide)), HXZ.out.set (by omega), ?_, ho1.1, (HGR.out.trans (grown_drewN' _ nq _)).trans ho1.2, (HG1r.out.trans (grown_drewN' _ nq _)).trans ho1.2⟩, by simp [intOf]; omega⟩
          exact less_step HSUM.out HOO.out HPP.out HSE.out
        · have hk1 : k = l + 1 := by omega
          have hnle : ¬ (k : Int) ≤ (l : Int) := by omega
          have hfin : nv xs + W32 ^ t * (q * nv v) = nv us := by
            have h := HSUM.out
            rw [hk1, List.take_of_length_le (by rw [HPN.out]; exact Nat.le_refl _)] at h
            have h2 := nv_take_lt HXW.out (t + l + 1)
            rw [← HXZ.out.val] at h2
            have h3 := HLE.out
            rw [← HPV.out]
            rw [show t + (l + 1) = t + l + 1 by omega] at h
            have hd0 : d = 0 := by
              by_cases h0 : d = 0
              · exact h0
              · have h4 : W32 ^ (t + l + 1) * 1 ≤ W32 ^ (t + l + 1) * d := Nat.mul_le_mul_left _ (by omega)
                omega
            rw [hd0, Nat.mul_zero, Nat.add_zero] at h
            exact h
          have HFIN := Lib.hid hfin
          clear hfin hk1
          go_wp2_with fail
          go_ret
          refine ⟨true, rfl, HGR.out, ?_, fun h => by cases h⟩
          intro _
          exact ⟨xs, HO.out, hxl, HXW.out, HFIN.out⟩
    · obtain ⟨j, rfl⟩ : ∃ j, t1 = j + 1 := ⟨t1 - 1, by omega⟩
      obtain rfl : z = (j : Int) := by omega
      clear hz
      obtain ⟨p, hp⟩ := get_some HPN.out (show j < l + 1 by omega)
      obtain ⟨o, ho⟩ := get_some HUL.out (show t + j < L by omega)
      have ho2 : (us.drop t)[j]? = some o := by rw [List.getElem?_drop]; exact ho
      have q1 : wr.cell? ⟨w.heap.size, j, none⟩ = some (.int .u64 (p : Int)) := bat HBW.out (own_lc HOP.out hp)
      have q2 : wr.cell? ⟨g, t + j, none⟩ = some (.int .u64 (o : Int)) := bat HBW.out (own_lc HO1.out ho)
      have HP := Lib.hid hp
      have HQ := Lib.hid ho2
      have g1 : (0 : Int) ≤ (j : Int) := by omega
      clear hp ho ho2
      rcases Nat.lt_trichotomy p o with h1 | h1 | h1
      · have d1 : decide ((p : Int) < o) = true := by simp; omega
        have HPL : Hid (nv ps ≤ nv (us.drop t)) := Lib.hid (Nat.le_of_lt (drop_lt HPW.out HP.out HQ.out HEQ.out h1))
        have HBR : Hid (∀ n, Below w1.heap.size w1 (wr.drewN n)) := Lib.hid (fun n => below_drewN HBW.out n)
        have HOr := Lib.hid (fun n => own_below HO1.out (HBR.out n))
        have HG1 : Hid (∀ n, w1.grownBy (wr.drewN n) (some g)) := Lib.hid (fun n => below_grown (HBR.out n) _)
        have HGr : Hid (∀ n, w.grownBy (wr.drewN n) (some g)) := Lib.hid (fun n => (below_grown HB1.out _).trans (below_grown (HBR.out n) _))
        go_wp2_with fail
        go_quiet (fail)
        go_wp2_with fail
        have HLE : Hid (W32 ^ t * nv ps ≤ nv us) := Lib.hid (less_le HPL.out)
        clear HPL
        go_loopw [11, 12] (fun dv iv wx => ∃ (k d : Nat) (xs : List Nat), k ≤ l + 1 ∧ dv = .int .u64 d ∧ iv = .int .i64 k ∧ d < 2 ∧ xs.length = L ∧ Wds xs ∧ ZeroFrom xs (t + l + 1) ∧ nv xs + W32 ^ t * nv (ps.take k) = nv us + W32 ^ (t + k) * d ∧ wx.ownsRow base 58 1 (.slice (some ⟨g, 0, none⟩) L C) L (xs.flatMap Lc) ∧ w.grownBy wx (some g) ∧ w1.grownBy wx (some g)) (fun _ iv _ => l + 1 - (intOf iv).toNat)
        case atStart => exact ⟨0, 0, us, Nat.zero_le _, rfl, rfl, by decide, HUL.out, HU.out, HZU.out, by simp [nv], (by first | exact HOr.out | exact HOr.out _), (by first | exact HGr.out | exact HGr.out _), (by first | exact HG1.out | exact HG1.out _)⟩
        case round =>
          obtain ⟨k, d, xs, hk, rfl, rfl, hd, hxl, hxw, hxz, hsum, hown, hgr, hg1⟩ := hrel
          have HO := Lib.hid hown
          have HGR := Lib.hid hgr
          have HG1r := Lib.hid hg1
          have HXW := Lib.hid hxw
          have HXZ := Lib.hid hxz
          have HSUM := Lib.hid hsum
          clear hown hgr hg1 hxw hxz hsum
          by_cases hlt : k < l + 1
          · have hle : (k : Int) ≤ (l : Int) := by omega
            obtain ⟨o, ho⟩ := get_some hxl (show t + k < L by omega)
            obtain ⟨p, hp⟩ := get_some HPN.out hlt
            have ol : o < 4294967296 := HXW.out.get ho
            have pl : p < 4294967296 := HPW.out.get hp
            have q0 := own_lc HO.out ho
            have hf := HO.out.frozenAt (t + k)
            have q1 : wr.cell? ⟨w.heap.size, k, none⟩ = some (.int .u64 (p : Int)) := HG1r.out.cell (own_lc HOP.out hp) (by have := HGLT.out; simp; omega)
            have hst : ∃ s d' : Nat, 4294967296 + (o : Int) - p - d = (s : Int) ∧ s < 8589934592 ∧ 1 - (s : Int) / 4294967296 = (d' : Int) ∧ d' < 2 ∧ (s : Int) % 4294967296 = ((s % 4294967296 : Nat) : Int) ∧ s % 4294967296 + p + d = o + 4294967296 * d' :=
              ⟨4294967296 + o - p - d, 1 - (4294967296 + o - p - d) / 4294967296, by omega, by omega, by omega, by omega, by omega, by omega⟩
            obtain ⟨s, d', hs, hsl, hd', hdl, hsm, hse⟩ := hst
            have HOO := Lib.hid ho
            have HPP := Lib.hid hp
            have HSE := Lib.hid hse
            have HSM := Lib.hid hsm
            clear ho hp hse hsm
            go_wp2_with fail
            go_quiet (fail)
            go_wp2_with fail
            (try rw [hs])
            (try rw [HSM.out])
            (try rw [hd'])
            have ho1 := own_set_lc (own_drewN HO.out nq) (i := t + k) (by omega) (s % 4294967296)
            refine ⟨⟨k + 1, d', xs.set (t + k) (s % 4294967296), by omega, rfl, by go_num, hdl, by simp [hxl], wds_set HXW.out (Nat.mod_lt _ (by decide)), HXZ.out.set (by omega), ?_, ho1.1, (HGR.out.trans (grown_drewN' _ nq _)).trans ho1.2, (HG1r.out.trans (grown_drewN' _ nq _)).trans ho1.2⟩, by simp [intOf]; omega⟩
            exact less_step HSUM.out HOO.out HPP.out HSE.out
          · have hk1 : k = l + 1 := by omega
            have hnle : ¬ (k : Int) ≤ (l : Int) := by omega
            have hfin : nv xs + W32 ^ t * (q * nv v) = nv us := by
              have h := HSUM.out
              rw [hk1, List.take_of_length_le (by rw [HPN.out]; exact Nat.le_refl _)] at h
              have h2 := nv_take_lt HXW.out (t + l + 1)
              rw [← HXZ.out.val] at h2
              have h3 := HLE.out
              rw [← HPV.out]
              rw [show t + (l + 1) = t + l + 1 by omega] at h
              have hd0 : d = 0 := by
                by_cases h0 : d = 0
                · exact h0
                · have h4 : W32 ^ (t + l + 1) * 1 ≤ W32 ^ (t + l + 1) * d := Nat.mul_le_mul_left _ (by omega)
                  omega
              rw [hd0, Nat.mul_zero, Nat.add_zero] at h
              exact h
            have HFIN := Lib.hid hfin
            clear hfin hk1
            go_wp2_with fail
            go_ret
            refine ⟨true, rfl, HGR.out, ?_, fun h => by cases h⟩
            intro _
            exact ⟨xs, HO.out, hxl, HXW.out, HFIN.out⟩
      · subst h1
        have d1 : decide ((p : Int) < p) = false := by simp
        have HE := Lib.hid (show nv (ps.drop j) = nv ((us.drop t).drop j) by rw [nv_drop_get HP.out, nv_drop_get HQ.out, HEQ.out])
        go_wp2_with fail
        go_quiet (fail)
        go_wp2_with fail
        go_quiet (fail)
        go_wp2_with fail
        go_roundw
        case rel => exact ⟨j, by omega, ⟨_, rfl, by omega⟩, HE.out, by first | exact below_drewN HBW.out _ | exact below_drewN (below_drewN HBW.out _) _⟩
        case measure => simp [intOf]
      · have d1 : decide ((p : Int) < o) = false := by simp; omega
        have d2 : decide ((o : Int) < p) = true := by simp; omega
        have hgt : nv us < W32 ^ t * (q * nv v) := by
          have h2 := drop_lt (HU.out.drop t) HQ.out HP.out HEQ.out.symm h1
          rw [← HPV.out]
          have e := nv_split us t
          have h3 := nv_take_lt HU.out t
          have h4 := Nat.mul_le_mul_left (W32 ^ t) (show nv (us.drop t) + 1 ≤ nv ps from h2)
          rw [Nat.mul_add, Nat.mul_one] at h4
          omega
        have HGT := Lib.hid hgt
        have HBR : Hid (∀ n, Below w1.heap.size w1 (wr.drewN n)) := Lib.hid (fun n => below_drewN HBW.out n)
        clear hgt
        go_wp2_with fail
        go_quiet (fail)
        go_wp2_with fail
        go_quiet (fail)
        go_wp2_with fail
        go_ret
        exact ⟨false, rfl, (below_grown HB1.out _).trans (below_grown (by first | exact HBR.out _ | exact below_drewN (HBR.out _) _) _), (fun h => by cases h), fun _ => ⟨own_below HO1.out (by first | exact HBR.out _ | exact below_drewN (HBR.out _) _), HGT.out⟩⟩

end Go.Proofs.YtjokpfgncmdomaaGreatDoor

/- girderref02.long, NatDiv, NatGcd: the walks -/
namespace Go.Proofs.YtjokpfgncmdomaaGreatDoor
open Go.RowKit Go.Sort

/-- the number that both are made greater by -/
theorem long_scale {Y k yt : Nat} (hl : (dig Y).length = k + 2) (hy : (dig Y)[k + 1]? = some yt) : ∃ s, s = 4294967296 / (yt + 1) ∧ 1 ≤ s ∧ s ≤ 2147483648 ∧ s * Y < W32 ^ (k + 2) ∧ Y ≠ 0 ∧ W32 ^ (k + 1) ≤ Y := by
  have hyl : yt < 4294967296 := (dig_wds Y).get hy
  have hne : dig Y ≠ [] := by intro e; rw [e] at hl; simp at hl
  have hy0 : yt ≠ 0 := by
    have hlast := (dig_isDig Y).2 hne
    have e : (dig Y)[k + 1]? = some ((dig Y).getLast hne) := by
      rw [List.getLast_eq_getElem]
      have h2 := List.getElem?_eq_getElem (l := dig Y) (i := (dig Y).length - 1) (by omega)
      rw [← h2, hl]; rfl
    rw [hy] at e
    injection e with e
    rw [e]; exact hlast
  have hpos := isDig_pos (dig_isDig Y) hne
  rw [nv_dig, hl] at hpos
  have hp : 0 < W32 ^ (k + 1) := w_pos _
  have hY : Y < (yt + 1) * W32 ^ (k + 1) := by
    have h := nv_take_succ hy
    rw [List.take_of_length_le (by omega), nv_dig] at h
    have h2 := nv_take_lt (dig_wds Y) (k + 1)
    rw [h, Nat.add_mul, Nat.one_mul, Nat.mul_comm yt]
    omega
  refine ⟨4294967296 / (yt + 1), rfl, ?_, ?_, ?_, ?_, ?_⟩
  · exact (Nat.le_div_iff_mul_le (by omega)).2 (by omega)
  · exact Nat.le_trans (Nat.div_le_div_left (show 2 ≤ yt + 1 by omega) (by decide)) (by decide)
  · have h1 := Nat.div_mul_le_self 4294967296 (yt + 1)
    generalize 4294967296 / (yt + 1) = s at *
    by_cases hs : s = 0
    · rw [hs, Nat.zero_mul]; exact w_pos _
    · have h2 : s * Y < s * ((yt + 1) * W32 ^ (k + 1)) := Nat.mul_lt_mul_of_pos_left hY (by omega)
      rw [← Nat.mul_assoc] at h2
      have h3 := Nat.mul_le_mul_right (W32 ^ (k + 1)) h1
      have e : W32 ^ (k + 2) = 4294967296 * W32 ^ (k + 1) := by rw [Nat.pow_succ, Nat.mul_comm]
      rw [e]
      exact Nat.lt_of_lt_of_le h2 h3
  · intro e; subst e
    have hz : (k + 1 + 1 : Nat) - 1 = k + 1 := rfl
    rw [show k + 2 - 1 = k + 1 from rfl] at hpos
    omega
  · exact hpos
/-- the guess is not too little -/
theorem long_guess {us vs : List Nat} {j k x0 x1 x2 next top : Nat} (hu : Wds us) (hv : Wds vs) (hvl : vs.length = k + 2) (h0 : us[j + k]? = some x0) (h1 : us[j + k + 1]? = some x1) (h2 : us[j + k + 2]? = some x2) (g0 : vs[k]? = some next) (g1 : vs[k + 1]? = some top) (ht : 0 < top)
    (hlt : nv us < nv vs * W32 ^ (j + 1)) : nv us / (nv vs * W32 ^ j) ≤ min ((x2 * 4294967296 + x1) / top) 4294967295 := by
  have hz : ZeroFrom us (j + k + 3) := by
    apply zeroFrom_of_lt
    have h3 := nv_lt hv
    rw [hvl] at h3
    refine Nat.lt_of_lt_of_le hlt ?_
    rw [show j + k + 3 = (k + 2) + (j + 1) by omega, Nat.pow_add W32 (k + 2) (j + 1)]
    exact Nat.mul_le_mul_right _ (Nat.le_of_lt h3)
  obtain ⟨vl, hev, hvl'⟩ := kn_v (j := j) hv hvl g0 g1
  obtain ⟨ul, heu, hul'⟩ := kn_u hu h0 h1 h2 hz
  have hq := kn_start hev heu hul' (hu.get h0) ht
  have hw := kn_qlt hlt
  have hw2 : nv us / (nv vs * W32 ^ j) ≤ 4294967295 := Nat.le_of_lt_succ hw
  exact Nat.le_min.2 ⟨hq, hw2⟩
theorem long_top {vs : List Nat} {k V top : Nat} (hv : Wds vs) (hl : vs.length = k + 2) (hV : W32 ^ (k + 1) ≤ nv vs) (h : vs[k + 1]? = some top) : 0 < top := by
  by_cases h0 : top = 0
  · subst h0
    have h1 := nv_take_succ h
    rw [List.take_of_length_le (by omega)] at h1
    have h2 := nv_take_lt hv (k + 1)
    omega
  · omega

end Go.Proofs.YtjokpfgncmdomaaGreatDoor

/- girderref02.long: the walk -/
namespace Go.Proofs.YtjokpfgncmdomaaGreatDoor
open Go.RowKit Go.Sort

theorem long_end {s X Y u Q : Nat} (hs : 0 < s) (h : s * X = u + s * Y * Q) (hu : u < s * Y) : X / Y = Q ∧ u / s = X % Y := by
  have hle : Y * Q ≤ X := by
    have : s * (Y * Q) ≤ s * X := by rw [← Nat.mul_assoc]; omega
    exact Nat.le_of_mul_le_mul_left this hs
  obtain ⟨r, hr⟩ : ∃ r, X = Y * Q + r := ⟨X - Y * Q, by omega⟩
  have hur : u = s * r := by
    rw [hr, Nat.mul_add, ← Nat.mul_assoc] at h
    omega
  have hrY : r < Y := by
    rw [hur] at hu
    exact Nat.lt_of_mul_lt_mul_left hu
  constructor
  · rw [hr, Nat.mul_add_div (by omega), Nat.div_eq_of_lt hrY, Nat.add_zero]
  · rw [hur, Nat.mul_div_cancel_left _ hs, hr, Nat.mul_add_mod, Nat.mod_eq_of_lt hrY]
theorem long_keep {sX u xs V Q q W : Nat} (h : sX = u + V * Q) (hx : xs + W * (q * V) = u) : sX = xs + V * (Q + W * q) := by
  rw [h, ← hx, Nat.mul_add]
  have : W * (q * V) = V * (W * q) := by ac_rfl
  omega
theorem long_q {u V W q xs : Nat} (hV : 0 < V) (hW : 0 < W) (hx : xs + W * (q * V) = u) (hq : u / (V * W) ≤ q) : q = u / (V * W) ∧ xs < V * W := by
  have hp : 0 < V * W := Nat.mul_pos hV hW
  have e : W * (q * V) = q * (V * W) := by ac_rfl
  rw [e] at hx
  have h1 : q ≤ u / (V * W) := (Nat.le_div_iff_mul_le hp).2 (by omega)
  have h2 : q = u / (V * W) := by omega
  have h3 := Nat.lt_div_mul_add (a := u) hp
  rw [← h2] at h3
  exact ⟨h2, by omega⟩

set_option maxRecDepth 100000 in
set_option maxHeartbeats 16000000 in
theorem long_any (A B : Option Addr) (n c m d k X Y : Nat) (w : World) (hx : RdE Lc 1 w (fun b => b < w.heap.size) A n (dig X)) (hy : RdE Lc 1 w (fun b => b < w.heap.size) B m (dig Y)) (hm : m = k + 2) (hnm : m ≤ n) (hnb : n ≤ 20000000000) :
    Calls Tryz.prog 155 #[.slice A n c, .slice B m d] w fun e w' => ∃ v1 v2, e = .returned (.tuple #[v1, v2]) ∧ LAt w' v1 (dig (X / Y)) ∧ LAt w' v2 (dig (X % Y)) ∧ Below w.heap.size w w' := by
  obtain ⟨i0, hi0, hz0, hz1, hz2⟩ := info_parts' info_u64
  have HX := Lib.hid hx
  have HY := Lib.hid hy
  have HM := Lib.hid hm
  obtain ⟨yt, hyt⟩ := get_some hy.num (show m - 1 < m by omega)
  obtain ⟨b2, o2, rfl, hSb2, hc2⟩ := hy.elem Lc.clen hyt (by omega)
  have q0 : w.cell? ⟨b2, o2 + (m - 1), none⟩ = some (.int .u64 (yt : Int)) := by have h := hc2 0 _ rfl; rw [Nat.mul_one, Nat.add_zero] at h; exact h
  have hytl : yt < 4294967296 := (dig_wds Y).get hyt
  obtain ⟨s, hs, hs1, hs2, hsY, hY0, hYp⟩ := long_scale (Y := Y) (k := k) (yt := yt) (by rw [← hm]; exact hy.num) (by rw [show k + 1 = m - 1 by omega]; exact hyt)
  have hse : 4294967296 / ((yt : Int) + 1) = (s : Int) := by rw [hs]; exact (Int.natCast_ediv 4294967296 (yt + 1)).symm
  have hyz : (((yt : Int) + 1) == 0) = false := by simp; omega
  have hfX : s * nv (dig X) < W32 ^ (n + 1) := by
    have h1 := nv_lt (dig_wds X)
    rw [hx.num] at h1
    rw [Nat.pow_succ, Nat.mul_comm]
    exact Nat.mul_lt_mul'' h1 (by show s < 4294967296; omega)
  have HFX := Lib.hid hfX
  have HFY : Hid (s * nv (dig Y) < W32 ^ m) := Lib.hid (by rw [nv_dig, hm]; exact hsY)
  have HYP := Lib.hid hYp
  have HY0 := Lib.hid hY0
  obtain ⟨l, hl⟩ : ∃ l, l = n - m + 1 := ⟨_, rfl⟩
  have hle : (n : Int) - (m : Int) + 1 = (l : Int) := by omega
  have HL : Hid (n + 1 = m + l) := Lib.hid (by omega)
  have hm2 : 2 ≤ m := by omega
  clear hx hy hc2 hyt hs hsY hY0 hYp hfX hl hm
  go_enter Tryz.func155, Tryz.ntmps155
  go_wp2_with fail
  refine (times_any A n c s (n + 1) (dig X) _ w HX.out (fun b hb => hb) (dig_wds X) (by omega) (by omega) (by omega) (by omega) HFX.out).mono ?_
  rintro e w1 ⟨us0, rfl, hou, hun, huw, huv, hb1⟩
  rw [nv_dig] at huv
  have HOU := Lib.hid hou
  have HUN := Lib.hid hun
  have HUW := Lib.hid huw
  have HUV := Lib.hid huv
  have HB1 := Lib.hid hb1
  have hg1 : w.heap.size < w1.heap.size := (hou.lt _ rfl).2
  have HY1 := Lib.hid ((HY.out.keep (Keeps.below hb1 (fun b hb => hb))).imp (S' := fun b => b < w1.heap.size) fun b hb => Nat.lt_of_lt_of_le hb hb1.size)
  clear hou hun huw huv hb1 q0
  go_wp2_with fail
  refine (times_any _ m d s m (dig Y) _ w1 HY1.out (fun b hb => hb) (dig_wds Y) (by omega) (by omega) (by omega) (by omega) HFY.out).mono ?_
  rintro e w2 ⟨vs, rfl, hov, hvn, hvw, hvv, hb2⟩
  rw [nv_dig] at hvv
  have hg2 : w1.heap.size < w2.heap.size := (hov.lt _ rfl).2
  have HOU2 := Lib.hid (own_below HOU.out hb2)
  have HOV := Lib.hid hov
  have HVN := Lib.hid hvn
  have HVW := Lib.hid hvw
  have HVV := Lib.hid hvv
  have HB2 := Lib.hid (HB1.out.trans (hb2.mono HB1.out.size))
  clear hov hvn hvw hvv hb2 HOU HY1
  go_wp2_with (at_make; go_must (refine wpList_make_full _ rfl _ _ _ rfl w2.heap.size 58 i0 _ 1 Tryz.underlying22 hi0 hz0 hz1 .i64 .i64 _ _ l (by first | rfl | rw [hle]) (by first | rfl | rw [hle]) (by omega) (by omega) (by rw [hz2]; omega) (by simp only [maxLen]; omega) (Nat.le_refl _) ?_); intro w3 hown3 hg3)
  have hb3 := below_of_grown hg3 (fun g hg => by cases hg)
  have hinv := hown3
  rw [made_u64] at hinv
  have HOQ := Lib.hid hinv
  have HOU3 := Lib.hid (own_below HOU2.out hb3)
  have HOV3 := Lib.hid (own_below HOV.out hb3)
  have HB3 := Lib.hid (HB2.out.trans (hb3.mono HB2.out.size))
  clear hown3 hg3 hinv hb3 HOU2 HOV
  have HV0 : Hid (0 < nv vs) := Lib.hid (by rw [HVV.out]; exact Nat.mul_pos (by omega) (Nat.pos_of_ne_zero HY0.out))
  go_loopw [10] (fun iv wr => ∃ (t : Nat) (us qs : List Nat), t ≤ l ∧ (∃ z : Int, iv = .int .i64 z ∧ z = (t : Int) - 1) ∧ us.length = n + 1 ∧ Wds us ∧ qs.length = l ∧ Wds qs ∧ s * X = nv us + nv vs * nv qs ∧ nv us < nv vs * W32 ^ t ∧ ZeroTo qs t ∧
    wr.ownsRow w.heap.size 58 1 (.slice (some ⟨w.heap.size, 0, none⟩) (n + 1) (n + 1)) (n + 1) (us.flatMap Lc) ∧ wr.ownsRow w2.heap.size 58 1 (.slice (some ⟨w2.heap.size, 0, none⟩) l l) l (qs.flatMap Lc) ∧ wr.ownsRow w1.heap.size 58 1 (.slice (some ⟨w1.heap.size, 0, none⟩) m m) m (vs.flatMap Lc) ∧ Below w.heap.size w wr) (fun iv _ => (intOf iv + 1).toNat)
  case atStart =>
    refine ⟨l, us0, List.replicate l 0, Nat.le_refl _, ⟨_, rfl, by omega⟩, HUN.out, HUW.out, by simp, fun x hx => by rw [(List.mem_replicate.1 hx).2]; decide, ?_, ?_, zeroTo_rep _ _, HOU3.out, HOQ.out, HOV3.out, HB3.out⟩
    · rw [(zero_rep l 0).val, HUV.out]; simp [nv]
    · rw [HUV.out, HVV.out, Nat.mul_assoc]
      refine Nat.mul_lt_mul_of_pos_left ?_ (by omega)
      have h1 := nv_lt (dig_wds X)
      rw [nv_dig, HX.out.num] at h1
      refine Nat.lt_of_lt_of_le h1 ?_
      have h2 := Nat.mul_le_mul_right (W32 ^ l) HYP.out
      rw [← Nat.pow_add] at h2
      have h3 := HL.out
      have h4 := HM.out
      rw [show k + 1 + l = n by omega] at h2
      exact h2
  case round =>
    obtain ⟨t, us, qs, ht, ⟨z, rfl, hz⟩, hul, huw, hql, hqw, hsum, hlt, hzt, hou, hoq, hov, hbw⟩ := hrel
    have HOU4 := Lib.hid hou
    have HOQ4 := Lib.hid hoq
    have HOV4 := Lib.hid hov
    have HBW := Lib.hid hbw
    have HUL := Lib.hid hul
    have HUW4 := Lib.hid huw
    have HQL := Lib.hid hql
    have HQW := Lib.hid hqw
    have HSUM := Lib.hid hsum
    have HLT := Lib.hid hlt
    have HZT := Lib.hid hzt
    clear hou hoq hov hbw hul huw hql hqw hsum hlt hzt HOU3 HOQ HOV3
    by_cases h0 : t = 0
    · subst h0
      obtain rfl : z = -1 := by omega
      have hen := long_end (s := s) (X := X) (Y := Y) (u := nv us) (Q := nv qs) (by omega) (by rw [← HVV.out]; exact HSUM.out) (by have h := HLT.out; rw [Nat.pow_zero, Nat.mul_one, HVV.out] at h; exact h)
      have E1 := Lib.hid hen.1
      have E2 := Lib.hid hen.2
      have hru := (RdE.of_own Lc.clen (by omega) HOU4.out).imp (S' := fun b => b < wr.heap.size) (fun b h => h.2.1)
      have HRU := Lib.hid hru
      clear hz hen hru
      go_wp2_with fail
      refine (low_any _ (n + 1) (n + 1) us wr HRU.out (wds_lds HUW4.out) (by omega) (Nat.le_refl _)).mono ?_
      rintro e w9 ⟨k1, rfl, hk1, htr, rfl⟩
      have htk := trim_dig (by rw [HUL.out]; exact hk1) HUW4.out htr
      have hr9 := HRU.out.take Lc.clen hk1
      rw [htk] at hr9
      have HR9 := Lib.hid hr9
      clear hr9 htk htr
      go_wp2_with fail
      refine (short_any _ k1 (n + 1) s (dig (nv us)) wr HR9.out (dig_wds _) (by omega) (by omega) (by omega)).mono ?_
      rintro e w10 ⟨v2, rfl, hv2, hb10⟩
      rw [nv_dig, E2.out] at hv2
      rw [nv_dig]
      have HV2 := Lib.hid hv2
      have HB10 := Lib.hid (HBW.out.trans (hb10.mono HBW.out.size))
      have hrq := (RdE.of_own Lc.clen (by omega) (own_below HOQ4.out hb10)).imp (S' := fun b => b < w10.heap.size) (fun b h => h.2.1)
      have HRQ := Lib.hid hrq
      clear hv2 hb10 hrq
      go_wp2_with fail
      refine (low_any _ l l qs w10 HRQ.out (wds_lds HQW.out) (by omega) (Nat.le_refl _)).mono ?_
      rintro e w11 ⟨k2, rfl, hk2, htr, rfl⟩
      have htk := trim_dig (by rw [HQL.out]; exact hk2) HQW.out htr
      have hr9 := HRQ.out.take Lc.clen hk2
      rw [htk, ← E1.out] at hr9
      have hk3 : k2 = (dig (X / Y)).length := by rw [E1.out, ← htk, List.length_take, HQL.out]; omega
      have HR11 := Lib.hid hr9
      have HK3 := Lib.hid hk3
      clear hr9 htk htr hk3
      go_wp2_with fail
      go_ret2
      refine ⟨.slice (some ⟨w2.heap.size, 0, none⟩) k2 l, v2, rfl, ⟨some ⟨w2.heap.size, 0, none⟩, l, ?_, ?_, ?_⟩, HV2.out, HB10.out⟩
      · rw [← HK3.out]
      · rw [← HK3.out]; exact hk2
      · rw [← HK3.out]; exact HR11.out
    · obtain ⟨j, rfl⟩ : ∃ j, t = j + 1 := ⟨t - 1, by omega⟩
      obtain rfl : z = (j : Int) := by omega
      clear hz
      have hmk := HM.out
      have hnl := HL.out
      obtain ⟨x0, hx0⟩ := get_some HUL.out (show j + k < n + 1 by omega)
      obtain ⟨x1, hx1⟩ := get_some HUL.out (show j + k + 1 < n + 1 by omega)
      obtain ⟨x2, hx2⟩ := get_some HUL.out (show j + k + 2 < n + 1 by omega)
      obtain ⟨next, hnx⟩ := get_some HVN.out (show k < m by omega)
      obtain ⟨top, htp⟩ := get_some HVN.out (show k + 1 < m by omega)
      have x1l : x1 < 4294967296 := HUW4.out.get hx1
      have x2l : x2 < 4294967296 := HUW4.out.get hx2
      have htop0 : 0 < top := long_top HVW.out (by rw [HVN.out, hmk]) (by rw [HVV.out]; exact Nat.le_trans HYP.out (Nat.le_mul_of_pos_left Y (by omega))) htp (V := 0)
      have htl : top < 4294967296 := HVW.out.get htp
      have hgs := long_guess HUW4.out HVW.out (by rw [HVN.out, hmk]) hx0 hx1 hx2 hnx htp htop0 HLT.out
      have q1 : wr.cell? ⟨w.heap.size, j + m, none⟩ = some (.int .u64 (x2 : Int)) := by rw [show j + m = j + k + 2 by omega]; exact own_lc HOU4.out hx2
      have q2 : wr.cell? ⟨w.heap.size, j + m - 1, none⟩ = some (.int .u64 (x1 : Int)) := by rw [show j + m - 1 = j + k + 1 by omega]; exact own_lc HOU4.out hx1
      have q3 : wr.cell? ⟨w1.heap.size, m - 1, none⟩ = some (.int .u64 (top : Int)) := by rw [show m - 1 = k + 1 by omega]; exact own_lc HOV4.out htp
      obtain ⟨hh, hhe⟩ : ∃ hh : Nat, hh = x2 * 4294967296 + x1 := ⟨_, rfl⟩
      have hhi : (x2 : Int) * 4294967296 + (x1 : Int) = (hh : Int) := by omega
      have hhl : hh < 18446744073709551616 := by omega
      rw [← hhe] at hgs
      obtain ⟨g0, hg0⟩ : ∃ g0, g0 = hh / top := ⟨_, rfl⟩
      have hgi : (hh : Int) / (top : Int) = (g0 : Int) := by rw [hg0]; exact (Int.natCast_ediv hh top).symm
      have hgl : g0 < 18446744073709551616 := by rw [hg0]; exact Nat.lt_of_le_of_lt (Nat.div_le_self _ _) hhl
      rw [← hg0] at hgs
      have htz : ((top : Int) == 0) = false := by simp; omega
      obtain ⟨Q, hQ⟩ : ∃ Q, Q = nv us / (nv vs * W32 ^ j) := ⟨_, rfl⟩
      rw [← hQ] at hgs
      obtain ⟨g, hg⟩ : ∃ g, g = min g0 4294967295 := ⟨_, rfl⟩
      rw [← hg] at hgs
      have hgm : min (g0 : Int) 4294967295 = (g : Int) := by omega
      have hgb : g ≤ 4294967295 := by omega
      have HG := Lib.hid hgs
      have HQ := Lib.hid hQ
      have hjm : j + m < n + 1 := by omega
      have hjl : j < l := by omega
      clear hx0 hx1 hx2 hnx htp hhe hg0 hgs hQ hg hmk hnl
      have HZF : Hid (ZeroFrom us (j + m + 1)) := Lib.hid (by
        apply zeroFrom_of_lt
        have h1 := HLT.out
        have h2 := nv_lt HVW.out
        rw [HVN.out] at h2
        refine Nat.lt_of_lt_of_le h1 ?_
        rw [show j + m + 1 = m + (j + 1) by omega, Nat.pow_add W32 m (j + 1)]
        exact Nat.mul_le_mul_right _ (Nat.le_of_lt h2))
      go_wp2_with fail
      go_quiet (fail)
      go_wp2_with fail
      · go_loopw [12] (fun qv wx => ∃ q : Nat, qv = .int .u64 q ∧ Q ≤ q ∧ q ≤ 4294967295 ∧
          wx.ownsRow w.heap.size 58 1 (.slice (some ⟨w.heap.size, 0, none⟩) (n + 1) (n + 1)) (n + 1) (us.flatMap Lc) ∧ wx.ownsRow w2.heap.size 58 1 (.slice (some ⟨w2.heap.size, 0, none⟩) l l) l (qs.flatMap Lc) ∧ wx.ownsRow w1.heap.size 58 1 (.slice (some ⟨w1.heap.size, 0, none⟩) m m) m (vs.flatMap Lc) ∧ Below w.heap.size w wx) (fun qv _ => (intOf qv).toNat)
        case atStart => exact ⟨4294967295, rfl, by have := HG.out; omega, by omega, own_drewN HOU4.out _, own_drewN HOQ4.out _, own_drewN HOV4.out _, below_drewN HBW.out _⟩
        case round =>
          obtain ⟨q, rfl, hqQ, hqb, hou, hoq, hov, hbw⟩ := hrel
          have HOU5 := Lib.hid hou
          have HOQ5 := Lib.hid hoq
          have HOV5 := Lib.hid hov
          have HBW5 := Lib.hid hbw
          have hs1 := (hou.lt w.heap.size rfl).2
          have hs3 := (hov.lt w1.heap.size rfl).2
          have hs4 := (hoq.lt w2.heap.size rfl).2
          have hrv := (RdE.of_own Lc.clen (by omega) hov).imp (S' := fun b => b < wr.heap.size ∧ b ≠ w.heap.size) (fun b h => ⟨h.2.1, by have := h.1; omega⟩)
          have HRV := Lib.hid hrv
          clear hou hoq hov hbw hrv
          go_wp2_with fail
          refine (less_any w.heap.size w.heap.size (n + 1) (n + 1) j m m q _ us vs wr HOU5.out HUL.out HUW4.out HRV.out HVW.out (by omega) (by omega) HZF.out (by omega) (by omega)).mono ?_
          rintro e w6 ⟨ok, rfl, hgr, hyes, hno⟩
          have HQ6 := Lib.hid (HOQ5.out.kept hgr (.inr (by simp [Value.ownBlock]; omega)))
          have HV6 := Lib.hid (HOV5.out.kept hgr (.inr (by simp [Value.ownBlock]; omega)))
          have HB6 := Lib.hid (HBW5.out.grown hgr HBW5.out.size (fun g hg => by injection hg with hg; omega))
          have hs5 := hgr.size
          cases ok
          · obtain ⟨hou6, hlt6⟩ := hno rfl
            have HU6 := Lib.hid hou6
            have hq1 : Q < q := by
              have hp : 0 < nv vs * W32 ^ j := Nat.mul_pos HV0.out (w_pos j)
              rw [HQ.out]
              refine (Nat.div_lt_iff_lt_mul hp).2 ?_
              rw [show q * (nv vs * W32 ^ j) = W32 ^ j * (q * nv vs) by ac_rfl]
              exact hlt6
            clear hgr hyes hno hou6 hlt6
            go_wp2_with fail
            refine ⟨⟨q - 1, ?_, by omega, by omega, HU6.out, HQ6.out, HV6.out, HB6.out⟩, by simp [intOf]; omega⟩
            exact u64_pred (by omega)
          · obtain ⟨xs, hou6, hxl, hxw, hxv⟩ := hyes rfl
            have hqq := long_q HV0.out (w_pos j) hxv (by rw [← HQ.out]; exact hqQ)
            have hsum6 := long_keep (q := q) HSUM.out hxv
            obtain ⟨o, ho⟩ := get_some HQL.out (show j < l by omega)
            obtain rfl : o = 0 := HZT.out _ _ (by omega) ho
            have q9 := own_lc HQ6.out ho
            have hf9 := HQ6.out.frozenAt j
            have HU6 := Lib.hid hou6
            have HXL := Lib.hid hxl
            have HXW := Lib.hid hxw
            have HQQ := Lib.hid hqq.2
            have HS6 := Lib.hid hsum6
            have HO9 := Lib.hid ho
            clear hgr hyes hno hou6 hxl hxw hxv hqq hsum6 ho
            go_wp2_with fail
            have ho1 := own_set_lc HQ6.out (i := j) (by rw [HQL.out]; exact hjl) q
            refine ⟨⟨j, xs, qs.set j q, by omega, ⟨_, rfl, rfl⟩, HXL.out, HXW.out, by rw [List.length_set]; exact HQL.out, wds_set HQW.out (by show q < 4294967296; omega), ?_, HQQ.out, (HZT.out.mono (by omega)).set (Nat.le_refl _), HU6.out.kept ho1.2 (.inr (by simp [Value.ownBlock]; omega)), ho1.1, HV6.out.kept ho1.2 (.inr (by simp [Value.ownBlock]; omega)), HB6.out.grown ho1.2 HB6.out.size (fun g hg => by injection hg with hg; omega)⟩, by simp [intOf]⟩
            rw [HS6.out]
            have h1 := nv_set (v := q) HO9.out
            rw [Nat.mul_zero, Nat.add_zero] at h1
            rw [h1]
      · go_loopw [12] (fun qv wx => ∃ q : Nat, qv = .int .u64 q ∧ Q ≤ q ∧ q ≤ 4294967295 ∧
          wx.ownsRow w.heap.size 58 1 (.slice (some ⟨w.heap.size, 0, none⟩) (n + 1) (n + 1)) (n + 1) (us.flatMap Lc) ∧ wx.ownsRow w2.heap.size 58 1 (.slice (some ⟨w2.heap.size, 0, none⟩) l l) l (qs.flatMap Lc) ∧ wx.ownsRow w1.heap.size 58 1 (.slice (some ⟨w1.heap.size, 0, none⟩) m m) m (vs.flatMap Lc) ∧ Below w.heap.size w wx) (fun qv _ => (intOf qv).toNat)
        case atStart => exact ⟨g0, rfl, by have := HG.out; omega, by omega, own_drewN HOU4.out _, own_drewN HOQ4.out _, own_drewN HOV4.out _, below_drewN HBW.out _⟩
        case round =>
          obtain ⟨q, rfl, hqQ, hqb, hou, hoq, hov, hbw⟩ := hrel
          have HOU5 := Lib.hid hou
          have HOQ5 := Lib.hid hoq
          have HOV5 := Lib.hid hov
          have HBW5 := Lib.hid hbw
          have hs1 := (hou.lt w.heap.size rfl).2
          have hs3 := (hov.lt w1.heap.size rfl).2
          have hs4 := (hoq.lt w2.heap.size rfl).2
          have hrv := (RdE.of_own Lc.clen (by omega) hov).imp (S' := fun b => b < wr.heap.size ∧ b ≠ w.heap.size) (fun b h => ⟨h.2.1, by have := h.1; omega⟩)
          have HRV := Lib.hid hrv
          clear hou hoq hov hbw hrv
          go_wp2_with fail
          refine (less_any w.heap.size w.heap.size (n + 1) (n + 1) j m m q _ us vs wr HOU5.out HUL.out HUW4.out HRV.out HVW.out (by omega) (by omega) HZF.out (by omega) (by omega)).mono ?_
          rintro e w6 ⟨ok, rfl, hgr, hyes, hno⟩
          have HQ6 := Lib.hid (HOQ5.out.kept hgr (.inr (by simp [Value.ownBlock]; omega)))
          have HV6 := Lib.hid (HOV5.out.kept hgr (.inr (by simp [Value.ownBlock]; omega)))
          have HB6 := Lib.hid (HBW5.out.grown hgr HBW5.out.size (fun g hg => by injection hg with hg; omega))
          have hs5 := hgr.size
          cases ok
          · obtain ⟨hou6, hlt6⟩ := hno rfl
            have HU6 := Lib.hid hou6
            have hq1 : Q < q := by
              have hp : 0 < nv vs * W32 ^ j := Nat.mul_pos HV0.out (w_pos j)
              rw [HQ.out]
              refine (Nat.div_lt_iff_lt_mul hp).2 ?_
              rw [show q * (nv vs * W32 ^ j) = W32 ^ j * (q * nv vs) by ac_rfl]
              exact hlt6
            clear hgr hyes hno hou6 hlt6
            go_wp2_with fail
            refine ⟨⟨q - 1, ?_, by omega, by omega, HU6.out, HQ6.out, HV6.out, HB6.out⟩, by simp [intOf]; omega⟩
            exact u64_pred (by omega)
          · obtain ⟨xs, hou6, hxl, hxw, hxv⟩ := hyes rfl
            have hqq := long_q HV0.out (w_pos j) hxv (by rw [← HQ.out]; exact hqQ)
            have hsum6 := long_keep (q := q) HSUM.out hxv
            obtain ⟨o, ho⟩ := get_some HQL.out (show j < l by omega)
            obtain rfl : o = 0 := HZT.out _ _ (by omega) ho
            have q9 := own_lc HQ6.out ho
            have hf9 := HQ6.out.frozenAt j
            have HU6 := Lib.hid hou6
            have HXL := Lib.hid hxl
            have HXW := Lib.hid hxw
            have HQQ := Lib.hid hqq.2
            have HS6 := Lib.hid hsum6
            have HO9 := Lib.hid ho
            clear hgr hyes hno hou6 hxl hxw hxv hqq hsum6 ho
            go_wp2_with fail
            have ho1 := own_set_lc HQ6.out (i := j) (by rw [HQL.out]; exact hjl) q
            refine ⟨⟨j, xs, qs.set j q, by omega, ⟨_, rfl, rfl⟩, HXL.out, HXW.out, by rw [List.length_set]; exact HQL.out, wds_set HQW.out (by show q < 4294967296; omega), ?_, HQQ.out, (HZT.out.mono (by omega)).set (Nat.le_refl _), HU6.out.kept ho1.2 (.inr (by simp [Value.ownBlock]; omega)), ho1.1, HV6.out.kept ho1.2 (.inr (by simp [Value.ownBlock]; omega)), HB6.out.grown ho1.2 HB6.out.size (fun g hg => by injection hg with hg; omega)⟩, by simp [intOf]⟩
            rw [HS6.out]
            have h1 := nv_set (v := q) HO9.out
            rw [Nat.mul_zero, Nat.add_zero] at h1
            rw [h1]

end Go.Proofs.YtjokpfgncmdomaaGreatDoor

/- girderref02: NatDiv, NatGcd: the walks -/
namespace Go.Proofs.YtjokpfgncmdomaaGreatDoor
open Go.RowKit Go.Sort

theorem LAt.parts {w : World} {v : Value} {xs : List Nat} (h : LAt w v xs) : ∃ A n c, v = .slice A n c ∧ n = xs.length ∧ n ≤ c ∧ RdE Lc 1 w (fun b => b < w.heap.size) A n xs := by
  obtain ⟨A, c, e, hc, hr⟩ := h
  exact ⟨A, _, c, e, rfl, hc, hr⟩
theorem dig_lt_div {X Y : Nat} (h : (dig X).length < (dig Y).length) : X / Y = 0 ∧ X % Y = X := by
  have := dig_lt h
  exact ⟨Nat.div_eq_of_lt this, Nat.mod_eq_of_lt this⟩
theorem dig_one_get {Y y : Nat} (h : (dig Y).length = 1) (hy : (dig Y)[0]? = some y) : y = Y := by
  have e : dig Y = [y] := by
    cases hd : dig Y with
    | nil => rw [hd] at h; simp at h
    | cons a r =>
      rw [hd] at h hy
      simp at h hy
      rw [hy, h]
  have h2 := nv_dig Y
  rw [e] at h2
  simpa [nv] using h2

set_option maxRecDepth 100000 in
set_option maxHeartbeats 8000000 in
theorem natDiv_any (va vb : Value) (a b : List Nat) (w : World) (ha : LAt w va a) (hb : LAt w vb b) (la : Lds a) (lb_ : Lds b) (na : a.length ≤ 10000000000) (nb : b.length ≤ 10000000000) (h0 : ln b ≠ 0) :
    Calls Tryz.prog 118 #[va, vb] w fun e w' => ∃ v1 v2, e = .returned (.tuple #[v1, v2]) ∧ LAt w' v1 (lim (ln a / ln b)) ∧ LAt w' v2 (lim (ln a % ln b)) ∧ Below w.heap.size w w' := by
  have HA := Lib.hid ha
  have HB := Lib.hid hb
  have LA := Lib.hid la
  have LB := Lib.hid lb_
  have H0 := Lib.hid h0
  clear ha hb la lb_ h0
  go_enter Tryz.func118, Tryz.ntmps118
  go_wp2_with fail
  refine (halves_any va a w HA.out LA.out (by omega)).mono ?_
  rintro e w1 ⟨v1, rfl, hv1, hb1⟩
  have HV1 := Lib.hid hv1
  have HBb := Lib.hid (HB.out.below hb1)
  have HAa := Lib.hid (HA.out.below hb1)
  have HW1 := Lib.hid hb1
  clear hv1 hb1
  go_wp2_with fail
  refine (halves_any vb b w1 HBb.out LB.out (by omega)).mono ?_
  rintro e w2 ⟨v2, rfl, hv2, hb2⟩
  have hx1 := HV1.out.below hb2
  have HAa2 := Lib.hid (HAa.out.below hb2)
  have HW2 := Lib.hid (HW1.out.trans (hb2.mono HW1.out.size))
  obtain ⟨X, hX⟩ : ∃ x, x = ln a := ⟨_, rfl⟩
  obtain ⟨Y, hY⟩ : ∃ y, y = ln b := ⟨_, rfl⟩
  have h1b := dig_len2 LA.out
  have h2b := dig_len2 LB.out
  rw [← hX] at hx1 h1b
  rw [← hY] at hv2 h2b
  obtain ⟨A1, n, c1, rfl, hn, hc1, hx1⟩ := hx1.parts
  obtain ⟨A2, m, c2, rfl, hm, hc2, hx2⟩ := hv2.parts
  have hnl : n ≤ 20000000000 := by omega
  have hml : m ≤ 20000000000 := by omega
  have HX := Lib.hid hx1
  have HY := Lib.hid hx2
  have XV := Lib.hid hX
  have YV := Lib.hid hY
  have HN := Lib.hid hn
  have HM := Lib.hid hm
  clear hb2 hx1 hx2 HBb hX hY hn hm HV1 h1b h2b HAa
  have hY0 : Y ≠ 0 := by rw [YV.out]; exact H0.out
  have hm0 : m ≠ 0 := fun e => hY0 (dig_len_zero.1 (by rw [← HM.out]; exact e))
  by_cases h1 : n < m
  · have hd := dig_lt_div (X := X) (Y := Y) (by rw [← HN.out, ← HM.out]; exact h1)
    have HD := Lib.hid hd
    clear hd
    go_wp2_with fail
    refine (natTrim_any va a w2 HAa2.out LA.out (by omega)).mono ?_
    rintro e w3 ⟨v3, rfl, hv3, hb3⟩
    have HV3 := Lib.hid hv3
    have HB3 := Lib.hid (HW2.out.trans (hb3.mono HW2.out.size))
    clear hv3 hb3
    go_wp2_with fail
    go_ret2
    refine ⟨.slice none 0 0, v3, rfl, ?_, ?_, HB3.out⟩
    · rw [← XV.out, ← YV.out, HD.out.1]; exact LAt.nil ..
    · rw [← YV.out, ← XV.out, HD.out.2, XV.out]; exact HV3.out
  · by_cases h2 : m = 1
    · have e0 : ((m : Int) == 1) = true := by simp [h2]
      obtain ⟨y, hy⟩ := get_some HY.out.num (show 0 < m by omega)
      obtain ⟨b1, o1, rfl, hSb, hc⟩ := HY.out.elem Lc.clen hy (by omega)
      have q0 : w2.cell? ⟨b1, o1, none⟩ = some (.int .u64 (y : Int)) := by have h := hc 0 _ rfl; simpa using h
      have hyY := dig_one_get (by rw [← HM.out]; exact h2) hy
      have hyl : y < 4294967296 := (dig_wds Y).get hy
      have HYY := Lib.hid hyY
      have hy0 : 0 < y := by omega
      clear hy hc hyY h2
      go_wp2_with fail
      refine (short_any _ n c1 y (dig X) w2 HX.out (dig_wds _) (by omega) (by omega) (by omega)).mono ?_
      rintro e w3 ⟨v3, rfl, hv3, hb3⟩
      rw [nv_dig] at hv3 ⊢
      obtain ⟨R, hR⟩ : ∃ R, R = X % y := ⟨_, rfl⟩
      rw [← hR]
      have hRl : R < 18446744073709551616 := by rw [hR]; have := Nat.mod_lt X hy0; omega
      have HV3 := Lib.hid hv3
      have HR := Lib.hid hR
      have HB3 := Lib.hid (HW2.out.trans (hb3.mono HW2.out.size))
      have hdl : (dig (X / y)).length ≤ 100000000000 := Nat.le_trans (dig_len_mono (Nat.div_le_self _ _)) (by rw [← HN.out]; omega)
      obtain ⟨A3, n3, c3, rfl, -, -, -⟩ := hv3.parts
      clear hv3 hb3 hR
      go_wp2_with fail
      refine (limbs_any _ _ w3 HV3.out (dig_wds _) hdl).mono ?_
      rintro e w4 ⟨v4, rfl, hv4, hb4⟩
      rw [nv_dig] at hv4
      have HV4 := Lib.hid hv4
      have HB4 := Lib.hid (HB3.out.trans (hb4.mono HB3.out.size))
      clear hv4 hb4
      go_wp2_with fail
      refine (natOf_any R w4 hRl).mono ?_
      rintro e w5 ⟨v5, rfl, hv5, hb5⟩
      have HV5 := Lib.hid hv5
      have HV4b := Lib.hid (HV4.out.below hb5)
      have HB5 := Lib.hid (HB4.out.trans (hb5.mono HB4.out.size))
      clear hv5 hb5
      go_wp2_with fail
      go_ret2
      refine ⟨v4, v5, rfl, ?_, ?_, HB5.out⟩
      · rw [← XV.out, ← YV.out, ← HYY.out]; exact HV4b.out
      · rw [← XV.out, ← YV.out, ← HYY.out, ← HR.out]; exact HV5.out
    · have e0 : ((m : Int) == 1) = false := by simp; omega
      have hm2 : 2 ≤ m := by omega
      clear h2
      go_wp2_with fail
      refine (long_any A1 A2 n c1 m c2 (m - 2) X Y w2 HX.out HY.out (by omega) (by omega) (by omega)).mono ?_
      rintro e w3 ⟨v3, v4, rfl, hv3, hv4, hb3⟩
      have HV3 := Lib.hid hv3
      have HV4 := Lib.hid hv4
      have HB3 := Lib.hid (HW2.out.trans (hb3.mono HW2.out.size))
      have hdl : (dig (X / Y)).length ≤ 100000000000 := Nat.le_trans (dig_len_mono (Nat.div_le_self _ _)) (by rw [← HN.out]; omega)
      have hdl2 : (dig (X % Y)).length ≤ 100000000000 := Nat.le_trans (dig_len_mono (Nat.mod_le _ _)) (by rw [← HN.out]; omega)
      obtain ⟨A3, n3, c3, rfl, -, -, -⟩ := hv3.parts
      obtain ⟨A4, n4, c4, rfl, -, -, -⟩ := hv4.parts
      clear hv3 hv4 hb3
      go_wp2_with fail
      refine (limbs_any _ _ w3 HV3.out (dig_wds _) hdl).mono ?_
      rintro e w4 ⟨v5, rfl, hv5, hb4⟩
      rw [nv_dig] at hv5
      have HV5 := Lib.hid hv5
      have HV4b := Lib.hid (HV4.out.below hb4)
      have HB4 := Lib.hid (HB3.out.trans (hb4.mono HB3.out.size))
      clear hv5 hb4
      go_wp2_with fail
      refine (limbs_any _ _ w4 HV4b.out (dig_wds _) hdl2).mono ?_
      rintro e w5 ⟨v6, rfl, hv6, hb5⟩
      rw [nv_dig] at hv6
      have HV6 := Lib.hid hv6
      have HV5b := Lib.hid (HV5.out.below hb5)
      have HB5 := Lib.hid (HB4.out.trans (hb5.mono HB4.out.size))
      clear hv6 hb5
      go_wp2_with fail
      go_ret2
      refine ⟨v5, v6, rfl, ?_, ?_, HB5.out⟩
      · rw [← XV.out, ← YV.out]; exact HV5b.out
      · rw [← XV.out, ← YV.out]; exact HV6.out

/-- the number whose limbs a list reads (for a loop's measure) -/
noncomputable def lmu (w : World) (v : Value) : Nat := open Classical in
  if h : ∃ Y, LAt w v (lim Y) then Classical.choose h else 0
theorem LAt.unique {w : World} {v : Value} {xs ys : List Nat} (h : LAt w v xs) (h' : LAt w v ys) : xs = ys := by
  obtain ⟨A, c, rfl, hc, hr⟩ := h
  obtain ⟨A', c', e, hc', hr'⟩ := h'
  injection e with e1 e2 e3
  subst e1 e3
  apply List.ext_getElem?
  intro i
  by_cases hi : i < xs.length
  · obtain ⟨x, hx⟩ := get_some hr.num hi
    obtain ⟨y, hy⟩ := get_some hr'.num (show i < ys.length by omega)
    obtain ⟨b1, o1, rfl, _, hc⟩ := hr.elem Lc.clen hx (by omega)
    obtain ⟨b2, o2, e, _, hc'⟩ := hr'.elem Lc.clen hy (by omega)
    cases e
    have h5 := (hc 0 _ rfl).symm.trans (hc' 0 _ rfl)
    injection h5 with h5
    injection h5 with _ h5
    rw [hx, hy]
    congr 1
    omega
  · rw [List.getElem?_eq_none (by omega), List.getElem?_eq_none (by omega)]
theorem lmu_of {w : World} {v : Value} {Y : Nat} (h : LAt w v (lim Y)) : lmu w v = Y := by
  have hex : ∃ Y, LAt w v (lim Y) := ⟨Y, h⟩
  unfold lmu
  rw [dif_pos hex]
  have h' := Classical.choose_spec hex
  rw [← ln_dig (Classical.choose hex), h'.unique h, ln_dig]

set_option maxRecDepth 100000 in
set_option maxHeartbeats 8000000 in
theorem natGcd_any (va vb : Value) (a b : List Nat) (w : World) (ha : LAt w va a) (hb : LAt w vb b) (la : Lds a) (lb_ : Lds b) (na : a.length ≤ 10000000000) (nb : b.length ≤ 10000000000) :
    Calls Tryz.prog 82 #[va, vb] w fun e w' => ∃ v', e = .returned v' ∧ LAt w' v' (lim (Nat.gcd (ln a) (ln b))) ∧ Below w.heap.size w w' := by
  have HA := Lib.hid ha
  have HB := Lib.hid hb
  have LA := Lib.hid la
  have LB := Lib.hid lb_
  clear ha hb la lb_
  go_enter Tryz.func82, Tryz.ntmps82
  go_wp2_with fail
  refine (natTrim_any va a w HA.out LA.out (by omega)).mono ?_
  rintro e w1 ⟨v1, rfl, hv1, hb1⟩
  have HV1 := Lib.hid hv1
  have HBb := Lib.hid (HB.out.below hb1)
  have HW1 := Lib.hid hb1
  clear hv1 hb1
  go_wp2_with fail
  refine (natTrim_any vb b w1 HBb.out LB.out (by omega)).mono ?_
  rintro e w2 ⟨v2, rfl, hv2, hb2⟩
  have HX := Lib.hid (HV1.out.below hb2)
  have HY := Lib.hid hv2
  have HW2 := Lib.hid (HW1.out.trans (hb2.mono HW1.out.size))
  have hlx : (lim (ln a)).length ≤ 10000000000 := Nat.le_trans (lim_ln_len LA.out) na
  have hly : (lim (ln b)).length ≤ 10000000000 := Nat.le_trans (lim_ln_len LB.out) nb
  have HLX := Lib.hid hlx
  have HLY := Lib.hid hly
  obtain ⟨Ax, nx, cx, rfl, -, -, -⟩ := HX.out.parts
  obtain ⟨Ay, ny, cy, rfl, -, -, -⟩ := hv2.parts
  clear hv2 hb2 HV1 HBb hlx hly
  go_wp2_with fail
  go_loopw [5, 6] (fun xv yv wr => ∃ X Y : Nat, LAt wr xv (lim X) ∧ LAt wr yv (lim Y) ∧ (lim X).length ≤ 10000000000 ∧ (lim Y).length ≤ 10000000000 ∧ Nat.gcd X Y = Nat.gcd (ln a) (ln b) ∧ Below w.heap.size w wr) (fun _ yv wr => lmu wr yv)
  case atStart => exact ⟨_, _, HX.out, HY.out, HLX.out, HLY.out, rfl, HW2.out⟩
  case round =>
    obtain ⟨X, Y, hx, hy, hlx, hly, hg, hbw⟩ := hrel
    have HX1 := Lib.hid hx
    have HY1 := Lib.hid hy
    have HG := Lib.hid hg
    have HBW := Lib.hid hbw
    have HLX1 := Lib.hid hlx
    have HLY1 := Lib.hid hly
    obtain ⟨A1, n1, c1, rfl, -, -, -⟩ := hx.parts
    obtain ⟨A2, n2, c2, rfl, hn2, -, -⟩ := hy.parts
    have HN2 := Lib.hid hn2
    clear hx hy hg hbw hlx hly hn2 HX HY
    by_cases h0 : n2 = 0
    · have hY : Y = 0 := lim_len_zero.1 (by rw [← HN2.out]; exact h0)
      have hgx : X = Nat.gcd (ln a) (ln b) := by rw [← HG.out, hY, Nat.gcd_zero_right]
      have HGX := Lib.hid hgx
      subst h0
      clear hY hgx
      go_wp2_with fail
      go_ret
      exact ⟨_, rfl, by rw [← HGX.out]; exact HX1.out, HBW.out⟩
    · have hgt : (0 : Int) < (n2 : Int) := by omega
      have hY0 : Y ≠ 0 := fun e => h0 (by rw [HN2.out, e]; rfl)
      clear h0
      go_wp2_with fail
      refine (natDiv_any _ _ _ _ wr HX1.out HY1.out (lim_lds _) (lim_lds _) HLX1.out HLY1.out (by rw [ln_dig]; exact hY0)).mono ?_
      rintro e w3 ⟨v3, v4, rfl, hv3, hv4, hb3⟩
      rw [ln_dig, ln_dig] at hv4
      have HV4 := Lib.hid hv4
      have HY3 := Lib.hid (HY1.out.below hb3)
      have HB3 := Lib.hid (HBW.out.trans (hb3.mono HBW.out.size))
      have hlt : X % Y < Y := Nat.mod_lt _ (by omega)
      have HLT := Lib.hid hlt
      have hg2 : Nat.gcd Y (X % Y) = Nat.gcd (ln a) (ln b) := by rw [← HG.out, Nat.gcd_comm X Y, Nat.gcd_rec Y X]; exact Nat.gcd_comm _ _
      have HG2 := Lib.hid hg2
      obtain ⟨A3, n3, c3, rfl, -, -, -⟩ := hv3.parts
      obtain ⟨A4, n4, c4, rfl, -, -, -⟩ := hv4.parts
      clear hv3 hv4 hb3 hlt hg2
      go_wp2_with fail
      refine ⟨⟨Y, X % Y, HY3.out, HV4.out, HLY1.out, Nat.le_trans (lim_len_mono (Nat.le_of_lt HLT.out)) HLY1.out, HG2.out, HB3.out⟩, ?_⟩
      show lmu w3 _ < lmu wr _
      rw [lmu_of HV4.out, lmu_of HY1.out]
      exact HLT.out

end Go.Proofs.YtjokpfgncmdomaaGreatDoor
