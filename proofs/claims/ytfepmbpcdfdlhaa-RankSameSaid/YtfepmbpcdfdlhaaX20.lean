import Derived.Test.YtfepmbpcdfdlhaaX19
import Derived.Deep.Cut
import Derived.Deep.DeepCutAuto
set_option linter.unusedSimpArgs false
set_option linter.unusedVariables false
/- (*rank.table).answers: the walk -/
namespace Go.Proofs.Ytfepmbpcdfdlhaa
open Go.RowKit Go.Sort

theorem rv_den (q : Rat) : sgL false (rv q).den = (q.den : Int) := by
  show ((ln (lim q.den) : Nat) : Int) = _
  rw [ln_dig]
theorem rv_num (q : Rat) : sgL (rv q).neg (rv q).num = q.num := by
  unfold sgL rv
  simp only
  rw [ln_dig]
  by_cases h : q.num < 0
  · rw [decide_eq_true h, if_pos rfl]; omega
  · rw [decide_eq_false h]; simp; omega
theorem ansD_ne {s : BSt} {qs : List Rat} {low : Int} (h : 0 < allN qs) (hl : s.last ≠ 0) : ansD s qs low ≠ 0 := by
  have h1 : (allN qs : Int) * s.last ≠ 0 := Int.mul_ne_zero (by omega) hl
  unfold ansD
  split
  · exact Int.mul_ne_zero h1 (Int.ne_of_gt (Int.pow_pos (by decide)))
  · exact h1
theorem ansN_bt {s : BSt} {n : Nat} {qs : List Rat} {low : Int} {i e : Nat} (h : Bt e (psum s n qs i n)) (hl : -65536 ≤ low) : Bt (e + 65536) (ansN s n qs low i) := by
  unfold ansN
  split
  · exact h.mono (by omega)
  · exact h.mul ((Bt.pow _).mono (by omega))
theorem ansD_bt {s : BSt} {qs : List Rat} {low : Int} {a b : Nat} (h : Bt a (allN qs : Int)) (h2 : Bt b s.last) (hl : low ≤ 65536) : Bt (a + b + 65536) (ansD s qs low) := by
  unfold ansD
  split
  · exact (h.mul h2).mul ((Bt.pow _).mono (by omega))
  · exact (h.mul h2).mono (by omega)
theorem rat_v3 {w : World} {v : Value} {r : RV} (h : RAt w v r) : ∃ t : T3, v = t.val := by
  obtain ⟨A, n, c, A', n', c', e, _⟩ := h
  exact ⟨⟨_, A, n, c, A', n', c'⟩, e⟩
theorem rats_fit {w : World} {A : Option Addr} {n c : Nat} {qs : List Rat} (h : RatsAt w (.slice A n c) qs) : ∀ q ∈ qs, fits q := fun q hq => by
  obtain ⟨k, hk⟩ := List.getElem?_of_mem hq
  obtain ⟨b, o, t, q', _, h1, h2, _⟩ := h.get (List.getElem?_eq_some_iff.1 hk).1
  rw [hk] at h1
  injection h1 with h1
  rw [h1]
  exact h2.2

set_option maxRecDepth 100000 in
set_option maxHeartbeats 8000000 in
theorem answers_tab (gt n cb : Nat) (A : Option Addr) (low : Int) (s : BSt) (qs : List Rat) (w : World) (hrs : 0 < n → ∃ G cR base gs V gl, RSt w gt G n (n + n) cR base gs V gl s.rows s.piv s.last)
    (hb : RatsAt w (.slice A n cb) qs) (hq : qs.length = n) (hn : n ≤ 48) (hEr : ∀ i k, Bt 410000 (tf s.rows i k)) (hEl : Bt 410000 s.last) (hl0 : s.last ≠ 0) (hlow : -65536 ≤ low ∧ low ≤ 65536) :
    Calls Try.prog 46 #[PtrV gt, .slice A n cb, .int .i64 low] w fun e w' => Below w.heap.size w w' ∧
      (((∀ i, i < n → fits (ansQ s n qs low i)) ∧ ∃ V, e = .returned (.tuple #[V, .int .i64 0]) ∧ RatsAt w' V (ansL s n qs low n)) ∨
       ((¬ ∀ i, i < n → fits (ansQ s n qs low i)) ∧ e = .returned (.tuple #[.slice none 0 0, .int .i64 3]))) := by
  have hfit := rats_fit hb
  obtain ⟨ha0, hadv, habt⟩ := allN_ok (k := 256) (by decide) hfit
  rw [hq] at habt
  have HABT := Lib.hid (habt.mono (show 64 * 256 * n ≤ 786432 by omega))
  have HA0 := Lib.hid ha0
  have HADV := Lib.hid hadv
  have HFIT := Lib.hid hfit
  have HRS := Lib.hid hrs
  have HB := Lib.hid hb
  have HQ := Lib.hid hq
  have HEr := Lib.hid hEr
  have HEl := Lib.hid hEl
  have HL0 := Lib.hid hl0
  clear hrs hb hq hEr hEl hl0 hfit ha0 hadv habt
  obtain ⟨i0, hi0, hzz0, hzz1, hzz2⟩ := info_parts' info_ratio
  go_enter Try.func46, Try.ntmps46
  go_wp2_with fail
  refine (newInt_int 1 w (by omega) (by omega)).mono ?_
  rintro e w1 ⟨ga0, rfl, hg1, hg2, hi1, hb1⟩
  have HI1 := Lib.hid hi1
  have HB1 := Lib.hid hb1
  clear hi1 hb1
  go_wp2_with fail
  go_loopw [9, 28] (fun av iv wr => ∃ (k ga : Nat), k ≤ n ∧ iv = .int .i64 k ∧ av = PtrV ga ∧ IntAt wr ga 0 (allN (qs.take k) : Int) ∧ Below w.heap.size w wr) (fun _ iv _ => n - (intOf iv).toNat)
  case atStart => exact ⟨0, ga0, Nat.zero_le _, rfl, rfl, HI1.out, HB1.out⟩
  case round =>
    obtain ⟨k, ga, hk, rfl, rfl, hia, hbw⟩ := hrel
    have HIA := Lib.hid hia
    have HBW := Lib.hid hbw
    clear hia hbw
    by_cases hlt : k < n
    · have hlti : (k : Int) < (n : Int) := by omega
      obtain ⟨b1, o1, t, q, rfl, hqk, hat, c0, c1, c2⟩ := HB.out.get (show k < qs.length by rw [HQ.out]; exact hlt)
      have q0 := bat HBW.out c0
      have q1 := bat HBW.out c1
      have q2 := bat HBW.out c2
      obtain ⟨es, en1, en2, hrd1, hrd2, hl1, hl2⟩ := rat_t3 hat.1
      have hn2 : t.n' ≤ 256 := by rw [en2]; exact hat.2.2
      have HQK := Lib.hid hqk
      have HRD := Lib.hid hrd2
      have HLD := Lib.hid hl2
      have hqd := (fits_bt (k := 256) (by decide) hat.2).2
      have HQD := Lib.hid hqd
      clear c0 c1 c2 hat hqk es en1 en2 hrd1 hrd2 hl1 hl2 hqd
      go_upto_region 6 with fail
      obtain ⟨w4, hw4⟩ : ∃ w4, w4 = wr.alloc (.cells #[.bool t.s, .slice t.a t.n t.c, .slice t.a' t.n' t.c'] 43) := ⟨_, rfl⟩
      rw [← hw4]
      obtain ⟨hb4, x0, x1, x2⟩ := box3 hw4
      have HB4 := Lib.hid hb4
      clear q0 q1 q2 hw4 hb4
      go_wp2_with fail
      refine (whole_rank t.a' t.n' t.c' false (rv q).den w4 (HRD.out.blw (HBW.out.trans (HB4.out.mono HBW.out.size))) HLD.out (by omega)).mono ?_
      rw [rv_den]
      rintro e w5 ⟨gd, rfl, hgd, hgdl, hid5, hb5⟩
      have HID5 := Lib.hid hid5
      have HB5 := Lib.hid hb5
      clear hid5 hb5 x0 x1 x2
      have hbtk : Bt (64 * 256 * k) (allN (qs.take k) : Int) := by
        have h := (allN_ok (k := 256) (by decide) (fun q hq => HFIT.out q (List.mem_of_mem_take hq)) (qs := qs.take k)).2.2
        rwa [List.length_take, HQ.out, Nat.min_eq_left hk] at h
      have h0tk : 0 < allN (qs.take k) := (allN_ok (k := 256) (by decide) (fun q hq => HFIT.out q (List.mem_of_mem_take hq)) (qs := qs.take k)).1
      have HBTK := Lib.hid (hbtk.mono (show 64 * 256 * k ≤ 786432 by omega))
      have H0TK := Lib.hid h0tk
      clear hbtk h0tk
      go_wp2_with fail
      have hba := HB4.out.trans (HB5.out.mono HB4.out.size)
      have HBA := Lib.hid hba
      clear hba
      refine (gcd_int _ 0 ga 0 gd 0 0 (allN (qs.take k)) q.den _ (new_intAt w5) ((HIA.out.below HBA.out).below (below1 ..)) (HID5.out.below (below1 ..)) (by have := H0TK.out; omega) (by have := q.den_pos; omega) (by have := HBTK.out.digL (by decide); rwa [Int.natAbs_natCast] at this) (by have := HQD.out.digL (by decide); rwa [Int.natAbs_natCast] at this)).mono ?_
      rintro e w6 ⟨rfl, hi6, hu6⟩
      have hb6 := newB hu6
      have HI6 := Lib.hid hi6
      have HB6 := Lib.hid hb6
      have HID6 := Lib.hid (HID5.out.below hb6)
      obtain ⟨gy, hgy⟩ : ∃ gy, gy = w5.heap.size := ⟨_, rfl⟩
      rw [← hgy] at HI6 ⊢
      have hgy5 : w5.heap.size ≤ gy := by omega
      clear hi6 hu6 hb6 hgy
      obtain ⟨g, hg⟩ : ∃ g, g = Nat.gcd (allN (qs.take k)) q.den := ⟨_, rfl⟩
      rw [← hg] at HI6
      have hg0 : 0 < g := by rw [hg]; exact Nat.gcd_pos_of_pos_left _ H0TK.out
      have hgb : Bt (64 * 256) (g : Int) := by
        have h1 : g ≤ q.den := by rw [hg]; exact Nat.le_of_dvd q.den_pos (Nat.gcd_dvd_right _ _)
        have h2 := HQD.out
        unfold Bt at *
        rw [Int.natAbs_natCast] at *
        exact Nat.le_trans h1 h2
      have HG := Lib.hid hg
      have HGB := Lib.hid hgb
      clear hg hgb
      go_wp2_with fail
      refine (quo_int gd 0 gd 0 gy 0 (q.den : Int) (q.den : Int) (g : Int) _ (HID6.out.below (below1 ..)) (HID6.out.below (below1 ..)) (HI6.out.below (below1 ..)) (HQD.out.ten (by decide)) (HGB.out.ten (by decide)) (by omega)).mono ?_
      rintro e w7 ⟨rfl, hi7, hu7⟩
      have ey : Int.tdiv (q.den : Int) (g : Int) = ((q.den / g : Nat) : Int) := by rw [Int.tdiv_eq_ediv_of_nonneg (by omega)]; exact (Int.natCast_ediv _ _).symm
      rw [ey] at hi7
      have HI7 := Lib.hid hi7
      have HU7 := Lib.hid hu7
      clear hi7 hu7 ey
      have hs6 : w5.heap.size ≤ w6.heap.size := HB6.out.size
      have hgdl6 : gd < w6.heap.size := by omega
      have hgal : ga < wr.heap.size := HIA.out.lt
      have hwr5 : wr.heap.size ≤ w5.heap.size := HBA.out.size
      have hwr4 : wr.heap.size ≤ w4.heap.size := HB4.out.size
      have hnew7 : IntAt w7 w6.heap.size 0 0 := (new_intAt w6).upd HU7.out (fun e => by omega)
      have hga7 : IntAt w7 ga 0 (allN (qs.take k) : Int) := (((HIA.out.below HBA.out).below HB6.out).below (below1 ..)).upd HU7.out (fun e => by omega)
      have hb7 : Below wr.heap.size wr w7 := (((HBA.out.trans (HB6.out.mono hwr5)).trans ((below1 w6 _).mono (by omega))).trans (HU7.out.below (by omega) (by simp; omega)))
      have HN7 := Lib.hid hnew7
      have HGA7 := Lib.hid hga7
      have HB7 := Lib.hid hb7
      clear hnew7 hga7 hb7
      go_wp2_with fail
      refine (mul_int w6.heap.size 0 ga 0 gd 0 0 (allN (qs.take k) : Int) ((q.den / g : Nat) : Int) w7 HN7.out HGA7.out HI7.out (HBTK.out.ten (by decide)) ?_).mono ?_
      · have h := HQD.out
        have h2 : Bt (64 * 256) ((q.den / g : Nat) : Int) := by
          unfold Bt at *
          rw [Int.natAbs_natCast] at *
          exact Nat.le_trans (Nat.div_le_self _ _) h
        exact h2.ten (by decide)
      rintro e w8 ⟨rfl, hi8, hu8⟩
      have HI8 := Lib.hid hi8
      have HB8 := Lib.hid (HB7.out.trans (hu8.below (show wr.heap.size ≤ w6.heap.size by omega) HB7.out.size))
      clear hi8 hu8
      go_wp2_with fail
      refine ⟨⟨k + 1, w6.heap.size, by omega, by go_num, rfl, ?_, HBW.out.trans (HB8.out.mono HBW.out.size)⟩, by simp [intOf]; omega⟩
      rw [allN_take HQK.out, ← HG.out]
      have h := HI8.out
      rw [← Int.natCast_mul] at h
      exact h
    · obtain rfl : n = k := by omega
      have hnl : ¬ ((n : Int) < (n : Int)) := by omega
      rw [← HQ.out, List.take_length] at HIA
      have HIA2 := HIA
      obtain ⟨w2, hw2⟩ : ∃ w2, w2 = wr := ⟨_, rfl⟩
      rw [← hw2] at HIA2 HBW ⊢
      clear HIA hw2
      have hgal : ga < w2.heap.size := HIA2.out.lt
      go_wp2_with fail
      go_loopw [14, 48] (fun ov iv wr => ∃ (i : Nat) (ts : List T3), i ≤ n ∧ iv = .int .i64 i ∧ BRats wr w2.heap.size ov ts (ansL s n qs low i) ∧ (∀ j, j < i → fits (ansQ s n qs low j)) ∧ Below w2.heap.size w2 wr) (fun _ iv _ => n - (intOf iv).toNat)
      case atStart => exact ⟨0, [], Nat.zero_le _, rfl, BRats.nil _ _, fun j h => absurd h (Nat.not_lt_zero _), Below.refl _ _⟩
      case round =>
        obtain ⟨i, ts, hi, rfl, hbr, hfj, hbw2⟩ := hrel
        obtain ⟨wv, hwv⟩ : ∃ wv, wv = wr := ⟨_, rfl⟩
        rw [← hwv] at hbr hbw2 ⊢
        have HBR := Lib.hid hbr
        have HFJ := Lib.hid hfj
        have HBW2 := Lib.hid hbw2
        clear hbr hfj hbw2 hwv
        by_cases hlt : i < n
        · have hlti : (i : Int) < (n : Int) := by omega
          go_wp2_with fail
          obtain ⟨gsm, hgsm⟩ : ∃ gsm, gsm = wv.heap.size := ⟨_, rfl⟩
          obtain ⟨w3, hw3⟩ : ∃ w3, w3 = wv.alloc (.cells #[.bool false, .slice none 0 0] 80) := ⟨_, rfl⟩
          rw [← hw3, ← hgsm]
          have hs3 : IntAt w3 gsm 0 0 := by rw [hw3, hgsm]; exact new_intAt wv
          have hb3 : Below wv.heap.size wv w3 := by rw [hw3]; exact below1 ..
          have hgs0 : wv.heap.size ≤ gsm := by omega
          have HS3 := Lib.hid hs3
          have HB3 := Lib.hid hb3
          clear hs3 hb3 hw3 hgsm
          go_loopw [54] (fun kv wr => ∃ k : Nat, k ≤ n ∧ kv = .int .i64 k ∧ IntAt wr gsm 0 (psum s n qs i k) ∧ Below wv.heap.size wv wr) (fun kv _ => n - (intOf kv).toNat)
          case atStart => exact ⟨0, Nat.zero_le _, rfl, HS3.out, HB3.out⟩
          case round =>
            obtain ⟨k, hk, rfl, his, hb⟩ := hrel
            have HIS := Lib.hid his
            have HBK := Lib.hid hb
            clear his hb
            by_cases hlk : k < n
            · have hlki : (k : Int) < (n : Int) := by omega
              have hT : Below w.heap.size w wr := HBW.out.trans ((HBW2.out.trans (HBK.out.mono HBW2.out.size)).mono HBW.out.size)
              have HT := Lib.hid hT
              obtain ⟨b1, o1, t, q, rfl, hqk, hat, c0, c1, c2⟩ := HB.out.get (show k < qs.length by rw [HQ.out]; exact hlk)
              have q0 := bat hT c0
              have q1 := bat hT c1
              have q2 := bat hT c2
              obtain ⟨es, en1, en2, hrd1, hrd2, hl1, hl2⟩ := rat_t3 hat.1
              have hn1 : t.n ≤ 256 := by rw [en1]; exact hat.2.1
              have hn2 : t.n' ≤ 256 := by rw [en2]; exact hat.2.2
              have HQK := Lib.hid hqk
              have HES := Lib.hid es
              have HRD1 := Lib.hid (And.intro hrd1 hl1)
              have HRD2 := Lib.hid (And.intro hrd2 hl2)
              have hqd := fits_bt (k := 256) (by decide) hat.2
              have HQD := Lib.hid hqd
              clear hT c0 c1 c2 hat hqk es en1 en2 hrd1 hrd2 hl1 hl2 hqd
              go_upto_region 18 with fail
              obtain ⟨w4, hw4⟩ : ∃ w4, w4 = wr.alloc (.cells #[.bool t.s, .slice t.a t.n t.c, .slice t.a' t.n' t.c'] 43) := ⟨_, rfl⟩
              obtain ⟨gb, hgb⟩ : ∃ gb, gb = wr.heap.size := ⟨_, rfl⟩
              rw [← hw4, ← hgb]
              obtain ⟨hb4, x0, x1, x2⟩ := box3 hw4
              rw [← hgb] at x0 x1 x2
              have hgb4 : gb < w4.heap.size := by rw [hw4, hgb]; simp
              have HB4 := Lib.hid hb4
              have X0 := Lib.hid x0
              have X1 := Lib.hid x1
              clear q0 q1 q2 hw4 hb4 hgb x0 x1
              obtain ⟨gx, hgx⟩ : ∃ gx, gx = w4.heap.size := ⟨_, rfl⟩
              obtain ⟨w5, hw5⟩ : ∃ w5, w5 = w4.alloc (.cells #[.bool false, .slice none 0 0] 80) := ⟨_, rfl⟩
              have hx5 : IntAt w5 gx 0 0 := by rw [hw5, hgx]; exact new_intAt w4
              have hb5 : Below w4.heap.size w4 w5 := by rw [hw5]; exact below1 ..
              have y2 : w5.cell? ⟨gb, 2, none⟩ = some (.slice t.a' t.n' t.c') := bat hb5 x2
              have HX5 := Lib.hid hx5
              have HB5 := Lib.hid hb5
              have HW5 := Lib.hid hw5
              have HGX := Lib.hid hgx
              have hgx4 : w4.heap.size ≤ gx := by omega
              have hgx5 : gx < w5.heap.size := hx5.lt
              rw [hw5] at y2
              clear hx5 hb5 hw5 hgx x2
              go_wp2_with fail
              rw [← HW5.out, ← HGX.out]
              clear y2
              refine (whole_rank t.a' t.n' t.c' false (rv q).den w5 (HRD2.out.1.blw (HT.out.trans ((HB4.out.trans (HB5.out.mono HB4.out.size)).mono HT.out.size))) HRD2.out.2 (by omega)).mono ?_
              rw [rv_den]
              rintro e w6 ⟨gd, rfl, hgd, hgdl, hid6, hb6⟩
              have HID6 := Lib.hid hid6
              have HB6 := Lib.hid hb6
              clear hid6 hb6
              have hal : ga < wr.heap.size := by have h1 := HBW2.out.size; have h2 := HBK.out.size; omega
              have hga6 : IntAt w6 ga 0 (allN qs : Int) := (((((HIA2.out.below HBW2.out).below HBK.out).below HB4.out).below HB5.out).below HB6.out)
              have HGA6 := Lib.hid hga6
              clear hga6
              go_wp2_with fail
              refine (quo_int gx 0 ga 0 gd 0 0 (allN qs : Int) (q.den : Int) w6 (HX5.out.below HB6.out) HGA6.out HID6.out (HABT.out.ten (by decide)) (HQD.out.2.ten (by decide)) (by have := q.den_pos; omega)).mono ?_
              rintro e w7 ⟨rfl, hi7, hu7⟩
              have ey : Int.tdiv (allN qs : Int) (q.den : Int) = (allN qs : Int) / denN qs k := by
                unfold denN
                rw [getD_some HQK.out, Int.tdiv_eq_ediv_of_nonneg (by omega)]
              rw [ey] at hi7
              have hb7 : Below w4.heap.size w4 w7 := (HB5.out.trans (HB6.out.mono HB5.out.size)).trans (hu7.below hgx4 (Nat.le_trans HB5.out.size HB6.out.size))
              have HI7 := Lib.hid hi7
              have HB7 := Lib.hid hb7
              have x0 := bat hb7 X0.out
              have x1 := bat hb7 X1.out
              have hx7 : Bt 786432 ((allN qs : Int) / denN qs k) := quot_bt HQK.out HABT.out
              obtain ⟨xd, hxd⟩ : ∃ xd, xd = (allN qs : Int) / denN qs k := ⟨_, rfl⟩
              rw [← hxd] at HI7 hx7
              have HXD := Lib.hid hxd
              have HX7 := Lib.hid hx7
              clear hi7 hu7 ey hb7 hx7 hxd
              go_wp2_with fail
              refine (whole_rank t.a t.n t.c t.s (rv q).num w7 (HRD1.out.1.blw (HT.out.trans ((HB4.out.trans (HB7.out.mono HB4.out.size)).mono HT.out.size))) HRD1.out.2 (by omega)).mono ?_
              rw [HES.out, rv_num]
              rintro e w8 ⟨gm, rfl, hgm, hgml, him8, hb8⟩
              have HIM8 := Lib.hid him8
              have HB8 := Lib.hid hb8
              clear him8 hb8 x0 x1
              go_wp2_with fail
              refine (mul_int gx 0 gx 0 gm 0 xd xd q.num w8 (HI7.out.below HB8.out) (HI7.out.below HB8.out) HIM8.out (HX7.out.ten (by decide)) (HQD.out.1.ten (by decide))).mono ?_
              rintro e w9 ⟨rfl, hi9, hu9⟩
              have hx9 : Bt (786432 + 64 * 256) (xd * q.num) := HX7.out.mul HQD.out.1
              have hb9 : Below w4.heap.size w4 w9 := (HB7.out.trans (HB8.out.mono HB7.out.size)).trans (hu9.below hgx4 (Nat.le_trans HB7.out.size HB8.out.size))
              obtain ⟨xe, hxe⟩ : ∃ xe, xe = xd * q.num := ⟨_, rfl⟩
              rw [← hxe] at hi9 hx9
              have HXE := Lib.hid hxe
              have HI9 := Lib.hid hi9
              have HX9 := Lib.hid hx9
              have HB9 := Lib.hid hb9
              obtain ⟨G, cR, base, gs, V, gl, hrst0⟩ := HRS.out (by omega)
              have hT9 : Below w.heap.size w w9 := HT.out.trans ((HB4.out.trans (hb9.mono HB4.out.size)).mono HT.out.size)
              have hrst := hrst0.below hT9
              obtain ⟨gi, zs, ps, ci, hgi, hzs, hzl, hprow, hcell⟩ := hrst.rows.get (show i < n by omega)
              obtain ⟨z, hz⟩ := get_some hzl (show n + k < n + n by omega)
              obtain ⟨p, hp⟩ := get_some (hprow.len.trans hzl) (show n + k < n + n by omega)
              have hip := hprow.int (n + k) p z hp hz
              have r2 := hprow.ptr (n + k) p hp
              have r0 := hrst.c0
              have ez : tf s.rows i (n + k) = z := tf_at hzs hz
              have hzb : Bt 410000 z := by rw [← ez]; exact HEr.out i (n + k)
              have HEZ := Lib.hid ez
              have HZB := Lib.hid hzb
              have HIP := Lib.hid hip
              obtain ⟨nk, hnke⟩ : ∃ nk, nk = n + k := ⟨_, rfl⟩
              have hnk : (n : Int) + (k : Int) = (nk : Int) := by omega
              have hnk2 : nk < n + n := by omega
              rw [← hnke] at r2
              clear hnke
              have HT9 := Lib.hid hT9
              clear hi9 hu9 hx9 hb9 hxe hrst0 hrst hgi hzs hprow hz hp hip ez hzb hT9
              go_wp2_with fail
              refine (mul_int gx 0 gx 0 p 0 xe xe z w9 HI9.out HI9.out HIP.out (HX9.out.ten (by decide)) (HZB.out.ten (by decide))).mono ?_
              rintro e w10 ⟨rfl, hi10, hu10⟩
              have hx10 : Bt (786432 + 64 * 256 + 410000) (xe * z) := HX9.out.mul HZB.out
              have hb10 : Below w4.heap.size w4 w10 := HB9.out.trans (hu10.below hgx4 HB9.out.size)
              have HI10 := Lib.hid hi10
              have HX10 := Lib.hid hx10
              have HB10 := Lib.hid (HB4.out.trans (hb10.mono HB4.out.size))
              clear hi10 hu10 hx10 hb10 hcell r0 r2
              have hpb : Bt 1300000 (psum s n qs i k) := (psum_bt (E := 64 * 256) HFIT.out HABT.out (fun q hq => (fits_bt (k := 256) (by decide) (HFIT.out q hq)).1) HEr.out k (by rw [HQ.out]; exact hk)).mono (by omega)
              have HPB := Lib.hid hpb
              clear hpb
              go_wp2_with fail
              refine (add_int gsm 0 gsm 0 gx 0 (psum s n qs i k) (psum s n qs i k) (xe * z) w10 (HIS.out.below HB10.out) (HIS.out.below HB10.out) HI10.out (HPB.out.ten (by decide)) (HX10.out.ten (by decide))).mono ?_
              rintro e w11 ⟨rfl, hi11, hu11⟩
              have HI11 := Lib.hid hi11
              have HB11 := Lib.hid ((HBK.out.trans (HB10.out.mono HBK.out.size)).trans (hu11.below hgs0 (Nat.le_trans HBK.out.size HB10.out.size)))
              clear hi11 hu11
              go_wp2_with fail
              refine ⟨⟨k + 1, by omega, by go_num, ?_, HB11.out⟩, by simp [intOf]; omega⟩
              rw [psum_succ, ← HXD.out, HEZ.out]
              have e : numN qs k = q.num := by unfold numN; rw [getD_some HQK.out]
              rw [e, ← HXE.out]
              exact HI11.out
            · obtain rfl : n = k := by omega
              have hnl : ¬ ((n : Int) < (n : Int)) := by omega
              have hT : Below w.heap.size w wr := HBW.out.trans ((HBW2.out.trans (HBK.out.mono HBW2.out.size)).mono HBW.out.size)
              obtain ⟨G, cR, base, gs, V, gl, hrst0⟩ := HRS.out (by omega)
              have hrst := hrst0.below hT
              have HIL := Lib.hid hrst.last
              have HT := Lib.hid hT
              obtain ⟨gdn, hgdn⟩ : ∃ gdn, gdn = wr.heap.size := ⟨_, rfl⟩
              obtain ⟨w4, hw4⟩ : ∃ w4, w4 = wr.alloc (.cells #[.bool false, .slice none 0 0] 80) := ⟨_, rfl⟩
              have hd4 : IntAt w4 gdn 0 0 := by rw [hw4, hgdn]; exact new_intAt wr
              have hb4 : Below wr.heap.size wr w4 := by rw [hw4]; exact below1 ..
              have y2 : w4.cell? ⟨gt, 2, none⟩ = some (PtrV gl) := bat hb4 hrst.c2
              have HD4 := Lib.hid hd4
              have HB4 := Lib.hid hb4
              have HW4 := Lib.hid hw4
              have HGDN := Lib.hid hgdn
              have hgd0 : wr.heap.size ≤ gdn := by omega
              have hgsl : gsm < wr.heap.size := HIS.out.lt
              have hal : ga < wr.heap.size := by have h1 := HBW2.out.size; have h2 := HBK.out.size; omega
              rw [hw4] at y2
              clear hT hrst0 hrst hd4 hb4 hw4 hgdn
              go_wp2_with fail
              rw [← HW4.out, ← HGDN.out]
              clear y2
              refine (mul_int gdn 0 ga 0 gl 0 0 (allN qs : Int) s.last w4 HD4.out (((HIA2.out.below HBW2.out).below HBK.out).below HB4.out) (HIL.out.below HB4.out) (HABT.out.ten (by decide)) (HEl.out.ten (by decide))).mono ?_
              rintro e w5 ⟨rfl, hi5, hu5⟩
              have hb5 : Below wr.heap.size wr w5 := HB4.out.trans (hu5.below hgd0 HB4.out.size)
              have HI5 := Lib.hid hi5
              have HB5 := Lib.hid hb5
              clear hi5 hu5 hb5
              go_upto_if 100 with fail
              obtain ⟨f, hf⟩ : ∃ f, decide (0 < low) = f := ⟨_, rfl⟩
              rw [hf]
              have HF := Lib.hid hf
              clear hf
              go_cut [] from 1000 (fun wx => IntAt wx gsm 0 (ansN s n qs low i) ∧ IntAt wx gdn 0 (ansD s qs low) ∧ Below wv.heap.size wv wx)
              case first =>
                cases f with
                | true =>
                  have hlp : 0 < low := of_decide_eq_true HF.out
                  obtain ⟨L, hL⟩ : ∃ L : Nat, low = (L : Int) := ⟨low.toNat, by omega⟩
                  have hL2 : L ≤ 65536 := by omega
                  subst hL
                  have hlb : Bt (786432 + 410000) ((allN qs : Int) * s.last) := HABT.out.mul HEl.out
                  have HLB := Lib.hid hlb
                  clear hlb hlow
                  go_wp2_with fail
                  refine (lsh_int gdn 0 gdn 0 ((allN qs : Int) * s.last) ((allN qs : Int) * s.last) L w5 HI5.out HI5.out (HLB.out.ten (by decide)) (by omega)).mono ?_
                  rintro e w6 ⟨rfl, hi6, hu6⟩
                  have HI6 := Lib.hid hi6
                  have HU6 := Lib.hid hu6
                  clear hi6 hu6
                  go_wp2_with fail
                  go_meet
                  case rel =>
                    refine ⟨?_, ?_, (HBK.out.trans (HB5.out.mono HBK.out.size)).trans (HU6.out.below (Nat.le_trans HBK.out.size hgd0) (Nat.le_trans HBK.out.size HB5.out.size))⟩
                    · unfold ansN
                      rw [if_pos hlp]
                      exact (HIS.out.below HB5.out).upd HU6.out (fun e => by omega)
                    · unfold ansD
                      rw [if_pos hlp, Int.toNat_natCast]
                      exact HI6.out
                | false =>
                  have hlp : ¬ 0 < low := of_decide_eq_false HF.out
                  obtain ⟨L, hL⟩ : ∃ L : Nat, L = (-low).toNat := ⟨_, rfl⟩
                  have hLi : -low = (L : Int) := by omega
                  have hL2 : L ≤ 65536 := by omega
                  have HLL := Lib.hid hL
                  have HLP := Lib.hid hlp
                  have hwr : IntKind.i64.wrap (-low) = (L : Int) := by rw [hLi]; exact IntWalk.i64_in _ (by omega)
                  have hpb : Bt 1300000 (psum s n qs i n) := (psum_bt (E := 64 * 256) HFIT.out HABT.out (fun q hq => (fits_bt (k := 256) (by decide) (HFIT.out q hq)).1) HEr.out n (by rw [HQ.out]; exact Nat.le_refl _)).mono (by omega)
                  have HPB := Lib.hid hpb
                  clear hL hpb
                  go_wp2_with fail
                  refine (lsh_int gsm 0 gsm 0 (psum s n qs i n) (psum s n qs i n) L w5 (HIS.out.below HB5.out) (HIS.out.below HB5.out) (HPB.out.ten (by decide)) (by omega)).mono ?_
                  rintro e w6 ⟨rfl, hi6, hu6⟩
                  have HI6 := Lib.hid hi6
                  have HU6 := Lib.hid hu6
                  clear hi6 hu6
                  go_wp2_with fail
                  go_meet
                  case rel =>
                    refine ⟨?_, ?_, (HBK.out.trans (HB5.out.mono HBK.out.size)).trans (HU6.out.below hgs0 (Nat.le_trans HBK.out.size HB5.out.size))⟩
                    · unfold ansN
                      rw [if_neg (show ¬ low > 0 by have := HLP.out; omega), ← HLL.out]
                      exact HI6.out
                    · unfold ansD
                      rw [if_neg (show ¬ low > 0 by have := HLP.out; omega)]
                      exact HI5.out.upd HU6.out (fun e => by omega)
              case rest =>
                obtain ⟨hx, hy, hbc⟩ := hcut
                have HX := Lib.hid hx
                have HY := Lib.hid hy
                have HBC := Lib.hid hbc
                clear hx hy hbc
                have hy0 : ansD s qs low ≠ 0 := ansD_ne HA0.out HL0.out
                have hxl : (lim (ansN s n qs low i).natAbs).length ≤ 20000 := (ansN_bt (low := low) ((psum_bt (i := i) (n := n) (E := 64 * 256) HFIT.out HABT.out (fun q hq => (fits_bt (k := 256) (by decide) (HFIT.out q hq)).1) HEr.out n (by rw [HQ.out]; exact Nat.le_refl _)).mono (show 786432 + 64 * 256 + 410000 + n ≤ 1212864 by omega)) hlow.1).limL (by decide)
                have hyl : (lim (ansD s qs low).natAbs).length ≤ 20000 := (ansD_bt (s := s) (low := low) HABT.out HEl.out hlow.2).limL (by decide)
                have HYY := Lib.hid (And.intro hy0 (And.intro hxl hyl))
                clear hy0 hxl hyl
                go_wp2_with fail
                refine (over_rank gsm gdn (ansN s n qs low i) (ansD s qs low) wc HX.out HY.out HYY.out.1 HYY.out.2.1 HYY.out.2.2).mono ?_
                obtain ⟨qa, hqa⟩ : ∃ qa, qa = ansQ s n qs low i := ⟨_, rfl⟩
                rw [show Rat.divInt (ansN s n qs low i) (ansD s qs low) = qa from hqa.symm]
                have HQA := Lib.hid hqa
                clear hqa
                rintro e w7 ht
                by_cases hfq : fits qa
                · obtain ⟨v7, rfl, hat7, hb7⟩ := told_at ht hfq
                  obtain ⟨t7, rfl⟩ := hat7.t3
                  have HAT := Lib.hid hat7
                  have HB7 := Lib.hid (HBC.out.trans (hb7.mono HBC.out.size))
                  have HFQ := Lib.hid hfq
                  clear ht hat7 hb7 hfq
                  go_upto_region 29 with fail
                  obtain ⟨w8, hw8⟩ : ∃ w8, w8 = w7.alloc (.cells #[.bool t7.s, .slice t7.a t7.n t7.c, .slice t7.a' t7.n' t7.c'] 43) := ⟨_, rfl⟩
                  rw [← hw8]
                  obtain ⟨hb8, x0, x1, x2⟩ := box3 hw8
                  obtain ⟨wb, hwb⟩ : ∃ wb, wb = w8.alloc (.cells #[.bool t7.s, .slice t7.a t7.n t7.c, .slice t7.a' t7.n' t7.c'] 43) := ⟨_, rfl⟩
                  have hbb : Below w8.heap.size w8 wb := by rw [hwb]; exact below1 ..
                  have hbt : Below w7.heap.size w7 wb := hb8.trans (hbb.mono hb8.size)
                  have hbv : Below wv.heap.size wv wb := HB7.out.trans (hbt.mono HB7.out.size)
                  have HATB := Lib.hid (HAT.out.below hbt)
                  have hrs := HBR.out.below hbv
                  have HRSB := Lib.hid hrs
                  have HBV := Lib.hid hbv
                  have hob := hrs.own
                  have hbase : w2.heap.size ≤ wb.heap.size := by have h1 := HBW2.out.size; have h2 := hbv.size; omega
                  have hrd : Rd wb (fun _ => True) 3 (some ⟨w8.heap.size, 0, none⟩) 1 (Tc t7) := by rw [hwb]; exact rd_blk (blk_new ..) rfl trivial
                  have hal9 := ansL_len s n qs low i
                  have HWB := Lib.hid hwb
                  rw [hwb] at hob hbase hrd
                  have HOB := Lib.hid hob
                  have HBASE := Lib.hid hbase
                  have HRD := Lib.hid hrd
                  clear hw8 hb8 hwb hbb hbt hbv hrs hob hbase hrd
                  go_wp2_with (at_builtin; go_must (refine wpList_append_K rfl _ _ _ rfl w2.heap.size 43 i0 _ 3 56 Try.underlying39 hi0 hzz0 hzz1 hzz2 rfl (by omega) Tk (by intro u hu; simp [Value.cells] at hu; rcases hu with rfl | rfl; exact .inl ⟨_, rfl⟩; exact .inr ⟨_, _, _, rfl⟩) _ (ansL s n qs low i).length (ts.flatMap Tc) rfl HOB.out (fun _ => True) (some ⟨w8.heap.size, 0, none⟩) 1 1 (Tc t7) rfl HRD.out (by intro u hu; simp [Tc] at hu; rcases hu with rfl | rfl | rfl <;> rfl) (by intro u hu; simp [Tc] at hu; rcases hu with rfl | rfl | rfl; exact .inl ⟨_, rfl⟩; exact .inr ⟨_, _, _, rfl⟩; exact .inr ⟨_, _, _, rfl⟩) (by simp only [maxLen]; omega) (by omega) HBASE.out ?_); go_must (intro v2 w9 hown2 hg2); go_must (rw [← HWB.out] at hg2))
                  have hlt2 := fun b e => (HRSB.out.own.own.lt b e).1
                  have hbw9 : Below w2.heap.size w2 w9 := (HBW2.out.trans (HBV.out.mono HBW2.out.size)).grown hg2.g (Nat.le_trans HBW2.out.size HBV.out.size) hlt2
                  refine ⟨⟨i + 1, ts ++ [t7], by omega, by go_num, ?_, fun j hj => ?_, hbw9⟩, by simp [intOf]; omega⟩
                  · rw [ansL_succ, ← HQA.out]
                    exact HRSB.out.app HATB.out hg2 hown2
                  · by_cases e : j = i
                    · subst e; rw [← HQA.out]; exact HFQ.out
                    · exact HFJ.out j (by omega)
                · obtain ⟨v7, rfl, hat7, hb7⟩ := ht
                  rw [toldE, if_neg hfq]
                  obtain ⟨t7, rfl⟩ := rat_v3 hat7
                  have HB7 := Lib.hid (HBC.out.trans (hb7.mono HBC.out.size))
                  have HFQ := Lib.hid hfq
                  clear hat7 hb7 hfq
                  go_wp2_with fail
                  go_ret2
                  refine ⟨HBW.out.trans ((HBW2.out.trans ((HB7.out.trans ((below1 ..).mono HB7.out.size)).mono HBW2.out.size)).mono HBW.out.size), .inr ⟨fun h => HFQ.out (by rw [HQA.out]; exact h i hlt), rfl⟩⟩
        · obtain rfl : n = i := by omega
          have hnl : ¬ ((n : Int) < (n : Int)) := by omega
          go_wp2_with fail
          go_ret2
          exact ⟨HBW.out.trans (HBW2.out.mono HBW.out.size), .inl ⟨HFJ.out, _, rfl, HBR.out.done⟩⟩

end Go.Proofs.Ytfepmbpcdfdlhaa

/- a system's table (plain; memory) -/
namespace Go.Proofs.Ytfepmbpcdfdlhaa
open Go.RowKit Go.Sort

/-- a table in the making, in memory -/
structure TabI (w : World) (gt base C : Nat) (VR : Value) (vs : List Value) (gs : List Nat) (T : List (List Int)) : Prop where
  tab : BTab w base C VR vs gs T
  t0 : w.cell? ⟨gt, 0, none⟩ = some VR
  t1 : w.cell? ⟨gt, 1, none⟩ = some (.slice none 0 0)
  t2 : w.cell? ⟨gt, 2, none⟩ = some (.pointer none)
  fz : ∀ j, w.frozen? ⟨gt, j, none⟩ = false
  lt : gt < base
  sz : base ≤ w.heap.size
section
variable {wr wx : World} {gt base C : Nat} {VR : Value} {vs : List Value} {gs : List Nat} {T : List (List Int)}
theorem TabI.below (h : TabI wr gt base C VR vs gs T) (hb : Below wr.heap.size wr wx) : TabI wx gt base C VR vs gs T :=
  ⟨h.tab.below hb, bat hb h.t0, bat hb h.t1, bat hb h.t2, fun j => bfz hb (World.block_lt_of_cell? wr ⟨gt, 0, none⟩ h.t0) (h.fz j), h.lt, Nat.le_trans h.sz hb.size⟩
theorem TabI.t0g {w2 : World} (h : TabI wr gt base C VR vs gs T) (hg : GrowK wr w2 VR.ownBlock Sk) : w2.cell? ⟨gt, 0, none⟩ = some VR ∧ w2.frozen? ⟨gt, 0, none⟩ = false := by
  have hlt := World.block_lt_of_cell? wr ⟨gt, 0, none⟩ h.t0
  have hne : w2.heap[gt]? = wr.heap[gt]? := hg.g.block gt hlt fun e => by
    have := (h.tab.own.own.lt gt e.symm).1
    have := h.lt
    omega
  exact ⟨(World.cell?_of_block (a := ⟨gt, 0, none⟩) hne).trans h.t0, (World.frozen?_of_block (a := ⟨gt, 0, none⟩) hne).trans (h.fz 0)⟩
theorem TabI.app {w1 w2 w3 : World} {base2 : Nat} {V' U : Value} {ps : List Nat} {zs : List Int} (h : TabI wr gt base C VR vs gs T)
    (hb : Below wr.heap.size wr w1) (hr : BRow w1 base2 U ps zs) (hl : zs.length = C) (hb2 : wr.heap.size ≤ base2) (hg : GrowK w1 w2 VR.ownBlock Sk)
    (ho : OwnR w2 base 82 1 Sk V' (vs.length + 1) (vs ++ [U])) (hw : w3 = w2.setCell ⟨gt, 0, none⟩ V') :
    (∃ gs', TabI w3 gt base C V' (vs ++ [U]) gs' (T ++ [zs])) ∧ Below gt w1 w3 := by
  have h1 := h.below hb
  obtain ⟨gs', h2⟩ := h.tab.app hb hr hl hb2 h.sz hg ho
  obtain ⟨AV, cV, hV, _, hVA⟩ := own_slice h.tab.own.own
  have hne : ∀ b, b < base → b < w1.heap.size → w2.heap[b]? = w1.heap[b]? := fun b hb1 hb2 => hg.g.block b hb2 fun e => by
    have := (h.tab.own.own.lt b e.symm).1
    omega
  have hs1 := h1.sz
  have hlt := h.lt
  have c : ∀ b o v, b < base → w1.cell? ⟨b, o, none⟩ = some v → w2.cell? ⟨b, o, none⟩ = some v := fun b o v hb hv =>
    (World.cell?_of_block (a := ⟨b, o, none⟩) (hne b hb (World.block_lt_of_cell? w1 ⟨b, o, none⟩ hv))).trans hv
  have e0 := c gt 0 _ hlt h1.t0
  have hbw : Below gt w1 w2 := (Below.refl _ _).grown hg.g (by omega) fun b e => by have := (h.tab.own.own.lt b e).1; omega
  have hu : UpS w2 w3 (fun b => b = gt) := by rw [hw]; exact upS_set e0 (fun kd x e => by rw [hV] at e; cases e)
  refine ⟨⟨gs', ⟨?_, by rw [hw]; exact set_self e0, ?_, ?_, fun j => ?_, hlt, Nat.le_trans h1.sz (Nat.le_trans hg.g.size hu.size)⟩⟩, hbw.trans (hu.below (fun k e => Nat.le_of_eq e.symm) (Nat.le_trans (by omega) hg.g.size))⟩
  · refine ⟨h2.own.ups hu (fun k e => by omega), h2.lT, h2.rct, h2.lg, h2.cell, fun hC i g ys hi hy => ?_, h2.nd, fun hC g hg => Nat.lt_of_lt_of_le (h2.lt hC g hg) hu.size, h2.ge⟩
    obtain ⟨qs, hq⟩ := h2.row hC i g ys hi hy
    have hgge := h2.ge hC g (List.mem_of_getElem? hi)
    refine ⟨qs, hq.ups hu (by omega) fun p hp e => ?_⟩
    subst e
    obtain ⟨k, hk⟩ := List.getElem?_of_mem hp
    obtain ⟨z, hz⟩ : ∃ z, ys[k]? = some z := ⟨_, List.getElem?_eq_getElem (by rw [← hq.len]; exact (List.getElem?_eq_some_iff.1 hk).1)⟩
    have h5 := (hq.int k p z hk hz).neg
    rw [e0] at h5
    rw [hV] at h5
    cases h5
  · rw [hw, set_other gt (by omega)]; exact c gt 1 _ hlt h1.t1
  · rw [hw, set_other gt (by omega)]; exact c gt 2 _ hlt h1.t2
  · rw [hw, set_frozen]
    have hlt1 := World.block_lt_of_cell? w1 ⟨gt, 0, none⟩ h1.t0
    rw [World.frozen?_of_block (a := ⟨gt, j, none⟩) (hne gt hlt hlt1)]
    exact h1.fz j
end

/-- a number of the system's table -/
def ent (low : Int) (d : DV) : Int := if d.top = 0 then 0 else d.top * 2 ^ (d.exp - low).toNat
def oneR (n i : Nat) : List Int := (List.range n).map fun k => if k = i then 1 else 0
def sysRow (ds : List DV) (n : Nat) (low : Int) (i : Nat) : List Int := ((ds.drop (i * n)).take n).map (ent low) ++ oneR n i
def sysT (ds : List DV) (n : Nat) (low : Int) (m : Nat) : List (List Int) := (List.range m).map (sysRow ds n low)
theorem sysT_succ (ds : List DV) (n : Nat) (low : Int) (m : Nat) : sysT ds n low (m + 1) = sysT ds n low m ++ [sysRow ds n low m] := by simp [sysT, List.range_succ]
theorem oneR_len (n i : Nat) : (oneR n i).length = n := by simp [oneR]
theorem oneR_take (n i k : Nat) (hk : k < n) : (oneR n i).take (k + 1) = (oneR n i).take k ++ [if k = i then 1 else 0] := by
  rw [List.take_add_one]
  congr 1
  unfold oneR
  rw [List.getElem?_map, List.getElem?_range hk]
  rfl
theorem sysRow_len {ds : List DV} {n : Nat} {low : Int} {i : Nat} (h : ds.length = n * n) (hi : i < n) : (sysRow ds n low i).length = n + n := by
  have h1 : (i + 1) * n ≤ n * n := Nat.mul_le_mul_right n hi
  rw [Nat.add_mul, Nat.one_mul] at h1
  unfold sysRow oneR
  simp
  omega
theorem sysT_rect {ds : List DV} {n : Nat} {low : Int} (h : ds.length = n * n) : rect (sysT ds n low n) n (n + n) := by
  refine ⟨by simp [sysT], fun row hr => ?_⟩
  obtain ⟨i, hi, rfl⟩ := List.mem_map.1 hr
  exact sysRow_len h (List.mem_range.1 hi)
theorem sysT_le {ds : List DV} {n : Nat} {low : Int} {M : Nat} (h : ∀ d ∈ ds, (ent low d).natAbs ≤ M) (hM : 1 ≤ M) (i k : Nat) : (tf (sysT ds n low n) i k).natAbs ≤ M := by
  cases hr : (sysT ds n low n)[i]? with
  | none => rw [tf_out hr]; simp
  | some row =>
    rw [tf_get hr, List.getD_eq_getElem?_getD]
    cases hz : row[k]? with
    | none => simp
    | some z =>
      have h1 := List.mem_of_getElem? hr
      obtain ⟨j, _, rfl⟩ := List.mem_map.1 h1
      have h2 := List.mem_of_getElem? hz
      rcases List.mem_append.1 h2 with h2 | h2
      · obtain ⟨d, hd, rfl⟩ := List.mem_map.1 h2
        exact h d (List.mem_of_mem_drop (List.mem_of_mem_take hd))
      · obtain ⟨x, _, rfl⟩ := List.mem_map.1 h2
        show (if x = j then (1 : Int) else 0).natAbs ≤ M
        split
        · exact hM
        · exact Nat.zero_le _

theorem spr_aux : ∀ (ds : List DV) (p : Int × Int), (ds.foldl sprStep p).1 ≤ p.1 ∧ p.2 ≤ (ds.foldl sprStep p).2 ∧ ∀ d ∈ ds, d.mag.length ≠ 0 → (ds.foldl sprStep p).1 ≤ d.exp ∧ d.exp + (blen (ln d.mag) : Int) ≤ (ds.foldl sprStep p).2
  | [], p => ⟨Int.le_refl _, Int.le_refl _, fun d h => by simp at h⟩
  | d :: ds, p => by
    obtain ⟨h1, h2, h3⟩ := spr_aux ds (sprStep p d)
    have h4 : (sprStep p d).1 ≤ p.1 ∧ p.2 ≤ (sprStep p d).2 ∧ (d.mag.length ≠ 0 → (sprStep p d).1 ≤ d.exp ∧ d.exp + (blen (ln d.mag) : Int) ≤ (sprStep p d).2) := by
      unfold sprStep
      split
      · rename_i e
        exact ⟨Int.le_refl _, Int.le_refl _, fun h => absurd e h⟩
      · simp only
        exact ⟨by omega, by omega, fun _ => ⟨by omega, by omega⟩⟩
    rw [List.foldl_cons]
    refine ⟨Int.le_trans h1 h4.1, Int.le_trans h4.2.1 h2, fun e he h0 => ?_⟩
    rcases List.mem_cons.1 he with rfl | he
    · have := h4.2.2 h0
      omega
    · exact h3 e he h0
theorem spr_ok {ds : List DV} (hr : ∀ d ∈ ds, rightDB d = true) (hl : ∀ d ∈ ds, Lds d.mag) : SprOk (sprS ds) := by
  unfold sprS
  suffices h : ∀ (ds : List DV) (p : Int × Int), SprOk p → (∀ d ∈ ds, rightDB d = true) → (∀ d ∈ ds, Lds d.mag) → SprOk (ds.foldl sprStep p) from h ds _ (.inl ⟨rfl, rfl⟩) hr hl
  intro ds
  induction ds with
  | nil => intro p hp _ _; exact hp
  | cons d ds ih =>
    intro p hp h1 h2
    rw [List.foldl_cons]
    exact ih _ (sprOk_step hp (h2 d (by simp)) (h1 d (by simp))) (fun e he => h1 e (List.mem_cons_of_mem _ he)) (fun e he => h2 e (List.mem_cons_of_mem _ he))
theorem spr_bounds {ds : List DV} (hr : ∀ d ∈ ds, rightDB d = true) (hl : ∀ d ∈ ds, Lds d.mag) : 0 ≤ sprW ds ∧ sprW ds ≤ 200000 ∧ -65536 ≤ sprL ds ∧ sprL ds ≤ 65536 ∧
    ∀ d ∈ ds, d.mag.length ≠ 0 → sprL ds ≤ d.exp ∧ d.exp + (blen (ln d.mag) : Int) ≤ sprL ds + sprW ds := by
  have h1 := spr_ok hr hl
  have h2 := (spr_aux ds (9223372036854775807, -9223372036854775808)).2.2
  have e : ds.foldl sprStep (9223372036854775807, -9223372036854775808) = sprS ds := rfl
  rw [e] at h2
  unfold SprOk at h1
  unfold sprW sprL
  rcases h1 with ⟨a, b⟩ | ⟨a, b, c, d⟩
  · rw [if_pos (by omega), if_pos (by omega)]
    refine ⟨by omega, by omega, by omega, by omega, fun d hd h0 => ?_⟩
    have h3 := h2 d hd h0
    have h4 := right_mag (hr d hd) h0
    omega
  · rw [if_neg (by omega), if_neg (by omega)]
    refine ⟨by omega, by omega, by omega, by omega, fun d hd h0 => ?_⟩
    have h3 := h2 d hd h0
    omega

end Go.Proofs.Ytfepmbpcdfdlhaa
