import Derived.Test.YtmeljjijofkllaaE5g
namespace Go.Proofs.Ytmeljjijofkllaa
open Go.RowKit Go.Sort

set_option maxRecDepth 100000 in
set_option maxHeartbeats 1000000 in
theorem bounds_any (A A' : Option Addr) (n m c c' : Nat) (L : List (List Spn)) (rs : List Rng) (S S' : Nat → Prop) (w : World) (hx : RdRows Spn.cells 2 w S A n L) (hS : ∀ b, S b → b < w.heap.size) (hr : RdE Rng.cells 4 w S' A' m rs) (hS' : ∀ b, S' b → b < w.heap.size)
    (hn : n ≤ 1000000000) (hm : m ≤ 8796093021952) (he : ∀ (i : Nat) (l : List Spn), L[i]? = some l → l.length = m) (hg : ∀ (k : Nat) (r : Rng), rs[k]? = some r → GoodR L k r) (h0 : n = 0 → m = 0) :
    Calls Try.prog 11 #[.slice A' m c', .slice A n c] w fun e w' => e = .returned (.bool true) ∧ Below w.heap.size w w' := by
  have HX := Lib.hid hx
  have HR := Lib.hid hr
  have HS := Lib.hid hS
  have HS' := Lib.hid hS'
  have HE := Lib.hid he
  have HG := Lib.hid hg
  clear hx hS hr hS' he hg
  by_cases hn0 : n = 0
  · obtain rfl := h0 hn0
    subst hn0
    clear h0
    go_enter Try.func11, Try.ntmps11
    go_wp2
    go_ret
    exact ⟨rfl, Below.refl _ _⟩
  · have hn0 : 0 < n := by omega
    clear h0
    have hne : ((n : Int) == 0) = false := by simp; omega
    obtain ⟨l0, hl0⟩ := get_some HX.out.num hn0
    obtain ⟨b0, o0, A0, c0, rfl, hSb0, hcell0, hlc0, hr0⟩ := HX.out.row hl0
    rw [Nat.add_zero, HE.out 0 l0 hl0] at hcell0
    have HL0 := Lib.hid hl0
    clear hl0 hr0 hlc0
    go_enter Try.func11, Try.ntmps11
    go_wp2
    go_loopw [5] (fun i wr => ∃ k : Nat, k ≤ m ∧ i = .int .i64 k ∧ Below w.heap.size w wr) (fun i _ => m - (intOf i).toNat)
    case atStart => exact ⟨0, Nat.zero_le _, rfl, Below.refl _ _⟩
    case round =>
      obtain ⟨k, hk, rfl, hb⟩ := hrel
      have HB := Lib.hid hb
      clear hb
      by_cases hlt : k < m
      · obtain ⟨r, ex⟩ := get_some HR.out.num hlt
        obtain ⟨b1, o1, rfl, hb1, hc⟩ := HR.out.elem Rng.clen ex (by omega)
        have hc0 : wr.cell? ⟨b1, o1 + k * 4, none⟩ = some (.float .f64 r.least.at_) := (HB.out.cell (p := ⟨b1, _, none⟩) (HS'.out _ hb1)).trans (hc 0 _ rfl)
        have hc1 : wr.cell? ⟨b1, o1 + k * 4 + 1, none⟩ = some (.int .i64 r.least.of_) := (HB.out.cell (p := ⟨b1, _, none⟩) (HS'.out _ hb1)).trans (hc 1 _ rfl)
        have hc2 : wr.cell? ⟨b1, o1 + k * 4 + 2, none⟩ = some (.float .f64 r.most.at_) := (HB.out.cell (p := ⟨b1, _, none⟩) (HS'.out _ hb1)).trans (hc 2 _ rfl)
        have hc3 : wr.cell? ⟨b1, o1 + k * 4 + 3, none⟩ = some (.int .i64 r.most.of_) := (HB.out.cell (p := ⟨b1, _, none⟩) (HS'.out _ hb1)).trans (hc 3 _ rfl)
        obtain ⟨⟨ra, ri⟩, ⟨rb, rj⟩⟩ := r
        obtain ⟨i1, i2, l1, l2, s1, s2, hi1, hi2, hl1, hl2, hs1, hs2, hf1, hf2, hall⟩ := HG.out k _ ex
        simp only at hi1 hi2 hf1 hf2 hall hc0 hc1 hc2 hc3
        subst hi1 hi2
        clear hc ex
        have hin1 : i1 < n := by rw [← HX.out.num]; exact (List.getElem?_eq_some_iff.1 hl1).1
        have hin2 : i2 < n := by rw [← HX.out.num]; exact (List.getElem?_eq_some_iff.1 hl2).1
        obtain ⟨b3, o3, A3, c3, e3, hSb3, hcell3, hlc3, hr3⟩ := HX.out.row hl1
        simp only [Option.some.injEq, Addr.mk.injEq, and_true] at e3
        obtain ⟨rfl, rfl⟩ := e3
        obtain ⟨b4, o4, A4, c4, e4, hSb4, hcell4, hlc4, hr4⟩ := HX.out.row hl2
        simp only [Option.some.injEq, Addr.mk.injEq, and_true] at e4
        obtain ⟨rfl, rfl⟩ := e4
        obtain ⟨b5, o5, rfl, hSb5, hd5⟩ := hr3.elem Spn.clen hs1 (by omega)
        obtain ⟨b6, o6, rfl, hSb6, hd6⟩ := hr4.elem Spn.clen hs2 (by omega)
        rw [HE.out _ _ hl1] at hcell3
        rw [HE.out _ _ hl2] at hcell4
        have q3 := (HB.out.cell (p := ⟨b0, _, none⟩) (HS.out _ hSb3)).trans hcell3
        have q4 := (HB.out.cell (p := ⟨b0, _, none⟩) (HS.out _ hSb4)).trans hcell4
        have q5 : wr.cell? ⟨b5, o5 + k * 2, none⟩ = some (.float .f64 s1.lo) := (HB.out.cell (p := ⟨b5, _, none⟩) (HS.out _ hSb5)).trans (hd5 0 _ rfl)
        have q6 : wr.cell? ⟨b6, o6 + k * 2 + 1, none⟩ = some (.float .f64 s2.hi) := (HB.out.cell (p := ⟨b6, _, none⟩) (HS.out _ hSb6)).trans (hd6 1 _ rfl)
        have hn1 : (FloatKind.f64.format.order s1.lo ra != some .eq) = false := by unfold feq at hf1; simp [bne, hf1]
        have hn2 : (FloatKind.f64.format.order s2.hi rb != some .eq) = false := by unfold feq at hf2; simp [bne, hf2]
        have HA := Lib.hid hall
        clear hl1 hl2 hs1 hs2 hf1 hf2 hall hcell3 hcell4 hlc3 hlc4 hr3 hr4 hd5 hd6 hcell0
        have e0 := World.new_ne wr _ hc0
        have e1 := World.new_ne wr _ hc1
        have e2 := World.new_ne wr _ hc2
        have e3 := World.new_ne wr _ hc3
        go_upto_region 8 with fail
        go_cut [6, 7] (fun s6 s7 wx => ∃ g1 g2 : Nat, s6 = .pointer (some ⟨g1, 0, none⟩) ∧ s7 = .pointer (some ⟨g2, 0, none⟩) ∧ wx.cell? ⟨g1, 0, none⟩ = some (.float .f64 ra) ∧ wx.cell? ⟨g1, 1, none⟩ = some (.int .i64 i1) ∧ wx.cell? ⟨g2, 0, none⟩ = some (.float .f64 rb) ∧ wx.cell? ⟨g2, 1, none⟩ = some (.int .i64 i2) ∧ Below wr.heap.size wr wx)
        case first =>
          go_region_held3 (fun w' => w'.cell? ⟨b1, o1 + k * 4, none⟩ = some (.float .f64 ra) ∧ w'.cell? ⟨b1, o1 + k * 4 + 1, none⟩ = some (.int .i64 i1) ∧ w'.cell? ⟨b1, o1 + k * 4 + 2, none⟩ = some (.float .f64 rb) ∧ w'.cell? ⟨b1, o1 + k * 4 + 3, none⟩ = some (.int .i64 i2)) (go_keep) (fail)
          all_goals (go_wp2_with fail; go_meet)
          all_goals (refine ⟨_, _, rfl, rfl, ?_, ?_, ?_, ?_, (below2 ..).drew⟩ <;> simp [go_sem])
        case rest =>
          obtain ⟨g1, g2, rfl, rfl, p0, p1, p2, p3, hbx⟩ := hcut
          have HBX := Lib.hid hbx
          have q3 := bat hbx q3
          have q4 := bat hbx q4
          have q5 := bat hbx q5
          have q6 := bat hbx q6
          clear hbx hc0 hc1 hc2 hc3 e0 e1 e2 e3
          have x1 : decide ((i1 : Int) < 0) = false := by simp
          have x2 : decide (n ≤ i1) = false := by simp; omega
          have x3 : decide ((i2 : Int) < 0) = false := by simp
          have x4 : decide (n ≤ i2) = false := by simp; omega
          go_wp2_with fail
          go_quiet (fail)
          clear q3 q4 q5 q6 x1 x2 x3 x4
          go_wp2
          obtain ⟨wo, rfl⟩ : ∃ wo : World, wo = wc := ⟨_, rfl⟩
          go_loopw [8] (fun i wr => ∃ t : Nat, t ≤ n ∧ i = .int .i64 t ∧ Below wo.heap.size wo wr) (fun i _ => n - (intOf i).toNat)
          case atStart => exact ⟨0, Nat.zero_le _, rfl, below_drewN (Below.refl _ _) _⟩
          case round =>
            obtain ⟨t, ht, rfl, hbt⟩ := hrel
            have HBT := Lib.hid hbt
            clear hbt
            by_cases hlt : t < n
            · obtain ⟨l, hl⟩ := get_some HX.out.num hlt
              obtain ⟨b, o, A1, c1, e1, hSb, hcell, hlc, hr⟩ := HX.out.row hl
              simp only [Option.some.injEq, Addr.mk.injEq, and_true] at e1
              obtain ⟨rfl, rfl⟩ := e1
              obtain ⟨s, hs⟩ := get_some (HE.out _ _ hl) (show k < m by omega)
              obtain ⟨b7, o7, rfl, hSb7, hd7⟩ := hr.elem Spn.clen hs (by omega)
              rw [HE.out _ _ hl] at hcell
              have hbb := HB.out.trans ((below_then HBX.out HBT.out).mono HB.out.size)
              have q3 := (hbb.cell (p := ⟨b0, _, none⟩) (HS.out _ hSb)).trans hcell
              have q4 : wr.cell? ⟨b7, o7 + k * 2, none⟩ = some (.float .f64 s.lo) := (hbb.cell (p := ⟨b7, _, none⟩) (HS.out _ hSb7)).trans (hd7 0 _ rfl)
              have q5 : wr.cell? ⟨b7, o7 + k * 2 + 1, none⟩ = some (.float .f64 s.hi) := (hbb.cell (p := ⟨b7, _, none⟩) (HS.out _ hSb7)).trans (hd7 1 _ rfl)
              have r0 := bat HBT.out p0
              have r1 := bat HBT.out p1
              have r2 := bat HBT.out p2
              have r3 := bat HBT.out p3
              have z0 := World.block_lt_of_cell? _ _ r0
              have z2 := World.block_lt_of_cell? _ _ r2
              obtain ⟨y1, y2, y3, y4⟩ := HA.out t l s hl hs
              have v1 : (FloatKind.f64.format.order s.lo ra == some .lt) = false := y1
              have v2 : (FloatKind.f64.format.order s.hi rb == some .gt) = false := y2
              simp only at z0 z2
              clear hbb hcell hlc hr hd7 hl hs p0 p1 p2 p3 y1 y2
              rcases Nat.lt_or_ge t i1 with w1 | w1 <;> rcases Nat.lt_or_ge t i2 with w2 | w2
              · have v3 : (FloatKind.f64.format.order s.lo ra == some .eq) = false := y3 w1
                have v4 : (FloatKind.f64.format.order s.hi rb == some .eq) = false := y4 w2
                clear y3 y4
                go_wp2
                first
                  | exact ⟨⟨t + 1, by omega, by go_num, below_then HBT.out (below1 ..)⟩, by simp [intOf]; omega⟩
                  | (refine ⟨?_, by simp [intOf]; omega⟩; (repeat apply Exists.intro); exact ⟨⟨t + 1, by omega, by go_num, below_then HBT.out (below1 ..)⟩, rfl⟩)
              · have v3 : (FloatKind.f64.format.order s.lo ra == some .eq) = false := y3 w1
                clear y3 y4
                go_wp2
                first
                  | exact ⟨⟨t + 1, by omega, by go_num, below_then HBT.out (below1 ..)⟩, by simp [intOf]; omega⟩
                  | (refine ⟨?_, by simp [intOf]; omega⟩; (repeat apply Exists.intro); exact ⟨⟨t + 1, by omega, by go_num, below_then HBT.out (below1 ..)⟩, rfl⟩)
              · have v4 : (FloatKind.f64.format.order s.hi rb == some .eq) = false := y4 w2
                clear y3 y4
                go_wp2
                first
                  | exact ⟨⟨t + 1, by omega, by go_num, below_then HBT.out (below1 ..)⟩, by simp [intOf]; omega⟩
                  | (refine ⟨?_, by simp [intOf]; omega⟩; (repeat apply Exists.intro); exact ⟨⟨t + 1, by omega, by go_num, below_then HBT.out (below1 ..)⟩, rfl⟩)
              · clear y3 y4
                go_wp2
                first
                  | exact ⟨⟨t + 1, by omega, by go_num, below_then HBT.out (below1 ..)⟩, by simp [intOf]; omega⟩
                  | (refine ⟨?_, by simp [intOf]; omega⟩; (repeat apply Exists.intro); exact ⟨⟨t + 1, by omega, by go_num, below_then HBT.out (below1 ..)⟩, rfl⟩)
            · obtain rfl : n = t := by omega
              clear p0 p1 p2 p3
              go_wp2
              exact ⟨⟨k + 1, by omega, by go_num, HB.out.trans ((below_then HBX.out HBT.out).mono HB.out.size)⟩, by simp [intOf]; omega⟩
      · obtain rfl : m = k := by omega
        go_wp2
        go_ret
        exact ⟨rfl, HB.out⟩

end Go.Proofs.Ytmeljjijofkllaa
