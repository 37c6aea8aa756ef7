import Derived.Test.YtfepmbpcdfdlhaaX07
set_option linter.unusedSimpArgs false
set_option linter.unusedVariables false
/- Rsh (numbers not below 0), ratio.limbs: the walks -/
namespace Go.Proofs.Ytfepmbpcdfdlhaa
open Go.RowKit Go.Sort

set_option maxRecDepth 100000 in
set_option maxHeartbeats 2000000 in
theorem rsh_int (b o b1 o1 : Nat) (z : Int) (x k : Nat) (w : World) (hz : IntAt w b o z) (hx : IntAt w b1 o1 (x : Int)) (hl : (dig x).length ≤ 10000000) (hk : k ≤ 100000000) :
    Calls Try.prog 89 #[.pointer (some ⟨b, o, none⟩), .pointer (some ⟨b1, o1, none⟩), .int .u64 (k : Int)] w (IntGot b o ((x / 2 ^ k : Nat) : Int) w) := by
  obtain ⟨A, n, c, s, HN, HS, h0, h1, hc, HR⟩ := hx.open
  rw [Int.natAbs_natCast] at HN HR
  rw [← HN.out] at hl
  have HZ := Lib.hid hz
  obtain rfl : s = false := by rw [HS.out]; simp
  clear hz hx
  have hR : RdE Wc 1 w (fun d => d < w.heap.size) A n (dig x) := HR.out.keep (fun _ _ => rfl)
  have HR' := Lib.hid hR
  obtain ⟨y, hy⟩ : ∃ y, y = x / 2 ^ k := ⟨_, rfl⟩
  rw [← hy]
  have HY := Lib.hid hy
  clear hR hy
  go_enter Try.func89, Try.ntmps89
  go_wp2_with fail
  refine (right_k _ _ _ x k _ _ HR'.out (fun b hb => hb) (by omega) hk).mono ?_
  rw [← HY.out]
  rintro e w1 ⟨A1, c1, rfl, hc1, hr1, hb1⟩
  have HR1 := Lib.hid hr1
  have HB1 := Lib.hid hb1
  clear hr1 hb1
  go_wp2_with fail
  refine (give_int _ _ (y : Int) z false A1 _ c1 w1 (HZ.out.below HB1.out) rfl hc1 (HR1.out.imp fun d hd => hd.2) (by simp)).mono ?_
  rintro e w2 ⟨rfl, hi2, hu2⟩
  have HI2 := Lib.hid hi2
  have HU2 := Lib.hid hu2
  clear hi2 hu2
  go_wp2_with fail
  go_ret
  exact ⟨rfl, HI2.out, Upd.after HB1.out HU2.out HZ.out.lt⟩

def M64 : Nat := 18446744073709551615
theorem M64_and (x : Nat) : x &&& M64 = x % 18446744073709551616 := Nat.and_two_pow_sub_one_eq_mod x 64
theorem setU_mask (b o : Nat) (z : Int) (w : World) (hz : IntAt w b o z) :
    Calls Try.prog 73 #[.pointer (some ⟨b, o, none⟩), .int .u64 18446744073709551615] w (IntGot b o (M64 : Int) w) :=
  setU_int b o z M64 w hz (by decide)
theorem M64_len : (dig M64).length ≤ 2 := dig_len_small (by decide)

theorem info_u64 : (Try.prog.info? 45).map (fun i => (i.zero, i.size, i.bytes)) = some (some (.int .u64 0), 1, 8) := by kernel_rfl
/-- the lowest k limbs of N -/
def lims (N k : Nat) : List Nat := (List.range k).map fun i => N / W64 ^ i % W64
theorem lims_succ (N k : Nat) : lims N (k + 1) = lims N k ++ [N / W64 ^ k % W64] := by simp [lims, List.range_succ]
theorem lims_all (N : Nat) : lims N ((blen N + 63) / 64) = lim N := by
  refine lim_of_get (by simp [lims]) rfl fun k x hx => ?_
  unfold lims at hx
  simp only [List.getElem?_map, Option.map_eq_some_iff] at hx
  obtain ⟨a, ha, rfl⟩ := hx
  obtain ⟨hl, e⟩ := List.getElem?_eq_some_iff.1 ha
  rw [List.getElem_range] at e
  rw [e]

set_option maxRecDepth 100000 in
set_option maxHeartbeats 4000000 in
theorem limbs_ratio (b o : Nat) (x : Nat) (w : World) (hx : IntAt w b o (x : Int)) (hl : (dig x).length ≤ 1000000) :
    Calls Try.prog 82 #[.pointer (some ⟨b, o, none⟩)] w fun e w' => ∃ A c, e = .returned (.slice A (lim x).length c) ∧ (lim x).length ≤ c ∧ RdE Lc 1 w' (fun b => w.heap.size ≤ b ∧ b < w'.heap.size) A (lim x).length (lim x) ∧ Below w.heap.size w w' := by
  obtain ⟨i0, hi0, hz0, hz1, hz2⟩ := info_parts' info_u64
  have HX := Lib.hid hx
  have hbl := blen_bound hl
  clear hx
  go_enter Try.func82, Try.ntmps82
  go_wp2_with fail
  refine (setU_mask _ 0 0 _ (new_intAt w)).mono ?_
  rintro e w1 ⟨rfl, hi1, hu1⟩
  have hb1 := newB hu1
  have HI1 := Lib.hid hi1
  have HB1 := Lib.hid hb1
  have HX1 := Lib.hid (HX.out.below hb1)
  have z1 := hb1.size
  have hml := hi1.lt
  clear hi1 hu1 hb1
  go_wp2_with fail
  refine (bitLen_int b o (x : Int) _ HX1.out (by rw [Int.natAbs_natCast]; omega)).mono ?_
  rintro e w' ⟨rfl, rfl⟩
  rw [Int.natAbs_natCast]
  obtain ⟨L, hL⟩ : ∃ L, L = (blen x + 63) / 64 := ⟨_, rfl⟩
  have hLi : ((blen x : Int) + 63) / 64 = (L : Int) := by omega
  have hLb : L ≤ 1000000 := by omega
  have HL := Lib.hid hL
  clear hL
  have HLI := Lib.hid hLi
  clear hLi
  go_wp2_with fail
  rw [HLI.out]
  go_loopw [3, 13] (fun ov iv wr => ∃ k : Nat, k ≤ L ∧ iv = .int .i64 k ∧ wr.ownsRow w1.heap.size 45 1 ov k ((lims x k).flatMap Lc) ∧ Below w1.heap.size w1 wr) (fun _ iv _ => L - (intOf iv).toNat)
  case atStart => exact ⟨0, Nat.zero_le _, rfl, World.ownsRow_nil .., Below.refl _ _⟩
  case round =>
    obtain ⟨k, hk, rfl, hown, hbw⟩ := hrel
    have hmask := HI1.out.below hbw
    have HO := Lib.hid hown
    have HM := Lib.hid hmask
    have HBW := Lib.hid hbw
    have zr := hbw.size
    have hmlr := hmask.lt
    clear hown hmask hbw
    by_cases hlt : k < L
    · have hlt' : (k : Int) < (L : Int) := by omega
      obtain ⟨kk, hkk⟩ : ∃ kk : Nat, kk = 64 * k := ⟨_, rfl⟩
      have hkc : 64 * (k : Int) = (kk : Int) := by omega
      have hkb : kk ≤ 100000000 := by omega
      have HKK := Lib.hid hkk
      clear hkk
      have HKL := Lib.hid (show k ≤ 1000000 by omega)
      go_wp2_with fail
      refine (rsh_int _ 0 b o 0 x kk _ (new_intAt wr) ((HX1.out.below HBW.out).below (below1 ..)) (by omega) hkb).mono ?_
      rintro e w2 ⟨rfl, hi2, hu2⟩
      obtain ⟨q, hq⟩ : ∃ q, q = x / 2 ^ kk := ⟨_, rfl⟩
      rw [← hq] at hi2
      have hb2 := newB hu2
      have HQ := Lib.hid hq
      have HI2 := Lib.hid hi2
      have HB2 := Lib.hid hb2
      have hql : (dig q).length ≤ 1000000 := by
        rw [hq]
        exact Nat.le_trans (dig_len_mono (Nat.div_le_self _ _)) hl
      have HQL := Lib.hid hql
      have HM2 := Lib.hid (HM.out.below hb2)
      have ho2 := own_below HO.out hb2
      have HO2 := Lib.hid ho2
      have z2 := hb2.size
      have hil := hi2.lt
      clear hi2 hu2 hb2 hql ho2 hq
      go_wp2_with fail
      refine (and_int _ 0 _ 0 _ 0 (q : Int) (q : Int) (M64 : Int) _ HI2.out HI2.out HM2.out (by omega) (by decide) (by rw [Int.natAbs_natCast]; have := HQL.out; omega) (by rw [Int.natAbs_natCast]; have := M64_len; omega)).mono ?_
      rintro e w3 ⟨rfl, hi3, hu3⟩
      rw [Int.natAbs_natCast, Int.natAbs_natCast, M64_and] at hi3
      have HI3 := Lib.hid hi3
      have hb3 : Below wr.heap.size wr w3 := HB2.out.trans (hu3.below (Nat.le_refl _) z2)
      have HB3 := Lib.hid hb3
      have ho3 := own_below HO.out hb3
      have HO3 := Lib.hid ho3
      have z3 := hb3.size
      have HU3 := Lib.hid hu3
      clear hi3 hu3 hb3 ho3
      go_wp2_with fail
      refine (uint64_int _ 0 ((q % 18446744073709551616 : Nat) : Int) _ HI3.out).mono ?_
      rintro e w' ⟨rfl, rfl⟩
      rw [Int.natAbs_natCast, Nat.mod_mod]
      obtain ⟨v, hv⟩ : ∃ v, v = q % 18446744073709551616 := ⟨_, rfl⟩
      rw [← hv]
      have HV := Lib.hid hv
      clear hv
      obtain ⟨A3, c3, rfl, hc3, _⟩ := own_slice HO3.out
      have hoA := HO3.out.alloc (.cells #[Value.int .u64 (v : Int)] 45)
      have HOA := Lib.hid hoA
      clear hoA
      go_wp2_with (at_builtin; go_must (refine wpList_append_rd _ rfl (.tmp 22) (.tmp 28) _ rfl w1.heap.size 45 i0 _ 1 8 Try.underlying41 hi0 hz0 hz1 hz2 rfl (by omega) (.slice A3 k c3) k ((lims x k).flatMap Lc) rfl HOA.out (fun _ => True) (some ⟨w3.heap.size, 0, none⟩) 1 1 [.int .u64 (v : Int)] rfl (rd_blk (blk_new ..) rfl trivial) (by simp [Value.oneCell']) (by have := HKL.out; simp only [maxLen]; omega) (by omega) (by simp; omega) ?_); intro v2 w4 hown4 hg4 hat4)
      have hle : (lims x k).flatMap Lc ++ [Value.int .u64 (v : Int)] = (lims x (k + 1)).flatMap Lc := by
        rw [lims_succ, List.flatMap_append]
        congr 1
        have e1 : W64 ^ k = 2 ^ kk := by rw [HKK.out, Nat.pow_mul]
        rw [HV.out, HQ.out, e1]
        rfl
      rw [hle] at hown4
      have HO4 := Lib.hid hown4
      have HB4 := Lib.hid (Below.grown (B := w1.heap.size) (Below.refl w1.heap.size (w3.alloc (.cells #[Value.int .u64 (v : Int)] 45))) hg4 (by simp; omega) (fun g hg => (HOA.out.lt g hg).1))
      have HA4 := Lib.hid hat4
      clear hown4 hg4 hle hat4
      go_roundw
      case rel => 
        exact ⟨k + 1, by omega, by go_num, HO4.out, (HBW.out.trans (HB3.out.mono zr)).trans (((below1 ..).mono (by omega)).trans HB4.out)⟩
      case measure => simp [intOf]; omega
    · obtain rfl : L = k := by omega
      go_wp2_with fail
      go_ret
      obtain ⟨A', c', e, hc', hh⟩ := own_slice HO.out
      have hown := HO.out
      rw [e] at hown
      have hLL : lims x L = lim x := by rw [HL.out, lims_all]
      have hlen : (lim x).length = L := by rw [← hLL]; simp [lims]
      rw [hLL] at hown
      have hr := (RdE.of_own (f := Lc) (size := 1) (fun _ => rfl) (by decide) hown).imp (S' := fun b => w.heap.size ≤ b ∧ b < wr.heap.size) (fun b h => ⟨Nat.le_trans z1 h.1, h.2.1⟩)
      rw [← hlen] at e hc' hr
      exact ⟨A', c', by rw [e]; rfl, hc', hr, HB1.out.trans (HBW.out.mono z1)⟩

end Go.Proofs.Ytfepmbpcdfdlhaa

/- common: the walk -/
namespace Go.Proofs.Ytfepmbpcdfdlhaa
open Go.RowKit Go.Sort

theorem RdE.unique {w : World} {S S' : Nat → Prop} {A : Option Addr} {n : Nat} {xs ys : List Nat} (h : RdE Wc 1 w S A n xs) (h' : RdE Wc 1 w S' A n ys) : xs = ys := by
  apply List.ext_getElem?
  intro i
  by_cases hi : i < n
  · obtain ⟨x, hx⟩ := get_some h.num hi
    obtain ⟨y, hy⟩ := get_some h'.num hi
    obtain ⟨b1, o1, rfl, _, hc⟩ := h.elem Wc.clen hx (by omega)
    obtain ⟨b2, o2, e, _, hc'⟩ := h'.elem Wc.clen hy (by omega)
    cases e
    have h5 := (hc 0 _ rfl).symm.trans (hc' 0 _ rfl)
    injection h5 with h5
    injection h5 with _ h5
    rw [hx, hy]
    congr 1
    omega
  · rw [List.getElem?_eq_none (by rw [h.num]; omega), List.getElem?_eq_none (by rw [h'.num]; omega)]
/-- the number whose words a slice reads (for a loop's measure) -/
noncomputable def wmu (w : World) (v : Value) : Nat := open Classical in
  if h : ∃ Y, ∃ (S : Nat → Prop) (A : Option Addr) (n c : Nat), v = .slice A n c ∧ RdE Wc 1 w S A n (dig Y) then Classical.choose h else 0
theorem wmu_of {w : World} {S : Nat → Prop} {A : Option Addr} {n c Y : Nat} (h : RdE Wc 1 w S A n (dig Y)) : wmu w (.slice A n c) = Y := by
  have hex : ∃ Y, ∃ (S : Nat → Prop) (A' : Option Addr) (n' c' : Nat), Value.slice A n c = .slice A' n' c' ∧ RdE Wc 1 w S A' n' (dig Y) := ⟨Y, S, A, n, c, rfl, h⟩
  unfold wmu
  rw [dif_pos hex]
  obtain ⟨S', A', n', c', e, h'⟩ := Classical.choose_spec hex
  injection e with e1 e2 e3
  subst e1 e2
  rw [← nv_dig (Classical.choose hex), h'.unique h, nv_dig]

def ComPost (G : Nat) (w : World) (e : Ending) (w' : World) : Prop := ∃ A' c', e = .returned (.slice A' (dig G).length c') ∧ (dig G).length ≤ c' ∧ RdE Wc 1 w' (fun b => b < w'.heap.size) A' (dig G).length (dig G) ∧ Below w.heap.size w w'

set_option maxRecDepth 100000 in
set_option maxHeartbeats 8000000 in
theorem common_any (A B : Option Addr) (n m c d : Nat) (x y : Nat) (w : World) (hx : RdE Wc 1 w (fun b => b < w.heap.size) A n (dig x)) (hy : RdE Wc 1 w (fun b => b < w.heap.size) B m (dig y)) (hn : n ≤ 1000000) (hm : m ≤ 1000000) (hnc : n ≤ c) (hmc : m ≤ d) :
    Calls Try.prog 106 #[.slice A n c, .slice B m d] w (ComPost (Nat.gcd x y) w) := by
  have HX := Lib.hid hx
  have HY := Lib.hid hy
  clear hx hy
  go_enter Try.func106, Try.ntmps106
  go_wp2_with fail
  go_loopw [0, 1] (fun av bv wr => ∃ (A : Option Addr) (n c : Nat) (B : Option Addr) (m d X Y : Nat), av = .slice A n c ∧ bv = .slice B m d ∧ RdE Wc 1 wr (fun b => b < wr.heap.size) A n (dig X) ∧ RdE Wc 1 wr (fun b => b < wr.heap.size) B m (dig Y) ∧ n ≤ 1000000 ∧ m ≤ 1000000 ∧ n ≤ c ∧ m ≤ d ∧ Nat.gcd X Y = Nat.gcd x y ∧ Below w.heap.size w wr) (fun _ bv wr => wmu wr bv)
  case atStart => exact ⟨A, n, c, B, m, d, x, y, rfl, rfl, HX.out, HY.out, hn, hm, hnc, hmc, rfl, Below.refl _ _⟩
  case round =>
    obtain ⟨A, n, c, B, m, d, X, Y, rfl, rfl, hx, hy, hn, hm, hnc, hmc, hg, hbw⟩ := hrel
    have HX1 := Lib.hid hx
    have HY1 := Lib.hid hy
    have HG := Lib.hid hg
    have HBW := Lib.hid hbw
    clear hx hy hg hbw HX HY
    by_cases hm2 : 2 < m
    · have hY0 : Y ≠ 0 := by intro e; have := HY1.out.num; rw [e, dig_zero] at this; simp at this; omega
      go_wp2_with fail
      refine (div_any _ _ _ _ _ _ X Y wr HX1.out HY1.out (by omega) (by omega) hY0).mono ?_
      rintro e w1 ⟨A1, c1, A2, c2, rfl, hc1, hc2, hr1, hr2, hb1⟩
      have hlt : X % Y < Y := Nat.mod_lt _ (by omega)
      have hlen := dig_len_mono (Nat.le_of_lt hlt)
      rw [HY1.out.num] at hlen
      have HR2 := Lib.hid hr2
      have HB1 := Lib.hid hb1
      have HY2 := Lib.hid ((HY1.out.keep (Keeps.below hb1 (fun b hb => hb))).imp (S' := fun b => b < w1.heap.size) fun b hb => Nat.lt_of_lt_of_le hb hb1.size)
      have HLT := Lib.hid hlt
      clear hr1 hr2 hb1 hlt
      go_wp2_with fail
      refine ⟨⟨B, m, d, A2, _, c2, Y, X % Y, rfl, rfl, HY2.out, HR2.out.imp fun b hb => hb.2, hm, by omega, hmc, hc2, ?_, below_then HBW.out HB1.out⟩, ?_⟩
      · rw [← HG.out, Nat.gcd_comm X Y, Nat.gcd_rec Y X]; exact Nat.gcd_comm _ _
      · show wmu w1 _ < wmu wr _
        rw [wmu_of HR2.out, wmu_of HY1.out]
        exact HLT.out
    · by_cases hm0 : m = 0
      · subst hm0
        have hY0 : Y = 0 := dig_len_zero.1 HY1.out.num
        subst hY0
        have hgx : X = Nat.gcd x y := by rw [← HG.out, Nat.gcd_zero_right]
        subst hgx
        have hl := HX1.out.num
        subst hl
        go_wp2_with fail
        go_ret
        exact ⟨A, c, rfl, hnc, HX1.out, HBW.out⟩
      · have e0 : ((m : Int) == 0) = false := by simp; omega
        have hY0 : Y ≠ 0 := by intro e; have := HY1.out.num; rw [e, dig_zero] at this; simp at this; omega
        by_cases hn2 : 2 < n
        · go_wp2_with fail
          refine (div_any _ _ _ _ _ _ X Y wr HX1.out HY1.out (by omega) (by omega) hY0).mono ?_
          rintro e w1 ⟨A1, c1, A2, c2, rfl, hc1, hc2, hr1, hr2, hb1⟩
          have hlt : X % Y < Y := Nat.mod_lt _ (by omega)
          have hlen := dig_len_mono (Nat.le_of_lt hlt)
          rw [HY1.out.num] at hlen
          have HR2 := Lib.hid hr2
          have HB1 := Lib.hid (below_then HBW.out hb1)
          have HY2 := Lib.hid ((HY1.out.keep (Keeps.below hb1 (fun b hb => hb))).imp (S' := fun b => b < w1.heap.size) fun b hb => Nat.lt_of_lt_of_le hb hb1.size)
          have hg2 : Nat.gcd Y (X % Y) = Nat.gcd x y := by rw [← HG.out, Nat.gcd_comm X Y, Nat.gcd_rec Y X]; exact Nat.gcd_comm _ _
          have HG2 := Lib.hid hg2
          have px : pl (dig Y) = Y := nv_two (by rw [HY1.out.num]; omega)
          have py : pl (dig (X % Y)) = X % Y := nv_two (by omega)
          have PX := Lib.hid px
          have PY := Lib.hid py
          have yl := small_dig (x := Y) (by rw [HY1.out.num]; omega)
          have xl := small_dig (x := X % Y) (by omega)
          clear hr1 hr2 hb1 hlt hg2 px py
          go_wp2_with fail
          refine (plain_any _ _ _ _ _ _ HY2.out (dig_wds _)).mono ?_
          rintro e w' ⟨rfl, rfl⟩
          rw [PX.out]
          go_wp2_with fail
          refine (plain_any _ _ _ _ _ _ HR2.out (dig_wds _)).mono ?_
          rintro e w' ⟨rfl, rfl⟩
          rw [PY.out]
          obtain ⟨P, hP⟩ : ∃ P, P = X % Y := ⟨_, rfl⟩
          rw [← hP] at xl HG2
          rw [← hP]
          clear hP PX PY HR2
          go_wp2_with fail
          go_loopw [9, 10] (fun xv yv wz => ∃ U V : Nat, xv = .int .u64 U ∧ yv = .int .u64 V ∧ U < 18446744073709551616 ∧ V < 18446744073709551616 ∧ Nat.gcd U V = Nat.gcd x y ∧ Below w.heap.size w wz) (fun _ yv _ => (intOf yv).toNat)
          case atStart => exact ⟨Y, P, rfl, rfl, yl, xl, HG2.out, HB1.out⟩
          case round =>
            obtain ⟨U, V, rfl, rfl, hU, hV, hg3, hb3⟩ := hrel
            have HG3 := Lib.hid hg3
            have HB3 := Lib.hid hb3
            clear hg3 hb3
            by_cases hV0 : V = 0
            · subst hV0
              have hUx : U = Nat.gcd x y := by rw [← HG3.out, Nat.gcd_zero_right]
              have HUX := Lib.hid hUx
              clear hUx
              go_wp2_with fail
              refine (words_any U _ hU).mono ?_
              rintro e w7 ⟨A7, c7, rfl, hc7, hr7, hb7⟩
              have HR7 := Lib.hid hr7
              have HB7 := Lib.hid hb7
              clear hr7 hb7
              go_wp2_with fail
              go_ret
              rw [← HUX.out]
              exact ⟨A7, c7, rfl, hc7, HR7.out.imp fun b hb => hb.2, below_then HB3.out HB7.out⟩
            · have hmod : (U : Int).tmod (V : Int) = ((U % V : Nat) : Int) := by rw [Int.tmod_eq_emod_of_nonneg (by omega)]; rfl
              have hVp : (0 : Int) < (V : Int) := by omega
              have hlt : U % V < V := Nat.mod_lt _ (by omega)
              have HLT := Lib.hid hlt
              clear hlt
              go_wp2_with fail
              go_quiet (fail)
              clear hmod
              go_wp2_with fail
              refine ⟨⟨V, U % V, rfl, rfl, hV, by have := HLT.out; omega, ?_, below_drewN HB3.out _⟩, ?_⟩
              · rw [← HG3.out, Nat.gcd_comm U V, Nat.gcd_rec V U]; exact Nat.gcd_comm _ _
              · have := HLT.out
                show ((U % V : Nat) : Int).toNat < (V : Int).toNat
                omega
        · have px : pl (dig X) = X := nv_two (by rw [HX1.out.num]; omega)
          have py : pl (dig Y) = Y := nv_two (by rw [HY1.out.num]; omega)
          have PX := Lib.hid px
          have PY := Lib.hid py
          have xl := small_dig (x := X) (by rw [HX1.out.num]; omega)
          have yl := small_dig (x := Y) (by rw [HY1.out.num]; omega)
          clear px py
          go_wp2_with fail
          refine (plain_any _ _ _ _ _ _ HX1.out (dig_wds _)).mono ?_
          rintro e w' ⟨rfl, rfl⟩
          rw [PX.out]
          go_wp2_with fail
          refine (plain_any _ _ _ _ _ _ HY1.out (dig_wds _)).mono ?_
          rintro e w' ⟨rfl, rfl⟩
          rw [PY.out]
          clear PX PY
          go_wp2_with fail
          go_loopw [9, 10] (fun xv yv wz => ∃ U V : Nat, xv = .int .u64 U ∧ yv = .int .u64 V ∧ U < 18446744073709551616 ∧ V < 18446744073709551616 ∧ Nat.gcd U V = Nat.gcd x y ∧ Below w.heap.size w wz) (fun _ yv _ => (intOf yv).toNat)
          case atStart => exact ⟨X, Y, rfl, rfl, xl, yl, HG.out, HBW.out⟩
          case round =>
            obtain ⟨U, V, rfl, rfl, hU, hV, hg3, hb3⟩ := hrel
            have HG3 := Lib.hid hg3
            have HB3 := Lib.hid hb3
            clear hg3 hb3
            by_cases hV0 : V = 0
            · subst hV0
              have hUx : U = Nat.gcd x y := by rw [← HG3.out, Nat.gcd_zero_right]
              have HUX := Lib.hid hUx
              clear hUx
              go_wp2_with fail
              refine (words_any U _ hU).mono ?_
              rintro e w7 ⟨A7, c7, rfl, hc7, hr7, hb7⟩
              have HR7 := Lib.hid hr7
              have HB7 := Lib.hid hb7
              clear hr7 hb7
              go_wp2_with fail
              go_ret
              rw [← HUX.out]
              exact ⟨A7, c7, rfl, hc7, HR7.out.imp fun b hb => hb.2, below_then HB3.out HB7.out⟩
            · have hmod : (U : Int).tmod (V : Int) = ((U % V : Nat) : Int) := by rw [Int.tmod_eq_emod_of_nonneg (by omega)]; rfl
              have hVp : (0 : Int) < (V : Int) := by omega
              have hlt : U % V < V := Nat.mod_lt _ (by omega)
              have HLT := Lib.hid hlt
              clear hlt
              go_wp2_with fail
              go_quiet (fail)
              clear hmod
              go_wp2_with fail
              refine ⟨⟨V, U % V, rfl, rfl, hV, by have := HLT.out; omega, ?_, below_drewN HB3.out _⟩, ?_⟩
              · rw [← HG3.out, Nat.gcd_comm U V, Nat.gcd_rec V U]; exact Nat.gcd_comm _ _
              · have := HLT.out
                show ((U % V : Nat) : Int).toNat < (V : Int).toNat
                omega

end Go.Proofs.Ytfepmbpcdfdlhaa

/- ratios in lowest terms -/
namespace Go.Proofs.Ytfepmbpcdfdlhaa

theorem rn_pos {a b : Int} (hb : 0 < b) : (Rat.divInt a b).num = a / ((Nat.gcd a.natAbs b.natAbs : Nat) : Int) ∧ (Rat.divInt a b).den = b.natAbs / Nat.gcd a.natAbs b.natAbs := by
  rw [Rat.num_divInt, Rat.den_divInt, if_neg (by omega)]
  have e : b.gcd a = Nat.gcd a.natAbs b.natAbs := by rw [Int.gcd_comm]; rfl
  rw [e, Int.sign_eq_one_of_pos hb, Int.one_mul]
  exact ⟨rfl, rfl⟩
theorem rn_num {a b : Int} (hb : 0 < b) : (Rat.divInt a b).num.natAbs = a.natAbs / Nat.gcd a.natAbs b.natAbs ∧ ((Rat.divInt a b).num < 0 ↔ a < 0) := by
  rw [(rn_pos hb).1]
  have hg : 0 < Nat.gcd a.natAbs b.natAbs := Nat.gcd_pos_of_pos_right _ (by omega)
  have hd : Nat.gcd a.natAbs b.natAbs ∣ a.natAbs := Nat.gcd_dvd_left _ _
  generalize Nat.gcd a.natAbs b.natAbs = g at *
  obtain ⟨k, hk⟩ := hd
  rw [hk, Nat.mul_div_cancel_left _ hg]
  rcases Int.natAbs_eq a with h | h
  · rw [h, hk, Int.natCast_mul, Int.mul_ediv_cancel_left _ (by omega)]
    constructor
    · omega
    · constructor
      · intro h2; omega
      · intro h2
        have : (0 : Int) ≤ (g : Int) * (k : Int) := Int.mul_nonneg (by omega) (by omega)
        omega
  · rw [h, hk, Int.natCast_mul, ← Int.mul_neg, Int.mul_ediv_cancel_left _ (by omega)]
    constructor
    · omega
    · constructor
      · intro h2
        have : (0 : Int) < (g : Int) * (k : Int) := Int.mul_pos (by omega) (by omega)
        rw [Int.mul_neg]; omega
      · intro h2
        by_cases hk0 : k = 0
        · subst hk0; simp at h2
        · omega
theorem rn_neg (a b : Int) : Rat.divInt (-a) (-b) = Rat.divInt a b := by
  by_cases hb : b = 0
  · subst hb; simp
  · rw [Rat.divInt_eq_divInt_iff (by omega) hb]
    grind

end Go.Proofs.Ytfepmbpcdfdlhaa
