import Derived.Test.YtjokpfgncmdomaaGreatDoorX14
import Derived.Laws.Externs
import Derived.Laws.FloatArith
set_option linter.unusedSimpArgs false
set_option linter.unusedVariables false
/- dyad.limbs: the walk -/
namespace Go.Proofs.YtjokpfgncmdomaaGreatDoor
open Go.RowKit Go.Sort

theorem own_upd {w w' : World} {base e size n b o : Nat} {v : Value} {xs : List Value} (h : w.ownsRow base e size v n xs) (hu : Upd w w' b o) (hb : b < base) : w'.ownsRow base e size v n xs := by
  refine ⟨h.1, ?_⟩
  rcases h.2 with h1 | ⟨g, cap, cur, hs, hbs, hg, hr⟩
  · exact .inl h1
  · exact .inr ⟨g, cap, cur, hs, hbs, (hu.blk g (Array.getElem?_eq_some_iff.1 hg).1 (by omega)).trans hg, hr⟩
def slLen : Value → Nat
  | .slice _ n _ => n
  | _ => 0

set_option maxRecDepth 100000 in
set_option maxHeartbeats 4000000 in
theorem limbs_dyad (b o : Nat) (x : Int) (w : World) (hx : IntAt w b o x) (hl : (dig x.natAbs).length ≤ 1000000) :
    Calls Tryz.prog 144 #[.pointer (some ⟨b, o, none⟩)] w fun e w' => ∃ A c, e = .returned (.slice A (lim x.natAbs).length c) ∧ (lim x.natAbs).length ≤ c ∧ RdE Lc 1 w' (fun b => w.heap.size ≤ b ∧ b < w'.heap.size) A (lim x.natAbs).length (lim x.natAbs) ∧ Below w.heap.size w w' := by
  obtain ⟨i0, hi0, hz0, hz1, hz2⟩ := info_parts' info_u64
  have HX := Lib.hid hx
  obtain ⟨X, hX⟩ : ∃ X, X = x.natAbs := ⟨_, rfl⟩
  rw [← hX] at hl ⊢
  have EX := Lib.hid hX
  have HXL := Lib.hid hl
  have hLL : (lim X).length ≤ 1000000 := by rw [lim_len]; have := blen_bound hl; omega
  have HLL := Lib.hid hLL
  clear hx hX hl hLL
  go_enter Tryz.func144, Tryz.ntmps144
  go_wp2_with fail
  refine (abs_int _ 0 b o 0 x _ (new_intAt w) (HX.out.below (below1 ..)) (by rw [← EX.out]; have := HXL.out; omega)).mono ?_
  rintro e w1 ⟨rfl, hi1, hu1⟩
  rw [← EX.out] at hi1
  have hb1 := newB hu1
  have HI1 := Lib.hid hi1
  have HB1 := Lib.hid hb1
  have hp1 := hi1.lt
  clear hi1 hu1 hb1
  go_wp2_with fail
  have hn2 : IntAt ((w1.alloc newI).alloc newI) (w1.heap.size + 1) 0 0 := by have h := new_intAt (w1.alloc newI); rwa [World.size_alloc] at h
  refine (setU_mask (w1.heap.size + 1) 0 0 ((w1.alloc newI).alloc newI) hn2).mono ?_
  rintro e w2 ⟨rfl, hi2, hu2⟩
  have hb2 : Below (w1.alloc newI).heap.size (w1.alloc newI) w2 := newB (w := w1.alloc newI) (by rwa [World.size_alloc])
  have z2 := hb2.size
  have HI2 := Lib.hid hi2
  have HQ2 := Lib.hid ((new_intAt w1).below hb2)
  have HP2 := Lib.hid ((HI1.out.below (below1 w1 newI)).below hb2)
  have HB2 := Lib.hid ((HB1.out.trans ((below1 w1 newI).mono HB1.out.size)).trans (hb2.mono (by simp; omega)))
  have hm2 := hi2.lt
  have hq2 := HQ2.out.lt
  have hs1 : (w1.alloc newI).heap.size = w1.heap.size + 1 := by simp
  clear hi2 hu2 hb2
  go_wp2_with fail
  go_loopw [3] (fun ov wr => ∃ (k y : Nat) (zs : List Nat), zs.length = k ∧ zs ++ lim y = lim X ∧ y ≤ X ∧ wr.ownsRow w2.heap.size 58 1 ov k (zs.flatMap Lc) ∧ IntS (fun d => d < wr.heap.size ∧ some d ≠ ov.ownBlock) wr w.heap.size 0 (y : Int) ∧ IObj wr w1.heap.size 0 ∧ IntS (fun d => d < w2.heap.size) wr (w1.heap.size + 1) 0 (M64 : Int) ∧ Below w.heap.size w wr ∧ w2.heap.size ≤ wr.heap.size) (fun ov _ => (lim X).length - slLen ov)
  case atStart => exact ⟨0, X, [], rfl, rfl, Nat.le_refl _, World.ownsRow_nil .., HP2.out.toS.imp (fun d h => ⟨h, by simp [Value.ownBlock]⟩), HQ2.out.iobj, HI2.out.toS, HB2.out, Nat.le_refl _⟩
  case round =>
    obtain ⟨k, y, zs, hzl, hzs, hyX, hown, hp, hq, hm, hb, hsz⟩ := hrel
    have HO := Lib.hid hown
    have HP := Lib.hid hp
    have HQ := Lib.hid hq
    have HM := Lib.hid hm
    have HB := Lib.hid hb
    have HZS := Lib.hid hzs
    have HZL := Lib.hid hzl
    clear hown hp hq hm hb
    go_wp2_with fail
    refine (sign_int _ 0 (y : Int) wr HP.out.1).mono ?_
    rintro e w' ⟨rfl, rfl⟩
    obtain ⟨A3, c3, rfl, hc3, _⟩ := own_slice HO.out
    have hyl : (dig y).length ≤ 1000000 := Nat.le_trans (dig_len_mono hyX) HXL.out
    have HYL := Lib.hid hyl
    have HYX := Lib.hid hyX
    by_cases h0 : y = 0
    · subst h0
      have e0 : sgnI ((0 : Nat) : Int) = 0 := rfl
      rw [e0]
      go_wp2_with fail
      go_ret
      have hz : zs = lim X := by rw [← HZS.out]; simp [lim_zero]
      subst hz
      have hk := HZL.out
      subst hk
      have hr := (RdE.of_own (f := Lc) (size := 1) (fun _ => rfl) (by decide) HO.out).imp (S' := fun b => w.heap.size ≤ b ∧ b < wr.heap.size) (fun b h => ⟨by have := HB2.out.size; omega, h.2.1⟩)
      exact ⟨A3, c3, rfl, hc3, hr, HB.out⟩
    · have e0 : sgnI (y : Int) = 1 := by unfold sgnI; rw [if_neg (by omega), if_neg (by omega)]
      rw [e0]
      have H0 := Lib.hid h0
      have ek : k < (lim X).length := by
        rw [← HZS.out, List.length_append, HZL.out]
        have := List.length_pos_iff.2 (lim_pos h0)
        omega
      have HEK := Lib.hid ek
      have LK : k ≤ 1000000 := by have := HLL.out; omega
      clear e0 h0 hyX hyl hzl hzs
      go_wp2_with fail
      refine (and_obj w1.heap.size 0 w.heap.size 0 (w1.heap.size + 1) 0 (y : Int) (M64 : Int) wr HQ.out HP.out.1 HM.out.1 (by omega) (by decide) (by rw [Int.natAbs_natCast]; have := HYL.out; omega) (by rw [Int.natAbs_natCast]; have := M64_len; omega)).mono ?_
      rintro e w3 ⟨rfl, hi3, hu3⟩
      rw [Int.natAbs_natCast, Int.natAbs_natCast, M64_and] at hi3
      have HI3 := Lib.hid hi3
      have z3 := hu3.size
      have HP3 := Lib.hid (HP.out.upd hu3 (by omega))
      have HM3 := Lib.hid (HM.out.upd hu3 (by omega))
      have HO3 := Lib.hid (own_upd HO.out hu3 (by omega))
      have HB3 := Lib.hid (HB.out.trans (hu3.below (by omega) HB.out.size))
      clear hi3 hu3
      go_wp2_with fail
      refine (uint64_int _ 0 ((y % 18446744073709551616 : Nat) : Int) _ HI3.out).mono ?_
      rintro e w' ⟨rfl, rfl⟩
      rw [Int.natAbs_natCast, Nat.mod_mod]
      obtain ⟨v, hv⟩ : ∃ v, v = y % 18446744073709551616 := ⟨_, rfl⟩
      rw [← hv] at HI3 ⊢
      have HV := Lib.hid hv
      clear hv
      have hoA := HO3.out.alloc (.cells #[Value.int .u64 (v : Int)] 58)
      have HOA := Lib.hid hoA
      clear hoA
      go_wp2_with (at_builtin; go_must (refine wpList_append_rd _ rfl (.tmp 16) (.tmp 22) _ rfl w2.heap.size 58 i0 _ 1 8 Tryz.underlying22 hi0 hz0 hz1 hz2 rfl (by omega) (.slice A3 k c3) k (zs.flatMap Lc) rfl HOA.out (fun _ => True) (some ⟨w3.heap.size, 0, none⟩) 1 1 [.int .u64 (v : Int)] rfl (rd_blk (blk_new ..) rfl trivial) (by simp [Value.oneCell']) (by simp only [maxLen]; omega) (by omega) (by simp; omega) ?_); intro v2 w4 hown4 hg4 hat4)
      have hle : zs.flatMap Lc ++ [Value.int .u64 (v : Int)] = (zs ++ [v]).flatMap Lc := by rw [List.flatMap_append]; rfl
      rw [hle] at hown4
      have HO4 := Lib.hid hown4
      have hb4 : Below w2.heap.size w3 w4 := ((below1 w3 (.cells #[Value.int .u64 (v : Int)] 58)).mono (by omega)).trans (Below.grown (B := w2.heap.size) (Below.refl w2.heap.size (w3.alloc (.cells #[Value.int .u64 (v : Int)] 58))) hg4 (by simp; omega) (fun g hg => (HOA.out.lt g hg).1))
      have HB4 := Lib.hid (HB3.out.trans (hb4.mono (by have := HB2.out.size; omega)))
      have hrow : ∀ q, q < w2.heap.size → some q ≠ (Value.slice A3 k c3).ownBlock := fun q hq e => by have := (HOA.out.lt q e.symm).1; omega
      have HP4 := Lib.hid ((HP3.out.below (below1 w3 (.cells #[Value.int .u64 (v : Int)] 58)) (fun d h => by omega)).grown hg4 (hrow _ (by omega)) (fun d h => ⟨by simp; omega, h.2⟩))
      have HM4 := Lib.hid ((HM3.out.below (below1 w3 (.cells #[Value.int .u64 (v : Int)] 58)) (fun d h => by omega)).grown hg4 (hrow _ (by omega)) (fun d h => ⟨by simp; omega, hrow d h⟩))
      have HQ4 := Lib.hid ((HI3.out.iobj.below (below1 w3 (.cells #[Value.int .u64 (v : Int)] 58))).grown hg4 (hrow _ (by omega)))
      have z4 := hb4.size
      obtain ⟨A5, c5, rfl, _, _⟩ := own_slice HO4.out
      clear hown4 hg4 hle hat4 hb4
      go_wp2_with fail
      refine (rsh_obj w.heap.size 0 w.heap.size 0 y 64 w4 HP4.out.1.iobj HP4.out.1 (by have := HYL.out; omega) (by omega)).mono ?_
      rintro e w5 ⟨rfl, hi5, hu5⟩
      have HI5 := Lib.hid hi5
      have z5 := hu5.size
      have HM5 := Lib.hid (HM4.out.upd hu5 (by omega))
      have HQ5 := Lib.hid (HQ4.out.upd hu5 (by omega))
      have HO5 := Lib.hid (own_upd HO4.out hu5 (by omega))
      have HB5 := Lib.hid (HB4.out.trans (hu5.below (by omega) HB4.out.size))
      clear hi5 hu5
      go_wp2_with fail
      go_roundw
      case rel =>
        refine ⟨k + 1, y / 2 ^ 64, zs ++ [v], by rw [List.length_append, HZL.out]; rfl, ?_, Nat.le_trans (Nat.div_le_self _ _) HYX.out, HO5.out, HI5.out.imp (fun d h => ⟨h.2, fun e => by have := (HO4.out.lt d e.symm).2; omega⟩), HQ5.out, HM5.out, HB5.out, by omega⟩
        rw [List.append_assoc]
        have h := lim_succ H0.out
        rw [← HZS.out, h, HV.out]
        rfl
      case measure => simp [slLen]; have := HEK.out; omega

end Go.Proofs.YtjokpfgncmdomaaGreatDoor

/- dyad.made, Norm: the walks (where nothing is too long) -/
namespace Go.Proofs.YtjokpfgncmdomaaGreatDoor
open Go.RowKit Go.Sort

theorem dy_set {w : World} {g : Nat} {b0 : Bool} {A : Option Addr} {n c : Nat} {m : Int} (k0 : w.cell? ⟨g, 0, none⟩ = some (.bool b0)) (k1 : w.cell? ⟨g, 1, none⟩ = some (.slice A n c)) (k2 : w.cell? ⟨g, 2, none⟩ = some (.int .i64 m))
    (s : Bool) (d1 : Option Addr) (n1 c1 : Nat) (x : Int) :
    ∀ w', w' = ((w.setCell ⟨g, 0, none⟩ (.bool s)).setCell ⟨g, 1, none⟩ (.slice d1 n1 c1)).setCell ⟨g, 2, none⟩ (.int .i64 x) →
      (∀ B, B ≤ g → Below B w w') ∧ Keeps (fun k => k ≠ g) w w' ∧ w'.heap.size = w.heap.size ∧ w'.cell? ⟨g, 0, none⟩ = some (.bool s) ∧ w'.cell? ⟨g, 1, none⟩ = some (.slice d1 n1 c1) ∧ w'.cell? ⟨g, 2, none⟩ = some (.int .i64 x) := by
  intro w' hw'
  subst hw'
  have hk : ∀ k, k ≠ g → (((w.setCell ⟨g, 0, none⟩ (.bool s)).setCell ⟨g, 1, none⟩ (.slice d1 n1 c1)).setCell ⟨g, 2, none⟩ (.int .i64 x)).heap[k]? = w.heap[k]? := fun k hne => by
    rw [Below.heap_setCell _ _ _ _ hne, Below.heap_setCell _ _ _ _ hne, Below.heap_setCell _ _ _ _ hne]
  refine ⟨fun B hB => ⟨rfl, rfl, rfl, by simp, fun k hk' => hk k (by omega)⟩, fun k h => hk k h, by simp, ?_, ?_, ?_⟩
  · simp [go_sem, k0]
  · simp [go_sem, k1]
  · simp [go_sem, k2]

/-- the right dyad of z times 2 to the power e -/
def NormD (z e : Int) (d : DV) : Prop := (z = 0 ∧ d = ⟨false, [], 0⟩) ∨ (z ≠ 0 ∧ ∃ k, LowB z.natAbs k ∧ d = ⟨decide (z < 0), lim (z.natAbs / 2 ^ k), e + k⟩)

set_option maxRecDepth 100000 in
set_option maxHeartbeats 4000000 in
theorem made_dyad (b o : Nat) (z ex : Int) (w : World) (hz : IntAt w b o z) (hl : (dig z.natAbs).length ≤ 150) (he1 : -60000 ≤ ex) (he2 : ex ≤ 60000) :
    Calls Tryz.prog 104 #[.pointer (some ⟨b, o, none⟩), .int .i64 ex] w fun e w' => ∃ v d, e = .returned (.tuple #[v, .int .i64 0]) ∧ NormD z ex d ∧ DAt w' v d ∧ Below w.heap.size w w' := by
  have HZ := Lib.hid hz
  have HL := Lib.hid hl
  clear hz hl
  go_enter Tryz.func104, Tryz.ntmps104
  go_wp2_with fail
  refine (sign_int b o z _ (HZ.out.below (below1 ..))).mono ?_
  rintro e w' ⟨rfl, rfl⟩
  by_cases h0 : z = 0
  · have e0 : sgnI z = 0 := by unfold sgnI; rw [if_neg (by omega), if_pos h0]
    rw [e0]
    have H0 := Lib.hid h0
    clear e0 h0
    go_wp2_with fail
    (try simp only [Exit.inBlock, Exit.then])
    refine bodyPost_ret (v := .tuple #[.agg #[.bool false, .slice none 0 0, .int .i64 0], .int .i64 0]) (by simp [results, Tryz.results104, go_sem]; done) rfl ?_
    exact ⟨_, ⟨false, [], 0⟩, rfl, .inl ⟨H0.out, rfl⟩, ⟨none, 0, 0, rfl, RdE.nil .., fun _ h => by simp at h⟩, below1 ..⟩
  · have e0 : (sgnI z == 0) = false := by rw [sgnI_zero]; simp [h0]
    have H0 := Lib.hid h0
    clear h0
    go_wp2_with fail
    refine (tz_int b o z _ (HZ.out.below (below1 ..)) H0.out (by have := HL.out; omega)).mono ?_
    rintro e w' ⟨⟨k, rfl, hk⟩, rfl⟩
    have HK := Lib.hid hk
    have hkb : k < blen z.natAbs := low_lt (by have := H0.out; omega) hk.2
    have hbb0 : blen z.natAbs ≤ 32 * (dig z.natAbs).length := blen_le_of_lt (by rw [← W32_pow]; exact lt_dig_len _)
    have hbb : blen z.natAbs ≤ 4800 := by have := HL.out; omega
    clear hk
    have ew : IntKind.i64.wrap (k : Int) = (k : Int) := IntWalk.i64_in _ (by omega)
    have e1 : decide ((65536 : Int) < ex) = false := by simp; omega
    have e2 : decide (ex < (-65536 : Int) - k) = false := by simp; omega
    have e3 : decide ((65536 : Int) < ex + k) = false := by simp; omega
    go_wp2_with fail
    have HBB := Lib.hid hbb
    refine (bitLen_int b o z _ (HZ.out.below (below1 ..)) (by have := HL.out; omega)).mono ?_
    rintro e w' ⟨rfl, rfl⟩
    have e4 : decide ((16384 : Int) < (blen z.natAbs : Int) - k) = false := by simp; omega
    clear e1 e2 e3
    go_wp2_with fail
    refine (sign_int b o z _ (HZ.out.below (below1 ..))).mono ?_
    rintro e w' ⟨rfl, rfl⟩
    have e5 : decide (sgnI z < 0) = decide (z < 0) := sgnI_lt
    obtain ⟨sg, hsg⟩ : ∃ sg, sg = decide (z < 0) := ⟨_, rfl⟩
    rw [← hsg] at e5
    have HSG := Lib.hid hsg
    clear hsg e4 hbb hbb0
    go_wp2_with fail
    obtain ⟨w0, hw0⟩ : ∃ w0, w0 = w.alloc (.cells #[.bool false, .slice none 0 0, .int .i64 0] 46) := ⟨_, rfl⟩
    have zs0 : w0.heap.size = w.heap.size + 1 := by rw [hw0]; simp
    rw [← hw0]
    have HW0 := Lib.hid hw0
    have hb0 : Below w.heap.size w w0 := by rw [hw0]; exact below1 ..
    have hblk0 : w0.heap[w.heap.size]? = some (.cells #[.bool false, .slice none 0 0, .int .i64 0] 46 (0, 0)) := by rw [hw0]; exact blk_new w _ _
    have HZ0 := Lib.hid (HZ.out.below hb0)
    clear hw0
    have n1 : IntAt ((w0.alloc newI).alloc newI) (w.heap.size + 1) 0 0 := by have h := (new_intAt w0).below (below1 (w0.alloc newI) newI); rwa [zs0] at h
    have n2 : IntAt ((w0.alloc newI).alloc newI) (w.heap.size + 1 + 1) 0 0 := by have h := new_intAt (w0.alloc newI); rwa [World.size_alloc, zs0] at h
    have N1 := Lib.hid n1
    refine (abs_int (w.heap.size + 1 + 1) 0 b o 0 z _ n2 (HZ0.out.below (below2 w0 newI newI)) (by have := HL.out; omega)).mono ?_
    rintro e w1 ⟨rfl, hi1, hu1⟩
    have HI1 := Lib.hid hi1
    have HN1 := Lib.hid (N1.out.upd hu1 (fun e => absurd e (by omega)))
    have hb1 : Below w0.heap.size w0 w1 := (below2 w0 newI newI).trans (hu1.below (by omega) (by simp; omega))
    have HB1 := Lib.hid hb1
    have z1 := hb1.size
    have hm1 := hi1.lt
    clear n1 n2 hi1 hu1 hb1
    have ew3 : IntKind.u64.wrap (k : Int) = (k : Int) := by rw [IntKind.wrap_u64]; have := HBB.out; omega
    go_wp2_with fail
    clear ew3
    refine (rsh_int (w.heap.size + 1) 0 (w.heap.size + 1 + 1) 0 0 z.natAbs k w1 HN1.out HI1.out (by have := HL.out; omega) (by have := HBB.out; omega)).mono ?_
    rintro e w2 ⟨rfl, hi2, hu2⟩
    have HI2 := Lib.hid hi2
    have HB2 := Lib.hid (HB1.out.trans (hu2.below (by omega) (by omega)))
    have z2 := hu2.size
    clear hi2 hu2
    go_wp2_with fail
    refine (limbs_dyad (w.heap.size + 1) 0 ((z.natAbs / 2 ^ k : Nat) : Int) w2 HI2.out (by rw [Int.natAbs_natCast]; exact Nat.le_trans (dig_len_mono (Nat.div_le_self _ _)) (by have := HL.out; omega))).mono ?_
    rw [Int.natAbs_natCast]
    obtain ⟨ls, hls⟩ : ∃ ls, ls = lim (z.natAbs / 2 ^ k) := ⟨_, rfl⟩
    rw [← hls]
    rintro e w3 ⟨A, c, rfl, hc3, hr3, hb3⟩
    have HR3 := Lib.hid hr3
    have HB3 := Lib.hid (HB2.out.trans (hb3.mono HB2.out.size))
    have z3 := hb3.size
    have HLS := Lib.hid hls
    obtain ⟨kc, kf⟩ := blk_cells ((HB3.out.block _ (by omega)).trans hblk0)
    have kc0 := kc 0
    have kc1 := kc 1
    have kc2 := kc 2
    have kf0 := kf 0
    have kf1 := kf 1
    have kf2 := kf 2
    simp only [List.getElem?_toArray, List.getElem?_cons_zero, List.getElem?_cons_succ] at kc0 kc1 kc2
    have ew2 : wrap64 (ex + k) = ex + k := by unfold wrap64; have := HBB.out; omega
    have HBB0 := Lib.hid hb0
    clear hr3 hb3 hls kc kf hblk0 hb0
    go_wp2_with fail
    (try simp only [Exit.inBlock, Exit.then])
    obtain ⟨w6, hw6⟩ : ∃ w6, w6 = ((w3.setCell ⟨w.heap.size, 0, none⟩ (.bool sg)).setCell ⟨w.heap.size, 1, none⟩ (.slice A ls.length c)).setCell ⟨w.heap.size, 2, none⟩ (.int .i64 (ex + k)) := ⟨_, rfl⟩
    obtain ⟨hb6, hk6, hs6, q0, q1, q2⟩ := dy_set kc0 kc1 kc2 _ _ _ _ _ _ hw6
    rw [← hw6]
    refine bodyPost_ret (v := .tuple #[.agg #[.bool sg, .slice A ls.length c, .int .i64 (ex + k)], .int .i64 0]) (by simp [results, Tryz.results104, go_sem, q0, q1, q2]; done) rfl ?_
    refine ⟨_, ⟨sg, ls, ex + k⟩, rfl, .inr ⟨H0.out, k, HK.out, by rw [HSG.out, HLS.out]⟩, ⟨A, ls.length, c, rfl, ?_, by rw [HLS.out]; exact lim_lds _⟩, (HBB0.out.trans (HB3.out.mono HBB0.out.size)).trans (hb6 _ (Nat.le_refl _))⟩
    exact ((HR3.out.imp (S' := fun d => d ≠ w.heap.size ∧ d < w3.heap.size) (fun d h => ⟨by omega, h.2⟩)).keep (fun d h => hk6 d h.1)).imp (fun d h => by rw [hs6]; exact h.2)

end Go.Proofs.YtjokpfgncmdomaaGreatDoor

/- dyad.Norm: the walk -/
namespace Go.Proofs.YtjokpfgncmdomaaGreatDoor
open Go.RowKit Go.Sort

theorem top_len {w : World} {v : Value} {d : DV} (h : DAt w v d) (hl : d.mag.length ≤ 70) : (dig d.top.natAbs).length ≤ 150 := by
  obtain ⟨_, _, _, _, _, hls⟩ := h
  have e : d.top.natAbs = ln d.mag := by unfold DV.top; split <;> omega
  rw [e]
  have := dig_ln_len hls
  omega

theorem dy_limbs {w w' : World} {g : Nat} {b0 s : Bool} {A d1 : Option Addr} {n c n1 c1 : Nat} {m x : Int} (k0 : w.cell? ⟨g, 0, none⟩ = some (.bool b0)) (k1 : w.cell? ⟨g, 1, none⟩ = some (.slice A n c)) (k2 : w.cell? ⟨g, 2, none⟩ = some (.int .i64 m))
    (hw : w' = ((w.setCell ⟨g, 0, none⟩ (.bool s)).setCell ⟨g, 1, none⟩ (.slice d1 n1 c1)).setCell ⟨g, 2, none⟩ (.int .i64 x)) {S : Nat → Prop} {B : Option Addr} {k : Nat} {xs : List Nat} (hr : RdE Lc 1 w S B k xs) : RdE Lc 1 w' S B k xs :=
  ⟨rd_keep_cells hr.rd fun b o v hv hc => by
    obtain ⟨y, _, hy⟩ := List.mem_flatMap.1 hv
    simp [Lc] at hy
    subst hy
    subst hw
    by_cases e : b = g
    · subst e
      have e0 : o ≠ 0 := by rintro rfl; rw [k0] at hc; cases hc
      have e1 : o ≠ 1 := by rintro rfl; rw [k1] at hc; cases hc
      have e2 : o ≠ 2 := by rintro rfl; rw [k2] at hc; cases hc
      simp [go_sem, e0, e1, e2, hc]
    · refine (World.cell?_of_block (a := ⟨b, o, none⟩) ?_).trans hc
      rw [Below.heap_setCell _ _ _ _ e, Below.heap_setCell _ _ _ _ e, Below.heap_setCell _ _ _ _ e], hr.num⟩

set_option maxRecDepth 100000 in
set_option maxHeartbeats 4000000 in
theorem norm_dyad (v : Value) (d : DV) (w : World) (hd : DAt w v d) (hl : d.mag.length ≤ 70) (he1 : -60000 ≤ d.exp) (he2 : d.exp ≤ 60000) :
    Calls Tryz.prog 53 #[v] w fun e w' => ∃ v d', e = .returned (.tuple #[v, .int .i64 0]) ∧ NormD d.top d.exp d' ∧ DAt w' v d' ∧ Below w.heap.size w w' := by
  obtain ⟨s, xs, ex⟩ := d
  have HD := Lib.hid hd
  obtain ⟨A, n, c, rfl, _, _⟩ := hd
  simp only at hl he1 he2
  go_enter Tryz.func53, Tryz.ntmps53
  go_wp2_with fail
  have hb0 := below2 w (.cells #[.bool s, .slice A n c, .int .i64 ex] 46) (.cells #[.bool false, .slice none 0 0, .int .i64 0] 46)
  have hblk0 := blk2 w (.cells #[.bool s, .slice A n c, .int .i64 ex] 46) #[.bool false, .slice none 0 0, .int .i64 0] 46
  have kb0 := bat (below1 (w.alloc (.cells #[.bool s, .slice A n c, .int .i64 ex] 46)) (.cells #[.bool false, .slice none 0 0, .int .i64 0] 46)) (new_cell w #[.bool s, .slice A n c, .int .i64 ex] 46 0 _ rfl)
  have kb1 := bat (below1 (w.alloc (.cells #[.bool s, .slice A n c, .int .i64 ex] 46)) (.cells #[.bool false, .slice none 0 0, .int .i64 0] 46)) (new_cell w #[.bool s, .slice A n c, .int .i64 ex] 46 1 _ rfl)
  have kb2 := bat (below1 (w.alloc (.cells #[.bool s, .slice A n c, .int .i64 ex] 46)) (.cells #[.bool false, .slice none 0 0, .int .i64 0] 46)) (new_cell w #[.bool s, .slice A n c, .int .i64 ex] 46 2 _ rfl)
  have zs0 : ((w.alloc (.cells #[.bool s, .slice A n c, .int .i64 ex] 46)).alloc (.cells #[.bool false, .slice none 0 0, .int .i64 0] 46)).heap.size = w.heap.size + 2 := by simp
  generalize (w.alloc (.cells #[.bool s, .slice A n c, .int .i64 ex] 46)).alloc (.cells #[.bool false, .slice none 0 0, .int .i64 0] 46) = w0 at hb0 hblk0 kb0 kb1 kb2 zs0 ⊢
  have HBLK := Lib.hid hblk0
  have HD0 := Lib.hid (HD.out.below hb0)
  have HB0 := Lib.hid hb0
  have HD1 : Hid (DAt w0.drew (.agg #[.bool s, .slice A n c, .int .i64 ex]) ⟨s, xs, ex⟩) := Lib.hid (HD0.out.below (Below.refl w0.heap.size w0).drew)
  clear hblk0 hb0
  refine wp_region_G (S := (fun w' => w'.cell? ⟨w.heap.size, 0, none⟩ = some (.bool s) ∧ w'.cell? ⟨w.heap.size, 1, none⟩ = some (.slice A n c) ∧ w'.cell? ⟨w.heap.size, 2, none⟩ = some (.int .i64 ex))) 7 (by kernel_rfl) ?_ (fun hHeld => ?_)
  · first | exact True.intro | ((try dsimp only); go_keep)
  refine tkG (i := 0) (v := ?_) rfl (by kernel_rfl) (Or.inl ⟨by kernel_rfl, ?_⟩) (by assumption) ?_
  rotate_left 1
  · (intro w hSw; (try dsimp only at hSw); go_simp; try with_reducible rfl)
  try simp only [lyA, lyB, lyC, Act.put, lyD, lyE, lyF]
  refine tkG (i := 2) (v := ?_) rfl (by kernel_rfl) (Or.inl ⟨by kernel_rfl, ?_⟩) (by assumption) ?_
  rotate_left 1
  · (intro w hSw; (try dsimp only at hSw); go_simp; try with_reducible rfl)
  try simp only [lyA, lyB, lyC, Act.put, lyD, lyE, lyF]
  refine tkG (i := 3) (v := ?_) rfl (by kernel_rfl) (Or.inl ⟨by kernel_rfl, ?_⟩) (by assumption) ?_
  rotate_left 1
  · (intro w hSw; (try dsimp only at hSw); go_simp; try with_reducible rfl)
  try simp only [lyA, lyB, lyC, Act.put, lyD, lyE, lyF]
  refine wpAnyG_one (i := 1) (by kernel_rfl) rfl (fun K hK => ?_)
  go_simp
  (refine (whole_dyad _ ⟨s, xs, ex⟩ w0.drew HD1.out (show xs.length ≤ 100000 by omega)).mono ?_; rintro e w1 ⟨g1, rfl, hg1, hg1', hi1, hb1⟩; obtain ⟨x0, x1, x2⟩ := hHeld; have k0 := bat hb1 x0; have k1 := bat hb1 x1; have k2 := bat hb1 x2; have HI1 := Lib.hid hi1; have HB1 : Hid (Below w0.heap.size w0 w1) := Lib.hid ((Below.refl w0.heap.size w0).drew.trans hb1); clear hi1 hb1 x0 x1 x2)
  try go_wp2_with fail
  refine (fun hHeld => hK.out _ _ (.inl hHeld) (fun _ => ?_)) ?_
  rotate_left 1
  · first | exact True.intro | ((try dsimp only); go_keep)
  clear hK K
  try simp only [lyA, lyB, lyC, Act.put, lyD, lyE, lyF]
  refine wpAnyG_one (i := 4) (by kernel_rfl) rfl (fun K hK => ?_)
  go_simp
  (refine (made_dyad g1 0 (DV.top ⟨s, xs, ex⟩) ex w1 HI1.out (top_len HD0.out hl) he1 he2).mono ?_; rintro e w2 ⟨v2, d2, rfl, hnd, hv2, hb2⟩; have HND := Lib.hid hnd; have HV2 := Lib.hid hv2; obtain ⟨A2, n2, c2, rfl, _, _⟩ := hv2; have HB2 : Hid (Below w0.heap.size w0 w2) := Lib.hid (HB1.out.trans (hb2.mono HB1.out.size)); obtain ⟨kc, kf⟩ := blk_cells ((HB2.out.block _ (by omega)).trans HBLK.out); have kc0 := kc 0; have kc1 := kc 1; have kc2 := kc 2; have kf0 := kf 0; have kf1 := kf 1; have kf2 := kf 2; simp only [List.getElem?_toArray, List.getElem?_cons_zero, List.getElem?_cons_succ] at kc0 kc1 kc2; obtain ⟨x0, x1, x2⟩ := hHeld; have k0 := bat hb2 x0; have k1 := bat hb2 x1; have k2 := bat hb2 x2; clear hnd hb2 kc kf x0 x1 x2)
  try go_wp2_with fail
  refine (fun hHeld => hK.out _ _ (.inl hHeld) (fun _ => ?_)) ?_
  rotate_left 1
  · first | exact True.intro | ((try dsimp only); go_keep)
  clear hK K
  try simp only [lyA, lyB, lyC, Act.put, lyD, lyE, lyF]
  refine tkG (i := 5) (v := ?_) rfl (by kernel_rfl) (Or.inl ⟨by kernel_rfl, ?_⟩) (by assumption) ?_
  rotate_left 1
  · (intro w hSw; (try dsimp only at hSw); go_simp; try with_reducible rfl)
  try simp only [lyA, lyB, lyC, Act.put, lyD, lyE, lyF]
  refine tkG (i := 6) (v := ?_) rfl (by kernel_rfl) (Or.inl ⟨by kernel_rfl, ?_⟩) (by assumption) ?_
  rotate_left 1
  · (intro w hSw; (try dsimp only at hSw); go_simp; try with_reducible rfl)
  try simp only [lyA, lyB, lyC, Act.put, lyD, lyE, lyF]
  refine wpAnyG_one (i := 7) (by kernel_rfl) rfl (fun K hK => ?_)
  go_simp
  refine hK.out _ _ ?_ (fun hHeld => ?_)
  · exact .inr (by kernel_rfl)
  clear hK K
  try simp only [lyA, lyB, lyC, Act.put, lyD, lyE, lyF]
  refine wpAnyG_one (i := 8) (by kernel_rfl) rfl (fun K hK => ?_)
  go_simp
  refine hK.out _ _ ?_ (fun hHeld => ?_)
  · exact .inr (by kernel_rfl)
  clear hK K
  try simp only [lyA, lyB, lyC, Act.put, lyD, lyE, lyF]
  refine wpAnyG_done (by kernel_rfl) ?_ _
  obtain ⟨w6, hw6⟩ : ∃ w6, w6 = ((w2.setCell ⟨w.heap.size + 1, 0, none⟩ (.bool d2.neg)).setCell ⟨w.heap.size + 1, 1, none⟩ (.slice A2 n2 c2)).setCell ⟨w.heap.size + 1, 2, none⟩ (.int .i64 d2.exp) := ⟨_, rfl⟩
  obtain ⟨hb6, hk6, hs6, q0, q1, q2⟩ := dy_set kc0 kc1 kc2 _ _ _ _ _ _ hw6
  rw [← hw6]
  go_wp2_with fail
  (try simp only [Exit.inBlock, Exit.then])
  refine bodyPost_ret (v := .tuple #[.agg #[.bool d2.neg, .slice A2 n2 c2, .int .i64 d2.exp], .int .i64 0]) (by simp [results, Tryz.results53, go_sem, q0, q1, q2]; done) rfl ?_
  obtain ⟨A3, n3, c3, e3, hr3, hl3⟩ := HV2.out
  simp only [Value.agg.injEq, Array.mk.injEq, List.cons.injEq, Value.slice.injEq, and_true, true_and] at e3
  obtain ⟨rfl, rfl, rfl⟩ := e3
  exact ⟨_, d2, rfl, HND.out, ⟨A2, n2, c2, rfl, (dy_limbs kc0 kc1 kc2 hw6 hr3).imp (fun d h => by rw [hs6]; exact h), hl3⟩, (HB0.out.trans (HB2.out.mono (by omega))).trans (hb6 _ (by omega))⟩

end Go.Proofs.YtjokpfgncmdomaaGreatDoor

/- dyad.Right (of right ones), top, away: the walks -/
namespace Go.Proofs.YtjokpfgncmdomaaGreatDoor
open Go.RowKit Go.Sort

/-- a right dyad that is not 0 -/
structure RightD (d : DV) : Prop where
  len : 0 < d.mag.length ∧ d.mag.length ≤ 256
  last : ∀ x, d.mag[d.mag.length - 1]? = some x → x ≠ 0
  odd : ∀ x, d.mag[0]? = some x → x % 2 = 1
  low : -65536 ≤ d.exp
  high : d.exp ≤ 65536

set_option maxRecDepth 100000 in
set_option maxHeartbeats 4000000 in
theorem right_dyad (v : Value) (d : DV) (w : World) (hd : DAt w v d) (hr : RightD d) :
    Calls Tryz.prog 87 #[v] w fun e w' => e = .returned (.bool true) ∧ Below w.heap.size w w' := by
  obtain ⟨s, xs, ex⟩ := d
  obtain ⟨A, n, c, rfl, hx, hls⟩ := hd
  obtain ⟨⟨h1, h2⟩, h3, h4, h5, h6⟩ := hr
  simp only at hx hls h1 h2 h3 h4 h5 h6
  have en := hx.num
  obtain ⟨m, rfl⟩ : ∃ m, n = m + 1 := ⟨n - 1, by omega⟩
  obtain ⟨x, hxm⟩ := get_some en (show m < m + 1 by omega)
  obtain ⟨y, hy0⟩ := get_some en (show 0 < m + 1 by omega)
  have hx0 : x ≠ 0 := h3 x (by rw [en]; exact hxm)
  have hyo := h4 y hy0
  have ly := hls.get hy0
  obtain ⟨b1, o1, hA, hb1, hc⟩ := hx.elem (f := Lc) (size := 1) (fun _ => rfl) hxm (by omega)
  obtain ⟨b2, o2, hA2, hb2, hd⟩ := hx.elem (f := Lc) (size := 1) (fun _ => rfl) hy0 (by omega)
  rw [hA] at hA2
  injection hA2 with hA2
  injection hA2 with e1 e2
  subst e1 e2
  subst hA
  have q1 : w.cell? ⟨b1, o1 + m, none⟩ = some (.int .u64 (x : Int)) := by have h := hc 0 _ rfl; rwa [Nat.mul_one, Nat.add_zero] at h
  have q2 : w.cell? ⟨b1, o1, none⟩ = some (.int .u64 (y : Int)) := by have h := hd 0 _ rfl; rwa [Nat.mul_one, Nat.add_zero] at h
  have hb := below1 w (.cells #[.bool s, .slice (some ⟨b1, o1, none⟩) (m + 1) c, .int .i64 ex] 46)
  have p1 := bat hb q1
  have p2 := bat hb q2
  have t1 : ((x : Int) != 0) = true := by simp; omega
  have t2 : bits BinOp.and IntKind.u64 (y : Int) 1 = 1 := by
    have h := bits_and_u64_nat y 1 ly (by decide)
    rw [Nat.and_one_is_mod, hyo] at h
    exact h
  have t3 : decide ((m : Int) + 1 ≤ 256) = true := by simp; omega
  have t4 : decide ((-65536 : Int) ≤ ex) = true := by simp; omega
  have t5 : decide (ex ≤ (65536 : Int)) = true := by simp; omega
  have t6 : wrap64 (m : Int) = (m : Int) := by unfold wrap64; omega
  have lm : m ≤ 255 := by omega
  clear hx hls h1 h2 h3 h4 h5 h6 en hxm hy0 hx0 hyo ly hc hd q1 q2 hb
  go_enter Tryz.func87, Tryz.ntmps87
  go_wp2_with fail
  go_ret
  exact ⟨rfl, below1 ..⟩

theorem blen_ln {ls : List Nat} (h : Lds ls) {m x : Nat} (hl : ls.length = m + 1) (hx : ls[m]? = some x) (h0 : x ≠ 0) : blen (ln ls) = 64 * m + blen x := by
  have h1 := ln_split ls m
  have h2 : ln (ls.drop m) = x := by
    rw [ln_drop hx, List.drop_of_length_le (by omega)]
    simp [ln_nil]
  have h3 := ln_take_lt h m
  rw [h2, W64_pow] at h1
  rw [W64_pow] at h3
  rw [h1]
  exact blen_join h0 h3

set_option maxRecDepth 100000 in
set_option maxHeartbeats 4000000 in
theorem top_dyad (v : Value) (d : DV) (w : World) (hd : DAt w v d) (hr : RightD d) :
    Calls Tryz.prog 110 #[v] w fun e w' => e = .returned (.int .i64 (d.exp + (blen (ln d.mag) : Int))) ∧ Below w.heap.size w w' := by
  obtain ⟨s, xs, ex⟩ := d
  obtain ⟨A, n, c, rfl, hx, hls⟩ := hd
  obtain ⟨⟨h1, h2⟩, h3, h4, h5, h6⟩ := hr
  simp only at hx hls h1 h2 h3 h4 h5 h6 ⊢
  have en := hx.num
  obtain ⟨m, rfl⟩ : ∃ m, n = m + 1 := ⟨n - 1, by omega⟩
  obtain ⟨x, hxm⟩ := get_some en (show m < m + 1 by omega)
  have hx0 : x ≠ 0 := h3 x (by rw [en]; exact hxm)
  have lx := hls.get hxm
  have HB := Lib.hid (blen_ln hls en hxm hx0)
  have hbx : blen x ≤ 64 := blen_le_of_lt lx
  obtain ⟨b1, o1, rfl, hb1, hc⟩ := hx.elem (f := Lc) (size := 1) (fun _ => rfl) hxm (by omega)
  have q1 : w.cell? ⟨b1, o1 + m, none⟩ = some (.int .u64 (x : Int)) := by have h := hc 0 _ rfl; rwa [Nat.mul_one, Nat.add_zero] at h
  have hb := below1 w (.cells #[.bool s, .slice (some ⟨b1, o1, none⟩) (m + 1) c, .int .i64 ex] 46)
  have p1 := bat hb q1
  have k1 := new_cell w #[.bool s, .slice (some ⟨b1, o1, none⟩) (m + 1) c, .int .i64 ex] 46 1 _ rfl
  have k2 := new_cell w #[.bool s, .slice (some ⟨b1, o1, none⟩) (m + 1) c, .int .i64 ex] 46 2 _ rfl
  obtain ⟨L, hL⟩ : ∃ L, L = blen x := ⟨_, rfl⟩
  rw [← hL] at HB hbx
  have HL := Lib.hid hL
  have r1 : IntKind.i64.wrap (m : Int) = (m : Int) := IntWalk.i64_in _ (by omega)
  have r2 : IntKind.i64.wrap (64 * (m : Int)) = 64 * (m : Int) := IntWalk.i64_in _ (by omega)
  have r3 : IntKind.i64.wrap (ex + 64 * (m : Int)) = ex + 64 * (m : Int) := IntWalk.i64_in _ (by omega)
  have r4 : IntKind.i64.wrap (ex + 64 * (m : Int) + L) = ex + 64 * (m : Int) + L := IntWalk.i64_in _ (by omega)
  have g1 : (0 : Int) ≤ (m : Int) := by omega
  have g2 : (m : Int) < (m : Int) + 1 := by omega
  clear hx hls h1 h3 h4 en hxm hx0 hc q1 hL hb
  go_enter Tryz.func110, Tryz.ntmps110
  go_wp2_with fail
  refine wp_region_G (S := (fun w' => w'.cell? ⟨w.heap.size, 1, none⟩ = some (.slice (some ⟨b1, o1, none⟩) (m + 1) c) ∧ w'.cell? ⟨w.heap.size, 2, none⟩ = some (.int .i64 ex) ∧ w'.cell? ⟨b1, o1 + m, none⟩ = some (.int .u64 (x : Int)))) 14 (by kernel_rfl) ?_ (fun hHeld => ?_)
  · first | exact True.intro | ((try dsimp only); go_keep)
  refine tkG (i := 0) (v := ?_) rfl (by kernel_rfl) (Or.inl ⟨by kernel_rfl, ?_⟩) (by assumption) ?_
  rotate_left 1
  · (intro w hSw; (try dsimp only at hSw); go_simp; try with_reducible rfl)
  try simp only [lyA, lyB, lyC, Act.put, lyD, lyE, lyF]
  refine tkG (i := 1) (v := ?_) rfl (by kernel_rfl) (Or.inl ⟨by kernel_rfl, ?_⟩) (by assumption) ?_
  rotate_left 1
  · (intro w hSw; (try dsimp only at hSw); go_simp; try with_reducible rfl)
  try simp only [lyA, lyB, lyC, Act.put, lyD, lyE, lyF]
  refine tkG (i := 2) (v := ?_) rfl (by kernel_rfl) (Or.inl ⟨by kernel_rfl, ?_⟩) (by assumption) ?_
  rotate_left 1
  · (intro w hSw; (try dsimp only at hSw); go_simp; try with_reducible rfl)
  try simp only [lyA, lyB, lyC, Act.put, lyD, lyE, lyF]
  refine tkG (i := 3) (v := ?_) rfl (by kernel_rfl) (Or.inl ⟨by kernel_rfl, ?_⟩) (by assumption) ?_
  rotate_left 1
  · (intro w hSw; (try dsimp only at hSw); go_simp; try with_reducible rfl)
  try simp only [lyA, lyB, lyC, Act.put, lyD, lyE, lyF]
  refine tkG (i := 4) (v := ?_) rfl (by kernel_rfl) (Or.inl ⟨by kernel_rfl, ?_⟩) (by assumption) ?_
  rotate_left 1
  · (intro w hSw; (try dsimp only at hSw); go_simp; try with_reducible rfl)
  try simp only [lyA, lyB, lyC, Act.put, lyD, lyE, lyF]
  refine tkG (i := 5) (v := ?_) rfl (by kernel_rfl) (Or.inl ⟨by kernel_rfl, ?_⟩) (by assumption) ?_
  rotate_left 1
  · (intro w hSw; (try dsimp only at hSw); go_simp; try with_reducible rfl)
  try simp only [lyA, lyB, lyC, Act.put, lyD, lyE, lyF]
  refine tkG (i := 6) (v := ?_) rfl (by kernel_rfl) (Or.inl ⟨by kernel_rfl, ?_⟩) (by assumption) ?_
  rotate_left 1
  · (intro w hSw; (try dsimp only at hSw); go_simp; try with_reducible rfl)
  try simp only [lyA, lyB, lyC, Act.put, lyD, lyE, lyF]
  refine tkG (i := 7) (v := ?_) rfl (by kernel_rfl) (Or.inl ⟨by kernel_rfl, ?_⟩) (by assumption) ?_
  rotate_left 1
  · (intro w hSw; (try dsimp only at hSw); go_simp; try with_reducible rfl)
  try simp only [lyA, lyB, lyC, Act.put, lyD, lyE, lyF]
  refine tkG (i := 8) (v := ?_) rfl (by kernel_rfl) (Or.inl ⟨by kernel_rfl, ?_⟩) (by assumption) ?_
  rotate_left 1
  · (intro w hSw; (try dsimp only at hSw); go_simp; try with_reducible rfl)
  try simp only [lyA, lyB, lyC, Act.put, lyD, lyE, lyF]
  refine tkG (i := 9) (v := ?_) rfl (by kernel_rfl) (Or.inl ⟨by kernel_rfl, ?_⟩) (by assumption) ?_
  rotate_left 1
  · (intro w hSw; (try dsimp only at hSw); go_simp; try with_reducible rfl)
  try simp only [lyA, lyB, lyC, Act.put, lyD, lyE, lyF]
  refine tkG (i := 10) (v := ?_) rfl (by kernel_rfl) (Or.inl ⟨by kernel_rfl, ?_⟩) (by assumption) ?_
  rotate_left 1
  · (intro w hSw; (try dsimp only at hSw); go_simp; try with_reducible rfl)
  try simp only [lyA, lyB, lyC, Act.put, lyD, lyE, lyF]
  refine tkG (i := 11) (v := ?_) rfl (by kernel_rfl) (Or.inl ⟨by kernel_rfl, ?_⟩) (by assumption) ?_
  rotate_left 1
  · (intro w hSw; (try dsimp only at hSw); go_simp; try with_reducible rfl)
  try simp only [lyA, lyB, lyC, Act.put, lyD, lyE, lyF]
  refine wpAnyG_one (i := 12) (by kernel_rfl) rfl (fun K hK => ?_)
  go_simp
  (refine (len64 x _ lx).mono ?_; rintro e w2 ⟨rfl, rfl⟩; rw [← HL.out])
  try go_wp2_with fail
  refine (fun hHeld => hK.out _ _ (.inl hHeld) (fun _ => ?_)) ?_
  rotate_left 1
  · first | exact True.intro | ((try dsimp only); go_keep)
  clear hK K
  try simp only [lyA, lyB, lyC, Act.put, lyD, lyE, lyF]
  refine wpAnyG_one (i := 13) (by kernel_rfl) rfl (fun K hK => ?_)
  go_simp
  refine (fun hHeld => hK.out _ _ (.inl hHeld) (fun _ => ?_)) ?_
  rotate_left 1
  · first | exact True.intro | ((try dsimp only); go_keep)
  clear hK K
  try simp only [lyA, lyB, lyC, Act.put, lyD, lyE, lyF]
  refine wpAnyG_one (i := 14) (by kernel_rfl) rfl (fun K hK => ?_)
  go_simp
  refine hK.out _ _ ?_ (fun hHeld => ?_)
  · exact .inr (by kernel_rfl)
  clear hK K
  try simp only [lyA, lyB, lyC, Act.put, lyD, lyE, lyF]
  refine wpAnyG_done (by kernel_rfl) ?_ _
  go_wp2_with fail
  go_ret
  refine ⟨?_, ((below1 w _).trans ((Below.refl (w.alloc (.cells #[.bool s, .slice (some ⟨b1, o1, none⟩) (m + 1) c, .int .i64 ex] 46)).heap.size _).drew.mono (by simp)))⟩
  show Ending.returned (.int .i64 (ex + 64 * (m : Int) + L)) = _
  rw [HB.out]
  congr 2
  omega

end Go.Proofs.YtjokpfgncmdomaaGreatDoor

/- math.Abs; math.Ldexp, bits.Join at one number: the walks -/
namespace Go.Proofs.YtjokpfgncmdomaaGreatDoor
open Go.RowKit Go.Sort

theorem run_f64bits (b : Nat) (w : World) : (callFunc 58 #[.float .f64 b]).run Tryz.prog w = .ok (.value (.int .u64 (b : Int))) w := by
  rw [run_callFunc_extern (e := Extern.MathFloatBits.float64bits) Tryz.func58 (by kernel_rfl) (by kernel_rfl) (by kernel_rfl) (by kernel_rfl)]
  rfl
theorem run_f64from (n : Int) (w : World) : (callFunc 95 #[.int .u64 n]).run Tryz.prog w = .ok (.value (.float .f64 n.toNat)) w := by
  rw [run_callFunc_extern (e := Extern.MathFloatBits.float64frombits) Tryz.func95 (by kernel_rfl) (by kernel_rfl) (by kernel_rfl) (by kernel_rfl)]
  rfl
theorem clear_sign {b : Nat} (hb : b < 18446744073709551616) : bits BinOp.andNot IntKind.u64 (b : Int) 9223372036854775808 = ((b % 9223372036854775808 : Nat) : Int) := by
  have h := u64_andNot_nat b 9223372036854775808 hb (by decide)
  rw [show (18446744073709551615 - 9223372036854775808 : Nat) = 2 ^ 63 - 1 by decide, Nat.and_two_pow_sub_one_eq_mod] at h
  exact h

set_option maxRecDepth 100000 in
set_option maxHeartbeats 4000000 in
theorem abs_f (b : Nat) (w : World) (hb : b < 18446744073709551616) : Calls Tryz.prog 179 #[.float .f64 b] w fun e w' => e = .returned (.float .f64 (b % 9223372036854775808)) ∧ w = w' := by
  have hd := run_f64bits
  have hd2 := run_f64from
  have hc := clear_sign hb
  go_enter Tryz.func179, Tryz.ntmps179
  go_wp2_with fail
  go_ret
  exact ⟨rfl, rfl⟩

set_option maxRecDepth 100000 in
set_option maxHeartbeats 4000000 in
theorem isInf_one (w : World) : Calls Tryz.prog 180 #[.float .f64 4838367199671702870, .int .i64 0] w fun e w' => e = .returned (.bool false) ∧ w = w' := by
  have o1 : (FloatKind.f64.format.order 4838367199671702870 9218868437227405311 == some Ordering.gt) = false := by decide +kernel
  go_enter Tryz.func180, Tryz.ntmps180
  go_wp2_with fail
  refine (abs_f 4838367199671702870 w (by decide)).mono ?_
  rintro e w' ⟨rfl, rfl⟩
  go_wp2_with fail
  go_ret
  exact ⟨rfl, rfl⟩
set_option maxRecDepth 100000 in
set_option maxHeartbeats 4000000 in
theorem isNaN_one (w : World) : Calls Tryz.prog 94 #[.float .f64 4838367199671702870] w fun e w' => e = .returned (.bool false) ∧ w = w' := by
  have o1 : (FloatKind.f64.format.order 4838367199671702870 4838367199671702870 == some Ordering.eq) = true := by decide +kernel
  go_enter Tryz.func94, Tryz.ntmps94
  go_wp2_with fail
  go_ret
  exact ⟨rfl, rfl⟩
set_option maxRecDepth 100000 in
set_option maxHeartbeats 4000000 in
theorem normalize_one (w : World) : Calls Tryz.prog 181 #[.float .f64 4838367199671702870] w fun e w' => e = .returned (.tuple #[.float .f64 4838367199671702870, .int .i64 0]) ∧ w = w' := by
  have o1 : (FloatKind.f64.format.order 4838367199671702870 4503599627370496 == some Ordering.lt) = false := by decide +kernel
  go_enter Tryz.func181, Tryz.ntmps181
  go_wp2_with fail
  refine (abs_f 4838367199671702870 w (by decide)).mono ?_
  rintro e w' ⟨rfl, rfl⟩
  go_wp2_with fail
  go_ret2
  exact ⟨rfl, rfl⟩
set_option maxRecDepth 100000 in
set_option maxHeartbeats 4000000 in
theorem ldexp_one (w : World) : Calls Tryz.prog 178 #[.float .f64 4838367199671702870, .int .i64 (-53)] w fun e w' => e = .returned (.float .f64 4599676419421066582) ∧ w = w' := by
  have hd := run_f64bits
  have hd2 := run_f64from
  have o1 : (FloatKind.f64.format.order 4838367199671702870 0 == some Ordering.eq) = false := by decide +kernel
  go_enter Tryz.func178, Tryz.ntmps178
  go_wp2_with fail
  refine (isInf_one w).mono ?_
  rintro e w' ⟨rfl, rfl⟩
  go_wp2_with fail
  refine (isNaN_one w).mono ?_
  rintro e w' ⟨rfl, rfl⟩
  go_wp2_with fail
  refine (normalize_one w).mono ?_
  rintro e w' ⟨rfl, rfl⟩
  have b1 : bits BinOp.and IntKind.i64 1074 2047 = 1074 := by decide +kernel
  have b2 : bits BinOp.andNot IntKind.u64 4838367199671702870 9218868437227405312 = 1501199875790166 := by decide +kernel
  have b3 : bits BinOp.or IntKind.u64 1501199875790166 4598175219545276416 = 4599676419421066582 := by decide +kernel
  have b4 : floatBits BinOp.mul FloatKind.f64 4607182418800017408 4599676419421066582 = some 4599676419421066582 := by decide +kernel
  have b5 := fun w => run_float_arith (P := Tryz.prog) (w := w) BinOp.mul 29 FloatKind.f64 4607182418800017408 4599676419421066582 _ b4
  go_wp2_with fail
  go_ret
  exact ⟨rfl, rfl⟩
set_option maxRecDepth 100000 in
set_option maxHeartbeats 4000000 in
theorem Ldexp_one (w : World) : Calls Tryz.prog 169 #[.float .f64 4838367199671702870, .int .i64 (-53)] w fun e w' => e = .returned (.float .f64 4599676419421066582) ∧ w = w' := by
  go_enter Tryz.func169, Tryz.ntmps169
  go_wp2_with fail
  refine (ldexp_one w).mono ?_
  rintro e w' ⟨rfl, rfl⟩
  go_wp2_with fail
  go_ret
  exact ⟨rfl, rfl⟩
set_option maxRecDepth 100000 in
set_option maxHeartbeats 4000000 in
theorem join_one (w : World) : Calls Tryz.prog 150 #[.agg #[.bool false, .int .u64 3002399751580331, .int .i64 (-53)]] w fun e w' => e = .returned (.tuple #[.float .f64 4599676419421066582, .bool true]) ∧ Below w.heap.size w w' := by
  have c1 : floatOfInt FloatKind.f64 3002399751580331 = 4838367199671702870 := by decide +kernel
  go_enter Tryz.func150, Tryz.ntmps150
  go_wp2_with fail
  refine (len64 3002399751580331 _ (by decide)).mono ?_
  rintro e w' ⟨rfl, rfl⟩
  rw [show blen 3002399751580331 = 52 by decide +kernel]
  go_wp2_with fail
  refine (Ldexp_one _).mono ?_
  rintro e w' ⟨rfl, rfl⟩
  go_wp2_with fail
  go_ret2
  exact ⟨rfl, below1 ..⟩

end Go.Proofs.YtjokpfgncmdomaaGreatDoor

/- dyad.float at one number: the walk -/
namespace Go.Proofs.YtjokpfgncmdomaaGreatDoor
open Go.RowKit Go.Sort

set_option maxRecDepth 100000 in
set_option maxHeartbeats 4000000 in
theorem float_one (w : World) (hL : Laid w) :
    Calls Tryz.prog 114 #[.bool false, .int .u64 6004799503160662, .int .i64 (-54), .int .i8 2] w fun e w' => e = .returned (.float .f64 4599676419421066582) ∧ Below w.heap.size w w' := by
  have HLD := Lib.hid hL
  clear hL
  go_enter Tryz.func114, Tryz.ntmps114
  go_wp2_with fail
  refine (tz64 6004799503160662 _ (by decide) (by decide) (HLD.out.below (below1 ..))).mono ?_
  rintro e w' ⟨rfl, rfl⟩
  rw [show Lib.ctz 64 6004799503160662 = 1 by decide +kernel]
  go_wp2_with fail
  have k0 := new_cell w #[.bool false, .int .u64 3002399751580331, .int .i64 (-53)] 141 0 _ rfl
  have k1 := new_cell w #[.bool false, .int .u64 3002399751580331, .int .i64 (-53)] 141 1 _ rfl
  have k2 := new_cell w #[.bool false, .int .u64 3002399751580331, .int .i64 (-53)] 141 2 _ rfl
  have hb := below1 w (.cells #[.bool false, .int .u64 3002399751580331, .int .i64 (-53)] 141)
  generalize w.alloc (.cells #[.bool false, .int .u64 3002399751580331, .int .i64 (-53)] 141) = w1 at k0 k1 k2 hb ⊢
  have HB := Lib.hid hb
  clear hb
  refine wp_region_G (S := (fun w' => w'.cell? ⟨w.heap.size, 0, none⟩ = some (.bool false) ∧ w'.cell? ⟨w.heap.size, 1, none⟩ = some (.int .u64 3002399751580331) ∧ w'.cell? ⟨w.heap.size, 2, none⟩ = some (.int .i64 (-53)))) 6 (by kernel_rfl) ?_ (fun hHeld => ?_)
  · first | exact True.intro | ((try dsimp only); go_keep)
  refine tkG (i := 0) (v := ?_) rfl (by kernel_rfl) (Or.inl ⟨by kernel_rfl, ?_⟩) (by assumption) ?_
  rotate_left 1
  · (intro w hSw; (try dsimp only at hSw); go_simp; try with_reducible rfl)
  try simp only [lyA, lyB, lyC, Act.put, lyD, lyE, lyF]
  refine tkG (i := 1) (v := ?_) rfl (by kernel_rfl) (Or.inl ⟨by kernel_rfl, ?_⟩) (by assumption) ?_
  rotate_left 1
  · (intro w hSw; (try dsimp only at hSw); go_simp; try with_reducible rfl)
  try simp only [lyA, lyB, lyC, Act.put, lyD, lyE, lyF]
  refine tkG (i := 3) (v := ?_) rfl (by kernel_rfl) (Or.inl ⟨by kernel_rfl, ?_⟩) (by assumption) ?_
  rotate_left 1
  · (intro w hSw; (try dsimp only at hSw); go_simp; try with_reducible rfl)
  try simp only [lyA, lyB, lyC, Act.put, lyD, lyE, lyF]
  refine tkG (i := 4) (v := ?_) rfl (by kernel_rfl) (Or.inl ⟨by kernel_rfl, ?_⟩) (by assumption) ?_
  rotate_left 1
  · (intro w hSw; (try dsimp only at hSw); go_simp; try with_reducible rfl)
  try simp only [lyA, lyB, lyC, Act.put, lyD, lyE, lyF]
  refine wpAnyG_one (i := 2) (by kernel_rfl) rfl (fun K hK => ?_)
  go_simp
  (refine (len64 3002399751580331 _ (by decide)).mono ?_; rintro e w2 ⟨rfl, rfl⟩; rw [show blen 3002399751580331 = 52 by decide +kernel])
  try go_wp2_with fail
  refine (fun hHeld => hK.out _ _ (.inl hHeld) (fun _ => ?_)) ?_
  rotate_left 1
  · first | exact True.intro | ((try dsimp only); go_keep)
  clear hK K
  try simp only [lyA, lyB, lyC, Act.put, lyD, lyE, lyF]
  refine wpAnyG_one (i := 5) (by kernel_rfl) rfl (fun K hK => ?_)
  go_simp
  refine (fun hHeld => hK.out _ _ (.inl hHeld) (fun _ => ?_)) ?_
  rotate_left 1
  · first | exact True.intro | ((try dsimp only); go_keep)
  clear hK K
  try simp only [lyA, lyB, lyC, Act.put, lyD, lyE, lyF]
  refine wpAnyG_one (i := 6) (by kernel_rfl) rfl (fun K hK => ?_)
  go_simp
  refine hK.out _ _ ?_ (fun hHeld => ?_)
  · exact .inr (by kernel_rfl)
  clear hK K
  try simp only [lyA, lyB, lyC, Act.put, lyD, lyE, lyF]
  refine wpAnyG_done (by kernel_rfl) ?_ _
  go_wp2_with fail
  refine (join_one _).mono ?_
  rintro e w3 ⟨rfl, hb3⟩
  have HB3 := Lib.hid (HB.out.trans (((Below.refl w1.heap.size w1).drew.trans hb3).mono HB.out.size))
  clear hb3
  go_wp2_with fail
  go_ret
  exact ⟨rfl, HB3.out⟩

end Go.Proofs.YtjokpfgncmdomaaGreatDoor

/- dyad.away: the walk -/
namespace Go.Proofs.YtjokpfgncmdomaaGreatDoor
open Go.RowKit Go.Sort

/-- is a size that was cut off made greater? -/
def awayB (m : Int) (neg : Bool) (half : Int) (odd : Bool) : Bool := if m = 1 then neg else if m = 2 then !neg else if m = 3 then false else (decide (0 < half) || (decide (half = 0) && odd))

set_option maxRecDepth 100000 in
set_option maxHeartbeats 4000000 in
theorem away_dyad (m : Int) (neg : Bool) (half : Int) (odd : Bool) (w : World) :
    Calls Tryz.prog 113 #[.int .i8 m, .bool neg, .int .i64 half, .bool odd] w fun e w' => e = .returned (.bool (awayB m neg half odd)) ∧ w = w' := by
  by_cases h1 : m = 1
  · subst h1
    go_enter Tryz.func113, Tryz.ntmps113
    go_wp2_with fail
    go_ret
    exact ⟨rfl, rfl⟩
  · have e1 : (m == 1) = false := by simp [h1]
    by_cases h2 : m = 2
    · subst h2
      go_enter Tryz.func113, Tryz.ntmps113
      go_wp2_with fail
      go_ret
      exact ⟨rfl, rfl⟩
    · have e2 : (m == 2) = false := by simp [h2]
      by_cases h3 : m = 3
      · subst h3
        go_enter Tryz.func113, Tryz.ntmps113
        go_wp2_with fail
        go_ret
        exact ⟨rfl, rfl⟩
      · have e3 : (m == 3) = false := by simp [h3]
        have HA := Lib.hid (show awayB m neg half odd = (decide (0 < half) || (decide (half = 0) && odd)) by unfold awayB; rw [if_neg h1, if_neg h2, if_neg h3])
        clear h1 h2 h3
        by_cases h4 : 0 < half
        · have HR := Lib.hid (show awayB m neg half odd = true by rw [HA.out]; simp [h4])
          have e4 : decide (0 < half) = true := by simp [h4]
          clear h4
          go_enter Tryz.func113, Tryz.ntmps113
          go_wp2_with fail
          go_ret
          exact ⟨by rw [HR.out]; rfl, rfl⟩
        · have e4 : decide (0 < half) = false := by simp; omega
          by_cases h5 : half = 0
          · have HR := Lib.hid (show awayB m neg half odd = odd by rw [HA.out]; simp [h4, h5])
            have e5 : (half == 0) = true := by simp [h5]
            clear h4 h5
            go_enter Tryz.func113, Tryz.ntmps113
            go_wp2_with fail
            go_ret
            exact ⟨by rw [HR.out]; rfl, rfl⟩
          · have HR := Lib.hid (show awayB m neg half odd = false by rw [HA.out]; simp [h5]; omega)
            have e5 : (half == 0) = false := by simp [h5]
            clear h4 h5
            go_enter Tryz.func113, Tryz.ntmps113
            go_wp2_with fail
            go_ret
            exact ⟨by rw [HR.out]; rfl, rfl⟩

end Go.Proofs.YtjokpfgncmdomaaGreatDoor

/- dyad.Round: the walk, where something is cut off -/
namespace Go.Proofs.YtjokpfgncmdomaaGreatDoor
open Go.RowKit Go.Sort

def sizeR (m c : Nat) (md : Int) (neg : Bool) : Nat := if 0 < m % 2 ^ c ∧ awayB md neg (cmpN (m % 2 ^ c) (2 ^ (c - 1))) (decide (m / 2 ^ c % 2 = 1)) = true then m / 2 ^ c + 1 else m / 2 ^ c
def FloatC (neg : Bool) (size : Nat) (last md : Int) (x : Nat) : Prop := ∀ w, Laid w → Calls Tryz.prog 114 #[.bool neg, .int .u64 (size : Int), .int .i64 last, .int .i8 md] w fun e w' => e = .returned (.float .f64 x) ∧ Below w.heap.size w w'

theorem dig_pow (k : Nat) : (dig (2 ^ k)).length ≤ k + 1 := dig_len_le (by rw [W32_pow]; exact Nat.pow_lt_pow_right (by decide) (by omega))

set_option maxRecDepth 100000 in
set_option maxHeartbeats 4000000 in
theorem round_cut (v : Value) (d : DV) (md : Int) (x c : Nat) (L : Int) (w : World) (hd : DAt w v d) (hr : RightD d) (hw : Laid w) (hL : L = d.exp + (blen (ln d.mag) : Int) - 53) (hL2 : -1074 < L) (hc : L - d.exp = (c : Int)) (hc0 : 0 < c)
    (hf : FloatC d.neg (sizeR (ln d.mag) c md d.neg) L md x) :
    Calls Tryz.prog 55 #[v, .int .i8 md] w fun e w' => e = .returned (.tuple #[.float .f64 x, .int .i64 0]) ∧ Below w.heap.size w w' := by
  obtain ⟨s, xs, ex⟩ := d
  have HD := Lib.hid hd
  have HR := Lib.hid hr
  have HW := Lib.hid hw
  have HF := Lib.hid hf
  obtain ⟨A, n, cp, rfl, hx, hls⟩ := hd
  simp only at hx hls hL hc
  have en := hx.num
  obtain ⟨⟨l1, l2⟩, _, _, l3, l4⟩ := hr
  simp only at l1 l2 l3 l4
  have HE := Lib.hid en
  have HLS := Lib.hid hls
  have hn : 0 < n ∧ n ≤ 256 := by omega
  have k0 := new_cell w #[.bool s, .slice A n cp, .int .i64 ex] 46 0 _ rfl
  have k1 := new_cell w #[.bool s, .slice A n cp, .int .i64 ex] 46 1 _ rfl
  have k2 := new_cell w #[.bool s, .slice A n cp, .int .i64 ex] 46 2 _ rfl
  have K := Lib.hid (And.intro k0 (And.intro k1 k2))
  have hbl : blen (ln xs) ≤ 64 * xs.length := blen_le_of_lt (by rw [← W64_pow]; exact ln_lt hls)
  obtain ⟨M, hM⟩ : ∃ M, M = ln xs := ⟨_, rfl⟩
  have hMl : (dig M).length ≤ 600 := by rw [hM]; exact Nat.le_trans (dig_ln_len hls) (by omega)
  have HML := Lib.hid hMl
  have HT : Hid ((DV.top ⟨s, xs, ex⟩).natAbs = M) := Lib.hid (by rw [hM]; simp only [DV.top]; split <;> omega)
  obtain ⟨T, hT⟩ : ∃ T : Nat, T = blen (ln xs) := ⟨_, rfl⟩
  rw [← hT] at hL hbl
  subst hL
  have HTB : Hid (T = blen M) := Lib.hid (by rw [hT, hM])
  have HM := Lib.hid hM
  have HTT := Lib.hid hT
  clear hx hls en k0 k1 k2 hw hf hM hMl hT
  go_enter Tryz.func55, Tryz.ntmps55
  go_wp2_with fail
  refine (right_dyad _ ⟨s, xs, ex⟩ _ (HD.out.below (below1 ..)) HR.out).mono ?_
  rintro e w1 ⟨rfl, hb1⟩
  have q0 := bat hb1 K.out.1
  have q1 := bat hb1 K.out.2.1
  have q2 := bat hb1 K.out.2.2
  have hb1' := (below1 w (.cells #[.bool s, .slice A n cp, .int .i64 ex] 46)).trans (hb1.mono (by simp))
  have z1 : w.heap.size + 1 ≤ w1.heap.size := by have := hb1.size; simp at this; omega
  have HB1 := Lib.hid hb1'
  have e0 : ((n : Int) == 0) = false := by simp; omega
  clear hb1 hb1'
  go_wp2_with fail
  refine (whole_dyad _ ⟨s, xs, ex⟩ w1 (HD.out.below HB1.out) (show xs.length ≤ 100000 by omega)).mono ?_
  rintro e w2 ⟨g, rfl, hg, hg', hi2, hb2⟩
  have p0 := bat hb2 q0
  have p1 := bat hb2 q1
  have p2 := bat hb2 q2
  have HI2 := Lib.hid hi2
  have HB2 := Lib.hid (HB1.out.trans (hb2.mono HB1.out.size))
  clear hi2 hb2 q0 q1 q2 e0
  go_wp2_with fail
  refine (abs_int g 0 g 0 _ _ w2 HI2.out HI2.out (by rw [HT.out]; have := HML.out; omega)).mono ?_
  rw [HT.out]
  rintro e w3 ⟨rfl, hi3, hu3⟩
  have q0 := hu3.cellOf p0 (fun e => absurd e (by omega))
  have q1 := hu3.cellOf p1 (fun e => absurd e (by omega))
  have q2 := hu3.cellOf p2 (fun e => absurd e (by omega))
  have HI3 := Lib.hid hi3
  have HB3 := Lib.hid (HB2.out.trans (hu3.below (by omega) HB2.out.size))
  have hg3 := hi3.lt
  clear hi3 hu3 p0 p1 p2
  go_wp2_with fail
  refine (top_dyad _ ⟨s, xs, ex⟩ w3 (HD.out.below HB3.out) HR.out).mono ?_
  rw [← HTT.out]
  rintro e w4 ⟨rfl, hb4⟩
  have p0 := bat hb4 q0
  have p1 := bat hb4 q1
  have p2 := bat hb4 q2
  have HI4 := Lib.hid (HI3.out.below hb4)
  have HB4 := Lib.hid (HB3.out.trans (hb4.mono HB3.out.size))
  have hg4 := HI4.out.lt
  have c0 : decide ((c : Int) ≤ 0) = false := by simp; omega
  clear hb4 q0 q1 q2
  go_wp2_with fail
  refine (rsh_int w4.heap.size 0 g 0 0 M c _ (new_intAt w4) (HI4.out.below (below1 ..)) (by have := HML.out; omega) (by omega)).mono ?_
  rintro e w5 ⟨rfl, hi5, hu5⟩
  obtain ⟨q, hq⟩ : ∃ q, q = M / 2 ^ c := ⟨_, rfl⟩
  rw [← hq] at hi5
  have hb5 := newB hu5
  have HQ := Lib.hid hq
  have hq53 : q < 9007199254740992 := by
    rw [hq]
    refine Nat.div_lt_of_lt_mul ?_
    have h1 := blen_lt (N := M)
    rw [← HTB.out, show T = c + 53 by omega, Nat.pow_add] at h1
    exact h1
  have hqM : q ≤ M := by rw [hq]; exact Nat.div_le_self _ _
  have hql : (dig q).length ≤ 600 := Nat.le_trans (dig_len_mono hqM) HML.out
  have HQL := Lib.hid hql
  have HQM := Lib.hid (show q * 2 ^ c ≤ M by rw [hq]; exact Nat.div_mul_le_self _ _)
  have HRM := Lib.hid (show M - q * 2 ^ c = M % 2 ^ c by rw [hq, Nat.mod_eq_sub, Nat.mul_comm])
  have HI5 := Lib.hid hi5
  have HG5 := Lib.hid (HI4.out.below hb5)
  have q0 := bat hb5 p0
  have q1 := bat hb5 p1
  have q2 := bat hb5 p2
  have HB5 := Lib.hid (HB4.out.trans (hb5.mono HB4.out.size))
  have z5 := hb5.size
  have hg5 := hi5.lt
  clear hi5 hu5 hb5 hq hqM hql p0 p1 p2
  go_wp2_with fail
  refine (uint64_int w4.heap.size 0 (q : Int) w5 HI5.out).mono ?_
  rintro e w' ⟨rfl, rfl⟩
  rw [Int.natAbs_natCast, Nat.mod_eq_of_lt (show q < 18446744073709551616 by omega)]
  go_wp2_with fail
  refine (lsh_int w4.heap.size 0 w4.heap.size 0 (q : Int) (q : Int) c w5 HI5.out HI5.out (by rw [Int.natAbs_natCast]; have := HQL.out; omega) (by omega)).mono ?_
  rintro e w6 ⟨rfl, hi6, hu6⟩
  have eQ : (q : Int) * 2 ^ c = ((q * 2 ^ c : Nat) : Int) := by rw [Int.natCast_mul, Int.natCast_pow]; rfl
  rw [eQ] at hi6
  have HI6 := Lib.hid hi6
  have HG6 := Lib.hid (HG5.out.upd hu6 (fun e => absurd e (by omega)))
  have p0 := hu6.cellOf q0 (fun e => absurd e (by omega))
  have p1 := hu6.cellOf q1 (fun e => absurd e (by omega))
  have p2 := hu6.cellOf q2 (fun e => absurd e (by omega))
  have HB6 := Lib.hid (HB5.out.trans (hu6.below (by omega) HB5.out.size))
  have z6 := hu6.size
  clear hi6 hu6 q0 q1 q2 eQ
  go_wp2_with fail
  refine (sub_int g 0 g 0 w4.heap.size 0 (M : Int) (M : Int) ((q * 2 ^ c : Nat) : Int) w6 HG6.out HG6.out HI6.out (by rw [Int.natAbs_natCast]; have := HML.out; omega) (by rw [Int.natAbs_natCast]; exact Nat.le_trans (dig_len_mono HQM.out) (by have := HML.out; omega))).mono ?_
  rintro e w7 ⟨rfl, hi7, hu7⟩
  obtain ⟨R, hR⟩ : ∃ R : Nat, R = M % 2 ^ c := ⟨_, rfl⟩
  have eR : (M : Int) - ((q * 2 ^ c : Nat) : Int) = (R : Int) := by
    have h1 := HRM.out
    have h2 := HQM.out
    rw [← hR] at h1
    generalize q * 2 ^ c = y at h1 h2
    omega
  rw [eR] at hi7
  have HRR := Lib.hid hR
  have HRL := Lib.hid (show (dig R).length ≤ 600 by rw [hR]; exact Nat.le_trans (dig_len_mono (Nat.mod_le _ _)) HML.out)
  have HG7 := Lib.hid hi7
  have q0 := hu7.cellOf p0 (fun e => absurd e (by omega))
  have q1 := hu7.cellOf p1 (fun e => absurd e (by omega))
  have q2 := hu7.cellOf p2 (fun e => absurd e (by omega))
  have HB7 := Lib.hid (HB6.out.trans (hu7.below (by omega) HB6.out.size))
  have z7 := hu7.size
  clear hi7 hu7 p0 p1 p2 eR hR
  go_wp2_with fail
  refine (newInt_int 1 _ (by omega) (by omega)).mono ?_
  rintro e w8 ⟨g8, rfl, hg8, hg8', hi8, hb8⟩
  have HI8 := Lib.hid hi8
  have N8 := Lib.hid ((new_intAt w7).below hb8)
  have hb8' : Below w7.heap.size w7 w8 := (below1 w7 newI).trans (hb8.mono (by simp))
  have HG8 := Lib.hid (HG7.out.below hb8')
  have p0 := bat hb8' q0
  have p1 := bat hb8' q1
  have p2 := bat hb8' q2
  have HB8 := Lib.hid (HB7.out.trans (hb8'.mono HB7.out.size))
  have z8 := hb8'.size
  have hg8z : w7.heap.size + 1 ≤ g8 := by simpa using hg8
  obtain ⟨k, hk⟩ : ∃ k, k = c - 1 := ⟨_, rfl⟩
  have ek : (c : Int) - 1 = (k : Int) := by omega
  have HK := Lib.hid hk
  clear hi8 hb8 hb8' q0 q1 q2 hk
  go_wp2_with fail
  refine (lsh_int w7.heap.size 0 g8 0 0 1 k w8 N8.out HI8.out (by decide) (by have := HK.out; omega)).mono ?_
  rintro e w9 ⟨rfl, hi9, hu9⟩
  have eP : (1 : Int) * 2 ^ k = ((2 ^ k : Nat) : Int) := by rw [Int.one_mul, Int.natCast_pow]; rfl
  rw [eP] at hi9
  have HI9 := Lib.hid hi9
  have HG9 := Lib.hid (HG8.out.upd hu9 (fun e => absurd e (by omega)))
  have q0 := hu9.cellOf p0 (fun e => absurd e (by omega))
  have q1 := hu9.cellOf p1 (fun e => absurd e (by omega))
  have q2 := hu9.cellOf p2 (fun e => absurd e (by omega))
  have HB9 := Lib.hid (HB8.out.trans (hu9.below (by omega) HB8.out.size))
  have hPl : (dig (2 ^ k)).length ≤ 100000 := Nat.le_trans (dig_pow k) (by have := HK.out; omega)
  have HPL := Lib.hid hPl
  clear hi9 hu9 p0 p1 p2 eP ek hPl
  go_wp2_with fail
  refine (cmp_int g 0 w7.heap.size 0 (R : Int) ((2 ^ k : Nat) : Int) w9 HG9.out HI9.out (by rw [Int.natAbs_natCast]; have := HRL.out; omega) (by rw [Int.natAbs_natCast]; have := HPL.out; omega)).mono ?_
  rw [cmpI_nat (by omega) (Int.natCast_nonneg _), Int.natAbs_natCast, Int.natAbs_natCast]
  rintro e w10 ⟨rfl, hb10⟩
  obtain ⟨hf, hhf⟩ : ∃ hf, hf = cmpN R (2 ^ k) := ⟨_, rfl⟩
  rw [← hhf]
  have HHF := Lib.hid hhf
  have HG10 := Lib.hid (HG9.out.below hb10)
  have p0 := bat hb10 q0
  have p1 := bat hb10 q1
  have p2 := bat hb10 q2
  have HB10 := Lib.hid (HB9.out.trans (hb10.mono HB9.out.size))
  clear hhf hb10 q0 q1 q2
  go_wp2_with fail
  refine (sign_int g 0 (R : Int) w10 HG10.out).mono ?_
  rintro e w' ⟨rfl, rfl⟩
  have HLD := Lib.hid (HW.out.below HB10.out)
  have hszR : Hid (sizeR M c md s = if 0 < R ∧ awayB md s hf (decide (q % 2 = 1)) = true then q + 1 else q) := Lib.hid (by unfold sizeR; rw [HHF.out, HRR.out, HK.out, HQ.out])
  have HF' : Hid (FloatC s (sizeR M c md s) (ex + (T : Int) - 53) md x) := Lib.hid (by rw [HM.out]; exact HF.out)
  by_cases h0 : R = 0
  · have e0 : sgnI (R : Int) = 0 := by rw [h0]; rfl
    rw [e0]
    have HS := Lib.hid (show sizeR M c md s = q by rw [hszR.out, if_neg (by omega)])
    clear e0 h0
    go_wp2_with fail
    have hfc := HF'.out
    rw [HS.out] at hfc
    refine (hfc w10 HLD.out).mono ?_
    rintro e w11 ⟨rfl, hb11⟩
    have HB11 := Lib.hid (HB10.out.trans (hb11.mono HB10.out.size))
    clear hb11
    go_wp2_with fail
    go_ret2
    exact ⟨rfl, HB11.out⟩
  · have e0 : sgnI (R : Int) = 1 := by unfold sgnI; rw [if_neg (by omega), if_neg (by omega)]
    rw [e0]
    obtain ⟨od, hod⟩ : ∃ od, od = decide (q % 2 = 1) := ⟨_, rfl⟩
    have t1 : (bits BinOp.and IntKind.u64 (q : Int) 1 == 1) = od := by
      have h := bits_and_u64_nat q 1 (by omega) (by decide)
      rw [Nat.and_one_is_mod] at h
      have h2 : bits BinOp.and IntKind.u64 (q : Int) 1 = ((q % 2 : Nat) : Int) := h
      rw [h2, hod]
      rcases Nat.mod_two_eq_zero_or_one q with h3 | h3 <;> rw [h3] <;> rfl
    have HS := Lib.hid (show sizeR M c md s = if awayB md s hf od = true then q + 1 else q by
      rw [hszR.out, hod]
      have : 0 < R := by omega
      simp only [this, true_and])
    clear e0 h0 hod
    go_wp2_with fail
    refine (away_dyad md s hf od w10).mono ?_
    rintro e w' ⟨rfl, rfl⟩
    cases ha : awayB md s hf od
    · have HS2 := Lib.hid (show sizeR M c md s = q by rw [HS.out, ha, if_neg (by decide)])
      clear ha
      go_wp2_with fail
      have hfc := HF'.out
      rw [HS2.out] at hfc
      refine (hfc w10 HLD.out).mono ?_
      rintro e w11 ⟨rfl, hb11⟩
      have HB11 := Lib.hid (HB10.out.trans (hb11.mono HB10.out.size))
      clear hb11
      go_wp2_with fail
      go_ret2
      exact ⟨rfl, HB11.out⟩
    · have HS2 := Lib.hid (show sizeR M c md s = q + 1 by rw [HS.out, ha, if_pos rfl])
      clear ha
      obtain ⟨q', hq'⟩ : ∃ q', q' = q + 1 := ⟨_, rfl⟩
      have eq' : (q : Int) + 1 = (q' : Int) := by omega
      have HQ' := Lib.hid hq'
      clear hq'
      go_wp2_with fail
      have hfc := HF'.out
      rw [HS2.out, ← HQ'.out] at hfc
      refine (hfc w10 HLD.out).mono ?_
      rintro e w11 ⟨rfl, hb11⟩
      have HB11 := Lib.hid (HB10.out.trans (hb11.mono HB10.out.size))
      clear hb11
      go_wp2_with fail
      go_ret2
      exact ⟨rfl, HB11.out⟩

end Go.Proofs.YtjokpfgncmdomaaGreatDoor
