import Derived.Test.YtkfhbnfoiicioaaGreatDoorX05
import Derived.Laws.Externs
import Derived.Laws.FloatArith
import Ieee.Arith
set_option linter.unusedSimpArgs false
set_option linter.unusedVariables false
/- dyad.limbs: the walk -/
namespace Go.Proofs.YtkfhbnfoiicioaaGreatDoor
open Go.RowKit Go.Sort

theorem own_upd {w w' : World} {base e size n b o : Nat} {v : Value} {xs : List Value} (h : w.ownsRow base e size v n xs) (hu : Upd w w' b o) (hb : b < base) : w'.ownsRow base e size v n xs := by
  refine ⟨h.1, ?_⟩
  rcases h.2 with h1 | ⟨g, cap, cur, hs, hbs, hg, hr⟩
  · exact .inl h1
  · exact .inr ⟨g, cap, cur, hs, hbs, (hu.blk g (Array.getElem?_eq_some_iff.1 hg).1 (by omega)).trans hg, hr⟩
def slLen : Value → Nat
  | .slice _ n _ => n
  | _ => 0

set_option maxRecDepth 100000 in
set_option maxHeartbeats 4000000 in
theorem limbs_dyad (b o : Nat) (x : Int) (w : World) (hx : IntAt w b o x) (hl : (dig x.natAbs).length ≤ 1000000) :
    Calls Tryz.prog 123 #[.pointer (some ⟨b, o, none⟩)] w fun e w' => ∃ A c, e = .returned (.slice A (lim x.natAbs).length c) ∧ (lim x.natAbs).length ≤ c ∧ RdE Lc 1 w' (fun b => w.heap.size ≤ b ∧ b < w'.heap.size) A (lim x.natAbs).length (lim x.natAbs) ∧ Below w.heap.size w w' := by
  obtain ⟨i0, hi0, hz0, hz1, hz2⟩ := info_parts' info_u64
  have HX := Lib.hid hx
  obtain ⟨X, hX⟩ : ∃ X, X = x.natAbs := ⟨_, rfl⟩
  rw [← hX] at hl ⊢
  have EX := Lib.hid hX
  have HXL := Lib.hid hl
  have hLL : (lim X).length ≤ 1000000 := by rw [lim_len]; have := blen_bound hl; omega
  have HLL := Lib.hid hLL
  clear hx hX hl hLL
  go_enter Tryz.func123, Tryz.ntmps123
  go_wp2_with fail
  refine (abs_int _ 0 b o 0 x _ (new_intAt w) (HX.out.below (below1 ..)) (by rw [← EX.out]; have := HXL.out; omega)).mono ?_
  rintro e w1 ⟨rfl, hi1, hu1⟩
  rw [← EX.out] at hi1
  have hb1 := newB hu1
  have HI1 := Lib.hid hi1
  have HB1 := Lib.hid hb1
  have hp1 := hi1.lt
  clear hi1 hu1 hb1
  go_wp2_with fail
  have hn2 : IntAt ((w1.alloc newI).alloc newI) (w1.heap.size + 1) 0 0 := by have h := new_intAt (w1.alloc newI); rwa [World.size_alloc] at h
  refine (setU_mask (w1.heap.size + 1) 0 0 ((w1.alloc newI).alloc newI) hn2).mono ?_
  rintro e w2 ⟨rfl, hi2, hu2⟩
  have hb2 : Below (w1.alloc newI).heap.size (w1.alloc newI) w2 := newB (w := w1.alloc newI) (by rwa [World.size_alloc])
  have z2 := hb2.size
  have HI2 := Lib.hid hi2
  have HQ2 := Lib.hid ((new_intAt w1).below hb2)
  have HP2 := Lib.hid ((HI1.out.below (below1 w1 newI)).below hb2)
  have HB2 := Lib.hid ((HB1.out.trans ((below1 w1 newI).mono HB1.out.size)).trans (hb2.mono (by simp; omega)))
  have hm2 := hi2.lt
  have hq2 := HQ2.out.lt
  have hs1 : (w1.alloc newI).heap.size = w1.heap.size + 1 := by simp
  clear hi2 hu2 hb2
  go_wp2_with fail
  go_loopw [3] (fun ov wr => ∃ (k y : Nat) (zs : List Nat), zs.length = k ∧ zs ++ lim y = lim X ∧ y ≤ X ∧ wr.ownsRow w2.heap.size 58 1 ov k (zs.flatMap Lc) ∧ IntS (fun d => d < wr.heap.size ∧ some d ≠ ov.ownBlock) wr w.heap.size 0 (y : Int) ∧ IObj wr w1.heap.size 0 ∧ IntS (fun d => d < w2.heap.size) wr (w1.heap.size + 1) 0 (M64 : Int) ∧ Below w.heap.size w wr ∧ w2.heap.size ≤ wr.heap.size) (fun ov _ => (lim X).length - slLen ov)
  case atStart => exact ⟨0, X, [], rfl, rfl, Nat.le_refl _, World.ownsRow_nil .., HP2.out.toS.imp (fun d h => ⟨h, by simp [Value.ownBlock]⟩), HQ2.out.iobj, HI2.out.toS, HB2.out, Nat.le_refl _⟩
  case round =>
    obtain ⟨k, y, zs, hzl, hzs, hyX, hown, hp, hq, hm, hb, hsz⟩ := hrel
    have HO := Lib.hid hown
    have HP := Lib.hid hp
    have HQ := Lib.hid hq
    have HM := Lib.hid hm
    have HB := Lib.hid hb
    have HZS := Lib.hid hzs
    have HZL := Lib.hid hzl
    clear hown hp hq hm hb
    go_wp2_with fail
    refine (sign_int _ 0 (y : Int) wr HP.out.1).mono ?_
    rintro e w' ⟨rfl, rfl⟩
    obtain ⟨A3, c3, rfl, hc3, _⟩ := own_slice HO.out
    have hyl : (dig y).length ≤ 1000000 := Nat.le_trans (dig_len_mono hyX) HXL.out
    have HYL := Lib.hid hyl
    have HYX := Lib.hid hyX
    by_cases h0 : y = 0
    · subst h0
      have e0 : sgnI ((0 : Nat) : Int) = 0 := rfl
      rw [e0]
      go_wp2_with fail
      go_ret
      have hz : zs = lim X := by rw [← HZS.out]; simp [lim_zero]
      subst hz
      have hk := HZL.out
      subst hk
      have hr := (RdE.of_own (f := Lc) (size := 1) (fun _ => rfl) (by decide) HO.out).imp (S' := fun b => w.heap.size ≤ b ∧ b < wr.heap.size) (fun b h => ⟨by have := HB2.out.size; omega, h.2.1⟩)
      exact ⟨A3, c3, rfl, hc3, hr, HB.out⟩
    · have e0 : sgnI (y : Int) = 1 := by unfold sgnI; rw [if_neg (by omega), if_neg (by omega)]
      rw [e0]
      have H0 := Lib.hid h0
      have ek : k < (lim X).length := by
        rw [← HZS.out, List.length_append, HZL.out]
        have := List.length_pos_iff.2 (lim_pos h0)
        omega
      have HEK := Lib.hid ek
      have LK : k ≤ 1000000 := by have := HLL.out; omega
      clear e0 h0 hyX hyl hzl hzs
      go_wp2_with fail
      refine (and_obj w1.heap.size 0 w.heap.size 0 (w1.heap.size + 1) 0 (y : Int) (M64 : Int) wr HQ.out HP.out.1 HM.out.1 (by omega) (by decide) (by rw [Int.natAbs_natCast]; have := HYL.out; omega) (by rw [Int.natAbs_natCast]; have := M64_len; omega)).mono ?_
      rintro e w3 ⟨rfl, hi3, hu3⟩
      rw [Int.natAbs_natCast, Int.natAbs_natCast, M64_and] at hi3
      have HI3 := Lib.hid hi3
      have z3 := hu3.size
      have HP3 := Lib.hid (HP.out.upd hu3 (by omega))
      have HM3 := Lib.hid (HM.out.upd hu3 (by omega))
      have HO3 := Lib.hid (own_upd HO.out hu3 (by omega))
      have HB3 := Lib.hid (HB.out.trans (hu3.below (by omega) HB.out.size))
      clear hi3 hu3
      go_wp2_with fail
      refine (uint64_int _ 0 ((y % 18446744073709551616 : Nat) : Int) _ HI3.out).mono ?_
      rintro e w' ⟨rfl, rfl⟩
      rw [Int.natAbs_natCast, Nat.mod_mod]
      obtain ⟨v, hv⟩ : ∃ v, v = y % 18446744073709551616 := ⟨_, rfl⟩
      rw [← hv] at HI3 ⊢
      have HV := Lib.hid hv
      clear hv
      have hoA := HO3.out.alloc (.cells #[Value.int .u64 (v : Int)] 58)
      have HOA := Lib.hid hoA
      clear hoA
      go_wp2_with (at_builtin; go_must (refine wpList_append_rd _ rfl (.tmp 16) (.tmp 22) _ rfl w2.heap.size 58 i0 _ 1 8 Tryz.underlying76 hi0 hz0 hz1 hz2 rfl (by omega) (.slice A3 k c3) k (zs.flatMap Lc) rfl HOA.out (fun _ => True) (some ⟨w3.heap.size, 0, none⟩) 1 1 [.int .u64 (v : Int)] rfl (rd_blk (blk_new ..) rfl trivial) (by simp [Value.oneCell']) (by simp only [maxLen]; omega) (by omega) (by simp; omega) ?_); intro v2 w4 hown4 hg4 hat4)
      have hle : zs.flatMap Lc ++ [Value.int .u64 (v : Int)] = (zs ++ [v]).flatMap Lc := by rw [List.flatMap_append]; rfl
      rw [hle] at hown4
      have HO4 := Lib.hid hown4
      have hb4 : Below w2.heap.size w3 w4 := ((below1 w3 (.cells #[Value.int .u64 (v : Int)] 58)).mono (by omega)).trans (Below.grown (B := w2.heap.size) (Below.refl w2.heap.size (w3.alloc (.cells #[Value.int .u64 (v : Int)] 58))) hg4 (by simp; omega) (fun g hg => (HOA.out.lt g hg).1))
      have HB4 := Lib.hid (HB3.out.trans (hb4.mono (by have := HB2.out.size; omega)))
      have hrow : ∀ q, q < w2.heap.size → some q ≠ (Value.slice A3 k c3).ownBlock := fun q hq e => by have := (HOA.out.lt q e.symm).1; omega
      have HP4 := Lib.hid ((HP3.out.below (below1 w3 (.cells #[Value.int .u64 (v : Int)] 58)) (fun d h => by omega)).grown hg4 (hrow _ (by omega)) (fun d h => ⟨by simp; omega, h.2⟩))
      have HM4 := Lib.hid ((HM3.out.below (below1 w3 (.cells #[Value.int .u64 (v : Int)] 58)) (fun d h => by omega)).grown hg4 (hrow _ (by omega)) (fun d h => ⟨by simp; omega, hrow d h⟩))
      have HQ4 := Lib.hid ((HI3.out.iobj.below (below1 w3 (.cells #[Value.int .u64 (v : Int)] 58))).grown hg4 (hrow _ (by omega)))
      have z4 := hb4.size
      obtain ⟨A5, c5, rfl, _, _⟩ := own_slice HO4.out
      clear hown4 hg4 hle hat4 hb4
      go_wp2_with fail
      refine (rsh_obj w.heap.size 0 w.heap.size 0 y 64 w4 HP4.out.1.iobj HP4.out.1 (by have := HYL.out; omega) (by omega)).mono ?_
      rintro e w5 ⟨rfl, hi5, hu5⟩
      have HI5 := Lib.hid hi5
      have z5 := hu5.size
      have HM5 := Lib.hid (HM4.out.upd hu5 (by omega))
      have HQ5 := Lib.hid (HQ4.out.upd hu5 (by omega))
      have HO5 := Lib.hid (own_upd HO4.out hu5 (by omega))
      have HB5 := Lib.hid (HB4.out.trans (hu5.below (by omega) HB4.out.size))
      clear hi5 hu5
      go_wp2_with fail
      go_roundw
      case rel =>
        refine ⟨k + 1, y / 2 ^ 64, zs ++ [v], by rw [List.length_append, HZL.out]; rfl, ?_, Nat.le_trans (Nat.div_le_self _ _) HYX.out, HO5.out, HI5.out.imp (fun d h => ⟨h.2, fun e => by have := (HO4.out.lt d e.symm).2; omega⟩), HQ5.out, HM5.out, HB5.out, by omega⟩
        rw [List.append_assoc]
        have h := lim_succ H0.out
        rw [← HZS.out, h, HV.out]
        rfl
      case measure => simp [slLen]; have := HEK.out; omega

end Go.Proofs.YtkfhbnfoiicioaaGreatDoor

/- dyad.made, Norm: the walks (where nothing is too long) -/
namespace Go.Proofs.YtkfhbnfoiicioaaGreatDoor
open Go.RowKit Go.Sort

theorem dy_set {w : World} {g : Nat} {b0 : Bool} {A : Option Addr} {n c : Nat} {m : Int} (k0 : w.cell? ⟨g, 0, none⟩ = some (.bool b0)) (k1 : w.cell? ⟨g, 1, none⟩ = some (.slice A n c)) (k2 : w.cell? ⟨g, 2, none⟩ = some (.int .i64 m))
    (s : Bool) (d1 : Option Addr) (n1 c1 : Nat) (x : Int) :
    ∀ w', w' = ((w.setCell ⟨g, 0, none⟩ (.bool s)).setCell ⟨g, 1, none⟩ (.slice d1 n1 c1)).setCell ⟨g, 2, none⟩ (.int .i64 x) →
      (∀ B, B ≤ g → Below B w w') ∧ Keeps (fun k => k ≠ g) w w' ∧ w'.heap.size = w.heap.size ∧ w'.cell? ⟨g, 0, none⟩ = some (.bool s) ∧ w'.cell? ⟨g, 1, none⟩ = some (.slice d1 n1 c1) ∧ w'.cell? ⟨g, 2, none⟩ = some (.int .i64 x) := by
  intro w' hw'
  subst hw'
  have hk : ∀ k, k ≠ g → (((w.setCell ⟨g, 0, none⟩ (.bool s)).setCell ⟨g, 1, none⟩ (.slice d1 n1 c1)).setCell ⟨g, 2, none⟩ (.int .i64 x)).heap[k]? = w.heap[k]? := fun k hne => by
    rw [Below.heap_setCell _ _ _ _ hne, Below.heap_setCell _ _ _ _ hne, Below.heap_setCell _ _ _ _ hne]
  refine ⟨fun B hB => ⟨rfl, rfl, rfl, by simp, fun k hk' => hk k (by omega)⟩, fun k h => hk k h, by simp, ?_, ?_, ?_⟩
  · simp [go_sem, k0]
  · simp [go_sem, k1]
  · simp [go_sem, k2]

/-- the right dyad of z times 2 to the power e -/
def NormD (z e : Int) (d : DV) : Prop := (z = 0 ∧ d = ⟨false, [], 0⟩) ∨ (z ≠ 0 ∧ ∃ k, LowB z.natAbs k ∧ d = ⟨decide (z < 0), lim (z.natAbs / 2 ^ k), e + k⟩)

set_option maxRecDepth 100000 in
set_option maxHeartbeats 4000000 in
theorem made_dyad (b o : Nat) (z ex : Int) (w : World) (hz : IntAt w b o z) (hl : (dig z.natAbs).length ≤ 150) (he1 : -60000 ≤ ex) (he2 : ex ≤ 60000) :
    Calls Tryz.prog 99 #[.pointer (some ⟨b, o, none⟩), .int .i64 ex] w fun e w' => ∃ v d, e = .returned (.tuple #[v, .int .i64 0]) ∧ NormD z ex d ∧ DAt w' v d ∧ Below w.heap.size w w' := by
  have HZ := Lib.hid hz
  have HL := Lib.hid hl
  clear hz hl
  go_enter Tryz.func99, Tryz.ntmps99
  go_wp2_with fail
  refine (sign_int b o z _ (HZ.out.below (below1 ..))).mono ?_
  rintro e w' ⟨rfl, rfl⟩
  by_cases h0 : z = 0
  · have e0 : sgnI z = 0 := by unfold sgnI; rw [if_neg (by omega), if_pos h0]
    rw [e0]
    have H0 := Lib.hid h0
    clear e0 h0
    go_wp2_with fail
    (try simp only [Exit.inBlock, Exit.then])
    refine bodyPost_ret (v := .tuple #[.agg #[.bool false, .slice none 0 0, .int .i64 0], .int .i64 0]) (by simp [results, Tryz.results99, go_sem]; done) rfl ?_
    exact ⟨_, ⟨false, [], 0⟩, rfl, .inl ⟨H0.out, rfl⟩, ⟨none, 0, 0, rfl, RdE.nil .., fun _ h => by simp at h⟩, below1 ..⟩
  · have e0 : (sgnI z == 0) = false := by rw [sgnI_zero]; simp [h0]
    have H0 := Lib.hid h0
    clear h0
    go_wp2_with fail
    refine (tz_int b o z _ (HZ.out.below (below1 ..)) H0.out (by have := HL.out; omega)).mono ?_
    rintro e w' ⟨⟨k, rfl, hk⟩, rfl⟩
    have HK := Lib.hid hk
    have hkb : k < blen z.natAbs := low_lt (by have := H0.out; omega) hk.2
    have hbb0 : blen z.natAbs ≤ 32 * (dig z.natAbs).length := blen_le_of_lt (by rw [← W32_pow]; exact lt_dig_len _)
    have hbb : blen z.natAbs ≤ 4800 := by have := HL.out; omega
    clear hk
    have ew : IntKind.i64.wrap (k : Int) = (k : Int) := IntWalk.i64_in _ (by omega)
    have e1 : decide ((65536 : Int) < ex) = false := by simp; omega
    have e2 : decide (ex < (-65536 : Int) - k) = false := by simp; omega
    have e3 : decide ((65536 : Int) < ex + k) = false := by simp; omega
    go_wp2_with fail
    have HBB := Lib.hid hbb
    refine (bitLen_int b o z _ (HZ.out.below (below1 ..)) (by have := HL.out; omega)).mono ?_
    rintro e w' ⟨rfl, rfl⟩
    have e4 : decide ((16384 : Int) < (blen z.natAbs : Int) - k) = false := by simp; omega
    clear e1 e2 e3
    go_wp2_with fail
    refine (sign_int b o z _ (HZ.out.below (below1 ..))).mono ?_
    rintro e w' ⟨rfl, rfl⟩
    have e5 : decide (sgnI z < 0) = decide (z < 0) := sgnI_lt
    obtain ⟨sg, hsg⟩ : ∃ sg, sg = decide (z < 0) := ⟨_, rfl⟩
    rw [← hsg] at e5
    have HSG := Lib.hid hsg
    clear hsg e4 hbb hbb0
    go_wp2_with fail
    obtain ⟨w0, hw0⟩ : ∃ w0, w0 = w.alloc (.cells #[.bool false, .slice none 0 0, .int .i64 0] 78) := ⟨_, rfl⟩
    have zs0 : w0.heap.size = w.heap.size + 1 := by rw [hw0]; simp
    rw [← hw0]
    have HW0 := Lib.hid hw0
    have hb0 : Below w.heap.size w w0 := by rw [hw0]; exact below1 ..
    have hblk0 : w0.heap[w.heap.size]? = some (.cells #[.bool false, .slice none 0 0, .int .i64 0] 78 (0, 0)) := by rw [hw0]; exact blk_new w _ _
    have HZ0 := Lib.hid (HZ.out.below hb0)
    clear hw0
    have n1 : IntAt ((w0.alloc newI).alloc newI) (w.heap.size + 1) 0 0 := by have h := (new_intAt w0).below (below1 (w0.alloc newI) newI); rwa [zs0] at h
    have n2 : IntAt ((w0.alloc newI).alloc newI) (w.heap.size + 1 + 1) 0 0 := by have h := new_intAt (w0.alloc newI); rwa [World.size_alloc, zs0] at h
    have N1 := Lib.hid n1
    refine (abs_int (w.heap.size + 1 + 1) 0 b o 0 z _ n2 (HZ0.out.below (below2 w0 newI newI)) (by have := HL.out; omega)).mono ?_
    rintro e w1 ⟨rfl, hi1, hu1⟩
    have HI1 := Lib.hid hi1
    have HN1 := Lib.hid (N1.out.upd hu1 (fun e => absurd e (by omega)))
    have hb1 : Below w0.heap.size w0 w1 := (below2 w0 newI newI).trans (hu1.below (by omega) (by simp; omega))
    have HB1 := Lib.hid hb1
    have z1 := hb1.size
    have hm1 := hi1.lt
    clear n1 n2 hi1 hu1 hb1
    have ew3 : IntKind.u64.wrap (k : Int) = (k : Int) := by rw [IntKind.wrap_u64]; have := HBB.out; omega
    go_wp2_with fail
    clear ew3
    refine (rsh_int (w.heap.size + 1) 0 (w.heap.size + 1 + 1) 0 0 z.natAbs k w1 HN1.out HI1.out (by have := HL.out; omega) (by have := HBB.out; omega)).mono ?_
    rintro e w2 ⟨rfl, hi2, hu2⟩
    have HI2 := Lib.hid hi2
    have HB2 := Lib.hid (HB1.out.trans (hu2.below (by omega) (by omega)))
    have z2 := hu2.size
    clear hi2 hu2
    go_wp2_with fail
    refine (limbs_dyad (w.heap.size + 1) 0 ((z.natAbs / 2 ^ k : Nat) : Int) w2 HI2.out (by rw [Int.natAbs_natCast]; exact Nat.le_trans (dig_len_mono (Nat.div_le_self _ _)) (by have := HL.out; omega))).mono ?_
    rw [Int.natAbs_natCast]
    obtain ⟨ls, hls⟩ : ∃ ls, ls = lim (z.natAbs / 2 ^ k) := ⟨_, rfl⟩
    rw [← hls]
    rintro e w3 ⟨A, c, rfl, hc3, hr3, hb3⟩
    have HR3 := Lib.hid hr3
    have HB3 := Lib.hid (HB2.out.trans (hb3.mono HB2.out.size))
    have z3 := hb3.size
    have HLS := Lib.hid hls
    obtain ⟨kc, kf⟩ := blk_cells ((HB3.out.block _ (by omega)).trans hblk0)
    have kc0 := kc 0
    have kc1 := kc 1
    have kc2 := kc 2
    have kf0 := kf 0
    have kf1 := kf 1
    have kf2 := kf 2
    simp only [List.getElem?_toArray, List.getElem?_cons_zero, List.getElem?_cons_succ] at kc0 kc1 kc2
    have ew2 : wrap64 (ex + k) = ex + k := by unfold wrap64; have := HBB.out; omega
    have HBB0 := Lib.hid hb0
    clear hr3 hb3 hls kc kf hblk0 hb0
    go_wp2_with fail
    (try simp only [Exit.inBlock, Exit.then])
    obtain ⟨w6, hw6⟩ : ∃ w6, w6 = ((w3.setCell ⟨w.heap.size, 0, none⟩ (.bool sg)).setCell ⟨w.heap.size, 1, none⟩ (.slice A ls.length c)).setCell ⟨w.heap.size, 2, none⟩ (.int .i64 (ex + k)) := ⟨_, rfl⟩
    obtain ⟨hb6, hk6, hs6, q0, q1, q2⟩ := dy_set kc0 kc1 kc2 _ _ _ _ _ _ hw6
    rw [← hw6]
    refine bodyPost_ret (v := .tuple #[.agg #[.bool sg, .slice A ls.length c, .int .i64 (ex + k)], .int .i64 0]) (by simp [results, Tryz.results99, go_sem, q0, q1, q2]; done) rfl ?_
    refine ⟨_, ⟨sg, ls, ex + k⟩, rfl, .inr ⟨H0.out, k, HK.out, by rw [HSG.out, HLS.out]⟩, ⟨A, ls.length, c, rfl, ?_, by rw [HLS.out]; exact lim_lds _⟩, (HBB0.out.trans (HB3.out.mono HBB0.out.size)).trans (hb6 _ (Nat.le_refl _))⟩
    exact ((HR3.out.imp (S' := fun d => d ≠ w.heap.size ∧ d < w3.heap.size) (fun d h => ⟨by omega, h.2⟩)).keep (fun d h => hk6 d h.1)).imp (fun d h => by rw [hs6]; exact h.2)

end Go.Proofs.YtkfhbnfoiicioaaGreatDoor

/- dyad.Right (of right ones), top, away: the walks -/
namespace Go.Proofs.YtkfhbnfoiicioaaGreatDoor
open Go.RowKit Go.Sort

/-- a right dyad that is not 0 -/
structure RightD (d : DV) : Prop where
  len : 0 < d.mag.length ∧ d.mag.length ≤ 256
  last : ∀ x, d.mag[d.mag.length - 1]? = some x → x ≠ 0
  odd : ∀ x, d.mag[0]? = some x → x % 2 = 1
  low : -65536 ≤ d.exp
  high : d.exp ≤ 65536

set_option maxRecDepth 100000 in
set_option maxHeartbeats 4000000 in
theorem right_dyad (v : Value) (d : DV) (w : World) (hd : DAt w v d) (hr : RightD d) :
    Calls Tryz.prog 108 #[v] w fun e w' => e = .returned (.bool true) ∧ Below w.heap.size w w' := by
  obtain ⟨s, xs, ex⟩ := d
  obtain ⟨A, n, c, rfl, hx, hls⟩ := hd
  obtain ⟨⟨h1, h2⟩, h3, h4, h5, h6⟩ := hr
  simp only at hx hls h1 h2 h3 h4 h5 h6
  have en := hx.num
  obtain ⟨m, rfl⟩ : ∃ m, n = m + 1 := ⟨n - 1, by omega⟩
  obtain ⟨x, hxm⟩ := get_some en (show m < m + 1 by omega)
  obtain ⟨y, hy0⟩ := get_some en (show 0 < m + 1 by omega)
  have hx0 : x ≠ 0 := h3 x (by rw [en]; exact hxm)
  have hyo := h4 y hy0
  have ly := hls.get hy0
  obtain ⟨b1, o1, hA, hb1, hc⟩ := hx.elem (f := Lc) (size := 1) (fun _ => rfl) hxm (by omega)
  obtain ⟨b2, o2, hA2, hb2, hd⟩ := hx.elem (f := Lc) (size := 1) (fun _ => rfl) hy0 (by omega)
  rw [hA] at hA2
  injection hA2 with hA2
  injection hA2 with e1 e2
  subst e1 e2
  subst hA
  have q1 : w.cell? ⟨b1, o1 + m, none⟩ = some (.int .u64 (x : Int)) := by have h := hc 0 _ rfl; rwa [Nat.mul_one, Nat.add_zero] at h
  have q2 : w.cell? ⟨b1, o1, none⟩ = some (.int .u64 (y : Int)) := by have h := hd 0 _ rfl; rwa [Nat.mul_one, Nat.add_zero] at h
  have hb := below1 w (.cells #[.bool s, .slice (some ⟨b1, o1, none⟩) (m + 1) c, .int .i64 ex] 78)
  have p1 := bat hb q1
  have p2 := bat hb q2
  have t1 : ((x : Int) != 0) = true := by simp; omega
  have t2 : bits BinOp.and IntKind.u64 (y : Int) 1 = 1 := by
    have h := bits_and_u64_nat y 1 ly (by decide)
    rw [Nat.and_one_is_mod, hyo] at h
    exact h
  have t3 : decide ((m : Int) + 1 ≤ 256) = true := by simp; omega
  have t4 : decide ((-65536 : Int) ≤ ex) = true := by simp; omega
  have t5 : decide (ex ≤ (65536 : Int)) = true := by simp; omega
  have t6 : wrap64 (m : Int) = (m : Int) := by unfold wrap64; omega
  have lm : m ≤ 255 := by omega
  clear hx hls h1 h2 h3 h4 h5 h6 en hxm hy0 hx0 hyo ly hc hd q1 q2 hb
  go_enter Tryz.func108, Tryz.ntmps108
  go_wp2_with fail
  go_ret
  exact ⟨rfl, below1 ..⟩

theorem blen_ln {ls : List Nat} (h : Lds ls) {m x : Nat} (hl : ls.length = m + 1) (hx : ls[m]? = some x) (h0 : x ≠ 0) : blen (ln ls) = 64 * m + blen x := by
  have h1 := ln_split ls m
  have h2 : ln (ls.drop m) = x := by
    rw [ln_drop hx, List.drop_of_length_le (by omega)]
    simp [ln_nil]
  have h3 := ln_take_lt h m
  rw [h2, W64_pow] at h1
  rw [W64_pow] at h3
  rw [h1]
  exact blen_join h0 h3

set_option maxRecDepth 100000 in
set_option maxHeartbeats 4000000 in
theorem top_dyad (v : Value) (d : DV) (w : World) (hd : DAt w v d) (hr : RightD d) :
    Calls Tryz.prog 93 #[v] w fun e w' => e = .returned (.int .i64 (d.exp + (blen (ln d.mag) : Int))) ∧ Below w.heap.size w w' := by
  obtain ⟨s, xs, ex⟩ := d
  obtain ⟨A, n, c, rfl, hx, hls⟩ := hd
  obtain ⟨⟨h1, h2⟩, h3, h4, h5, h6⟩ := hr
  simp only at hx hls h1 h2 h3 h4 h5 h6 ⊢
  have en := hx.num
  obtain ⟨m, rfl⟩ : ∃ m, n = m + 1 := ⟨n - 1, by omega⟩
  obtain ⟨x, hxm⟩ := get_some en (show m < m + 1 by omega)
  have hx0 : x ≠ 0 := h3 x (by rw [en]; exact hxm)
  have lx := hls.get hxm
  have HB := Lib.hid (blen_ln hls en hxm hx0)
  have hbx : blen x ≤ 64 := blen_le_of_lt lx
  obtain ⟨b1, o1, rfl, hb1, hc⟩ := hx.elem (f := Lc) (size := 1) (fun _ => rfl) hxm (by omega)
  have q1 : w.cell? ⟨b1, o1 + m, none⟩ = some (.int .u64 (x : Int)) := by have h := hc 0 _ rfl; rwa [Nat.mul_one, Nat.add_zero] at h
  have hb := below1 w (.cells #[.bool s, .slice (some ⟨b1, o1, none⟩) (m + 1) c, .int .i64 ex] 78)
  have p1 := bat hb q1
  have k1 := new_cell w #[.bool s, .slice (some ⟨b1, o1, none⟩) (m + 1) c, .int .i64 ex] 78 1 _ rfl
  have k2 := new_cell w #[.bool s, .slice (some ⟨b1, o1, none⟩) (m + 1) c, .int .i64 ex] 78 2 _ rfl
  obtain ⟨L, hL⟩ : ∃ L, L = blen x := ⟨_, rfl⟩
  rw [← hL] at HB hbx
  have HL := Lib.hid hL
  have r1 : IntKind.i64.wrap (m : Int) = (m : Int) := IntWalk.i64_in _ (by omega)
  have r2 : IntKind.i64.wrap (64 * (m : Int)) = 64 * (m : Int) := IntWalk.i64_in _ (by omega)
  have r3 : IntKind.i64.wrap (ex + 64 * (m : Int)) = ex + 64 * (m : Int) := IntWalk.i64_in _ (by omega)
  have r4 : IntKind.i64.wrap (ex + 64 * (m : Int) + L) = ex + 64 * (m : Int) + L := IntWalk.i64_in _ (by omega)
  have g1 : (0 : Int) ≤ (m : Int) := by omega
  have g2 : (m : Int) < (m : Int) + 1 := by omega
  clear hx hls h1 h3 h4 en hxm hx0 hc q1 hL hb
  go_enter Tryz.func93, Tryz.ntmps93
  go_wp2_with fail
  refine wp_region_G (S := (fun w' => w'.cell? ⟨w.heap.size, 1, none⟩ = some (.slice (some ⟨b1, o1, none⟩) (m + 1) c) ∧ w'.cell? ⟨w.heap.size, 2, none⟩ = some (.int .i64 ex) ∧ w'.cell? ⟨b1, o1 + m, none⟩ = some (.int .u64 (x : Int)))) 14 (by kernel_rfl) ?_ (fun hHeld => ?_)
  · first | exact True.intro | ((try dsimp only); go_keep)
  refine tkG (i := 0) (v := ?_) rfl (by kernel_rfl) (Or.inl ⟨by kernel_rfl, ?_⟩) (by assumption) ?_
  rotate_left 1
  · (intro w hSw; (try dsimp only at hSw); go_simp; try with_reducible rfl)
  try simp only [lyA, lyB, lyC, Act.put, lyD, lyE, lyF]
  refine tkG (i := 1) (v := ?_) rfl (by kernel_rfl) (Or.inl ⟨by kernel_rfl, ?_⟩) (by assumption) ?_
  rotate_left 1
  · (intro w hSw; (try dsimp only at hSw); go_simp; try with_reducible rfl)
  try simp only [lyA, lyB, lyC, Act.put, lyD, lyE, lyF]
  refine tkG (i := 2) (v := ?_) rfl (by kernel_rfl) (Or.inl ⟨by kernel_rfl, ?_⟩) (by assumption) ?_
  rotate_left 1
  · (intro w hSw; (try dsimp only at hSw); go_simp; try with_reducible rfl)
  try simp only [lyA, lyB, lyC, Act.put, lyD, lyE, lyF]
  refine tkG (i := 3) (v := ?_) rfl (by kernel_rfl) (Or.inl ⟨by kernel_rfl, ?_⟩) (by assumption) ?_
  rotate_left 1
  · (intro w hSw; (try dsimp only at hSw); go_simp; try with_reducible rfl)
  try simp only [lyA, lyB, lyC, Act.put, lyD, lyE, lyF]
  refine tkG (i := 4) (v := ?_) rfl (by kernel_rfl) (Or.inl ⟨by kernel_rfl, ?_⟩) (by assumption) ?_
  rotate_left 1
  · (intro w hSw; (try dsimp only at hSw); go_simp; try with_reducible rfl)
  try simp only [lyA, lyB, lyC, Act.put, lyD, lyE, lyF]
  refine tkG (i := 5) (v := ?_) rfl (by kernel_rfl) (Or.inl ⟨by kernel_rfl, ?_⟩) (by assumption) ?_
  rotate_left 1
  · (intro w hSw; (try dsimp only at hSw); go_simp; try with_reducible rfl)
  try simp only [lyA, lyB, lyC, Act.put, lyD, lyE, lyF]
  refine tkG (i := 6) (v := ?_) rfl (by kernel_rfl) (Or.inl ⟨by kernel_rfl, ?_⟩) (by assumption) ?_
  rotate_left 1
  · (intro w hSw; (try dsimp only at hSw); go_simp; try with_reducible rfl)
  try simp only [lyA, lyB, lyC, Act.put, lyD, lyE, lyF]
  refine tkG (i := 7) (v := ?_) rfl (by kernel_rfl) (Or.inl ⟨by kernel_rfl, ?_⟩) (by assumption) ?_
  rotate_left 1
  · (intro w hSw; (try dsimp only at hSw); go_simp; try with_reducible rfl)
  try simp only [lyA, lyB, lyC, Act.put, lyD, lyE, lyF]
  refine tkG (i := 8) (v := ?_) rfl (by kernel_rfl) (Or.inl ⟨by kernel_rfl, ?_⟩) (by assumption) ?_
  rotate_left 1
  · (intro w hSw; (try dsimp only at hSw); go_simp; try with_reducible rfl)
  try simp only [lyA, lyB, lyC, Act.put, lyD, lyE, lyF]
  refine tkG (i := 9) (v := ?_) rfl (by kernel_rfl) (Or.inl ⟨by kernel_rfl, ?_⟩) (by assumption) ?_
  rotate_left 1
  · (intro w hSw; (try dsimp only at hSw); go_simp; try with_reducible rfl)
  try simp only [lyA, lyB, lyC, Act.put, lyD, lyE, lyF]
  refine tkG (i := 10) (v := ?_) rfl (by kernel_rfl) (Or.inl ⟨by kernel_rfl, ?_⟩) (by assumption) ?_
  rotate_left 1
  · (intro w hSw; (try dsimp only at hSw); go_simp; try with_reducible rfl)
  try simp only [lyA, lyB, lyC, Act.put, lyD, lyE, lyF]
  refine tkG (i := 11) (v := ?_) rfl (by kernel_rfl) (Or.inl ⟨by kernel_rfl, ?_⟩) (by assumption) ?_
  rotate_left 1
  · (intro w hSw; (try dsimp only at hSw); go_simp; try with_reducible rfl)
  try simp only [lyA, lyB, lyC, Act.put, lyD, lyE, lyF]
  refine wpAnyG_one (i := 12) (by kernel_rfl) rfl (fun K hK => ?_)
  go_simp
  (refine (len64 x _ lx).mono ?_; rintro e w2 ⟨rfl, rfl⟩; rw [← HL.out])
  try go_wp2_with fail
  refine (fun hHeld => hK.out _ _ (.inl hHeld) (fun _ => ?_)) ?_
  rotate_left 1
  · first | exact True.intro | ((try dsimp only); go_keep)
  clear hK K
  try simp only [lyA, lyB, lyC, Act.put, lyD, lyE, lyF]
  refine wpAnyG_one (i := 13) (by kernel_rfl) rfl (fun K hK => ?_)
  go_simp
  refine (fun hHeld => hK.out _ _ (.inl hHeld) (fun _ => ?_)) ?_
  rotate_left 1
  · first | exact True.intro | ((try dsimp only); go_keep)
  clear hK K
  try simp only [lyA, lyB, lyC, Act.put, lyD, lyE, lyF]
  refine wpAnyG_one (i := 14) (by kernel_rfl) rfl (fun K hK => ?_)
  go_simp
  refine hK.out _ _ ?_ (fun hHeld => ?_)
  · exact .inr (by kernel_rfl)
  clear hK K
  try simp only [lyA, lyB, lyC, Act.put, lyD, lyE, lyF]
  refine wpAnyG_done (by kernel_rfl) ?_ _
  go_wp2_with fail
  go_ret
  refine ⟨?_, ((below1 w _).trans ((Below.refl (w.alloc (.cells #[.bool s, .slice (some ⟨b1, o1, none⟩) (m + 1) c, .int .i64 ex] 78)).heap.size _).drew.mono (by simp)))⟩
  show Ending.returned (.int .i64 (ex + 64 * (m : Int) + L)) = _
  rw [HB.out]
  congr 2
  omega

end Go.Proofs.YtkfhbnfoiicioaaGreatDoor

/- math.Abs; math.Ldexp, bits.Join at one number: the walks -/
namespace Go.Proofs.YtkfhbnfoiicioaaGreatDoor
open Go.RowKit Go.Sort

theorem run_f64bits (b : Nat) (w : World) : (callFunc 46 #[.float .f64 b]).run Tryz.prog w = .ok (.value (.int .u64 (b : Int))) w := by
  rw [run_callFunc_extern (e := Extern.MathFloatBits.float64bits) Tryz.func46 (by kernel_rfl) (by kernel_rfl) (by kernel_rfl) (by kernel_rfl)]
  rfl
theorem run_f64from (n : Int) (w : World) : (callFunc 48 #[.int .u64 n]).run Tryz.prog w = .ok (.value (.float .f64 n.toNat)) w := by
  rw [run_callFunc_extern (e := Extern.MathFloatBits.float64frombits) Tryz.func48 (by kernel_rfl) (by kernel_rfl) (by kernel_rfl) (by kernel_rfl)]
  rfl
theorem clear_sign {b : Nat} (hb : b < 18446744073709551616) : bits BinOp.andNot IntKind.u64 (b : Int) 9223372036854775808 = ((b % 9223372036854775808 : Nat) : Int) := by
  have h := u64_andNot_nat b 9223372036854775808 hb (by decide)
  rw [show (18446744073709551615 - 9223372036854775808 : Nat) = 2 ^ 63 - 1 by decide, Nat.and_two_pow_sub_one_eq_mod] at h
  exact h

set_option maxRecDepth 100000 in
set_option maxHeartbeats 4000000 in
theorem abs_f (b : Nat) (w : World) (hb : b < 18446744073709551616) : Calls Tryz.prog 31 #[.float .f64 b] w fun e w' => e = .returned (.float .f64 (b % 9223372036854775808)) ∧ w = w' := by
  have hd := run_f64bits
  have hd2 := run_f64from
  have hc := clear_sign hb
  go_enter Tryz.func31, Tryz.ntmps31
  go_wp2_with fail
  go_ret
  exact ⟨rfl, rfl⟩

end Go.Proofs.YtkfhbnfoiicioaaGreatDoor

/- floats: what is written exactly; products with a power of two; whole numbers: plain -/
namespace Go.Proofs.YtkfhbnfoiicioaaGreatDoor
open Go.RowKit Go.Sort Ieee

theorem log2_mul_pow {m : Nat} (hm : m ≠ 0) : ∀ k : Nat, (m * 2 ^ k).log2 = m.log2 + k
  | 0 => by simp
  | k + 1 => by
    rw [Nat.pow_succ, ← Nat.mul_assoc, Nat.mul_comm _ 2, Nat.log2_two_mul (Nat.mul_ne_zero hm (Nat.ne_of_gt (Nat.pow_pos (by decide)))), log2_mul_pow hm k]
    omega
theorem cut_none (s : Bool) (n : Nat) : Toward.even.cut s n 0 = n := by
  unfold Toward.cut
  simp [Nat.mod_one]
theorem cut_exact (s : Bool) (a d : Nat) (ha : a ≠ 0) : Toward.even.cut s (a * 2 ^ d) d = a := by
  unfold Toward.cut
  have h1 : min d ((a * 2 ^ d).log2 + 2) = d := by rw [log2_mul_pow ha]; omega
  have hp : 0 < 2 ^ d := Nat.pow_pos (by decide)
  simp only [h1, Nat.one_shiftLeft]
  rw [Nat.mul_div_cancel _ hp, Nat.mul_mod_left]
  have : ¬ 2 ^ d < 0 := by omega
  simp [Nat.ne_of_gt hp]
/-- the last place of a number that is kept -/
def lastP (m : Nat) (p : Int) : Int := max (p + (m.log2 : Int) - 52) (-1074)
def rungOf (m : Nat) (p : Int) : Nat := (lastP m p + 1074).toNat * 2 ^ 52 + m * 2 ^ (p - lastP m p).toNat
theorem nearest_exact (s : Bool) (m : Nat) (p : Int) (k : Nat) (hm : m ≠ 0) (hp : lastP m p ≤ p) (hf : rungOf m p ≤ double.infRung) : double.nearest s (m * 2 ^ k) (p - k) = double.word s (rungOf m p) := by
  have hmk : m * 2 ^ k ≠ 0 := Nat.mul_ne_zero hm (Nat.ne_of_gt (Nat.pow_pos (by decide)))
  unfold Format.nearest
  rw [if_neg hmk, log2_mul_pow hm]
  have hl : double.leastPlace = -1074 := by decide
  have hfb : (double.fractionBits : Int) = 52 := by decide
  have e1 : max (p - (k : Int) + ((m.log2 + k : Nat) : Int) - (double.fractionBits : Int)) (-1074) = lastP m p := by
    rw [hfb]; unfold lastP; congr 1; omega
  simp only [hl]
  simp only [e1]
  have hb : double.binade = 2 ^ 52 := by decide
  rw [hb]
  obtain ⟨q, hq⟩ : ∃ q, q = lastP m p := ⟨_, rfl⟩
  have hr : rungOf m p = (q + 1074).toNat * 2 ^ 52 + m * 2 ^ (p - q).toNat := by unfold rungOf; rw [← hq]
  rw [← hq] at hp ⊢
  have e2 : (q - -1074) = q + 1074 := by omega
  rw [e2]
  have hk : Toward.even.cut s ((m * 2 ^ k) <<< (p - (k : Int) - q).toNat) (q - (p - (k : Int))).toNat = m * 2 ^ (p - q).toNat := by
    by_cases h : q ≤ p - k
    · have h0 : (q - (p - (k : Int))).toNat = 0 := by omega
      rw [h0, cut_none, Nat.shiftLeft_eq, Nat.mul_assoc, ← Nat.pow_add]
      congr 2
      omega
    · have h0 : (p - (k : Int) - q).toNat = 0 := by omega
      rw [h0, Nat.shiftLeft_zero]
      have h1 : k = (p - q).toNat + (q - (p - (k : Int))).toNat := by omega
      have h2 : m * 2 ^ k = (m * 2 ^ (p - q).toNat) * 2 ^ (q - (p - (k : Int))).toNat := by
        rw [Nat.mul_assoc, ← Nat.pow_add, ← h1]
      rw [h2]
      exact cut_exact s _ _ (Nat.mul_ne_zero hm (Nat.ne_of_gt (Nat.pow_pos (by decide))))
  rw [hk, ← hr, Nat.min_eq_left hf]
theorem read_word (s : Bool) (K : Nat) (q : Int) (hK : K < 2 ^ 53) (hq : -1074 ≤ q) (hn : q = -1074 ∨ 2 ^ 52 ≤ K) (hf : (q + 1074).toNat * 2 ^ 52 + K < double.infRung) :
    double.read (double.word s ((q + 1074).toNat * 2 ^ 52 + K)) = .number s K q := by
  have hi : double.infRung = 2047 * 2 ^ 52 := by decide
  have hb : double.binade = 2 ^ 52 := by decide
  have hs : double.signWeight = 2 ^ 63 := by decide
  have hl : double.leastPlace = -1074 := by decide
  rw [hi] at hf
  obtain ⟨r, hr⟩ : ∃ r, r = (q + 1074).toNat * 2 ^ 52 + K := ⟨_, rfl⟩
  rw [← hr] at hf ⊢
  have e1 : double.word s r / double.signWeight % 2 = if s then 1 else 0 := by
    unfold Format.word; rw [hs]; cases s <;> simp <;> omega
  have e2 : double.word s r % double.signWeight = r := by
    unfold Format.word; rw [hs]; cases s <;> simp <;> omega
  unfold Format.read
  simp only [e1, e2, hb, hi, hl]
  have e3 : ((if s = true then 1 else 0) == 1) = s := by cases s <;> rfl
  rw [e3]
  by_cases h : r < 2 ^ 52
  · rw [if_pos h]
    have h0 : q = -1074 := by omega
    have h1 : r = K := by omega
    rw [h1, h0]
  · rw [if_neg h, if_pos hf]
    have h2 : 2 ^ 52 ≤ K := by omega
    congr 1 <;> omega
theorem lastP_of {K : Nat} {q : Int} (hK : K < 2 ^ 53) (h0 : K ≠ 0) (hq : -1074 ≤ q) (hn : q = -1074 ∨ 2 ^ 52 ≤ K) : lastP K q = q := by
  unfold lastP
  have h1 : K.log2 < 53 := (Nat.log2_lt h0).2 hK
  rcases hn with h | h
  · omega
  · have h2 : ¬ K.log2 < 52 := fun h3 => by have := (Nat.log2_lt h0).1 h3; omega
    omega
theorem rungOf_of {K : Nat} {q : Int} (hK : K < 2 ^ 53) (h0 : K ≠ 0) (hq : -1074 ≤ q) (hn : q = -1074 ∨ 2 ^ 52 ≤ K) : rungOf K q = (q + 1074).toNat * 2 ^ 52 + K := by
  unfold rungOf
  rw [lastP_of hK h0 hq hn]
  simp
theorem mul_unit (u : Nat) (a : Int) (hu : double.read u = .number false (2 ^ 52) a) (K : Nat) (q : Int) (hK : K < 2 ^ 53) (hq : -1074 ≤ q) (hn : q = -1074 ∨ 2 ^ 52 ≤ K) (hf : (q + 1074).toNat * 2 ^ 52 + K < double.infRung) :
    double.mul u ((q + 1074).toNat * 2 ^ 52 + K) = some (double.nearest false (K * 2 ^ 52) (q + a)) := by
  unfold Format.mul
  have h := read_word false K q hK hq hn hf
  have e : double.word false ((q + 1074).toNat * 2 ^ 52 + K) = (q + 1074).toNat * 2 ^ 52 + K := rfl
  rw [e] at h
  rw [hu, h]
  simp only [Datum.product, Option.map_some, Format.write]
  rw [Nat.mul_comm, Int.add_comm]
  rfl
theorem mul_one (K : Nat) (q : Int) (h0 : K ≠ 0) (hK : K < 2 ^ 53) (hq : -1074 ≤ q) (hn : q = -1074 ∨ 2 ^ 52 ≤ K) (hf : (q + 1074).toNat * 2 ^ 52 + K < double.infRung) :
    double.mul 4607182418800017408 ((q + 1074).toNat * 2 ^ 52 + K) = some ((q + 1074).toNat * 2 ^ 52 + K) := by
  rw [mul_unit 4607182418800017408 (-52) (by decide) K q hK hq hn hf]
  have h := nearest_exact false K q 52 h0 (by rw [lastP_of hK h0 hq hn]; exact Int.le_refl _) (by rw [rungOf_of hK h0 hq hn]; omega)
  rw [rungOf_of hK h0 hq hn] at h
  have e : q + -52 = q - ((52 : Nat) : Int) := rfl
  rw [e, h]
  rfl

/-- a whole number below 2^53, as a float -/
theorem log_lt {f : Nat} (h0 : f ≠ 0) (h : f < 2 ^ 53) : f.log2 ≤ 52 := by
  have := (Nat.log2_lt h0).2 h
  omega
theorem kept_bounds {f : Nat} (h0 : f ≠ 0) (h : f < 2 ^ 53) : 2 ^ 52 ≤ f * 2 ^ (52 - f.log2) ∧ f * 2 ^ (52 - f.log2) < 2 ^ 53 := by
  have hl := log_lt h0 h
  have h1 : 2 ^ f.log2 ≤ f := Nat.log2_self_le h0
  have h2 : f < 2 ^ (f.log2 + 1) := Nat.lt_log2_self
  have hp : 0 < 2 ^ (52 - f.log2) := Nat.pow_pos (by decide)
  constructor
  · have e : 2 ^ 52 = 2 ^ f.log2 * 2 ^ (52 - f.log2) := by rw [← Nat.pow_add]; congr 1; omega
    rw [e]; exact Nat.mul_le_mul_right _ h1
  · have e : 2 ^ 53 = 2 ^ (f.log2 + 1) * 2 ^ (52 - f.log2) := by rw [← Nat.pow_add]; congr 1; omega
    rw [e]; exact Nat.mul_lt_mul_of_pos_right h2 hp
theorem and_mask {x : Nat} (hx : x < 2 ^ 63) : x &&& (18446744073709551615 - 9218868437227405312) = x % 2 ^ 52 := by
  apply Nat.eq_of_testBit_eq
  intro i
  rw [Nat.testBit_and, Nat.testBit_mod_two_pow, show (18446744073709551615 - 9218868437227405312 : Nat) = 2 ^ 63 + (2 ^ 52 - 1) by decide]
  have h2 := Nat.two_pow_add_eq_or_of_lt (i := 63) (b := 2 ^ 52 - 1) (by decide) 1
  rw [Nat.mul_one] at h2
  rw [h2, Nat.testBit_or, Nat.testBit_two_pow_sub_one, Nat.testBit_two_pow]
  by_cases h63 : i = 63
  · subst h63
    have : x.testBit 63 = false := Nat.testBit_lt_two_pow hx
    simp [this]
  · have h3 : ¬ 63 = i := fun e => h63 e.symm
    simp [h3, Bool.and_comm]
theorem or_parts {a E : Nat} (ha : a < 2 ^ 52) : a ||| (E * 2 ^ 52) = E * 2 ^ 52 + a := by
  have h := Nat.two_pow_add_eq_or_of_lt (i := 52) (b := a) ha E
  rw [Nat.or_comm, Nat.mul_comm E, ← h]

end Go.Proofs.YtkfhbnfoiicioaaGreatDoor

/- math.Ldexp, bits.Join of any whole number below 2^53: the walks -/
namespace Go.Proofs.YtkfhbnfoiicioaaGreatDoor
open Go.RowKit Go.Sort

theorem andNot_exp {x : Nat} (hx : x < 9223372036854775808) : bits BinOp.andNot IntKind.u64 (x : Int) 9218868437227405312 = ((x % 4503599627370496 : Nat) : Int) := by
  have h := u64_andNot_nat x 9218868437227405312 (by omega) (by decide)
  rw [and_mask hx] at h
  exact h
theorem or_exp {a P : Nat} (ha : a < 4503599627370496) (hP : P < 2048) : bits BinOp.or IntKind.u64 (a : Int) ((P * 4503599627370496 : Nat) : Int) = ((P * 4503599627370496 + a : Nat) : Int) := by
  have h := bits_or_u64_nat a (P * 4503599627370496) (by omega) (by omega)
  rw [show a ||| P * 4503599627370496 = P * 4503599627370496 + a from or_parts (a := a) (E := P) ha] at h
  exact h
theorem and_exp {k : Nat} (hk : k < 2048) : bits BinOp.and IntKind.i64 (k : Int) 2047 = (k : Int) := by
  have h1 : (BitVec.ofInt 64 (k : Int)).toNat = k := by
    rw [BitVec.ofInt_natCast, BitVec.toNat_ofNat]; exact Nat.mod_eq_of_lt (by omega)
  show IntKind.i64.wrap ((BitVec.ofInt 64 (k : Int) &&& BitVec.ofInt 64 2047).toNat : Int) = _
  rw [BitVec.toNat_and, h1, show (BitVec.ofInt 64 2047).toNat = 2 ^ 11 - 1 by decide, Nat.and_two_pow_sub_one_eq_mod, Nat.mod_eq_of_lt (show k < 2 ^ 11 by omega), IntKind.wrap_i64]
  omega

set_option maxRecDepth 100000 in
set_option maxHeartbeats 4000000 in
theorem normalize_w (V : Nat) (w : World) (hV : V < 9223372036854775808) (o1 : (FloatKind.f64.format.order V 4503599627370496 == some Ordering.lt) = false) :
    Calls Tryz.prog 157 #[.float .f64 V] w fun e w' => e = .returned (.tuple #[.float .f64 V, .int .i64 0]) ∧ w = w' := by
  go_enter Tryz.func157, Tryz.ntmps157
  go_wp2_with fail
  refine (abs_f V w (by omega)).mono ?_
  rw [Nat.mod_eq_of_lt hV]
  rintro e w' ⟨rfl, rfl⟩
  go_wp2_with fail
  go_ret2
  exact ⟨rfl, rfl⟩

end Go.Proofs.YtkfhbnfoiicioaaGreatDoor

/-
  Floats by a whole number: each float (64 bits) that is a number stands for fk x times 2^-1074; the infinities lie beyond all of them.
-/
namespace Go.Proofs.YtkfhbnfoiicioaaGreatDoor
open Ieee

def fnan (x : Nat) : Bool := (Ieee.double.read x).isNaN
def bigE : Nat := 4000
theorem bigE_le : 3000 ≤ bigE := by decide
def bigN : Nat := 2 ^ bigE
theorem bigN_eq : bigN = 2 ^ bigE := by unfold bigN; with_reducible rfl
def dkey : Datum → Int
  | .number s m e => signed s m (e + 1074).toNat
  | .infinity s => if s then -(bigN : Int) else (bigN : Int)
  | .nan .. => 0
def fk (x : Nat) : Int := dkey (Ieee.double.read x)

theorem signed_mul (s : Bool) (m i : Nat) : signed s m i = (if s then -1 else 1) * (m : Int) * (2 ^ i : Nat) := by
  unfold signed
  rw [Nat.shiftLeft_eq]
  cases s <;> simp [Int.neg_mul]
theorem signed_add (s : Bool) (m i d : Nat) : signed s m (i + d) = signed s m i * (2 ^ d : Nat) := by
  rw [signed_mul, signed_mul, Nat.pow_add, Int.natCast_mul, ← Int.mul_assoc]
theorem compare_scale (a b : Int) (d : Nat) : compare (a * (2 ^ d : Nat)) (b * (2 ^ d : Nat)) = compare a b := by
  have hp : (0 : Int) < (2 ^ d : Nat) := by exact_mod_cast Nat.two_pow_pos d
  rcases Int.lt_trichotomy a b with h | h | h
  · rw [Int.compare_eq_lt.2 h, Int.compare_eq_lt.2 (Int.mul_lt_mul_of_pos_right h hp)]
  · subst h; simp
  · rw [Int.compare_eq_gt.2 h, Int.compare_eq_gt.2 (Int.mul_lt_mul_of_pos_right h hp)]

/-- what a float's word stands for, as far as sizes go -/
def Fits : Datum → Prop
  | .number _ m e => m < 2 ^ 53 ∧ -1074 ≤ e ∧ e ≤ 971
  | .infinity _ => True
  | .nan .. => True
theorem read_fits (x : Nat) : Fits (Ieee.double.read x) := by
  have e1 : Ieee.double.signWeight = 9223372036854775808 := by decide
  have e2 : Ieee.double.binade = 4503599627370496 := by decide
  have e3 : Ieee.double.infRung = 9218868437227405312 := by decide
  have e4 : Ieee.double.leastPlace = -1074 := by decide
  unfold Ieee.Format.read
  simp only [e1, e2, e3, e4]
  split
  · simp only [Fits]; omega
  · split
    · simp only [Fits]; omega
    · split <;> trivial

theorem key_lt (s : Bool) (m : Nat) (e : Int) (h : Fits (.number s m e)) : dkey (.number s m e) < (bigN : Int) ∧ -(bigN : Int) < dkey (.number s m e) := by
  obtain ⟨h1, h2, h3⟩ := h
  have hk : m * 2 ^ (e + 1074).toNat < bigN := by
    rw [bigN_eq]
    refine Nat.lt_of_lt_of_le (Nat.mul_lt_mul_of_pos_right h1 (Nat.two_pow_pos _)) ?_
    rw [← Nat.pow_add]
    have := bigE_le
    exact Nat.pow_le_pow_right (by omega) (by omega)
  have e1 : dkey (.number s m e) = if s then -((m * 2 ^ (e + 1074).toNat : Nat) : Int) else ((m * 2 ^ (e + 1074).toNat : Nat) : Int) := by
    show signed s m _ = _
    unfold signed
    rw [Nat.shiftLeft_eq]
  rw [e1]
  generalize m * 2 ^ (e + 1074).toNat = k at hk ⊢
  generalize bigN = N at hk ⊢
  cases s <;> simp <;> omega

theorem order_dkey (a b : Datum) (ha : Fits a) (hb : Fits b) (na : a.isNaN = false) (nb : b.isNaN = false) : a.order b = some (compare (dkey a) (dkey b)) := by
  have hN : (0 : Int) < (bigN : Int) := by rw [bigN_eq]; exact_mod_cast Nat.two_pow_pos bigE
  cases a with
  | nan s f => simp [Datum.isNaN] at na
  | infinity s =>
    cases b with
    | nan s f => simp [Datum.isNaN] at nb
    | infinity t =>
      unfold Datum.order dkey
      generalize bigN = N at hN ⊢
      cases s <;> cases t
      · simp
      · rw [Int.compare_eq_gt.2 (show (if true = true then -(N : Int) else (N : Int)) < (if false = true then -(N : Int) else (N : Int)) by simp; omega)]; rfl
      · rw [Int.compare_eq_lt.2 (show (if true = true then -(N : Int) else (N : Int)) < (if false = true then -(N : Int) else (N : Int)) by simp; omega)]; rfl
      · simp
    | number t n j =>
      obtain ⟨h1, h2⟩ := key_lt t n j hb
      have e : dkey (.infinity s) = if s then -(bigN : Int) else (bigN : Int) := rfl
      rw [e]
      unfold Datum.order
      generalize dkey (.number t n j) = k at h1 h2 ⊢
      generalize bigN = N at h1 h2 ⊢
      cases s
      · simp only [Bool.false_eq_true, if_false]; rw [Int.compare_eq_gt.2 h1]
      · simp only [if_true]; rw [Int.compare_eq_lt.2 h2]
  | number s m i =>
    cases b with
    | nan s f => simp [Datum.isNaN] at nb
    | infinity t =>
      obtain ⟨h1, h2⟩ := key_lt s m i ha
      have e : dkey (.infinity t) = if t then -(bigN : Int) else (bigN : Int) := rfl
      rw [e]
      unfold Datum.order
      generalize dkey (.number s m i) = k at h1 h2 ⊢
      generalize bigN = N at h1 h2 ⊢
      cases t
      · simp only [Bool.false_eq_true, if_false]; rw [Int.compare_eq_lt.2 h1]
      · simp only [if_true]; rw [Int.compare_eq_gt.2 h2]
    | number t n j =>
      obtain ⟨_, hi, _⟩ := ha
      obtain ⟨_, hj, _⟩ := hb
      show some (compare (signed s m (i - min i j).toNat) (signed t n (j - min i j).toNat)) = _
      rw [← compare_scale _ _ (min i j + 1074).toNat, ← signed_add, ← signed_add]
      have e1 : (i - min i j).toNat + (min i j + 1074).toNat = (i + 1074).toNat := by omega
      have e2 : (j - min i j).toNat + (min i j + 1074).toNat = (j + 1074).toNat := by omega
      rw [e1, e2]
      rfl

theorem order_fk {x y : Nat} (hx : fnan x = false) (hy : fnan y = false) : FloatKind.f64.format.order x y = some (compare (fk x) (fk y)) :=
  order_dkey _ _ (read_fits x) (read_fits y) hx hy
theorem order_nan {x y : Nat} (h : fnan x = true ∨ fnan y = true) : FloatKind.f64.format.order x y = none := by
  unfold fnan at h
  show (Ieee.double.read x).order (Ieee.double.read y) = none
  generalize Ieee.double.read x = a at h ⊢
  generalize Ieee.double.read y = b at h ⊢
  cases a <;> cases b <;> simp [Datum.isNaN] at h <;> rfl

/-- floats by their words: less, greater, at most, same number -/
def flt (a b : Nat) : Bool := FloatKind.f64.format.order a b == some .lt
def fgt (a b : Nat) : Bool := FloatKind.f64.format.order a b == some .gt
def fle (a b : Nat) : Bool := FloatKind.f64.format.order a b == some .lt || FloatKind.f64.format.order a b == some .eq
def feq (a b : Nat) : Bool := FloatKind.f64.format.order a b == some .eq

theorem flt_iff (a b : Nat) : flt a b = true ↔ fnan a = false ∧ fnan b = false ∧ fk a < fk b := by
  unfold flt
  cases ha : fnan a
  · cases hb : fnan b
    · rw [order_fk ha hb]; simp [Int.compare_eq_lt]
    · rw [order_nan (.inr hb)]; simp
  · rw [order_nan (.inl ha)]; simp
theorem fgt_iff (a b : Nat) : fgt a b = true ↔ fnan a = false ∧ fnan b = false ∧ fk b < fk a := by
  unfold fgt
  cases ha : fnan a
  · cases hb : fnan b
    · rw [order_fk ha hb]; simp [Int.compare_eq_gt]
    · rw [order_nan (.inr hb)]; simp
  · rw [order_nan (.inl ha)]; simp
theorem feq_iff (a b : Nat) : feq a b = true ↔ fnan a = false ∧ fnan b = false ∧ fk a = fk b := by
  unfold feq
  cases ha : fnan a
  · cases hb : fnan b
    · rw [order_fk ha hb]; simp
    · rw [order_nan (.inr hb)]; simp
  · rw [order_nan (.inl ha)]; simp
theorem fle_iff (a b : Nat) : fle a b = true ↔ fnan a = false ∧ fnan b = false ∧ fk a ≤ fk b := by
  have h : fle a b = (flt a b || feq a b) := rfl
  rw [h, Bool.or_eq_true, flt_iff, feq_iff]
  constructor
  · rintro (⟨h1, h2, h3⟩ | ⟨h1, h2, h3⟩) <;> exact ⟨h1, h2, by omega⟩
  · rintro ⟨h1, h2, h3⟩
    by_cases h4 : fk a < fk b
    · exact .inl ⟨h1, h2, h4⟩
    · exact .inr ⟨h1, h2, by omega⟩
theorem feq_self (a : Nat) : feq a a = !fnan a := by
  cases h : fnan a
  · exact (feq_iff a a).2 ⟨h, h, rfl⟩
  · cases h2 : feq a a
    · rfl
    · have := ((feq_iff a a).1 h2).1; rw [h] at this; cases this

end Go.Proofs.YtkfhbnfoiicioaaGreatDoor

/- x - x, whatever x is -/
namespace Go.Proofs.YtkfhbnfoiicioaaGreatDoor
open Go.RowKit Go.Sort Ieee

theorem read_nan0 (s m : Nat) (hs : s < 2) (hm : m < 4503599627370495) : ∃ neg fr, Ieee.double.read (s * 9223372036854775808 + 9218868437227405312 + 1 + m) = .nan neg fr := by
  refine ⟨(s * 9223372036854775808 + 9218868437227405312 + 1 + m) / 9223372036854775808 % 2 == 1, (s * 9223372036854775808 + 9218868437227405312 + 1 + m) % 9223372036854775808 - 9218868437227405312, ?_⟩
  have e1 : Ieee.double.signWeight = 9223372036854775808 := by decide
  have e2 : Ieee.double.binade = 4503599627370496 := by decide
  have e3 : Ieee.double.infRung = 9218868437227405312 := by decide
  unfold Ieee.Format.read
  simp only [e1, e2, e3]
  rw [if_neg (by omega), if_neg (by omega), if_neg (by omega)]
theorem run_sub_nan0 {P : Program} (w : World) (t : TypeId) (x y : Nat) (h : FloatKind.f64.format.sub x y = none) :
    ∃ b, (binOp .sub t (.float .f64 x) (.float .f64 y)).run P w = .ok (.float .f64 b) w.drew ∧ ∀ z, FloatKind.f64.format.order b z = none := by
  refine ⟨Question.cut (.nanBits .f64 x y) (w.tape w.drawn (.nanBits .f64 x y)), by simp only [binOp]; simp [Op.floatArith, h, choose, Sem.run, Question.forced], ?_⟩
  intro z
  generalize w.tape w.drawn (.nanBits .f64 x y) = n
  obtain ⟨neg, fr, e⟩ := read_nan0 (n % 2) (n / 2 % 4503599627370495) (by omega) (by omega)
  have e' : Ieee.double.read (Question.cut (.nanBits .f64 x y) n) = .nan neg fr := e
  unfold Ieee.Format.order
  show Ieee.Datum.order (Ieee.double.read _) _ = _
  rw [e']
  rfl
/-- is a word a number's -/
def finB (u : Nat) : Bool := decide (u % 9223372036854775808 < 9218868437227405312)
theorem sub_self_fin {u : Nat} (h : finB u = true) : floatBits .sub .f64 u u = some 0 := by
  have h : u % 9223372036854775808 < 9218868437227405312 := of_decide_eq_true h
  have e1 : Ieee.double.signWeight = 9223372036854775808 := by decide
  have e2 : Ieee.double.binade = 4503599627370496 := by decide
  have e3 : Ieee.double.infRung = 9218868437227405312 := by decide
  have hr : ∃ s m e, Ieee.double.read u = .number s m e := by
    unfold Ieee.Format.read
    simp only [e1, e2, e3]
    split
    · exact ⟨_, _, _, rfl⟩
    · first | exact ⟨_, _, _, rfl⟩ | (rw [if_pos (by omega)]; exact ⟨_, _, _, rfl⟩)
  obtain ⟨s, m, e, hr⟩ := hr
  show ((Ieee.double.read u).sum (Ieee.double.read u).opposite).map Ieee.double.write = some 0
  rw [hr]
  have hz : ∀ a, signed s m a + signed (!s) m a = 0 := fun a => by unfold signed; cases s <;> simp <;> omega
  show some (Ieee.double.write (.number (if signed s m (e - min e e).toNat + signed (!s) m (e - min e e).toNat = 0 then s && !s else decide (signed s m (e - min e e).toNat + signed (!s) m (e - min e e).toNat < 0)) (signed s m (e - min e e).toNat + signed (!s) m (e - min e e).toNat).natAbs (min e e))) = some 0
  rw [hz]
  simp only [if_true, Int.natAbs_zero, Bool.and_not_self]
  unfold Ieee.Format.write Ieee.Format.nearest
  simp
  rfl
theorem sub_self_nan {u : Nat} (h : finB u = false) : FloatKind.f64.format.sub u u = none := by
  have h : ¬ u % 9223372036854775808 < 9218868437227405312 := of_decide_eq_false h
  have e1 : Ieee.double.signWeight = 9223372036854775808 := by decide
  have e2 : Ieee.double.binade = 4503599627370496 := by decide
  have e3 : Ieee.double.infRung = 9218868437227405312 := by decide
  have hr : (∃ s, Ieee.double.read u = .infinity s) ∨ ∃ s m, Ieee.double.read u = .nan s m := by
    unfold Ieee.Format.read
    simp only [e1, e2, e3]
    rw [if_neg (by omega), if_neg h]
    split
    · exact .inl ⟨_, rfl⟩
    · exact .inr ⟨_, _, rfl⟩
  show ((Ieee.double.read u).sum (Ieee.double.read u).opposite).map Ieee.double.write = none
  rcases hr with ⟨s, hr⟩ | ⟨s, m, hr⟩
  · rw [hr]
    show ((if s = !s then _ else none).map _) = none
    cases s <;> rfl
  · rw [hr]; rfl
/-- x - x, whatever x is -/
theorem sub_self (t : TypeId) (u : Nat) (w : World) : ∃ b n, (binOp .sub t (.float .f64 u) (.float .f64 u)).run Tryz.prog w = .ok (.float .f64 b) (w.drewN n) ∧ (FloatKind.f64.format.order b 0 == some Ordering.eq) = finB u := by
  cases h : finB u
  · obtain ⟨b, h1, h2⟩ := run_sub_nan0 (P := Tryz.prog) w t u u (sub_self_nan h)
    exact ⟨b, 1, h1, by rw [h2]; rfl⟩
  · exact ⟨0, 0, run_float_arith w .sub t .f64 u u 0 (sub_self_fin h), by decide +kernel⟩

end Go.Proofs.YtkfhbnfoiicioaaGreatDoor

/- right spans (plain) -/
namespace Go.Proofs.YtkfhbnfoiicioaaGreatDoor
open Ieee

theorem finB_read {u : Nat} : (finB u = true → ∃ s m e, Ieee.double.read u = .number s m e) ∧ (finB u = false → (∃ s, Ieee.double.read u = .infinity s) ∨ ∃ s m, Ieee.double.read u = .nan s m) := by
  have e1 : Ieee.double.signWeight = 9223372036854775808 := by decide
  have e2 : Ieee.double.binade = 4503599627370496 := by decide
  have e3 : Ieee.double.infRung = 9218868437227405312 := by decide
  constructor
  · intro h
    have h : u % 9223372036854775808 < 9218868437227405312 := of_decide_eq_true h
    unfold Ieee.Format.read
    simp only [e1, e2, e3]
    split
    · exact ⟨_, _, _, rfl⟩
    · first | exact ⟨_, _, _, rfl⟩ | (rw [if_pos (by omega)]; exact ⟨_, _, _, rfl⟩)
  · intro h
    have h : ¬ u % 9223372036854775808 < 9218868437227405312 := of_decide_eq_false h
    unfold Ieee.Format.read
    simp only [e1, e2, e3]
    rw [if_neg (by omega), if_neg h]
    split
    · exact .inl ⟨_, rfl⟩
    · exact .inr ⟨_, _, rfl⟩
theorem fk_fin {u : Nat} (h : finB u = true) : fnan u = false ∧ -(bigN : Int) < fk u ∧ fk u < bigN := by
  obtain ⟨s, m, e, hr⟩ := finB_read.1 h
  have hf := read_fits u
  unfold fnan fk
  rw [hr] at hf ⊢
  have h2 := key_lt s m e hf
  exact ⟨rfl, h2.2, h2.1⟩
theorem fk_inf {u : Nat} (h : finB u = false) : fnan u = true ∨ (fnan u = false ∧ (fk u = (bigN : Int) ∨ fk u = -(bigN : Int))) := by
  unfold fnan fk
  rcases finB_read.2 h with ⟨s, hr⟩ | ⟨s, m, hr⟩
  · rw [hr]
    refine .inr ⟨rfl, ?_⟩
    show (if s then -(bigN : Int) else (bigN : Int)) = _ ∨ (if s then -(bigN : Int) else (bigN : Int)) = _
    cases s
    · exact .inl rfl
    · exact .inr rfl
  · rw [hr]
    exact .inl rfl
theorem fk_pinf : fnan 9218868437227405312 = false ∧ fk 9218868437227405312 = (bigN : Int) := by
  have hr : Ieee.double.read 9218868437227405312 = .infinity false := by decide
  unfold fnan fk
  rw [hr]
  exact ⟨rfl, rfl⟩
theorem fk_ninf : fnan 18442240474082181120 = false ∧ fk 18442240474082181120 = -(bigN : Int) := by
  have hr : Ieee.double.read 18442240474082181120 = .infinity true := by decide
  unfold fnan fk
  rw [hr]
  exact ⟨rfl, rfl⟩
theorem fk_zero : fnan 0 = false ∧ fk 0 = 0 := by
  have hr : Ieee.double.read 0 = .number false 0 (-1074) := by decide
  unfold fnan fk
  rw [hr]
  exact ⟨rfl, rfl⟩
theorem bigN_pos : (0 : Int) < (bigN : Int) := by rw [bigN_eq]; exact_mod_cast Nat.two_pow_pos bigE
/-- is it a right span -/
def spB (lo hi : Nat) : Bool := fle lo hi && (flt lo 9218868437227405312 && fgt hi 18442240474082181120)
/-- the document's -/
def spR (lo hi : Nat) : Bool := if (!feq lo lo || (!feq hi hi || fgt lo hi)) = true then false else ((finB lo || flt lo 0) && (finB hi || fgt hi 0))
theorem spR_eq (lo hi : Nat) : spR lo hi = spB lo hi := by
  have hN := bigN_pos
  unfold spR spB
  rw [feq_self, feq_self]
  rw [Bool.eq_iff_iff]
  simp only [Bool.not_not]
  have p1 := fk_pinf
  have p2 := fk_ninf
  have p3 := fk_zero
  have i1 := fle_iff lo hi
  have i2 := flt_iff lo 9218868437227405312
  have i3 := fgt_iff hi 18442240474082181120
  have i4 := fgt_iff lo hi
  have i5 := flt_iff lo 0
  have i6 := fgt_iff hi 0
  rw [p1.1, p1.2] at i2
  rw [p2.1, p2.2] at i3
  rw [p3.1, p3.2] at i5 i6
  have a1 : (finB lo = true ∧ fnan lo = false ∧ -(bigN : Int) < fk lo ∧ fk lo < bigN) ∨ (finB lo = false ∧ (fnan lo = true ∨ (fnan lo = false ∧ (fk lo = (bigN : Int) ∨ fk lo = -(bigN : Int))))) := by
    cases h : finB lo
    · exact .inr ⟨rfl, fk_inf h⟩
    · exact .inl ⟨rfl, fk_fin h⟩
  have a2 : (finB hi = true ∧ fnan hi = false ∧ -(bigN : Int) < fk hi ∧ fk hi < bigN) ∨ (finB hi = false ∧ (fnan hi = true ∨ (fnan hi = false ∧ (fk hi = (bigN : Int) ∨ fk hi = -(bigN : Int))))) := by
    cases h : finB hi
    · exact .inr ⟨rfl, fk_inf h⟩
    · exact .inl ⟨rfl, fk_fin h⟩
  clear p1 p2 p3
  generalize fk lo = x at *
  generalize fk hi = y at *
  generalize (bigN : Int) = N at *
  generalize fle lo hi = b1 at *
  generalize flt lo 9218868437227405312 = b2 at *
  generalize fgt hi 18442240474082181120 = b3 at *
  generalize fgt lo hi = b4 at *
  generalize flt lo 0 = b5 at *
  generalize fgt hi 0 = b6 at *
  generalize fnan lo = n1 at *
  generalize fnan hi = n2 at *
  generalize finB lo = f1 at *
  generalize finB hi = f2 at *
  cases n1 <;> cases n2 <;> cases f1 <;> cases f2 <;> cases b4 <;> cases b1 <;> cases b2 <;> cases b3 <;> cases b5 <;> cases b6 <;> simp at * <;> omega

end Go.Proofs.YtkfhbnfoiicioaaGreatDoor
