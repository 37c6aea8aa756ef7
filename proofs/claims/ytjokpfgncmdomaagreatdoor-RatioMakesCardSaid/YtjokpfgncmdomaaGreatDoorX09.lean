import Derived.Test.YtjokpfgncmdomaaGreatDoorX08
set_option linter.unusedSimpArgs false
set_option linter.unusedVariables false
/- GCD without the factors: the walk -/
namespace Go.Proofs.YtjokpfgncmdomaaGreatDoor
open Go.RowKit Go.Sort

theorem opp_abs {s t d : Int} (h : s * t ≤ 0) (hd : 0 ≤ d) : (s - d * t).natAbs = s.natAbs + d.natAbs * t.natAbs := by
  obtain ⟨n, rfl⟩ := Int.eq_ofNat_of_zero_le hd
  have hnt : ∀ m : Nat, (n : Int) * (m : Int) = ((n * m : Nat) : Int) := fun m => by push_cast; rfl
  rcases Int.natAbs_eq s with hs | hs <;> rcases Int.natAbs_eq t with ht | ht
  · by_cases h1 : s.natAbs = 0
    · have : s = 0 := by omega
      subst this
      rw [Int.zero_sub, Int.natAbs_neg, Int.natAbs_mul]; simp
    · by_cases h2 : t.natAbs = 0
      · have : t = 0 := by omega
        subst this; simp
      · have := Int.mul_pos (show 0 < s by omega) (show 0 < t by omega)
        omega
  · have e : (n : Int) * t = -((n * t.natAbs : Nat) : Int) := by rw [ht, Int.mul_neg, Int.natAbs_neg, Int.natAbs_natCast, hnt]
    rw [e, Int.natAbs_natCast]
    generalize n * t.natAbs = k
    omega
  · have e : (n : Int) * t = ((n * t.natAbs : Nat) : Int) := by rw [ht, Int.natAbs_natCast, hnt]
    rw [e, Int.natAbs_natCast]
    generalize n * t.natAbs = k
    omega
  · by_cases h1 : s.natAbs = 0
    · have : s = 0 := by omega
      subst this
      rw [Int.zero_sub, Int.natAbs_neg, Int.natAbs_mul]; simp
    · by_cases h2 : t.natAbs = 0
      · have : t = 0 := by omega
        subst this; simp
      · have := Int.mul_pos_of_neg_of_neg (show s < 0 by omega) (show t < 0 by omega)
        omega
theorem opp_keep {s t d : Int} (h : s * t ≤ 0) (hd : 0 ≤ d) : t * (s - d * t) ≤ 0 := by
  have h1 : 0 ≤ d * (t * t) := Int.mul_nonneg hd (by
    rcases Int.natAbs_eq t with ht | ht
    · exact Int.mul_nonneg (by omega) (by omega)
    · exact Int.mul_nonneg_of_nonpos_of_nonpos (by omega) (by omega))
  have e : t * (s - d * t) = s * t - d * (t * t) := by grind
  omega
theorem newB {w w' : World} {t : TypeId} {cs : Array Value} (h : Upd (w.alloc (.cells cs t)) w' w.heap.size 0) : Below w.heap.size w w' :=
  (below1 w _).trans (h.toB.below (Nat.le_refl _) (by simp))

abbrev newI : Obj := .cells #[.bool false, .slice none 0 0] 68
theorem new2a (w : World) : IntAt ((w.alloc newI).alloc newI) w.heap.size 0 0 := (new_intAt w).below (below1 _ _)
theorem new2b (w : World) : IntAt ((w.alloc newI).alloc newI) (w.heap.size + 1) 0 0 := by
  have h := new_intAt (w.alloc newI)
  rw [World.size_alloc] at h
  exact h
/-- the size of the number that lies in a block (for a loop's measure) -/
noncomputable def gmu (w : World) (b : Nat) : Nat := open Classical in if h : ∃ z, IntAt w b 0 z then (Classical.choose h).natAbs else 0
theorem IntAt.unique {w : World} {b o : Nat} {z z' : Int} (h : IntAt w b o z) (h' : IntAt w b o z') : z = z' := by
  obtain ⟨A, c, h1, _, h3⟩ := h.abs
  obtain ⟨A', c', h1', _, h3'⟩ := h'.abs
  rw [h1] at h1'
  injection h1' with h1'
  injection h1' with e1 e2 e3
  subst e1
  have hd : dig z.natAbs = dig z'.natAbs := by
    apply List.ext_getElem?
    intro i
    by_cases hi : i < (dig z.natAbs).length
    · obtain ⟨x, hx⟩ := get_some rfl hi
      obtain ⟨y, hy⟩ := get_some e2.symm hi
      obtain ⟨b1, o1, rfl, _, hc⟩ := h3.elem Wc.clen hx (by omega)
      obtain ⟨b2, o2, e, _, hc'⟩ := h3'.elem Wc.clen hy (by omega)
      cases e
      have h5 := (hc 0 _ rfl).symm.trans (hc' 0 _ rfl)
      injection h5 with h5
      injection h5 with _ h5
      rw [hx, hy]
      congr 1
      omega
    · rw [List.getElem?_eq_none (by omega), List.getElem?_eq_none (by omega)]
  have hn : z.natAbs = z'.natAbs := by rw [← nv_dig z.natAbs, hd, nv_dig]
  have hs := h.neg.symm.trans h'.neg
  injection hs with hs
  injection hs with hs
  have hs2 : (z < 0) ↔ (z' < 0) := by simpa using hs
  omega
theorem gmu_of {w : World} {b : Nat} {n : Nat} (h : IntAt w b 0 (n : Int)) : gmu w b = n := by
  have hex : ∃ z, IntAt w b 0 z := ⟨_, h⟩
  unfold gmu
  rw [dif_pos hex, (Classical.choose_spec hex).unique h, Int.natAbs_natCast]

set_option maxRecDepth 100000 in
set_option maxHeartbeats 8000000 in
theorem gcd_int (b o b1 o1 b2 o2 : Nat) (z : Int) (x y : Nat) (w : World) (hz : IntAt w b o z) (hx : IntAt w b1 o1 (x : Int)) (hy : IntAt w b2 o2 (y : Int)) (hx0 : x ≠ 0) (hy0 : y ≠ 0) (hl : (dig x).length ≤ 1000000) (hl' : (dig y).length ≤ 1000000) :
    Calls Tryz.prog 77 #[.pointer (some ⟨b, o, none⟩), .pointer none, .pointer none, .pointer (some ⟨b1, o1, none⟩), .pointer (some ⟨b2, o2, none⟩)] w fun e w' => e = .returned (.pointer (some ⟨b, o, none⟩)) ∧ IntAt w' b o ((Nat.gcd x y : Nat) : Int) ∧ Upd w w' b o := by
  have HX := Lib.hid hx
  have HY := Lib.hid hy
  have HZ := Lib.hid hz
  have hblt := hz.lt
  obtain ⟨A, n, c, s, HN, HS, h0, h1, hc, HR⟩ := hx.open
  obtain ⟨A', n', c', s', HN', HS', h0', h1', hc', HR'⟩ := hy.open
  have hn : 0 < n := by rw [HN.out]; exact List.length_pos_iff.2 (dig_pos (by omega))
  have hn' : 0 < n' := by rw [HN'.out]; exact List.length_pos_iff.2 (dig_pos (by omega))
  have e0 : ((n : Int) == 0) = false := by simp; omega
  have e1 : ((n' : Int) == 0) = false := by simp; omega
  clear hx hy hz HR HR' HS HS' HN HN'
  go_enter Tryz.func77, Tryz.ntmps77
  go_wp2_with fail
  refine (abs_int _ 0 b1 o1 0 x _ (new_intAt w) (HX.out.below (below1 w _)) (by rw [Int.natAbs_natCast]; omega)).mono ?_
  rintro e w1 ⟨rfl, hi1, hu1⟩
  have hb1 := newB hu1
  rw [Int.natAbs_natCast] at hi1
  have z1 := hb1.size
  have HI1 := Lib.hid hi1
  have HB1 := Lib.hid hb1
  clear hi1 hu1 hb1
  go_wp2_with fail
  refine (abs_int _ 0 b2 o2 0 y _ (new_intAt w1) ((HY.out.below HB1.out).below (below1 w1 _)) (by rw [Int.natAbs_natCast]; omega)).mono ?_
  rintro e w2 ⟨rfl, hi2, hu2⟩
  have hb2 := newB hu2
  rw [Int.natAbs_natCast] at hi2
  have z2 := hb2.size
  have HI2 := Lib.hid hi2
  have HI1b := Lib.hid (HI1.out.below hb2)
  have HB2 := Lib.hid (below_then HB1.out hb2)
  clear hi2 hu2 hb2
  go_wp2_with fail
  refine (newInt_int 1 _ (by omega) (by omega)).mono ?_
  rintro e w3 ⟨bs, rfl, hbs, hbs', hi3, hb3⟩
  have z3 := hb3.size
  have HI3 := Lib.hid hi3
  have HI2b := Lib.hid (HI2.out.below hb3)
  have HI1c := Lib.hid (HI1b.out.below hb3)
  have HB3 := Lib.hid (below_then HB2.out hb3)
  clear hi3 hb3
  go_wp2_with fail
  refine (newInt_int 0 _ (by omega) (by omega)).mono ?_
  rintro e w4 ⟨bt, rfl, hbt, hbt', hi4, hb4⟩
  have z4 := hb4.size
  have HI4 := Lib.hid hi4
  have HI3b := Lib.hid (HI3.out.below hb4)
  have HI2c := Lib.hid (HI2b.out.below hb4)
  have HI1d := Lib.hid (HI1c.out.below hb4)
  have HB4 := Lib.hid (below_then HB3.out hb4)
  clear hi4 hb4
  go_wp2_with fail
  go_loopw [15, 16, 17, 18] (fun pv qv sv tv wr => ∃ (bp bq bs bt : Nat) (P Q : Nat) (S T : Int), pv = .pointer (some ⟨bp, 0, none⟩) ∧ qv = .pointer (some ⟨bq, 0, none⟩) ∧ sv = .pointer (some ⟨bs, 0, none⟩) ∧ tv = .pointer (some ⟨bt, 0, none⟩) ∧
    IntAt wr bp 0 (P : Int) ∧ IntAt wr bq 0 (Q : Int) ∧ IntAt wr bs 0 S ∧ IntAt wr bt 0 T ∧ Nat.gcd P Q = Nat.gcd x y ∧ 1 ≤ P ∧ P ≤ max x y ∧ Q ≤ y ∧ S.natAbs * Q + T.natAbs * P = y ∧ S * T ≤ 0 ∧ Below w.heap.size w wr ∧ gmu wr bq = Q) (fun _ qv _ _ wr => gmu wr (match qv with | .pointer (some a) => a.block | _ => 0))
  case atStart => exact ⟨_, _, _, _, x, y, 1, 0, rfl, rfl, rfl, rfl, HI1d.out, HI2c.out, HI3b.out, HI4.out, rfl, by omega, by omega, Nat.le_refl _, by simp, by simp, HB4.out, gmu_of HI2c.out⟩
  case round =>
    obtain ⟨bp, bq, bs', bt', P, Q, S, T, rfl, rfl, rfl, rfl, hp, hq, hs, ht, hg, hP1, hPm, hQm, hE, hO, hbw, hmu⟩ := hrel
    have hbig : ∀ k : Nat, k ≤ max x y → (dig k).length ≤ 1000000 := fun k hk => by
      rcases Nat.le_total x y with h | h
      · exact Nat.le_trans (dig_len_mono (show k ≤ y by omega)) hl'
      · exact Nat.le_trans (dig_len_mono (show k ≤ x by omega)) hl
    have HP := Lib.hid hp
    have HQ := Lib.hid hq
    have HSS := Lib.hid hs
    have HT := Lib.hid ht
    have HG := Lib.hid hg
    have HE := Lib.hid hE
    have HO := Lib.hid hO
    have HBW := Lib.hid hbw
    have HMU := Lib.hid hmu
    have HBIG := Lib.hid hbig
    have zw := hbw.size
    have lp := hp.lt
    have lq := hq.lt
    have ls := hs.lt
    have lt := ht.lt
    obtain ⟨Aq, nq, cq, sq, HNq, _, _, hq1, _, _⟩ := hq.open
    clear hp hq hs ht hg hE hO hbw hmu hbig
    by_cases hQ0 : Q = 0
    · have hn0 : nq = 0 := by rw [HNq.out, hQ0]; rfl
      subst hn0
      have hgp : P = Nat.gcd x y := by rw [← HG.out, hQ0, Nat.gcd_zero_right]
      have HGP := Lib.hid hgp
      clear hgp
      go_wp2_with fail
      refine (set_int b o bp 0 z P wr (HZ.out.below HBW.out) HP.out (by rw [Int.natAbs_natCast]; have := HBIG.out P hPm; omega)).mono ?_
      rintro e w9 ⟨rfl, hi9, hu9⟩
      have HI9 := Lib.hid hi9
      have HU9 := Lib.hid hu9
      clear hi9 hu9
      go_wp2_with fail
      go_ret
      rw [← HGP.out]
      exact ⟨rfl, HI9.out, Upd.after HBW.out HU9.out hblt⟩
    · have hnq : 0 < nq := by rw [HNq.out]; exact List.length_pos_iff.2 (dig_pos (by omega))
      have hnq' : decide ((0 : Int) < (nq : Int)) = true := by simp; omega
      have hSb : S.natAbs ≤ y := by
        have h1 := HE.out
        have h2 : S.natAbs * 1 ≤ S.natAbs * Q := Nat.mul_le_mul_left _ (by omega)
        omega
      have hTb : T.natAbs ≤ y := by
        have h1 := HE.out
        have h2 : T.natAbs * 1 ≤ T.natAbs * P := Nat.mul_le_mul_left _ hP1
        omega
      have hE2 := euclid_keep HE.out
      have hTb2 : S.natAbs + P / Q * T.natAbs ≤ y := by
        have h2 : (S.natAbs + P / Q * T.natAbs) * 1 ≤ (S.natAbs + P / Q * T.natAbs) * Q := Nat.mul_le_mul_left _ (by omega)
        omega
      have hda : ((P / Q : Nat) : Int).natAbs = P / Q := Int.natAbs_natCast _
      have hopp : (S - ((P / Q : Nat) : Int) * T).natAbs = S.natAbs + P / Q * T.natAbs := by rw [opp_abs HO.out (by omega), hda]
      have hopk := opp_keep (d := ((P / Q : Nat) : Int)) HO.out (by omega)
      have hdT : (((P / Q : Nat) : Int) * T).natAbs ≤ y := by rw [Int.natAbs_mul, hda]; omega
      have HE2 := Lib.hid hE2
      have HOP := Lib.hid hopp
      have HOK := Lib.hid hopk
      have HDT := Lib.hid hdT
      have HTB2 := Lib.hid hTb2
      have HQ0 := Lib.hid hQ0
      have hdm : ((P : Int).tdiv (Q : Int)) = ((P / Q : Nat) : Int) := rfl
      have hmm : ((P : Int).tmod (Q : Int)) = ((P % Q : Nat) : Int) := rfl
      have hdle : P / Q ≤ max x y := Nat.le_trans (Nat.div_le_self _ _) hPm
      have HDM := Lib.hid hdm
      have HMM := Lib.hid hmm
      clear hE2 hopp hopk hdT hTb2 hQ0 hdm hmm hda
      go_wp2_with fail
      refine (quoRem_int wr.heap.size 0 bp 0 bq 0 (wr.heap.size + 1) 0 0 P Q 0 _ (new2a wr) (HP.out.below (below2 wr _ _)) (HQ.out.below (below2 wr _ _)) (new2b wr) (fun e => absurd e (by omega)) (by rw [Int.natAbs_natCast]; have := HBIG.out P hPm; omega) (by rw [Int.natAbs_natCast]; have := HBIG.out Q (by omega); omega) (by have := HQ0.out; omega)).mono ?_
      rintro e w5 ⟨rfl, hd5, hr5, wm, hu5, hv5⟩
      rw [HDM.out] at hd5
      rw [HMM.out] at hr5
      have hb5 : Below wr.heap.size wr w5 := (below2 wr _ _).trans ((hu5.toB.below (Nat.le_refl _) (by simp; omega)).trans (hv5.toB.below (by omega) (by have := hu5.size; simp at this; omega)))
      have z5 := hb5.size
      have HD5 := Lib.hid hd5
      have HR5 := Lib.hid hr5
      have HB5 := Lib.hid hb5
      have HP5 := Lib.hid (HP.out.below hb5)
      have HQ5 := Lib.hid (HQ.out.below hb5)
      have HS5 := Lib.hid (HSS.out.below hb5)
      have HT5 := Lib.hid (HT.out.below hb5)
      clear hd5 hr5 hu5 hv5 hb5
      go_wp2_with fail
      refine (mul_int (w5.heap.size + 1) 0 wr.heap.size 0 bt' 0 0 ((P / Q : Nat) : Int) T _ (new2b w5) (HD5.out.below (below2 w5 _ _)) (HT5.out.below (below2 w5 _ _)) (by rw [Int.natAbs_natCast]; have := HBIG.out (P / Q) hdle; omega) (by have := HBIG.out T.natAbs (by omega); omega)).mono ?_
      rintro e w6 ⟨rfl, hi6, hu6⟩
      have hb6 : Below w5.heap.size w5 w6 := (below2 w5 _ _).trans (hu6.toB.below (by omega) (by simp; omega))
      have hn6 : IntAt w6 w5.heap.size 0 0 := (new2a w5).upd hu6 (fun e => absurd e (by omega))
      have z6 := hb6.size
      have HI6 := Lib.hid hi6
      have HN6 := Lib.hid hn6
      have HB6 := Lib.hid hb6
      have HQ6 := Lib.hid (HQ5.out.below hb6)
      have HR6 := Lib.hid (HR5.out.below hb6)
      have HS6 := Lib.hid (HS5.out.below hb6)
      have HT6 := Lib.hid (HT5.out.below hb6)
      have l6 := hi6.lt
      clear hi6 hu6 hb6 hn6
      go_wp2_with fail
      refine (sub_int w5.heap.size 0 bs' 0 (w5.heap.size + 1) 0 0 S (((P / Q : Nat) : Int) * T) _ HN6.out HS6.out HI6.out (by have := HBIG.out S.natAbs (by omega); omega) (by have := HBIG.out _ (Nat.le_trans HDT.out (by omega)); omega)).mono ?_
      rintro e w7 ⟨rfl, hi7, hu7⟩
      have hb7 : Below w5.heap.size w6 w7 := hu7.toB.below (Nat.le_refl _) (by omega)
      have z7 := hb7.size
      have hk7 : ∀ (bb : Nat) (vv : Int), IntAt w6 bb 0 vv → bb < w5.heap.size → IntAt w7 bb 0 vv := fun bb vv hh hlt => hh.upd hu7 (fun e => absurd e (by omega))
      have HI7 := Lib.hid hi7
      have HK7 := Lib.hid hk7
      have HB7 : Hid (Below w.heap.size w w7) := Lib.hid (HBW.out.trans ((HB5.out.mono zw).trans ((HB6.out.mono (by omega)).trans (hb7.mono (by omega)))))
      have l5 := HR5.out.lt
      clear hi7 hu7 hb7 hk7
      go_wp2_with fail
      refine ⟨⟨bq, wr.heap.size + 1, bt', w5.heap.size, Q, P % Q, T, S - ((P / Q : Nat) : Int) * T, rfl, rfl, rfl, rfl, HK7.out _ _ HQ6.out (by omega), HK7.out _ _ HR6.out l5, HK7.out _ _ HT6.out (by omega), HI7.out, ?_, by have := HQ0.out; omega, by omega, ?_, ?_, HOK.out, HB7.out, gmu_of (HK7.out _ _ HR6.out l5)⟩, ?_⟩
      · rw [← HG.out, Nat.gcd_comm P Q, Nat.gcd_rec Q P]; exact Nat.gcd_comm _ _
      · exact Nat.le_trans (Nat.le_of_lt (Nat.mod_lt _ (by have := HQ0.out; omega))) hQm
      · rw [HOP.out]; exact HE2.out
      · show gmu w7 (wr.heap.size + 1) < gmu wr bq
        rw [gmu_of (HK7.out _ _ HR6.out l5), HMU.out]
        exact Nat.mod_lt _ (by have := HQ0.out; omega)

end Go.Proofs.YtjokpfgncmdomaaGreatDoor

/- common: the walk -/
namespace Go.Proofs.YtjokpfgncmdomaaGreatDoor
open Go.RowKit Go.Sort

theorem RdE.unique {w : World} {S S' : Nat → Prop} {A : Option Addr} {n : Nat} {xs ys : List Nat} (h : RdE Wc 1 w S A n xs) (h' : RdE Wc 1 w S' A n ys) : xs = ys := by
  apply List.ext_getElem?
  intro i
  by_cases hi : i < n
  · obtain ⟨x, hx⟩ := get_some h.num hi
    obtain ⟨y, hy⟩ := get_some h'.num hi
    obtain ⟨b1, o1, rfl, _, hc⟩ := h.elem Wc.clen hx (by omega)
    obtain ⟨b2, o2, e, _, hc'⟩ := h'.elem Wc.clen hy (by omega)
    cases e
    have h5 := (hc 0 _ rfl).symm.trans (hc' 0 _ rfl)
    injection h5 with h5
    injection h5 with _ h5
    rw [hx, hy]
    congr 1
    omega
  · rw [List.getElem?_eq_none (by rw [h.num]; omega), List.getElem?_eq_none (by rw [h'.num]; omega)]
/-- the number whose words a slice reads (for a loop's measure) -/
noncomputable def wmu (w : World) (v : Value) : Nat := open Classical in
  if h : ∃ Y, ∃ (S : Nat → Prop) (A : Option Addr) (n c : Nat), v = .slice A n c ∧ RdE Wc 1 w S A n (dig Y) then Classical.choose h else 0
theorem wmu_of {w : World} {S : Nat → Prop} {A : Option Addr} {n c Y : Nat} (h : RdE Wc 1 w S A n (dig Y)) : wmu w (.slice A n c) = Y := by
  have hex : ∃ Y, ∃ (S : Nat → Prop) (A' : Option Addr) (n' c' : Nat), Value.slice A n c = .slice A' n' c' ∧ RdE Wc 1 w S A' n' (dig Y) := ⟨Y, S, A, n, c, rfl, h⟩
  unfold wmu
  rw [dif_pos hex]
  obtain ⟨S', A', n', c', e, h'⟩ := Classical.choose_spec hex
  injection e with e1 e2 e3
  subst e1 e2
  rw [← nv_dig (Classical.choose hex), h'.unique h, nv_dig]

def ComPost (G : Nat) (w : World) (e : Ending) (w' : World) : Prop := ∃ A' c', e = .returned (.slice A' (dig G).length c') ∧ (dig G).length ≤ c' ∧ RdE Wc 1 w' (fun b => b < w'.heap.size) A' (dig G).length (dig G) ∧ Below w.heap.size w w'

set_option maxRecDepth 100000 in
set_option maxHeartbeats 8000000 in
theorem common_any (A B : Option Addr) (n m c d : Nat) (x y : Nat) (w : World) (hx : RdE Wc 1 w (fun b => b < w.heap.size) A n (dig x)) (hy : RdE Wc 1 w (fun b => b < w.heap.size) B m (dig y)) (hn : n ≤ 1000000) (hm : m ≤ 1000000) (hnc : n ≤ c) (hmc : m ≤ d) :
    Calls Tryz.prog 167 #[.slice A n c, .slice B m d] w (ComPost (Nat.gcd x y) w) := by
  have HX := Lib.hid hx
  have HY := Lib.hid hy
  clear hx hy
  go_enter Tryz.func167, Tryz.ntmps167
  go_wp2_with fail
  go_loopw [0, 1] (fun av bv wr => ∃ (A : Option Addr) (n c : Nat) (B : Option Addr) (m d X Y : Nat), av = .slice A n c ∧ bv = .slice B m d ∧ RdE Wc 1 wr (fun b => b < wr.heap.size) A n (dig X) ∧ RdE Wc 1 wr (fun b => b < wr.heap.size) B m (dig Y) ∧ n ≤ 1000000 ∧ m ≤ 1000000 ∧ n ≤ c ∧ m ≤ d ∧ Nat.gcd X Y = Nat.gcd x y ∧ Below w.heap.size w wr) (fun _ bv wr => wmu wr bv)
  case atStart => exact ⟨A, n, c, B, m, d, x, y, rfl, rfl, HX.out, HY.out, hn, hm, hnc, hmc, rfl, Below.refl _ _⟩
  case round =>
    obtain ⟨A, n, c, B, m, d, X, Y, rfl, rfl, hx, hy, hn, hm, hnc, hmc, hg, hbw⟩ := hrel
    have HX1 := Lib.hid hx
    have HY1 := Lib.hid hy
    have HG := Lib.hid hg
    have HBW := Lib.hid hbw
    clear hx hy hg hbw HX HY
    by_cases hm2 : 2 < m
    · have hY0 : Y ≠ 0 := by intro e; have := HY1.out.num; rw [e, dig_zero] at this; simp at this; omega
      go_wp2_with fail
      refine (div_any _ _ _ _ _ _ X Y wr HX1.out HY1.out (by omega) (by omega) hY0).mono ?_
      rintro e w1 ⟨A1, c1, A2, c2, rfl, hc1, hc2, hr1, hr2, hb1⟩
      have hlt : X % Y < Y := Nat.mod_lt _ (by omega)
      have hlen := dig_len_mono (Nat.le_of_lt hlt)
      rw [HY1.out.num] at hlen
      have HR2 := Lib.hid hr2
      have HB1 := Lib.hid hb1
      have HY2 := Lib.hid ((HY1.out.keep (Keeps.below hb1 (fun b hb => hb))).imp (S' := fun b => b < w1.heap.size) fun b hb => Nat.lt_of_lt_of_le hb hb1.size)
      have HLT := Lib.hid hlt
      clear hr1 hr2 hb1 hlt
      go_wp2_with fail
      refine ⟨⟨B, m, d, A2, _, c2, Y, X % Y, rfl, rfl, HY2.out, HR2.out.imp fun b hb => hb.2, hm, by omega, hmc, hc2, ?_, below_then HBW.out HB1.out⟩, ?_⟩
      · rw [← HG.out, Nat.gcd_comm X Y, Nat.gcd_rec Y X]; exact Nat.gcd_comm _ _
      · show wmu w1 _ < wmu wr _
        rw [wmu_of HR2.out, wmu_of HY1.out]
        exact HLT.out
    · by_cases hm0 : m = 0
      · subst hm0
        have hY0 : Y = 0 := dig_len_zero.1 HY1.out.num
        subst hY0
        have hgx : X = Nat.gcd x y := by rw [← HG.out, Nat.gcd_zero_right]
        subst hgx
        have hl := HX1.out.num
        subst hl
        go_wp2_with fail
        go_ret
        exact ⟨A, c, rfl, hnc, HX1.out, HBW.out⟩
      · have e0 : ((m : Int) == 0) = false := by simp; omega
        have hY0 : Y ≠ 0 := by intro e; have := HY1.out.num; rw [e, dig_zero] at this; simp at this; omega
        by_cases hn2 : 2 < n
        · go_wp2_with fail
          refine (div_any _ _ _ _ _ _ X Y wr HX1.out HY1.out (by omega) (by omega) hY0).mono ?_
          rintro e w1 ⟨A1, c1, A2, c2, rfl, hc1, hc2, hr1, hr2, hb1⟩
          have hlt : X % Y < Y := Nat.mod_lt _ (by omega)
          have hlen := dig_len_mono (Nat.le_of_lt hlt)
          rw [HY1.out.num] at hlen
          have HR2 := Lib.hid hr2
          have HB1 := Lib.hid (below_then HBW.out hb1)
          have HY2 := Lib.hid ((HY1.out.keep (Keeps.below hb1 (fun b hb => hb))).imp (S' := fun b => b < w1.heap.size) fun b hb => Nat.lt_of_lt_of_le hb hb1.size)
          have hg2 : Nat.gcd Y (X % Y) = Nat.gcd x y := by rw [← HG.out, Nat.gcd_comm X Y, Nat.gcd_rec Y X]; exact Nat.gcd_comm _ _
          have HG2 := Lib.hid hg2
          have px : pl (dig Y) = Y := nv_two (by rw [HY1.out.num]; omega)
          have py : pl (dig (X % Y)) = X % Y := nv_two (by omega)
          have PX := Lib.hid px
          have PY := Lib.hid py
          have yl := small_dig (x := Y) (by rw [HY1.out.num]; omega)
          have xl := small_dig (x := X % Y) (by omega)
          clear hr1 hr2 hb1 hlt hg2 px py
          go_wp2_with fail
          refine (plain_any _ _ _ _ _ _ HY2.out (dig_wds _)).mono ?_
          rintro e w' ⟨rfl, rfl⟩
          rw [PX.out]
          go_wp2_with fail
          refine (plain_any _ _ _ _ _ _ HR2.out (dig_wds _)).mono ?_
          rintro e w' ⟨rfl, rfl⟩
          rw [PY.out]
          obtain ⟨P, hP⟩ : ∃ P, P = X % Y := ⟨_, rfl⟩
          rw [← hP] at xl HG2
          rw [← hP]
          clear hP PX PY HR2
          go_wp2_with fail
          go_loopw [9, 10] (fun xv yv wz => ∃ U V : Nat, xv = .int .u64 U ∧ yv = .int .u64 V ∧ U < 18446744073709551616 ∧ V < 18446744073709551616 ∧ Nat.gcd U V = Nat.gcd x y ∧ Below w.heap.size w wz) (fun _ yv _ => (intOf yv).toNat)
          case atStart => exact ⟨Y, P, rfl, rfl, yl, xl, HG2.out, HB1.out⟩
          case round =>
            obtain ⟨U, V, rfl, rfl, hU, hV, hg3, hb3⟩ := hrel
            have HG3 := Lib.hid hg3
            have HB3 := Lib.hid hb3
            clear hg3 hb3
            by_cases hV0 : V = 0
            · subst hV0
              have hUx : U = Nat.gcd x y := by rw [← HG3.out, Nat.gcd_zero_right]
              have HUX := Lib.hid hUx
              clear hUx
              go_wp2_with fail
              refine (words_any U _ hU).mono ?_
              rintro e w7 ⟨A7, c7, rfl, hc7, hr7, hb7⟩
              have HR7 := Lib.hid hr7
              have HB7 := Lib.hid hb7
              clear hr7 hb7
              go_wp2_with fail
              go_ret
              rw [← HUX.out]
              exact ⟨A7, c7, rfl, hc7, HR7.out.imp fun b hb => hb.2, below_then HB3.out HB7.out⟩
            · have hmod : (U : Int).tmod (V : Int) = ((U % V : Nat) : Int) := by rw [Int.tmod_eq_emod_of_nonneg (by omega)]; rfl
              have hVp : (0 : Int) < (V : Int) := by omega
              have hlt : U % V < V := Nat.mod_lt _ (by omega)
              have HLT := Lib.hid hlt
              clear hlt
              go_wp2_with fail
              go_quiet (fail)
              clear hmod
              go_wp2_with fail
              refine ⟨⟨V, U % V, rfl, rfl, hV, by have := HLT.out; omega, ?_, below_drewN HB3.out _⟩, ?_⟩
              · rw [← HG3.out, Nat.gcd_comm U V, Nat.gcd_rec V U]; exact Nat.gcd_comm _ _
              · have := HLT.out
                show ((U % V : Nat) : Int).toNat < (V : Int).toNat
                omega
        · have px : pl (dig X) = X := nv_two (by rw [HX1.out.num]; omega)
          have py : pl (dig Y) = Y := nv_two (by rw [HY1.out.num]; omega)
          have PX := Lib.hid px
          have PY := Lib.hid py
          have xl := small_dig (x := X) (by rw [HX1.out.num]; omega)
          have yl := small_dig (x := Y) (by rw [HY1.out.num]; omega)
          clear px py
          go_wp2_with fail
          refine (plain_any _ _ _ _ _ _ HX1.out (dig_wds _)).mono ?_
          rintro e w' ⟨rfl, rfl⟩
          rw [PX.out]
          go_wp2_with fail
          refine (plain_any _ _ _ _ _ _ HY1.out (dig_wds _)).mono ?_
          rintro e w' ⟨rfl, rfl⟩
          rw [PY.out]
          clear PX PY
          go_wp2_with fail
          go_loopw [9, 10] (fun xv yv wz => ∃ U V : Nat, xv = .int .u64 U ∧ yv = .int .u64 V ∧ U < 18446744073709551616 ∧ V < 18446744073709551616 ∧ Nat.gcd U V = Nat.gcd x y ∧ Below w.heap.size w wz) (fun _ yv _ => (intOf yv).toNat)
          case atStart => exact ⟨X, Y, rfl, rfl, xl, yl, HG.out, HBW.out⟩
          case round =>
            obtain ⟨U, V, rfl, rfl, hU, hV, hg3, hb3⟩ := hrel
            have HG3 := Lib.hid hg3
            have HB3 := Lib.hid hb3
            clear hg3 hb3
            by_cases hV0 : V = 0
            · subst hV0
              have hUx : U = Nat.gcd x y := by rw [← HG3.out, Nat.gcd_zero_right]
              have HUX := Lib.hid hUx
              clear hUx
              go_wp2_with fail
              refine (words_any U _ hU).mono ?_
              rintro e w7 ⟨A7, c7, rfl, hc7, hr7, hb7⟩
              have HR7 := Lib.hid hr7
              have HB7 := Lib.hid hb7
              clear hr7 hb7
              go_wp2_with fail
              go_ret
              rw [← HUX.out]
              exact ⟨A7, c7, rfl, hc7, HR7.out.imp fun b hb => hb.2, below_then HB3.out HB7.out⟩
            · have hmod : (U : Int).tmod (V : Int) = ((U % V : Nat) : Int) := by rw [Int.tmod_eq_emod_of_nonneg (by omega)]; rfl
              have hVp : (0 : Int) < (V : Int) := by omega
              have hlt : U % V < V := Nat.mod_lt _ (by omega)
              have HLT := Lib.hid hlt
              clear hlt
              go_wp2_with fail
              go_quiet (fail)
              clear hmod
              go_wp2_with fail
              refine ⟨⟨V, U % V, rfl, rfl, hV, by have := HLT.out; omega, ?_, below_drewN HB3.out _⟩, ?_⟩
              · rw [← HG3.out, Nat.gcd_comm U V, Nat.gcd_rec V U]; exact Nat.gcd_comm _ _
              · have := HLT.out
                show ((U % V : Nat) : Int).toNat < (V : Int).toNat
                omega

end Go.Proofs.YtjokpfgncmdomaaGreatDoor

/- SetBytes: the walk -/
namespace Go.Proofs.YtjokpfgncmdomaaGreatDoor
open Go.RowKit Go.Sort

/-- a byte's cell -/
abbrev Bc (x : Nat) : List Value := [.int .u8 (x : Int)]
theorem Bc.clen (x : Nat) : (Bc x).length = 1 := rfl
def Bys (bs : List Nat) : Prop := ∀ x ∈ bs, x < 256
theorem be_lt {bs : List Nat} (h : Bys bs) : ∀ i, be (bs.take i) 0 < 256 ^ i
  | 0 => by simp [be]
  | i + 1 => by
    by_cases hi : i < bs.length
    · have hb : bs[i]? = some bs[i] := List.getElem?_eq_getElem hi
      rw [be_take hb, Nat.pow_succ]
      have h1 := be_lt h i
      have h2 := h _ (List.getElem_mem hi)
      omega
    · rw [List.take_of_length_le (by omega)]
      have h1 := be_lt h i
      rw [List.take_of_length_le (by omega)] at h1
      exact Nat.lt_of_lt_of_le h1 (Nat.pow_le_pow_right (by decide) (by omega))
theorem dig_256 {X k : Nat} (h : X < 256 ^ k) : (dig X).length ≤ k := dig_len_le (Nat.lt_of_lt_of_le h (Nat.pow_le_pow_left (by decide) k))

theorem left_8 (A : Option Addr) (n c : Nat) (x y : Nat) (S : Nat → Prop) (w : World) (hy : y = x * 2 ^ 8) (hx : RdE Wc 1 w S A n (dig x)) (hS : ∀ b, S b → b < w.heap.size) (hn : n ≤ 10000000) :
    Calls Tryz.prog 99 #[.slice A n c, .int .u64 8] w (WordsPost y w) := by
  rw [hy]
  exact left_k A n c x 8 S w hx hS hn (by omega)

set_option maxRecDepth 100000 in
set_option maxHeartbeats 2000000 in
theorem setBytes_int (b o : Nat) (z : Int) (A : Option Addr) (n c : Nat) (bs : List Nat) (w : World) (hz : IntAt w b o z) (hx : RdE Bc 1 w (fun b => b < w.heap.size) A n bs) (hb : Bys bs) (hn : n ≤ 1000000) :
    Calls Tryz.prog 96 #[.pointer (some ⟨b, o, none⟩), .slice A n c] w fun e w' => e = .returned (.pointer (some ⟨b, o, none⟩)) ∧ IntAt w' b o (be bs 0 : Int) ∧ Upd w w' b o := by
  have hblt := hz.lt
  have HZ := Lib.hid hz
  have HX := Lib.hid hx
  have HB := Lib.hid hb
  have HLT := Lib.hid (be_lt hb)
  clear hz hx hb
  go_enter Tryz.func96, Tryz.ntmps96
  go_wp2_with fail
  go_loopw [5, 6] (fun rv iv wr => ∃ (k : Nat) (A' : Option Addr) (m d X : Nat), k ≤ n ∧ iv = .int .i64 k ∧ rv = .slice A' m d ∧ RdE Wc 1 wr (fun b => b < wr.heap.size) A' m (dig X) ∧ m ≤ d ∧ X = be (bs.take k) 0 ∧ Below w.heap.size w wr) (fun _ iv _ => n - (intOf iv).toNat)
  case atStart => exact ⟨0, none, 0, 0, 0, Nat.zero_le _, rfl, rfl, RdE.nil .., Nat.le_refl _, rfl, Below.refl _ _⟩
  case round =>
    obtain ⟨k, A', m, d, X, hk, rfl, rfl, hr, hmd, hX, hbw⟩ := hrel
    have hXl := HLT.out k
    rw [← hX] at hXl
    have hmk := dig_256 hXl
    rw [hr.num] at hmk
    have zw := hbw.size
    have HR := Lib.hid hr
    have HXX := Lib.hid hX
    have HBW := Lib.hid hbw
    obtain ⟨Y, hY⟩ : ∃ Y, Y = X * 2 ^ 8 := ⟨_, rfl⟩
    have h8 : (dig Y).length ≤ k + 1 := dig_256 (by rw [hY, Nat.pow_succ]; omega)
    have HYY := Lib.hid hY
    clear hY
    clear hr hX hbw hXl
    by_cases hlt : k < n
    · have hlt' : (k : Int) < (n : Int) := by omega
      have g1 : (0 : Int) ≤ (k : Int) := by omega
      obtain ⟨y, hy⟩ := get_some HX.out.num hlt
      obtain ⟨b1, o1, rfl, hSb, hc⟩ := HX.out.elem Bc.clen hy (by omega)
      have q1 : wr.cell? ⟨b1, o1 + k, none⟩ = some (.int .u8 (y : Int)) := by have h := hc 0 _ rfl; rw [Nat.mul_one, Nat.add_zero] at h; exact bat HBW.out h
      have hyl : y < 256 := HB.out y (List.mem_of_getElem? hy)
      have g2 : IntKind.u64.wrap (y : Int) = (y : Int) := by rw [IntKind.wrap_u64]; omega
      have hy2 := dig_len_small (x := y) (by omega)
      have HY := Lib.hid hy
      clear hc hy
      go_wp2_with fail
      refine wp_region_held_drew (S := (fun w' => w'.cell? ⟨b1, o1 + k, none⟩ = some (.int .u8 (y : Int)))) (by kernel_rfl) ?_ (fun hHeld => ?_)
      · first | exact True.intro | ((try dsimp only); go_keep)
      refine tkH (i := 0) (v := ?_) rfl (by kernel_rfl) (Or.inl ⟨by kernel_rfl, ?_⟩) (by assumption) ?_
      rotate_left 1
      · (intro w hSw; (try dsimp only at hSw); go_simp; try with_reducible rfl)
      try simp only [lyA, lyB, lyC, Act.put, lyD, lyE, lyF]
      refine tkH (i := 2) (v := ?_) rfl (by kernel_rfl) (Or.inl ⟨by kernel_rfl, ?_⟩) (by assumption) ?_
      rotate_left 1
      · (intro w hSw; (try dsimp only at hSw); go_simp; try with_reducible rfl)
      try simp only [lyA, lyB, lyC, Act.put, lyD, lyE, lyF]
      refine tkH (i := 3) (v := ?_) rfl (by kernel_rfl) (Or.inl ⟨by kernel_rfl, ?_⟩) (by assumption) ?_
      rotate_left 1
      · (intro w hSw; (try dsimp only at hSw); go_simp; try with_reducible rfl)
      try simp only [lyA, lyB, lyC, Act.put, lyD, lyE, lyF]
      refine tkH (i := 4) (v := ?_) rfl (by kernel_rfl) (Or.inl ⟨by kernel_rfl, ?_⟩) (by assumption) ?_
      rotate_left 1
      · (intro w hSw; (try dsimp only at hSw); go_simp; try with_reducible rfl)
      try simp only [lyA, lyB, lyC, Act.put, lyD, lyE, lyF]
      refine tkH (i := 5) (v := ?_) rfl (by kernel_rfl) (Or.inl ⟨by kernel_rfl, ?_⟩) (by assumption) ?_
      rotate_left 1
      · (intro w hSw; (try dsimp only at hSw); go_simp; try with_reducible rfl)
      try simp only [lyA, lyB, lyC, Act.put, lyD, lyE, lyF]
      refine tkH (i := 6) (v := ?_) rfl (by kernel_rfl) (Or.inl ⟨by kernel_rfl, ?_⟩) (by assumption) ?_
      rotate_left 1
      · (intro w hSw; (try dsimp only at hSw); go_simp; try with_reducible rfl)
      try simp only [lyA, lyB, lyC, Act.put, lyD, lyE, lyF]
      refine wpAnyH_ready (rs := [1]) (by kernel_rfl) (by simp) ?_
      refine AllReadyH.cons rfl (fun K hK => ?_) AllReadyH.nil
      go_simp
      (refine (left_8 _ _ _ X Y _ wr.drew HYY.out (HR.out.keep (fun _ _ => rfl)) (fun b hb => hb) (by omega)).mono ?_; rintro e w1 ⟨A1, c1, rfl, hc1, hr1, hb1⟩; have k1 := bat hb1 hHeld; have HR1 := Lib.hid hr1; have HB1 : Hid (Below wr.heap.size wr w1) := Lib.hid (((Below.refl wr.heap.size wr).drew).trans hb1); clear hr1 hb1)
      try go_wp2_with fail
      refine hK.out _ _ ?_ (fun hHeld => ?_)
      · first | exact True.intro | ((try dsimp only); go_keep)
      clear hK K
      try simp only [lyA, lyB, lyC, Act.put, lyD, lyE, lyF]
      refine wpAnyH_ready (rs := [7]) (by kernel_rfl) (by simp) ?_
      refine AllReadyH.cons rfl (fun K hK => ?_) AllReadyH.nil
      go_simp
      (refine (words_any y w1 (by omega)).mono ?_; rintro e w2 ⟨A2, c2, rfl, hc2, hr2, hb2⟩; have k2 := bat hb2 hHeld; have HR2 := Lib.hid hr2; have HB2 := Lib.hid hb2; clear hr2 hb2)
      try go_wp2_with fail
      refine hK.out _ _ ?_ (fun hHeld => ?_)
      · first | exact True.intro | ((try dsimp only); go_keep)
      clear hK K
      try simp only [lyA, lyB, lyC, Act.put, lyD, lyE, lyF]
      refine wpAnyH_ready (rs := [8]) (by kernel_rfl) (by simp) ?_
      refine AllReadyH.cons rfl (fun K hK => ?_) AllReadyH.nil
      go_simp
      (refine (add_any _ _ _ _ _ _ (dig Y) (dig y) _ _ w2 (HR1.out.keep (Keeps.below HB2.out (fun b hb => hb.2))) HR2.out (dig_wds _) (dig_wds _) (fun b hb => Nat.lt_of_lt_of_le hb.2 HB2.out.size) (fun b hb => hb.2) (by omega) (by omega)).mono ?_; rintro e w3 ⟨A3, c3, rfl, hc3, hr3, hb3⟩; rw [nv_dig, nv_dig] at hc3 hr3; rw [nv_dig, nv_dig]; have k3 := bat hb3 hHeld; have HR3 := Lib.hid hr3; have HB3 := Lib.hid hb3; clear hr3 hb3)
      try go_wp2_with fail
      refine hK.out _ _ ?_ (fun hHeld => ?_)
      · first | exact True.intro | ((try dsimp only); go_keep)
      clear hK K
      try simp only [lyA, lyB, lyC, Act.put, lyD, lyE, lyF]
      refine tkH (i := 9) (v := ?_) rfl (by kernel_rfl) (Or.inl ⟨by kernel_rfl, ?_⟩) (by assumption) ?_
      rotate_left 1
      · (intro w hSw; (try dsimp only at hSw); go_simp; try with_reducible rfl)
      try simp only [lyA, lyB, lyC, Act.put, lyD, lyE, lyF]
      refine wpAnyH_done (by kernel_rfl) ?_ _
      go_wp2_with fail
      refine ⟨⟨k + 1, A3, _, c3, Y + y, by omega, by go_num, rfl, HR3.out.imp fun b hb => hb.2, hc3, ?_, below_then HBW.out (below_then HB1.out (below_then HB2.out HB3.out))⟩, by simp [intOf]; omega⟩
      rw [be_take HY.out, ← HXX.out, HYY.out]
    · obtain rfl : n = k := by omega
      have hval : X = be bs 0 := by rw [HXX.out, List.take_of_length_le (by rw [HX.out.num]; exact Nat.le_refl _)]
      subst hval
      have hm := HR.out.num
      subst hm
      go_wp2_with fail
      refine (give_int b o (be bs 0 : Int) z false A' _ d wr (HZ.out.below HBW.out) rfl hmd HR.out (by simp)).mono ?_
      rintro e w5 ⟨rfl, hi5, hu5⟩
      have HI5 := Lib.hid hi5
      have HU5 := Lib.hid hu5
      clear hi5 hu5
      go_wp2_with fail
      go_ret
      exact ⟨rfl, HI5.out, Upd.after HBW.out HU5.out hblt⟩

end Go.Proofs.YtjokpfgncmdomaaGreatDoor

/- ratios in lowest terms -/
namespace Go.Proofs.YtjokpfgncmdomaaGreatDoor

theorem rn_pos {a b : Int} (hb : 0 < b) : (Rat.divInt a b).num = a / ((Nat.gcd a.natAbs b.natAbs : Nat) : Int) ∧ (Rat.divInt a b).den = b.natAbs / Nat.gcd a.natAbs b.natAbs := by
  rw [Rat.num_divInt, Rat.den_divInt, if_neg (by omega)]
  have e : b.gcd a = Nat.gcd a.natAbs b.natAbs := by rw [Int.gcd_comm]; rfl
  rw [e, Int.sign_eq_one_of_pos hb, Int.one_mul]
  exact ⟨rfl, rfl⟩
theorem rn_num {a b : Int} (hb : 0 < b) : (Rat.divInt a b).num.natAbs = a.natAbs / Nat.gcd a.natAbs b.natAbs ∧ ((Rat.divInt a b).num < 0 ↔ a < 0) := by
  rw [(rn_pos hb).1]
  have hg : 0 < Nat.gcd a.natAbs b.natAbs := Nat.gcd_pos_of_pos_right _ (by omega)
  have hd : Nat.gcd a.natAbs b.natAbs ∣ a.natAbs := Nat.gcd_dvd_left _ _
  generalize Nat.gcd a.natAbs b.natAbs = g at *
  obtain ⟨k, hk⟩ := hd
  rw [hk, Nat.mul_div_cancel_left _ hg]
  rcases Int.natAbs_eq a with h | h
  · rw [h, hk, Int.natCast_mul, Int.mul_ediv_cancel_left _ (by omega)]
    constructor
    · omega
    · constructor
      · intro h2; omega
      · intro h2
        have : (0 : Int) ≤ (g : Int) * (k : Int) := Int.mul_nonneg (by omega) (by omega)
        omega
  · rw [h, hk, Int.natCast_mul, ← Int.mul_neg, Int.mul_ediv_cancel_left _ (by omega)]
    constructor
    · omega
    · constructor
      · intro h2
        have : (0 : Int) < (g : Int) * (k : Int) := Int.mul_pos (by omega) (by omega)
        rw [Int.mul_neg]; omega
      · intro h2
        by_cases hk0 : k = 0
        · subst hk0; simp at h2
        · omega
theorem rn_neg (a b : Int) : Rat.divInt (-a) (-b) = Rat.divInt a b := by
  by_cases hb : b = 0
  · subst hb; simp
  · rw [Rat.divInt_eq_divInt_iff (by omega) hb]
    grind

end Go.Proofs.YtjokpfgncmdomaaGreatDoor
