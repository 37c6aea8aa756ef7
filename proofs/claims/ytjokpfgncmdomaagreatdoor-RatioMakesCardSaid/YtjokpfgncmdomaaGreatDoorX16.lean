import Derived.Test.YtjokpfgncmdomaaGreatDoorX15
import Derived.SizedLaws
import Derived.ProofKit
import Derived.OpenShut
import Derived.Deep.Slices
import Derived.ChangeOld
import Derived.Carry
set_option linter.unusedSimpArgs false
set_option linter.unusedVariables false
/- ratio.Round: the walk, where the numerator is the shorter one (printed by gen_u12.py) -/
namespace Go.Proofs.YtjokpfgncmdomaaGreatDoor
open Go.RowKit Go.Sort

def RoundC (d : DV) (md : Int) (x : Nat) : Prop := ∀ (v : Value) (w : World), DAt w v d → Laid w → Calls Tryz.prog 55 #[v, .int .i8 md] w fun e w' => e = .returned (.tuple #[.float .f64 x, .int .i64 0]) ∧ Below w.heap.size w w'
def RndM (n d B : Nat) : Nat := 2 * (n * 2 ^ B / d) + 1
theorem blen_of_dig {N k : Nat} (h : (dig N).length ≤ k) : blen N ≤ 32 * k := blen_le_of_lt (by rw [← W32_pow]; exact Nat.lt_of_lt_of_le (lt_dig_len N) (Nat.pow_le_pow_right (by decide) h))

theorem dig_succ_len (N : Nat) : (dig (N + 1)).length ≤ (dig N).length + 1 := dig_len_le (by
  have h := lt_dig_len N
  have h2 : 0 < W32 ^ (dig N).length := w_pos _
  rw [Nat.pow_succ]
  have : W32 ^ (dig N).length * 2 ≤ W32 ^ (dig N).length * W32 := Nat.mul_le_mul_left _ (by decide)
  omega)


/-- the memory while Round's dyad is made -/
def RnMF (w0 : World) (s : Bool) (M B : Nat) (Al A2 : Option Addr) (LM n2 c2 : Nat) (dv2 : DV) (p : Nat) (listed : Array Bool) (w : World) : Prop :=
  Below w0.heap.size w0 w ∧ (lst listed 3 = true → RdE Lc 1 w (fun b => b < w.heap.size) Al LM (lim M)) ∧ (lst listed 8 = true → NormD (if s then -(M : Int) else (M : Int)) (-(B : Int) - 1) dv2 ∧ RdE Lc 1 w (fun b => b < w.heap.size) A2 n2 dv2.mag ∧ Lds dv2.mag) ∧
    (lst listed 12 = true → lst listed 13 = false → w0.heap.size ≤ p ∧ w.heap[p]? = some (.cells #[.bool false, .slice none 0 0, .int .i64 0] 46 (0, 0))) ∧ (lst listed 13 = true → w.cell? ⟨p, 0, none⟩ = some (.bool dv2.neg) ∧ w.cell? ⟨p, 1, none⟩ = some (.slice A2 n2 c2) ∧ w.cell? ⟨p, 2, none⟩ = some (.int .i64 dv2.exp))
theorem RnMF.set {w0 : World} {s : Bool} {M B : Nat} {Al A2 : Option Addr} {LM n2 c2 : Nat} {dv2 : DV} {p : Nat} {listed : Array Bool} {w : World} (h : RnMF w0 s M B Al A2 LM n2 c2 dv2 p listed w) {i : Nat} (h3 : i ≠ 3) (h8 : i ≠ 8) (h12 : i ≠ 12) (h13 : i ≠ 13) : RnMF w0 s M B Al A2 LM n2 c2 dv2 p (listed.setIfInBounds i true) w := by
  unfold RnMF at h ⊢
  rw [lst_ne h3, lst_ne h8, lst_ne h12, lst_ne h13]
  exact h
set_option maxRecDepth 100000 in
def RnJ (s : Bool) (A A' : Option Addr) (n n' c c' : Nat) (md : Int) (b0 gn gd b4 B bD bN M LM : Nat) (w0 : World) (listed : Array Bool) (a : Act) (w : World) : Prop := ∃ (p : Nat) (Al A2 : Option Addr) (cl n2 c2 : Nat) (dv2 : DV), a = ⟨#[(.agg #[.bool s, .slice A n c, .slice A' n' c']), (.int .i8 md), (.pointer (some ⟨b0, 0, none⟩)), (undef), (.float .f64 0), (.int .i64 0), (.pointer (some ⟨gn, 0, none⟩)), (.pointer (some ⟨gd, 0, none⟩)), (.int .i64 (B : Int)), (.pointer (some ⟨b4, 0, none⟩)), ((iv (lst listed 12) (.pointer (some ⟨p, 0, none⟩)) (undef))), ((iv (lst listed 14) (.int .i64 0) (undef))), (.agg #[.bool s, .slice A n c, .slice A' n' c']), (.bool true), (.bool false), (.pointer (some ⟨b0, 1, none⟩)), (.slice A n c), (.pointer (some ⟨gn, 0, none⟩)), (.pointer (some ⟨b0, 2, none⟩)), (.slice A' n' c'), (.pointer (some ⟨gd, 0, none⟩)), (.pointer (some ⟨gd, 0, none⟩)), (.int .i64 (bD : Int)), (.int .i64 (70 + (bD : Int))), (.pointer (some ⟨gn, 0, none⟩)), (.int .i64 (bN : Int)), (.int .i64 (B : Int)), (.int .i64 (B : Int)), (.bool true), (.pointer (some ⟨gn, 0, none⟩)), (.pointer (some ⟨gn, 0, none⟩)), (.int .i64 (B : Int)), (.int .u64 (B : Int)), (.pointer (some ⟨gn, 0, none⟩)), (undef), (undef), (undef), (undef), (undef), (undef), (.pointer (some ⟨b4, 0, none⟩)), (.pointer (some ⟨gn, 0, none⟩)), (.pointer (some ⟨gn, 0, none⟩)), (.pointer (some ⟨gd, 0, none⟩)), (.pointer (some ⟨b4, 0, none⟩)), (.tuple #[.pointer (some ⟨gn, 0, none⟩), .pointer (some ⟨b4, 0, none⟩)]), (.pointer (some ⟨gn, 0, none⟩)), (.pointer (some ⟨gn, 0, none⟩)), (.pointer (some ⟨gn, 0, none⟩)), (.pointer (some ⟨b4, 0, none⟩)), (.int .i64 1), (.bool true), (.pointer (some ⟨gn, 0, none⟩)), (.pointer (some ⟨gn, 0, none⟩)), (.pointer (some ⟨gn, 0, none⟩)), ((iv (lst listed 9) (.tuple #[.agg #[.bool dv2.neg, .slice A2 n2 c2, .int .i64 dv2.exp], .int .i64 0]) (undef))), ((iv (lst listed 0) (.pointer (some ⟨b0, 0, none⟩)) (undef))), ((iv (lst listed 1) (.bool s) (undef))), ((iv (lst listed 2) (.pointer (some ⟨gn, 0, none⟩)) (undef))), ((iv (lst listed 3) (.slice Al LM cl) (undef))), ((iv (lst listed 4) (.int .i64 (B : Int)) (undef))), ((iv (lst listed 5) (.int .i64 (-(B : Int))) (undef))), ((iv (lst listed 6) (.int .i64 (-(B : Int) - 1)) (undef))), ((iv (lst listed 7) (.agg #[.bool s, .slice Al LM cl, .int .i64 (-(B : Int) - 1)]) (undef))), ((iv (lst listed 8) (.tuple #[.agg #[.bool dv2.neg, .slice A2 n2 c2, .int .i64 dv2.exp], .int .i64 0]) (undef))), ((iv (lst listed 10) (.agg #[.bool dv2.neg, .slice A2 n2 c2, .int .i64 dv2.exp]) (undef))), ((iv (lst listed 11) (.int .i64 0) (undef))), (undef), (undef), (undef), (undef), (undef), (undef), (undef), (undef)], []⟩ ∧ RnMF w0 s M B Al A2 LM n2 c2 dv2 p listed w

set_option maxRecDepth 100000 in
set_option maxHeartbeats 8000000 in
theorem round_ratio (v : Value) (r : RV) (md : Int) (x B : Nat) (w : World) (hr : RAt w v r) (hright : rightB r = true) (hw : Laid w) (hB : 70 + (blen (ln r.den) : Int) - blen (ln r.num) = (B : Int)) (hB2 : B ≤ 20000) (hM2 : (lim (RndM (ln r.num) (ln r.den) B)).length ≤ 70) (hR0 : ln r.num * 2 ^ B % ln r.den ≠ 0) (hq2 : 2 ≤ (dig (2 * (ln r.num * 2 ^ B / ln r.den))).length)
    (hf : ∀ d, NormD (if r.neg then -(RndM (ln r.num) (ln r.den) B : Int) else (RndM (ln r.num) (ln r.den) B : Int)) (-(B : Int) - 1) d → RoundC d md x) :
    Calls Tryz.prog 11 #[v, .int .i8 md] w fun e w' => e = .returned (.tuple #[.float .f64 x, .int .i64 0]) ∧ Below w.heap.size w w' := by
  have HR := Lib.hid hr
  have HRT := Lib.hid hright
  have HW := Lib.hid hw
  have HF := Lib.hid hf
  obtain ⟨s, ns, ds⟩ := r
  obtain ⟨A, n, c, A', n', c', rfl, hx, hy, hxl, hyl⟩ := hr
  simp only at hx hy hxl hyl hB hq2 hf hR0 hM2
  have hl := right_len hright
  have hd0 := right_den hright hyl
  simp only at hl hd0
  have en := hx.num
  have en' := hy.num
  have HX := Lib.hid hx
  have HY := Lib.hid hy
  have HXL := Lib.hid hxl
  have HYL := Lib.hid hyl
  have hn : n ≤ 256 ∧ n' ≤ 256 := by omega
  obtain ⟨N, hN⟩ : ∃ N, N = ln ns := ⟨_, rfl⟩
  obtain ⟨D, hD⟩ : ∃ D, D = ln ds := ⟨_, rfl⟩
  have NL : Hid ((dig N).length ≤ 512) := Lib.hid (by rw [hN]; exact Nat.le_trans (dig_ln_len hxl) (by omega))
  have DL : Hid ((dig D).length ≤ 512) := Lib.hid (by rw [hD]; exact Nat.le_trans (dig_ln_len hyl) (by omega))
  rw [← hD] at hd0
  rw [← hN, ← hD] at hB hq2 hR0
  have lbD : blen D ≤ 16384 := blen_of_dig DL.out
  have lbN : blen N ≤ 16384 := blen_of_dig NL.out
  have HR0 := Lib.hid hR0
  have HN := Lib.hid hN
  have HD := Lib.hid hD
  have HD0 := Lib.hid hd0
  have HQ2 := Lib.hid hq2
  have HB := Lib.hid hB
  have k0 := new_cell w #[.bool s, .slice A n c, .slice A' n' c'] 24 0 _ rfl
  have k1 := new_cell w #[.bool s, .slice A n c, .slice A' n' c'] 24 1 _ rfl
  have k2 := new_cell w #[.bool s, .slice A n c, .slice A' n' c'] 24 2 _ rfl
  have K := Lib.hid (And.intro k0 (And.intro k1 k2))
  clear hright hw hf hx hy hxl hyl hl hd0 en en' hN hD hq2 hR0 hB k0 k1 k2
  go_enter Tryz.func11, Tryz.ntmps11
  go_wp2_with fail
  refine (right_ratio _ ⟨s, ns, ds⟩ _ (HR.out.below (below1 ..)) (show ns.length ≤ _ by have := HX.out.num; omega) (show ds.length ≤ _ by have := HY.out.num; omega)).mono ?_
  rw [HRT.out]
  rintro e w1 ⟨rfl, hb1⟩
  have q0 := bat hb1 K.out.1
  have q1 := bat hb1 K.out.2.1
  have q2 := bat hb1 K.out.2.2
  have hb1' := (below1 w (.cells #[.bool s, .slice A n c, .slice A' n' c'] 24)).trans (hb1.mono (by simp))
  have z1 : w.heap.size + 1 ≤ w1.heap.size := by have := hb1.size; simp at this; omega
  have HB1 := Lib.hid hb1'
  clear hb1 hb1'
  go_wp2_with fail
  refine wp_region_G (S := (fun w' => w'.cell? ⟨w.heap.size, 0, none⟩ = some (.bool s) ∧ w'.cell? ⟨w.heap.size, 1, none⟩ = some (.slice A n c) ∧ w'.cell? ⟨w.heap.size, 2, none⟩ = some (.slice A' n' c'))) 7 (by kernel_rfl) ?_ (fun hHeld => ?_)
  · first | exact True.intro | ((try dsimp only); go_keep)
  refine tkG (i := 0) (v := ?_) rfl (by kernel_rfl) (Or.inl ⟨by kernel_rfl, ?_⟩) (by assumption) ?_
  rotate_left 1
  · (intro w hSw; (try dsimp only at hSw); go_simp; try with_reducible rfl)
  try simp only [lyA, lyB, lyC, Act.put, lyD, lyE, lyF]
  refine tkG (i := 1) (v := ?_) rfl (by kernel_rfl) (Or.inl ⟨by kernel_rfl, ?_⟩) (by assumption) ?_
  rotate_left 1
  · (intro w hSw; (try dsimp only at hSw); go_simp; try with_reducible rfl)
  try simp only [lyA, lyB, lyC, Act.put, lyD, lyE, lyF]
  refine tkG (i := 3) (v := ?_) rfl (by kernel_rfl) (Or.inl ⟨by kernel_rfl, ?_⟩) (by assumption) ?_
  rotate_left 1
  · (intro w hSw; (try dsimp only at hSw); go_simp; try with_reducible rfl)
  try simp only [lyA, lyB, lyC, Act.put, lyD, lyE, lyF]
  refine tkG (i := 4) (v := ?_) rfl (by kernel_rfl) (Or.inl ⟨by kernel_rfl, ?_⟩) (by assumption) ?_
  rotate_left 1
  · (intro w hSw; (try dsimp only at hSw); go_simp; try with_reducible rfl)
  try simp only [lyA, lyB, lyC, Act.put, lyD, lyE, lyF]
  refine wpAnyG_one (i := 2) (by kernel_rfl) rfl (fun K hK => ?_)
  go_simp
  (refine (whole_ratio A n c ns w1.drew ((HX.out.belowL HB1.out).keep (w' := w1.drew) fun _ _ => rfl) HXL.out (by omega)).mono ?_; rintro e w2 ⟨gn, rfl, hgn, hgn', hi2, hb2⟩; obtain ⟨x0, x1, x2⟩ := hHeld; have p0 := bat hb2 x0; have p1 := bat hb2 x1; have p2 := bat hb2 x2; rw [← HN.out] at hi2; have hgnz : w.heap.size + 1 ≤ gn := Nat.le_trans z1 hgn; have HI2 := Lib.hid hi2; have HB2 : Hid (Below w.heap.size w w2) := Lib.hid (HB1.out.drew.trans (hb2.mono HB1.out.size)); have z2 : w1.heap.size ≤ w2.heap.size := hb2.size; clear hi2 hb2 x0 x1 x2)
  try go_wp2_with fail
  refine (fun hHeld => hK.out _ _ (.inl hHeld) (fun _ => ?_)) ?_
  rotate_left 1
  · first | exact True.intro | ((try dsimp only); go_keep)
  clear hK K
  try simp only [lyA, lyB, lyC, Act.put, lyD, lyE, lyF]
  refine wpAnyG_one (i := 5) (by kernel_rfl) rfl (fun K hK => ?_)
  go_simp
  (refine (whole_ratio A' n' c' ds w2 (HY.out.belowL HB2.out) HYL.out (by omega)).mono ?_; rintro e w3 ⟨gd, rfl, hgd, hgd', hi3, hb3⟩; obtain ⟨x0, x1, x2⟩ := hHeld; have p0' := bat hb3 x0; have p1' := bat hb3 x1; have p2' := bat hb3 x2; rw [← HD.out] at hi3; have HI3 := Lib.hid hi3; have HI2b := Lib.hid (HI2.out.below hb3); have HB3 : Hid (Below w.heap.size w w3) := Lib.hid (HB2.out.trans (hb3.mono HB2.out.size)); have z3 : w2.heap.size ≤ w3.heap.size := hb3.size; clear hi3 hb3 x0 x1 x2 p0 p1 p2)
  try go_wp2_with fail
  refine (fun hHeld => hK.out _ _ (.inl hHeld) (fun _ => ?_)) ?_
  rotate_left 1
  · first | exact True.intro | ((try dsimp only); go_keep)
  clear hK K
  try simp only [lyA, lyB, lyC, Act.put, lyD, lyE, lyF]
  refine wpAnyG_one (i := 6) (by kernel_rfl) rfl (fun K hK => ?_)
  go_simp
  refine (fun hHeld => hK.out _ _ (.inl hHeld) (fun _ => ?_)) ?_
  rotate_left 1
  · first | exact True.intro | ((try dsimp only); go_keep)
  clear hK K
  try simp only [lyA, lyB, lyC, Act.put, lyD, lyE, lyF]
  refine wpAnyG_one (i := 7) (by kernel_rfl) rfl (fun K hK => ?_)
  go_simp
  refine hK.out _ _ ?_ (fun hHeld => ?_)
  · exact .inr (by kernel_rfl)
  clear hK K
  try simp only [lyA, lyB, lyC, Act.put, lyD, lyE, lyF]
  refine wpAnyG_done (by kernel_rfl) ?_ _
  go_wp2_with fail
  refine (bitLen_int gd 0 (D : Int) w3 HI3.out (by rw [Int.natAbs_natCast]; have := DL.out; omega)).mono ?_
  rw [Int.natAbs_natCast]
  rintro e w' ⟨rfl, rfl⟩
  go_wp2_with fail
  refine (bitLen_int gn 0 (N : Int) w3 HI2b.out (by rw [Int.natAbs_natCast]; have := NL.out; omega)).mono ?_
  rw [Int.natAbs_natCast]
  rintro e w' ⟨rfl, rfl⟩
  have eB := HB.out
  go_wp2_with fail
  refine (lsh_int gn 0 gn 0 (N : Int) (N : Int) B w3 HI2b.out HI2b.out (by rw [Int.natAbs_natCast]; have := NL.out; omega) (by omega)).mono ?_
  rintro e w4 ⟨rfl, hi4, hu4⟩
  obtain ⟨X, hX⟩ : ∃ X : Nat, X = N * 2 ^ B := ⟨_, rfl⟩
  have eX : (N : Int) * 2 ^ B = (X : Int) := by rw [hX, Int.natCast_mul, Int.natCast_pow]; rfl
  rw [eX] at hi4
  have HXX := Lib.hid hX
  have XL : Hid ((dig X).length ≤ 30000) := Lib.hid (by rw [hX]; have := mul_len N (2 ^ B); have := dig_pow B; have := NL.out; omega)
  have HI4 := Lib.hid hi4
  have HD4 := Lib.hid (HI3.out.upd hu4 (fun e => absurd e (by omega)))
  have q0 := hu4.cellOf p0' (fun e => absurd e (by omega))
  have q1 := hu4.cellOf p1' (fun e => absurd e (by omega))
  have q2 := hu4.cellOf p2' (fun e => absurd e (by omega))
  have HB4 := Lib.hid (HB3.out.trans (hu4.below (by omega) HB3.out.size))
  have z4 := hu4.size
  clear eB eX hX hi4 hu4 p0' p1' p2' lbD lbN
  go_wp2_with fail
  refine (quoRem_int gn 0 gn 0 gd 0 w4.heap.size 0 (X : Int) (X : Int) (D : Int) 0 _ (HI4.out.below (below1 ..)) (HI4.out.below (below1 ..)) (HD4.out.below (below1 ..)) (new_intAt w4) (by omega) (by rw [Int.natAbs_natCast]; have := XL.out; omega) (by rw [Int.natAbs_natCast]; have := DL.out; omega) (by have := HD0.out; omega)).mono ?_
  rintro e w5 ⟨rfl, hq5, hr5, wm, hum, hu5⟩
  obtain ⟨Q, hQ⟩ : ∃ Q : Nat, Q = X / D := ⟨_, rfl⟩
  obtain ⟨R, hR⟩ : ∃ R : Nat, R = X % D := ⟨_, rfl⟩
  have eQ : (X : Int).tdiv (D : Int) = (Q : Int) := by rw [hQ]; rfl
  have eR : (X : Int).tmod (D : Int) = (R : Int) := by rw [hR]; rfl
  rw [eQ] at hq5
  rw [eR] at hr5
  have HQ := Lib.hid hQ
  have HRR := Lib.hid hR
  have QL : Hid ((dig Q).length ≤ 30000) := Lib.hid (by rw [hQ]; exact Nat.le_trans (dig_len_mono (Nat.div_le_self _ _)) XL.out)
  have HQ5 := Lib.hid hq5
  have HR5 := Lib.hid hr5
  have b1 := below1 w4 newI
  have p0 := hu5.cellOf (hum.cellOf (bat b1 q0) (fun e => absurd e (by omega))) (fun e => absurd e (by omega))
  have p1 := hu5.cellOf (hum.cellOf (bat b1 q1) (fun e => absurd e (by omega))) (fun e => absurd e (by omega))
  have p2 := hu5.cellOf (hum.cellOf (bat b1 q2) (fun e => absurd e (by omega))) (fun e => absurd e (by omega))
  have zm := hum.size
  have z5' := hu5.size
  have zz : w4.heap.size + 1 ≤ wm.heap.size := by simpa using zm
  have HB5 := Lib.hid (((HB4.out.trans (b1.mono HB4.out.size)).trans (hum.below (by omega) (by simp; omega))).trans (hu5.below (by omega) (by omega)))
  clear eQ eR hQ hR hq5 hr5 hum hu5 q0 q1 q2 b1
  go_wp2_with fail
  refine (lsh_int gn 0 gn 0 (Q : Int) (Q : Int) 1 w5 HQ5.out HQ5.out (by rw [Int.natAbs_natCast]; have := QL.out; omega) (by omega)).mono ?_
  rintro e w6 ⟨rfl, hi6, hu6⟩
  have e6 : (Q : Int) * 2 ^ 1 = ((2 * Q : Nat) : Int) := by omega
  rw [e6] at hi6
  have HI6 := Lib.hid hi6
  have HR6 := Lib.hid (HR5.out.upd hu6 (fun e => absurd e (by omega)))
  have q0 := hu6.cellOf p0 (fun e => absurd e (by omega))
  have q1 := hu6.cellOf p1 (fun e => absurd e (by omega))
  have q2 := hu6.cellOf p2 (fun e => absurd e (by omega))
  have HB6 := Lib.hid (HB5.out.trans (hu6.below (by omega) HB5.out.size))
  have z6 := hu6.size
  clear e6 hi6 hu6 p0 p1 p2
  go_wp2_with fail
  refine (sign_int w4.heap.size 0 (R : Int) w6 HR6.out).mono ?_
  rintro e w' ⟨rfl, rfl⟩
  rw [show sgnI (R : Int) = 1 by unfold sgnI; have := HR0.out; rw [← HXX.out, ← HRR.out] at this; rw [if_neg (by omega), if_neg (by omega)]]
  go_wp2_with fail
  refine (setBit0_int gn 0 ((2 * Q : Nat) : Int) w6 HI6.out (by omega) (by omega) (by rw [Int.natAbs_natCast]; have h := mul_len 2 Q; have h2 : (dig 2).length ≤ 1 := (by decide); have := QL.out; omega) (by rw [Int.natAbs_natCast, HQ.out, HXX.out]; exact HQ2.out)).mono ?_
  rintro e w7 ⟨rfl, hi7, hu7⟩
  obtain ⟨M, hM⟩ : ∃ M : Nat, M = 2 * Q + 1 := ⟨_, rfl⟩
  rw [show ((2 * Q : Nat) : Int) + 1 = (M : Int) by omega] at hi7
  have HM : Hid (M = RndM (ln ns) (ln ds) B) := Lib.hid (by rw [hM, HQ.out, HXX.out, HN.out, HD.out]; rfl)
  have ML : Hid ((dig M).length ≤ 40000) := Lib.hid (by rw [hM]; have h := mul_len 2 Q; have h2 : (dig 2).length ≤ 1 := (by decide); have := QL.out; have h3 := dig_succ_len (2 * Q); omega)
  have HI7 := Lib.hid hi7
  have p0 := hu7.cellOf q0 (fun e => absurd e (by omega))
  have HB7 := Lib.hid (HB6.out.trans (hu7.below (by omega) HB6.out.size))
  have z7 := hu7.size
  clear hM hi7 hu7 q0 q1 q2
  go_upto_region 13 with fail
  obtain ⟨LM, hLM⟩ : ∃ l, l = (lim M).length := ⟨_, rfl⟩
  have HLM := Lib.hid hLM
  clear hLM
  have MF : Hid ((lim M).length ≤ 70) := Lib.hid (by rw [HM.out]; exact hM2)
  refine wp_region_inv (RnJ s A A' n n' c c' md w.heap.size gn gd w4.heap.size B (blen D) (blen N) M LM w7) (by kernel_rfl) ?_ ?_ ?_
  · refine ⟨0, none, none, 0, 0, 0, ⟨false, [], 0⟩, rfl, (Below.refl _ _).drew, ?_, ?_, ?_, ?_⟩
    all_goals (intro h; exact absurd h (by decide))
  · intro listed a w1 hs hcl hJ i hi
    obtain ⟨p, Al, A2, cl, n2, c2, dv2, rfl, hmf⟩ := hJ
    have hlt : i < 15 := by
      obtain ⟨_, o, ho, _⟩ := mem_ready.1 hi
      exact (Array.getElem?_eq_some_iff.1 ho).1
    have HSZ : Hid (listed.size = 15) := Lib.hid hs
    refine inv_deps (J := RnJ s A A' n n' c c' md w.heap.size gn gd w4.heap.size B (blen D) (blen N) M LM w7) hi fun hu hdep => ?_
    clear hs hi
    have hm2 := hmf
    unfold RnMF at hm2
    have zw := hm2.1.size
    rcases (show i = 0 ∨ i = 1 ∨ i = 2 ∨ i = 3 ∨ i = 4 ∨ i = 5 ∨ i = 6 ∨ i = 7 ∨ i = 8 ∨ i = 9 ∨ i = 10 ∨ i = 11 ∨ i = 12 ∨ i = 13 ∨ i = 14 by omega) with rfl | rfl | rfl | rfl | rfl | rfl | rfl | rfl | rfl | rfl | rfl | rfl | rfl | rfl | rfl
    · -- operation 0
      refine inv_op rfl (fun K hK => ?_)
      go_simp
      refine hK.out _ _ ⟨p, Al, A2, cl, n2, c2, dv2, ?_, hmf.set (by decide) (by decide) (by decide) (by decide)⟩
      · skip
        try simp only [Act.put, lyD, lyE, lyF]
        try rw [lst_self (show 0 < listed.size by rw [HSZ.out]; decide)]
        simp only [lst_ne (show 0 ≠ 1 by decide), lst_ne (show 0 ≠ 2 by decide), lst_ne (show 0 ≠ 3 by decide), lst_ne (show 0 ≠ 4 by decide), lst_ne (show 0 ≠ 5 by decide), lst_ne (show 0 ≠ 6 by decide), lst_ne (show 0 ≠ 7 by decide), lst_ne (show 0 ≠ 8 by decide), lst_ne (show 0 ≠ 9 by decide), lst_ne (show 0 ≠ 10 by decide), lst_ne (show 0 ≠ 11 by decide), lst_ne (show 0 ≠ 12 by decide), lst_ne (show 0 ≠ 13 by decide), lst_ne (show 0 ≠ 14 by decide), iv_true]
    · -- operation 1
      have d0 : lst listed 0 = true := hdep 0 (by kernel_rfl)
      have kc := bat hm2.1 p0
      refine inv_op rfl (fun K hK => ?_)
      simp only [d0, iv_true]
      go_simp
      refine hK.out _ _ ⟨p, Al, A2, cl, n2, c2, dv2, ?_, hmf.set (by decide) (by decide) (by decide) (by decide)⟩
      · skip
        try simp only [Act.put, lyD, lyE, lyF]
        try rw [lst_self (show 1 < listed.size by rw [HSZ.out]; decide)]
        simp only [lst_ne (show 1 ≠ 0 by decide), lst_ne (show 1 ≠ 2 by decide), lst_ne (show 1 ≠ 3 by decide), lst_ne (show 1 ≠ 4 by decide), lst_ne (show 1 ≠ 5 by decide), lst_ne (show 1 ≠ 6 by decide), lst_ne (show 1 ≠ 7 by decide), lst_ne (show 1 ≠ 8 by decide), lst_ne (show 1 ≠ 9 by decide), lst_ne (show 1 ≠ 10 by decide), lst_ne (show 1 ≠ 11 by decide), lst_ne (show 1 ≠ 12 by decide), lst_ne (show 1 ≠ 13 by decide), lst_ne (show 1 ≠ 14 by decide), iv_true, d0]
    · -- operation 2
      refine inv_op rfl (fun K hK => ?_)
      go_simp
      refine hK.out _ _ ⟨p, Al, A2, cl, n2, c2, dv2, ?_, hmf.set (by decide) (by decide) (by decide) (by decide)⟩
      · skip
        try simp only [Act.put, lyD, lyE, lyF]
        try rw [lst_self (show 2 < listed.size by rw [HSZ.out]; decide)]
        simp only [lst_ne (show 2 ≠ 0 by decide), lst_ne (show 2 ≠ 1 by decide), lst_ne (show 2 ≠ 3 by decide), lst_ne (show 2 ≠ 4 by decide), lst_ne (show 2 ≠ 5 by decide), lst_ne (show 2 ≠ 6 by decide), lst_ne (show 2 ≠ 7 by decide), lst_ne (show 2 ≠ 8 by decide), lst_ne (show 2 ≠ 9 by decide), lst_ne (show 2 ≠ 10 by decide), lst_ne (show 2 ≠ 11 by decide), lst_ne (show 2 ≠ 12 by decide), lst_ne (show 2 ≠ 13 by decide), lst_ne (show 2 ≠ 14 by decide), iv_true]
    · -- operation 3
      have d2 : lst listed 2 = true := hdep 2 (by kernel_rfl)
      have nn7 : lst listed 7 = false := closed_not hcl 8 (by kernel_rfl) hu
      have nn8 : lst listed 8 = false := closed_not hcl 8 (by kernel_rfl) hu
      have nn13 : lst listed 13 = false := closed_not hcl 8 (by kernel_rfl) hu
      refine inv_op rfl (fun K hK => ?_)
      simp only [d2, iv_true]
      go_simp
      refine (limbs_ratio gn 0 M w1 (HI7.out.below hm2.1) (by have := ML.out; omega)).mono ?_
      rw [← HLM.out]
      rintro e w2 ⟨Ax, cx, rfl, hcx, hrx, hb2⟩
      try go_wp2_with fail
      refine hK.out _ _ ⟨p, Ax, A2, cx, n2, c2, dv2, ?_, ?_⟩
      · skip
        try simp only [Act.put, lyD, lyE, lyF]
        try rw [lst_self (show 3 < listed.size by rw [HSZ.out]; decide)]
        simp only [lst_ne (show 3 ≠ 0 by decide), lst_ne (show 3 ≠ 1 by decide), lst_ne (show 3 ≠ 2 by decide), lst_ne (show 3 ≠ 4 by decide), lst_ne (show 3 ≠ 5 by decide), lst_ne (show 3 ≠ 6 by decide), lst_ne (show 3 ≠ 7 by decide), lst_ne (show 3 ≠ 8 by decide), lst_ne (show 3 ≠ 9 by decide), lst_ne (show 3 ≠ 10 by decide), lst_ne (show 3 ≠ 11 by decide), lst_ne (show 3 ≠ 12 by decide), lst_ne (show 3 ≠ 13 by decide), lst_ne (show 3 ≠ 14 by decide), iv_true, d2, nn7, nn8, nn13, iv_false]
      · unfold RnMF
        rw [lst_ne (show 3 ≠ 8 by decide), lst_ne (show 3 ≠ 12 by decide), lst_ne (show 3 ≠ 13 by decide)]
        refine ⟨hm2.1.trans (hb2.mono zw), fun _ => hrx.imp fun d h => h.2, fun h => absurd (h.symm.trans nn8) (by decide), fun h h' => ⟨(hm2.2.2.2.1 h h').1, (hb2.block p (Array.getElem?_eq_some_iff.1 (hm2.2.2.2.1 h h').2).1).trans (hm2.2.2.2.1 h h').2⟩, fun h => absurd (h.symm.trans nn13) (by decide)⟩
    · -- operation 4
      refine inv_op rfl (fun K hK => ?_)
      go_simp
      refine hK.out _ _ ⟨p, Al, A2, cl, n2, c2, dv2, ?_, hmf.set (by decide) (by decide) (by decide) (by decide)⟩
      · skip
        try simp only [Act.put, lyD, lyE, lyF]
        try rw [lst_self (show 4 < listed.size by rw [HSZ.out]; decide)]
        simp only [lst_ne (show 4 ≠ 0 by decide), lst_ne (show 4 ≠ 1 by decide), lst_ne (show 4 ≠ 2 by decide), lst_ne (show 4 ≠ 3 by decide), lst_ne (show 4 ≠ 5 by decide), lst_ne (show 4 ≠ 6 by decide), lst_ne (show 4 ≠ 7 by decide), lst_ne (show 4 ≠ 8 by decide), lst_ne (show 4 ≠ 9 by decide), lst_ne (show 4 ≠ 10 by decide), lst_ne (show 4 ≠ 11 by decide), lst_ne (show 4 ≠ 12 by decide), lst_ne (show 4 ≠ 13 by decide), lst_ne (show 4 ≠ 14 by decide), iv_true]
    · -- operation 5
      have d4 : lst listed 4 = true := hdep 4 (by kernel_rfl)
      have ew : IntKind.i64.wrap (-(B : Int)) = -(B : Int) := IntWalk.i64_in _ (by omega)
      have ew2 : IntKind.i64.wrap (-(B : Int) - 1) = -(B : Int) - 1 := IntWalk.i64_in _ (by omega)
      refine inv_op rfl (fun K hK => ?_)
      simp only [d4, iv_true]
      go_simp
      refine hK.out _ _ ⟨p, Al, A2, cl, n2, c2, dv2, ?_, hmf.set (by decide) (by decide) (by decide) (by decide)⟩
      · skip
        try simp only [Act.put, lyD, lyE, lyF]
        try rw [lst_self (show 5 < listed.size by rw [HSZ.out]; decide)]
        simp only [lst_ne (show 5 ≠ 0 by decide), lst_ne (show 5 ≠ 1 by decide), lst_ne (show 5 ≠ 2 by decide), lst_ne (show 5 ≠ 3 by decide), lst_ne (show 5 ≠ 4 by decide), lst_ne (show 5 ≠ 6 by decide), lst_ne (show 5 ≠ 7 by decide), lst_ne (show 5 ≠ 8 by decide), lst_ne (show 5 ≠ 9 by decide), lst_ne (show 5 ≠ 10 by decide), lst_ne (show 5 ≠ 11 by decide), lst_ne (show 5 ≠ 12 by decide), lst_ne (show 5 ≠ 13 by decide), lst_ne (show 5 ≠ 14 by decide), iv_true, d4]
    · -- operation 6
      have d5 : lst listed 5 = true := hdep 5 (by kernel_rfl)
      have ew : IntKind.i64.wrap (-(B : Int)) = -(B : Int) := IntWalk.i64_in _ (by omega)
      have ew2 : IntKind.i64.wrap (-(B : Int) - 1) = -(B : Int) - 1 := IntWalk.i64_in _ (by omega)
      refine inv_op rfl (fun K hK => ?_)
      simp only [d5, iv_true]
      go_simp
      refine hK.out _ _ ⟨p, Al, A2, cl, n2, c2, dv2, ?_, hmf.set (by decide) (by decide) (by decide) (by decide)⟩
      · skip
        try simp only [Act.put, lyD, lyE, lyF]
        try rw [lst_self (show 6 < listed.size by rw [HSZ.out]; decide)]
        simp only [lst_ne (show 6 ≠ 0 by decide), lst_ne (show 6 ≠ 1 by decide), lst_ne (show 6 ≠ 2 by decide), lst_ne (show 6 ≠ 3 by decide), lst_ne (show 6 ≠ 4 by decide), lst_ne (show 6 ≠ 5 by decide), lst_ne (show 6 ≠ 7 by decide), lst_ne (show 6 ≠ 8 by decide), lst_ne (show 6 ≠ 9 by decide), lst_ne (show 6 ≠ 10 by decide), lst_ne (show 6 ≠ 11 by decide), lst_ne (show 6 ≠ 12 by decide), lst_ne (show 6 ≠ 13 by decide), lst_ne (show 6 ≠ 14 by decide), iv_true, d5]
    · -- operation 7
      have d1 : lst listed 1 = true := hdep 1 (by kernel_rfl)
      have d3 : lst listed 3 = true := hdep 3 (by kernel_rfl)
      have d6 : lst listed 6 = true := hdep 6 (by kernel_rfl)
      refine inv_op rfl (fun K hK => ?_)
      simp only [d1, d3, d6, iv_true]
      go_simp
      refine hK.out _ _ ⟨p, Al, A2, cl, n2, c2, dv2, ?_, hmf.set (by decide) (by decide) (by decide) (by decide)⟩
      · skip
        try simp only [Act.put, lyD, lyE, lyF]
        try rw [lst_self (show 7 < listed.size by rw [HSZ.out]; decide)]
        simp only [lst_ne (show 7 ≠ 0 by decide), lst_ne (show 7 ≠ 1 by decide), lst_ne (show 7 ≠ 2 by decide), lst_ne (show 7 ≠ 3 by decide), lst_ne (show 7 ≠ 4 by decide), lst_ne (show 7 ≠ 5 by decide), lst_ne (show 7 ≠ 6 by decide), lst_ne (show 7 ≠ 8 by decide), lst_ne (show 7 ≠ 9 by decide), lst_ne (show 7 ≠ 10 by decide), lst_ne (show 7 ≠ 11 by decide), lst_ne (show 7 ≠ 12 by decide), lst_ne (show 7 ≠ 13 by decide), lst_ne (show 7 ≠ 14 by decide), iv_true, d1, d3, d6]
    · -- operation 8
      have d7 : lst listed 7 = true := hdep 7 (by kernel_rfl)
      have nn9 : lst listed 9 = false := closed_not hcl 8 (by kernel_rfl) hu
      have nn10 : lst listed 10 = false := closed_not hcl 8 (by kernel_rfl) hu
      have nn13 : lst listed 13 = false := closed_not hcl 8 (by kernel_rfl) hu
      have d3 : lst listed 3 = true := closed_dep hcl 8 (by kernel_rfl) d7
      refine inv_op rfl (fun K hK => ?_)
      simp only [d7, iv_true]
      go_simp
      have h3 := Lib.hid (hm2.2.1 d3)
      refine (norm_dyad _ ⟨s, lim M, -(B : Int) - 1⟩ w1 ⟨Al, LM, cl, rfl, h3.out, lim_lds _⟩ MF.out (show -60000 ≤ -(B : Int) - 1 by omega) (show -(B : Int) - 1 ≤ 60000 by omega)).mono ?_
      rintro e w2 ⟨vx, dx, rfl, hnd, ⟨Ax, nx, cx, rfl, hrx, hlx⟩, hb2⟩
      have hnd := Lib.hid hnd
      try go_wp2_with fail
      refine hK.out _ _ ⟨p, Al, Ax, cl, nx, cx, dx, ?_, ?_⟩
      · skip
        try simp only [Act.put, lyD, lyE, lyF]
        try rw [lst_self (show 8 < listed.size by rw [HSZ.out]; decide)]
        simp only [lst_ne (show 8 ≠ 0 by decide), lst_ne (show 8 ≠ 1 by decide), lst_ne (show 8 ≠ 2 by decide), lst_ne (show 8 ≠ 3 by decide), lst_ne (show 8 ≠ 4 by decide), lst_ne (show 8 ≠ 5 by decide), lst_ne (show 8 ≠ 6 by decide), lst_ne (show 8 ≠ 7 by decide), lst_ne (show 8 ≠ 9 by decide), lst_ne (show 8 ≠ 10 by decide), lst_ne (show 8 ≠ 11 by decide), lst_ne (show 8 ≠ 12 by decide), lst_ne (show 8 ≠ 13 by decide), lst_ne (show 8 ≠ 14 by decide), iv_true, d7, nn9, nn10, nn13, d3, iv_false]
      · unfold RnMF
        rw [lst_ne (show 8 ≠ 3 by decide), lst_ne (show 8 ≠ 12 by decide), lst_ne (show 8 ≠ 13 by decide)]
        refine ⟨hm2.1.trans (hb2.mono zw), fun h => h3.out.belowL hb2, fun _ => ⟨?_, hrx, hlx⟩, fun h h' => ⟨(hm2.2.2.2.1 h h').1, (hb2.block p (Array.getElem?_eq_some_iff.1 (hm2.2.2.2.1 h h').2).1).trans (hm2.2.2.2.1 h h').2⟩, fun h => absurd (h.symm.trans nn13) (by decide)⟩
        have e : (DV.top ⟨s, lim M, -(B : Int) - 1⟩) = (if s then -(M : Int) else (M : Int)) := by simp only [DV.top, ln_dig]
        have hnd := hnd.out
        rw [e] at hnd
        exact hnd
    · -- operation 9
      have d8 : lst listed 8 = true := hdep 8 (by kernel_rfl)
      refine inv_op rfl (fun K hK => ?_)
      simp only [d8, iv_true]
      go_simp
      refine hK.out _ _ ⟨p, Al, A2, cl, n2, c2, dv2, ?_, hmf.set (by decide) (by decide) (by decide) (by decide)⟩
      · skip
        try simp only [Act.put, lyD, lyE, lyF]
        try rw [lst_self (show 9 < listed.size by rw [HSZ.out]; decide)]
        simp only [lst_ne (show 9 ≠ 0 by decide), lst_ne (show 9 ≠ 1 by decide), lst_ne (show 9 ≠ 2 by decide), lst_ne (show 9 ≠ 3 by decide), lst_ne (show 9 ≠ 4 by decide), lst_ne (show 9 ≠ 5 by decide), lst_ne (show 9 ≠ 6 by decide), lst_ne (show 9 ≠ 7 by decide), lst_ne (show 9 ≠ 8 by decide), lst_ne (show 9 ≠ 10 by decide), lst_ne (show 9 ≠ 11 by decide), lst_ne (show 9 ≠ 12 by decide), lst_ne (show 9 ≠ 13 by decide), lst_ne (show 9 ≠ 14 by decide), iv_true, d8]
    · -- operation 10
      have d9 : lst listed 9 = true := hdep 9 (by kernel_rfl)
      refine inv_op rfl (fun K hK => ?_)
      simp only [d9, iv_true]
      go_simp
      refine hK.out _ _ ⟨p, Al, A2, cl, n2, c2, dv2, ?_, hmf.set (by decide) (by decide) (by decide) (by decide)⟩
      · skip
        try simp only [Act.put, lyD, lyE, lyF]
        try rw [lst_self (show 10 < listed.size by rw [HSZ.out]; decide)]
        simp only [lst_ne (show 10 ≠ 0 by decide), lst_ne (show 10 ≠ 1 by decide), lst_ne (show 10 ≠ 2 by decide), lst_ne (show 10 ≠ 3 by decide), lst_ne (show 10 ≠ 4 by decide), lst_ne (show 10 ≠ 5 by decide), lst_ne (show 10 ≠ 6 by decide), lst_ne (show 10 ≠ 7 by decide), lst_ne (show 10 ≠ 8 by decide), lst_ne (show 10 ≠ 9 by decide), lst_ne (show 10 ≠ 11 by decide), lst_ne (show 10 ≠ 12 by decide), lst_ne (show 10 ≠ 13 by decide), lst_ne (show 10 ≠ 14 by decide), iv_true, d9]
    · -- operation 11
      have d9 : lst listed 9 = true := hdep 9 (by kernel_rfl)
      refine inv_op rfl (fun K hK => ?_)
      simp only [d9, iv_true]
      go_simp
      refine hK.out _ _ ⟨p, Al, A2, cl, n2, c2, dv2, ?_, hmf.set (by decide) (by decide) (by decide) (by decide)⟩
      · skip
        try simp only [Act.put, lyD, lyE, lyF]
        try rw [lst_self (show 11 < listed.size by rw [HSZ.out]; decide)]
        simp only [lst_ne (show 11 ≠ 0 by decide), lst_ne (show 11 ≠ 1 by decide), lst_ne (show 11 ≠ 2 by decide), lst_ne (show 11 ≠ 3 by decide), lst_ne (show 11 ≠ 4 by decide), lst_ne (show 11 ≠ 5 by decide), lst_ne (show 11 ≠ 6 by decide), lst_ne (show 11 ≠ 7 by decide), lst_ne (show 11 ≠ 8 by decide), lst_ne (show 11 ≠ 9 by decide), lst_ne (show 11 ≠ 10 by decide), lst_ne (show 11 ≠ 12 by decide), lst_ne (show 11 ≠ 13 by decide), lst_ne (show 11 ≠ 14 by decide), iv_true, d9]
    · -- operation 12
      have nn13 : lst listed 13 = false := closed_not hcl 8 (by kernel_rfl) hu
      refine inv_op rfl (fun K hK => ?_)
      go_simp
      refine hK.out _ _ ⟨w1.heap.size, Al, A2, cl, n2, c2, dv2, ?_, ?_⟩
      · skip
        try simp only [Act.put, lyD, lyE, lyF]
        try rw [lst_self (show 12 < listed.size by rw [HSZ.out]; decide)]
        simp only [lst_ne (show 12 ≠ 0 by decide), lst_ne (show 12 ≠ 1 by decide), lst_ne (show 12 ≠ 2 by decide), lst_ne (show 12 ≠ 3 by decide), lst_ne (show 12 ≠ 4 by decide), lst_ne (show 12 ≠ 5 by decide), lst_ne (show 12 ≠ 6 by decide), lst_ne (show 12 ≠ 7 by decide), lst_ne (show 12 ≠ 8 by decide), lst_ne (show 12 ≠ 9 by decide), lst_ne (show 12 ≠ 10 by decide), lst_ne (show 12 ≠ 11 by decide), lst_ne (show 12 ≠ 13 by decide), lst_ne (show 12 ≠ 14 by decide), iv_true]
      · unfold RnMF
        rw [lst_ne (show 12 ≠ 3 by decide), lst_ne (show 12 ≠ 8 by decide), lst_ne (show 12 ≠ 13 by decide)]
        refine ⟨hm2.1.alloc zw _, fun h => (hm2.2.1 h).belowL (below1 w1 _), fun h => ⟨(hm2.2.2.1 h).1, (hm2.2.2.1 h).2.1.belowL (below1 w1 _), (hm2.2.2.1 h).2.2⟩, fun _ _ => ⟨zw, blk_new w1 _ _⟩, fun h => absurd (h.symm.trans nn13) (by decide)⟩
    · -- operation 13
      have d10 : lst listed 10 = true := hdep 10 (by kernel_rfl)
      have d12 : lst listed 12 = true := hdep 12 (by kernel_rfl)
      have d8 : lst listed 8 = true := closed_dep hcl 8 (by kernel_rfl) d10
      have nI : lst listed 13 = false := hu
      have hz := hm2.2.2.2.1 d12 nI
      obtain ⟨kc, kf⟩ := blk_cells hz.2
      have kc0 := kc 0
      have kc1 := kc 1
      have kc2 := kc 2
      have kf0 := kf 0
      have kf1 := kf 1
      have kf2 := kf 2
      simp only [List.getElem?_toArray, List.getElem?_cons_zero, List.getElem?_cons_succ] at kc0 kc1 kc2
      clear kc kf
      refine inv_op rfl (fun K hK => ?_)
      simp only [d10, d12, iv_true]
      go_simp
      obtain ⟨w6', hw6⟩ : ∃ w6, w6 = ((w1.setCell ⟨p, 0, none⟩ (.bool dv2.neg)).setCell ⟨p, 1, none⟩ (.slice A2 n2 c2)).setCell ⟨p, 2, none⟩ (.int .i64 dv2.exp) := ⟨_, rfl⟩
      obtain ⟨hb6, hk6, hs6, t0, t1, t2⟩ := dy_set kc0 kc1 kc2 _ _ _ _ _ _ hw6
      refine hK.out _ _ ⟨p, Al, A2, cl, n2, c2, dv2, ?_, ?_⟩
      · skip
        try simp only [Act.put, lyD, lyE, lyF]
        try rw [lst_self (show 13 < listed.size by rw [HSZ.out]; decide)]
        simp only [lst_ne (show 13 ≠ 0 by decide), lst_ne (show 13 ≠ 1 by decide), lst_ne (show 13 ≠ 2 by decide), lst_ne (show 13 ≠ 3 by decide), lst_ne (show 13 ≠ 4 by decide), lst_ne (show 13 ≠ 5 by decide), lst_ne (show 13 ≠ 6 by decide), lst_ne (show 13 ≠ 7 by decide), lst_ne (show 13 ≠ 8 by decide), lst_ne (show 13 ≠ 9 by decide), lst_ne (show 13 ≠ 10 by decide), lst_ne (show 13 ≠ 11 by decide), lst_ne (show 13 ≠ 12 by decide), lst_ne (show 13 ≠ 14 by decide), iv_true, d10, d12, d8]
      · rw [← hw6]
        unfold RnMF
        rw [lst_ne (show 13 ≠ 3 by decide), lst_ne (show 13 ≠ 8 by decide), lst_ne (show 13 ≠ 12 by decide), lst_self (show 13 < listed.size by rw [HSZ.out]; decide)]
        refine ⟨hm2.1.trans (hb6 _ hz.1), fun h => ?_, fun h => ⟨(hm2.2.2.1 h).1, ?_, (hm2.2.2.1 h).2.2⟩, fun _ h => absurd h (by decide), fun _ => ⟨t0, t1, t2⟩⟩
        · exact (dy_limbs kc0 kc1 kc2 hw6 (hm2.2.1 h)).imp (fun d h => by rw [hs6]; exact h)
        · exact (dy_limbs kc0 kc1 kc2 hw6 (hm2.2.2.1 h).2.1).imp (fun d h => by rw [hs6]; exact h)
    · -- operation 14
      have d11 : lst listed 11 = true := hdep 11 (by kernel_rfl)
      refine inv_op rfl (fun K hK => ?_)
      simp only [d11, iv_true]
      go_simp
      refine hK.out _ _ ⟨p, Al, A2, cl, n2, c2, dv2, ?_, hmf.set (by decide) (by decide) (by decide) (by decide)⟩
      · skip
        try simp only [Act.put, lyD, lyE, lyF]
        try rw [lst_self (show 14 < listed.size by rw [HSZ.out]; decide)]
        simp only [lst_ne (show 14 ≠ 0 by decide), lst_ne (show 14 ≠ 1 by decide), lst_ne (show 14 ≠ 2 by decide), lst_ne (show 14 ≠ 3 by decide), lst_ne (show 14 ≠ 4 by decide), lst_ne (show 14 ≠ 5 by decide), lst_ne (show 14 ≠ 6 by decide), lst_ne (show 14 ≠ 7 by decide), lst_ne (show 14 ≠ 8 by decide), lst_ne (show 14 ≠ 9 by decide), lst_ne (show 14 ≠ 10 by decide), lst_ne (show 14 ≠ 11 by decide), lst_ne (show 14 ≠ 12 by decide), lst_ne (show 14 ≠ 13 by decide), iv_true, d11]
  · intro listed a w8 hs hr hJ
    obtain ⟨p, Al, A2, cl, n2, c2, dv2, rfl, hmf⟩ := hJ
    have hall := all_listed hs hr (by kernel_rfl)
    unfold RnMF at hmf
    have HB8 := Lib.hid hmf.1
    have HND := Lib.hid (hmf.2.2.1 (hall 8 (by decide)))
    obtain ⟨t0, t1, t2⟩ := hmf.2.2.2.2 (hall 13 (by decide))
    simp only [(show lst listed 0 = true from hall 0 (by decide)), (show lst listed 1 = true from hall 1 (by decide)), (show lst listed 2 = true from hall 2 (by decide)), (show lst listed 3 = true from hall 3 (by decide)), (show lst listed 4 = true from hall 4 (by decide)), (show lst listed 5 = true from hall 5 (by decide)), (show lst listed 6 = true from hall 6 (by decide)), (show lst listed 7 = true from hall 7 (by decide)), (show lst listed 8 = true from hall 8 (by decide)), (show lst listed 9 = true from hall 9 (by decide)), (show lst listed 10 = true from hall 10 (by decide)), (show lst listed 11 = true from hall 11 (by decide)), (show lst listed 12 = true from hall 12 (by decide)), (show lst listed 14 = true from hall 14 (by decide)), iv_true]
    clear hmf hall hs hr
    go_wp2_with fail
    have hnd := HND.out.1
    rw [HM.out] at hnd
    refine (HF.out dv2 hnd _ w8 ⟨A2, n2, c2, rfl, HND.out.2.1, HND.out.2.2⟩ ((HW.out.below HB7.out).below HB8.out)).mono ?_
    rintro e w9 ⟨rfl, hb9⟩
    have HB9 := Lib.hid ((HB7.out.trans (HB8.out.mono HB7.out.size)).trans (hb9.mono (Nat.le_trans HB7.out.size HB8.out.size)))
    clear hb9 hnd
    go_wp2_with fail
    go_ret2
    exact ⟨rfl, HB9.out⟩

end Go.Proofs.YtjokpfgncmdomaaGreatDoor

/- girderlaw07.awake: the walk -/
namespace Go.Proofs.YtjokpfgncmdomaaGreatDoor
open Go.RowKit Go.Sort

theorem third_right : rightB ⟨false, [1], [3]⟩ = true := by decide +kernel
theorem sixth_right : rightB ⟨false, [1], [6]⟩ = true := by decide +kernel
theorem half_sum : RV.q ⟨false, [1], [3]⟩ + RV.q ⟨false, [1], [6]⟩ = RV.q ⟨false, [1], [2]⟩ := by decide +kernel
theorem half_told : toldE (RV.q ⟨false, [1], [2]⟩) = 0 ∧ toldR (RV.q ⟨false, [1], [2]⟩) = ⟨false, [1], [2]⟩ := by decide +kernel
def M3 : Nat := 1574122160956548404565
theorem lowB_odd {N k : Nat} (h : N % 2 = 1) (hk : LowB N k) : k = 0 := by
  cases k with
  | zero => rfl
  | succ k =>
    have h1 := hk.2
    rw [Nat.pow_succ, Nat.mul_comm, Nat.mod_mul] at h1
    omega
theorem third_dyad {d : DV} (h : NormD (if false = true then -(RndM 1 3 71 : Int) else (RndM 1 3 71 : Int)) (-(71 : Nat) - 1) d) : d = ⟨false, lim M3, -72⟩ := by
  have e : RndM 1 3 71 = M3 := by decide +kernel
  rw [e] at h
  rcases h with ⟨h, _⟩ | ⟨_, k, hk, rfl⟩
  · exact absurd h (by decide)
  · have h0 : k = 0 := lowB_odd (by decide) hk
    subst h0
    rfl
theorem third_round : RoundC ⟨false, lim M3, -72⟩ 2 4599676419421066582 := by
  intro v w hd hw
  refine round_cut v ⟨false, lim M3, -72⟩ 2 4599676419421066582 18 (-54) w hd ⟨by decide +kernel, ?_, ?_, by decide, by decide⟩ hw (by decide +kernel) (by decide) (by decide) (by decide) ?_
  · have e : lim M3 = [6148914691236517205, 85] := by decide +kernel
    rw [e]
    intro x hx
    simp at hx
    omega
  · have e : lim M3 = [6148914691236517205, 85] := by decide +kernel
    rw [e]
    intro x hx
    simp at hx
    omega
  · intro w hw
    have e : sizeR (ln (lim M3)) 18 2 false = 6004799503160662 := by decide +kernel
    show Calls _ _ #[_, .int .u64 ((sizeR (ln (lim M3)) 18 2 false : Nat) : Int), _, _] w _
    rw [e]
    exact float_one w hw

theorem third_ratio (v : Value) (w : World) (hr : RAt w v ⟨false, [1], [3]⟩) (hw : Laid w) : Calls Tryz.prog 11 #[v, .int .i8 2] w fun e w' => e = .returned (.tuple #[.float .f64 4599676419421066582, .int .i64 0]) ∧ Below w.heap.size w w' := by
  refine round_ratio v ⟨false, [1], [3]⟩ 2 4599676419421066582 71 w hr third_right hw (by decide +kernel) (by decide) (by decide +kernel) (by decide +kernel) (by decide +kernel) ?_
  intro d hd
  rw [third_dyad hd]
  exact third_round

set_option maxRecDepth 100000 in
set_option maxHeartbeats 4000000 in
theorem awake_law (w : World) (hw : Laid w) : Calls Tryz.prog 10 #[] w fun e w' => e = .returned (.bool true) ∧ Below w.heap.size w w' := by
  have HW := Lib.hid hw
  clear hw
  go_enter Tryz.func10, Tryz.ntmps10
  go_wp2_with fail
  refine (small_law false 1 3 w (by decide) (by decide)).mono ?_
  rintro e w1 ⟨v1, rfl, hv1, hb1⟩
  have HV1 := Lib.hid hv1
  have HB1 := Lib.hid hb1
  clear hv1 hb1
  go_wp2_with fail
  refine (small_law false 1 6 w1 (by decide) (by decide)).mono ?_
  rintro e w2 ⟨v2, rfl, hv2, hb2⟩
  have HV2 := Lib.hid hv2
  have HV1b := Lib.hid (HV1.out.below hb2)
  have HB2 := Lib.hid (HB1.out.trans (hb2.mono HB1.out.size))
  clear hv2 hb2
  go_wp2_with fail
  refine (add_ratio v1 v2 ⟨false, [1], [3]⟩ ⟨false, [1], [6]⟩ w2 HV1b.out HV2.out (by decide) (by decide) (by decide) (by decide)).mono ?_
  rintro e w3 hp
  unfold BinPost at hp
  rw [if_pos ⟨third_right, sixth_right⟩, half_sum] at hp
  obtain ⟨v3, rfl, hv3, hb3⟩ := hp
  rw [half_told.1]
  rw [half_told.2] at hv3
  have HV3 := Lib.hid hv3
  obtain ⟨s, A, n, c, A', n', c', rfl⟩ : ∃ s A n c A' n' c', v3 = .agg #[.bool s, .slice A n c, .slice A' n' c'] := by obtain ⟨A, n, c, A', n', c', h, _⟩ := hv3; exact ⟨_, _, _, _, _, _, _, h⟩
  have HB3 := Lib.hid (HB2.out.trans (hb3.mono HB2.out.size))
  clear hv3 hb3
  go_wp2_with fail
  obtain ⟨w4, hw4⟩ : ∃ w4, w4 = w3.alloc (.cells #[.bool s, .slice A n c, .slice A' n' c'] 24) := ⟨_, rfl⟩
  have k0 : w4.cell? ⟨w3.heap.size, 0, none⟩ = some (.bool s) := by rw [hw4]; exact new_cell w3 _ _ 0 _ rfl
  have k1 : w4.cell? ⟨w3.heap.size, 1, none⟩ = some (.slice A n c) := by rw [hw4]; exact new_cell w3 _ _ 1 _ rfl
  have k2 : w4.cell? ⟨w3.heap.size, 2, none⟩ = some (.slice A' n' c') := by rw [hw4]; exact new_cell w3 _ _ 2 _ rfl
  have hb4 : Below w3.heap.size w3 w4 := by rw [hw4]; exact below1 ..
  rw [← hw4]
  have HV4 := Lib.hid (HV3.out.below hb4)
  have HB4 := Lib.hid (HB3.out.trans (hb4.mono HB3.out.size))
  clear hw4 hb4
  refine (small_law false 1 3 w4 (by decide) (by decide)).mono ?_
  rintro e w5 ⟨v5, rfl, hv5, hb5⟩
  have HV5 := Lib.hid hv5
  have HV4b := Lib.hid (HV4.out.below hb5)
  have p0 := bat hb5 k0
  have p1 := bat hb5 k1
  have p2 := bat hb5 k2
  have HB5 := Lib.hid (HB4.out.trans (hb5.mono HB4.out.size))
  clear hv5 hb5 k0 k1 k2
  go_wp2_with fail
  refine (third_ratio v5 w5 HV5.out (HW.out.below HB5.out)).mono ?_
  rintro e w6 ⟨rfl, hb6⟩
  have HV6 := Lib.hid (HV4b.out.below hb6)
  have k0 := bat hb6 p0
  have k1 := bat hb6 p1
  have k2 := bat hb6 p2
  have HB6 := Lib.hid (HB5.out.trans (hb6.mono HB5.out.size))
  clear hb6 p0 p1 p2
  have o1 : (FloatKind.f64.format.order 4599676419421066582 4599676419421066582 == some Ordering.eq) = true := by decide +kernel
  go_wp2_with fail
  refine wp_region_G (S := (fun w' => w'.cell? ⟨w3.heap.size, 0, none⟩ = some (.bool s) ∧ w'.cell? ⟨w3.heap.size, 1, none⟩ = some (.slice A n c) ∧ w'.cell? ⟨w3.heap.size, 2, none⟩ = some (.slice A' n' c'))) 3 (by kernel_rfl) ?_ (fun hHeld => ?_)
  · first | exact True.intro | ((try dsimp only); go_keep)
  refine tkG (i := 0) (v := ?_) rfl (by kernel_rfl) (Or.inl ⟨by kernel_rfl, ?_⟩) (by assumption) ?_
  rotate_left 1
  · (intro w hSw; (try dsimp only at hSw); go_simp; try with_reducible rfl)
  try simp only [lyA, lyB, lyC, Act.put, lyD, lyE, lyF]
  refine tkG (i := 1) (v := ?_) rfl (by kernel_rfl) (Or.inl ⟨by kernel_rfl, ?_⟩) (by assumption) ?_
  rotate_left 1
  · (intro w hSw; (try dsimp only at hSw); go_simp; try with_reducible rfl)
  try simp only [lyA, lyB, lyC, Act.put, lyD, lyE, lyF]
  refine wpAnyG_one (i := 2) (by kernel_rfl) rfl (fun K hK => ?_)
  go_simp
  (refine (small_law false 1 2 w6.drew (by decide) (by decide)).mono ?_; rintro e w7 ⟨v7, rfl, hv7, hb7⟩; have HV7 := Lib.hid hv7; obtain ⟨x0, x1, x2⟩ := hHeld; have p0 := bat hb7 x0; have p1 := bat hb7 x1; have p2 := bat hb7 x2; have HVR : Hid (RAt w7 (.agg #[.bool s, .slice A n c, .slice A' n' c']) ⟨false, [1], [2]⟩) := Lib.hid ((HV6.out.below ((Below.refl w6.heap.size w6).drew)).below hb7); have HB7 : Hid (Below w.heap.size w w7) := Lib.hid (HB6.out.drew.trans (hb7.mono HB6.out.size)); clear hv7 hb7 x0 x1 x2)
  try go_wp2_with fail
  refine (fun hHeld => hK.out _ _ (.inl hHeld) (fun _ => ?_)) ?_
  rotate_left 1
  · first | exact True.intro | ((try dsimp only); go_keep)
  clear hK K
  try simp only [lyA, lyB, lyC, Act.put, lyD, lyE, lyF]
  refine wpAnyG_one (i := 3) (by kernel_rfl) rfl (fun K hK => ?_)
  go_simp
  (refine (is_law _ _ 0 0 ⟨false, [1], [2]⟩ ⟨false, [1], [2]⟩ w7 HVR.out HV7.out (by decide) (by decide) (by decide) (by decide)).mono ?_; rintro e w8 ⟨rfl, hb8⟩; rw [show (decide ((0 : Int) = 0) && decide ((⟨false, [1], [2]⟩ : RV) = ⟨false, [1], [2]⟩)) = true by decide]; have HB8 := Lib.hid (HB7.out.trans (hb8.mono HB7.out.size)); clear hb8)
  try go_wp2_with fail
  refine hK.out _ _ ?_ (fun hHeld => ?_)
  · exact .inr (by kernel_rfl)
  clear hK K
  try simp only [lyA, lyB, lyC, Act.put, lyD, lyE, lyF]
  refine wpAnyG_one (i := 4) (by kernel_rfl) rfl (fun K hK => ?_)
  go_simp
  refine hK.out _ _ ?_ (fun hHeld => ?_)
  · exact .inr (by kernel_rfl)
  clear hK K
  try simp only [lyA, lyB, lyC, Act.put, lyD, lyE, lyF]
  refine wpAnyG_one (i := 5) (by kernel_rfl) rfl (fun K hK => ?_)
  go_simp
  refine hK.out _ _ ?_ (fun hHeld => ?_)
  · exact .inr (by kernel_rfl)
  clear hK K
  try simp only [lyA, lyB, lyC, Act.put, lyD, lyE, lyF]
  refine wpAnyG_one (i := 6) (by kernel_rfl) rfl (fun K hK => ?_)
  go_simp
  refine hK.out _ _ ?_ (fun hHeld => ?_)
  · exact .inr (by kernel_rfl)
  clear hK K
  try simp only [lyA, lyB, lyC, Act.put, lyD, lyE, lyF]
  refine wpAnyG_one (i := 7) (by kernel_rfl) rfl (fun K hK => ?_)
  go_simp
  refine hK.out _ _ ?_ (fun hHeld => ?_)
  · exact .inr (by kernel_rfl)
  clear hK K
  try simp only [lyA, lyB, lyC, Act.put, lyD, lyE, lyF]
  refine wpAnyG_one (i := 8) (by kernel_rfl) rfl (fun K hK => ?_)
  go_simp
  refine hK.out _ _ ?_ (fun hHeld => ?_)
  · exact .inr (by kernel_rfl)
  clear hK K
  try simp only [lyA, lyB, lyC, Act.put, lyD, lyE, lyF]
  refine wpAnyG_one (i := 9) (by kernel_rfl) rfl (fun K hK => ?_)
  go_simp
  refine hK.out _ _ ?_ (fun hHeld => ?_)
  · exact .inr (by kernel_rfl)
  clear hK K
  try simp only [lyA, lyB, lyC, Act.put, lyD, lyE, lyF]
  refine wpAnyG_one (i := 10) (by kernel_rfl) rfl (fun K hK => ?_)
  go_simp
  refine hK.out _ _ ?_ (fun hHeld => ?_)
  · exact .inr (by kernel_rfl)
  clear hK K
  try simp only [lyA, lyB, lyC, Act.put, lyD, lyE, lyF]
  refine wpAnyG_one (i := 11) (by kernel_rfl) rfl (fun K hK => ?_)
  go_simp
  refine hK.out _ _ ?_ (fun hHeld => ?_)
  · exact .inr (by kernel_rfl)
  clear hK K
  try simp only [lyA, lyB, lyC, Act.put, lyD, lyE, lyF]
  refine wpAnyG_one (i := 12) (by kernel_rfl) rfl (fun K hK => ?_)
  go_simp
  refine hK.out _ _ ?_ (fun hHeld => ?_)
  · exact .inr (by kernel_rfl)
  clear hK K
  try simp only [lyA, lyB, lyC, Act.put, lyD, lyE, lyF]
  refine wpAnyG_done (by kernel_rfl) ?_ _
  go_wp2_with fail
  go_ret
  exact ⟨rfl, HB8.out⟩

end Go.Proofs.YtjokpfgncmdomaaGreatDoor

/- what the laws' walks need: boxes, answers held together -/
namespace Go.Proofs.YtjokpfgncmdomaaGreatDoor
open Go.RowKit Go.Sort
theorem RAt.shape {w : World} {v : Value} {r : RV} (h : RAt w v r) : ∃ s A n c A' n' c', v = .agg #[.bool s, .slice A n c, .slice A' n' c'] := by
  obtain ⟨A, n, c, A', n', c', h, _⟩ := h
  exact ⟨_, _, _, _, _, _, _, h⟩
theorem told_fits {q : Rat} (h : fits q) : toldE q = 0 ∧ toldR q = rv q := by
  unfold toldE toldR
  rw [if_pos h, if_pos h]
  exact ⟨rfl, rfl⟩
end Go.Proofs.YtjokpfgncmdomaaGreatDoor

/- what the laws' walks need, more -/
namespace Go.Proofs.YtjokpfgncmdomaaGreatDoor
open Go.RowKit Go.Sort
end Go.Proofs.YtjokpfgncmdomaaGreatDoor

/-
  What an argument reads as, opened down to its cells: by its type, part by part.
-/
namespace Go.Proofs.YtjokpfgncmdomaaGreatDoor
open Go.RowKit Go.Sort

/-- Whatever reads as data of type t is the cells of some x, which is in order in its world. The readings' own bound on sizes is at hand. -/
def Opens (P : Program) (t : TypeId) {α : Type} (f : α → List Value) (Ok : World → α → Prop) : Prop :=
  ∀ (H : Type) (enc : TypeId × Value → H) (W : World) (base : Nat) (spare : Nat → Bool) (held : Bool) (n : Nat) (cs : List Value) (y : DataW H × List MemPlace),
    DataW.trod enc P W base spare held n t cs = some y → (∀ k ∈ y.1.weights P t, k ≤ reachBytes) → ∃ x, cs = f x ∧ Ok W x

def OpensF (P : Program) (l : List Field) (off : Nat) {α : Type} (f : α → List Value) (Ok : World → α → Prop) : Prop :=
  ∀ (H : Type) (enc : TypeId × Value → H) (W : World) (base : Nat) (spare : Nat → Bool) (held : Bool) (n : Nat) (cs : List Value) (ys : List (DataW H × List MemPlace)),
    cs.length = off + (l.map fun fl => P.cellsOf fl.type).sum → ys.length = l.length →
    (∀ (i : Nat) (fl : Field), l[i]? = some fl → DataW.trod enc P W base spare held n fl.type ((cs.drop fl.offset).take (P.cellsOf fl.type)) = ys[i]?) →
    (∀ k ∈ DataW.weightsEach P (l.map (·.type)) (ys.map (·.1)), k ≤ reachBytes) → ∃ x, cs.drop off = f x ∧ Ok W x

section
variable {P : Program} {α β : Type} {f : α → List Value} {f' : β → List Value} {Ok : World → α → Prop} {Ok' : World → β → Prop} {t e : TypeId}

theorem Opens.map (h : Opens P t f Ok) (g : α → β) (hf : ∀ a, f a = f' (g a)) (hok : ∀ W a, Ok W a → Ok' W (g a)) : Opens P t f' Ok' := by
  intro H enc W base spare held n cs y hy hw
  obtain ⟨x, hx, ho⟩ := h H enc W base spare held n cs y hy hw
  exact ⟨g x, by rw [hx, hf], hok W x ho⟩

theorem opens_int {k : IntKind} (ht : P.underlying t = some (.int k)) : Opens P t (fun n : Int => [Value.int k n]) (fun _ n => (Lit.int k n).wf = true) := by
  intro H enc W base spare held n cs y hy _
  obtain ⟨m, rfl, _, hm⟩ := DataW.trod_int ht hy
  exact ⟨m, rfl, hm⟩
theorem opens_bool (ht : P.underlying t = some .bool) : Opens P t (fun b : Bool => [Value.bool b]) (fun _ _ => True) := by
  intro H enc W base spare held n cs y hy _
  cases n with
  | zero => simp [DataW.trod] at hy
  | succ n =>
    unfold DataW.trod at hy
    rw [ht] at hy
    split at hy <;> simp_all
theorem opens_float (ht : P.underlying t = some (.float .f64)) : Opens P t (fun n : Nat => [Value.float .f64 n]) (fun _ n => n < 18446744073709551616) := by
  intro H enc W base spare held n cs y hy _
  cases n with
  | zero => simp [DataW.trod] at hy
  | succ n =>
    unfold DataW.trod at hy
    rw [ht] at hy
    split at hy <;> simp_all
    rename_i hk
    obtain ⟨⟨hk', h2⟩, _⟩ := hy
    rw [← hk] at h2
    simpa [Lit.wf] using h2
theorem opensF_nil {off : Nat} : OpensF P [] off (fun _ : Unit => []) (fun _ _ => True) := by
  intro H enc W base spare held n cs ys hl _ _ _
  exact ⟨(), List.drop_of_length_le (by simp at hl; omega), trivial⟩
theorem opensF_cons {fl : Field} {l : List Field} {off : Nat} {f2 : β → List Value} {Ok2 : World → β → Prop} (h1 : Opens P fl.type f Ok) (ho : fl.offset = off) (h2 : OpensF P l (off + P.cellsOf fl.type) f2 Ok2) :
    OpensF P (fl :: l) off (fun x : α × β => f x.1 ++ f2 x.2) (fun W x => Ok W x.1 ∧ Ok2 W x.2) := by
  intro H enc W base spare held n cs ys hl hn hg hw
  match ys, hn with
  | y :: ys, hn =>
    have hy := hg 0 fl rfl
    rw [ho] at hy
    have hwe : DataW.weightsEach P ((fl :: l).map (·.type)) ((y :: ys).map (·.1)) = y.1.weights P fl.type ++ DataW.weightsEach P (l.map (·.type)) (ys.map (·.1)) := by
      simp [DataW.weightsEach]
    rw [hwe] at hw
    obtain ⟨x, hx, hox⟩ := h1 H enc W base spare held n _ y hy fun k hk => hw k (List.mem_append_left _ hk)
    obtain ⟨z, hz, hoz⟩ := h2 H enc W base spare held n cs ys (by rw [hl]; simp; omega) (by simpa using hn) (fun i g hi => by simpa using hg (i + 1) g (by simpa using hi)) fun k hk => hw k (List.mem_append_right _ hk)
    refine ⟨(x, z), ?_, hox, hoz⟩
    show cs.drop off = f x ++ f2 z
    rw [← hx, ← hz, ← List.drop_drop, List.take_append_drop]

theorem opens_struct {fs : Array Field} (ht : P.underlying t = some (.struct fs)) (hc : P.cellsOf t = (fs.toList.map fun fl => P.cellsOf fl.type).sum) (h : OpensF P fs.toList 0 f Ok) : Opens P t f Ok := by
  intro H enc W base spare held n cs y hy hw
  obtain ⟨xs, m, rfl, rfl, hl, hn, hg⟩ := DataW.trod_struct ht hy
  have hwe : (DataW.agg (xs.map (·.1)) : DataW H).weights P t = DataW.weightsEach P (fs.toList.map (·.type)) (xs.map (·.1)) := by
    simp [DataW.weights, ht]
  rw [hwe] at hw
  obtain ⟨x, hx, ho⟩ := h H enc W base spare held m cs xs (by rw [hl, hc]; omega) (by simpa using hn) (fun i fl hi => hg i fl (by simpa using hi)) hw
  exact ⟨x, by simpa using hx, ho⟩

/-- a slice, by its address, capacity and elements -/
structure SlV (α : Type) where
  A : Option Addr
  c : Nat
  xs : List α

theorem weights_all {H : Type} {P : Program} {e : TypeId} : ∀ {l : List (DataW H)} {d : DataW H}, d ∈ l → ∀ k ∈ d.weights P e, k ∈ DataW.weightsAll P e l
  | x :: r, d, h, k, hk => by
    simp only [DataW.weightsAll, List.mem_append]
    rcases List.mem_cons.1 h with rfl | h
    · exact .inl hk
    · exact .inr (weights_all h k hk)

def OkSl (P : Program) (e : TypeId) (f : α → List Value) (size : Nat) (Ok : World → α → Prop) (W : World) (x : SlV α) : Prop :=
  RdE f size W (fun b => b < W.heap.size) x.A x.xs.length x.xs ∧ (∀ a ∈ x.xs, Ok W a) ∧ x.xs.length ≤ x.c ∧ x.c ≤ maxLen ∧ x.xs.length * P.bytesOf e ≤ reachBytes ∧ (x.A = none → x.c = 0)

theorem list_of_fun {α : Type} {p : Nat → α → Prop} : ∀ (n : Nat), (∀ i, i < n → ∃ x, p i x) → ∃ l : List α, l.length = n ∧ ∀ i x, l[i]? = some x → p i x
  | 0, _ => ⟨[], rfl, fun i x h => by simp at h⟩
  | n + 1, h => by
    obtain ⟨l, hl, hp⟩ := list_of_fun n fun i hi => h i (by omega)
    obtain ⟨x, hx⟩ := h n (by omega)
    refine ⟨l ++ [x], by simp [hl], fun i y hy => ?_⟩
    by_cases hi : i < n
    · rw [List.getElem?_append_left (by omega)] at hy
      exact hp i y hy
    · have hin : i < (l ++ [x]).length := (List.getElem?_eq_some_iff.1 hy).1
      have e : i = n := by simp at hin; omega
      subst e
      rw [List.getElem?_append_right (by omega), hl, Nat.sub_self] at hy
      simp at hy
      subst hy
      exact hx

theorem opens_slice {size : Nat} (ht : P.underlying t = some (.slice e)) (hc : P.cellsOf e = size) (hs : 0 < size) (hf : ∀ x, (f x).length = size) (h : Opens P e f Ok) :
    Opens P t (fun x : SlV α => [Value.slice x.A x.xs.length x.c]) (OkSl P e f size Ok) := by
  intro H enc W base spare held n cs y hy hw
  rcases Go.Deep.open_slice ht hy with ⟨rfl, rfl⟩ | ⟨a, len, cap, m, k, D, Pl, rfl, hb, hl, hm, hmm, rfl, hi⟩
  · exact ⟨⟨none, 0, []⟩, rfl, RdE.nil .., fun a ha => by simp at ha, Nat.le_refl _, Nat.zero_le _, by simp, fun _ => rfl⟩
  · have hlm : len ≤ m := by rw [hmm]; split <;> omega
    have hw' : ∀ k ∈ DataW.weightsAll P e ((List.range len).map D), k ≤ reachBytes := fun k hk => hw k (by simp [DataW.weights, ht, hk])
    have hw0 : len * P.bytesOf e ≤ reachBytes := by
      have h0 := hw ((((List.range len).map D).length + ((List.range (m - len)).map fun j => D (len + j)).length) * P.bytesOf e) (by simp [DataW.weights, ht])
      refine Nat.le_trans (Nat.mul_le_mul_right _ ?_) h0
      simp
    obtain ⟨xs, hxl, hxs⟩ := list_of_fun (p := fun i x => W.cells? base (a.add (i * size)) size = some (f x) ∧ Ok W x) len fun i hi' => by
      obtain ⟨cs', hcs, htr⟩ := hi i (by omega)
      obtain ⟨x, rfl, ho⟩ := h H enc W base spare held k cs' _ htr fun q hq => hw' q (weights_all (List.mem_map.2 ⟨i, List.mem_range.2 hi', rfl⟩) q hq)
      rw [hc] at hcs
      exact ⟨x, hcs, ho⟩
    refine ⟨⟨some a, cap, xs⟩, by simp [hxl], ⟨⟨flat_len f size hf xs, fun j v hv => ?_⟩, rfl⟩, fun x hx => ?_, by simpa [hxl] using hl, hm, by simpa [hxl] using hw0, fun h => by cases h⟩
    · have hjl := (List.getElem?_eq_some_iff.1 hv).1
      rw [flat_len f size hf] at hjl
      have hq : j / size < xs.length := Nat.div_lt_of_lt_mul (by rw [Nat.mul_comm]; exact hjl)
      obtain ⟨x, hx⟩ := get_some (xs := xs) rfl hq
      have hr : j % size < size := Nat.mod_lt _ hs
      have hfv : (f x)[j % size]? = some v := by
        have h1 : (f x)[j % size]? = some ((f x)[j % size]'(by rw [hf]; exact hr)) := List.getElem?_eq_getElem _
        have h2 := flat_get f size hf xs (j / size) (j % size) x _ hx h1
        rw [Nat.div_add_mod'] at h2
        rw [h1, ← h2, hv]
      have hcell := (World.cells?_some (hxs _ x hx).1).2.2 (j % size) hr
      rw [hfv] at hcell
      have hsp : a.spot = none := by
        obtain ⟨x0, hx0⟩ := get_some (xs := xs) rfl (show 0 < xs.length from Nat.lt_of_le_of_lt (Nat.zero_le _) hq)
        have h0 := (World.cells?_some (hxs 0 x0 hx0).1).2.2 0 hs
        rw [List.getElem?_eq_getElem (by rw [hf]; exact hs)] at h0
        simpa [Addr.add] using World.cell?_spot h0
      obtain ⟨b, o, s⟩ := a
      simp only at hsp
      subst hsp
      rw [add_off, add_off] at hcell
      refine ⟨b, o, rfl, World.block_lt_of_cell? _ _ hcell, ?_⟩
      rw [← hcell, Nat.add_assoc, Nat.div_add_mod']
    · obtain ⟨i, hi'⟩ := List.getElem?_of_mem hx
      exact (hxs i x hi').2
end

end Go.Proofs.YtjokpfgncmdomaaGreatDoor
