import Derived.Test.YtmeljjijofkllaaE11
/- what the document's Join answers -/
namespace Go.Proofs.Ytmeljjijofkllaa
open Go.RowKit Go.Sort

theorem place_any (n : Int) (w : World) : Calls Try.prog 34 #[.int .i64 n] w fun e w' => e = .returned (.bool (placeB n)) ∧ w = w' := by
  rcases place_parts n with ⟨h1, h2⟩ | ⟨h1, h2⟩
  · rw [← h2]
    clear h2
    obtain ⟨g, hg⟩ : ∃ g, decide (n ≤ 2147483647) = g := ⟨_, rfl⟩
    rw [hg]
    go_enter Try.func34, Try.ntmps34
    go_wp2
    go_ret
    exact ⟨rfl, rfl⟩
  · rw [h2]
    clear h2
    go_enter Try.func34, Try.ntmps34
    go_wp2
    go_ret
    exact ⟨rfl, rfl⟩

def good2 (p : Rng × Rng) : Bool := goodB p.1 && goodB p.2
def num2 (p : Rng × Rng) : Bool := numB p.1 && numB p.2
theorem all_zip {p : Rng → Bool} : ∀ (a b : List Rng), a.length = b.length → (a ++ b).all p = (a.zip b).all fun q => p q.1 && p q.2
  | [], [], _ => rfl
  | x :: a, y :: b, h => by
    have e := all_zip (p := p) a b (by simpa using h)
    rw [List.all_append] at e
    simp only [List.cons_append, List.all_cons, List.all_append, List.zip_cons_cons, ← e]
    cases p x <;> cases p y <;> simp
def gd2 (a b : List Rng) (more : Int) (k : Nat) : Bool := placeB more && ((a.zip b).take k).all good2
theorem gd2_succ {a b : List Rng} {more : Int} {k : Nat} {x y : Rng} (hx : a[k]? = some x) (hy : b[k]? = some y) : gd2 a b more (k + 1) = (gd2 a b more k && (goodB x && goodB y)) := by
  have h : (a.zip b)[k]? = some (x, y) := by rw [List.getElem?_zip_eq_some]; exact ⟨hx, hy⟩
  obtain ⟨hl, hr⟩ := List.getElem?_eq_some_iff.1 h
  unfold gd2
  rw [List.take_succ_eq_append_getElem hl, List.all_append, hr]
  simp [Bool.and_assoc, good2]
theorem ref_end {a b : List Rng} {more : Int} {k : Nat} (hl : a.length = b.length) (hk : a.length ≤ k) (h : AllTo num2 (a.zip b) k) : joinErr a b more = if gd2 a b more k then 0 else 2 := by
  unfold AllTo at h
  have e : (a.zip b).take k = a.zip b := List.take_of_length_le (by rw [List.length_zip]; omega)
  rw [e] at h
  unfold joinErr gd2
  rw [e, if_neg (by simpa using hl), all_zip a b hl, all_zip a b hl, if_neg (by show ¬ (a.zip b).all num2 = false; rw [h]; simp)]
  rfl
theorem ref_nan {a b : List Rng} {more : Int} {k : Nat} {x y : Rng} (hl : a.length = b.length) (hx : a[k]? = some x) (hy : b[k]? = some y) (hr : num2 (x, y) = false) : joinErr a b more = 5 := by
  have : (a ++ b).all numB = false := by
    rw [all_zip a b hl, List.all_eq_false]
    exact ⟨(x, y), List.mem_of_getElem? (by rw [List.getElem?_zip_eq_some]; exact ⟨hx, hy⟩), by show ¬ num2 (x, y) = true; simp [hr]⟩
  simp [joinErr, hl, this]
theorem gd2_good {a b : List Rng} {more : Int} {k i : Nat} {r : Rng} (hl : a.length = b.length) (hk : a.length ≤ k) (h : gd2 a b more k = true) (hr : b[i]? = some r) :
    (0 ≤ more ∧ more ≤ 2147483647) ∧ (0 ≤ r.least.of_ ∧ r.least.of_ ≤ 2147483647) ∧ (0 ≤ r.most.of_ ∧ r.most.of_ ≤ 2147483647) := by
  refine gd_good (a := a) (b := b) (k := (a ++ b).length) rfl ?_ hr
  unfold gd2 at h
  unfold gdB
  rw [List.take_of_length_le (by rw [List.length_zip]; omega)] at h
  rw [List.take_length, all_zip a b hl]
  exact h
/-- which of the four is the first that is false -/
theorem four (a b c d : Bool) : (a = false) ∨ (a = true ∧ b = false) ∨ (a = true ∧ b = true ∧ c = false) ∨ (a = true ∧ b = true ∧ c = true ∧ d = false) ∨ (a = true ∧ b = true ∧ c = true ∧ d = true) := by
  cases a <;> cases b <;> cases c <;> cases d <;> simp
theorem bne_of {x : Nat} {g : Bool} (h : feq x x = g) : (FloatKind.f64.format.order x x != some .eq) = !g := by
  unfold feq at h; simp [bne, h]

theorem own_box (w : World) (cs : Array Value) (t : TypeId) {base size : Nat} (hb : base ≤ w.heap.size) (h : cs.size = size) : (w.alloc (.cells cs t)).ownsRow base t size (.slice (some ⟨w.heap.size, 0, none⟩) 1 1) 1 cs.toList :=
  ⟨by simp [h], .inr ⟨w.heap.size, 1, cs, rfl, hb, blk_new w cs t, Nat.le_refl _, by simp [maxLen], by simp [h], by rw [List.take_of_length_le (by simp [h])]⟩⟩
theorem lt_val {x y : Nat} {g : Bool} (h : flt x y = g) : (FloatKind.f64.format.order x y == some .lt) = g := h
theorem gt_val {x y : Nat} {g : Bool} (h : fgt x y = g) : (FloatKind.f64.format.order x y == some .gt) = g := h

set_option maxRecDepth 100000 in
set_option maxHeartbeats 2000000 in
theorem refJoin_any (A B : Option Addr) (n m c d : Nat) (a b : List Rng) (more : Int) (w : World) (S S' : Nat → Prop) (hx : RdE Rng.cells 4 w S A n a) (hy : RdE Rng.cells 4 w S' B m b) (hS : ∀ b, S b → b < w.heap.size) (hS' : ∀ b, S' b → b < w.heap.size) (hn : n ≤ 1000000000000) (hm : m ≤ 1000000000000) :
    Calls Try.prog 21 #[.slice A n c, .slice B m d, .int .i64 more] w (JoinPost a b more w) := by
  obtain ⟨i0, hi0, hz0, hz1, hz2⟩ := info_parts info_rng
  by_cases hne : n = m
  · subst hne
    have hlen : a.length = b.length := by rw [hx.num, hy.num]
    have HX := Lib.hid hx
    have HY := Lib.hid hy
    have HS := Lib.hid hS
    have HS' := Lib.hid hS'
    have HL := Lib.hid hlen
    have i1 := place_any
    have I1 := Lib.hid i1
    clear hx hy hS hS' hlen i1
    go_enter Try.func21, Try.ntmps21
    go_wp2_with (go_at_call 34; refine (I1.out more _).mono ?_; rintro e w' ⟨rfl, rfl⟩)
    obtain ⟨g0, hg0⟩ : ∃ g0, placeB more = g0 := ⟨_, rfl⟩
    rw [hg0]
    have HG0 := Lib.hid hg0
    clear hg0
    go_loopw [8, 9] (fun g i wr => ∃ k : Nat, k ≤ n ∧ g = .bool (gd2 a b more k) ∧ i = .int .i64 k ∧ Below w.heap.size w wr ∧ AllTo num2 (a.zip b) k) (fun _ i _ => n - (intOf i).toNat)
    case atStart => exact ⟨0, Nat.zero_le _, by simp [gd2, HG0.out], rfl, Below.refl _ _, by simp [AllTo]⟩
    case round =>
      obtain ⟨k, hk, rfl, rfl, hb, hn1⟩ := hrel
      have HN := Lib.hid hn1
      obtain ⟨gk, hgk⟩ : ∃ g, gd2 a b more k = g := ⟨_, rfl⟩
      rw [hgk]
      have HGK := Lib.hid hgk
      clear hn1 hgk
      by_cases hlt : k < n
      · obtain ⟨q, hq⟩ := get_some HX.out.num hlt
        obtain ⟨r, hr⟩ := get_some HY.out.num hlt
        obtain ⟨b1, o1, rfl, hSb, hc⟩ := HX.out.elem Rng.clen hq (by omega)
        obtain ⟨b2, o2, rfl, hSb2, hd⟩ := HY.out.elem Rng.clen hr (by omega)
        have k0 := (hb.cell (p := ⟨b1, o1 + k * 4, none⟩) (HS.out _ hSb)).trans (hc 0 _ rfl)
        have k1 := (hb.cell (p := ⟨b1, o1 + k * 4 + 1, none⟩) (HS.out _ hSb)).trans (hc 1 _ rfl)
        have k2 := (hb.cell (p := ⟨b1, o1 + k * 4 + 2, none⟩) (HS.out _ hSb)).trans (hc 2 _ rfl)
        have k3 := (hb.cell (p := ⟨b1, o1 + k * 4 + 3, none⟩) (HS.out _ hSb)).trans (hc 3 _ rfl)
        have l0 := (hb.cell (p := ⟨b2, o2 + k * 4, none⟩) (HS'.out _ hSb2)).trans (hd 0 _ rfl)
        have l1 := (hb.cell (p := ⟨b2, o2 + k * 4 + 1, none⟩) (HS'.out _ hSb2)).trans (hd 1 _ rfl)
        have l2 := (hb.cell (p := ⟨b2, o2 + k * 4 + 2, none⟩) (HS'.out _ hSb2)).trans (hd 2 _ rfl)
        have l3 := (hb.cell (p := ⟨b2, o2 + k * 4 + 3, none⟩) (HS'.out _ hSb2)).trans (hd 3 _ rfl)
        have g0 := cell_regrown k0
        have g1 := cell_regrown k1
        have g2 := cell_regrown k2
        have g3 := cell_regrown k3
        have m0 := cell_regrown l0
        have m1 := cell_regrown l1
        have m2 := cell_regrown l2
        have m3 := cell_regrown l3
        have HB := Lib.hid hb
        have HQ := Lib.hid hq
        have HR := Lib.hid hr
        clear hb hq hr hc hd
        rcases four (feq q.least.at_ q.least.at_) (feq q.most.at_ q.most.at_) (feq r.least.at_ r.least.at_) (feq r.most.at_ r.most.at_) with h | ⟨h1, h⟩ | ⟨h1, h2, h⟩ | ⟨h1, h2, h3, h⟩ | ⟨h1, h2, h3, h4⟩
        · have HF : Hid (num2 (q, r) = false) := Lib.hid (by simp [num2, numB, h])
          replace h := bne_of h
          go_wp2_with fail
          refine wp_region_quiet_below (by kernel_rfl) (by kernel_rfl) ?_
          repeat (first | go_big_quiet_step (fail) | quiet_step (fail))
          refine wpQuiet_nil ?_
          intro wq hwq
          have hbq := below_class hwq
          clear hwq
          have HW := Lib.hid hbq
          clear hbq
          go_wp2_with fail
          go_ret2
          exact join_fail (ref_nan HL.out HQ.out HR.out HF.out) (by decide) (below_then HB.out HW.out)
        · have HF : Hid (num2 (q, r) = false) := Lib.hid (by simp [num2, numB, h])
          replace h := bne_of h
          replace h1 := bne_of h1
          go_wp2_with fail
          refine wp_region_quiet_below (by kernel_rfl) (by kernel_rfl) ?_
          repeat (first | go_big_quiet_step (fail) | quiet_step (fail))
          refine wpQuiet_nil ?_
          intro wq hwq
          have hbq := below_class hwq
          clear hwq
          have HW := Lib.hid hbq
          clear hbq
          go_wp2_with fail
          go_ret2
          exact join_fail (ref_nan HL.out HQ.out HR.out HF.out) (by decide) (below_then HB.out HW.out)
        · have HF : Hid (num2 (q, r) = false) := Lib.hid (by simp [num2, numB, h])
          replace h := bne_of h
          replace h1 := bne_of h1
          replace h2 := bne_of h2
          go_wp2_with fail
          refine wp_region_quiet_below (by kernel_rfl) (by kernel_rfl) ?_
          repeat (first | go_big_quiet_step (fail) | quiet_step (fail))
          refine wpQuiet_nil ?_
          intro wq hwq
          have hbq := below_class hwq
          clear hwq
          have HW := Lib.hid hbq
          clear hbq
          go_wp2_with fail
          go_ret2
          exact join_fail (ref_nan HL.out HQ.out HR.out HF.out) (by decide) (below_then HB.out HW.out)
        · have HF : Hid (num2 (q, r) = false) := Lib.hid (by simp [num2, numB, h])
          replace h := bne_of h
          replace h1 := bne_of h1
          replace h2 := bne_of h2
          replace h3 := bne_of h3
          go_wp2_with fail
          refine wp_region_quiet_below (by kernel_rfl) (by kernel_rfl) ?_
          repeat (first | go_big_quiet_step (fail) | quiet_step (fail))
          refine wpQuiet_nil ?_
          intro wq hwq
          have hbq := below_class hwq
          clear hwq
          have HW := Lib.hid hbq
          clear hbq
          go_wp2_with fail
          go_ret2
          exact join_fail (ref_nan HL.out HQ.out HR.out HF.out) (by decide) (below_then HB.out HW.out)
        · have HF : Hid (num2 (q, r) = true) := Lib.hid (by simp [num2, numB, h1, h2, h3, h4])
          replace h1 := bne_of h1
          replace h2 := bne_of h2
          replace h3 := bne_of h3
          replace h4 := bne_of h4
          go_wp2_with fail
          refine wp_region_quiet_below (by kernel_rfl) (by kernel_rfl) ?_
          repeat (first | go_big_quiet_step (fail) | quiet_step (fail))
          refine wpQuiet_nil ?_
          intro wq hwq
          have hbq := below_class hwq
          clear hwq
          have HW := Lib.hid hbq
          have n0 := bat hbq k0
          have n1 := bat hbq k1
          have n2 := bat hbq k2
          have n3 := bat hbq k3
          have p0 := bat hbq l0
          have p1 := bat hbq l1
          have p2 := bat hbq l2
          have p3 := bat hbq l3
          clear hbq g0 g1 g2 g3 m0 m1 m2 m3 k0 k1 k2 k3 l0 l1 l2 l3
          cases gk
          · go_wp2_with fail
            go_roundw
            case rel => exact ⟨k + 1, by omega, by rw [gd2_succ HQ.out HR.out, HGK.out]; rfl, by go_num, HB.out.trans (HW.out.mono HB.out.size), all_succ HN.out HQ.out HR.out HF.out⟩
            case measure => simp [intOf]; omega
          · rcases four (placeB q.least.of_) (placeB q.most.of_) (placeB r.least.of_) (placeB r.most.of_) with h | ⟨j1, h⟩ | ⟨j1, j2, h⟩ | ⟨j1, j2, j3, h⟩ | ⟨j1, j2, j3, j4⟩
            · have G := Lib.hid h
              clear h
              go_wp2_with (go_at_call 34; refine (I1.out _ _).mono ?_; rintro e w' ⟨rfl, rfl⟩; rw [G.out])
              go_roundw
              case rel => exact ⟨k + 1, by omega, by rw [gd2_succ HQ.out HR.out, HGK.out]; simp [goodB, G.out], by go_num, HB.out.trans (HW.out.mono HB.out.size), all_succ HN.out HQ.out HR.out HF.out⟩
              case measure => simp [intOf]; omega
            · have G := Lib.hid h
              have J1 := Lib.hid j1
              clear h j1
              go_wp2_with (go_at_call 34; refine (I1.out _ _).mono ?_; rintro e w' ⟨rfl, rfl⟩; first | rw [G.out] | rw [J1.out])
              go_roundw
              case rel => exact ⟨k + 1, by omega, by rw [gd2_succ HQ.out HR.out, HGK.out]; simp [goodB, G.out], by go_num, HB.out.trans (HW.out.mono HB.out.size), all_succ HN.out HQ.out HR.out HF.out⟩
              case measure => simp [intOf]; omega
            · have G := Lib.hid h
              have J1 := Lib.hid j1
              have J2 := Lib.hid j2
              clear h j1 j2
              go_wp2_with (go_at_call 34; refine (I1.out _ _).mono ?_; rintro e w' ⟨rfl, rfl⟩; first | rw [G.out] | rw [J1.out] | rw [J2.out])
              go_roundw
              case rel => exact ⟨k + 1, by omega, by rw [gd2_succ HQ.out HR.out, HGK.out]; simp [goodB, G.out], by go_num, HB.out.trans (HW.out.mono HB.out.size), all_succ HN.out HQ.out HR.out HF.out⟩
              case measure => simp [intOf]; omega
            · have G := Lib.hid h
              have J1 := Lib.hid j1
              have J2 := Lib.hid j2
              have J3 := Lib.hid j3
              clear h j1 j2 j3
              go_wp2_with (go_at_call 34; refine (I1.out _ _).mono ?_; rintro e w' ⟨rfl, rfl⟩; first | rw [G.out] | rw [J1.out] | rw [J2.out] | rw [J3.out])
              go_roundw
              case rel => exact ⟨k + 1, by omega, by rw [gd2_succ HQ.out HR.out, HGK.out]; simp [goodB, G.out], by go_num, HB.out.trans (HW.out.mono HB.out.size), all_succ HN.out HQ.out HR.out HF.out⟩
              case measure => simp [intOf]; omega
            · have J4 := Lib.hid j4
              have J1 := Lib.hid j1
              have J2 := Lib.hid j2
              have J3 := Lib.hid j3
              clear j1 j2 j3 j4
              go_wp2_with (go_at_call 34; refine (I1.out _ _).mono ?_; rintro e w' ⟨rfl, rfl⟩; first | rw [J1.out] | rw [J2.out] | rw [J3.out] | rw [J4.out])
              go_roundw
              case rel => exact ⟨k + 1, by omega, by rw [gd2_succ HQ.out HR.out, HGK.out]; simp [goodB, J1.out, J2.out, J3.out, J4.out], by go_num, HB.out.trans (HW.out.mono HB.out.size), all_succ HN.out HQ.out HR.out HF.out⟩
              case measure => simp [intOf]; omega
      · have HE := Lib.hid (ref_end (more := more) HL.out (by rw [HX.out.num]; omega) HN.out)
        rw [HGK.out] at HE
        have HB := Lib.hid hb
        clear hb
        cases gk
        · go_wp2_with fail
          go_ret2
          exact join_fail HE.out (by decide) HB.out
        · have hj0 : joinErr a b more = 0 := HE.out
          have HJ := Lib.hid hj0
          clear hj0
          go_wp2_with fail
          go_loopw [10, 11] (fun v i wr => ∃ j : Nat, j ≤ n ∧ i = .int .i64 j ∧ wr.ownsRow w.heap.size 47 4 v j (((joinRes a b more).take j).flatMap Rng.cells) ∧ Below w.heap.size w wr) (fun _ i _ => n - (intOf i).toNat)
          case atStart => exact ⟨0, Nat.zero_le _, rfl, World.ownsRow_nil .., HB.out⟩
          case round =>
            obtain ⟨j, hj, rfl, hown, hb⟩ := hrel
            have HO := Lib.hid hown
            clear hown
            by_cases hltj : j < n
            · obtain ⟨q, hq⟩ := get_some HX.out.num hltj
              obtain ⟨r, hr⟩ := get_some HY.out.num hltj
              obtain ⟨b1, o1, rfl, hSb, hc⟩ := HX.out.elem Rng.clen hq (by omega)
              obtain ⟨b2, o2, rfl, hSb2, hd⟩ := HY.out.elem Rng.clen hr (by omega)
              have k0 := (hb.cell (p := ⟨b1, o1 + j * 4, none⟩) (HS.out _ hSb)).trans (hc 0 _ rfl)
              have k1 := (hb.cell (p := ⟨b1, o1 + j * 4 + 1, none⟩) (HS.out _ hSb)).trans (hc 1 _ rfl)
              have k2 := (hb.cell (p := ⟨b1, o1 + j * 4 + 2, none⟩) (HS.out _ hSb)).trans (hc 2 _ rfl)
              have k3 := (hb.cell (p := ⟨b1, o1 + j * 4 + 3, none⟩) (HS.out _ hSb)).trans (hc 3 _ rfl)
              have l0 := (hb.cell (p := ⟨b2, o2 + j * 4, none⟩) (HS'.out _ hSb2)).trans (hd 0 _ rfl)
              have l1 := (hb.cell (p := ⟨b2, o2 + j * 4 + 1, none⟩) (HS'.out _ hSb2)).trans (hd 1 _ rfl)
              have l2 := (hb.cell (p := ⟨b2, o2 + j * 4 + 2, none⟩) (HS'.out _ hSb2)).trans (hd 2 _ rfl)
              have l3 := (hb.cell (p := ⟨b2, o2 + j * 4 + 3, none⟩) (HS'.out _ hSb2)).trans (hd 3 _ rfl)
              obtain ⟨hv0, hv1, hv2⟩ := gd2_good HL.out (by rw [HX.out.num]; omega) HGK.out hr
              obtain ⟨g1, g2⟩ := hv0
              obtain ⟨g3, g4⟩ := hv1
              obtain ⟨g5, g6⟩ := hv2
              have HBj := Lib.hid hb
              have HQ := Lib.hid hq
              have HR := Lib.hid hr
              clear hb hq hr hc hd
              go_wp2_with fail
              have ob := own_box wr #[.float .f64 q.least.at_, .int .i64 q.least.of_, .float .f64 q.most.at_, .int .i64 q.most.of_] 47 (Nat.le_refl _) (size := 4) rfl
              have bA := below1 wr (.cells #[.float .f64 q.least.at_, .int .i64 q.least.of_, .float .f64 q.most.at_, .int .i64 q.most.of_] 47)
              have m0 := cell_regrown (bat bA l0)
              have m2 := cell_regrown (bat bA l2)
              have n0 := cell_regrown (ob.cellAt 0 (by omega))
              have n2 := cell_regrown (ob.cellAt 2 (by omega))
              refine wp_region_quiet_below (by kernel_rfl) (by kernel_rfl) ?_
              repeat (first | go_big_quiet_step (fail) | quiet_step (fail))
              refine wpQuiet_nil ?_
              intro wq hwq
              have hbq := below_class hwq
              clear hwq
              obtain ⟨w1, rfl⟩ : ∃ w1 : World, w1 = wq := ⟨_, rfl⟩
              have o1 := own_below ob hbq
              have B1 := below_then bA hbq
              clear hbq m0 m2 n0 n2 ob bA
              go_upto_if 142 with fail
              obtain ⟨f, hf⟩ : ∃ f, flt r.least.at_ q.least.at_ = f := ⟨_, rfl⟩
              rw [lt_val hf]
              have HF := Lib.hid hf
              clear hf
              go_cut [] from 1000 (fun wx => ∃ x : Ext, x = (if flt r.least.at_ q.least.at_ then (shiftR more r).least else q.least) ∧ wx.ownsRow wr.heap.size 47 4 (.slice (some ⟨wr.heap.size, 0, none⟩) 1 1) 1 [.float .f64 x.at_, .int .i64 x.of_, .float .f64 q.most.at_, .int .i64 q.most.of_] ∧ Below wr.heap.size wr wx)
              case first =>
                have O1 := Lib.hid o1
                have HB1 := Lib.hid B1
                cases f
                · clear o1 B1
                  go_wp2_with fail
                  go_meet
                  case rel => exact ⟨q.least, by simp [HF.out], O1.out, HB1.out⟩
                · go_wp2_with fail
                  have m0 := cell_regrown (bat B1 l0)
                  have m1 := cell_regrown (bat B1 l1)
                  clear o1 B1
                  refine wp_region_tail_below 16 (by kernel_rfl) (by kernel_rfl) ?_
                  simp only [List.take_succ_cons, List.take_zero, List.drop_succ_cons, List.drop_zero]
                  repeat (first | go_big_quiet_step (fail) | quiet_step (fail))
                  refine wpQuiet_nil ?_
                  intro wq hwq
                  have hbq := below_class hwq
                  clear hwq
                  have o2 := own_below O1.out hbq
                  have c0 := o2.cellAt 0 (by omega)
                  have c1 := o2.cellAt 1 (by omega)
                  have f0 := o2.frozenAt 0
                  have f1 := o2.frozenAt 1
                  have B2 := below_then HB1.out hbq
                  have hz1 := HB1.out.size
                  have hz2 := hbq.size
                  have O2 := Lib.hid (own_setAll [.float .f64 r.least.at_, .int .i64 (r.least.of_ + more)] 0 wq _ o2)
                  have HB2 := Lib.hid (B2.grown O2.out.2 (Nat.le_trans hz1 hz2) (fun g hg => by injection hg with hg; omega))
                  clear m0 m1 hbq o2 B2
                  go_wp2_with fail
                  go_meet
                  case rel => exact ⟨(shiftR more r).least, by simp [HF.out], O2.out.1, HB2.out⟩
              case rest =>
                clear o1 B1
                obtain ⟨x, hx, ox, bx⟩ := hcut
                have HX1 := Lib.hid hx
                clear hx
                go_wp2_with fail
                have m2 := cell_regrown (bat bx l2)
                have n2 := cell_regrown (ox.cellAt 2 (by omega))
                refine wp_region_quiet_below (by kernel_rfl) (by kernel_rfl) ?_
                repeat (first | go_big_quiet_step (fail) | quiet_step (fail))
                refine wpQuiet_nil ?_
                intro wq hwq
                have hbq := below_class hwq
                clear hwq
                obtain ⟨w1, rfl⟩ : ∃ w1 : World, w1 = wq := ⟨_, rfl⟩
                have o1 := own_below ox hbq
                have B1 := below_then bx hbq
                clear hbq m2 n2 ox bx
                go_upto_if 168 with fail
                obtain ⟨f2, hf⟩ : ∃ f, fgt r.most.at_ q.most.at_ = f := ⟨_, rfl⟩
                rw [gt_val hf]
                have HF := Lib.hid hf
                clear hf
                go_cut [] from 1000 (fun wx => wx.ownsRow wr.heap.size 47 4 (.slice (some ⟨wr.heap.size, 0, none⟩) 1 1) 1 (bothR q (shiftR more r)).cells ∧ Below wr.heap.size wr wx)
                case first =>
                  have O1 := Lib.hid o1
                  have HB1 := Lib.hid B1
                  cases f2
                  · clear o1 B1
                    have hbe : bothR q (shiftR more r) = ⟨x, q.most⟩ := by unfold bothR; rw [HX1.out]; congr 1; rw [show fgt (shiftR more r).most.at_ q.most.at_ = false from HF.out]; rfl
                    have HBE := Lib.hid hbe
                    clear hbe
                    go_wp2_with fail
                    go_meet
                    case rel => exact ⟨by rw [HBE.out]; exact O1.out, HB1.out⟩
                  · have hbe : bothR q (shiftR more r) = ⟨x, (shiftR more r).most⟩ := by unfold bothR; rw [HX1.out]; congr 1; rw [show fgt (shiftR more r).most.at_ q.most.at_ = true from HF.out]; rfl
                    have HBE := Lib.hid hbe
                    clear hbe
                    go_wp2_with fail
                    have m0 := cell_regrown (bat B1 l2)
                    have m1 := cell_regrown (bat B1 l3)
                    clear o1 B1
                    refine wp_region_tail_below 16 (by kernel_rfl) (by kernel_rfl) ?_
                    simp only [List.take_succ_cons, List.take_zero, List.drop_succ_cons, List.drop_zero]
                    repeat (first | go_big_quiet_step (fail) | quiet_step (fail))
                    refine wpQuiet_nil ?_
                    intro wq hwq
                    have hbq := below_class hwq
                    clear hwq
                    have o2 := own_below O1.out hbq
                    have c0 := o2.cellAt 2 (by omega)
                    have c1 := o2.cellAt 3 (by omega)
                    have f0 := o2.frozenAt 2
                    have f1 := o2.frozenAt 3
                    have B2 := below_then HB1.out hbq
                    have hz1 := HB1.out.size
                    have hz2 := hbq.size
                    have O2 := Lib.hid (own_setAll [.float .f64 r.most.at_, .int .i64 (r.most.of_ + more)] 2 wq _ o2)
                    have HB2 := Lib.hid (B2.grown O2.out.2 (Nat.le_trans hz1 hz2) (fun g hg => by injection hg with hg; omega))
                    clear m0 m1 hbq o2 B2
                    go_wp2_with fail
                    go_meet
                    case rel => exact ⟨by rw [HBE.out]; exact O2.out.1, HB2.out⟩
                case rest =>
                  clear o1 B1
                  obtain ⟨ox, bx⟩ := hcut
                  have c0 := ox.cellAt 0 (by omega)
                  have c1 := ox.cellAt 1 (by omega)
                  have c2 := ox.cellAt 2 (by omega)
                  have c3 := ox.cellAt 3 (by omega)
                  obtain ⟨A3, c3', rfl, hc3, _⟩ := own_slice HO.out
                  have hzz := bx.size
                  have hjz := HBj.out.size
                  have HO1 := Lib.hid ((own_below HO.out bx).alloc (.cells (bothR q (shiftR more r)).cells.toArray 47))
                  have HBA := Lib.hid bx
                  clear ox bx
                  go_wp2_with (at_builtin; go_must (refine wpList_append_rd _ rfl (.tmp 185) (.tmp 187) _ rfl w.heap.size 47 i0 _ 4 32 Try.underlying24 hi0 hz0 hz1 hz2 rfl (by omega) _ j _ rfl HO1.out (fun _ => True) (some ⟨wc.heap.size, 0, none⟩) 1 1 (bothR q (shiftR more r)).cells rfl (rd_blk (blk_new ..) rfl trivial) (by simpa using rng_one [bothR q (shiftR more r)]) (by simp only [maxLen]; omega) (by omega) (by simp; omega) ?_); intro v2 w2 hown2 hg2 hat2)
                  have hown3 := hown2
                  rw [res_step (f := Rng.cells) (res_get HJ.out HQ.out HR.out)] at hown3
                  have HO3 := Lib.hid hown3
                  have HB3 := Lib.hid (HBj.out.trans ((below_then HBA.out (below1 ..)).mono hjz |>.trans (Below.grown (Below.refl w.heap.size _) hg2 (by simp; omega) (fun g hg => (HO1.out.lt g hg).1))))
                  clear hown2 hown3 hg2 hat2
                  go_roundw
                  case rel => exact ⟨j + 1, by omega, by go_num, HO3.out, HB3.out⟩
                  case measure => simp [intOf]; omega
            · obtain rfl : n = j := by omega
              have HBj := Lib.hid hb
              clear hb
              go_wp2_with fail
              go_ret2
              obtain ⟨A', c', e, hc', hh⟩ := own_slice HO.out
              have hown := HO.out
              rw [e] at hown
              rw [List.take_of_length_le (by rw [res_len HJ.out HL.out, HY.out.num]; exact Nat.le_refl _)] at hown
              exact ⟨A', n, c', by rw [e, HJ.out]; rfl, hc', (RdE.of_own Rng.clen (by omega) hown).imp (fun b h => ⟨h.1, h.2.1⟩), HBj.out⟩
  · have herr : joinErr a b more = 4 := by
      unfold joinErr
      rw [if_pos (by rw [hx.num, hy.num]; exact hne)]
    have hq : ((n : Int) != m) = true := by simp; omega
    have HE := Lib.hid herr
    clear herr hx hy hS hS'
    go_enter Try.func21, Try.ntmps21
    go_wp2_with fail
    go_ret2
    exact join_fail HE.out (by decide) (Below.refl _ _)

end Go.Proofs.Ytmeljjijofkllaa
