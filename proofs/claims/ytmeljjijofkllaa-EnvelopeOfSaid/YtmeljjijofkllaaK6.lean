import Derived.Test.YtmeljjijofkllaaK2
import Derived.Test.YtmeljjijofkllaaK3
import Derived.Test.YtmeljjijofkllaaE5
/- what the document's Of answers -/
namespace Go.Proofs.Ytmeljjijofkllaa
open Go.RowKit Go.Sort

def RightTill (L : List (List Spn)) (k i : Nat) : Prop := ∀ (t : Nat) (l : List Spn) (x : Spn), t < i → L[t]? = some l → l[k]? = some x → rightB x = true
def RightCols (L : List (List Spn)) (k : Nat) : Prop := ∀ (c : Nat), c < k → RightTill L c L.length
theorem rights_cols {L : List (List Spn)} {m : Nat} (h : RightCols L m) (he : ∀ (i : Nat) (l : List Spn), L[i]? = some l → l.length = m) : rightsB L = true := by
  unfold rightsB
  rw [List.all_eq_true]
  intro l hl
  rw [List.all_eq_true]
  intro x hx
  obtain ⟨i, hi⟩ := List.mem_iff_getElem?.1 hl
  obtain ⟨c, hc⟩ := List.mem_iff_getElem?.1 hx
  have hcm : c < m := by have := (List.getElem?_eq_some_iff.1 hc).1; rw [he i l hi] at this; exact this
  exact h c hcm i l x (List.getElem?_eq_some_iff.1 hi).1 hi hc

theorem of_wrong2 {L : List (List Spn)} {n i j : Nat} {l : List Spn} {x : Spn} {w w' : World} (hn : L.length = n) (he : EvenTo L n) (hl : L[i]? = some l) (hx : l[j]? = some x) (hr : rightB x = false) (hb : Below w.heap.size w w') :
    OfPost L w (.returned (.tuple #[.slice none 0 0, .int .i64 2])) w' := of_wrong hn he hl hx hr hb

theorem refOf_end {L : List (List Spn)} {n m : Nat} {l0 : List Spn} {w wr : World} {v : Value} (hn : L.length = n) (he : EvenTo L n) (h0 : L[0]? = some l0) (hm : l0.length = m) (hr : RightCols L m)
    (hown : wr.ownsRow w.heap.size 47 4 v m ((upTo L m n).flatMap Rng.cells)) (hb : Below w.heap.size w wr) : OfPost L w (.returned (.tuple #[v, .int .i64 0])) wr := by
  have hev : ∀ (i : Nat) (l : List Spn), L[i]? = some l → l.length = m := fun i l hl => by rw [he i l (by have := (List.getElem?_eq_some_iff.1 hl).1; omega) hl, getD_some h0, hm]
  have h1 := even_true he hn
  have h2 := rights_cols hr hev
  have h3 : L ≠ [] := ne_nil_of h0
  have e1 : ofErr L = 0 := by simp [ofErr, h1, h2]
  have e2 : ofRes L = upTo L m n := by unfold ofRes; rw [if_neg h3, if_neg (by simp [h1]), if_neg (by simp [h2]), getD_some h0, hm, hn]
  obtain ⟨A, c, rfl, hc, _⟩ := own_slice hown
  refine ⟨A, m, c, by rw [e1], hc, ?_, hb⟩
  rw [e2]
  exact (RdE.of_own Rng.clen (by omega) hown).imp (fun b h => ⟨h.1, h.2.1⟩)

theorem res_step6 {α : Type} {f : α → List Value} {xs : List α} {i : Nat} {x : α} (h : xs[i]? = some x) : (xs.take i).flatMap f ++ f x = (xs.take (i + 1)).flatMap f := by
  obtain ⟨hl, e⟩ := List.getElem?_eq_some_iff.1 h
  rw [List.take_succ_eq_append_getElem hl, List.flatMap_append, e]
  simp
theorem own_box6 (w : World) (cs : Array Value) (t : TypeId) {base size : Nat} (hb : base ≤ w.heap.size) (h : cs.size = size) : (w.alloc (.cells cs t)).ownsRow base t size (.slice (some ⟨w.heap.size, 0, none⟩) 1 1) 1 cs.toList := own_box w cs t hb h
theorem right_till {L : List (List Spn)} {k i : Nat} {l : List Spn} {x : Spn} (h : RightTill L k i) (hl : L[i]? = some l) (hx : l[k]? = some x) (hr : rightB x = true) : RightTill L k (i + 1) := by
  intro t l' x' ht hl' hx'
  by_cases e : t = i
  · subst e
    rw [hl] at hl'
    injection hl' with e1
    subst e1
    rw [hx] at hx'
    injection hx' with e2
    subst e2
    exact hr
  · exact h t l' x' (by omega) hl' hx'

set_option maxRecDepth 100000 in
set_option maxHeartbeats 2000000 in
theorem refOf_any (A : Option Addr) (n c : Nat) (L : List (List Spn)) (S : Nat → Prop) (w : World) (hx : RdRows Spn.cells 2 w S A n L) (hS : ∀ b, S b → b < w.heap.size) (hn : n ≤ 1000000000) (hL : ∀ (i : Nat) (l : List Spn), L[i]? = some l → l.length ≤ 1000000000000) :
    Calls Try.prog 15 #[.slice A n c] w (OfPost L w) := by
  obtain ⟨i0, hi0, hz0, hz1, hz2⟩ := info_parts info_rng
  have HX := Lib.hid hx
  have HS := Lib.hid hS
  have HLL := Lib.hid hL
  clear hx hS hL
  by_cases h0 : n = 0
  · subst h0
    go_enter Try.func15, Try.ntmps15
    go_wp2
    go_ret2
    have hL0 : L = [] := List.eq_nil_of_length_eq_zero HX.out.num
    subst hL0
    exact ⟨none, 0, 0, rfl, Nat.le_refl _, RdE.nil .., Below.refl _ _⟩
  · have hn0 : 0 < n := by omega
    have hne : ((n : Int) == 0) = false := by simp; omega
    clear h0
    obtain ⟨l0, hl0⟩ := get_some HX.out.num hn0
    obtain ⟨b0, o0, A0, c0, rfl, hSb0, hcell0, hlc0, hr0⟩ := HX.out.row hl0
    have hl0len := HLL.out 0 l0 hl0
    rw [Nat.add_zero] at hcell0
    have HL0 := Lib.hid hl0
    have HC0 := Lib.hid hcell0
    have i1 := refRight_any
    have I1 := Lib.hid i1
    clear hl0 hr0 i1
    go_enter Try.func15, Try.ntmps15
    go_wp2_with fail
    go_loopw [4] (fun i wr => ∃ k : Nat, k ≤ n ∧ i = .int .i64 k ∧ EvenTo L k ∧ Below w.heap.size w wr) (fun i _ => n - (intOf i).toNat)
    case atStart => exact ⟨0, Nat.zero_le _, rfl, fun i l h => absurd h (Nat.not_lt_zero _), Below.refl _ _⟩
    case round =>
      obtain ⟨k, hk, rfl, hev, hb⟩ := hrel
      have HE := Lib.hid hev
      clear hev
      by_cases hlt : k < n
      · obtain ⟨l, hl⟩ := get_some HX.out.num hlt
        obtain ⟨b, o, A1, c1, e1, hSb, hcell, hlc, hr⟩ := HX.out.row hl
        simp only [Option.some.injEq, Addr.mk.injEq, and_true] at e1
        obtain ⟨rfl, rfl⟩ := e1
        have q0 := (hb.cell (p := ⟨b0, o0, none⟩) (HS.out _ hSb0)).trans hcell0
        have q1 := (hb.cell (p := ⟨b0, o0 + k, none⟩) (HS.out _ hSb)).trans hcell
        have r0 := cell_regrown q0
        have r1 := cell_regrown q1
        have HL := Lib.hid hl
        have HB := Lib.hid hb
        clear hl hr hb hcell
        go_wp2_with fail
        refine wp_region_quiet_below (by kernel_rfl) (by kernel_rfl) ?_
        repeat (first | go_big_quiet_step (fail) | quiet_step (fail))
        refine wpQuiet_nil ?_
        intro wq hwq
        have hbq := below_class hwq
        clear hwq
        have HQ := Lib.hid hbq
        clear hbq r0 r1 q0 q1
        by_cases hll : l.length = l0.length
        · have hb1 : ((l.length : Int) != l0.length) = false := by simp [hll]
          have HLE := Lib.hid hll
          clear hll
          go_wp2_with fail
          go_roundw
          case rel => exact ⟨k + 1, by omega, by go_num, even_succ HE.out HL.out HL0.out HLE.out, HB.out.trans (HQ.out.mono HB.out.size)⟩
          case measure => simp [intOf]; omega
        · have hb1 : ((l.length : Int) != l0.length) = true := by simp; omega
          have hneq := Lib.hid hll
          clear hll
          go_wp2_with fail
          go_ret2
          obtain ⟨A', n', c', e, hc, hr, _⟩ := of_uneven (w := w) HX.out.num HL.out HL0.out hneq.out
          have hr2 := hr.num
          injection e with e
          injection e with e
          simp only [Array.mk.injEq, List.cons.injEq, Value.slice.injEq, Value.int.injEq, true_and, and_true] at e
          obtain ⟨⟨rfl, rfl, rfl⟩, he⟩ := e
          have hnil : ofRes L = [] := List.eq_nil_of_length_eq_zero hr2
          exact ⟨none, 0, 0, by rw [← he]; rfl, Nat.le_refl _, by rw [hnil]; exact RdE.nil .., below_then HB.out HQ.out⟩
      · obtain rfl : n = k := by omega
        have HB := Lib.hid hb
        clear hb
        go_wp2_with fail
        have hev : ∀ (i : Nat) (l : List Spn), L[i]? = some l → l.length = l0.length := even_all HE.out HX.out.num HL0.out
        have HEV := Lib.hid hev
        have hul := upTo_len L l0.length n (fun k l _ => hev k l) (by rw [HX.out.num]; exact Nat.le_refl _)
        have HUL := Lib.hid hul
        clear hev hul
        obtain ⟨wo, rfl⟩ : ∃ wo : World, wo = wr := ⟨_, rfl⟩
        go_loopw [5, 6] (fun v i wr => ∃ k : Nat, k ≤ l0.length ∧ i = .int .i64 k ∧ wr.ownsRow w.heap.size 47 4 v k (((upTo L l0.length n).take k).flatMap Rng.cells) ∧ RightCols L k ∧ Below w.heap.size w wr) (fun _ i _ => l0.length - (intOf i).toNat)
        case atStart => exact ⟨0, Nat.zero_le _, rfl, World.ownsRow_nil .., fun c hc => absurd hc (Nat.not_lt_zero _), HB.out⟩
        case round =>
          obtain ⟨k, hk, rfl, hown, hrc, hb⟩ := hrel
          have HO := Lib.hid hown
          have HRC := Lib.hid hrc
          have q0 := (hb.cell (p := ⟨b0, o0, none⟩) (HS.out _ hSb0)).trans HC0.out
          have HBk := Lib.hid hb
          clear hown hrc hb
          by_cases hltk : k < l0.length
          · obtain ⟨res, hres⟩ := get_some HUL.out hltk
            have HRES := Lib.hid hres
            clear hres
            go_wp2_with fail
            obtain ⟨wb, rfl⟩ : ∃ wb : World, wb = wr := ⟨_, rfl⟩
            have ob := own_box wb #[.float .f64 0, .int .i64 0, .float .f64 0, .int .i64 0] 47 (Nat.le_refl _) (size := 4) rfl
            have HOB := Lib.hid ob
            have hbz := HBk.out.size
            clear ob
            go_loopw [8] (fun i wx => ∃ (t : Nat) (r : Rng), t ≤ n ∧ i = .int .i64 t ∧ (upTo L l0.length t)[k]? = some r ∧ wx.ownsRow wb.heap.size 47 4 (.slice (some ⟨wb.heap.size, 0, none⟩) 1 1) 1 r.cells ∧ RightTill L k t ∧ Below wb.heap.size wb wx) (fun i _ => n - (intOf i).toNat)
            case atStart => exact ⟨0, zeroR, Nat.zero_le _, rfl, by simp [upTo, hltk], HOB.out, fun t l x ht => absurd ht (Nat.not_lt_zero _), below1 ..⟩
            case round =>
              obtain ⟨t, r, ht, rfl, hur, hbox, hrt, hb⟩ := hrel
              have HUR := Lib.hid hur
              have HRT := Lib.hid hrt
              have HBOX := Lib.hid hbox
              have HBt := Lib.hid hb
              clear hur hrt
              by_cases hltt : t < n
              · obtain ⟨l, hl⟩ := get_some HX.out.num hltt
                obtain ⟨b, o, A1, c1, e1, hSb, hcell, hlc, hr⟩ := HX.out.row hl
                simp only [Option.some.injEq, Addr.mk.injEq, and_true] at e1
                obtain ⟨rfl, rfl⟩ := e1
                have hll := HEV.out t l hl
                obtain ⟨x, hx⟩ := get_some hll hltk
                have hkl : k < l.length := by omega
                obtain ⟨b1, o1, rfl, hSb1, hc⟩ := hr.elem Spn.clen hx (by omega)
                have HBW := Lib.hid (HBk.out.trans (hb.mono hbz))
                have q1 := (HBW.out.cell (p := ⟨b0, o0 + t, none⟩) (HS.out _ hSb)).trans hcell
                have q2 : wr.cell? ⟨b1, o1 + k * 2, none⟩ = some (.float .f64 x.lo) := (HBW.out.cell (p := ⟨b1, _, none⟩) (HS.out _ hSb1)).trans (hc 0 _ rfl)
                have q3 : wr.cell? ⟨b1, o1 + k * 2 + 1, none⟩ = some (.float .f64 x.hi) := (HBW.out.cell (p := ⟨b1, _, none⟩) (HS.out _ hSb1)).trans (hc 1 _ rfl)
                have HLt := Lib.hid hl
                have HXt := Lib.hid hx
                clear hl hx hr hc hcell hbox hb
                have hwne : wb.heap.size ≠ wr.heap.size := by have h := (HBOX.out.lt wb.heap.size rfl).2; exact Nat.ne_of_lt h
                cases hrx : rightB x
                · have HRX := Lib.hid hrx
                  clear hrx
                  go_wp2_with (go_at_call 31; refine (I1.out x _).mono ?_; rintro e w2 ⟨rfl, hb2⟩; have p0 := bat hb2 (new_cell wr #[.float .f64 x.lo, .float .f64 x.hi] 43 0 _ rfl); have p1 := bat hb2 (new_cell wr #[.float .f64 x.lo, .float .f64 x.hi] 43 1 _ rfl); have ho2 := own_below (HBOX.out.alloc (.cells #[.float .f64 x.lo, .float .f64 x.hi] 43)) hb2; have k0 := ho2.cellAt 0 (by omega); have k1 := ho2.cellAt 1 (by omega); have k2 := ho2.cellAt 2 (by omega); have k3 := ho2.cellAt 3 (by omega); have f0 := ho2.frozenAt 0; have f1 := ho2.frozenAt 1; have f2 := ho2.frozenAt 2; have f3 := ho2.frozenAt 3; have p1s : ((w2.setCell ⟨wb.heap.size, 0, none⟩ (.float .f64 x.lo)).setCell ⟨wb.heap.size, 1, none⟩ (.int .i64 t)).cell? ⟨wr.heap.size, 1, none⟩ = some (.float .f64 x.hi) := (World.cell?_setCell_far _ _ _ _ hwne).trans ((World.cell?_setCell_far _ _ _ _ hwne).trans p1); have hs1 := own_setAll [.float .f64 x.lo, .int .i64 t] 0 w2 _ ho2; have k2s : ((w2.setCell ⟨wb.heap.size, 0, none⟩ (.float .f64 x.lo)).setCell ⟨wb.heap.size, 1, none⟩ (.int .i64 t)).cell? ⟨wb.heap.size, 2, none⟩ = some (.float .f64 r.most.at_) := hs1.1.cellAt 2 (by omega); have f2s : ((w2.setCell ⟨wb.heap.size, 0, none⟩ (.float .f64 x.lo)).setCell ⟨wb.heap.size, 1, none⟩ (.int .i64 t)).frozen? ⟨wb.heap.size, 2, none⟩ = false := hs1.1.frozenAt 2; have f3s : ((w2.setCell ⟨wb.heap.size, 0, none⟩ (.float .f64 x.lo)).setCell ⟨wb.heap.size, 1, none⟩ (.int .i64 t)).frozen? ⟨wb.heap.size, 3, none⟩ = false := hs1.1.frozenAt 3; clear hs1; have HO2 := Lib.hid ho2; have HB2 := Lib.hid (below_then HBt.out (below_then (below1 ..) hb2)); have hbz2 := (below_then HBt.out (below_then (below1 ..) hb2)).size; clear hb2 ho2; rw [HRX.out])
                  go_ret2
                  exact of_wrong2 HX.out.num HE.out HLt.out HXt.out HRX.out (HBk.out.trans (HB2.out.mono hbz))
                · have HRX := Lib.hid hrx
                  clear hrx
                  have hnext : ∀ r', r' = stepR t r x → (upTo L l0.length (t + 1))[k]? = some r' := fun r' e => by rw [upTo, getD_some HLt.out, List.getElem?_zipWith, HUR.out, HXt.out, e]
                  have HN := Lib.hid hnext
                  clear hnext
                  by_cases ht0 : t = 0
                  · have ht1 : ((t : Int) == 0) = true := by simp [ht0]
                    have HT0 := Lib.hid ht0
                    clear ht0
                    go_wp2_with (go_at_call 31; refine (I1.out x _).mono ?_; rintro e w2 ⟨rfl, hb2⟩; have p0 := bat hb2 (new_cell wr #[.float .f64 x.lo, .float .f64 x.hi] 43 0 _ rfl); have p1 := bat hb2 (new_cell wr #[.float .f64 x.lo, .float .f64 x.hi] 43 1 _ rfl); have ho2 := own_below (HBOX.out.alloc (.cells #[.float .f64 x.lo, .float .f64 x.hi] 43)) hb2; have k0 := ho2.cellAt 0 (by omega); have k1 := ho2.cellAt 1 (by omega); have k2 := ho2.cellAt 2 (by omega); have k3 := ho2.cellAt 3 (by omega); have f0 := ho2.frozenAt 0; have f1 := ho2.frozenAt 1; have f2 := ho2.frozenAt 2; have f3 := ho2.frozenAt 3; have p1s : ((w2.setCell ⟨wb.heap.size, 0, none⟩ (.float .f64 x.lo)).setCell ⟨wb.heap.size, 1, none⟩ (.int .i64 t)).cell? ⟨wr.heap.size, 1, none⟩ = some (.float .f64 x.hi) := (World.cell?_setCell_far _ _ _ _ hwne).trans ((World.cell?_setCell_far _ _ _ _ hwne).trans p1); have hs1 := own_setAll [.float .f64 x.lo, .int .i64 t] 0 w2 _ ho2; have k2s : ((w2.setCell ⟨wb.heap.size, 0, none⟩ (.float .f64 x.lo)).setCell ⟨wb.heap.size, 1, none⟩ (.int .i64 t)).cell? ⟨wb.heap.size, 2, none⟩ = some (.float .f64 r.most.at_) := hs1.1.cellAt 2 (by omega); have f2s : ((w2.setCell ⟨wb.heap.size, 0, none⟩ (.float .f64 x.lo)).setCell ⟨wb.heap.size, 1, none⟩ (.int .i64 t)).frozen? ⟨wb.heap.size, 2, none⟩ = false := hs1.1.frozenAt 2; have f3s : ((w2.setCell ⟨wb.heap.size, 0, none⟩ (.float .f64 x.lo)).setCell ⟨wb.heap.size, 1, none⟩ (.int .i64 t)).frozen? ⟨wb.heap.size, 3, none⟩ = false := hs1.1.frozenAt 3; clear hs1; have HO2 := Lib.hid ho2; have HB2 := Lib.hid (below_then HBt.out (below_then (below1 ..) hb2)); have hbz2 := (below_then HBt.out (below_then (below1 ..) hb2)).size; clear hb2 ho2; rw [HRX.out])
                    have HS0 := Lib.hid (World.grownBy.refl w2 (some wb.heap.size))
                    have HS1 := Lib.hid (own_setAll [.float .f64 x.lo, .int .i64 t] 0 _ _ HO2.out)
                    have HS2 := Lib.hid (own_setAll [.float .f64 x.hi, .int .i64 t] 2 _ _ HS1.out.1)
                    have HBB := Lib.hid (HB2.out.grown ((HS0.out.trans HS1.out.2).trans HS2.out.2) (by omega) (fun g hg => by injection hg with hg; omega))
                    go_roundw
                    case rel => exact ⟨t + 1, ⟨⟨x.lo, t⟩, ⟨x.hi, t⟩⟩, by omega, by go_num, HN.out _ (by simp [stepR, HT0.out, oneR]), HS2.out.1, right_till HRT.out HLt.out HXt.out HRX.out, HBB.out⟩
                    case measure => simp [intOf]; omega
                  · have ht1 : ((t : Int) == 0) = false := by simp; omega
                    have HT0 := Lib.hid ht0
                    obtain ⟨f, hf⟩ : ∃ f, flt x.lo r.least.at_ = f := ⟨_, rfl⟩
                    obtain ⟨f', hf'⟩ : ∃ f, fgt x.hi r.most.at_ = f := ⟨_, rfl⟩
                    have HF := Lib.hid hf
                    have HF' := Lib.hid hf'
                    have v1 : (FloatKind.f64.format.order x.lo r.least.at_ == some .lt) = f := hf
                    have v2 : (FloatKind.f64.format.order x.hi r.most.at_ == some .gt) = f' := hf'
                    clear hf hf'
                    cases f <;> cases f'
                    · go_wp2_with (go_at_call 31; refine (I1.out x _).mono ?_; rintro e w2 ⟨rfl, hb2⟩; have p0 := bat hb2 (new_cell wr #[.float .f64 x.lo, .float .f64 x.hi] 43 0 _ rfl); have p1 := bat hb2 (new_cell wr #[.float .f64 x.lo, .float .f64 x.hi] 43 1 _ rfl); have ho2 := own_below (HBOX.out.alloc (.cells #[.float .f64 x.lo, .float .f64 x.hi] 43)) hb2; have k0 := ho2.cellAt 0 (by omega); have k1 := ho2.cellAt 1 (by omega); have k2 := ho2.cellAt 2 (by omega); have k3 := ho2.cellAt 3 (by omega); have f0 := ho2.frozenAt 0; have f1 := ho2.frozenAt 1; have f2 := ho2.frozenAt 2; have f3 := ho2.frozenAt 3; have p1s : ((w2.setCell ⟨wb.heap.size, 0, none⟩ (.float .f64 x.lo)).setCell ⟨wb.heap.size, 1, none⟩ (.int .i64 t)).cell? ⟨wr.heap.size, 1, none⟩ = some (.float .f64 x.hi) := (World.cell?_setCell_far _ _ _ _ hwne).trans ((World.cell?_setCell_far _ _ _ _ hwne).trans p1); have hs1 := own_setAll [.float .f64 x.lo, .int .i64 t] 0 w2 _ ho2; have k2s : ((w2.setCell ⟨wb.heap.size, 0, none⟩ (.float .f64 x.lo)).setCell ⟨wb.heap.size, 1, none⟩ (.int .i64 t)).cell? ⟨wb.heap.size, 2, none⟩ = some (.float .f64 r.most.at_) := hs1.1.cellAt 2 (by omega); have f2s : ((w2.setCell ⟨wb.heap.size, 0, none⟩ (.float .f64 x.lo)).setCell ⟨wb.heap.size, 1, none⟩ (.int .i64 t)).frozen? ⟨wb.heap.size, 2, none⟩ = false := hs1.1.frozenAt 2; have f3s : ((w2.setCell ⟨wb.heap.size, 0, none⟩ (.float .f64 x.lo)).setCell ⟨wb.heap.size, 1, none⟩ (.int .i64 t)).frozen? ⟨wb.heap.size, 3, none⟩ = false := hs1.1.frozenAt 3; clear hs1; have HO2 := Lib.hid ho2; have HB2 := Lib.hid (below_then HBt.out (below_then (below1 ..) hb2)); have hbz2 := (below_then HBt.out (below_then (below1 ..) hb2)).size; clear hb2 ho2; rw [HRX.out])
                      have HS0 := Lib.hid (World.grownBy.refl w2 (some wb.heap.size))
                      have HBB := Lib.hid (HB2.out.grown HS0.out (by omega) (fun g hg => by injection hg with hg; omega))
                      go_roundw
                      case rel => exact ⟨t + 1, ⟨r.least, r.most⟩, by omega, by go_num, HN.out _ (by simp [stepR, HT0.out, oneR, bothR, HF.out, HF'.out]), HO2.out, right_till HRT.out HLt.out HXt.out HRX.out, HBB.out⟩
                      case measure => simp [intOf]; omega
                    · go_wp2_with (go_at_call 31; refine (I1.out x _).mono ?_; rintro e w2 ⟨rfl, hb2⟩; have p0 := bat hb2 (new_cell wr #[.float .f64 x.lo, .float .f64 x.hi] 43 0 _ rfl); have p1 := bat hb2 (new_cell wr #[.float .f64 x.lo, .float .f64 x.hi] 43 1 _ rfl); have ho2 := own_below (HBOX.out.alloc (.cells #[.float .f64 x.lo, .float .f64 x.hi] 43)) hb2; have k0 := ho2.cellAt 0 (by omega); have k1 := ho2.cellAt 1 (by omega); have k2 := ho2.cellAt 2 (by omega); have k3 := ho2.cellAt 3 (by omega); have f0 := ho2.frozenAt 0; have f1 := ho2.frozenAt 1; have f2 := ho2.frozenAt 2; have f3 := ho2.frozenAt 3; have p1s : ((w2.setCell ⟨wb.heap.size, 0, none⟩ (.float .f64 x.lo)).setCell ⟨wb.heap.size, 1, none⟩ (.int .i64 t)).cell? ⟨wr.heap.size, 1, none⟩ = some (.float .f64 x.hi) := (World.cell?_setCell_far _ _ _ _ hwne).trans ((World.cell?_setCell_far _ _ _ _ hwne).trans p1); have hs1 := own_setAll [.float .f64 x.lo, .int .i64 t] 0 w2 _ ho2; have k2s : ((w2.setCell ⟨wb.heap.size, 0, none⟩ (.float .f64 x.lo)).setCell ⟨wb.heap.size, 1, none⟩ (.int .i64 t)).cell? ⟨wb.heap.size, 2, none⟩ = some (.float .f64 r.most.at_) := hs1.1.cellAt 2 (by omega); have f2s : ((w2.setCell ⟨wb.heap.size, 0, none⟩ (.float .f64 x.lo)).setCell ⟨wb.heap.size, 1, none⟩ (.int .i64 t)).frozen? ⟨wb.heap.size, 2, none⟩ = false := hs1.1.frozenAt 2; have f3s : ((w2.setCell ⟨wb.heap.size, 0, none⟩ (.float .f64 x.lo)).setCell ⟨wb.heap.size, 1, none⟩ (.int .i64 t)).frozen? ⟨wb.heap.size, 3, none⟩ = false := hs1.1.frozenAt 3; clear hs1; have HO2 := Lib.hid ho2; have HB2 := Lib.hid (below_then HBt.out (below_then (below1 ..) hb2)); have hbz2 := (below_then HBt.out (below_then (below1 ..) hb2)).size; clear hb2 ho2; rw [HRX.out])
                      have HS0 := Lib.hid (World.grownBy.refl w2 (some wb.heap.size))
                      have HS1 := Lib.hid (own_setAll [.float .f64 x.hi, .int .i64 t] 2 _ _ HO2.out)
                      have HBB := Lib.hid (HB2.out.grown (HS0.out.trans HS1.out.2) (by omega) (fun g hg => by injection hg with hg; omega))
                      go_roundw
                      case rel => exact ⟨t + 1, ⟨r.least, ⟨x.hi, t⟩⟩, by omega, by go_num, HN.out _ (by simp [stepR, HT0.out, oneR, bothR, HF.out, HF'.out]), HS1.out.1, right_till HRT.out HLt.out HXt.out HRX.out, HBB.out⟩
                      case measure => simp [intOf]; omega
                    · go_wp2_with (go_at_call 31; refine (I1.out x _).mono ?_; rintro e w2 ⟨rfl, hb2⟩; have p0 := bat hb2 (new_cell wr #[.float .f64 x.lo, .float .f64 x.hi] 43 0 _ rfl); have p1 := bat hb2 (new_cell wr #[.float .f64 x.lo, .float .f64 x.hi] 43 1 _ rfl); have ho2 := own_below (HBOX.out.alloc (.cells #[.float .f64 x.lo, .float .f64 x.hi] 43)) hb2; have k0 := ho2.cellAt 0 (by omega); have k1 := ho2.cellAt 1 (by omega); have k2 := ho2.cellAt 2 (by omega); have k3 := ho2.cellAt 3 (by omega); have f0 := ho2.frozenAt 0; have f1 := ho2.frozenAt 1; have f2 := ho2.frozenAt 2; have f3 := ho2.frozenAt 3; have p1s : ((w2.setCell ⟨wb.heap.size, 0, none⟩ (.float .f64 x.lo)).setCell ⟨wb.heap.size, 1, none⟩ (.int .i64 t)).cell? ⟨wr.heap.size, 1, none⟩ = some (.float .f64 x.hi) := (World.cell?_setCell_far _ _ _ _ hwne).trans ((World.cell?_setCell_far _ _ _ _ hwne).trans p1); have hs1 := own_setAll [.float .f64 x.lo, .int .i64 t] 0 w2 _ ho2; have k2s : ((w2.setCell ⟨wb.heap.size, 0, none⟩ (.float .f64 x.lo)).setCell ⟨wb.heap.size, 1, none⟩ (.int .i64 t)).cell? ⟨wb.heap.size, 2, none⟩ = some (.float .f64 r.most.at_) := hs1.1.cellAt 2 (by omega); have f2s : ((w2.setCell ⟨wb.heap.size, 0, none⟩ (.float .f64 x.lo)).setCell ⟨wb.heap.size, 1, none⟩ (.int .i64 t)).frozen? ⟨wb.heap.size, 2, none⟩ = false := hs1.1.frozenAt 2; have f3s : ((w2.setCell ⟨wb.heap.size, 0, none⟩ (.float .f64 x.lo)).setCell ⟨wb.heap.size, 1, none⟩ (.int .i64 t)).frozen? ⟨wb.heap.size, 3, none⟩ = false := hs1.1.frozenAt 3; clear hs1; have HO2 := Lib.hid ho2; have HB2 := Lib.hid (below_then HBt.out (below_then (below1 ..) hb2)); have hbz2 := (below_then HBt.out (below_then (below1 ..) hb2)).size; clear hb2 ho2; rw [HRX.out])
                      have HS0 := Lib.hid (World.grownBy.refl w2 (some wb.heap.size))
                      have HS1 := Lib.hid (own_setAll [.float .f64 x.lo, .int .i64 t] 0 _ _ HO2.out)
                      have HBB := Lib.hid (HB2.out.grown (HS0.out.trans HS1.out.2) (by omega) (fun g hg => by injection hg with hg; omega))
                      go_roundw
                      case rel => exact ⟨t + 1, ⟨⟨x.lo, t⟩, r.most⟩, by omega, by go_num, HN.out _ (by simp [stepR, HT0.out, oneR, bothR, HF.out, HF'.out]), HS1.out.1, right_till HRT.out HLt.out HXt.out HRX.out, HBB.out⟩
                      case measure => simp [intOf]; omega
                    · go_wp2_with (go_at_call 31; refine (I1.out x _).mono ?_; rintro e w2 ⟨rfl, hb2⟩; have p0 := bat hb2 (new_cell wr #[.float .f64 x.lo, .float .f64 x.hi] 43 0 _ rfl); have p1 := bat hb2 (new_cell wr #[.float .f64 x.lo, .float .f64 x.hi] 43 1 _ rfl); have ho2 := own_below (HBOX.out.alloc (.cells #[.float .f64 x.lo, .float .f64 x.hi] 43)) hb2; have k0 := ho2.cellAt 0 (by omega); have k1 := ho2.cellAt 1 (by omega); have k2 := ho2.cellAt 2 (by omega); have k3 := ho2.cellAt 3 (by omega); have f0 := ho2.frozenAt 0; have f1 := ho2.frozenAt 1; have f2 := ho2.frozenAt 2; have f3 := ho2.frozenAt 3; have p1s : ((w2.setCell ⟨wb.heap.size, 0, none⟩ (.float .f64 x.lo)).setCell ⟨wb.heap.size, 1, none⟩ (.int .i64 t)).cell? ⟨wr.heap.size, 1, none⟩ = some (.float .f64 x.hi) := (World.cell?_setCell_far _ _ _ _ hwne).trans ((World.cell?_setCell_far _ _ _ _ hwne).trans p1); have hs1 := own_setAll [.float .f64 x.lo, .int .i64 t] 0 w2 _ ho2; have k2s : ((w2.setCell ⟨wb.heap.size, 0, none⟩ (.float .f64 x.lo)).setCell ⟨wb.heap.size, 1, none⟩ (.int .i64 t)).cell? ⟨wb.heap.size, 2, none⟩ = some (.float .f64 r.most.at_) := hs1.1.cellAt 2 (by omega); have f2s : ((w2.setCell ⟨wb.heap.size, 0, none⟩ (.float .f64 x.lo)).setCell ⟨wb.heap.size, 1, none⟩ (.int .i64 t)).frozen? ⟨wb.heap.size, 2, none⟩ = false := hs1.1.frozenAt 2; have f3s : ((w2.setCell ⟨wb.heap.size, 0, none⟩ (.float .f64 x.lo)).setCell ⟨wb.heap.size, 1, none⟩ (.int .i64 t)).frozen? ⟨wb.heap.size, 3, none⟩ = false := hs1.1.frozenAt 3; clear hs1; have HO2 := Lib.hid ho2; have HB2 := Lib.hid (below_then HBt.out (below_then (below1 ..) hb2)); have hbz2 := (below_then HBt.out (below_then (below1 ..) hb2)).size; clear hb2 ho2; rw [HRX.out])
                      have HS0 := Lib.hid (World.grownBy.refl w2 (some wb.heap.size))
                      have HS1 := Lib.hid (own_setAll [.float .f64 x.lo, .int .i64 t] 0 _ _ HO2.out)
                      have HS2 := Lib.hid (own_setAll [.float .f64 x.hi, .int .i64 t] 2 _ _ HS1.out.1)
                      have HBB := Lib.hid (HB2.out.grown ((HS0.out.trans HS1.out.2).trans HS2.out.2) (by omega) (fun g hg => by injection hg with hg; omega))
                      go_roundw
                      case rel => exact ⟨t + 1, ⟨⟨x.lo, t⟩, ⟨x.hi, t⟩⟩, by omega, by go_num, HN.out _ (by simp [stepR, HT0.out, oneR, bothR, HF.out, HF'.out]), HS2.out.1, right_till HRT.out HLt.out HXt.out HRX.out, HBB.out⟩
                      case measure => simp [intOf]; omega
              · obtain rfl : n = t := by omega
                have ox := hbox
                have c0' := ox.cellAt 0 (by omega)
                have c1' := ox.cellAt 1 (by omega)
                have c2' := ox.cellAt 2 (by omega)
                have c3' := ox.cellAt 3 (by omega)
                have hrr : res = r := by
                  have h := HRES.out
                  rw [HUR.out] at h
                  injection h with h
                  exact h.symm
                subst hrr
                obtain ⟨A3, c3, rfl, hc3, _⟩ := own_slice HO.out
                have hxz := hb.size
                have HO1 := Lib.hid ((own_below HO.out hb).alloc (.cells res.cells.toArray 47))
                clear ox hbox hb
                go_wp2_with (at_builtin; go_must (refine wpList_append_rd _ rfl _ _ _ rfl w.heap.size 47 i0 _ 4 32 Try.underlying24 hi0 hz0 hz1 hz2 rfl (by omega) _ k _ rfl HO1.out (fun _ => True) (some ⟨wr.heap.size, 0, none⟩) 1 1 res.cells rfl (rd_blk (blk_new ..) rfl trivial) (by simpa using rng_one [res]) (by simp only [maxLen]; omega) (by omega) (by simp; omega) ?_); intro v5 w5 hown5 hg5 hat5)
                have hown6 := hown5
                rw [show (res.cells : List Value) = Rng.cells res from rfl, res_step6 (f := Rng.cells) HRES.out] at hown6
                have HO6 := Lib.hid hown6
                have HB6 := Lib.hid (HBk.out.trans ((below_then HBt.out (below1 ..)).mono hbz |>.trans (Below.grown (Below.refl w.heap.size _) hg5 (by simp; omega) (fun g hg => (HO1.out.lt g hg).1))))
                clear hown5 hown6 hg5 hat5
                go_roundw
                case rel => exact ⟨k + 1, by omega, by go_num, HO6.out, fun c hc => by
                  by_cases e : c < k
                  · exact HRC.out c e
                  · have e2 : c = k := by omega
                    subst e2
                    rw [HX.out.num]
                    exact HRT.out, HB6.out⟩
                case measure => simp [intOf]; omega
          · obtain rfl : l0.length = k := by omega
            have ho := HO.out
            rw [List.take_of_length_le (by rw [HUL.out]; exact Nat.le_refl _)] at ho
            have HO2 := Lib.hid ho
            clear ho
            go_wp2_with fail
            go_ret2
            exact refOf_end HX.out.num HE.out HL0.out rfl HRC.out HO2.out HBk.out

end Go.Proofs.Ytmeljjijofkllaa
