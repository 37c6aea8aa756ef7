import Derived.Test.YtmeljjijofkllaaE4
namespace Go.Proofs.Ytmeljjijofkllaa
open Go.RowKit Go.Sort

def okB (L : List (List Spn)) : Bool := evenB L && rightsB L
theorem ok_uneven {L : List (List Spn)} {k : Nat} {l l0 : List Spn} (hl : L[k]? = some l) (h0 : L[0]? = some l0) (e : ¬ l.length = l0.length) : okB L = false := by
  have hev : evenB L = false := by
    unfold evenB
    rw [List.all_eq_false]
    exact ⟨l, List.mem_of_getElem? hl, by rw [getD_some h0]; simpa using e⟩
  simp [okB, hev]
theorem ok_wrong {L : List (List Spn)} {i j : Nat} {l : List Spn} {x : Spn} (hl : L[i]? = some l) (hx : l[j]? = some x) (hr : rightB x = false) : okB L = false := by
  have hrt : rightsB L = false := by
    unfold rightsB
    rw [List.all_eq_false]
    refine ⟨l, List.mem_of_getElem? hl, ?_⟩
    rw [Bool.not_eq_true, List.all_eq_false]
    exact ⟨x, List.mem_of_getElem? hx, by simp [hr]⟩
  simp [okB, hrt]
theorem ok_true {L : List (List Spn)} {n : Nat} (hn : L.length = n) (he : EvenTo L n) (hr : RightTo L n) : okB L = true := by
  have hrt : rightsB L = true := by
    unfold rightsB
    rw [List.all_eq_true]
    intro l hl
    obtain ⟨t, ht⟩ := List.getElem?_of_mem hl
    exact hr t l (by have := (List.getElem?_eq_some_iff.1 ht).1; omega) ht
  simp [okB, hrt, even_true he hn]

theorem rights_any (A : Option Addr) (n c : Nat) (L : List (List Spn)) (S : Nat → Prop) (w : World) (hx : RdRows Spn.cells 2 w S A n L) (hS : ∀ b, S b → b < w.heap.size) (hn : n ≤ 1000000000) (hL : ∀ (i : Nat) (l : List Spn), L[i]? = some l → l.length ≤ 8796093021952) :
    Calls Try.prog 10 #[.slice A n c] w fun e w' => e = .returned (.bool (okB L)) ∧ Below w.heap.size w w' := by
  have HX := Lib.hid hx
  have HS := Lib.hid hS
  have HLL := Lib.hid hL
  clear hx hS hL
  go_enter Try.func10, Try.ntmps10
  go_wp2
  go_loopw [3] (fun i wr => ∃ k : Nat, k ≤ n ∧ i = .int .i64 k ∧ Below w.heap.size w wr ∧ EvenTo L k ∧ RightTo L k) (fun i _ => n - (intOf i).toNat)
  case atStart => exact ⟨0, Nat.zero_le _, rfl, Below.refl _ _, fun i l h => absurd h (Nat.not_lt_zero _), fun i l h => absurd h (Nat.not_lt_zero _)⟩
  case round =>
    obtain ⟨i, hi, rfl, hb, hev, hrt⟩ := hrel
    have HB := Lib.hid hb
    have HE := Lib.hid hev
    have HRT := Lib.hid hrt
    clear hb hev hrt
    by_cases hlt : i < n
    · obtain ⟨l0, hl0⟩ := get_some HX.out.num (show 0 < n by omega)
      obtain ⟨l, hl⟩ := get_some HX.out.num hlt
      obtain ⟨b0, o0, A0, c0, rfl, hSb0, hcell0, hlc0, hr0⟩ := HX.out.row hl0
      obtain ⟨b, o, A1, c1, e1, hSb, hcell, hlc, hr⟩ := HX.out.row hl
      simp only [Option.some.injEq, Addr.mk.injEq, and_true] at e1
      obtain ⟨rfl, rfl⟩ := e1
      rw [Nat.add_zero, ← HB.out.cell (p := ⟨b0, o0, none⟩) (HS.out _ hSb0)] at hcell0
      rw [← HB.out.cell (p := ⟨b0, o0 + i, none⟩) (HS.out _ hSb)] at hcell
      have hll1 := HLL.out 0 l0 hl0
      have hll2 := HLL.out i l hl
      have HL0 := Lib.hid hl0
      have HL := Lib.hid hl
      have HR := Lib.hid hr
      clear hl0 hl hr hr0
      by_cases hll : l.length = l0.length
      · have hb1 : ((l.length : Int) != l0.length) = false := by simp [hll]
        have HLE := Lib.hid hll
        clear hll
        have hci : i < n := hlt
        go_wp2_with fail
        go_quiet (fail)
        go_wp2
        obtain ⟨wo, rfl⟩ : ∃ wo : World, wo = wr := ⟨_, rfl⟩
        go_loopw [4] (fun j wr => ∃ k : Nat, k ≤ l.length ∧ j = .int .i64 k ∧ Below wo.heap.size wo wr ∧ RightCol l k) (fun j _ => l.length - (intOf j).toNat)
        case atStart => exact ⟨0, Nat.zero_le _, rfl, below_drewN (Below.refl _ _) _, fun i l h => absurd h (Nat.not_lt_zero _)⟩
        case round =>
          obtain ⟨j, hj, rfl, hbj, hrc⟩ := hrel
          have HJ := Lib.hid hbj
          have HRC := Lib.hid hrc
          clear hbj hrc
          have hcell := bat HJ.out hcell
          by_cases hlj : j < l.length
          · obtain ⟨x, ex⟩ := get_some (n := l.length) rfl hlj
            obtain ⟨b1, o1, rfl, hSb1, hc⟩ := HR.out.elem Spn.clen ex (by omega)
            have hbb := HB.out.trans (HJ.out.mono HB.out.size)
            have hcx : wr.cell? ⟨b1, o1 + j * 2, none⟩ = some (.float .f64 x.lo) := (hbb.cell (p := ⟨b1, _, none⟩) (HS.out _ hSb1)).trans (hc 0 _ rfl)
            have hcy : wr.cell? ⟨b1, o1 + j * 2 + 1, none⟩ = some (.float .f64 x.hi) := (hbb.cell (p := ⟨b1, _, none⟩) (HS.out _ hSb1)).trans (hc 1 _ rfl)
            have EX := Lib.hid ex
            have HBB := Lib.hid hbb
            clear hc ex hbb hcell0
            cases hrx : rightB x
            · have HRX := Lib.hid hrx
              clear hrx
              go_wp2_with (go_at_call 23; refine (right_any x _).mono ?_; rintro e w2 ⟨rfl, hb2⟩; have HB2 := Lib.hid hb2; clear hb2; rw [HRX.out])
              go_ret
              exact ⟨by rw [ok_wrong HL.out EX.out HRX.out]; rfl, HBB.out.trans (HB2.out.mono HBB.out.size)⟩
            · have HRX := Lib.hid hrx
              clear hrx
              go_wp2_with (go_at_call 23; refine (right_any x _).mono ?_; rintro e w2 ⟨rfl, hb2⟩; have HB2 := Lib.hid hb2; clear hb2; rw [HRX.out])
              refine ⟨⟨j + 1, by omega, by go_num, below_then HJ.out HB2.out, right_succ HRC.out EX.out HRX.out⟩, by simp [intOf]; omega⟩
          · have hjj : j = l.length := by omega
            clear hj hlj
            subst hjj
            clear hcell0
            go_wp2
            refine ⟨⟨i + 1, by omega, by go_num, HB.out.trans (HJ.out.mono HB.out.size), even_succ HE.out HL.out HL0.out HLE.out, right_row HRT.out HL.out HRC.out⟩, by simp [intOf]; omega⟩
      · have hb1 : ((l.length : Int) != l0.length) = true := by simp; omega
        have hneq := Lib.hid hll
        clear hll
        go_wp2_with fail
        go_quiet (fail)
        go_wp2
        go_ret
        exact ⟨by rw [ok_uneven HL.out HL0.out hneq.out]; rfl, below_drewN HB.out _⟩
    · obtain rfl : n = i := by omega
      go_wp2
      go_ret
      exact ⟨by rw [ok_true HX.out.num HE.out HRT.out]; rfl, HB.out⟩

def sameR (p : Rng × Rng) : Bool := (sameF p.1.least.at_ p.2.least.at_ && (p.1.least.of_ == p.2.least.of_)) && (sameF p.1.most.at_ p.2.most.at_ && (p.1.most.of_ == p.2.most.of_))
def sameRs (xs ys : List Rng) : Bool := decide (xs.length = ys.length) && (xs.zip ys).all sameR
def AllTo {α : Type} (p : α → Bool) (l : List α) (k : Nat) : Prop := (l.take k).all p = true
theorem all_succ {α β : Type} {p : α × β → Bool} {xs : List α} {ys : List β} {k : Nat} {x : α} {y : β} (h : AllTo p (xs.zip ys) k) (ex : xs[k]? = some x) (ey : ys[k]? = some y) (e : p (x, y) = true) : AllTo p (xs.zip ys) (k + 1) := by
  unfold AllTo at *
  have hz : (xs.zip ys)[k]? = some (x, y) := by rw [List.getElem?_zip_eq_some]; exact ⟨ex, ey⟩
  obtain ⟨hl, hz'⟩ := List.getElem?_eq_some_iff.1 hz
  rw [List.take_succ_eq_append_getElem hl, List.all_append, h, hz']
  simp [e]
theorem all_no {α β : Type} {p : α × β → Bool} {xs : List α} {ys : List β} {k : Nat} {x : α} {y : β} (ex : xs[k]? = some x) (ey : ys[k]? = some y) (e : p (x, y) = false) : (decide (xs.length = ys.length) && (xs.zip ys).all p) = false := by
  have hz : (xs.zip ys)[k]? = some (x, y) := by rw [List.getElem?_zip_eq_some]; exact ⟨ex, ey⟩
  rw [Bool.and_eq_false_iff]
  right
  rw [List.all_eq_false]
  exact ⟨_, List.mem_of_getElem? hz, by simp [e]⟩
theorem all_yes {α β : Type} {p : α × β → Bool} {xs : List α} {ys : List β} {n : Nat} (h : AllTo p (xs.zip ys) n) (hx : xs.length = n) (hy : ys.length = n) : (decide (xs.length = ys.length) && (xs.zip ys).all p) = true := by
  unfold AllTo at h
  rw [List.take_of_length_le (by simp; omega)] at h
  simp [h, hx, hy]

theorem sameRngs_any (A A' : Option Addr) (n n' c c' : Nat) (xs ys : List Rng) (S S' : Nat → Prop) (w : World) (hx : RdE Rng.cells 4 w S A n xs) (hy : RdE Rng.cells 4 w S' A' n' ys) (hS : ∀ b, S b → b < w.heap.size) (hS' : ∀ b, S' b → b < w.heap.size) (hn : n ≤ 1000000000000000) (hn' : n' ≤ 1000000000000000) :
    Calls Try.prog 16 #[.slice A n c, .slice A' n' c'] w fun e w' => e = .returned (.bool (sameRs xs ys)) ∧ Below w.heap.size w w' := by
  have HX := Lib.hid hx
  have HY := Lib.hid hy
  have i1 := sameRng_any
  have I1 := Lib.hid i1
  clear i1
  clear hx hy
  by_cases hne : n = n'
  · subst hne
    go_enter Try.func16, Try.ntmps16
    go_wp2
    go_loopw [5] (fun i wr => ∃ k : Nat, k ≤ n ∧ i = .int .i64 k ∧ Below w.heap.size w wr ∧ AllTo sameR (xs.zip ys) k) (fun i _ => n - (intOf i).toNat)
    case atStart => exact ⟨0, Nat.zero_le _, rfl, Below.refl _ _, by simp [AllTo]⟩
    case round =>
      obtain ⟨k, hk, rfl, hb, hs⟩ := hrel
      by_cases hlt : k < n
      · obtain ⟨x, ex⟩ := get_some HX.out.num hlt
        obtain ⟨y, ey⟩ := get_some HY.out.num hlt
        obtain ⟨b1, o1, rfl, hb1, hc⟩ := HX.out.elem Rng.clen ex (by omega)
        obtain ⟨b2, o2, rfl, hb2, hd⟩ := HY.out.elem Rng.clen ey (by omega)
        have k0 := cell_regrown (bat hb (hc 0 _ rfl))
        have k1 := cell_regrown (bat hb (hc 1 _ rfl))
        have k2 := cell_regrown (bat hb (hc 2 _ rfl))
        have k3 := cell_regrown (bat hb (hc 3 _ rfl))
        have l0 := cell_regrown (bat hb (hd 0 _ rfl))
        have l1 := cell_regrown (bat hb (hd 1 _ rfl))
        have l2 := cell_regrown (bat hb (hd 2 _ rfl))
        have l3 := cell_regrown (bat hb (hd 3 _ rfl))
        rw [Nat.add_zero] at k0 l0
        have EX := Lib.hid ex
        have EY := Lib.hid ey
        have cQ : ∀ d os, Calls Try.prog 32 #[x.val, y.val] (grow (redrawn wr d) os) fun e w'' => e = .returned (.bool (sameR (x, y))) ∧ ∃ p : Regrown, w'' = grow (redrawn wr p.d) p.os := fun d os => Calls.regrown_of (I1.out _ _ _)
        have HS := Lib.hid hs
        have HB := Lib.hid hb
        clear hs hb hc hd ex ey
        have hsx : sameR (x, y) = true ∨ sameR (x, y) = false := by cases sameR (x, y) <;> simp
        rcases hsx with hsx | hsx
        all_goals
          have HSX := Lib.hid hsx
          rw [hsx] at cQ
          clear hsx
          go_wp2_with fail
          refine wp_region_quiet_below (by kernel_rfl) (by kernel_rfl) ?_
          repeat (quiet_step (exact cQ _ _))
          refine wpQuiet_nil ?_
          intro wq hwq
          have hbq := below_class hwq
          clear hwq
          have HQ := Lib.hid hbq
          clear hbq
          go_wp2
        · go_roundw
          case rel => exact ⟨k + 1, by omega, by go_num, HB.out.trans (HQ.out.mono HB.out.size), all_succ HS.out EX.out EY.out HSX.out⟩
          case measure => simp [intOf]; omega
        · go_ret
          exact ⟨by rw [sameRs, all_no EX.out EY.out HSX.out]; rfl, below_then HB.out HQ.out⟩
      · obtain rfl : n = k := by omega
        have HS := Lib.hid hs
        have HB := Lib.hid hb
        clear hs hb
        go_wp2
        go_ret
        exact ⟨by rw [sameRs, all_yes HS.out HX.out.num HY.out.num]; rfl, HB.out⟩
  · have h1 : ((n : Int) != n') = true := by simp; omega
    clear hne
    go_enter Try.func16, Try.ntmps16
    go_wp2
    go_ret
    refine ⟨?_, Below.refl _ _⟩
    have h2 : xs.length ≠ ys.length := by rw [HX.out.num, HY.out.num]; intro e; simp [e] at h1
    simp [sameRs, h2]

end Go.Proofs.Ytmeljjijofkllaa
