import Derived.Test.YtmeljjijofkllaaK3
/- rows of spans: kept? written over -/
namespace Go.Proofs.Ytmeljjijofkllaa
open Go.RowKit Go.Sort

theorem sameList_self (A B : Option Addr) (n c d : Nat) (xs : List Spn) (S S' : Nat → Prop) (w : World) (hx : RdE Spn.cells 2 w S A n xs) (hy : RdE Spn.cells 2 w S' B n xs) (hn : n ≤ 1000000000000) :
    Calls Try.prog 29 #[.slice A n c, .slice B n d] w fun e w' => e = .returned (.bool true) ∧ Below w.heap.size w w' := by
  have HX := Lib.hid hx
  have HY := Lib.hid hy
  have i1 := sameSpan_self
  have I1 := Lib.hid i1
  clear i1 hx hy
  go_enter Try.func29, Try.ntmps29
  go_wp2_with fail
  go_loopw [5] (fun i wr => ∃ k : Nat, k ≤ n ∧ i = .int .i64 k ∧ Below w.heap.size w wr) (fun i _ => n - (intOf i).toNat)
  case atStart => exact ⟨0, Nat.zero_le _, rfl, Below.refl _ _⟩
  case round =>
    obtain ⟨k, hk, rfl, hb⟩ := hrel
    by_cases hlt : k < n
    · obtain ⟨x, ex⟩ := get_some HX.out.num hlt
      obtain ⟨b1, o1, rfl, hb1, hc⟩ := HX.out.elem Spn.clen ex (by omega)
      obtain ⟨b2, o2, rfl, hb2, hd⟩ := HY.out.elem Spn.clen ex (by omega)
      have k0 := cell_regrown (bat hb (hc 0 _ rfl))
      have k1 := cell_regrown (bat hb (hc 1 _ rfl))
      have l0 := cell_regrown (bat hb (hd 0 _ rfl))
      have l1 := cell_regrown (bat hb (hd 1 _ rfl))
      rw [Nat.add_zero] at k0 l0
      have cQ : ∀ d os, Calls Try.prog 37 #[x.val, x.val] (grow (redrawn wr d) os) fun e w'' => e = .returned (.bool true) ∧ ∃ p : Regrown, w'' = grow (redrawn wr p.d) p.os := fun d os => Calls.regrown_of (I1.out x _)
      have HB := Lib.hid hb
      clear hb hc hd ex
      go_wp2_with fail
      refine wp_region_quiet_below (by kernel_rfl) (by kernel_rfl) ?_
      repeat (first | go_big_quiet_step (exact cQ _ _) | quiet_step (exact cQ _ _))
      refine wpQuiet_nil ?_
      intro wq hwq
      have hbq := below_class hwq
      clear hwq
      have HQ := Lib.hid hbq
      clear hbq
      go_wp2_with fail
      go_roundw
      case rel => exact ⟨k + 1, by omega, by go_num, HB.out.trans (HQ.out.mono HB.out.size)⟩
      case measure => simp [intOf]; omega
    · have HB := Lib.hid hb
      clear hb
      go_wp2_with fail
      go_ret
      exact ⟨rfl, HB.out⟩

/-- what an entry of lent rows reads as -/
theorem EntAt.rd {w : World} {B : Nat} {v : Value} {vs : List Value} {i : Nat} {e : Ent} {g : Nat} (h : EntAt w B v vs i e g) (hf : e.full.take e.xs.length = e.xs) (hl : e.xs.length ≤ e.full.length) :
    ∃ d, vs[i]? = some (.slice (some ⟨g, 0, none⟩) e.xs.length d) ∧ e.full.length ≤ d ∧ RdE Spn.cells 2 w (fun b => b = g) (some ⟨g, 0, none⟩) e.full.length e.full ∧ RdE Spn.cells 2 w (fun b => b = g) (some ⟨g, 0, none⟩) e.xs.length e.xs := by
  obtain ⟨d, h1, h2, h3⟩ := h.has
  have q1 : RdE Spn.cells 2 w (fun b => b = g) (some ⟨g, 0, none⟩) e.full.length e.full := (RdE.of_own Spn.clen (by omega) h3).imp (fun b hb => by have := hb.2.2; simp [Value.ownBlock] at this; exact this.symm)
  have q2 := q1.take Spn.clen hl
  rw [hf] at q2
  exact ⟨d, h1, h2, q1, q2⟩

theorem lent_get {L : List (List Spn)} {n k : Nat} (hn : L.length = n) : (k < n → ∀ l, L[k]? = some l → (L.map rowEnt ++ marksE)[k]? = some (rowEnt l)) ∧ (n ≤ k → k < n + 12 → (L.map rowEnt ++ marksE)[k]? = some (markEnt (k - n))) := by
  constructor
  · intro h l hl
    rw [List.getElem?_append_left (by simpa [hn] using h), List.getElem?_map, hl]
    rfl
  · intro h1 h2
    rw [List.getElem?_append_right (by simpa [hn] using h1), List.length_map, hn]
    unfold marksE
    rw [List.getElem?_map, List.getElem?_range (by omega)]
    rfl

set_option maxHeartbeats 2000000 in
theorem keptRows_any (A : Option Addr) (B0 g n c d : Nat) (L : List (List Spn)) (S : Nat → Prop) (w : World) (hx : RdRows Spn.cells 2 w S A n L) (hS : ∀ b, S b → b < w.heap.size)
    (hy : LentSt w B0 (.slice (some ⟨g, 0, none⟩) (n + 12) d) (L.map rowEnt ++ marksE)) (hd : n + 12 ≤ d) (hn : n ≤ 1000000000) (hL : ∀ (i : Nat) (l : List Spn), L[i]? = some l → l.length ≤ 1000000000000) :
    Calls Try.prog 13 #[.slice (some ⟨g, 0, none⟩) n d, .slice A n c] w fun e w' => e = .returned (.bool true) ∧ Below w.heap.size w w' := by
  obtain ⟨vs, gs, hown, hgl, hat, hmono⟩ := hy.st
  have hel : (L.map rowEnt ++ marksE).length = n + 12 := by rw [List.length_append, List.length_map, hx.num, marksE_len]
  rw [hel] at hown hgl
  have HX := Lib.hid hx
  have HS := Lib.hid hS
  have HL := Lib.hid hL
  have HO := Lib.hid hown
  have HAT := Lib.hid hat
  have HGL := Lib.hid hgl
  have i1 := keptSpns_any
  have I1 := Lib.hid i1
  have i2 := markSpan_any
  have I2 := Lib.hid i2
  have i3 := sameList_self
  have I3 := Lib.hid i3
  clear i1 i2 i3 hx hS hL hown hat hgl hmono hy hel
  go_enter Try.func13, Try.ntmps13
  go_wp2_with fail
  go_loopw [6] (fun i wr => ∃ k : Nat, k ≤ n + 12 ∧ i = .int .i64 k ∧ Below w.heap.size w wr) (fun i _ => n + 12 - (intOf i).toNat)
  case atStart => exact ⟨0, Nat.zero_le _, rfl, Below.refl _ _⟩
  case round =>
    obtain ⟨k, hk, rfl, hb⟩ := hrel
    by_cases hlt : k < n + 12
    · obtain ⟨g1, hg1⟩ := get_some HGL.out hlt
      by_cases hkn : k < n
      · have hkn2 : ¬ n ≤ k := by omega
        obtain ⟨l, hl⟩ := get_some HX.out.num hkn
        obtain ⟨b, o, A1, c1, rfl, hSb, hcell, hlc, hr⟩ := HX.out.row hl
        have ea := HAT.out k _ g1 ((lent_get HX.out.num).1 hkn l hl) hg1
        obtain ⟨d1, e1, e2, e3, e4⟩ := ea.rd (by simp [rowEnt]) (by simp [rowEnt])
        have hv : w.cell? ⟨g, k, none⟩ = some (.slice (some ⟨g1, 0, none⟩) l.length d1) := by rw [HO.out.cellAt _ (by omega)]; exact e1
        have hln := HL.out k l hl
        have e3' : RdE Spn.cells 2 w (fun b => b = g1) (some ⟨g1, 0, none⟩) (l.length + 12) (l ++ marksS 1) := by simpa [rowEnt, marksS_len] using e3
        have e2' : l.length + 12 ≤ d1 := by simpa [rowEnt, marksS_len] using e2
        have k0 := cell_regrown (bat hb hv)
        have k1 := cell_regrown (bat hb hcell)
        have cQ : ∀ dd os, Calls Try.prog 28 #[.slice (some ⟨g1, 0, none⟩) l.length d1, .slice A1 l.length c1] (grow (redrawn wr dd) os) fun e w'' => e = .returned (.bool true) ∧ ∃ p : Regrown, w'' = grow (redrawn wr p.d) p.os := fun dd os =>
          Calls.regrown_of (I1.out A1 g1 0 l.length c1 d1 l S _ _ (hr.keep ((Keeps.below hb HS.out).trans (Keeps.below (below_class ⟨⟨dd, os⟩, rfl⟩) (fun b hb' => Nat.lt_of_lt_of_le (HS.out b hb') hb.size)))) (e3'.keep ((Keeps.below hb (fun b hb' => by rw [hb']; exact ea.lt)).trans (Keeps.below (below_class ⟨⟨dd, os⟩, rfl⟩) (fun b hb' => by rw [hb']; exact Nat.lt_of_lt_of_le ea.lt hb.size)))) e2' hln)
        have HB := Lib.hid hb
        clear hb ea e1 e2 e3 e4 e2' e3' hr hcell hv hl hg1
        go_wp2_with fail
        refine wp_region_quiet_below (by kernel_rfl) (by kernel_rfl) ?_
        repeat (first | go_big_quiet_step (exact cQ _ _) | quiet_step (exact cQ _ _))
        refine wpQuiet_nil ?_
        intro wq hwq
        have hbq := below_class hwq
        clear hwq
        have HQ := Lib.hid hbq
        clear hbq
        go_wp2_with fail
        go_roundw
        case rel => exact ⟨k + 1, by omega, by go_num, HB.out.trans (HQ.out.mono HB.out.size)⟩
        case measure => simp [intOf]; omega
      · have hkn2 : n ≤ k := by omega
        have ea := HAT.out k _ g1 ((lent_get HX.out.num).2 hkn2 hlt) hg1
        obtain ⟨d1, e1, e2, e3, e4⟩ := ea.rd (by simp [markEnt]) (by simp [markEnt])
        have hv : w.cell? ⟨g, k, none⟩ = some (.slice (some ⟨g1, 0, none⟩) 1 d1) := by rw [HO.out.cellAt _ (by omega)]; exact e1
        have k0 := bat hb hv
        have hgl : g < wr.heap.size := Nat.lt_of_lt_of_le (HO.out.lt g rfl).2 hb.size
        have hmk : markS 1 ((k - n : Nat) : Int) = markS 1 ((k : Int) - n) := by congr 1; omega
        have HRD : Hid (RdE Spn.cells 2 wr (fun b => b = g1) (some ⟨g1, 0, none⟩) 1 [markS 1 ((k : Int) - n)]) := Lib.hid (by
          have h := e4.keep (Keeps.below hb (fun b hb' => by rw [hb']; exact ea.lt))
          simp only [markEnt, hmk] at h
          exact h)
        have hgl1 : g1 < wr.heap.size := Nat.lt_of_lt_of_le ea.lt hb.size
        have HB := Lib.hid hb
        clear hb ea e1 e2 e3 e4 hv hg1 hmk
        have hwr : IntKind.i64.wrap ((k : Int) - n) = (k : Int) - n := by unfold IntKind.wrap; simp [IntKind.bits, IntKind.signed]; omega
        have x1 : decide ((k : Int) < (n : Int)) = false := by simp; omega
        have x2 : decide ((n : Int) ≤ (k : Int)) = true := by simp; omega
        go_wp2_with fail
        refine wp_region_held_drew (S := (fun w' => w'.cell? ⟨g, k, none⟩ = some (.slice (some ⟨g1, 0, none⟩) 1 d1))) (by kernel_rfl) ?_ (fun hHeld => ?_)
        · (try dsimp only); go_keep
        refine wpAnyH_take (i := 0) (v := ?_) rfl (by kernel_rfl) (by kernel_rfl) (by kernel_rfl) (fun _ _ _ h => h) (Or.inl ⟨by kernel_rfl, ?_⟩) (by assumption) ?_
        rotate_left 1
        · (intro w hSw; (try dsimp only at hSw); go_simp; try with_reducible rfl)
        try simp only [Act.put, List.setIfInBounds_toArray, List.set_cons_zero, List.set_cons_succ]
        refine wpAnyH_take (i := 1) (v := ?_) rfl (by kernel_rfl) (by kernel_rfl) (by kernel_rfl) (fun _ _ _ h => h) (Or.inl ⟨by kernel_rfl, ?_⟩) (by assumption) ?_
        rotate_left 1
        · (intro w hSw; (try dsimp only at hSw); go_simp; try with_reducible rfl)
        try simp only [Act.put, List.setIfInBounds_toArray, List.set_cons_zero, List.set_cons_succ]
        refine wpAnyH_take (i := 2) (v := ?_) rfl (by kernel_rfl) (by kernel_rfl) (by kernel_rfl) (fun _ _ _ h => h) (Or.inl ⟨by kernel_rfl, ?_⟩) (by assumption) ?_
        rotate_left 1
        · (intro w hSw; (try dsimp only at hSw); go_simp; try with_reducible rfl)
        try simp only [Act.put, List.setIfInBounds_toArray, List.set_cons_zero, List.set_cons_succ]
        refine wpAnyH_take (i := 3) (v := ?_) rfl (by kernel_rfl) (by kernel_rfl) (by kernel_rfl) (fun _ _ _ h => h) (Or.inl ⟨by kernel_rfl, ?_⟩) (by assumption) ?_
        rotate_left 1
        · (intro w hSw; (try dsimp only at hSw); go_simp; try with_reducible rfl)
        try simp only [Act.put, List.setIfInBounds_toArray, List.set_cons_zero, List.set_cons_succ]
        refine wpAnyH_take (i := 4) (v := ?_) rfl (by kernel_rfl) (by kernel_rfl) (by kernel_rfl) (fun _ _ _ h => h) (Or.inl ⟨by kernel_rfl, ?_⟩) (by assumption) ?_
        rotate_left 1
        · (intro w hSw; (try dsimp only at hSw); go_simp; try with_reducible rfl)
        try simp only [Act.put, List.setIfInBounds_toArray, List.set_cons_zero, List.set_cons_succ]
        refine wpAnyH_take (i := 5) (v := undef) rfl (by kernel_rfl) (by kernel_rfl) (by kernel_rfl) (fun _ _ _ h => h) (Or.inr ⟨by kernel_rfl, rfl⟩) (by assumption) ?_
        try simp only [Act.put, List.setIfInBounds_toArray, List.set_cons_zero, List.set_cons_succ]
        refine wpAnyH_take (i := 6) (v := undef) rfl (by kernel_rfl) (by kernel_rfl) (by kernel_rfl) (fun _ _ _ h => h) (Or.inr ⟨by kernel_rfl, rfl⟩) (by assumption) ?_
        try simp only [Act.put, List.setIfInBounds_toArray, List.set_cons_zero, List.set_cons_succ]
        refine wpAnyH_take (i := 7) (v := undef) rfl (by kernel_rfl) (by kernel_rfl) (by kernel_rfl) (fun _ _ _ h => h) (Or.inr ⟨by kernel_rfl, rfl⟩) (by assumption) ?_
        try simp only [Act.put, List.setIfInBounds_toArray, List.set_cons_zero, List.set_cons_succ]
        refine wpAnyH_take (i := 8) (v := undef) rfl (by kernel_rfl) (by kernel_rfl) (by kernel_rfl) (fun _ _ _ h => h) (Or.inr ⟨by kernel_rfl, rfl⟩) (by assumption) ?_
        try simp only [Act.put, List.setIfInBounds_toArray, List.set_cons_zero, List.set_cons_succ]
        refine wpAnyH_take (i := 9) (v := undef) rfl (by kernel_rfl) (by kernel_rfl) (by kernel_rfl) (fun _ _ _ h => h) (Or.inr ⟨by kernel_rfl, rfl⟩) (by assumption) ?_
        try simp only [Act.put, List.setIfInBounds_toArray, List.set_cons_zero, List.set_cons_succ]
        refine wpAnyH_take (i := 10) (v := undef) rfl (by kernel_rfl) (by kernel_rfl) (by kernel_rfl) (fun _ _ _ h => h) (Or.inr ⟨by kernel_rfl, rfl⟩) (by assumption) ?_
        try simp only [Act.put, List.setIfInBounds_toArray, List.set_cons_zero, List.set_cons_succ]
        refine wpAnyH_take (i := 11) (v := undef) rfl (by kernel_rfl) (by kernel_rfl) (by kernel_rfl) (fun _ _ _ h => h) (Or.inr ⟨by kernel_rfl, rfl⟩) (by assumption) ?_
        try simp only [Act.put, List.setIfInBounds_toArray, List.set_cons_zero, List.set_cons_succ]
        refine wpAnyH_take (i := 12) (v := undef) rfl (by kernel_rfl) (by kernel_rfl) (by kernel_rfl) (fun _ _ _ h => h) (Or.inr ⟨by kernel_rfl, rfl⟩) (by assumption) ?_
        try simp only [Act.put, List.setIfInBounds_toArray, List.set_cons_zero, List.set_cons_succ]
        refine wpAnyH_take (i := 13) (v := undef) rfl (by kernel_rfl) (by kernel_rfl) (by kernel_rfl) (fun _ _ _ h => h) (Or.inr ⟨by kernel_rfl, rfl⟩) (by assumption) ?_
        try simp only [Act.put, List.setIfInBounds_toArray, List.set_cons_zero, List.set_cons_succ]
        refine wpAnyH_take (i := 14) (v := undef) rfl (by kernel_rfl) (by kernel_rfl) (by kernel_rfl) (fun _ _ _ h => h) (Or.inr ⟨by kernel_rfl, rfl⟩) (by assumption) ?_
        try simp only [Act.put, List.setIfInBounds_toArray, List.set_cons_zero, List.set_cons_succ]
        refine wpAnyH_take (i := 15) (v := ?_) rfl (by kernel_rfl) (by kernel_rfl) (by kernel_rfl) (fun _ _ _ h => h) (Or.inl ⟨by kernel_rfl, ?_⟩) (by assumption) ?_
        rotate_left 1
        · (intro w hSw; (try dsimp only at hSw); go_simp; try with_reducible rfl)
        try simp only [Act.put, List.setIfInBounds_toArray, List.set_cons_zero, List.set_cons_succ]
        refine wpAnyH_take (i := 16) (v := ?_) rfl (by kernel_rfl) (by kernel_rfl) (by kernel_rfl) (fun _ _ _ h => h) (Or.inl ⟨by kernel_rfl, ?_⟩) (by assumption) ?_
        rotate_left 1
        · (intro w hSw; (try dsimp only at hSw); go_simp; try with_reducible rfl)
        try simp only [Act.put, List.setIfInBounds_toArray, List.set_cons_zero, List.set_cons_succ]
        refine wpAnyH_take (i := 17) (v := ?_) rfl (by kernel_rfl) (by kernel_rfl) (by kernel_rfl) (fun _ _ _ h => h) (Or.inl ⟨by kernel_rfl, ?_⟩) (by assumption) ?_
        rotate_left 1
        · (intro w hSw; (try dsimp only at hSw); go_simp; try with_reducible rfl)
        try simp only [Act.put, List.setIfInBounds_toArray, List.set_cons_zero, List.set_cons_succ]
        refine wpAnyH_take (i := 18) (v := ?_) rfl (by kernel_rfl) (by kernel_rfl) (by kernel_rfl) (fun _ _ _ h => h) (Or.inl ⟨by kernel_rfl, ?_⟩) (by assumption) ?_
        rotate_left 1
        · (intro w hSw; (try dsimp only at hSw); go_simp; try with_reducible rfl)
        try simp only [Act.put, List.setIfInBounds_toArray, List.set_cons_zero, List.set_cons_succ]
        refine wpAnyH_take (i := 19) (v := ?_) rfl (by kernel_rfl) (by kernel_rfl) (by kernel_rfl) (fun _ _ _ h => h) (Or.inl ⟨by kernel_rfl, ?_⟩) (by assumption) ?_
        rotate_left 1
        · (intro w hSw; (try dsimp only at hSw); go_simp; try with_reducible rfl)
        try simp only [Act.put, List.setIfInBounds_toArray, List.set_cons_zero, List.set_cons_succ]
        refine wpAnyH_take (i := 20) (v := ?_) rfl (by kernel_rfl) (by kernel_rfl) (by kernel_rfl) (fun _ _ _ h => h) (Or.inl ⟨by kernel_rfl, ?_⟩) (by assumption) ?_
        rotate_left 1
        · (intro w hSw; (try dsimp only at hSw); go_simp; try with_reducible rfl)
        try simp only [Act.put, List.setIfInBounds_toArray, List.set_cons_zero, List.set_cons_succ]
        refine wpAnyH_take (i := 21) (v := ?_) rfl (by kernel_rfl) (by kernel_rfl) (by kernel_rfl) (fun _ _ _ h => h) (Or.inl ⟨by kernel_rfl, ?_⟩) (by assumption) ?_
        rotate_left 1
        · (intro w hSw; (try dsimp only at hSw); go_simp; try with_reducible rfl)
        try simp only [Act.put, List.setIfInBounds_toArray, List.set_cons_zero, List.set_cons_succ]
        refine wpAnyH_take (i := 22) (v := ?_) rfl (by kernel_rfl) (by kernel_rfl) (by kernel_rfl) (fun _ _ _ h => h) (Or.inl ⟨by kernel_rfl, ?_⟩) (by assumption) ?_
        rotate_left 1
        · (intro w hSw; (try dsimp only at hSw); go_simp; try with_reducible rfl)
        try simp only [Act.put, List.setIfInBounds_toArray, List.set_cons_zero, List.set_cons_succ]
        refine wpAnyH_take (i := 23) (v := ?_) rfl (by kernel_rfl) (by kernel_rfl) (by kernel_rfl) (fun _ _ _ h => h) (Or.inl ⟨by kernel_rfl, ?_⟩) (by assumption) ?_
        rotate_left 1
        · (intro w hSw; (try dsimp only at hSw); go_simp; try with_reducible rfl)
        try simp only [Act.put, List.setIfInBounds_toArray, List.set_cons_zero, List.set_cons_succ]
        refine wpAnyH_take (i := 24) (v := ?_) rfl (by kernel_rfl) (by kernel_rfl) (by kernel_rfl) (fun _ _ _ h => h) (Or.inl ⟨by kernel_rfl, ?_⟩) (by assumption) ?_
        rotate_left 1
        · (intro w hSw; (try dsimp only at hSw); go_simp; try with_reducible rfl)
        try simp only [Act.put, List.setIfInBounds_toArray, List.set_cons_zero, List.set_cons_succ]
        refine wpAnyH_take (i := 25) (v := ?_) rfl (by kernel_rfl) (by kernel_rfl) (by kernel_rfl) (fun _ _ _ h => h) (Or.inl ⟨by kernel_rfl, ?_⟩) (by assumption) ?_
        rotate_left 1
        · (intro w hSw; (try dsimp only at hSw); go_simp; try with_reducible rfl)
        try simp only [Act.put, List.setIfInBounds_toArray, List.set_cons_zero, List.set_cons_succ]
        refine wpAnyH_take (i := 26) (v := ?_) rfl (by kernel_rfl) (by kernel_rfl) (by kernel_rfl) (fun _ _ _ h => h) (Or.inl ⟨by kernel_rfl, ?_⟩) (by assumption) ?_
        rotate_left 1
        · (intro w hSw; (try dsimp only at hSw); go_simp; try with_reducible rfl)
        try simp only [Act.put, List.setIfInBounds_toArray, List.set_cons_zero, List.set_cons_succ]
        refine wpAnyH_take (i := 27) (v := ?_) rfl (by kernel_rfl) (by kernel_rfl) (by kernel_rfl) (fun _ _ _ h => h) (Or.inl ⟨by kernel_rfl, ?_⟩) (by assumption) ?_
        rotate_left 1
        · (intro w hSw; (try dsimp only at hSw); go_simp; try with_reducible rfl)
        try simp only [Act.put, List.setIfInBounds_toArray, List.set_cons_zero, List.set_cons_succ]
        refine wpAnyH_take (i := 28) (v := ?_) rfl (by kernel_rfl) (by kernel_rfl) (by kernel_rfl) (fun _ _ _ h => h) (Or.inl ⟨by kernel_rfl, ?_⟩) (by assumption) ?_
        rotate_left 1
        · (intro w hSw; (try dsimp only at hSw); go_simp; try with_reducible rfl)
        try simp only [Act.put, List.setIfInBounds_toArray, List.set_cons_zero, List.set_cons_succ]
        refine wpAnyH_take (i := 29) (v := ?_) rfl (by kernel_rfl) (by kernel_rfl) (by kernel_rfl) (fun _ _ _ h => h) (Or.inl ⟨by kernel_rfl, ?_⟩) (by assumption) ?_
        rotate_left 1
        · (intro w hSw; (try dsimp only at hSw); go_simp; try with_reducible rfl)
        try simp only [Act.put, List.setIfInBounds_toArray, List.set_cons_zero, List.set_cons_succ]
        refine wpAnyH_ready (rs := [30]) (by kernel_rfl) (by simp) ?_
        refine AllReadyH.cons rfl (fun K hK => ?_) AllReadyH.nil
        go_simp
        (go_at_call 27; refine (I2.out 1 ((k : Int) - n) _ (by omega) (by omega) (by omega) (by omega)).mono ?_; rintro e w3 ⟨rfl, hb3⟩; have k3 := bat hb3 hHeld; have HB3 : Hid (Below wr.heap.size wr w3) := Lib.hid (((Below.refl wr.heap.size wr).drew).trans hb3); clear hb3)
        try go_wp2_with fail
        refine hK.out _ _ ?_ (fun hHeld => ?_)
        · (try dsimp only); go_keep
        clear hK K
        try simp only [Act.put, List.setIfInBounds_toArray, List.set_cons_zero, List.set_cons_succ]
        refine wpAnyH_ready (rs := [31]) (by kernel_rfl) (by simp) ?_
        refine AllReadyH.cons rfl (fun K hK => ?_) AllReadyH.nil
        go_simp
        refine hK.out _ _ ?_ (fun hHeld => ?_)
        · (try dsimp only); go_keep
        clear hK K
        try simp only [Act.put, List.setIfInBounds_toArray, List.set_cons_zero, List.set_cons_succ]
        refine wpAnyH_ready (rs := [32]) (by kernel_rfl) (by simp) ?_
        refine AllReadyH.cons rfl (fun K hK => ?_) AllReadyH.nil
        go_simp
        (go_at_call 29; refine (I3.out _ _ 1 _ _ [markS 1 ((k : Int) - n)] _ _ _ (HRD.out.keep (Keeps.below (below_then HB3.out (below1 ..)) (fun b hb => by rw [hb]; exact hgl1))) (rde_blk (blk_new w3 #[.float .f64 (markS 1 ((k : Int) - n)).lo, .float .f64 (markS 1 ((k : Int) - n)).hi] 43) rfl (S := fun _ => True) trivial rfl rfl) (by omega)).mono ?_; rintro e w4 ⟨rfl, hb4⟩; have k4 := bat hb4 hHeld; have HB4 : Hid (Below wr.heap.size wr w4) := Lib.hid (below_then (below_then HB3.out (below1 ..)) hb4); clear hb4)
        try go_wp2_with fail
        refine hK.out _ _ ?_ (fun hHeld => ?_)
        · (try dsimp only); go_keep
        clear hK K
        try simp only [Act.put, List.setIfInBounds_toArray, List.set_cons_zero, List.set_cons_succ]
        refine wpAnyH_take (i := 33) (v := ?_) rfl (by kernel_rfl) (by kernel_rfl) (by kernel_rfl) (fun _ _ _ h => h) (Or.inl ⟨by kernel_rfl, ?_⟩) (by assumption) ?_
        rotate_left 1
        · (intro w hSw; (try dsimp only at hSw); go_simp; try with_reducible rfl)
        try simp only [Act.put, List.setIfInBounds_toArray, List.set_cons_zero, List.set_cons_succ]
        refine wpAnyH_take (i := 34) (v := ?_) rfl (by kernel_rfl) (by kernel_rfl) (by kernel_rfl) (fun _ _ _ h => h) (Or.inl ⟨by kernel_rfl, ?_⟩) (by assumption) ?_
        rotate_left 1
        · (intro w hSw; (try dsimp only at hSw); go_simp; try with_reducible rfl)
        try simp only [Act.put, List.setIfInBounds_toArray, List.set_cons_zero, List.set_cons_succ]
        refine wpAnyH_take (i := 35) (v := ?_) rfl (by kernel_rfl) (by kernel_rfl) (by kernel_rfl) (fun _ _ _ h => h) (Or.inl ⟨by kernel_rfl, ?_⟩) (by assumption) ?_
        rotate_left 1
        · (intro w hSw; (try dsimp only at hSw); go_simp; try with_reducible rfl)
        try simp only [Act.put, List.setIfInBounds_toArray, List.set_cons_zero, List.set_cons_succ]
        refine wpAnyH_done (by kernel_rfl) ?_ _
        go_wp2_with fail
        go_roundw
        case rel => exact ⟨k + 1, by omega, by go_num, HB.out.trans (HB4.out.mono HB.out.size)⟩
        case measure => simp [intOf]; omega
    · have HB := Lib.hid hb
      clear hb
      go_wp2_with fail
      go_ret
      exact ⟨rfl, HB.out⟩

end Go.Proofs.Ytmeljjijofkllaa
