import Derived.Test.YtmeljjijofkllaaK4
/- rows of spans: written over -/
namespace Go.Proofs.Ytmeljjijofkllaa
open Go.RowKit Go.Sort

/-- what lies outside of [B, E) stays -/
structure Within (B E : Nat) (w w' : World) : Prop where
  os : w'.os = w.os
  tape : w'.tape = w.tape
  output : w'.output = w.output
  size : w.heap.size ≤ w'.heap.size
  block : ∀ b, b < w.heap.size → (b < B ∨ E ≤ b) → w'.heap[b]? = w.heap[b]?
theorem Within.refl (B E : Nat) (w : World) : Within B E w w := ⟨rfl, rfl, rfl, Nat.le_refl _, fun _ _ _ => rfl⟩
theorem Within.trans {B E : Nat} {a b c : World} (h : Within B E a b) (k : Within B E b c) : Within B E a c :=
  ⟨k.os.trans h.os, k.tape.trans h.tape, k.output.trans h.output, Nat.le_trans h.size k.size, fun x hx hy => (k.block x (Nat.lt_of_lt_of_le hx h.size) hy).trans (h.block x hx hy)⟩
theorem Within.of_grown {B E g : Nat} {a b : World} (h : a.grownBy b (some g)) (h1 : B ≤ g) (h2 : g < E) : Within B E a b :=
  ⟨h.os, h.tape, h.output, h.size, fun x hx hy => h.block x hx (fun e => by injection e with e; omega)⟩
theorem Within.of_below {B E : Nat} {a b : World} (h : Below a.heap.size a b) : Within B E a b :=
  ⟨h.os, h.tape, h.output, h.size, fun x hx _ => h.block x hx⟩
theorem Within.below {B E : Nat} {a b c : World} (h : Below B a b) (k : Within B E b c) (hb : B ≤ a.heap.size) : Below B a c :=
  ⟨k.os.trans h.os, k.tape.trans h.tape, k.output.trans h.output, Nat.le_trans h.size k.size, fun x hx => (k.block x (by have := h.size; omega) (.inl hx)).trans (h.block x hx)⟩

set_option maxHeartbeats 1000000 in
theorem overRows_any (B0 g n d : Nat) (L : List (List Spn)) (w2 w : World) (hy : LentSt w2 B0 (.slice (some ⟨g, 0, none⟩) (n + 12) d) (L.map rowEnt ++ marksE)) (hb : Below w2.heap.size w2 w) (hB : B0 ≤ w2.heap.size)
    (hL : L.length = n) (hLL : ∀ (i : Nat) (l : List Spn), L[i]? = some l → l.length ≤ 1000000000000) (hd : n + 12 ≤ d) (hn : n ≤ 1000000000) :
    Calls Try.prog 14 #[.slice (some ⟨g, 0, none⟩) n d] w fun e w' => e = .returned (.tuple #[]) ∧ Within B0 w2.heap.size w w' := by
  obtain ⟨vs, gs, hown, hgl, hat, hmono⟩ := hy.st
  have hel : (L.map rowEnt ++ marksE).length = n + 12 := by rw [List.length_append, List.length_map, hL, marksE_len]
  rw [hel] at hown hgl
  have HO := Lib.hid (own_below hown hb)
  have hg0 := hown.lt g rfl
  have HAT := Lib.hid hat
  have HGL := Lib.hid hgl
  have HMO := Lib.hid hmono
  have HLL := Lib.hid hLL
  have HB := Lib.hid hb
  have i1 := overSpns_any
  have I1 := Lib.hid i1
  have i2 := markSpan_any
  have I2 := Lib.hid i2
  clear i1 i2 hown hat hgl hmono hy hel hb hLL
  go_enter Try.func14, Try.ntmps14
  go_wp2_with fail
  go_loopw [2] (fun i wr => ∃ k : Nat, k ≤ n ∧ i = .int .i64 k ∧ Within B0 w2.heap.size w wr ∧ wr.ownsRow B0 31 1 (.slice (some ⟨g, 0, none⟩) (n + 12) d) (n + 12) vs ∧
    (∀ (i : Nat) (l : List Spn) (gi di : Nat), k ≤ i → i < n → L[i]? = some l → gs[i]? = some gi → vs[i]? = some (.slice (some ⟨gi, 0, none⟩) l.length di) → l.length + 12 ≤ di → wr.ownsRow B0 43 2 (.slice (some ⟨gi, 0, none⟩) (l.length + 12) di) (l.length + 12) ((l ++ marksS 1).flatMap Spn.cells))) (fun i _ => n - (intOf i).toNat)
  case atStart =>
    refine ⟨0, Nat.zero_le _, rfl, Within.refl .., HO.out, fun i l gi di _ hi hl hg hv hd => ?_⟩
    obtain ⟨_, _, d', e1, e2, e3⟩ := HAT.out i (rowEnt l) gi ((lent_get hL).1 hi l hl) hg
    have h4 := own_below e3 HB.out
    rw [hv] at e1
    injection e1 with e1
    injection e1 with _ _ e1
    subst e1
    simpa [rowEnt, marksS_len] using h4
  case round =>
    obtain ⟨k, hk, rfl, hw, hown, hrows⟩ := hrel
    by_cases hlt : k < n
    · obtain ⟨l, hl⟩ := get_some hL hlt
      obtain ⟨g1, hg1⟩ := get_some HGL.out (show k < n + 12 by omega)
      obtain ⟨hg1l, hg1n, d1, e1, e2, _⟩ := HAT.out k (rowEnt l) g1 ((lent_get hL).1 hlt l hl) hg1
      have e1' : vs[k]? = some (.slice (some ⟨g1, 0, none⟩) l.length d1) := e1
      have e2' : l.length + 12 ≤ d1 := by simpa [rowEnt, marksS_len] using e2
      have hrow := hrows k l g1 d1 (Nat.le_refl _) hlt hl hg1 e1' e2'
      have hcell : wr.cell? ⟨g, k, none⟩ = some (.slice (some ⟨g1, 0, none⟩) l.length d1) := by rw [hown.cellAt _ (by omega)]; exact e1'
      have hgg : some g1 ≠ some g := hg1n
      have HR := Lib.hid hrow
      have HRS := Lib.hid hrows
      have HOW := Lib.hid hown
      have HW := Lib.hid hw
      have HG1 := Lib.hid hg1
      have hll := HLL.out k l hl
      have hg1b := (hrow.lt g1 rfl).1
      clear hrow hrows hown hw hg1 e1 e1' e2 hl
      go_wp2_with (go_at_call 30; refine (I1.out B0 g1 l.length d1 _ _ HR.out e2' hll).mono ?_; rintro e w3 ⟨rfl, hg3⟩; have HG3 := Lib.hid hg3; clear hg3)
      go_roundw
      case rel =>
        refine ⟨k + 1, by omega, by go_num, HW.out.trans (Within.of_grown HG3.out hg1b hg1l), HOW.out.kept HG3.out (.inr (fun e => hgg (by simpa [Value.ownBlock] using e.symm))), fun i l' gi di hi hin hl' hgi hv hdi => ?_⟩
        refine (HRS.out i l' gi di (by omega) hin hl' hgi hv hdi).kept HG3.out (.inr (fun e => ?_))
        simp [Value.ownBlock] at e
        have := HMO.out k i g1 gi (by omega) HG1.out hgi
        omega
      case measure => simp [intOf]; omega
    · have HOW := Lib.hid hown
      have HW := Lib.hid hw
      clear hown hw hrows
      go_wp2_with fail
      obtain ⟨wo, rfl⟩ : ∃ wo : World, wo = wr := ⟨_, rfl⟩
      go_loopw [4] (fun i wr => ∃ k : Nat, k ≤ n + 12 ∧ i = .int .i64 k ∧ Within B0 w2.heap.size w wr ∧ ∃ ys, wr.ownsRow B0 31 1 (.slice (some ⟨g, 0, none⟩) (n + 12) d) (n + 12) ys) (fun i _ => n + 12 - (intOf i).toNat)
      case atStart => exact ⟨0, Nat.zero_le _, rfl, HW.out, _, HOW.out⟩
      case round =>
        obtain ⟨j, hj, rfl, hw, ys, hown⟩ := hrel
        by_cases hltj : j < n + 12
        · have hf0 := hown.frozenAt j
          have hgl : g < wr.heap.size := (hown.lt g rfl).2
          obtain ⟨y0, c0⟩ := get_some (xs := ys) (k := j) hown.1 (by omega)
          have e0 : wr.cell? ⟨g, j, none⟩ = some y0 := by rw [hown.cellAt _ (by omega)]; exact c0
          have HOj := Lib.hid hown
          have HWj := Lib.hid hw
          clear hown hw c0
          go_wp2_with (go_at_call 27; refine (I2.out _ _ _ (by omega) (by omega) (by omega) (by omega)).mono ?_; rintro e w4 ⟨rfl, hb4⟩; have HB4 := Lib.hid hb4; have hs4 := hb4.size; have d0 := bat hb4 e0; have f0 := bfz hb4 hgl hf0; have hgl4 : g < w4.heap.size := (by omega); clear hb4)
          have ho4 := HOj.out
          have hst := (own_below ho4 HB4.out).stored j (.slice (some ⟨w4.heap.size, 0, none⟩) 1 1)
          have HO5 := Lib.hid (hst.1.alloc (.cells #[.float .f64 (markS 2 j).lo, .float .f64 (markS 2 j).hi] 43))
          have HW5 := Lib.hid (((HWj.out.trans (Within.of_below HB4.out)).trans (Within.of_grown hst.2 hg0.1 hg0.2)).trans (Within.of_below (below1 _ (.cells #[.float .f64 (markS 2 j).lo, .float .f64 (markS 2 j).hi] 43))))
          clear ho4 hst
          go_roundw
          case rel => exact ⟨j + 1, by omega, by go_num, HW5.out, _, HO5.out⟩
          case measure => simp [intOf]; omega
        · have HWj := Lib.hid hw
          clear hw hown
          go_wp2_with fail
          exact bodyPost_end (results_none rfl _ _ _) rfl ⟨rfl, HWj.out⟩

end Go.Proofs.Ytmeljjijofkllaa
