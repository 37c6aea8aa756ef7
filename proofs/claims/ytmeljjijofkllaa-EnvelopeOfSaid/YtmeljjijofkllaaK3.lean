import Derived.Test.YtmeljjijofkllaaK1
/- rows of spans that are lent: a list of lists, each with marks behind it, and twelve rows of one mark behind them -/
namespace Go.Proofs.Ytmeljjijofkllaa
open Go.RowKit Go.Sort

theorem own_base {w : World} {base base' e size n : Nat} {v : Value} {vs : List Value} (h : w.ownsRow base e size v n vs) (hb : base' ≤ base) : w.ownsRow base' e size v n vs := by
  refine ⟨h.1, ?_⟩
  rcases h.2 with h2 | ⟨g, cap, cur, e1, h3, h4⟩
  · exact .inl h2
  · exact .inr ⟨g, cap, cur, e1, Nat.le_trans hb h3, h4⟩

/-- an entry: what it reads as, and what its memory holds in all -/
structure Ent where
  xs : List Spn
  full : List Spn
theorem own_box (w : World) (cs : Array Value) (t : TypeId) {base size : Nat} (hb : base ≤ w.heap.size) (h : cs.size = size) : (w.alloc (.cells cs t)).ownsRow base t size (.slice (some ⟨w.heap.size, 0, none⟩) 1 1) 1 cs.toList :=
  ⟨by simp [h], .inr ⟨w.heap.size, 1, cs, rfl, hb, blk_new w cs t, Nat.le_refl _, by simp [maxLen], by simp [h], by rw [List.take_of_length_le (by simp [h])]⟩⟩
structure EntAt (w : World) (B : Nat) (v : Value) (vs : List Value) (i : Nat) (e : Ent) (g : Nat) : Prop where
  lt : g < w.heap.size
  ne : some g ≠ v.ownBlock
  has : ∃ d, vs[i]? = some (.slice (some ⟨g, 0, none⟩) e.xs.length d) ∧ e.full.length ≤ d ∧ w.ownsRow B 43 2 (.slice (some ⟨g, 0, none⟩) e.full.length d) e.full.length (e.full.flatMap Spn.cells)
structure LentSt (w : World) (B : Nat) (v : Value) (es : List Ent) : Prop where
  st : ∃ (vs : List Value) (gs : List Nat), w.ownsRow B 31 1 v es.length vs ∧ gs.length = es.length ∧
    (∀ (i : Nat) (e : Ent) (g : Nat), es[i]? = some e → gs[i]? = some g → EntAt w B v vs i e g) ∧ (∀ (i j a b : Nat), i < j → gs[i]? = some a → gs[j]? = some b → a < b)

theorem LentSt.start (w : World) (B : Nat) (v : Value) (h : w.ownsRow B 31 1 v 0 []) : LentSt w B v [] :=
  ⟨[], [], h, rfl, fun i e g he => by simp at he, fun i j a b _ ha => by simp at ha⟩
theorem LentSt.step {w w1 w2 : World} {B : Nat} {v v' : Value} {es : List Ent} {vs : List Value} {gs : List Nat} {e : Ent} {g d : Nat} {o : Obj}
    (hB : B ≤ w.heap.size) (hown : w.ownsRow B 31 1 v es.length vs) (hgl : gs.length = es.length)
    (hat : ∀ (i : Nat) (e : Ent) (g : Nat), es[i]? = some e → gs[i]? = some g → EntAt w B v vs i e g) (hlt : ∀ (i j a b : Nat), i < j → gs[i]? = some a → gs[j]? = some b → a < b)
    (hb : Below w.heap.size w w1) (hn : w1.ownsRow w.heap.size 43 2 (.slice (some ⟨g, 0, none⟩) e.full.length d) e.full.length (e.full.flatMap Spn.cells)) (hd : e.full.length ≤ d)
    (h2 : w2.ownsRow B 31 1 v' (es.length + 1) (vs ++ [.slice (some ⟨g, 0, none⟩) e.xs.length d])) (hg : (w1.alloc o).grownBy w2 v.ownBlock) (ha : v'.ownBlock = v.ownBlock ∨ v'.ownBlock = some (w1.alloc o).heap.size) :
    LentSt w2 B v' (es ++ [e]) := by
  have hvl : vs.length = es.length := by have := hown.1; omega
  have hsz1 : w.heap.size ≤ w1.heap.size := hb.size
  have hsz2 : (w1.alloc o).heap.size ≤ w2.heap.size := hg.size
  have hal : (w1.alloc o).heap.size = w1.heap.size + 1 := by simp
  have hgn := hn.lt g rfl
  have hne' : ∀ b, b < w1.heap.size → some b ≠ v.ownBlock → some b ≠ v'.ownBlock := fun b hb' hne => by
    rcases ha with h | h
    · rw [h]; exact hne
    · rw [h]; intro e; injection e with e; omega
  have hv : ∀ b, v.ownBlock = some b → b < w.heap.size := fun b h => (hown.lt b h).2
  have hgv : some g ≠ v.ownBlock := fun e => by have := hv g e.symm; omega
  refine ⟨_, gs ++ [g], by rw [List.length_append]; exact h2, by simp [hgl], fun i e' g' he hg' => ?_, fun i j a b hij ha hb' => ?_⟩
  · by_cases hi : i < es.length
    · rw [List.getElem?_append_left hi] at he
      rw [List.getElem?_append_left (by omega)] at hg'
      obtain ⟨h1, h3, d', h4, h5, h6⟩ := hat i e' g' he hg'
      exact ⟨by omega, hne' g' (by omega) h3, d', by rw [List.getElem?_append_left (by omega)]; exact h4, h5, ((own_below h6 hb).alloc o).kept hg (.inr h3)⟩
    · have hi2 : i = es.length := by have := (List.getElem?_eq_some_iff.1 he).1; simp at this; omega
      subst hi2
      rw [List.getElem?_append_right (Nat.le_refl _), Nat.sub_self] at he
      rw [List.getElem?_append_right (by omega), hgl, Nat.sub_self] at hg'
      simp at he hg'
      subst he
      subst hg'
      exact ⟨by omega, hne' g (by omega) hgv, d, by rw [List.getElem?_append_right (by omega), hvl, Nat.sub_self]; rfl, hd, (own_base (hn.alloc o) hB).kept hg (.inr hgv)⟩
  · have hj : j < es.length + 1 := by have := (List.getElem?_eq_some_iff.1 hb').1; simp [hgl] at this; omega
    rw [List.getElem?_append_left (by omega)] at ha
    by_cases hj2 : j < es.length
    · rw [List.getElem?_append_left (by omega)] at hb'
      exact hlt i j a b hij ha hb'
    · rw [List.getElem?_append_right (by omega), show j - gs.length = 0 by omega] at hb'
      simp at hb'
      subst hb'
      obtain ⟨e', he'⟩ := get_some (xs := es) rfl (show i < es.length by omega)
      have := (hat i e' a he' ha).lt
      omega
theorem LentSt.below {w w' : World} {B : Nat} {v : Value} {es : List Ent} (h : LentSt w B v es) (hb : Below w.heap.size w w') : LentSt w' B v es := by
  obtain ⟨vs, gs, h1, h2, h3, h4⟩ := h.st
  have := hb.size
  refine ⟨vs, gs, own_below h1 hb, h2, fun i e g he hg => ?_, h4⟩
  obtain ⟨k1, k2, d, k3, k4, k5⟩ := h3 i e g he hg
  exact ⟨by omega, k2, d, k3, k4, own_below k5 hb⟩

def rowEnt (l : List Spn) : Ent := ⟨l, l ++ marksS 1⟩
def markEnt (j : Nat) : Ent := ⟨[markS 1 j], [markS 1 j]⟩
def marksE : List Ent := (List.range 12).map markEnt
theorem marksE_len : marksE.length = 12 := by simp [marksE]
theorem marksE_take (i : Nat) (h : i < 12) : marksE.take i ++ [markEnt i] = marksE.take (i + 1) := by
  have hl : i < marksE.length := by rw [marksE_len]; exact h
  rw [List.take_succ_eq_append_getElem hl]
  congr 1
  simp [marksE]
theorem rows_take {L : List (List Spn)} {i : Nat} {l : List Spn} (h : L[i]? = some l) : (L.take i).map rowEnt ++ [rowEnt l] = (L.take (i + 1)).map rowEnt := by
  obtain ⟨hl, e⟩ := List.getElem?_eq_some_iff.1 h
  rw [List.take_succ_eq_append_getElem hl, List.map_append, e]
  rfl

set_option maxHeartbeats 1000000 in
theorem lentRows_any (A : Option Addr) (n c : Nat) (L : List (List Spn)) (S : Nat → Prop) (w : World) (hx : RdRows Spn.cells 2 w S A n L) (hS : ∀ b, S b → b < w.heap.size) (hn : n ≤ 1000000000) (hL : ∀ (i : Nat) (l : List Spn), L[i]? = some l → l.length ≤ 1000000000000) :
    Calls Try.prog 12 #[.slice A n c] w fun e w' => ∃ g d, e = .returned (.slice (some ⟨g, 0, none⟩) n d) ∧ n + 12 ≤ d ∧ LentSt w' w.heap.size (.slice (some ⟨g, 0, none⟩) (n + 12) d) (L.map rowEnt ++ marksE) ∧ Below w.heap.size w w' := by
  obtain ⟨i0, hi0, hz0, hz1, hz2⟩ := info_parts info_row
  have HX := Lib.hid hx
  have HS := Lib.hid hS
  have HL := Lib.hid hL
  clear hx hS hL
  have i1 := lentSpns_any
  have I1 := Lib.hid i1
  have i2 := markSpan_any
  have I2 := Lib.hid i2
  clear i1 i2
  go_enter Try.func12, Try.ntmps12
  go_wp2_with (at_make; go_must (refine wpList_make_own _ rfl _ _ _ rfl w.heap.size 31 i0 _ 1 Try.underlying22 hi0 hz0 hz1 .i64 .i64 _ (n + 12) rfl rfl (by omega) (by rw [hz2]; omega) (by simp only [maxLen]; omega) (Nat.le_refl _) ?_); intro w1 hown1 hg1; have HO1 := Lib.hid hown1; have HG1 := Lib.hid (below_of_grown hg1 (fun g hg => by cases hg)); have hsz1 := hg1.size; clear hown1 hg1)
  go_loopw [3, 4] (fun v i wr => ∃ k : Nat, k ≤ n ∧ i = .int .i64 k ∧ LentSt wr w.heap.size v ((L.take k).map rowEnt) ∧ Below w.heap.size w wr) (fun _ i _ => n - (intOf i).toNat)
  case atStart => exact ⟨0, Nat.zero_le _, rfl, LentSt.start _ _ _ HO1.out, HG1.out⟩
  case round =>
    obtain ⟨k, hk, rfl, hst, hb⟩ := hrel
    have HB := Lib.hid hb
    clear hb
    by_cases hlt : k < n
    · obtain ⟨vs, gs, hown, hgl, hat, hmono⟩ := hst.st
      have hel : ((L.take k).map rowEnt).length = k := by rw [List.length_map, List.length_take, HX.out.num]; omega
      have HEL := Lib.hid hel
      have HO := Lib.hid hown
      have HOk : Hid (wr.ownsRow w.heap.size 31 1 _ k vs) := Lib.hid (by rw [hel] at hown; exact hown)
      have HAT := Lib.hid hat
      have HGL := Lib.hid hgl
      have HMO := Lib.hid hmono
      obtain ⟨A2, c2, rfl, hc2, _⟩ := own_slice HOk.out
      obtain ⟨l, hl⟩ := get_some HX.out.num hlt
      obtain ⟨b, o, A1, c1, rfl, hSb, hcell, hlc, hr⟩ := HX.out.row hl
      rw [← HB.out.cell (p := ⟨b, o + k, none⟩) (HS.out b hSb)] at hcell
      have hln := HL.out k l hl
      have HR := Lib.hid (hr.keep (Keeps.below HB.out HS.out))
      have HLl := Lib.hid hl
      have hwz := HB.out.size
      clear hown hat hgl hmono hst hel hr hl
      go_wp2_with (first
        | (go_at_call 26; refine (I1.out A1 l.length c1 l S _ HR.out (fun b hb => Nat.lt_of_lt_of_le (HS.out b hb) HB.out.size) hln).mono ?_; rintro e w4 ⟨g4, d4, rfl, hd4, ho4, hb4⟩; have HO4 := Lib.hid ho4; have HB4 := Lib.hid hb4; have hs4 := hb4.size; clear ho4 hb4)
        | (at_builtin; go_must (refine wpList_append_rd _ rfl _ _ _ rfl w.heap.size 31 i0 _ 1 24 Try.underlying22 hi0 hz0 hz1 hz2 rfl (by omega) _ k _ rfl ((own_below HOk.out HB4.out).alloc _) (fun _ => True) (some ⟨w4.heap.size, 0, none⟩) 1 1 [.slice (some ⟨g4, 0, none⟩) l.length d4] rfl (rd_one _ _ _ _ trivial) (by intro u hu; simp at hu; subst hu; rfl) (by simp only [maxLen]; omega) (by omega) (by simp; omega) ?_); intro v5 w5 hown5 hg5 hat5))
      have hst2 : LentSt w5 w.heap.size v5 ((L.take k).map rowEnt ++ [rowEnt l]) := LentSt.step (g := g4) (d := d4) HB.out.size HO.out HGL.out HAT.out HMO.out HB4.out (by simpa [rowEnt, marksS_len] using HO4.out) (by simpa [rowEnt, marksS_len] using hd4) (by rw [HEL.out]; exact hown5) hg5 hat5
      rw [rows_take HLl.out] at hst2
      have HST := Lib.hid hst2
      have HB6 := Lib.hid (HB.out.trans ((below_then HB4.out (below1 ..)).mono HB.out.size |>.trans (Below.grown (Below.refl w.heap.size _) hg5 (by simp; omega) (fun g hg => (HOk.out.lt g hg).1))))
      clear hst2 hown5 hg5 hat5
      go_roundw
      case rel => exact ⟨k + 1, by omega, by go_num, HST.out, HB6.out⟩
      case measure => simp [intOf]; omega
    · obtain rfl : n = k := by omega
      rw [List.take_of_length_le (by rw [HX.out.num]; exact Nat.le_refl _)] at hst
      have HST := Lib.hid hst
      clear hst
      go_wp2_with fail
      obtain ⟨wo, rfl⟩ : ∃ wo : World, wo = wr := ⟨_, rfl⟩
      have hel0 : (L.map rowEnt).length = n := by rw [List.length_map, HX.out.num]
      have HEL0 := Lib.hid hel0
      clear hel0
      go_loopw [3, 5] (fun v i wr => ∃ k : Nat, k ≤ 12 ∧ i = .int .i64 k ∧ LentSt wr w.heap.size v (L.map rowEnt ++ marksE.take k) ∧ Below w.heap.size w wr) (fun _ i _ => 12 - (intOf i).toNat)
      case atStart => exact ⟨0, Nat.zero_le _, rfl, by rw [List.take_zero, List.append_nil]; exact HST.out, HB.out⟩
      case round =>
        obtain ⟨j, hj, rfl, hst, hb⟩ := hrel
        have HBj := Lib.hid hb
        clear hb
        by_cases hltj : j < 12
        · obtain ⟨vs, gs, hown, hgl, hat, hmono⟩ := hst.st
          have hel : (L.map rowEnt ++ marksE.take j).length = n + j := by rw [List.length_append, HEL0.out, List.length_take, marksE_len]; omega
          have HEL := Lib.hid hel
          have HO := Lib.hid hown
          have HOk : Hid (wr.ownsRow w.heap.size 31 1 _ (n + j) vs) := Lib.hid (by rw [hel] at hown; exact hown)
          have HAT := Lib.hid hat
          have HGL := Lib.hid hgl
          have HMO := Lib.hid hmono
          obtain ⟨A2, c2, rfl, hc2, _⟩ := own_slice HOk.out
          have hwz := HBj.out.size
          clear hown hat hgl hmono hst hel
          go_wp2_with (first
            | (go_at_call 27; refine (I2.out _ _ _ (by omega) (by omega) (by omega) (by omega)).mono ?_; rintro e w3 ⟨rfl, hb3⟩; have HB3 := Lib.hid hb3; have hs3 := hb3.size; clear hb3)
            | (at_builtin; go_must (refine wpList_append_rd _ rfl _ _ _ rfl w.heap.size 31 i0 _ 1 24 Try.underlying22 hi0 hz0 hz1 hz2 rfl (by omega) _ (n + j) _ rfl (((own_below HOk.out HB3.out).alloc _).alloc _) (fun _ => True) (some ⟨w3.heap.size + 1, 0, none⟩) 1 1 [.slice (some ⟨w3.heap.size, 0, none⟩) 1 1] rfl (by have h := rd_one (w3.alloc (.cells #[.float .f64 (markS 1 j).lo, .float .f64 (markS 1 j).hi] 43)) (.slice (some ⟨w3.heap.size, 0, none⟩) 1 1) 31 (fun _ => True) trivial; rw [World.size_alloc] at h; exact h) (by intro u hu; simp at hu; subst hu; rfl) (by simp only [maxLen]; omega) (by omega) (by simp; omega) ?_); intro v5 w5 hown5 hg5 hat5))
          have hb4 : Below wr.heap.size wr (w3.alloc (.cells #[.float .f64 (markS 1 j).lo, .float .f64 (markS 1 j).hi] 43)) := below_then HB3.out (below1 ..)
          have hn4 := own_base (own_box w3 #[.float .f64 (markS 1 j).lo, .float .f64 (markS 1 j).hi] 43 (base := w3.heap.size) (size := 2) (Nat.le_refl _) rfl) hs3
          have hst2 : LentSt w5 w.heap.size v5 ((L.map rowEnt ++ marksE.take j) ++ [markEnt j]) := LentSt.step (g := w3.heap.size) (d := 1) HBj.out.size HO.out HGL.out HAT.out HMO.out hb4 hn4 (Nat.le_refl _) (by rw [HEL.out]; exact hown5) hg5 hat5
          rw [List.append_assoc, marksE_take j hltj] at hst2
          have HST2 := Lib.hid hst2
          have HB6 := Lib.hid (HBj.out.trans ((below_then hb4 (below1 ..)).mono HBj.out.size |>.trans (Below.grown (Below.refl w.heap.size _) hg5 (by simp; omega) (fun g hg => (HOk.out.lt g hg).1))))
          clear hst2 hown5 hg5 hat5 hb4 hn4
          go_roundw
          case rel => exact ⟨j + 1, by omega, by go_num, HST2.out, HB6.out⟩
          case measure => simp [intOf]; omega
        · obtain rfl : j = 12 := by omega
          rw [List.take_of_length_le (by rw [marksE_len]; exact Nat.le_refl _)] at hst
          obtain ⟨vs, gs, hown, hgl, hat, hmono⟩ := hst.st
          have hel : (L.map rowEnt ++ marksE).length = n + 12 := by rw [List.length_append, HEL0.out, marksE_len]
          rw [hel] at hown
          have HST2 := Lib.hid hst
          rcases hown.2 with ⟨_, h⟩ | ⟨g, cap, cur, rfl, _, _, hnc, _⟩
          · omega
          · clear hown hgl hat hmono hst hel
            go_wp2_with fail
            go_ret
            exact ⟨g, cap, rfl, hnc, HST2.out, HBj.out⟩

end Go.Proofs.Ytmeljjijofkllaa
