import Derived.Test.YtmeljjijofkllaaE2
namespace Go.Proofs.Ytmeljjijofkllaa
open Go.RowKit Go.Sort

abbrev Spn.cells (x : Spn) : List Value := [.float .f64 x.lo, .float .f64 x.hi]
abbrev Rng.cells (x : Rng) : List Value := [.float .f64 x.least.at_, .int .i64 x.least.of_, .float .f64 x.most.at_, .int .i64 x.most.of_]
theorem Spn.clen (x : Spn) : x.cells.length = 2 := rfl
theorem Rng.clen (x : Rng) : x.cells.length = 4 := rfl
theorem spn_one (xs : List Spn) : ∀ u ∈ xs.flatMap Spn.cells, u.oneCell' = true := by
  intro u hu
  obtain ⟨x, _, hx⟩ := List.mem_flatMap.1 hu
  simp [Spn.cells] at hx
  rcases hx with rfl | rfl <;> rfl
theorem rng_one (xs : List Rng) : ∀ u ∈ xs.flatMap Rng.cells, u.oneCell' = true := by
  intro u hu
  obtain ⟨x, _, hx⟩ := List.mem_flatMap.1 hu
  simp [Rng.cells] at hx
  rcases hx with rfl | rfl | rfl | rfl <;> rfl

theorem info_span : (Try.prog.info? 43).map (fun i => (i.zero, i.size, i.bytes)) = some (some (.agg #[.float .f64 0, .float .f64 0]), 2, 16) := by kernel_rfl
theorem info_rng : (Try.prog.info? 47).map (fun i => (i.zero, i.size, i.bytes)) = some (some (.agg #[.float .f64 0, .int .i64 0, .float .f64 0, .int .i64 0]), 4, 32) := by kernel_rfl
theorem info_row : (Try.prog.info? 31).map (fun i => (i.zero, i.size, i.bytes)) = some (some (.slice none 0 0), 1, 24) := by kernel_rfl

theorem copySpans_any (A : Option Addr) (n c : Nat) (xs : List Spn) (S : Nat → Prop) (w : World) (hx : RdE Spn.cells 2 w S A n xs) (hn : n ≤ 8796093021952) :
    Calls Try.prog 25 #[.slice A n c] w fun e w' => ∃ v, e = .returned v ∧ w'.ownsRow w.heap.size 43 2 v n (xs.flatMap Spn.cells) ∧ Below w.heap.size w w' := by
  obtain ⟨i0, hi0, hz0, hz1, hz2⟩ := info_parts info_span
  have HX := Lib.hid hx
  clear hx
  go_enter Try.func25, Try.ntmps25
  go_wp2_with (at_builtin; refine wpList_append_rd _ rfl (.tmp 4) (.tmp 5) _ rfl w.heap.size 43 i0 _ 2 16 Try.underlying31 hi0 hz0 hz1 hz2 rfl (by omega) (.slice none 0 0) 0 [] rfl (World.ownsRow_nil _ _ _ _) S A n c (xs.flatMap Spn.cells) rfl HX.out.rd (spn_one xs) (by simp only [maxLen]; omega) (by omega) (Nat.le_refl _) ?_; intro v1 w1 hown1 hg1 hat1)
  go_ret
  refine ⟨v1, rfl, by simpa using hown1, below_of_grown hg1 (by simp [Value.ownBlock])⟩

theorem own_below {w w' : World} {base e size n : Nat} {v : Value} {vs : List Value} (h : w.ownsRow base e size v n vs) (hb : Below w.heap.size w w') : w'.ownsRow base e size v n vs :=
  h.kept (row := none) ⟨hb.os, hb.tape, hb.output, hb.size, fun k hk _ => hb.block k hk⟩ (by cases v.ownBlock <;> simp)
theorem own_one {w : World} {base e size n : Nat} {v : Value} {vs : List Value} (h : w.ownsRow base e size v n vs) : v.oneCell' = true := by
  obtain ⟨A, c, rfl, _⟩ := own_slice h
  rfl
theorem one_one {v : Value} (h : v.oneCell' = true) : ∀ u ∈ [v], u.oneCell' = true := by simpa using h
theorem rd_one (w : World) (v : Value) (t : TypeId) (S : Nat → Prop) (hS : S w.heap.size) : Rd (w.alloc (.cells #[v] t)) S 1 (some ⟨w.heap.size, 0, none⟩) 1 [v] :=
  ⟨rfl, fun j u hj => ⟨w.heap.size, 0, rfl, hS, by have h := cell_one_new w v t j u hj; rw [add_off] at h; exact h⟩⟩

theorem copyRows_any (A : Option Addr) (n c : Nat) (L : List (List Spn)) (S : Nat → Prop) (w : World) (hx : RdRows Spn.cells 2 w S A n L) (hS : ∀ b, S b → b < w.heap.size) (hn : n ≤ 1000000000) (hL : ∀ (i : Nat) (l : List Spn), L[i]? = some l → l.length ≤ 8796093021952) :
    Calls Try.prog 9 #[.slice A n c] w fun e w' => ∃ A' c', e = .returned (.slice A' n c') ∧ n ≤ c' ∧ RdRows Spn.cells 2 w' (fun b => w.heap.size ≤ b ∧ b < w'.heap.size) A' n L ∧ Below w.heap.size w w' := by
  obtain ⟨i0, hi0, hz0, hz1, hz2⟩ := info_parts info_row
  have HX := Lib.hid hx
  clear hx
  go_enter Try.func9, Try.ntmps9
  go_wp2
  go_loopw [3, 4] (fun v i wr => ∃ k : Nat, k ≤ n ∧ i = .int .i64 k ∧ MadeRows Spn.cells 2 w.heap.size 31 wr v k L ∧ Below w.heap.size w wr) (fun _ i _ => n - (intOf i).toNat)
  case atStart => exact ⟨0, Nat.zero_le _, rfl, MadeRows.start .., Below.refl _ _⟩
  case round =>
    obtain ⟨k, hk, rfl, hm, hb⟩ := hrel
    by_cases hlt : k < n
    · obtain ⟨l, hl⟩ := get_some HX.out.num hlt
      obtain ⟨b, o, A1, c1, rfl, hSb, hcell, hlc, hr⟩ := HX.out.row hl
      have hln := hL k l hl
      rw [← hb.cell (p := ⟨b, o + k, none⟩) (hS b hSb)] at hcell
      have HR := Lib.hid (hr.keep (Keeps.below hb hS))
      have HL := Lib.hid hl
      have HM := Lib.hid hm
      have HB := Lib.hid hb
      clear hr hl hm hb hL hS
      obtain ⟨vs, hown, hvs⟩ := HM.out.own
      have HV := Lib.hid hvs
      clear hvs
      go_wp2_with fail
      refine (copySpans_any A1 l.length c1 l S _ HR.out hln).mono ?_
      rintro e w1 ⟨v1, rfl, hown1, hb1⟩
      obtain ⟨A2, c2, rfl, hc2, _⟩ := own_slice hown1
      have hB := HB.out.size
      have ho1 := Lib.hid (own_below hown hb1)
      have hv1 := Lib.hid (own_one hown1)
      have HB1 := Lib.hid hb1
      have HO1 := Lib.hid hown1
      have HO := Lib.hid hown
      have hzz1 := HB1.out.size
      clear hb1 hown1 hown
      go_wp2_with (at_builtin; go_must (refine wpList_append_rd _ rfl (.tmp 11) (.tmp 17) _ rfl w.heap.size 31 i0 _ 1 24 Try.underlying22 hi0 hz0 hz1 hz2 rfl (by omega) _ k vs rfl (ho1.out.alloc _) (fun _ => True) (some ⟨w1.heap.size, 0, none⟩) 1 1 [Value.slice A2 l.length c2] rfl (rd_one _ _ _ _ trivial) (one_one hv1.out) (by simp only [maxLen]; omega) (by omega) (by simp; omega) ?_); intro v2 w2 hown2 hg2 hat2)
      have HM2 := Lib.hid (MadeRows.step Spn.clen (by omega) hB HO.out HV.out HL.out HO1.out HB1.out hown2 hg2 hat2)
      have HB2 := Lib.hid (HB.out.trans ((below_then HB1.out (below1 _ _)).mono hB |>.trans (Below.grown (Below.refl w.heap.size _) hg2 (by simp; omega) (fun g hg => (HO.out.lt g hg).1))))
      clear hown2 hg2 hat2
      go_wp2
      go_roundw
      case rel => exact ⟨k + 1, by omega, by go_num, HM2.out, HB2.out⟩
      case measure => simp [intOf]; omega
    · obtain rfl : k = n := by omega
      have HM := Lib.hid hm
      have HB := Lib.hid hb
      clear hm hb
      go_wp2
      go_ret
      obtain ⟨A', c', e, hc, hr⟩ := HM.out.done HX.out.num
      exact ⟨A', c', by rw [← e]; rfl, hc, hr, HB.out⟩

end Go.Proofs.Ytmeljjijofkllaa
