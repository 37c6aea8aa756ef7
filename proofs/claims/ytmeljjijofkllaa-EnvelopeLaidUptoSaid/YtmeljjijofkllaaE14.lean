import Derived.Test.YtmeljjijofkllaaE13
import Derived.Test.YtmeljjijofkllaaE0
import Derived.Test.YtmeljjijofkllaaOPB
/- EnvelopeLaid: the envelopes of two parts of any lists, laid together, are the envelope of all; where what is read is of bulk at most 1048576. -/
namespace Go.Proofs.Ytmeljjijofkllaa.lai
open Go.ChangeShapes Go.WideShapes Go.ChangeAt Go.RowKit

theorem opensB_spn : OpensB Try.prog 43 Spn.cells (fun _ _ => True) (fun _ => 1) := Opens.bulk opens_spn
theorem opensB_spans : OpensB Try.prog 31 (fun x : SlV Spn => [Value.slice x.A x.xs.length x.c]) (OkSl Try.prog 43 Spn.cells 2 fun _ _ => True) (fun x => x.xs.length) :=
  (opensB_slice Try.underlying31 (by kernel_rfl) (by omega) Spn.clen opensB_spn).map id (fun _ => rfl) (fun _ _ h => h) (fun a => by rw [List.map_const', List.sum_replicate_nat]; simp)
theorem opensB_rows : OpensB Try.prog 22 (fun x : SlV (SlV Spn) => [Value.slice x.A x.xs.length x.c]) (OkSl Try.prog 31 (fun x : SlV Spn => [Value.slice x.A x.xs.length x.c]) 1 (OkSl Try.prog 43 Spn.cells 2 fun _ _ => True)) (fun x => (x.xs.map fun y => y.xs.length).sum + 1) :=
  opensB_slice Try.underlying22 (by kernel_rfl) (by omega) (fun _ => rfl) opensB_spans
theorem sum_ge {α : Type} (f : α → Nat) : ∀ (l : List α) (i : Nat) (x : α), l[i]? = some x → f x ≤ (l.map f).sum
  | a :: l, 0, x, h => by simp at h; subst h; simp
  | a :: l, i + 1, x, h => by
    have := sum_ge f l i x (by simpa using h)
    simp only [List.map_cons, List.sum_cons]
    omega

set_option maxRecDepth 100000 in
theorem lifted (os : Os) (started : os.Started) (H : Type) (enc : TypeId × Value → H) (F0 : Stop.Interp) :
    ReturnsInHanded {} Try.checked os 6 .any ((Rows.OpenSpec.upto Rows.envelopeLaidSpec).pre6 enc Try.prog Try.f6 Rows.envelopeLaidRow.domain false) (((Rows.OpenSpec.upto Rows.envelopeLaidSpec).at F0).post enc Try.prog Try.f6 false true false false) := by
  refine returnsInHanded_of_cond_sized (C := Try.checked) (s := Rows.OpenSpec.upto Rows.envelopeLaidSpec) (k := Rows.uptoSmall) rfl own started (by kernel_rfl) Try.func6
    (OpenSpec.witness (enc := enc) (C := Try.checked) (s := Rows.OpenSpec.upto Rows.envelopeLaidSpec) (k := Rows.uptoSmall) rfl false ⟨#[], #[.slice none 0 0, .int .i64 0], []⟩ 8 (by kernel_rfl) (by kernel_rfl) (by kernel_rfl)
      (x := ([.nil, .lit (.int .i64 0)], [], [])) (by kernel_rfl) (by kernel_rfl) (by kernel_rfl)) ?_
  intro W base args ds gs before hval0 hW hcnd hk hreach _
  have hval : ∀ (j : Nat) t v, Try.f6.params[j]? = some t → args[j]? = some v → Value.okWide Try.prog W .any base t v := hval0
  have hW' := hW
  obtain ⟨p, q, hA0, hV, rfl, hfz, hnd⟩ := hW
  have hA : DataW.TrodAll enc Try.prog W 0 (fun _ => true) true Try.f6.params.toList args.toList ds p := hA0
  rw [Try.params6] at hA hval
  obtain ⟨v0, vs0, d0, ds0, p0, q0, hargs, rfl, rfl, h0, r0⟩ := trodAll_cons hA
  obtain ⟨v1, vs1, d1, ds1, p1, q1, hargs1, rfl, rfl, h1, r1⟩ := trodAll_cons r0
  obtain ⟨rfl, rfl, rfl⟩ := trodAll_nil r1
  subst hargs1
  obtain rfl : args = #[v0, v1] := by cases args; simp_all
  obtain ⟨rfl, rfl⟩ := trodVars_none hV
  obtain ⟨a0, len0, cap0, rfl⟩ := okWide_slice Try.underlying22 (hval 0 22 v0 rfl rfl)
  have k0 := h0
  have k1 := h1
  have lt0 : ∀ x ∈ p0, x.block < W.heap.size := by obtain ⟨m, hm⟩ := k0; exact DataW.trod_lt m _ _ _ hm
  have lt1 : ∀ x ∈ p1, x.block < W.heap.size := by obtain ⟨m, hm⟩ := k1; exact DataW.trod_lt m _ _ _ hm
  obtain ⟨n1, rfl, rfl, rfl, wf1⟩ := open_int Try.underlying3 (hval 1 3 v1 rfl rfl) h1
  obtain ⟨fuel0, hf0⟩ := h0
  obtain ⟨x0, hx0, hok0, hz0⟩ := opensB_rows H enc W 0 _ true fuel0 _ (d0, p0) hf0 (fun k hk => by
    have h := List.all_eq_true.1 hreach k (DataW.weights_mem_each (j := 0) (t := 22) (d := d0) rfl rfl k hk)
    simpa using h)
  rw [cells_slice] at hx0
  simp only [List.cons.injEq, Value.slice.injEq, and_true] at hx0
  obtain ⟨rfl, rfl, rfl⟩ := hx0
  obtain ⟨g1, g2, g3, g4, g5⟩ := rows_of hok0
  have hbulk : Rows.uptoBulk d0 ≤ 1048576 := by
    have h : Rows.uptoBulkAll ([d0, DataW.lit (.int .i64 n1)] ++ []) ≤ 1048576 := of_decide_eq_true hk
    simp only [Rows.uptoBulkAll, List.cons_append, List.nil_append] at h
    omega
  have g6 : ∀ (i : Nat) (l : List Spn), (x0.xs.map (·.xs))[i]? = some l → l.length ≤ 1000000000000 := by
    intro i l hl
    rw [List.getElem?_map, Option.map_eq_some_iff] at hl
    obtain ⟨y, hy, rfl⟩ := hl
    have h := sum_ge (fun y : SlV Spn => y.xs.length) x0.xs i y hy
    simp only at h hz0
    omega
  have wr : -9223372036854775808 ≤ n1 ∧ n1 ≤ 9223372036854775807 := by
    have h := wf1
    simp only [Lit.wf, Bool.and_eq_true, decide_eq_true_eq] at h
    exact h
  clear hA0 hval0
  refine (laid_walk _ _ _ _ _ _ W g1 (fun _ h => h) g2 g3 g4 g6 wr.1 wr.2).mono fun e W' ⟨he, bel⟩ => ?_
  subst he
  exact ⟨_, rfl, _, _, _, [], _, [], hW', trodAll_mk1 (shut_bool Try.underlying4 _), trodAll_mk2 (Below.trod laidOut (by kernel_rfl) (of_decide_eq_true (by kernel_rfl)) k0 bel lt0) (Below.trod laidOut (by kernel_rfl) (of_decide_eq_true (by kernel_rfl)) k1 bel lt1), rfl, bel.frame _, fun h => by cases h⟩

theorem proved : Rows.EnvelopeLaidUptoSaid :=
  OpenClaim.holds_of_cond 6 Try.f6 rfl rfl rfl rfl rfl rfl rfl ⟨rfl, rfl, rfl, rfl, rfl⟩ rfl rfl rfl rfl rfl (by kernel_rfl) Try.func6 (by kernel_rfl)
    (of_decide_eq_true (by kernel_rfl)) (by unfold Func.isWrapper; first | (rw [if_pos (by decide +kernel)]; kernel_rfl) | (rw [if_neg (by decide +kernel)]; exact ⟨rfl, rfl⟩))
    (fun os started H enc _ F0 => lifted os started H enc F0)
#print axioms proved
end Go.Proofs.Ytmeljjijofkllaa.lai
