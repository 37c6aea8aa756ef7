import Derived.Test.YtmeljjijofkllaaJ3
import Derived.Test.YtmeljjijofkllaaE0
/- EnvelopeJoins: for any two envelopes and any number: Join answers what the document says; the lists stay and are not kept. No condition. -/
namespace Go.Proofs.Ytmeljjijofkllaa.joi
open Go.ChangeShapes Go.WideShapes Go.ChangeAt Go.RowKit

theorem opens_ext : Opens Try.prog 45 (fun x : Ext => [Value.float .f64 x.at_, Value.int .i64 x.of_]) (fun _ _ => True) :=
  (opens_struct Try.underlying45 (by kernel_rfl) (opensF_cons (opens_float Try.underlying41) rfl (opensF_cons (opens_int Try.underlying3) (by kernel_rfl) opensF_nil))).map (fun x => ⟨x.1, x.2.1⟩) (fun _ => rfl) (fun _ _ _ => trivial)
theorem opens_rng : Opens Try.prog 47 Rng.cells (fun _ _ => True) :=
  (opens_struct Try.underlying47 (by kernel_rfl) (opensF_cons opens_ext rfl (opensF_cons opens_ext (by kernel_rfl) opensF_nil))).map (fun x => ⟨x.1, x.2.1⟩) (fun _ => rfl) (fun _ _ _ => trivial)
theorem opens_rngs : Opens Try.prog 24 (fun x : SlV Rng => [Value.slice x.A x.xs.length x.c]) (OkSl Try.prog 47 Rng.cells 4 fun _ _ => True) :=
  opens_slice Try.underlying24 (by kernel_rfl) (by omega) Rng.clen opens_rng

set_option maxRecDepth 100000 in
theorem lifted (os : Os) (started : os.Started) (H : Type) (enc : TypeId × Value → H) :
    ReturnsInHanded {} Try.checked os 5 .any (Rows.envelopeJoinsSpec.pre6 enc Try.prog Try.f5 Rows.envelopeJoinsRow.domain false) (Rows.envelopeJoinsSpec.post enc Try.prog Try.f5 false true false false) := by
  refine returnsInHanded_of_change_sized (C := Try.checked) own started (by kernel_rfl) Try.func5
    (ChangeSpec.witness6 (enc := enc) (C := Try.checked) false ⟨#[], #[.slice none 0 0, .slice none 0 0, .int .i64 0], []⟩ 8 (by kernel_rfl) (by kernel_rfl) (by kernel_rfl) (by kernel_rfl)) ?_
  intro W base args ds gs before hval0 hW hcnd hreach _
  have hval : ∀ (j : Nat) t v, Try.f5.params[j]? = some t → args[j]? = some v → Value.okWide Try.prog W .any base t v := hval0
  have hW' := hW
  obtain ⟨p, q, hA0, hV, rfl, hfz, hnd⟩ := hW
  have hA : DataW.TrodAll enc Try.prog W 0 (fun _ => true) true Try.f5.params.toList args.toList ds p := hA0
  rw [Try.params5] at hA hval
  obtain ⟨v0, vs0, d0, ds0, p0, q0, hargs, rfl, rfl, h0, r0⟩ := trodAll_cons hA
  obtain ⟨v1, vs1, d1, ds1, p1, q1, hargs1, rfl, rfl, h1, r1⟩ := trodAll_cons r0
  obtain ⟨v2, vs2, d2, ds2, p2, q2, hargs2, rfl, rfl, h2, r2⟩ := trodAll_cons r1
  obtain ⟨rfl, rfl, rfl⟩ := trodAll_nil r2
  subst hargs2
  subst hargs1
  obtain rfl : args = #[v0, v1, v2] := by cases args; simp_all
  obtain ⟨rfl, rfl⟩ := trodVars_none hV
  obtain ⟨a0, len0, cap0, rfl⟩ := okWide_slice Try.underlying24 (hval 0 24 v0 rfl rfl)
  obtain ⟨a1, len1, cap1, rfl⟩ := okWide_slice Try.underlying24 (hval 1 24 v1 rfl rfl)
  have k0 := h0
  have k1 := h1
  have k2 := h2
  have lt0 : ∀ x ∈ p0, x.block < W.heap.size := by obtain ⟨m, hm⟩ := k0; exact DataW.trod_lt m _ _ _ hm
  have lt1 : ∀ x ∈ p1, x.block < W.heap.size := by obtain ⟨m, hm⟩ := k1; exact DataW.trod_lt m _ _ _ hm
  have lt2 : ∀ x ∈ p2, x.block < W.heap.size := by obtain ⟨m, hm⟩ := k2; exact DataW.trod_lt m _ _ _ hm
  obtain ⟨n2, rfl, rfl, rfl, wf2⟩ := open_int Try.underlying3 (hval 2 3 v2 rfl rfl) h2
  obtain ⟨fuel0, hf0⟩ := h0
  obtain ⟨x0, hx0, hok0⟩ := opens_rngs H enc W 0 _ true fuel0 _ (d0, p0) hf0 (fun k hk => by
    have h := List.all_eq_true.1 hreach k (DataW.weights_mem_each (j := 0) (t := 24) (d := d0) rfl rfl k hk)
    simpa using h)
  obtain ⟨fuel1, hf1⟩ := h1
  obtain ⟨x1, hx1, hok1⟩ := opens_rngs H enc W 0 _ true fuel1 _ (d1, p1) hf1 (fun k hk => by
    have h := List.all_eq_true.1 hreach k (DataW.weights_mem_each (j := 1) (t := 24) (d := d1) rfl rfl k hk)
    simpa using h)
  rw [cells_slice] at hx0 hx1
  simp only [List.cons.injEq, Value.slice.injEq, and_true] at hx0 hx1
  obtain ⟨rfl, rfl, rfl⟩ := hx0
  obtain ⟨rfl, rfl, rfl⟩ := hx1
  clear hA0 hval0
  refine (joins_walk _ _ _ _ _ _ _ _ _ _ _ W hok0.1 hok1.1 (fun _ h => h) (fun _ h => h)).mono fun e W' ⟨he, bel⟩ => ?_
  subst he
  exact ⟨_, rfl, _, _, _, [], _, [], hW', trodAll_mk1 (shut_bool Try.underlying4 _), trodAll_mk3 (Below.trod laidOut (by kernel_rfl) (of_decide_eq_true (by kernel_rfl)) k0 bel lt0) (Below.trod laidOut (by kernel_rfl) (of_decide_eq_true (by kernel_rfl)) k1 bel lt1) (Below.trod laidOut (by kernel_rfl) (of_decide_eq_true (by kernel_rfl)) k2 bel lt2), rfl, bel.frame _, fun h => by cases h⟩

theorem proved : Rows.EnvelopeJoinsSaid :=
  OpenClaim.holds_of_wide 5 Try.f5 rfl rfl rfl rfl rfl rfl rfl ⟨rfl, rfl, rfl, rfl, rfl⟩ rfl rfl rfl rfl rfl (by kernel_rfl) Try.func5 (by kernel_rfl)
    (of_decide_eq_true (by kernel_rfl)) (by unfold Func.isWrapper; first | (rw [if_pos (by decide +kernel)]; kernel_rfl) | (rw [if_neg (by decide +kernel)]; exact ⟨rfl, rfl⟩))
    (fun os started H enc _ => lifted os started H enc)
#print axioms proved
end Go.Proofs.Ytmeljjijofkllaa.joi
