import Derived.Test.YtjokpfgncmdomaaGreatDoorX26
/- RatioMakes: whatever the ratio, the float and the dyad: Norm, Right, Of and OfDyad answer as girderref07 does, and what is handed in stays. No condition but the table of math/bits as its initialiser lays it (the card ties it). -/
namespace Go.Proofs.YtjokpfgncmdomaaGreatDoor.mks
open Go.ChangeShapes Go.WideShapes Go.ChangeAt Go.RowKit

theorem fat_of {W : World} {x : RatA} (h : RatA.Ok W x) : FAt W (.agg #[.bool x.neg, .slice x.num.A x.num.xs.length x.num.c, .slice x.den.A x.den.xs.length x.den.c]) x.r := by
  obtain ⟨⟨h1, h2, h3, h4, h5, h6⟩, ⟨k1, k2, k3, k4, k5, k6⟩⟩ := h
  exact ⟨_, _, rfl, ⟨_, _, rfl, h3, h1⟩, ⟨_, _, rfl, k3, k1⟩⟩
/-- a dyad's three cells -/
structure DyA where
  neg : Bool
  mag : SlV Nat
  exp : Int
def DyA.cells (x : DyA) : List Value := [.bool x.neg, .slice x.mag.A x.mag.xs.length x.mag.c, .int .i64 x.exp]
def DyA.Ok (W : World) (x : DyA) : Prop := OkSl Tryz.prog 58 Lc 1 (fun _ x => x < W64) W x.mag
theorem opens_dyad : Opens Tryz.prog 46 DyA.cells DyA.Ok :=
  (opens_struct Tryz.underlying46 (by kernel_rfl) (opensF_cons (opens_bool Tryz.underlying4) rfl (opensF_cons opens_limbs (by kernel_rfl) (opensF_cons (opens_int Tryz.underlying3) (by kernel_rfl) opensF_nil)))).map (fun x => ⟨x.1, x.2.1, x.2.2.1⟩) (fun _ => rfl) (fun _ _ h => h.2.1)
def DyA.d (x : DyA) : DV := ⟨x.neg, x.mag.xs, x.exp⟩
theorem DyA.at {W : World} {x : DyA} (h : DyA.Ok W x) : LAt W (.slice x.mag.A x.mag.xs.length x.mag.c) x.mag.xs ∧ Lds x.mag.xs ∧ x.mag.xs.length ≤ 100000000000000 := by
  obtain ⟨h1, h2, h3, _, h5, _⟩ := h
  rw [bytes_u64] at h5
  have hr : reachBytes = 140737488351232 := rfl
  exact ⟨⟨_, _, rfl, h3, h1⟩, fun a ha => h2 a ha, by omega⟩
theorem laid_met (os : Os) (args : Array Value) : laidMet Tryz.prog Rows.ratioMakesRow.laid ((World.doorLaid Tryz.prog 400 os).forCall (fun _ _ => 0) ⟨#[], args, []⟩).memory := by
  exact laidMet_of_run' 8 (by kernel_rfl) (by kernel_rfl)

set_option maxRecDepth 100000 in
theorem lifted (os : Os) (started : os.Started) (H : Type) (enc : TypeId × Value → H) :
    ReturnsInHanded {} Tryz.checked os 6 .any (fun w args => (Rows.ratioMakesSpec.pre enc Tryz.prog Tryz.f6 [] false w args ∧ laidMetH Tryz.prog Rows.ratioMakesRow.laid w) ∧ sizedMet enc Tryz.prog Tryz.f6 (OpenSpec.ofChange Rows.ratioMakesSpec) false w args)
      (Rows.ratioMakesSpec.post enc Tryz.prog Tryz.f6 false true false false) := by
  refine returnsInHanded_of_change_and (C := Tryz.checked) (X := fun w _ => laidMetH Tryz.prog Rows.ratioMakesRow.laid w) (fun _ _ _ hh h => h.of_heap hh) own started (by kernel_rfl) Tryz.func6
    (ChangeSpec.witness_shaped (enc := enc) (C := Tryz.checked) (os := os) (X := fun w _ => laidMetH Tryz.prog Rows.ratioMakesRow.laid w) false (World.doorLaid Tryz.prog 400 os) #[.agg #[.bool false, .slice none 0 0, .slice none 0 0], .float .f64 0, .agg #[.bool false, .slice none 0 0, .int .i64 0]] 8 rfl (World.shaped_of_RefB (by kernel_rfl) (by kernel_rfl)) (by kernel_rfl) (by kernel_rfl) (by kernel_rfl) (laid_met os _)) ?_
  intro W base args ds gs before hval0 hW hcnd hreach hL _
  have hval : ∀ (j : Nat) t v, Tryz.f6.params[j]? = some t → args[j]? = some v → Value.okWide Tryz.prog W .any base t v := hval0
  have hW' := hW
  obtain ⟨p, q, hA0, hV, rfl, hfz, hnd⟩ := hW
  have hA : DataW.TrodAll enc Tryz.prog W 0 (fun _ => true) true Tryz.f6.params.toList args.toList ds p := hA0
  rw [Tryz.params6] at hA hval
  obtain ⟨v0, vs0, d0, ds0, p0, q0, hargs, rfl, rfl, h0, r0⟩ := trodAll_cons hA
  obtain ⟨v1, vs1, d1, ds1, p1, q1, rfl, rfl, rfl, h1, r1⟩ := trodAll_cons r0
  obtain ⟨v2, vs2, d2, ds2, p2, q2, rfl, rfl, rfl, h2, r2⟩ := trodAll_cons r1
  obtain ⟨rfl, rfl, rfl⟩ := trodAll_nil r2
  obtain rfl : args = #[v0, v1, v2] := by cases args; simp_all
  obtain ⟨rfl, rfl⟩ := trodVars_none hV
  obtain ⟨cs0, rfl, _⟩ := okWide_struct Tryz.underlying24 (hval 0 24 v0 rfl rfl)
  obtain ⟨u, rfl⟩ := okWide_float Tryz.underlying29 (hval 1 29 v1 rfl rfl)
  obtain ⟨cs2, rfl, _⟩ := okWide_struct Tryz.underlying46 (hval 2 46 v2 rfl rfl)
  have k0 := h0
  have k1 := h1
  have k2 := h2
  have lt0 : ∀ x ∈ p0, x.block < W.heap.size := by obtain ⟨m, hm⟩ := k0; exact DataW.trod_lt m _ _ _ hm
  have lt1 : ∀ x ∈ p1, x.block < W.heap.size := by obtain ⟨m, hm⟩ := k1; exact DataW.trod_lt m _ _ _ hm
  have lt2 : ∀ x ∈ p2, x.block < W.heap.size := by obtain ⟨m, hm⟩ := k2; exact DataW.trod_lt m _ _ _ hm
  obtain ⟨fuel0, hf0⟩ := h0
  obtain ⟨fuel1, hf1⟩ := h1
  obtain ⟨fuel2, hf2⟩ := h2
  obtain ⟨x0, hx0, hok0⟩ := opens_ratio H enc W 0 _ true fuel0 _ (d0, p0) hf0 (fun k hk => by
    have h := List.all_eq_true.1 hreach k (DataW.weights_mem_each (j := 0) (t := 24) (d := d0) rfl rfl k hk)
    simpa using h)
  obtain ⟨x1, hx1, hok1⟩ := opens_float Tryz.underlying29 H enc W 0 _ true fuel1 _ (d1, p1) hf1 (fun k hk => by
    have h := List.all_eq_true.1 hreach k (DataW.weights_mem_each (j := 1) (t := 29) (d := d1) rfl rfl k hk)
    simpa using h)
  obtain ⟨x2, hx2, hok2⟩ := opens_dyad H enc W 0 _ true fuel2 _ (d2, p2) hf2 (fun k hk => by
    have h := List.all_eq_true.1 hreach k (DataW.weights_mem_each (j := 2) (t := 46) (d := d2) rfl rfl k hk)
    simpa using h)
  obtain rfl : cs0 = #[.bool x0.neg, .slice x0.num.A x0.num.xs.length x0.num.c, .slice x0.den.A x0.den.xs.length x0.den.c] := Array.toList_inj.1 hx0
  obtain rfl : cs2 = #[.bool x2.neg, .slice x2.mag.A x2.mag.xs.length x2.mag.c, .int .i64 x2.exp] := Array.toList_inj.1 hx2
  obtain rfl : u = x1 := by
    have h : [Value.float .f64 u] = [Value.float .f64 x1] := hx1
    simpa using h
  rw [MakeChecks.laidMetH_plain _ _ _ (by kernel_rfl)] at hL
  have hw : Laid W := laid_of hL
  have a0 := RatA.at hok0
  have a2 := DyA.at hok2
  clear hA0 hval0
  refine (makes_law _ x0.r u _ _ _ x2.d W (fat_of hok0) ⟨a0.1.ldsN, a0.1.ldsD⟩ a0.2.1 a0.2.2 hok1 a2.1 a2.2.1 a2.2.2 hw).mono fun e W' ⟨he, bel⟩ => ?_
  subst he
  exact ⟨_, rfl, _, _, _, [], _, [], hW', trodAll_mk1 (shut_bool Tryz.underlying4 _), (trodAll_cons_mk (Below.trod laidOut (by kernel_rfl) (of_decide_eq_true (by kernel_rfl)) k0 bel lt0) (trodAll_cons_mk (Below.trod laidOut (by kernel_rfl) (of_decide_eq_true (by kernel_rfl)) k1 bel lt1) (trodAll_cons_mk (Below.trod laidOut (by kernel_rfl) (of_decide_eq_true (by kernel_rfl)) k2 bel lt2) trodAll_mk0))), rfl, bel.frame _, fun h => by cases h⟩

theorem row : Rows.RatioMakesSaid :=
  OpenClaim.holds_of_wide 6 Tryz.f6 rfl rfl rfl rfl rfl rfl rfl ⟨rfl, rfl, rfl, rfl, rfl⟩ rfl rfl rfl rfl rfl (by kernel_rfl) Tryz.func6 (by kernel_rfl)
    (of_decide_eq_true (by kernel_rfl)) (by unfold Func.isWrapper; first | (rw [if_pos (by decide +kernel)]; kernel_rfl) | (rw [if_neg (by decide +kernel)]; exact ⟨rfl, rfl⟩))
    (fun os started H enc _ => lifted os started H enc)

theorem proved : Rows.RatioMakesCardSaid :=
  Claim7.holds_tied_plain_at .later [] [.data] true (true, "7567d55c41302e0e584973fbe62296a0c60aa3dd951f64f2d47ec17fcc7c0185") false
    row (fun _ h => by cases h) (by kernel_rfl) (fun _ h => by cases h) ratioMakes_row_tie rfl ⟨rfl, rfl⟩ (by kernel_rfl) rfl
    (fun f fn hf hfn => by
      obtain rfl : f = 6 := Option.some.inj ((show Tryz.prog.funcNamed "girder/girderlaw07.RatioMakes" = some 6 by kernel_rfl).symm.trans hf) |>.symm
      obtain rfl : fn = Tryz.f6 := (Option.some.inj (Tryz.func6.symm.trans hfn)).symm
      exact ⟨by kernel_rfl, fun j t ht => by
        rw [Tryz.params6] at ht
        have h3 : t = 24 ∨ t = 29 ∨ t = 46 := by
          rcases j with _ | _ | _ | j
          · left; simpa using ht.symm
          · right; left; simpa using ht.symm
          · right; right; simpa using ht.symm
          · simp at ht
        rcases h3 with rfl | rfl | rfl
        · exact (show Tryz.prog.wantsStandIn 24 = false by kernel_rfl)
        · exact (show Tryz.prog.wantsStandIn 29 = false by kernel_rfl)
        · exact (show Tryz.prog.wantsStandIn 46 = false by kernel_rfl)⟩)
    (by kernel_rfl)
#print axioms proved
end Go.Proofs.YtjokpfgncmdomaaGreatDoor.mks
