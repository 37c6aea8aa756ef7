import Derived.Test.YtfepmbpcdfdlhaaX15
set_option linter.unusedSimpArgs false
set_option linter.unusedVariables false
/- rank.of: the walk -/
namespace Go.Proofs.Ytfepmbpcdfdlhaa
open Go.RowKit Go.Sort

def Zc (z : Int) : List Value := [.int .i64 z]
theorem Zc.clen (z : Int) : (Zc z).length = 1 := rfl
def Z63 (z : Int) : Prop := -9223372036854775808 ≤ z ∧ z ≤ 9223372036854775807
theorem info_pint : (Try.prog.info? 72).map (fun i => (i.zero, i.size, i.bytes)) = some (some (.pointer none), 1, 8) := by kernel_rfl
theorem info_prow : (Try.prog.info? 82).map (fun i => (i.zero, i.size, i.bytes)) = some (some (.slice none 0 0), 1, 24) := by kernel_rfl
/-- the grid's rows -/
def gridT (xs : List Int) (R C : Nat) : List (List Int) := (List.range R).map fun i => (xs.drop (i * C)).take C
theorem gridT_len (xs : List Int) (R C : Nat) : (gridT xs R C).length = R := by simp [gridT]
theorem gridT_succ (xs : List Int) (R C : Nat) : gridT xs (R + 1) C = gridT xs R C ++ [(xs.drop (R * C)).take C] := by simp [gridT, List.range_succ]
theorem gridT_rect {xs : List Int} {R C : Nat} (h : xs.length = R * C) : rect (gridT xs R C) R C := by
  refine ⟨gridT_len .., fun row hr => ?_⟩
  unfold gridT at hr
  obtain ⟨i, hi, rfl⟩ := List.mem_map.1 hr
  rw [List.length_take, List.length_drop, h]
  have h1 : (i + 1) * C ≤ R * C := Nat.mul_le_mul_right C (by have := List.mem_range.1 hi; omega)
  rw [Nat.add_mul, Nat.one_mul] at h1
  omega
theorem take_more {xs : List Int} {o k : Nat} {x : Int} (hx : xs[o + k]? = some x) : (xs.drop o).take (k + 1) = (xs.drop o).take k ++ [x] := by
  rw [List.take_add_one, List.getElem?_drop, hx]; rfl
theorem gridT_le {xs : List Int} {M R C : Nat} (h : ∀ x ∈ xs, x.natAbs ≤ M) (i k : Nat) : (tf (gridT xs R C) i k).natAbs ≤ M := by
  cases hr : (gridT xs R C)[i]? with
  | none => rw [tf_out hr]; simp
  | some row =>
    rw [tf_get hr, List.getD_eq_getElem?_getD]
    cases hz : row[k]? with
    | none => simp
    | some z =>
      have h1 := List.mem_of_getElem? hr
      unfold gridT at h1
      obtain ⟨j, _, rfl⟩ := List.mem_map.1 h1
      exact h z (List.mem_of_mem_drop (List.mem_of_mem_take (List.mem_of_getElem? hz)))

set_option maxRecDepth 100000 in
set_option maxHeartbeats 8000000 in
/-- reduce, where there is nothing to do -/
theorem reduce_none (gt R cR cols : Nat) (A : Option Addr) (w : World) (hcols : cols ≤ 1000000)
    (h0 : w.cell? ⟨gt, 0, none⟩ = some (.slice A R cR)) (h1 : w.cell? ⟨gt, 1, none⟩ = some (.slice none 0 0)) (h2 : w.cell? ⟨gt, 2, none⟩ = some (.pointer none)) (hfz : ∀ j, w.frozen? ⟨gt, j, none⟩ = false)
    (hz : R = 0 ∨ cols = 0) :
    Calls Try.prog 45 #[PtrV gt, .int .i64 (cols : Int)] w fun e w' => e = .returned (.tuple #[]) ∧ w'.cell? ⟨gt, 1, none⟩ = some (.slice none 0 0) ∧ w'.cell? ⟨gt, 0, none⟩ = some (.slice A R cR) ∧ UpS w w' (fun b => b = gt) := by
  have hl : gt < w.heap.size := World.block_lt_of_cell? w ⟨gt, 0, none⟩ h0
  have HH := Lib.hid (And.intro h0 (And.intro h1 (And.intro h2 (And.intro hfz hl))))
  have HZ := Lib.hid hz
  clear h0 h1 hl hz
  go_enter Try.func45, Try.ntmps45
  go_wp2_with fail
  refine (newInt_int 1 w (by omega) (by omega)).mono ?_
  rintro e wA ⟨gl, rfl, hgl, hgl2, hi, hb⟩
  have a2 : wA.cell? ⟨gt, 2, none⟩ = some (.pointer none) := bat hb h2
  have af : wA.frozen? ⟨gt, 2, none⟩ = false := bfz hb HH.out.2.2.2.2 (hfz 2)
  obtain ⟨w1, hw1⟩ : ∃ w1, w1 = wA.setCell ⟨gt, 2, none⟩ (PtrV gl) := ⟨_, rfl⟩
  have hu1 : UpS wA w1 (fun b => b = gt) := by rw [hw1]; exact upS_set a2 (fun kd x e => by cases e)
  have c1 : w1.cell? ⟨gt, 1, none⟩ = some (.slice none 0 0) := by rw [hw1, set_other gt (by omega)]; exact bat hb HH.out.2.1
  have c0 : w1.cell? ⟨gt, 0, none⟩ = some (.slice A R cR) := by rw [hw1, set_other gt (by omega)]; exact bat hb HH.out.1
  have HU := Lib.hid ((UpS.of_below (fun b => b = gt) hb).trans hu1 (fun b _ h => h))
  have C1 := Lib.hid c1
  have C0 := Lib.hid c0
  have HW1 := Lib.hid hw1
  clear hi hb h2 hfz hw1 hu1 c0 c1
  go_wp2_with fail
  rw [← HW1.out]
  clear a2 af
  go_loopw [15] (fun iv wr => ∃ (c : Nat), c ≤ cols ∧ iv = .int .i64 c ∧ wr = w1) (fun iv _ => cols - (intOf iv).toNat)
  case atStart => exact ⟨0, Nat.zero_le _, rfl, rfl⟩
  case round =>
    obtain ⟨c, hc, rfl, rfl⟩ := hrel
    have c0 := C0.out
    have c1 := C1.out
    by_cases hlt : c < cols
    · have hlti : (c : Int) < (cols : Int) := by omega
      obtain rfl : R = 0 := by rcases HZ.out with h | h <;> omega
      go_wp2_with fail
      go_loopw [6] (fun av wx => av = .int .i64 0 ∧ wx = wr) (fun av _ => 0)
      case atStart => exact ⟨rfl, rfl⟩
      case round =>
        obtain ⟨rfl, rfl⟩ := hrel
        go_wp2_with fail
        refine ⟨⟨c + 1, by omega, by go_num, by trivial⟩, by simp [intOf]; omega⟩
    · obtain rfl : c = cols := by omega
      have hnl : ¬ ((c : Int) < (c : Int)) := by omega
      go_wp2_with fail
      exact bodyPost_end (results_none rfl _ _ _) rfl ⟨rfl, C1.out, C0.out, HU.out⟩

end Go.Proofs.Ytfepmbpcdfdlhaa

/- rank.of: the walk -/
namespace Go.Proofs.Ytfepmbpcdfdlhaa
open Go.RowKit Go.Sort

/-- what of answers: the table at gt, its pivots -/
structure OfP (w' : World) (b0 gt R C : Nat) (V : Value) (s : BSt) : Prop where
  c1 : w'.cell? ⟨gt, 1, none⟩ = some V
  ge : b0 ≤ gt
  piv : ∃ base, b0 ≤ base ∧ base ≤ w'.heap.size ∧ OwnR w' base 3 1 Ik V s.piv.length (s.piv.flatMap Ic)
  rst : 0 < R → 0 < C → ∃ G cR base gs gl, b0 ≤ base ∧ RSt w' gt G R C cR base gs V gl s.rows s.piv s.last

theorem brun_none (n : Nat) : (brun [] n).rows = [] ∧ (brun [] n).piv = [] := by
  induction n with
  | zero => exact ⟨rfl, rfl⟩
  | succ n ih =>
    rw [brun_succ]; unfold bstep
    rw [if_pos (by rw [ih.1, ih.2]; rfl)]
    exact ih
theorem brun_empty (n : Nat) : (brun [] n).piv = [] := (brun_none n).2
/-- the memory while the table is made -/
structure OfI (w wr : World) (gg gt R C n cD : Nat) (A : Option Addr) (VR : Value) (vs : List Value) (gs : List Nat) (T : List (List Int)) : Prop where
  tab : BTab wr (w.heap.size + 2) C VR vs gs T
  g0 : wr.cell? ⟨gg, 0, none⟩ = some (.int .i64 (R : Int))
  g1 : wr.cell? ⟨gg, 1, none⟩ = some (.int .i64 (C : Int))
  g2 : wr.cell? ⟨gg, 2, none⟩ = some (.slice A n cD)
  t0 : wr.cell? ⟨gt, 0, none⟩ = some VR
  t1 : wr.cell? ⟨gt, 1, none⟩ = some (.slice none 0 0)
  t2 : wr.cell? ⟨gt, 2, none⟩ = some (.pointer none)
  fz : ∀ j, wr.frozen? ⟨gt, j, none⟩ = false
  bw : Below w.heap.size w wr
  eg : gg = w.heap.size
  et : gt = w.heap.size + 1
  sz : w.heap.size + 2 ≤ wr.heap.size
section
variable {w wr wx : World} {gg gt R C n cD : Nat} {A : Option Addr} {VR : Value} {vs : List Value} {gs : List Nat} {T : List (List Int)}
theorem OfI.below (h : OfI w wr gg gt R C n cD A VR vs gs T) (hb : Below wr.heap.size wr wx) : OfI w wx gg gt R C n cD A VR vs gs T :=
  ⟨h.tab.below hb, bat hb h.g0, bat hb h.g1, bat hb h.g2, bat hb h.t0, bat hb h.t1, bat hb h.t2, fun j => bfz hb (World.block_lt_of_cell? wr ⟨gt, 0, none⟩ h.t0) (h.fz j), h.bw.trans (hb.mono h.bw.size), h.eg, h.et, Nat.le_trans h.sz hb.size⟩
theorem OfI.t0g {w2 : World} (h : OfI w wr gg gt R C n cD A VR vs gs T) (hg : GrowK wr w2 VR.ownBlock Sk) : w2.cell? ⟨gt, 0, none⟩ = some VR ∧ w2.frozen? ⟨gt, 0, none⟩ = false := by
  have hlt := World.block_lt_of_cell? wr ⟨gt, 0, none⟩ h.t0
  have hne : w2.heap[gt]? = wr.heap[gt]? := hg.g.block gt hlt fun e => by
    have := (h.tab.own.own.lt gt e.symm).1
    have := h.et
    omega
  exact ⟨(World.cell?_of_block (a := ⟨gt, 0, none⟩) hne).trans h.t0, (World.frozen?_of_block (a := ⟨gt, 0, none⟩) hne).trans (h.fz 0)⟩
/-- a row is laid to the table -/
theorem OfI.app {w1 w2 w3 : World} {base2 : Nat} {V' U : Value} {ps : List Nat} {zs : List Int} (h : OfI w wr gg gt R C n cD A VR vs gs T)
    (hb : Below wr.heap.size wr w1) (hr : BRow w1 base2 U ps zs) (hl : zs.length = C) (hb2 : wr.heap.size ≤ base2) (hg : GrowK w1 w2 VR.ownBlock Sk)
    (ho : OwnR w2 (w.heap.size + 2) 82 1 Sk V' (vs.length + 1) (vs ++ [U])) (hw : w3 = w2.setCell ⟨gt, 0, none⟩ V') :
    ∃ gs', OfI w w3 gg gt R C n cD A V' (vs ++ [U]) gs' (T ++ [zs]) := by
  have h1 := h.below hb
  obtain ⟨gs', h2⟩ := h.tab.app hb hr hl hb2 h.sz hg ho
  obtain ⟨AV, cV, hV, _, hVA⟩ := own_slice h.tab.own.own
  have hne : ∀ b, b < w.heap.size + 2 → b < w1.heap.size → w2.heap[b]? = w1.heap[b]? := fun b hb1 hb2 => hg.g.block b hb2 fun e => by
    have := (h.tab.own.own.lt b e.symm).1
    omega
  have hs1 := h1.sz
  have hgt : gt < w.heap.size + 2 := by rw [h.et]; omega
  have hgg : gg < w.heap.size + 2 := by rw [h.eg]; omega
  have c : ∀ b o v, b < w.heap.size + 2 → w1.cell? ⟨b, o, none⟩ = some v → w2.cell? ⟨b, o, none⟩ = some v := fun b o v hb hv =>
    (World.cell?_of_block (a := ⟨b, o, none⟩) (hne b hb (World.block_lt_of_cell? w1 ⟨b, o, none⟩ hv))).trans hv
  have e0 := c gt 0 _ hgt h1.t0
  have hbw : Below w.heap.size w w2 := h1.bw.grown hg.g h1.bw.size fun b e => by have := (h.tab.own.own.lt b e).1; omega
  have hu : UpS w2 w3 (fun b => b = gt) := by rw [hw]; exact upS_set e0 (fun kd x e => by rw [hV] at e; cases e)
  have hge : gg ≠ gt := by rw [h.eg, h.et]; omega
  refine ⟨gs', ⟨?_, hu.cellOf (c gg 0 _ hgg h1.g0) hge, hu.cellOf (c gg 1 _ hgg h1.g1) hge, hu.cellOf (c gg 2 _ hgg h1.g2) hge, by rw [hw]; exact set_self e0, ?_, ?_, fun j => ?_, ?_, h.eg, h.et, Nat.le_trans h1.sz (Nat.le_trans hg.g.size hu.size)⟩⟩
  · refine ⟨h2.own.ups hu (fun k e => by omega), h2.lT, h2.rct, h2.lg, h2.cell, fun hC i g ys hi hy => ?_, h2.nd, fun hC g hg => Nat.lt_of_lt_of_le (h2.lt hC g hg) hu.size, h2.ge⟩
    obtain ⟨qs, hq⟩ := h2.row hC i g ys hi hy
    have hgge := h2.ge hC g (List.mem_of_getElem? hi)
    refine ⟨qs, hq.ups hu (by omega) fun p hp e => ?_⟩
    subst e
    obtain ⟨k, hk⟩ := List.getElem?_of_mem hp
    obtain ⟨z, hz⟩ : ∃ z, ys[k]? = some z := ⟨_, List.getElem?_eq_getElem (by rw [← hq.len]; exact (List.getElem?_eq_some_iff.1 hk).1)⟩
    have h5 := (hq.int k p z hk hz).neg
    rw [e0] at h5
    rw [hV] at h5
    cases h5
  · rw [hw, set_other gt (by omega)]; exact c gt 1 _ hgt h1.t1
  · rw [hw, set_other gt (by omega)]; exact c gt 2 _ hgt h1.t2
  · rw [hw, set_frozen]
    have hlt := World.block_lt_of_cell? w1 ⟨gt, 0, none⟩ h1.t0
    rw [World.frozen?_of_block (a := ⟨gt, j, none⟩) (hne gt hgt hlt)]
    exact h1.fz j
  · exact hbw.trans (hu.below (fun k e => by rw [e, h.et]; omega) hbw.size)
end

set_option maxRecDepth 100000 in
set_option maxHeartbeats 8000000 in
theorem of_tab (R C n cD : Nat) (A : Option Addr) (xs : List Int) (w : World) (hx : RdE Zc 1 w (fun b => b < w.heap.size) A n xs) (h63 : ∀ x ∈ xs, Z63 x) (hn : n = R * C) (hR : R ≤ 144) (hC : C ≤ 48) :
    Calls Try.prog 33 #[.agg #[.int .i64 (R : Int), .int .i64 (C : Int), .slice A n cD]] w fun e w' => ∃ gt V, e = .returned (PtrV gt) ∧ Below w.heap.size w w' ∧ OfP w' w.heap.size gt R C V (brun (gridT xs R C) C) := by
  obtain ⟨i0, hi0, hzz0, hzz1, hzz2⟩ := info_parts' info_pint
  obtain ⟨j0, hj0, hyy0, hyy1, hyy2⟩ := info_parts' info_prow
  have hRC : n ≤ 6912 := by rw [hn]; exact Nat.mul_le_mul hR hC
  have HX := Lib.hid hx
  have H63 := Lib.hid h63
  have HN := Lib.hid hn
  clear hx h63 hn
  go_enter Try.func33, Try.ntmps33
  go_upto_region 2 with fail
  obtain ⟨wS, hwS⟩ : ∃ wS, wS = (w.alloc (.cells #[.int .i64 (R : Int), .int .i64 (C : Int), .slice A n cD] 24)).alloc (.cells #[.slice none 0 0, .slice none 0 0, .pointer none] 74) := ⟨_, rfl⟩
  rw [← hwS]
  obtain ⟨gg, hgg⟩ : ∃ gg, gg = w.heap.size := ⟨_, rfl⟩
  obtain ⟨gt, hgt⟩ : ∃ gt, gt = w.heap.size + 1 := ⟨_, rfl⟩
  have hst : OfI w wS gg gt R C n cD A (.slice none 0 0) [] [] (gridT xs 0 C) := by
    have hb1 := below1 w (.cells #[.int .i64 (R : Int), .int .i64 (C : Int), .slice A n cD] 24)
    have hb2 := below1 (w.alloc (.cells #[.int .i64 (R : Int), .int .i64 (C : Int), .slice A n cD] 24)) (.cells #[.slice none 0 0, .slice none 0 0, .pointer none] 74)
    rw [← hwS] at hb2
    have n1 := blk_new w #[.int .i64 (R : Int), .int .i64 (C : Int), .slice A n cD] 24
    have n2 := blk_new (w.alloc (.cells #[.int .i64 (R : Int), .int .i64 (C : Int), .slice A n cD] 24)) #[.slice none 0 0, .slice none 0 0, .pointer none] 74
    rw [← hwS, World.size_alloc, ← hgt] at n2
    rw [← hgg] at n1
    have e : ∀ (j : Nat) (v : Value), (#[Value.int .i64 (R : Int), Value.int .i64 (C : Int), Value.slice A n cD] : Array Value)[j]? = some v → wS.cell? ⟨gg, j, none⟩ = some v := fun j v hv =>
      bat hb2 (by rw [cell_of_row _ gg j _ _ (0, 0) n1]; exact hv)
    have f : ∀ (j : Nat) (v : Value), (#[Value.slice none 0 0, Value.slice none 0 0, Value.pointer none] : Array Value)[j]? = some v → wS.cell? ⟨gt, j, none⟩ = some v := fun j v hv => by
      rw [cell_of_row _ gt j _ _ (0, 0) n2]; exact hv
    refine ⟨BTab.nil _ _ _, e 0 _ rfl, e 1 _ rfl, e 2 _ rfl, f 0 _ rfl, f 1 _ rfl, f 2 _ rfl, fun j => frozen_of_row _ gt j _ _ n2, hb1.trans (hb2.mono hb1.size), hgg, hgt, by rw [hwS]; simp [go_sem]⟩
  rw [← hgt, ← hgg]
  have HST := Lib.hid hst
  have g0 := hst.g0
  clear hst hwS hgg hgt
  go_wp2_with fail
  clear g0
  go_loopw [11] (fun iv wr => ∃ (i : Nat) (VR : Value) (vs : List Value) (gs : List Nat), i ≤ R ∧ iv = .int .i64 i ∧ vs.length = i ∧ OfI w wr gg gt R C n cD A VR vs gs (gridT xs i C)) (fun iv _ => R - (intOf iv).toNat)
  case atStart => exact ⟨0, _, [], [], Nat.zero_le _, rfl, rfl, HST.out⟩
  case round =>
    clear HST
    obtain ⟨i, VR, vs, gs, hi, rfl, hvl, ho⟩ := hrel
    obtain ⟨wo, hwo⟩ : ∃ wo, wo = wr := ⟨_, rfl⟩
    rw [← hwo] at ho
    rw [← hwo]
    have HO := Lib.hid ho
    have HVL := Lib.hid hvl
    have g1 := ho.g1
    clear ho hvl hwo
    by_cases hlt : i < R
    · have hlti : (i : Int) < (R : Int) := by omega
      obtain ⟨o, ho⟩ : ∃ o, o = i * C := ⟨_, rfl⟩
      have hoc : (i : Int) * (C : Int) = (o : Int) := by rw [ho]; simp
      have hon : o + C ≤ n := by
        have h1 : (i + 1) * C ≤ R * C := Nat.mul_le_mul_right C hlt
        rw [Nat.add_mul, Nat.one_mul, ← ho, ← HN.out] at h1
        exact h1
      have HOE := Lib.hid ho
      clear ho
      go_wp2_with fail
      clear g1
      go_loopw [5, 16] (fun rv kv wx => ∃ (k : Nat) (ps : List Nat), k ≤ C ∧ kv = .int .i64 k ∧ BRow wx wo.heap.size rv ps ((xs.drop o).take k) ∧ Below wo.heap.size wo wx) (fun _ kv _ => C - (intOf kv).toNat)
      case atStart => exact ⟨0, [], Nat.zero_le _, rfl, BRow.nil _ _, Below.refl _ _⟩
      case round =>
        obtain ⟨k, ps, hk, rfl, hbr, hbw⟩ := hrel
        have HBR := Lib.hid hbr
        have HBW := Lib.hid hbw
        clear hbr hbw
        by_cases hlk : k < C
        · have hlki : (k : Int) < (C : Int) := by omega
          obtain ⟨j, hj⟩ : ∃ j, j = o + k := ⟨_, rfl⟩
          have e2 : (o : Int) + (k : Int) = (j : Int) := by omega
          have hjn : j < n := by omega
          obtain ⟨x, hx⟩ := get_some HX.out.num hjn
          obtain ⟨b1, o1, rfl, hSb, hc⟩ := HX.out.elem Zc.clen hx (by omega)
          have hcx := hc 0 _ rfl
          rw [Nat.mul_one, Nat.add_zero] at hcx
          have hO := HO.out.below HBW.out
          have q0 := bat hO.bw hcx
          have q1 := hO.g1
          have q2 := hO.g2
          have hxr := H63.out x (List.mem_of_getElem? hx)
          have HXJ := Lib.hid hx
          have HJ := Lib.hid hj
          clear hc hcx hO hx hj
          go_wp2_with fail
          clear q0 q1 q2
          refine (newInt_int x _ hxr.1 hxr.2).mono ?_
          rintro e wy ⟨q, rfl, hq1, hq2, hqi, hqb⟩
          obtain ⟨wb, hwb⟩ : ∃ wb, wb = wy.alloc (.cells #[PtrV q] 72) := ⟨_, rfl⟩
          have hbb : Below wy.heap.size wy wb := by rw [hwb]; exact below1 ..
          have hbb2 : Below wr.heap.size wr wb := hqb.trans (hbb.mono hqb.size)
          have hrow := HBR.out.below hbb2
          have HQI := Lib.hid (hqi.below hbb)
          have hwow : Below wo.heap.size wo wb := HBW.out.trans (hbb2.mono HBW.out.size)
          have HWOW := Lib.hid hwow
          have HROW := Lib.hid hrow
          have hob := hrow.own
          have hbase := hwow.size
          have hne : Rd wb (fun _ => True) 1 (some ⟨wy.heap.size, 0, none⟩) 1 [PtrV q] := by rw [hwb]; exact rd_blk (blk_new ..) rfl trivial
          have hpl : ps.length = k := by
            have h1 := HBR.out.len
            rw [List.length_take, List.length_drop, HX.out.num] at h1
            omega
          have HWBE := Lib.hid hwb
          rw [hwb] at hob hne hbase
          have HOB := Lib.hid hob
          have HRD := Lib.hid hne
          have HBASE := Lib.hid hbase
          clear hwb hbb hbb2 hrow hob hbase hne hwow hqi hqb
          go_wp2_with (at_builtin; go_must (refine wpList_append_K rfl _ _ _ rfl wo.heap.size 72 i0 _ 1 8 Try.underlying82 hi0 hzz0 hzz1 hzz2 rfl (by omega) Pk (by intro u hu; simp [Value.cells] at hu; exact ⟨_, hu⟩) _ ps.length (ps.flatMap Pc) rfl HOB.out (fun _ => True) (some ⟨wy.heap.size, 0, none⟩) 1 1 [PtrV q] rfl HRD.out (by simp [Value.oneCell']) (by intro u hu; simp at hu; exact ⟨_, hu⟩) (by simp only [maxLen]; omega) (by omega) HBASE.out ?_); go_must (intro v2 w2 hown2 hg2); go_must (rw [← HWBE.out] at hg2))
          refine ⟨⟨k + 1, ps ++ [q], by omega, by go_num, ?_, ?_⟩, by simp [intOf]; omega⟩
          · rw [take_more (x := x) (by rw [← HJ.out]; exact HXJ.out)]
            exact HROW.out.app hg2 hown2 HQI.out
          · exact HWOW.out.grown hg2.g HWOW.out.size fun b e => (HROW.out.own.own.lt b e).1
        · obtain rfl : C = k := by omega
          have hnl : ¬ ((C : Int) < (C : Int)) := by omega
          have hO := HO.out.below HBW.out
          have hlen : ((xs.drop o).take C).length = C := by rw [List.length_take, List.length_drop, HX.out.num]; omega
          have hrow := HBR.out
          obtain ⟨Au, cu, rfl, _, _⟩ := own_slice hrow.own.own
          go_upto_region 11 with fail
          obtain ⟨wb, hwb⟩ : ∃ wb, wb = wr.alloc (.cells #[.slice Au ps.length cu] 82) := ⟨_, rfl⟩
          have hbb : Below wr.heap.size wr wb := by rw [hwb]; exact below1 ..
          have hwow : Below wo.heap.size wo wb := HBW.out.trans (hbb.mono HBW.out.size)
          have hOb := HO.out.below hwow
          have q0 := hO.t0
          have hob := hOb.tab.own
          have hbase := hOb.sz
          have hne : Rd wb (fun _ => True) 1 (some ⟨wr.heap.size, 0, none⟩) 1 [.slice Au ps.length cu] := by rw [hwb]; exact rd_blk (blk_new ..) rfl trivial
          have HWBE := Lib.hid hwb
          have HROW := Lib.hid (hrow.below hbb)
          have HOBI := Lib.hid hOb
          have HWOW := Lib.hid hwow
          have HLEN := Lib.hid hlen
          have hvs : vs.length ≤ 144 := by rw [HVL.out]; omega
          rw [hwb] at hob hne hbase
          have HOB := Lib.hid hob
          have HRD := Lib.hid hne
          have HBASE := Lib.hid hbase
          clear hwb hbb hwow hOb hob hbase hne hrow hlen hO
          go_wp2_with (at_builtin; go_must (refine wpList_append_K rfl _ _ _ rfl (w.heap.size + 2) 82 j0 _ 1 24 Try.underlying71 hj0 hyy0 hyy1 hyy2 rfl (by omega) Sk (by intro u hu; simp [Value.cells] at hu; exact ⟨_, _, _, hu⟩) _ vs.length vs rfl HOB.out (fun _ => True) (some ⟨wr.heap.size, 0, none⟩) 1 1 [.slice Au ps.length cu] rfl HRD.out (by intro u hu; simp at hu; rw [hu]; rfl) (by intro u hu; simp at hu; exact ⟨_, _, _, hu⟩) (by simp only [maxLen]; omega) (by omega) HBASE.out ?_); go_must (intro v2 w2 hown2 hg2); go_must (rw [← HWBE.out] at hg2); go_must (obtain ⟨A2, d2, rfl, _, _⟩ := own_slice hown2.own); go_must (have k0 := (HOBI.out.t0g hg2).1); go_must (have k1 := (HOBI.out.t0g hg2).2))
          obtain ⟨gs', hres⟩ := HO.out.app HWOW.out HROW.out HLEN.out (Nat.le_refl _) hg2 hown2 rfl
          refine ⟨⟨i + 1, .slice A2 (vs.length + 1) d2, vs ++ [.slice Au ps.length cu], gs', by omega, by go_num, by simp [HVL.out], ?_⟩, by simp [intOf]; omega⟩
          rw [gridT_succ, ← HOE.out]
          exact hres
    · obtain rfl : i = R := by omega
      have hnl : ¬ ((i : Int) < (i : Int)) := by omega
      have q0 := HO.out.t0
      have q1 := HO.out.g1
      go_wp2_with fail
      clear q0 q1
      by_cases hz : i = 0 ∨ C = 0
      · obtain ⟨AV, cV, rfl, _, _⟩ := own_slice HO.out.tab.own.own
        refine (reduce_none gt vs.length cV C AV _ (by omega) HO.out.t0 HO.out.t1 HO.out.t2 HO.out.fz (by rw [HVL.out]; exact hz)).mono ?_
        rintro e w9 ⟨rfl, h91, h90, hu9⟩
        go_wp2_with fail
        go_ret
        have hs9 := hu9.size
        have hpv : (brun (gridT xs i C) C).piv = [] := by
          rcases hz with rfl | rfl
          · exact brun_empty C
          · rfl
        refine ⟨gt, _, rfl, HO.out.bw.trans (hu9.below (fun k e => by rw [e, HO.out.et]; omega) HO.out.bw.size), ⟨h91, by rw [HO.out.et]; omega, ⟨_, Nat.le_trans HO.out.bw.size hs9, Nat.le_refl _, ?_⟩, fun h1 h2 => by omega⟩⟩
        rw [hpv]
        exact OwnR.nil ..
      · obtain ⟨G, cR, hVR, hGb, hT⟩ := HO.out.tab.done (by omega) (by rw [HVL.out]; omega)
        rw [HVL.out] at hVR hT
        have ht0 := HO.out.t0
        rw [hVR] at ht0
        have hge := HO.out.tab.ge (by omega)
        have hgtb : w.heap.size + 1 ≤ gt ∧ gt ≤ w.heap.size + 1 := by rw [HO.out.et]; omega
        obtain ⟨E, hE⟩ : ∃ E, E = 12000 := ⟨_, rfl⟩
        refine (reduce_tab gt G i C cR C (2 ^ 63) E gs (gridT xs i C) _ hT ht0 HO.out.t1 HO.out.t2 HO.out.fz (by omega) (fun hm => by have := hge _ hm; omega) (by omega) (by omega) (by omega) (by omega) (Nat.le_refl _) (gridT_le fun x hx => ?_) ?_ (by omega)).mono ?_
        · have h1 := H63.out x hx
          unfold Z63 at h1
          omega
        · refine Nat.lt_of_lt_of_le (bigB_lt (a := 8) (b := 64) (by omega) (by omega)) (Nat.pow_le_pow_right (by decide) (by omega))
        · rintro e w9 ⟨rfl, gs', V, gl, hst9, hmem9, hu9⟩
          have c1 := hst9.c1
          go_wp2_with fail
          go_ret
          have hs9 := HO.out.bw.size
          refine ⟨gt, V, rfl, HO.out.bw.trans (hu9.below (fun k e => ?_) HO.out.bw.size), ⟨c1, by omega, ⟨_, hs9, hst9.sz, hst9.piv⟩, fun _ _ => ⟨G, cR, _, gs', gl, hs9, hst9⟩⟩⟩
          rcases e with rfl | rfl | h
          · omega
          · omega
          · have := hge _ h; omega

end Go.Proofs.Ytfepmbpcdfdlhaa

/- rank.Right, rank.Rank: the walks -/
namespace Go.Proofs.Ytfepmbpcdfdlhaa
open Go.RowKit Go.Sort

/-- is it a right grid? -/
def rightG (r c : Int) (n : Nat) : Bool := decide (0 ≤ r ∧ r ≤ 144 ∧ 0 ≤ c ∧ c ≤ 48 ∧ (n : Int) = r * c)
theorem rightG_nat {r c : Int} {n : Nat} (h : rightG r c n = true) : ∃ R C : Nat, r = R ∧ c = C ∧ R ≤ 144 ∧ C ≤ 48 ∧ n = R * C := by
  unfold rightG at h
  obtain ⟨h1, h2, h3, h4, h5⟩ := of_decide_eq_true h
  refine ⟨r.toNat, c.toNat, by omega, by omega, by omega, by omega, ?_⟩
  obtain ⟨R, rfl⟩ := Int.eq_ofNat_of_zero_le h1
  obtain ⟨C, rfl⟩ := Int.eq_ofNat_of_zero_le h3
  simp only [Int.toNat_natCast]
  exact_mod_cast h5

set_option maxHeartbeats 4000000 in
theorem right_grid (r c : Int) (n cD : Nat) (A : Option Addr) (w : World) (hr : Z63 r) (hc : Z63 c) (hn : n ≤ 9223372036854775807) :
    Calls Try.prog 8 #[.agg #[.int .i64 r, .int .i64 c, .slice A n cD]] w fun e w' => e = .returned (.bool (rightG r c n)) ∧ Below w.heap.size w w' := by
  have hr1 := hr.1
  have hr2 := hr.2
  have hc1 := hc.1
  have hc2 := hc.2
  clear hr hc
  by_cases h1 : 0 ≤ r
  · by_cases h2 : r ≤ 144
    · by_cases h3 : 0 ≤ c
      · by_cases h4 : c ≤ 48
        · obtain ⟨R, rfl⟩ := Int.eq_ofNat_of_zero_le h1
          obtain ⟨C, rfl⟩ := Int.eq_ofNat_of_zero_le h3
          obtain ⟨p, hp⟩ : ∃ p, p = R * C := ⟨_, rfl⟩
          have hpc : (R : Int) * (C : Int) = (p : Int) := by rw [hp]; simp
          have hpl : p ≤ 144 * 48 := by rw [hp]; exact Nat.mul_le_mul (by omega) (by omega)
          have hv : rightG R C n = decide (n = p) := by
            unfold rightG
            rw [hpc]
            by_cases h : n = p
            · rw [decide_eq_true h, decide_eq_true]; omega
            · rw [decide_eq_false h, decide_eq_false]; omega
          rw [hv]
          clear hv hp
          by_cases hnp : n = p
          · subst hnp
            have hnn : (n : Int) = (n : Int) := rfl
            go_enter Try.func8, Try.ntmps8
            go_wp2_with fail
            go_ret
            exact ⟨by simp, below1 ..⟩
          · have hnn : ¬ (n : Int) = (p : Int) := by omega
            rw [decide_eq_false hnp]
            go_enter Try.func8, Try.ntmps8
            go_wp2_with fail
            go_ret
            exact ⟨by simp; omega, below1 ..⟩
        · have hv : rightG r c n = false := by unfold rightG; rw [decide_eq_false]; omega
          rw [hv]
          clear hv
          go_enter Try.func8, Try.ntmps8
          go_wp2_with fail
          go_ret
          exact ⟨by simp, below1 ..⟩
      · have hv : rightG r c n = false := by unfold rightG; rw [decide_eq_false]; omega
        rw [hv]
        clear hv
        go_enter Try.func8, Try.ntmps8
        go_wp2_with fail
        go_ret
        exact ⟨by simp, below1 ..⟩
    · have hv : rightG r c n = false := by unfold rightG; rw [decide_eq_false]; omega
      rw [hv]
      clear hv
      go_enter Try.func8, Try.ntmps8
      go_wp2_with fail
      go_ret
      exact ⟨by simp, below1 ..⟩
  · have hv : rightG r c n = false := by unfold rightG; rw [decide_eq_false]; omega
    rw [hv]
    clear hv
    go_enter Try.func8, Try.ntmps8
    go_wp2_with fail
    go_ret
    exact ⟨by simp, below1 ..⟩

/-- the reduced table of a right grid -/
def gS (r c : Int) (xs : List Int) : BSt := brun (gridT xs r.toNat c.toNat) c.toNat
def RankPost (r c : Int) (n : Nat) (xs : List Int) (w : World) (e : Ending) (w' : World) : Prop :=
  Below w.heap.size w w' ∧ ((rightG r c n = true ∧ ∃ V base, e = .returned (.tuple #[.int .i64 ((gS r c xs).piv.length : Int), V, .int .i64 0]) ∧ w.heap.size ≤ base ∧ base ≤ w'.heap.size ∧ OwnR w' base 3 1 Ik V (gS r c xs).piv.length ((gS r c xs).piv.flatMap Ic)) ∨
    (rightG r c n = false ∧ e = .returned (.tuple #[.int .i64 0, .slice none 0 0, .int .i64 4])))

theorem RdE.blw {α : Type} {f : α → List Value} {size n : Nat} {w w' : World} {A : Option Addr} {xs : List α} (h : RdE f size w (fun b => b < w.heap.size) A n xs) (hb : Below w.heap.size w w') : RdE f size w' (fun b => b < w'.heap.size) A n xs :=
  (h.keep (Keeps.below hb (fun _ h => h))).imp fun b hl => Nat.lt_of_lt_of_le hl hb.size
/-- a grid in the world -/
structure GridAt (w : World) (v : Value) (r c : Int) (n : Nat) (xs : List Int) : Prop where
  val : ∃ A cD, v = .agg #[.int .i64 r, .int .i64 c, .slice A n cD] ∧ RdE Zc 1 w (fun b => b < w.heap.size) A n xs
  z63 : ∀ x ∈ xs, Z63 x
  r63 : Z63 r
  c63 : Z63 c
  ln : n ≤ 9223372036854775807
theorem GridAt.below {w w' : World} {v : Value} {r c : Int} {n : Nat} {xs : List Int} (h : GridAt w v r c n xs) (hb : Below w.heap.size w w') : GridAt w' v r c n xs := by
  obtain ⟨A, cD, h1, h2⟩ := h.val
  exact ⟨⟨A, cD, h1, h2.blw hb⟩, h.z63, h.r63, h.c63, h.ln⟩

set_option maxRecDepth 100000 in
set_option maxHeartbeats 4000000 in
theorem rank_any (v : Value) (r c : Int) (n : Nat) (xs : List Int) (w : World) (hg : GridAt w v r c n xs) :
    Calls Try.prog 10 #[v] w (RankPost r c n xs w) := by
  obtain ⟨A, cD, rfl, hx⟩ := hg.val
  have HX := Lib.hid hx
  have HG := Lib.hid hg
  clear hg hx
  go_enter Try.func10, Try.ntmps10
  go_upto_region 1 with fail
  obtain ⟨wb, hwb⟩ : ∃ wb, wb = w.alloc (.cells #[.int .i64 r, .int .i64 c, .slice A n cD] 24) := ⟨_, rfl⟩
  obtain ⟨gg, hgg⟩ : ∃ gg, gg = w.heap.size := ⟨_, rfl⟩
  have hbb : Below w.heap.size w wb := by rw [hwb]; exact below1 ..
  have n1 : wb.heap[gg]? = some (.cells #[.int .i64 r, .int .i64 c, .slice A n cD] 24 (0, 0)) := by rw [hwb, hgg]; exact blk_new ..
  have e : ∀ (j : Nat) (v : Value), (#[Value.int .i64 r, Value.int .i64 c, Value.slice A n cD] : Array Value)[j]? = some v → wb.cell? ⟨gg, j, none⟩ = some v := fun j v hv => by rw [cell_of_row _ gg j _ _ (0, 0) n1]; exact hv
  have q0 := e 0 _ rfl
  have q1 := e 1 _ rfl
  have q2 := e 2 _ rfl
  have Q := Lib.hid (And.intro q0 (And.intro q1 q2))
  have HBB := Lib.hid hbb
  rw [← hgg, ← hwb]
  have hgb : gg = w.heap.size := hgg
  have HGG := Lib.hid hgb
  clear hbb n1 e hwb hgg hgb
  go_wp2_with fail
  clear q0 q1 q2
  refine (right_grid r c n cD A wb HG.out.r63 HG.out.c63 HG.out.ln).mono ?_
  rintro e w1 ⟨rfl, hb1⟩
  have q0 := bat hb1 Q.out.1
  have q1 := bat hb1 Q.out.2.1
  have q2 := bat hb1 Q.out.2.2
  have HB1 := Lib.hid (HBB.out.trans (hb1.mono HBB.out.size))
  clear hb1
  cases hrg : rightG r c n with
  | false =>
    go_wp2_with fail
    go_ret3
    exact ⟨HB1.out, .inr ⟨hrg, rfl⟩⟩
  | true =>
    obtain ⟨R, C, rfl, rfl, hR, hC, hn⟩ := rightG_nat hrg
    have HN := Lib.hid (And.intro hn (And.intro hR hC))
    have HRG := Lib.hid hrg
    clear hn hR hC hrg
    go_wp2_with fail
    clear q0 q1 q2
    refine (of_tab R C n cD A xs w1 (HX.out.blw HB1.out) HG.out.z63 HN.out.1 HN.out.2.1 HN.out.2.2).mono ?_
    rintro e w2 ⟨gt, V, rfl, hb2, ho⟩
    obtain ⟨base, hb0, hb02, hown⟩ := ho.piv
    obtain ⟨AV, cV, rfl, _, _⟩ := own_slice hown.own
    have hbw : Below w.heap.size w w2 := HB1.out.trans (hb2.mono HB1.out.size)
    have HBW := Lib.hid hbw
    have HOWN := Lib.hid hown
    have c1 := ho.c1
    have hb00 := Nat.le_trans HB1.out.size hb0
    clear hbw hown ho hb2 hb0
    go_wp2_with fail
    have hbr := cell_regrown (bat (Below.refl _ w2) c1)
    refine wp_region_quiet_below (by kernel_rfl) (by kernel_rfl) ?_
    repeat (first | go_big_quiet_step (fail) | quiet_step (fail))
    refine wpQuiet_nil ?_
    intro wq hwq
    have hbq := below_class hwq
    clear hwq
    have HBQ := Lib.hid hbq
    clear hbr c1
    go_wp2_with fail
    go_ret3
    refine ⟨HBW.out.trans (HBQ.out.mono HBW.out.size), .inl ⟨HRG.out, _, base, rfl, hb00, Nat.le_trans hb02 HBQ.out.size, ?_⟩⟩
    exact HOWN.out.below HBQ.out

end Go.Proofs.Ytfepmbpcdfdlhaa

/- rank.limbs: the walk -/
namespace Go.Proofs.Ytfepmbpcdfdlhaa
open Go.RowKit Go.Sort

def Uk (v : Value) : Prop := ∃ x, v = .int .u64 x
theorem uk_bool (s : Bool) : ¬ Uk (.bool s) := fun ⟨x, h⟩ => by cases h
theorem uk_u32 (x : Int) : ¬ Uk (.int .u32 x) := fun ⟨y, h⟩ => by cases h
def lenOf : Value → Nat
  | .slice _ n _ => n
  | _ => 0
theorem lims_lim (N : Nat) : lims N (lim N).length = lim N := by rw [lim_len, lims_all]
theorem div_lim {N k : Nat} (hk : k ≤ (lim N).length) : N / W64 ^ k = 0 ↔ k = (lim N).length := by
  have hp : 0 < W64 ^ k := Nat.pow_pos (by decide)
  rw [Nat.div_eq_zero_iff_lt hp]
  refine ⟨fun h => ?_, fun h => by rw [h]; exact lt_lim_len N⟩
  have := lim_len_le h
  omega

set_option maxRecDepth 100000 in
set_option maxHeartbeats 4000000 in
theorem limbs_rank (b : Nat) (x : Int) (w : World) (hx : IntAt w b 0 x) (hl : (dig x.natAbs).length ≤ 1000000) :
    Calls Try.prog 64 #[PtrV b] w fun e w' => ∃ A c, e = .returned (.slice A (lim x.natAbs).length c) ∧ (lim x.natAbs).length ≤ c ∧ RdE Lc 1 w' (fun b => w.heap.size ≤ b ∧ b < w'.heap.size) A (lim x.natAbs).length (lim x.natAbs) ∧ Below w.heap.size w w' := by
  obtain ⟨i0, hi0, hz0, hz1, hz2⟩ := info_parts' info_u64
  have HX := Lib.hid hx
  clear hx
  obtain ⟨N, hN⟩ : ∃ N, N = x.natAbs := ⟨_, rfl⟩
  rw [← hN] at hl ⊢
  have hbl := blen_bound hl
  have hLb : (lim N).length ≤ 1000000 := by rw [lim_len]; omega
  have HN := Lib.hid hN
  clear hN
  go_enter Try.func64, Try.ntmps64
  go_wp2_with fail
  refine (abs_int _ 0 b 0 0 x _ (new_intAt w) (HX.out.below (below1 ..)) (by rw [← HN.out]; omega)).mono ?_
  rintro e w1 ⟨rfl, hi1, hu1⟩
  rw [← HN.out] at hi1
  obtain ⟨br, hbr⟩ : ∃ br, br = w.heap.size := ⟨_, rfl⟩
  have hb1 := newB hu1
  rw [← hbr] at hi1 ⊢
  have HI1 := Lib.hid hi1
  have HB1 := Lib.hid hb1
  have hbrl := hi1.lt
  have hbrg : w.heap.size ≤ br := by omega
  clear hi1 hu1 hb1 hbr
  go_wp2_with fail
  refine (setU_mask _ 0 0 _ (new_intAt w1)).mono ?_
  rintro e w2 ⟨rfl, hi2, hu2⟩
  have hb2 := newB hu2
  obtain ⟨bm, hbm⟩ : ∃ bm, bm = w1.heap.size := ⟨_, rfl⟩
  rw [← hbm] at hi2 ⊢
  have hbml := hi2.lt
  have hne : br ≠ bm := by omega
  have hbmg : w.heap.size ≤ bm := by have := HB1.out.size; omega
  have HI2 := Lib.hid hi2
  have HR2 := Lib.hid (HI1.out.below hb2)
  have HB2 := Lib.hid (HB1.out.trans (hb2.mono HB1.out.size))
  have hbrl2 : br < w2.heap.size := by have := hb2.size; omega
  have HNE := Lib.hid hne
  clear hi2 hu2 hb2 hbm hne
  go_wp2_with fail
  go_loopw [3] (fun ov wr => ∃ (k : Nat) (A : Option Addr) (c : Nat), k ≤ (lim N).length ∧ ov = .slice A k c ∧ OwnR wr w2.heap.size 45 1 Uk (.slice A k c) k ((lims N k).flatMap Lc) ∧ IntAt wr br 0 ((N / W64 ^ k : Nat) : Int) ∧ IntAt wr bm 0 (M64 : Int) ∧ Below w.heap.size w wr ∧ w2.heap.size ≤ wr.heap.size) (fun ov _ => (lim N).length - lenOf ov)
  case atStart => exact ⟨0, none, 0, Nat.zero_le _, rfl, OwnR.nil .., by rw [Nat.pow_zero, Nat.div_one]; exact HR2.out, HI2.out, HB2.out, Nat.le_refl _⟩
  case round =>
    obtain ⟨k, A, c, hk, rfl, hown, hir, him, hbw, hsz⟩ := hrel
    obtain ⟨y, hy⟩ : ∃ y, y = N / W64 ^ k := ⟨_, rfl⟩
    rw [← hy] at hir
    have HY := Lib.hid hy
    have HO := Lib.hid hown
    have HR := Lib.hid hir
    have HM := Lib.hid him
    have HBW := Lib.hid hbw
    clear hown hir him hbw hy
    go_wp2_with fail
    refine (sign_int br 0 (y : Int) _ HR.out).mono ?_
    rintro e w' ⟨rfl, rfl⟩
    by_cases hy0 : y = 0
    · have hs : sgnI (y : Int) = 0 := by rw [hy0]; rfl
      rw [hs]
      obtain rfl : k = (lim N).length := (div_lim hk).1 (by rw [← HY.out]; exact hy0)
      clear hs hy0
      go_wp2_with fail
      go_ret
      have hown := HO.out
      rw [lims_lim] at hown
      obtain ⟨A', c', e, hc', _⟩ := own_slice hown.own
      injection e with e1 _ e3
      subst e1 e3
      have hr := (RdE.of_own (f := Lc) (size := 1) (fun _ => rfl) (by decide) hown.own).imp (S' := fun b => w.heap.size ≤ b ∧ b < wr.heap.size) (fun b h => ⟨by have := h.1; omega, h.2.1⟩)
      exact ⟨A, c, rfl, hc', hr, HBW.out⟩
    · have hs : sgnI (y : Int) = 1 := by
        unfold sgnI
        rw [if_neg (by omega), if_neg (by omega)]
      rw [hs]
      have hkl : k < (lim N).length := by
        rcases Nat.lt_or_ge k (lim N).length with h | h
        · exact h
        · exact absurd ((div_lim hk).2 (by omega)) (by rw [← HY.out]; exact hy0)
      have hyl : (dig y).length ≤ 1000000 := by
        rw [HY.out]
        exact Nat.le_trans (dig_len_mono (Nat.div_le_self _ _)) hl
      have HYL := Lib.hid hyl
      clear hs hy0 hyl
      go_wp2_with fail
      refine (and_int _ 0 br 0 bm 0 0 (y : Int) (M64 : Int) _ (new_intAt wr) (HR.out.below (below1 ..)) (HM.out.below (below1 ..)) (by omega) (by decide) (by rw [Int.natAbs_natCast]; have := HYL.out; omega) (by rw [Int.natAbs_natCast]; have := M64_len; omega)).mono ?_
      rintro e w3 ⟨rfl, hi3, hu3⟩
      rw [Int.natAbs_natCast, Int.natAbs_natCast, M64_and] at hi3
      have HI3 := Lib.hid hi3
      have hb3 := newB hu3
      have HB3 := Lib.hid hb3
      clear hi3 hu3 hb3
      go_wp2_with fail
      refine (uint64_int _ 0 ((y % 18446744073709551616 : Nat) : Int) _ HI3.out).mono ?_
      rintro e w' ⟨rfl, rfl⟩
      rw [Int.natAbs_natCast, Nat.mod_mod]
      obtain ⟨v, hv⟩ : ∃ v, v = y % 18446744073709551616 := ⟨_, rfl⟩
      rw [← hv]
      have HV := Lib.hid hv
      obtain ⟨wb, hwb⟩ : ∃ wb, wb = w3.alloc (.cells #[.int .u64 (v : Int)] 45) := ⟨_, rfl⟩
      have hbb : Below w3.heap.size w3 wb := by rw [hwb]; exact below1 ..
      have hbb3 : Below wr.heap.size wr wb := HB3.out.trans (hbb.mono HB3.out.size)
      have HBB3 := Lib.hid hbb3
      have hob := HO.out.below hbb3
      have HOW := Lib.hid hob
      have HRb := Lib.hid (HR.out.below hbb3)
      have HMb := Lib.hid (HM.out.below hbb3)
      have hbase : w2.heap.size ≤ wb.heap.size := by have := hbb3.size; omega
      have hrd : Rd wb (fun _ => True) 1 (some ⟨w3.heap.size, 0, none⟩) 1 [.int .u64 (v : Int)] := by rw [hwb]; exact rd_blk (blk_new ..) rfl trivial
      have HWB := Lib.hid hwb
      rw [hwb] at hob hbase hrd
      have HOB := Lib.hid hob
      have HBASE := Lib.hid hbase
      have HRD := Lib.hid hrd
      clear hv hwb hbb hbb3 hob hbase hrd
      go_wp2_with (at_builtin; go_must (refine wpList_append_K rfl _ _ _ rfl w2.heap.size 45 i0 _ 1 8 Try.underlying41 hi0 hz0 hz1 hz2 rfl (by omega) Uk (by intro u hu; simp [Value.cells] at hu; exact ⟨_, hu⟩) _ k ((lims N k).flatMap Lc) rfl HOB.out (fun _ => True) (some ⟨w3.heap.size, 0, none⟩) 1 1 [.int .u64 (v : Int)] rfl HRD.out (by simp [Value.oneCell']) (by intro u hu; simp at hu; exact ⟨_, hu⟩) (by simp only [maxLen]; omega) (by omega) HBASE.out ?_); go_must (intro v2 w4 hown4 hg4); go_must (rw [← HWB.out] at hg4); go_must (obtain ⟨A4, c4, rfl, _, _⟩ := own_slice hown4.own))
      have hr4 := HRb.out.growK hg4 uk_bool uk_u32
      have hm4 := HMb.out.growK hg4 uk_bool uk_u32
      have hb4 : Below w.heap.size w w4 := (HBW.out.trans (HBB3.out.mono HBW.out.size)).grown hg4.g (Nat.le_trans HBW.out.size HBB3.out.size) (fun g hg => by have := (HOW.out.own.lt g hg).1; omega)
      have hs4 : w2.heap.size ≤ w4.heap.size := by have := hg4.g.size; have := HBB3.out.size; omega
      have HR4 := Lib.hid hr4
      have HM4 := Lib.hid hm4
      have HB4 := Lib.hid hb4
      have HO4 := Lib.hid hown4
      clear hr4 hm4 hb4 hown4 hg4
      refine (rsh_int br 0 br 0 (y : Int) y 64 w4 HR4.out HR4.out (by have := HYL.out; omega) (by omega)).mono ?_
      rintro e w5 ⟨rfl, hi5, hu5⟩
      have HI5 := Lib.hid hi5
      have HU5 := Lib.hid hu5
      clear hi5 hu5
      go_wp2_with fail
      have hus : UpS w4 w5 (fun b => b = br) := HU5.out.toB.toS rfl
      refine ⟨⟨k + 1, A4, c4, by omega, rfl, ?_, ?_, HM4.out.ups hus (fun e => HNE.out e.symm), HB4.out.trans (hus.below (fun b e => by omega) HB4.out.size), Nat.le_trans hs4 hus.size⟩, by simp only [lenOf]; omega⟩
      · have h9 := HO4.out.ups hus (fun b e => by omega)
        rw [lims_succ, List.flatMap_append, ← HY.out]
        have e9 : [Value.int .u64 (v : Int)] = [y % W64].flatMap Lc := by rw [HV.out]; rfl
        rw [← e9]
        exact h9
      · rw [Nat.pow_succ, ← Nat.div_div_eq_div_mul, ← HY.out]
        exact HI5.out

end Go.Proofs.Ytfepmbpcdfdlhaa

/- rank.whole: the walk -/
namespace Go.Proofs.Ytfepmbpcdfdlhaa
open Go.RowKit Go.Sort

theorem ln_drop {ls : List Nat} {j x : Nat} (h : ls[j]? = some x) : ln (ls.drop j) = x + W64 * ln (ls.drop (j + 1)) := by
  obtain ⟨hl, e⟩ := List.getElem?_eq_some_iff.1 h
  rw [List.drop_eq_getElem_cons hl, e]
  rfl
theorem or_low {V x : Nat} (hx : x < W64) : (V * 2 ^ 64) ||| x = x + W64 * V := by
  have h := Nat.two_pow_add_eq_or_of_lt (i := 64) (b := x) hx V
  rw [Nat.mul_comm V, ← h, Nat.add_comm]
theorem dig_ln_drop {ls : List Nat} (h : Lds ls) (j : Nat) : (dig (ln (ls.drop j))).length ≤ 2 * ls.length := Nat.le_trans (dig_ln_len (h.drop j)) (by rw [List.length_drop]; omega)
theorem or_lenA {V : Nat} (h : (dig V).length ≤ 200000) : (dig ((V : Int) * 2 ^ 64).natAbs).length ≤ 10000000 := by
  have e : ((V : Int) * 2 ^ 64).natAbs = V * 2 ^ 64 := by omega
  rw [e]
  have := mul_len V (2 ^ 64)
  have h3 : (dig (2 ^ 64)).length ≤ 3 := dig_len_le (by decide)
  omega
theorem or_lenB {x : Nat} (h : x < W64) : (dig (x : Int).natAbs).length ≤ 10000000 := by
  rw [Int.natAbs_natCast]
  exact Nat.le_trans (dig_len_small (show x < 18446744073709551616 from h)) (by decide)
/-- a whole number out of its limbs and its sign -/
def sgL (s : Bool) (xs : List Nat) : Int := if s then -(ln xs : Int) else (ln xs : Int)

set_option maxRecDepth 100000 in
set_option maxHeartbeats 4000000 in
theorem whole_rank (A : Option Addr) (n c : Nat) (s : Bool) (xs : List Nat) (w : World) (hx : RdE Lc 1 w (fun b => b < w.heap.size) A n xs) (hl : Lds xs) (hn : n ≤ 100000) :
    Calls Try.prog 41 #[.slice A n c, .bool s] w fun e w' => ∃ g, e = .returned (PtrV g) ∧ w.heap.size ≤ g ∧ g < w'.heap.size ∧ IntAt w' g 0 (sgL s xs) ∧ Below w.heap.size w w' := by
  have en := hx.num
  have HX := Lib.hid hx
  have HL := Lib.hid hl
  have EN := Lib.hid en
  clear hx en hl
  go_enter Try.func41, Try.ntmps41
  go_wp2_with fail
  go_loopw [10] (fun iv wr => ∃ k : Nat, k ≤ n ∧ iv = .int .i64 k ∧ Below w.heap.size w wr ∧ IntAt wr w.heap.size 0 (ln (xs.drop (n - k)) : Int)) (fun iv _ => n - (intOf iv).toNat)
  case atStart =>
    refine ⟨0, Nat.zero_le _, rfl, below1 .., ?_⟩
    rw [List.drop_of_length_le (by rw [EN.out]; omega)]
    exact new_intAt w
  case round =>
    obtain ⟨k, hk, rfl, hb, hi⟩ := hrel
    have HB := Lib.hid hb
    have HI := Lib.hid hi
    have hm := hi.lt
    obtain ⟨V, hV⟩ : ∃ V, V = ln (xs.drop (n - k)) := ⟨_, rfl⟩
    rw [← hV] at HI
    have HV := Lib.hid hV
    have hVl : (dig V).length ≤ 200000 := by rw [hV]; exact Nat.le_trans (dig_ln_drop HL.out _) (by rw [EN.out]; omega)
    have HVL := Lib.hid hVl
    clear hb hi hV hVl
    by_cases hlt : k < n
    · have hlt' : (k : Int) < (n : Int) := by omega
      go_wp2_with fail
      refine (lsh_int _ 0 _ 0 (V : Int) (V : Int) 64 wr HI.out HI.out (by rw [Int.natAbs_natCast]; have := HVL.out; omega) (by omega)).mono ?_
      rintro e w1 ⟨rfl, hi1, hu1⟩
      obtain ⟨j, hj⟩ : ∃ j, j = n - 1 - k := ⟨_, rfl⟩
      have hji : (n : Int) - 1 - (k : Int) = (j : Int) := by omega
      obtain ⟨x, hx⟩ := get_some EN.out (show j < n by omega)
      have lx := HL.out.get hx
      have lx' : x < 18446744073709551616 := lx
      obtain ⟨bb, oo, rfl, hbb, hcc⟩ := HX.out.elem (f := Lc) (size := 1) (fun _ => rfl) hx (by omega)
      have q0 : w.cell? ⟨bb, oo + j, none⟩ = some (.int .u64 (x : Int)) := by have h := hcc 0 _ rfl; rwa [Nat.mul_one, Nat.add_zero] at h
      have hb1 : Below w.heap.size w w1 := HB.out.trans (hu1.below (by omega) HB.out.size)
      have z1 := hb1.size
      have hb2 := below1 w1 newI
      have q2 := bat hb2 (bat hb1 q0)
      have HI1 := Lib.hid hi1
      have HB1 := Lib.hid hb1
      have HJ := Lib.hid hj
      have HXJ := Lib.hid hx
      have hm1 := hi1.lt
      clear hi1 hu1 hj hx hcc q0 hb1 hb2
      go_wp2_with fail
      refine (setU_int _ 0 0 x _ (new_intAt w1) lx').mono ?_
      rintro e w2 ⟨rfl, hi2, hu2⟩
      have hb2 := newB hu2
      have HI2 := Lib.hid hi2
      have HB2 := Lib.hid hb2
      have HV2 := Lib.hid (HI1.out.below hb2)
      have z2 := hb2.size
      clear hi2 hu2 hb2 q2
      go_wp2_with fail
      refine (or_int _ 0 _ 0 _ 0 ((V : Int) * 2 ^ 64) ((V : Int) * 2 ^ 64) (x : Int) w2 HV2.out HV2.out HI2.out (by omega) (by omega) (or_lenA HVL.out) (or_lenB lx)).mono ?_
      rintro e w3 ⟨rfl, hi3, hu3⟩
      have HI3 := Lib.hid hi3
      have hb3 : Below w.heap.size w w3 := (HB1.out.trans (HB2.out.mono HB1.out.size)).trans (hu3.below (by omega) (by omega))
      have HB3 := Lib.hid hb3
      clear hi3 hu3 hb3
      go_wp2_with fail
      go_roundw
      case rel =>
        refine ⟨k + 1, by omega, by go_num, HB3.out, ?_⟩
        have h := HI3.out
        have e : ((V : Int) * 2 ^ 64).natAbs = V * 2 ^ 64 := by omega
        rw [e, Int.natAbs_natCast, or_low lx, HV.out] at h
        have hj := HJ.out
        have hd := ln_drop HXJ.out
        rw [show j + 1 = n - k by omega] at hd
        rw [show n - (k + 1) = j by omega, hd]
        exact h
      case measure => simp [intOf]; omega
    · obtain rfl : n = k := by omega
      have hnl : ¬ ((n : Int) < (n : Int)) := by omega
      rw [Nat.sub_self, List.drop_zero] at HV
      cases s with
      | false =>
        go_wp2_with fail
        go_ret
        exact ⟨_, rfl, Nat.le_refl _, hm, by rw [show sgL false xs = (V : Int) by rw [HV.out]; rfl]; exact HI.out, HB.out⟩
      | true =>
        go_wp2_with fail
        refine (neg_int _ 0 _ 0 (V : Int) (V : Int) wr HI.out HI.out (by rw [Int.natAbs_natCast]; have := HVL.out; omega)).mono ?_
        rintro e w1 ⟨rfl, hi1, hu1⟩
        have HI1 := Lib.hid hi1
        have hb1 : Below w.heap.size w w1 := HB.out.trans (hu1.below (by omega) HB.out.size)
        have HB1 := Lib.hid hb1
        have hm1 := hi1.lt
        clear hi1 hu1 hb1
        go_wp2_with fail
        go_ret
        exact ⟨_, rfl, Nat.le_refl _, hm1, by rw [show sgL true xs = -(V : Int) by rw [HV.out]; rfl]; exact HI1.out, HB1.out⟩

end Go.Proofs.Ytfepmbpcdfdlhaa

/- rank.over: the walk -/
namespace Go.Proofs.Ytfepmbpcdfdlhaa
open Go.RowKit Go.Sort

set_option maxRecDepth 100000 in
set_option maxHeartbeats 4000000 in
theorem over_rank (b1 b2 : Nat) (x y : Int) (w : World) (hx : IntAt w b1 0 x) (hy : IntAt w b2 0 y) (hy0 : y ≠ 0) (lx : (lim x.natAbs).length ≤ 20000) (ly : (lim y.natAbs).length ≤ 20000) :
    Calls Try.prog 35 #[PtrV b1, PtrV b2] w (Told w (Rat.divInt x y)) := by
  have dl : ∀ z : Nat, (lim z).length ≤ 20000 → (dig z).length ≤ 40000 := fun z hz => by
    have := dig_ln_len (lim_lds z)
    rw [ln_dig] at this
    omega
  have hdx := dl _ lx
  have hdy := dl _ ly
  obtain ⟨q, hq⟩ : ∃ q, q = Rat.divInt x y := ⟨_, rfl⟩
  have hsz := dsz (N := x) hy0
  rw [← hq] at hsz ⊢
  have HQ := Lib.hid hq
  have HS := Lib.hid (And.intro (Nat.le_trans (lim_len_mono hsz.1) lx) (Nat.le_trans (lim_len_mono hsz.2) ly))
  have HX := Lib.hid hx
  have HY := Lib.hid hy
  have HY0 := Lib.hid hy0
  have HD := Lib.hid dl
  clear hq hsz hx hy hy0 dl
  go_enter Try.func35, Try.ntmps35
  go_upto_region 1 with fail
  obtain ⟨wa, hwa⟩ : ∃ wa, wa = w.alloc (.cells #[.bool false, .slice none 0 0, .slice none 0 0] 43) := ⟨_, rfl⟩
  rw [← hwa]
  have hba : Below w.heap.size w wa := by rw [hwa]; exact below1 ..
  obtain ⟨ga, hga⟩ : ∃ ga, ga = w.heap.size := ⟨_, rfl⟩
  have hblk : wa.heap[ga]? = some (.cells #[.bool false, .slice none 0 0, .slice none 0 0] 43 (0, 0)) := by rw [hwa, hga]; exact blk_new ..
  have hgl : ga < wa.heap.size := by rw [hwa, hga]; simp
  have hgg : w.heap.size ≤ ga := by omega
  rw [← hga]
  have HBLK := Lib.hid hblk
  have HBA := Lib.hid hba
  clear hwa hba hga hblk
  go_wp2_with fail
  refine (setFrac_rat _ b1 0 b2 0 x y _ (new_rat wa) ((HX.out.below HBA.out).below (below1 ..)) ((HY.out.below HBA.out).below (below1 ..)) HY0.out (by omega) (by omega)).mono ?_
  rintro e w1 ⟨rfl, hr1, hu1⟩
  rw [← HQ.out] at hr1
  have hb1 : Below wa.heap.size wa w1 := (below1 ..).trans (hu1.below (Nat.le_refl _) (by simp))
  have HR1 := Lib.hid hr1
  have HB1 := Lib.hid hb1
  have z1 := hb1.size
  clear hr1 hu1 hb1
  go_wp2_with fail
  refine (sign_rat _ q w1 HR1.out).mono ?_
  rintro e w' ⟨rfl, rfl⟩
  obtain ⟨sg, hsg⟩ : ∃ sg, sg = decide (q.num < 0) := ⟨_, rfl⟩
  have hs0 : (sgnI q.num < 0) = (sg = true) := by
    rw [hsg]; unfold sgnI
    by_cases h : q.num < 0
    · simp [h]
    · by_cases h2 : q.num = 0
      · simp [h2]
      · simp [h, h2]
  have HSG := Lib.hid hsg
  clear hsg
  go_wp2_with fail
  refine (num_rat _ w1).mono ?_
  rintro e w' ⟨rfl, rfl⟩
  go_wp2_with fail
  refine (limbs_rank _ q.num w1 HR1.out.1 (Nat.le_trans (HD.out _ HS.out.1) (by decide))).mono ?_
  rintro e w2 ⟨A1, c1, rfl, _, hrd2, hb2⟩
  have HL1 := Lib.hid hrd2
  have HB2 := Lib.hid hb2
  have HR2 := Lib.hid (HR1.out.below hb2)
  clear hrd2 hb2
  go_wp2_with fail
  refine (denom_rat _ q w2 HR2.out (Nat.le_trans (HD.out _ HS.out.2) (by decide))).mono ?_
  rintro e w3 ⟨g3, rfl, hg3, hg3l, hi3, hb3⟩
  have HI3 := Lib.hid hi3
  have HB3 := Lib.hid hb3
  clear hi3 hb3
  go_wp2_with fail
  refine (limbs_rank _ (q.den : Int) w3 HI3.out (by rw [Int.natAbs_natCast]; exact Nat.le_trans (HD.out _ HS.out.2) (by decide))).mono ?_
  rw [Int.natAbs_natCast]
  rintro e w4 ⟨A2, c2, rfl, _, hrd4, hb4⟩
  have hr1' : RdE Lc 1 w4 (fun b => b < w4.heap.size) A1 (lim q.num.natAbs).length (lim q.num.natAbs) := (HL1.out.imp (S' := fun b => b < w2.heap.size) (fun b h => h.2)).belowL (HB3.out.trans (hb4.mono HB3.out.size))
  have hr2' : RdE Lc 1 w4 (fun b => b < w4.heap.size) A2 (lim q.den).length (lim q.den) := hrd4.imp (fun b h => h.2)
  have hat : RAt w4 (.agg #[.bool sg, .slice A1 (lim q.num.natAbs).length c1, .slice A2 (lim q.den).length c2]) (rv q) :=
    ⟨A1, _, c1, A2, _, c2, by unfold rv; rw [HSG.out], hr1', hr2', lim_lds _, lim_lds _⟩
  have hbt : Below wa.heap.size wa w4 := HB1.out.trans (((HB2.out.trans (HB3.out.mono HB2.out.size)).trans (hb4.mono (Nat.le_trans HB2.out.size HB3.out.size))).mono HB1.out.size)
  have HAT := Lib.hid hat
  have HBT := Lib.hid hbt
  clear hrd4 hb4 hr1' hr2' hat hbt
  go_wp2_with fail
  refine (norm_ratio _ (rv q) w4 HAT.out HS.out.1 HS.out.2).mono ?_
  rintro e w5 hp
  unfold NormPost at hp
  rw [if_neg (by
    show ¬ ln (lim q.den) = 0
    rw [ln_dig]; exact q.den_nz), rv_q] at hp
  obtain ⟨v5, rfl, hv5, hb5⟩ := hp
  have HV5 := Lib.hid hv5
  obtain ⟨B, m, d, B', m', d', rfl, hh⟩ := hv5
  clear hh
  have hbx : Below wa.heap.size wa w5 := HBT.out.trans (hb5.mono HBT.out.size)
  have hblk : w5.heap[ga]? = some (.cells #[.bool false, .slice none 0 0, .slice none 0 0] 43 (0, 0)) := (hbx.block ga hgl).trans HBLK.out
  obtain ⟨kc, kf⟩ := blk_cells hblk
  have kc0 := kc 0
  have kc1 := kc 1
  have kc2 := kc 2
  have kf0 := kf 0
  have kf1 := kf 1
  have kf2 := kf 2
  simp only [List.getElem?_toArray, List.getElem?_cons_zero, List.getElem?_cons_succ] at kc0 kc1 kc2
  have HBX := Lib.hid hbx
  obtain ⟨tn, htn⟩ : ∃ tn, tn = (toldR q).neg := ⟨_, rfl⟩
  obtain ⟨te, hte⟩ : ∃ te, te = toldE q := ⟨_, rfl⟩
  rw [← htn] at HV5 ⊢
  rw [← hte]
  have HTE := Lib.hid hte
  obtain ⟨w6, hw6⟩ : ∃ w6, w6 = ((w5.setCell ⟨ga, 0, none⟩ (.bool tn)).setCell ⟨ga, 1, none⟩ (.slice B m d)).setCell ⟨ga, 2, none⟩ (.slice B' m' d') := ⟨_, rfl⟩
  obtain ⟨hu6, q0, q1, q2⟩ := rat_set kc0 kc1 kc2 _ _ _ _ _ _ _ _ hw6
  have HW6 := Lib.hid hw6
  have HU6 := Lib.hid hu6
  have Q0 := Lib.hid q0
  have Q1 := Lib.hid q1
  have Q2 := Lib.hid q2
  clear kc kf hblk hbx hb5 hw6 hu6 q0 q1 q2 htn hte
  go_wp2_with fail
  rw [← HW6.out]
  have q0 := Q0.out
  have q1 := Q1.out
  have q2 := Q2.out
  (try simp only [Exit.inBlock, Exit.then])
  refine bodyPost_ret (v := .tuple #[.agg #[.bool tn, .slice B m d, .slice B' m' d'], .int .i64 te]) (by simp [results, Try.results35, go_sem, q0, q1, q2]; done) rfl ?_
  exact ⟨_, by rw [HTE.out], HV5.out.upb HU6.out, (HBA.out.trans (HBX.out.mono HBA.out.size)).trans (HU6.out.below hgg (Nat.le_trans HBA.out.size HBX.out.size))⟩

end Go.Proofs.Ytfepmbpcdfdlhaa
