import Derived.Test.YtfepmbpcdfdlhaaX14
import Derived.Deep.Cut
import Derived.Deep.DeepCutAuto
set_option linter.unusedSimpArgs false
set_option linter.unusedVariables false
/- (*rank.table).reduce: the walk -/
namespace Go.Proofs.Ytfepmbpcdfdlhaa
open Go.RowKit Go.Sort

section
variable {P : Program} {ops : Array Oper} {md : Region.Mode} {Q : Exit → Act → World → Prop} {S : World → Prop} {c : Nat}
/-- an operation that asks nothing of the world may be taken at once -/
theorem wpAnyG_freeF {i : Nat} {oi : Oper} {v : Value} (hi : ops[i]? = some oi) (hsel : ∀ (j : Nat) (o : Oper) cs b, ops[j]? = some o → o.op ≠ .select cs b)
    (hQ : ∀ c a w, Q (.panic c) (a.put oi.dst v) w → Q (.panic c) a w) (hci : c ≠ i) :
    ∀ (fuel : Nat) (listed : Array Bool) (a : Act) (w : World),
      (∀ j oj, ops[j]? = some oj → j ≠ i → listed.getD j true = false → (∀ e ∈ oj.after, Region.binds md e = true → e.on ≠ i) → oi.apart ops oj = true) →
      i ∈ Region.ready md ops listed → YieldsIf P ops (fun _ => True) oi v a → (S w ∨ listed.getD c false = true) →
      wpAnyG P md ops Q S c fuel (listed.setIfInBounds i true) (a.put oi.dst v) w → wpAnyG P md ops Q S c (fuel + 1) listed a w := by
  intro fuel
  have hgc : ∀ l : Array Bool, l.getD c false = true → (l.setIfInBounds i true).getD c false = true := fun l h => by rw [getDf_set_ne (fun e => hci e.symm)]; exact h
  induction fuel with
  | zero =>
    intro listed a w _ hr hy hS H
    refine ⟨fun h => (by rw [h] at hr; cases hr), fun j hj => ?_⟩
    by_cases hji : j = i
    · subst hji; exact hy.wpOp hi trivial ⟨hS.imp id (hgc _), H⟩
    · have := ready_mono hj hji
      rw [H.1] at this
      cases this
  | succ fuel ih =>
    intro listed a w hfree hr hy hS H
    refine ⟨fun h => (by rw [h] at hr; cases hr), fun j hj => ?_⟩
    by_cases hji : j = i
    · subst hji; exact hy.wpOp hi trivial ⟨hS.imp id (hgc _), H⟩
    · have h1 := H.2 j (ready_mono hj hji)
      have hun := (mem_ready.1 hr).1
      obtain ⟨hjun, oj, hoj, hall⟩ := mem_ready.1 hj
      have hnot : ∀ e ∈ oj.after, Region.binds md e = true → e.on ≠ i := fun e he hb heq => by
        have h2 := hall e he hb
        rw [heq, getD_both hun] at h2
        cases h2
      have h2 := wpOp_putIf hoj (hfree j oj hoj hji hjun hnot) (fun cs b => hsel i oi cs b hi) (fun cs b => hsel j oj cs b hoj) hQ hy h1
      have hfree' : ∀ k ok, ops[k]? = some ok → k ≠ i → (listed.setIfInBounds j true).getD k true = false →
          (∀ e ∈ ok.after, Region.binds md e = true → e.on ≠ i) → oi.apart ops ok = true := fun k ok hk hki hu hno => by
        refine hfree k ok hk hki ?_ hno
        by_cases hjk : j = k
        · subst hjk; exact hjun
        · rw [getD_set_ne true hjk] at hu; exact hu
      refine wpOp_mono (fun a' w' h3 => ?_) h2
      have hS' : S w' ∨ (listed.setIfInBounds j true).getD c false = true := by
        refine h3.2.1.imp id fun h => ?_
        rw [Array.setIfInBounds_comm _ _ (fun e => hji e.symm), getDf_set_ne (fun e => hci e.symm)] at h
        exact h
      refine ⟨hS', ih (listed.setIfInBounds j true) a' w' hfree' (ready_mono hr (Ne.symm hji)) h3.1 hS' ?_⟩
      rw [Array.setIfInBounds_comm _ _ hji]
      exact h3.2.2
theorem wpAnyG_free {i : Nat} {oi : Oper} {v : Value} {fuel : Nat} {listed : Array Bool} {a : Act} {w : World} (hi : ops[i]? = some oi)
    (hs : Region.noSelect ops = true) (hf : Region.free md ops listed i = true) (hr : (Region.ready md ops listed).contains i = true) (hci : c ≠ i)
    (hQ : ∀ c a w, Q (.panic c) (a.put oi.dst v) w → Q (.panic c) a w) (hy : YieldsIf P ops (fun _ => True) oi v a) (hS : S w ∨ listed.getD c false = true)
    (h : wpAnyG P md ops Q S c fuel (listed.setIfInBounds i true) (a.put oi.dst v) w) : wpAnyG P md ops Q S c (fuel + 1) listed a w :=
  wpAnyG_freeF hi (Region.noSelect_spec hs) hQ hci fuel listed a w (Region.free_spec hi hf) (by simpa using hr) hy hS h
end

theorem piv_zero {T : List (List Int)} {r c i : Nat} (hi : r ≤ i) (hlt : i < pivAt T r c) (hl : i < T.length) : tf T i c = 0 := by
  have h1 : i - r < (T.drop r).findIdx (fun row => row.getD c 0 != 0) := by unfold pivAt at hlt; omega
  have h2 := List.not_of_lt_findIdx h1
  have h3 : T[i]? = some ((T.drop r)[i - r]'(by rw [List.length_drop]; omega)) := by
    rw [List.getElem_drop, List.getElem?_eq_getElem hl]
    congr 2; omega
  rw [tf_get h3]
  simpa using h2
theorem tf_at {T : List (List Int)} {i c : Nat} {zs : List Int} {z : Int} (h : T[i]? = some zs) (hz : zs[c]? = some z) : tf T i c = z := by
  rw [tf_get h, List.getD_eq_getElem?_getD, hz]; rfl
theorem info_int : (Try.prog.info? 3).map (fun i => (i.zero, i.size, i.bytes)) = some (some (.int .i64 0), 1, 8) := by kernel_rfl
theorem RSt.start {w w1 w2 : World} {gt G R C cR : Nat} {gs : List Nat} {gl : Nat} {T : List (List Int)} (hT : TRows w G R C gs T) (h0 : w.cell? ⟨gt, 0, none⟩ = some (.slice (some ⟨G, 0, none⟩) R cR)) (h1 : w.cell? ⟨gt, 1, none⟩ = some (.slice none 0 0)) (h2 : w.cell? ⟨gt, 2, none⟩ = some (.pointer none)) (hfz : ∀ j, w.frozen? ⟨gt, j, none⟩ = false)
    (ne : gt ≠ G) (nm : gt ∉ gs) (hR : 0 < R) (hC : 0 < C) (hb : Below w.heap.size w w1) (hi : IntAt w1 gl 0 1) (hgl : w.heap.size ≤ gl) (hw : w2 = w1.setCell ⟨gt, 2, none⟩ (PtrV gl)) :
    RSt w2 gt G R C cR w.heap.size gs (.slice none 0 0) gl T [] 1 ∧ UpS w w2 (fun b => b = gt) := by
  have hl := World.block_lt_of_cell? w ⟨gt, 0, none⟩ h0
  have hl : gt < w.heap.size := hl
  have e2 : w1.cell? ⟨gt, 2, none⟩ = some (.pointer none) := bat hb h2
  have hu : UpS w1 w2 (fun b => b = gt) := by rw [hw]; exact upS_set e2 (fun kd x e => by cases e)
  have hT1 := hT.below hb
  refine ⟨⟨hT1.ups hu (fun e => ne e.symm) (fun g hg e => nm (e ▸ hg)) (fun b z hbz e => ?_), ?_, ?_, ?_, fun j => ?_, hi.ups hu (by omega), OwnR.nil .., ne, nm, hl, hT.ltG, fun g hg => ?_, hR, hC, Nat.le_trans hb.size hu.size⟩, (UpS.of_below (fun b => b = gt) hb).trans hu (fun b _ h => h)⟩
  · subst e
    have := hbz.neg
    rw [bat hb h0] at this
    cases this
  · rw [hw, set_other gt (by omega)]; exact bat hb h0
  · rw [hw, set_other gt (by omega)]; exact bat hb h1
  · rw [hw]; exact set_self e2
  · rw [hw, set_frozen]; exact bfz hb hl (hfz j)
  · obtain ⟨i, hi⟩ := List.getElem?_of_mem hg
    have hil := (List.getElem?_eq_some_iff.1 hi).1
    obtain ⟨g', zs, ps, c, k1, k2, k3, k4, k5⟩ := hT.get (show i < R by rw [← hT.lg]; exact hil)
    rw [hi] at k1
    injection k1 with k1
    subst k1
    exact k4.lt

set_option maxRecDepth 100000 in
set_option maxHeartbeats 8000000 in
theorem reduce_tab (gt G R C cR cols M E : Nat) (gs : List Nat) (T0 : List (List Int)) (w : World) (hT : TRows w G R C gs T0)
    (h0 : w.cell? ⟨gt, 0, none⟩ = some (.slice (some ⟨G, 0, none⟩) R cR)) (h1 : w.cell? ⟨gt, 1, none⟩ = some (.slice none 0 0)) (h2 : w.cell? ⟨gt, 2, none⟩ = some (.pointer none)) (hfz : ∀ j, w.frozen? ⟨gt, j, none⟩ = false)
    (ne : gt ≠ G) (nm : gt ∉ gs) (hR : 0 < R) (hC : 0 < C) (hR1 : R ≤ 1000000) (hC1 : C ≤ 1000000) (hcols : cols ≤ C) (hM : ∀ i k, (tf T0 i k).natAbs ≤ M) (hB : bigB R M < 2 ^ E) (hE : E ≤ 3000000) :
    Calls Try.prog 45 #[PtrV gt, .int .i64 (cols : Int)] w fun e w' => e = .returned (.tuple #[]) ∧
      ∃ gs' V gl, RSt w' gt G R C cR w.heap.size gs' V gl (brun T0 cols).rows (brun T0 cols).piv (brun T0 cols).last ∧ (∀ g, g ∈ gs' ↔ g ∈ gs) ∧ UpS w w' (fun b => b = gt ∨ b = G ∨ b ∈ gs) := by
  obtain ⟨i0, hi0, hzz0, hzz1, hzz2⟩ := info_parts' info_int
  have HBM : Hid (∀ c, BM R C M c (brun T0 c)) := Lib.hid (brun_bm hT.rct hM)
  have HBB := Lib.hid hB
  have HH := Lib.hid (And.intro hT (And.intro h0 (And.intro h1 (And.intro h2 (And.intro hfz (And.intro ne (And.intro nm (And.intro hR hC))))))))
  have hl : gt < w.heap.size := World.block_lt_of_cell? w ⟨gt, 0, none⟩ h0
  have HGT := Lib.hid hl
  clear hB hM
  clear hT h0 h1 ne nm hl
  go_enter Try.func45, Try.ntmps45
  go_wp2_with fail
  refine (newInt_int 1 w (by omega) (by omega)).mono ?_
  rintro e wA ⟨gl, rfl, hgl, hgl2, hi, hb⟩
  have a2 : wA.cell? ⟨gt, 2, none⟩ = some (.pointer none) := bat hb h2
  have af : wA.frozen? ⟨gt, 2, none⟩ = false := bfz hb HGT.out (hfz 2)
  obtain ⟨w1, hw1⟩ : ∃ w1, w1 = wA.setCell ⟨gt, 2, none⟩ (PtrV gl) := ⟨_, rfl⟩
  obtain ⟨hst1, hu1⟩ := RSt.start HH.out.1 HH.out.2.1 HH.out.2.2.1 HH.out.2.2.2.1 HH.out.2.2.2.2.1 HH.out.2.2.2.2.2.1 HH.out.2.2.2.2.2.2.1 HH.out.2.2.2.2.2.2.2.1 HH.out.2.2.2.2.2.2.2.2 hb hi hgl hw1
  have HW1 := Lib.hid hw1
  have HST1 := Lib.hid hst1
  have HU1 := Lib.hid hu1
  clear hi hb h2 hfz hw1 hst1 hu1
  go_wp2_with fail
  rw [← HW1.out]
  clear a2 af
  go_loopw [15] (fun iv wr => ∃ (c : Nat) (gs' : List Nat) (V : Value) (gl' : Nat), c ≤ cols ∧ iv = .int .i64 c ∧ RSt wr gt G R C cR w.heap.size gs' V gl' (brun T0 c).rows (brun T0 c).piv (brun T0 c).last ∧ (∀ g, g ∈ gs' ↔ g ∈ gs) ∧ UpS w wr (fun b => b = gt ∨ b = G ∨ b ∈ gs)) (fun iv _ => cols - (intOf iv).toNat)
  case atStart => exact ⟨0, gs, _, gl, Nat.zero_le _, rfl, HST1.out, fun g => Iff.rfl, HU1.out.mono (fun b h => .inl h)⟩
  case round =>
    obtain ⟨c, gs', V, gl', hc, rfl, hst, hmem, hu⟩ := hrel
    obtain ⟨s, hs⟩ : ∃ s, s = brun T0 c := ⟨_, rfl⟩
    have hbm := HBM.out c
    rw [← hs] at hst hbm
    obtain ⟨A, cV, hV, _, _⟩ := own_slice hst.piv.own
    rw [hV] at hst
    have HS := Lib.hid hs
    have HBS := Lib.hid hbm
    have HST := Lib.hid hst
    have HMEM := Lib.hid hmem
    have HU := Lib.hid hu
    have c0 := hst.c0
    have c1 := hst.c1
    have hrl := hbm.le
    obtain ⟨r, hr⟩ : ∃ r, r = s.piv.length := ⟨_, rfl⟩
    have HR := Lib.hid hr
    rw [← hr] at c1 hrl
    clear hs hbm hst hmem hu hr hV
    by_cases hlt : c < cols
    · have hlti : (c : Int) < (cols : Int) := by omega
      go_wp2_with fail
      go_loopw [6] (fun av wx => ∃ a : Nat, r ≤ a ∧ a ≤ pivAt s.rows r c ∧ a ≤ R ∧ av = .int .i64 a ∧ wx = wr) (fun av _ => R - (intOf av).toNat)
      case atStart => exact ⟨r, Nat.le_refl _, by unfold pivAt; omega, hrl, rfl, rfl⟩
      case round =>
        obtain ⟨a, ha1, ha2, ha3, rfl, rfl⟩ := hrel
        have HA2 := Lib.hid ha2
        by_cases haR : a = R
        · subst haR
          have hnl : ¬ ((a : Int) < (a : Int)) := by omega
          go_wp2_with fail
          have hpe : pivAt s.rows s.piv.length c = s.rows.length := by
            have h1 := pivAt_le s.rows (r := s.piv.length) (c := c) (by rw [HST.out.rows.rct.1, ← HR.out]; exact hrl)
            have h2 := HA2.out
            rw [HR.out] at h2
            have h3 := HST.out.rows.rct.1
            omega
          have e : brun T0 (c + 1) = s := by rw [brun_succ, ← HS.out]; unfold bstep; rw [if_pos hpe]
          refine ⟨⟨c + 1, gs', _, gl', by omega, by go_num, by rw [e]; exact HST.out, HMEM.out, HU.out⟩, by simp [intOf]; omega⟩
        · have hlt2 : (a : Int) < (R : Int) := by omega
          obtain ⟨g, zs, ps, ca, h1, h2, h3, h4, h5⟩ := HST.out.rows.get (show a < R by omega)
          obtain ⟨z, hz⟩ : ∃ z, zs[c]? = some z := ⟨_, List.getElem?_eq_getElem (by omega)⟩
          obtain ⟨q, hq⟩ : ∃ q, ps[c]? = some q := ⟨_, List.getElem?_eq_getElem (by rw [h4.len]; omega)⟩
          have h6 := h4.ptr c q hq
          have hqz := h4.int c q z hq hz
          have HQZ := Lib.hid hqz
          have HH2 := Lib.hid (And.intro h1 (And.intro h2 (And.intro h3 (And.intro h4 (And.intro hz hq)))))
          clear h1 h2 h3 h4 hqz hz hq
          go_wp2_with fail
          refine (sign_int q 0 z _ HQZ.out).mono ?_
          rintro e w' ⟨rfl, rfl⟩
          by_cases hz0 : z = 0
          · have e0 : sgnI z = 0 := by rw [hz0]; rfl
            rw [e0]
            go_wp2_with fail
            have hne : a ≠ pivAt s.rows r c := fun e => by
              have h1 := pivAt_some (T := s.rows) (r := s.piv.length) (c := c) (by rw [HST.out.rows.rct.1, ← HR.out]; exact hrl) (by rw [← HR.out, ← e, HST.out.rows.rct.1]; exact haR)
              rw [← HR.out, ← e] at h1
              exact h1.2.2 ((tf_at HH2.out.2.1 HH2.out.2.2.2.2.1).trans hz0)
            refine ⟨⟨a + 1, by omega, by have := HA2.out; omega, by omega, by go_num, trivial⟩, by simp [intOf]; omega⟩
          · have e0 : sgnI z ≠ 0 := by unfold sgnI; split <;> simp [hz0]
            have hpa : pivAt s.rows r c = a := by
              rcases Nat.lt_or_ge a (pivAt s.rows r c) with h | h
              · exact absurd ((tf_at HH2.out.2.1 HH2.out.2.2.2.2.1).symm.trans (piv_zero ha1 h (by rw [HST.out.rows.rct.1]; omega))) hz0
              · have := HA2.out; omega
            have HPA := Lib.hid hpa
            clear hpa
            go_wp2_with fail
            obtain ⟨gr, zr, pr, cr, k1, k2, k3, k4, k5⟩ := HST.out.rows.get (show r < R by omega)
            have hrR : (r : Int) < (R : Int) := by omega
            have fG := HST.out.rows.fz
            have fa := fG a
            have fr := fG r
            obtain ⟨wd, hwd⟩ : ∃ wd, wd = wr.drew := ⟨_, rfl⟩
            have hbd : Below wr.heap.size wr wd := by rw [hwd]; exact (Below.refl _ _).drew
            have hstd := HST.out.below hbd
            have HBD := Lib.hid hbd
            have y0 := bat hbd c0
            have y1 := bat hbd h5
            have y2 := bat hbd k5
            have y3 := bfz hbd HST.out.rows.ltG fa
            have y4 := bfz hbd HST.out.rows.ltG fr
            have Y0 := Lib.hid y0
            have Y1 := Lib.hid y1
            have Y2 := Lib.hid y2
            have Y3 := Lib.hid y3
            have Y4 := Lib.hid y4
            have HSTD := Lib.hid hstd
            have HWD := Lib.hid hwd
            have HK := Lib.hid (And.intro k1 (And.intro k2 (And.intro k3 k4)))
            clear y3 y4 hbd hstd hwd fG fa fr k1 k2 k3 k4
            obtain ⟨w6, hw6⟩ : ∃ w6, w6 = wd.setCell ⟨G, r, none⟩ (.slice (some ⟨g, 0, none⟩) C ca) := ⟨_, rfl⟩
            obtain ⟨v6, hv6⟩ : ∃ v, w6.cell? ⟨G, a, none⟩ = some v := by
              rw [hw6]
              by_cases e : a = r
              · subst e; exact ⟨_, set_self y1⟩
              · exact ⟨_, (set_other G (fun _ => e)).trans y1⟩
            have f6 : w6.frozen? ⟨G, a, none⟩ = false := by rw [hw6, set_frozen]; exact Y3.out
            have HW6 := Lib.hid hw6
            have V6 := Lib.hid hv6
            have F6 := Lib.hid f6
            clear hw6 hv6 f6
            rw [HWD.out] at y0 y1 y2
            refine wp_region_G (S := (fun w' => w'.cell? ⟨gt, 0, none⟩ = some (.slice (some ⟨G, 0, none⟩) R cR) ∧ w'.cell? ⟨G, a, none⟩ = some (.slice (some ⟨g, 0, none⟩) C ca) ∧ w'.cell? ⟨G, r, none⟩ = some (.slice (some ⟨gr, 0, none⟩) C cr))) 25 (by kernel_rfl) ?_ (fun hHeld => ?_)
            · first | exact True.intro | ((try dsimp only); go_keep)
            rw [← HWD.out] at *
            refine tkG (i := 0) (v := ?_) rfl (by kernel_rfl) (Or.inl ⟨by kernel_rfl, ?_⟩) (by assumption) ?_
            rotate_left 1
            · (intro w hSw; (try dsimp only at hSw); go_simp; try with_reducible rfl)
            try simp only [lyA, lyB, lyC, Act.put, lyD, lyE, lyF]
            refine tkG (i := 1) (v := ?_) rfl (by kernel_rfl) (Or.inl ⟨by kernel_rfl, ?_⟩) (by assumption) ?_
            rotate_left 1
            · (intro w hSw; (try dsimp only at hSw); go_simp; try with_reducible rfl)
            try simp only [lyA, lyB, lyC, Act.put, lyD, lyE, lyF]
            refine tkG (i := 2) (v := ?_) rfl (by kernel_rfl) (Or.inl ⟨by kernel_rfl, ?_⟩) (by assumption) ?_
            rotate_left 1
            · (intro w hSw; (try dsimp only at hSw); go_simp; try with_reducible rfl)
            try simp only [lyA, lyB, lyC, Act.put, lyD, lyE, lyF]
            refine tkG (i := 3) (v := ?_) rfl (by kernel_rfl) (Or.inl ⟨by kernel_rfl, ?_⟩) (by assumption) ?_
            rotate_left 1
            · (intro w hSw; (try dsimp only at hSw); go_simp; try with_reducible rfl)
            try simp only [lyA, lyB, lyC, Act.put, lyD, lyE, lyF]
            refine tkG (i := 4) (v := ?_) rfl (by kernel_rfl) (Or.inl ⟨by kernel_rfl, ?_⟩) (by assumption) ?_
            rotate_left 1
            · (intro w hSw; (try dsimp only at hSw); go_simp; try with_reducible rfl)
            try simp only [lyA, lyB, lyC, Act.put, lyD, lyE, lyF]
            refine tkG (i := 5) (v := ?_) rfl (by kernel_rfl) (Or.inl ⟨by kernel_rfl, ?_⟩) (by assumption) ?_
            rotate_left 1
            · (intro w hSw; (try dsimp only at hSw); go_simp; try with_reducible rfl)
            try simp only [lyA, lyB, lyC, Act.put, lyD, lyE, lyF]
            refine tkG (i := 6) (v := ?_) rfl (by kernel_rfl) (Or.inl ⟨by kernel_rfl, ?_⟩) (by assumption) ?_
            rotate_left 1
            · (intro w hSw; (try dsimp only at hSw); go_simp; try with_reducible rfl)
            try simp only [lyA, lyB, lyC, Act.put, lyD, lyE, lyF]
            refine tkG (i := 7) (v := ?_) rfl (by kernel_rfl) (Or.inl ⟨by kernel_rfl, ?_⟩) (by assumption) ?_
            rotate_left 1
            · (intro w hSw; (try dsimp only at hSw); go_simp; try with_reducible rfl)
            try simp only [lyA, lyB, lyC, Act.put, lyD, lyE, lyF]
            refine tkG (i := 8) (v := ?_) rfl (by kernel_rfl) (Or.inl ⟨by kernel_rfl, ?_⟩) (by assumption) ?_
            rotate_left 1
            · (intro w hSw; (try dsimp only at hSw); go_simp; try with_reducible rfl)
            try simp only [lyA, lyB, lyC, Act.put, lyD, lyE, lyF]
            refine tkG (i := 10) (v := ?_) rfl (by kernel_rfl) (Or.inl ⟨by kernel_rfl, ?_⟩) (by assumption) ?_
            rotate_left 1
            · (intro w hSw; (try dsimp only at hSw); go_simp; try with_reducible rfl)
            try simp only [lyA, lyB, lyC, Act.put, lyD, lyE, lyF]
            refine tkG (i := 11) (v := ?_) rfl (by kernel_rfl) (Or.inl ⟨by kernel_rfl, ?_⟩) (by assumption) ?_
            rotate_left 1
            · (intro w hSw; (try dsimp only at hSw); go_simp; try with_reducible rfl)
            try simp only [lyA, lyB, lyC, Act.put, lyD, lyE, lyF]
            refine tkG (i := 12) (v := ?_) rfl (by kernel_rfl) (Or.inl ⟨by kernel_rfl, ?_⟩) (by assumption) ?_
            rotate_left 1
            · (intro w hSw; (try dsimp only at hSw); go_simp; try with_reducible rfl)
            try simp only [lyA, lyB, lyC, Act.put, lyD, lyE, lyF]
            refine tkG (i := 13) (v := ?_) rfl (by kernel_rfl) (Or.inl ⟨by kernel_rfl, ?_⟩) (by assumption) ?_
            rotate_left 1
            · (intro w hSw; (try dsimp only at hSw); go_simp; try with_reducible rfl)
            try simp only [lyA, lyB, lyC, Act.put, lyD, lyE, lyF]
            refine tkG (i := 14) (v := ?_) rfl (by kernel_rfl) (Or.inl ⟨by kernel_rfl, ?_⟩) (by assumption) ?_
            rotate_left 1
            · (intro w hSw; (try dsimp only at hSw); go_simp; try with_reducible rfl)
            try simp only [lyA, lyB, lyC, Act.put, lyD, lyE, lyF]
            refine tkG (i := 15) (v := ?_) rfl (by kernel_rfl) (Or.inl ⟨by kernel_rfl, ?_⟩) (by assumption) ?_
            rotate_left 1
            · (intro w hSw; (try dsimp only at hSw); go_simp; try with_reducible rfl)
            try simp only [lyA, lyB, lyC, Act.put, lyD, lyE, lyF]
            refine tkG (i := 16) (v := ?_) rfl (by kernel_rfl) (Or.inl ⟨by kernel_rfl, ?_⟩) (by assumption) ?_
            rotate_left 1
            · (intro w hSw; (try dsimp only at hSw); go_simp; try with_reducible rfl)
            try simp only [lyA, lyB, lyC, Act.put, lyD, lyE, lyF]
            refine tkG (i := 17) (v := ?_) rfl (by kernel_rfl) (Or.inl ⟨by kernel_rfl, ?_⟩) (by assumption) ?_
            rotate_left 1
            · (intro w hSw; (try dsimp only at hSw); go_simp; try with_reducible rfl)
            try simp only [lyA, lyB, lyC, Act.put, lyD, lyE, lyF]
            refine tkG (i := 18) (v := ?_) rfl (by kernel_rfl) (Or.inl ⟨by kernel_rfl, ?_⟩) (by assumption) ?_
            rotate_left 1
            · (intro w hSw; (try dsimp only at hSw); go_simp; try with_reducible rfl)
            try simp only [lyA, lyB, lyC, Act.put, lyD, lyE, lyF]
            refine tkG (i := 19) (v := ?_) rfl (by kernel_rfl) (Or.inl ⟨by kernel_rfl, ?_⟩) (by assumption) ?_
            rotate_left 1
            · (intro w hSw; (try dsimp only at hSw); go_simp; try with_reducible rfl)
            try simp only [lyA, lyB, lyC, Act.put, lyD, lyE, lyF]
            refine tkG (i := 20) (v := ?_) rfl (by kernel_rfl) (Or.inl ⟨by kernel_rfl, ?_⟩) (by assumption) ?_
            rotate_left 1
            · (intro w hSw; (try dsimp only at hSw); go_simp; try with_reducible rfl)
            try simp only [lyA, lyB, lyC, Act.put, lyD, lyE, lyF]
            refine tkG (i := 21) (v := ?_) rfl (by kernel_rfl) (Or.inl ⟨by kernel_rfl, ?_⟩) (by assumption) ?_
            rotate_left 1
            · (intro w hSw; (try dsimp only at hSw); go_simp; try with_reducible rfl)
            try simp only [lyA, lyB, lyC, Act.put, lyD, lyE, lyF]
            refine tkG (i := 22) (v := ?_) rfl (by kernel_rfl) (Or.inl ⟨by kernel_rfl, ?_⟩) (by assumption) ?_
            rotate_left 1
            · (intro w hSw; (try dsimp only at hSw); go_simp; try with_reducible rfl)
            try simp only [lyA, lyB, lyC, Act.put, lyD, lyE, lyF]
            refine tkG (i := 23) (v := ?_) rfl (by kernel_rfl) (Or.inl ⟨by kernel_rfl, ?_⟩) (by assumption) ?_
            rotate_left 1
            · (intro w hSw; (try dsimp only at hSw); go_simp; try with_reducible rfl)
            try simp only [lyA, lyB, lyC, Act.put, lyD, lyE, lyF]
            refine tkG (i := 24) (v := ?_) rfl (by kernel_rfl) (Or.inl ⟨by kernel_rfl, ?_⟩) (by assumption) ?_
            rotate_left 1
            · (intro w hSw; (try dsimp only at hSw); go_simp; try with_reducible rfl)
            try simp only [lyA, lyB, lyC, Act.put, lyD, lyE, lyF]
            refine wpAnyG_free (i := 9) (v := ?_) rfl (by kernel_rfl) (by kernel_rfl) (by kernel_rfl) (by decide) (fun _ _ _ h => h) (Or.inl ⟨by kernel_rfl, ?_⟩) (.inl (by assumption)) ?_
            rotate_left 1
            · (intro w _; go_simp; try with_reducible rfl)
            try simp only [lyA, lyB, lyC, Act.put, lyD, lyE, lyF]
            have s0 := Y2.out
            have s1 := Y4.out
            refine wpAnyG_one (i := 25) (by kernel_rfl) rfl (fun K hK => ?_)
            go_simp
            refine hK.out _ _ ?_ (fun hHeld => ?_)
            · exact .inr (by kernel_rfl)
            clear hK K
            try simp only [lyA, lyB, lyC, Act.put, lyD, lyE, lyF]
            rw [← HW6.out]
            have s2 := V6.out
            have s3 := F6.out
            refine wpAnyG_one (i := 26) (by kernel_rfl) rfl (fun K hK => ?_)
            go_simp
            refine hK.out _ _ ?_ (fun hHeld => ?_)
            · exact .inr (by kernel_rfl)
            clear hK K
            try simp only [lyA, lyB, lyC, Act.put, lyD, lyE, lyF]
            refine wpAnyG_one (i := 27) (by kernel_rfl) rfl (fun K hK => ?_)
            go_simp
            refine hK.out _ _ ?_ (fun hHeld => ?_)
            · exact .inr (by kernel_rfl)
            clear hK K
            try simp only [lyA, lyB, lyC, Act.put, lyD, lyE, lyF]
            refine wpAnyG_done (by kernel_rfl) ?_ _
            obtain ⟨w7, hw7⟩ : ∃ w7, w7 = w6.setCell ⟨G, a, none⟩ (.slice (some ⟨gr, 0, none⟩) C cr) := ⟨_, rfl⟩
            rw [← hw7]
            obtain ⟨hst7, hu7, hmem7⟩ := HSTD.out.swap (w' := w7) HK.out.1 HH2.out.1 Y2.out Y1.out (by rw [hw7, HW6.out])
            have hru : UpS wr w7 (fun b => b = gt ∨ b = G ∨ b ∈ gs) := (UpS.of_below (fun b => b = gt ∨ b = G ∨ b ∈ gs) HBD.out).trans hu7 (fun b _ h => .inr (.inl h))
            have HST7 := Lib.hid hst7
            have HU7 := Lib.hid (HU.out.trans hru (fun b _ h => h))
            have HMEM7 : Hid (∀ x, x ∈ swapAt gs' r a ↔ x ∈ gs) := Lib.hid (fun x => (hmem7 x).trans (HMEM.out x))
            obtain ⟨bR, bRect, bNe, _⟩ := HBS.out.swapped (by rw [← HR.out, HPA.out, HST.out.rows.rct.1]; exact haR)
            rw [← HR.out, HPA.out] at bRect bNe
            have hbn : brun T0 (c + 1) = ⟨elim (swapAt s.rows r a) r c s.last, s.piv ++ [c], tf (swapAt s.rows r a) r c⟩ := by
              rw [brun_succ, ← HS.out]
              unfold bstep
              rw [← HR.out, HPA.out, if_neg (by rw [HST.out.rows.rct.1]; exact haR)]
            have HBN := Lib.hid hbn
            have hsm1 : SmT (swapAt s.rows r a) := smT_swap (by rw [HST.out.rows.rct.1]; omega) (by rw [HST.out.rows.rct.1]; omega) (smT_of HBS.out.num HBB.out hE)
            have hsm2 : SmT (elim (swapAt s.rows r a) r c s.last) := by
              have h1 := (HBM.out (c + 1)).num
              rw [hbn] at h1
              exact smT_of h1 HBB.out hE
            have hsl : Sm s.last := sm_of (Nat.lt_of_le_of_lt HBS.out.lastN HBB.out) hE
            have hln : s.last ≠ 0 := HBS.out.last
            have HLN := Lib.hid hln
            obtain ⟨T, hT⟩ : ∃ T, T = swapAt s.rows r a := ⟨_, rfl⟩
            obtain ⟨g2, hg2⟩ : ∃ g2, g2 = swapAt gs' r a := ⟨_, rfl⟩
            obtain ⟨EE, hEE⟩ : ∃ EE, EE = elim T r c s.last := ⟨_, rfl⟩
            rw [← hT, ← hg2] at HST7
            rw [← hg2] at HMEM7
            rw [← hT, ← hEE] at HBN
            rw [← hT] at bRect bNe hsm1
            rw [← hT, ← hEE] at hsm2
            have HSM := Lib.hid (And.intro hsm1 (And.intro hsm2 hsl))
            obtain ⟨gq, zq, pq, cq, m1, m2, m3, m4, m5⟩ := HST7.out.rows.get (show r < R by omega)
            obtain ⟨p, hp⟩ : ∃ p, zq[c]? = some p := ⟨_, List.getElem?_eq_getElem (by omega)⟩
            obtain ⟨q1, hq1⟩ : ∃ q, pq[c]? = some q := ⟨_, List.getElem?_eq_getElem (by rw [m4.len]; omega)⟩
            have n1 := m4.ptr c q1 hq1
            have hqp := m4.int c q1 p hq1 hp
            have hpn : tf T r c = p := tf_at m2 hp
            have hzm : zq ∈ T := List.mem_of_getElem? m2
            have hsp : Sm p := hsm1 zq hzm p (List.mem_of_getElem? hp)
            have HSP := Lib.hid hsp
            have HPN := Lib.hid hpn
            have HBE := Lib.hid bNe
            have HBR := Lib.hid bRect
            have HEE := Lib.hid hEE
            have HM := Lib.hid (And.intro m1 (And.intro m2 (And.intro m3 hp)))
            obtain ⟨wA7, hwA7⟩ : ∃ wA, wA = w7.alloc (.cells #[.bool false, .slice none 0 0] 80) := ⟨_, rfl⟩
            have hb7 : Below w7.heap.size w7 wA7 := by rw [hwA7]; exact below1 ..
            have a0 := bat hb7 HST7.out.c0
            have a1 := bat hb7 m5
            have a2 := bat hb7 n1
            have hni : IntAt wA7 w7.heap.size 0 0 := by rw [hwA7]; exact new_intAt w7
            have HNI := Lib.hid hni
            have HQP := Lib.hid (hqp.below hb7)
            have HB7 := Lib.hid hb7
            rw [hwA7] at a0 a1 a2
            have HWA7 := Lib.hid hwA7
            clear hst7 hu7 hmem7 hru hbn hsm1 hsm2 hsl hln hT hg2 hEE m1 m2 m3 m4 n1 hqp hpn hzm hsp bNe bRect bR hp hq1 hb7 hni hwA7 hw7 m5 y0 y1 y2 s0 s1 s2 s3 c0 h5 h6 k5
            go_wp2_with fail
            rw [← HWA7.out]
            refine (set_int w7.heap.size 0 q1 0 0 p wA7 HNI.out HQP.out HSP.out.ten).mono ?_
            rintro e w8 ⟨rfl, hi8, hu8⟩
            rw [HWA7.out] at hu8
            have hb8 : Below w7.heap.size w7 w8 := (below1 w7 _).trans (hu8.toB.below (Nat.le_refl _) (by simp))
            obtain ⟨gp, hgp⟩ : ∃ gp, gp = w7.heap.size := ⟨_, rfl⟩
            rw [← hgp] at hi8 ⊢
            have hst8 := HST7.out.below hb8
            have HI8 := Lib.hid hi8
            have HST8 := Lib.hid hst8
            have HU8 := Lib.hid (HU7.out.thenB (hb8.mono HU7.out.size))
            have b0 := hst8.c0
            clear hi8 hu8 hb8 hgp a0 a1 a2 hst8
            go_wp2_with fail
            go_loopw [97] (fun iv wx => ∃ i : Nat, i ≤ R ∧ iv = .int .i64 i ∧ RSt wx gt G R C cR w.heap.size g2 (.slice A s.piv.length cV) gl' (wayT T EE i) s.piv s.last ∧ IntAt wx gp 0 p ∧ UpS w8 wx (fun b => b ∈ g2)) (fun iv _ => R - (intOf iv).toNat)
            case atStart => exact ⟨0, Nat.zero_le _, rfl, by simpa [wayT] using HST8.out, HI8.out, UpS.refl _ _⟩
            case round =>
              obtain ⟨i, hiR, rfl, hsti, hpi, hui⟩ := hrel
              have hlE : EE.length = T.length := by rw [HEE.out, elim_len]
              have hlT : T.length = R := HST7.out.rows.rct.1
              have HLE := Lib.hid (And.intro hlE hlT)
              have HSTI := Lib.hid hsti
              have HPI := Lib.hid hpi
              have HUI := Lib.hid hui
              have d0 := hsti.c0
              by_cases hil : i < R
              · have hili : (i : Int) < (R : Int) := by omega
                obtain ⟨gi, zi, pi, ci, u1, u2, u3, u4, u5⟩ := hsti.rows.get hil
                have fG := hsti.rows.fz i
                have HUU := Lib.hid (And.intro u1 (And.intro u2 (And.intro u3 u4)))
                have U5 := Lib.hid u5
                clear hsti hpi hui hlE hlT u1 u2 u3 u4 fG
                by_cases hir : i = r
                · subst hir
                  go_wp2_with fail
                  refine ⟨⟨i + 1, by omega, by go_num, ?_, HPI.out, HUI.out⟩, by simp [intOf]; omega⟩
                  rw [← wayT_same (e := zq) HLE.out.1 (by rw [HEE.out]; exact elim_same HM.out.2.1) HM.out.2.1]
                  exact HSTI.out
                · have hiri : (i : Int) ≠ (r : Int) := by omega
                  go_wp2_with fail
                  obtain ⟨gk, zk, pk, ck, v1, v2, v3, v4, v5⟩ := HSTI.out.rows.get (show r < R by omega)
                  have ezk : zk = zq := by
                    rw [wayT_get HLE.out.1] at v2
                    split at v2
                    · rw [HEE.out, elim_same HM.out.2.1] at v2
                      injection v2 with v2
                      exact v2.symm
                    · rw [HM.out.2.1] at v2
                      injection v2 with v2
                      exact v2.symm
                  rw [ezk] at v4
                  obtain ⟨f, hf⟩ : ∃ z, zi[c]? = some z := ⟨_, List.getElem?_eq_getElem (by have := HUU.out.2.2.1; omega)⟩
                  obtain ⟨qf, hqf⟩ : ∃ q, pi[c]? = some q := ⟨_, List.getElem?_eq_getElem (by rw [HUU.out.2.2.2.len]; have := HUU.out.2.2.1; omega)⟩
                  have x1 := HUU.out.2.2.2.ptr c qf hqf
                  have hfi := HUU.out.2.2.2.int c qf f hqf hf
                  obtain ⟨we, hwe⟩ : ∃ we, we = wr.drew := ⟨_, rfl⟩
                  have hbe : Below wr.heap.size wr we := by rw [hwe]; exact (Below.refl _ _).drew
                  have y0 := bat hbe d0
                  have y1 := bat hbe v5
                  have y2 := bat hbe x1
                  have HSE := Lib.hid (HSTI.out.below hbe)
                  have HBE2 := Lib.hid hbe
                  have HFI := Lib.hid (hfi.below hbe)
                  have HVV := Lib.hid (And.intro v1 (And.intro v4 (And.intro hf hqf)))
                  have HEZ := Lib.hid (And.intro ezk v3)
                  have Y0 := Lib.hid y0
                  have Y1 := Lib.hid y1
                  have Y2 := Lib.hid y2
                  rw [hwe] at y0 y1 y2
                  have HWE := Lib.hid hwe
                  clear v1 v2 v3 v4 hf hqf hfi hbe hwe v5 x1 ezk d0 u5
                  have hcC : c < C := by omega
                  have hcC2 : (c : Int) < (C : Int) := by omega
                  refine wp_region_G (S := (fun w' => w'.cell? ⟨gt, 0, none⟩ = some (.slice (some ⟨G, 0, none⟩) R cR) ∧ w'.cell? ⟨G, r, none⟩ = some (.slice (some ⟨gk, 0, none⟩) C ck) ∧ w'.cell? ⟨gi, c, none⟩ = some (PtrV qf))) 16 (by kernel_rfl) ?_ (fun hHeld => ?_)
                  · first | exact True.intro | ((try dsimp only); go_keep)
                  refine tkG (i := 0) (v := ?_) rfl (by kernel_rfl) (Or.inl ⟨by kernel_rfl, ?_⟩) (by assumption) ?_
                  rotate_left 1
                  · (intro w hSw; (try dsimp only at hSw); go_simp; try with_reducible rfl)
                  try simp only [lyA, lyB, lyC, Act.put, lyD, lyE, lyF]
                  refine tkG (i := 1) (v := ?_) rfl (by kernel_rfl) (Or.inl ⟨by kernel_rfl, ?_⟩) (by assumption) ?_
                  rotate_left 1
                  · (intro w hSw; (try dsimp only at hSw); go_simp; try with_reducible rfl)
                  try simp only [lyA, lyB, lyC, Act.put, lyD, lyE, lyF]
                  refine tkG (i := 2) (v := ?_) rfl (by kernel_rfl) (Or.inl ⟨by kernel_rfl, ?_⟩) (by assumption) ?_
                  rotate_left 1
                  · (intro w hSw; (try dsimp only at hSw); go_simp; try with_reducible rfl)
                  try simp only [lyA, lyB, lyC, Act.put, lyD, lyE, lyF]
                  refine tkG (i := 3) (v := ?_) rfl (by kernel_rfl) (Or.inl ⟨by kernel_rfl, ?_⟩) (by assumption) ?_
                  rotate_left 1
                  · (intro w hSw; (try dsimp only at hSw); go_simp; try with_reducible rfl)
                  try simp only [lyA, lyB, lyC, Act.put, lyD, lyE, lyF]
                  refine tkG (i := 4) (v := ?_) rfl (by kernel_rfl) (Or.inl ⟨by kernel_rfl, ?_⟩) (by assumption) ?_
                  rotate_left 1
                  · (intro w hSw; (try dsimp only at hSw); go_simp; try with_reducible rfl)
                  try simp only [lyA, lyB, lyC, Act.put, lyD, lyE, lyF]
                  refine tkG (i := 5) (v := ?_) rfl (by kernel_rfl) (Or.inl ⟨by kernel_rfl, ?_⟩) (by assumption) ?_
                  rotate_left 1
                  · (intro w hSw; (try dsimp only at hSw); go_simp; try with_reducible rfl)
                  try simp only [lyA, lyB, lyC, Act.put, lyD, lyE, lyF]
                  refine tkG (i := 6) (v := ?_) rfl (by kernel_rfl) (Or.inl ⟨by kernel_rfl, ?_⟩) (by assumption) ?_
                  rotate_left 1
                  · (intro w hSw; (try dsimp only at hSw); go_simp; try with_reducible rfl)
                  try simp only [lyA, lyB, lyC, Act.put, lyD, lyE, lyF]
                  refine tkG (i := 7) (v := ?_) rfl (by kernel_rfl) (Or.inl ⟨by kernel_rfl, ?_⟩) (by assumption) ?_
                  rotate_left 1
                  · (intro w hSw; (try dsimp only at hSw); go_simp; try with_reducible rfl)
                  try simp only [lyA, lyB, lyC, Act.put, lyD, lyE, lyF]
                  refine tkG (i := 8) (v := ?_) rfl (by kernel_rfl) (Or.inl ⟨by kernel_rfl, ?_⟩) (by assumption) ?_
                  rotate_left 1
                  · (intro w hSw; (try dsimp only at hSw); go_simp; try with_reducible rfl)
                  try simp only [lyA, lyB, lyC, Act.put, lyD, lyE, lyF]
                  refine tkG (i := 9) (v := ?_) rfl (by kernel_rfl) (Or.inl ⟨by kernel_rfl, ?_⟩) (by assumption) ?_
                  rotate_left 1
                  · (intro w hSw; (try dsimp only at hSw); go_simp; try with_reducible rfl)
                  try simp only [lyA, lyB, lyC, Act.put, lyD, lyE, lyF]
                  refine tkG (i := 11) (v := ?_) rfl (by kernel_rfl) (Or.inl ⟨by kernel_rfl, ?_⟩) (by assumption) ?_
                  rotate_left 1
                  · (intro w hSw; (try dsimp only at hSw); go_simp; try with_reducible rfl)
                  try simp only [lyA, lyB, lyC, Act.put, lyD, lyE, lyF]
                  refine tkG (i := 12) (v := ?_) rfl (by kernel_rfl) (Or.inl ⟨by kernel_rfl, ?_⟩) (by assumption) ?_
                  rotate_left 1
                  · (intro w hSw; (try dsimp only at hSw); go_simp; try with_reducible rfl)
                  try simp only [lyA, lyB, lyC, Act.put, lyD, lyE, lyF]
                  refine tkG (i := 13) (v := ?_) rfl (by kernel_rfl) (Or.inl ⟨by kernel_rfl, ?_⟩) (by assumption) ?_
                  rotate_left 1
                  · (intro w hSw; (try dsimp only at hSw); go_simp; try with_reducible rfl)
                  try simp only [lyA, lyB, lyC, Act.put, lyD, lyE, lyF]
                  refine tkG (i := 14) (v := ?_) rfl (by kernel_rfl) (Or.inl ⟨by kernel_rfl, ?_⟩) (by assumption) ?_
                  rotate_left 1
                  · (intro w hSw; (try dsimp only at hSw); go_simp; try with_reducible rfl)
                  try simp only [lyA, lyB, lyC, Act.put, lyD, lyE, lyF]
                  rw [← HWE.out]
                  clear y0 y1 y2
                  have y0 := Y0.out
                  have y1 := Y1.out
                  have y2 := Y2.out
                  obtain ⟨weA, hweA⟩ : ∃ wA, wA = we.alloc (.cells #[.bool false, .slice none 0 0] 80) := ⟨_, rfl⟩
                  have hbA : Below we.heap.size we weA := by rw [hweA]; exact below1 ..
                  have hnA : IntAt weA we.heap.size 0 0 := by rw [hweA]; exact new_intAt we
                  have HWEA := Lib.hid hweA
                  have HBA := Lib.hid hbA
                  have HNA := Lib.hid hnA
                  have z0 := bat hbA y0
                  have z1 := bat hbA y1
                  have z2 := bat hbA y2
                  rw [hweA] at z0 z1 z2
                  clear hweA hbA hnA
                  refine wpAnyG_one (i := 10) (by kernel_rfl) rfl (fun K hK => ?_)
                  go_simp
                  refine (fun hHeld => hK.out _ _ (.inl hHeld) (fun _ => ?_)) ?_
                  rotate_left 1
                  · first | exact True.intro | ((try dsimp only); go_keep)
                  clear hK K
                  try simp only [lyA, lyB, lyC, Act.put, lyD, lyE, lyF]
                  rw [← HWEA.out]
                  clear z0 z1 z2
                  have hzim : zi ∈ wayT T EE i := List.mem_of_getElem? HUU.out.2.1
                  have hsmzi : ∀ z ∈ zi, Sm z := smT_way HSM.out.1 HSM.out.2.1 i zi hzim
                  have hsmzq : ∀ z ∈ zq, Sm z := HSM.out.1 zq (List.mem_of_getElem? HM.out.2.1)
                  have HZZ := Lib.hid (And.intro hsmzi hsmzq)
                  clear hzim hsmzi hsmzq
                  refine wpAnyG_one (i := 15) (by kernel_rfl) rfl (fun K hK => ?_)
                  go_simp
                  (refine (set_int we.heap.size 0 qf 0 0 f weA HNA.out (HFI.out.below HBA.out) (HZZ.out.1 f (List.mem_of_getElem? HVV.out.2.2.1)).ten).mono ?_; rintro e wS ⟨rfl, hiS, huS⟩; have HIS := Lib.hid hiS; have HBS2 : Hid (Below wr.heap.size wr wS) := Lib.hid (HBE2.out.trans ((HBA.out.trans (huS.below (Nat.le_refl _) HBA.out.size)).mono HBE2.out.size)); have HSS := Lib.hid (HSTI.out.below HBS2.out); have t0 := HSS.out.c0; have t1 := bat (HBA.out.trans (huS.below (Nat.le_refl _) HBA.out.size)) Y1.out; have t2 := bat (HBA.out.trans (huS.below (Nat.le_refl _) HBA.out.size)) Y2.out; clear hiS huS)
                  try go_wp2_with fail
                  refine (fun hHeld => hK.out _ _ (.inl hHeld) (fun _ => ?_)) ?_
                  rotate_left 1
                  · first | exact True.intro | ((try dsimp only); go_keep)
                  clear hK K
                  try simp only [lyA, lyB, lyC, Act.put, lyD, lyE, lyF]
                  clear t0 t1 t2 y0 y1 y2
                  have hgk : gk = gq := by
                    have h1 := HVV.out.1
                    rw [HM.out.1] at h1
                    injection h1 with h1
                    exact h1.symm
                  have hgne : gk ≠ gi := fun e => by
                    have h1 := HVV.out.1
                    rw [e] at h1
                    exact hir (HSS.out.rows.nd i r gi HUU.out.1 h1)
                  have hgne2 : gt ≠ gi := fun e => HSS.out.nm (e ▸ List.mem_of_getElem? HUU.out.1)
                  have HNE := Lib.hid (And.intro hgne hgne2)
                  clear hgk hgne hgne2
                  refine wpAnyG_one (i := 16) (by kernel_rfl) rfl (fun K hK => ?_)
                  go_simp
                  (refine (off_tab gt gi gk gp we.heap.size gl' C ci ck pi pk zi zq p f s.last wS (HUU.out.2.2.2.below HBS2.out) (HVV.out.2.1.below HBS2.out) HUU.out.2.2.1 HM.out.2.2.1 (by omega) hC1 (HPI.out.below HBS2.out) HIS.out HSS.out.last HSS.out.c2 HLN.out HZZ.out.1 HZZ.out.2 HSP.out (HZZ.out.1 f (List.mem_of_getElem? HVV.out.2.2.1)) HSM.out.2.2 HNE.out.1 HNE.out.2).mono ?_; rintro e w9 ⟨rfl, ⟨qs, hqs, hnq⟩, hu9⟩; have HQS := Lib.hid hqs; have HU9 := Lib.hid hu9; clear hqs hnq hu9)
                  try go_wp2_with fail
                  refine hK.out _ _ ?_ (fun hHeld => ?_)
                  · exact .inr (by kernel_rfl)
                  clear hK K
                  try simp only [lyA, lyB, lyC, Act.put, lyD, lyE, lyF]
                  refine wpAnyG_done (by kernel_rfl) ?_ _
                  clear hHeld
                  have hn1 : EE[i]? = some (offRow zi zq p f s.last) := by
                    have h1 := HUU.out.2.1
                    rw [wayT_get HLE.out.1, if_neg (Nat.lt_irrefl _)] at h1
                    rw [HEE.out]
                    exact elim_get HM.out.2.1 h1 hir HM.out.2.2.2 HVV.out.2.2.1
                  have hst9 := HSS.out.setRow HUU.out.1 HU9.out HQS.out (by unfold offRow; rw [List.length_zipWith, HUU.out.2.2.1, HM.out.2.2.1, Nat.min_self])
                  rw [wayT_set HLE.out.1 hn1] at hst9
                  have HST9 := Lib.hid hst9
                  have HPI9 : Hid (IntAt w9 gp 0 p) := Lib.hid ((HPI.out.below HBS2.out).ups HU9.out (fun e => (HSTI.out.noInt HPI.out).2.2 (e ▸ List.mem_of_getElem? HUU.out.1)))
                  have HUI9 : Hid (UpS w8 w9 (fun b => b ∈ g2)) := Lib.hid ((HUI.out.trans (UpS.of_below (fun b => b ∈ g2) HBS2.out) (fun b _ h => h)).trans HU9.out (fun b _ h => by rw [h]; exact List.mem_of_getElem? HUU.out.1))
                  clear hn1 hst9
                  go_wp2_with fail
                  refine ⟨⟨i + 1, by omega, by go_num, HST9.out, HPI9.out, HUI9.out⟩, by simp [intOf]; omega⟩
              · obtain rfl : i = R := by omega
                have hnl : ¬ ((i : Int) < (i : Int)) := by omega
                have hall : wayT T EE i = EE := by rw [← hlT]; exact wayT_all hlE
                rw [hall] at hsti
                obtain ⟨wl, hwl⟩ : ∃ wl, wl = wr.setCell ⟨gt, 2, none⟩ (PtrV gp) := ⟨_, rfl⟩
                obtain ⟨hstl, hul⟩ := hsti.setLast hpi hwl
                have e2 := hsti.c2
                have e2f := hsti.fz 2
                have e1 := hstl.c1
                have e1f := hstl.fz 1
                have HSTL := Lib.hid hstl
                have HUL := Lib.hid hul
                have HWL := Lib.hid hwl
                rw [← HR.out] at e1
                have HUIL := Lib.hid hui
                have hgtl := World.block_lt_of_cell? wl ⟨gt, 1, none⟩ e1
                have HGTL := Lib.hid hgtl
                have E1 := Lib.hid e1
                have E1F := Lib.hid e1f
                clear hsti hpi hui hlE hlT hall hstl hul hwl e1 e1f hgtl
                go_upto_region 18 with fail
                rw [← HWL.out]
                clear e2 e2f
                obtain ⟨wb, hwb⟩ : ∃ wb, wb = wl.alloc (.cells #[.int .i64 (c : Int)] 3) := ⟨_, rfl⟩
                have hbb : Below wl.heap.size wl wb := by rw [hwb]; exact below1 ..
                have e1 := E1.out
                have e1b := bat hbb e1
                have e1f := bfz hbb HGTL.out E1F.out
                have hstb := HSTL.out.below hbb
                have hob := hstb.piv
                rw [← HR.out] at hob
                have HOB := Lib.hid hob
                have HSTB := Lib.hid hstb
                have HBB2 := Lib.hid hbb
                have hbase := hstb.sz
                have HWBE := Lib.hid hwb
                have hne : Rd wb (fun _ => True) 1 (some ⟨wl.heap.size, 0, none⟩) 1 [.int .i64 (c : Int)] := by rw [hwb]; exact rd_blk (blk_new ..) rfl trivial
                rw [hwb] at hob hne hbase
                have HRD := Lib.hid hne
                have HOB2 := Lib.hid hob
                have HBASE := Lib.hid hbase
                clear hwb hbb hstb hob hbase hne
                go_wp2_with (at_builtin; go_must (refine wpList_append_K rfl _ _ _ rfl w.heap.size 3 i0 _ 1 8 Try.underlying27 hi0 hzz0 hzz1 hzz2 rfl (by omega) Ik (by intro u hu; simp [Value.cells] at hu; exact ⟨_, hu⟩) (.slice A r cV) r (s.piv.flatMap Ic) rfl HOB2.out (fun _ => True) (some ⟨wl.heap.size, 0, none⟩) 1 1 [.int .i64 (c : Int)] rfl HRD.out (by simp [Value.oneCell']) (by intro u hu; simp at hu; exact ⟨_, hu⟩) (by simp only [maxLen]; omega) (by omega) HBASE.out ?_); intro v2 w2 hown2 hg2; go_must (obtain ⟨A2, d2, rfl, _, _⟩ := own_slice hown2.own); go_must (rw [← HWBE.out] at hg2); go_must (have k1 : w2.cell? ⟨gt, 1, none⟩ = some (.slice A r cV) := by (rw [(hg2.cellOf HSTB.out.c0 (ik_slice _ _ _)).2, HSTB.out.c1, ← HR.out])); go_must (have k1f : w2.frozen? ⟨gt, 1, none⟩ = false := by (rw [hg2.frozenOf HSTB.out.c0 (ik_slice _ _ _)]; exact HSTB.out.fz 1)))
                have hres := HSTB.out.addPiv (c := c) (by rw [← HR.out]; exact hown2) (by rw [← HR.out]; exact hg2) rfl
                refine ⟨⟨c + 1, g2, .slice A2 (r + 1) d2, gp, by omega, by go_num, ?_, HMEM7.out, ?_⟩, by simp [intOf]; omega⟩
                · rw [HBN.out]
                  simp only
                  rw [HPN.out]
                  exact hres.1
                · have u1 := HU8.out.trans HUIL.out (fun b _ h => .inr (.inr ((HMEM7.out b).1 h)))
                  have u2 := u1.trans HUL.out (fun b _ h => .inl h)
                  have u3 := u2.thenB (HBB2.out.mono u2.size)
                  have u4 := u3.thenB hres.2.1
                  exact u4.trans hres.2.2 (fun b _ h => .inl h)
    · obtain rfl : c = cols := by omega
      have hnl : ¬ ((c : Int) < (c : Int)) := by omega
      rw [HS.out] at HST
      go_wp2_with fail
      refine bodyPost_end (results_none rfl _ _ _) rfl ⟨rfl, gs', ⟨_, gl', HST.out⟩, HMEM.out, HU.out⟩

end Go.Proofs.Ytfepmbpcdfdlhaa

/- tables being made: rows of pointers, the row of rows (plain) -/
namespace Go.Proofs.Ytfepmbpcdfdlhaa
open Go.RowKit Go.Sort

def Pk (v : Value) : Prop := ∃ A, v = .pointer A
def Sk (v : Value) : Prop := ∃ A n c, v = .slice A n c
theorem pk_bool (s : Bool) : ¬ Pk (.bool s) := fun ⟨x, h⟩ => by cases h
theorem pk_u32 (x : Int) : ¬ Pk (.int .u32 x) := fun ⟨y, h⟩ => by cases h
theorem sk_bool (s : Bool) : ¬ Sk (.bool s) := fun ⟨_, _, _, h⟩ => by cases h
theorem sk_u32 (x : Int) : ¬ Sk (.int .u32 x) := fun ⟨_, _, _, h⟩ => by cases h
theorem sk_ptr (p : Option Addr) : ¬ Sk (.pointer p) := fun ⟨_, _, _, h⟩ => by cases h
def Pc (p : Nat) : List Value := [PtrV p]
theorem Pc.clen (p : Nat) : (Pc p).length = 1 := rfl

/-- a row of pointers in the making -/
structure BRow (w : World) (base : Nat) (V : Value) (ps : List Nat) (zs : List Int) : Prop where
  len : ps.length = zs.length
  own : OwnR w base 72 1 Pk V ps.length (ps.flatMap Pc)
  int : ∀ (k p : Nat) (z : Int), ps[k]? = some p → zs[k]? = some z → IntAt w p 0 z
theorem BRow.nil (w : World) (base : Nat) : BRow w base (.slice none 0 0) [] [] := ⟨rfl, OwnR.nil .., fun k p z h => by simp at h⟩
theorem BRow.below {w w' : World} {base : Nat} {V : Value} {ps : List Nat} {zs : List Int} (h : BRow w base V ps zs) (hb : Below w.heap.size w w') : BRow w' base V ps zs :=
  ⟨h.len, h.own.below hb, fun k p z h1 h2 => (h.int k p z h1 h2).below hb⟩
theorem BRow.app {w w' : World} {base : Nat} {V V' : Value} {ps : List Nat} {zs : List Int} {q : Nat} {z : Int} (h : BRow w base V ps zs) (hg : GrowK w w' V.ownBlock Pk)
    (ho : OwnR w' base 72 1 Pk V' (ps.length + 1) (ps.flatMap Pc ++ [PtrV q])) (hq : IntAt w q 0 z) : BRow w' base V' (ps ++ [q]) (zs ++ [z]) := by
  refine ⟨by simp [h.len], by simpa [List.flatMap_append, Pc] using ho, fun k p y h1 h2 => ?_⟩
  rw [List.getElem?_append] at h1 h2
  rw [← h.len] at h2
  by_cases hk : k < ps.length
  · rw [if_pos hk] at h1 h2
    exact (h.int k p y h1 h2).growK hg pk_bool pk_u32
  · rw [if_neg hk] at h1 h2
    obtain ⟨e0, e1⟩ : k - ps.length = 0 ∧ q = p := by
      cases e : k - ps.length with
      | zero => rw [e] at h1; exact ⟨rfl, by simpa using h1⟩
      | succ j => rw [e] at h1; simp at h1
    rw [e0] at h2
    obtain rfl : z = y := by simpa using h2
    subst e1
    exact hq.growK hg pk_bool pk_u32
theorem BRow.done {w : World} {base : Nat} {V : Value} {ps : List Nat} {zs : List Int} (h : BRow w base V ps zs) (h0 : 0 < ps.length) :
    ∃ g c, V = .slice (some ⟨g, 0, none⟩) ps.length c ∧ base ≤ g ∧ PRow w g ps zs := by
  obtain ⟨A, c, rfl, hc, hA⟩ := own_slice h.own.own
  cases A with
  | none =>
    rcases h.own.own.2 with ⟨e, _⟩ | ⟨g, cap, cur, e, _⟩
    · injection e with _ e1 _; omega
    · simp at e
  | some ad =>
    obtain ⟨g, rfl, hb⟩ := hA ad rfl
    refine ⟨g, c, rfl, hb, h.len, (h.own.own.lt g rfl).2, fun k p hk => ?_, fun k => h.own.own.frozenAt k, h.int, fun p hp e => ?_⟩
    · have h1 := own_elem Pc.clen h.own.own hk 0 (PtrV p) rfl
      rwa [Nat.mul_one, Nat.add_zero] at h1
    · subst e
      obtain ⟨k, hk⟩ := List.getElem?_of_mem hp
      obtain ⟨z, hz⟩ : ∃ z, zs[k]? = some z := ⟨_, List.getElem?_eq_getElem (by rw [← h.len]; exact (List.getElem?_eq_some_iff.1 hk).1)⟩
      exact pk_bool _ (h.own.k p 0 _ rfl (h.int k p z hk hz).neg)

/-- a table in the making -/
structure BTab (w : World) (base C : Nat) (V : Value) (vs : List Value) (gs : List Nat) (T : List (List Int)) : Prop where
  own : OwnR w base 82 1 Sk V vs.length vs
  lT : T.length = vs.length
  rct : ∀ zs ∈ T, zs.length = C
  lg : 0 < C → gs.length = vs.length
  cell : 0 < C → ∀ (i g : Nat), gs[i]? = some g → ∃ c, vs[i]? = some (.slice (some ⟨g, 0, none⟩) C c)
  row : 0 < C → ∀ (i g : Nat) (zs : List Int), gs[i]? = some g → T[i]? = some zs → ∃ ps, PRow w g ps zs
  nd : 0 < C → ∀ (i j g : Nat), gs[i]? = some g → gs[j]? = some g → i = j
  lt : 0 < C → ∀ g ∈ gs, g < w.heap.size
  ge : 0 < C → ∀ g ∈ gs, base ≤ g
theorem BTab.nil (w : World) (base C : Nat) : BTab w base C (.slice none 0 0) [] [] [] :=
  ⟨OwnR.nil .., rfl, fun _ h => by simp at h, fun _ => rfl, fun _ _ _ h => by simp at h, fun _ _ _ _ h => by simp at h, fun _ _ _ _ h => by simp at h, fun _ _ h => by simp at h, fun _ _ h => by simp at h⟩
theorem BTab.below {w w' : World} {base C : Nat} {V : Value} {vs : List Value} {gs : List Nat} {T : List (List Int)} (h : BTab w base C V vs gs T) (hb : Below w.heap.size w w') : BTab w' base C V vs gs T :=
  ⟨h.own.below hb, h.lT, h.rct, h.lg, h.cell, fun hC i g zs h1 h2 => (h.row hC i g zs h1 h2).imp fun _ hp => hp.below hb, h.nd, fun hC g hg => Nat.lt_of_lt_of_le (h.lt hC g hg) hb.size, h.ge⟩
/-- a row is laid to the table -/
theorem BTab.app {w w1 w' : World} {base base2 C : Nat} {V V' U : Value} {vs : List Value} {gs : List Nat} {T : List (List Int)} {ps : List Nat} {zs : List Int} (h : BTab w base C V vs gs T)
    (hb : Below w.heap.size w w1) (hr : BRow w1 base2 U ps zs) (hl : zs.length = C) (hb2 : w.heap.size ≤ base2) (hb3 : base ≤ w.heap.size) (hg : GrowK w1 w' V.ownBlock Sk)
    (ho : OwnR w' base 82 1 Sk V' (vs.length + 1) (vs ++ [U])) : ∃ gs', BTab w' base C V' (vs ++ [U]) gs' (T ++ [zs]) := by
  have h1 := h.below hb
  have hlT := h.lT
  have hrct : ∀ ys ∈ T ++ [zs], ys.length = C := fun ys hy => by
    rcases List.mem_append.1 hy with hy | hy
    · exact h.rct ys hy
    · simp at hy; rw [hy]; exact hl
  have hlen : (T ++ [zs]).length = (vs ++ [U]).length := by simp [h.lT]
  by_cases hC : 0 < C
  · obtain ⟨g, c, rfl, hbg, hp⟩ := hr.done (by rw [hr.len, hl]; exact hC)
    have hpl : ps.length = C := by rw [hr.len, hl]
    have hgl := h.lg hC
    refine ⟨gs ++ [g], by simpa using ho, hlen, hrct, fun _ => by simp [hgl], fun _ i g' hi => ?_, fun _ i g' ys hi hy => ?_, fun _ i j g' hi hj => ?_, fun _ g' hg' => ?_, fun _ g' hg' => ?_⟩
    · rw [List.getElem?_append] at hi ⊢
      rw [hgl] at hi
      by_cases hk : i < vs.length
      · rw [if_pos hk] at hi ⊢; exact h.cell hC i g' hi
      · rw [if_neg hk] at hi ⊢
        cases e : i - vs.length with
        | zero => rw [e] at hi; obtain rfl : g = g' := by simpa using hi
                  exact ⟨c, by rw [hpl]; rfl⟩
        | succ j => rw [e] at hi; simp at hi
    · rw [List.getElem?_append] at hi hy
      rw [hgl] at hi
      rw [hlT] at hy
      by_cases hk : i < vs.length
      · rw [if_pos hk] at hi hy
        obtain ⟨qs, hq⟩ := h1.row hC i g' ys hi hy
        exact ⟨qs, hq.growK (by rw [hq.len, h.rct ys (List.mem_of_getElem? hy)]; exact hC) hg sk_bool sk_u32 (fun p => sk_ptr _)⟩
      · rw [if_neg hk] at hi hy
        cases e : i - vs.length with
        | zero =>
          rw [e] at hi hy
          obtain rfl : g = g' := by simpa using hi
          obtain rfl : zs = ys := by simpa using hy
          exact ⟨ps, hp.growK (by rw [hpl]; exact hC) hg sk_bool sk_u32 (fun p => sk_ptr _)⟩
        | succ j => rw [e] at hi; simp at hi
    · have hlow : ∀ k g', gs[k]? = some g' → g' < w.heap.size := fun k g' hk => h.lt hC g' (List.mem_of_getElem? hk)
      rw [List.getElem?_append] at hi hj
      by_cases hki : i < gs.length <;> by_cases hkj : j < gs.length
      · rw [if_pos hki] at hi; rw [if_pos hkj] at hj; exact h.nd hC i j g' hi hj
      · rw [if_pos hki] at hi; rw [if_neg hkj] at hj
        have := hlow i g' hi
        have e : g = g' := by
          cases e : j - gs.length with
          | zero => rw [e] at hj; simpa using hj
          | succ j => rw [e] at hj; simp at hj
        omega
      · rw [if_neg hki] at hi; rw [if_pos hkj] at hj
        have := hlow j g' hj
        have e : g = g' := by
          cases e : i - gs.length with
          | zero => rw [e] at hi; simpa using hi
          | succ j => rw [e] at hi; simp at hi
        omega
      · rw [if_neg hki] at hi; rw [if_neg hkj] at hj
        have a1 := (List.getElem?_eq_some_iff.1 hi).1
        have a2 := (List.getElem?_eq_some_iff.1 hj).1
        simp at a1 a2
        omega
    · rcases List.mem_append.1 hg' with hg' | hg'
      · exact Nat.lt_of_lt_of_le (Nat.lt_of_lt_of_le (h.lt hC g' hg') hb.size) hg.g.size
      · simp at hg'
        rw [hg']
        exact Nat.lt_of_lt_of_le hp.lt hg.g.size
    · rcases List.mem_append.1 hg' with hg' | hg'
      · exact h.ge hC g' hg'
      · simp at hg'
        omega
  · exact ⟨[], by simpa using ho, hlen, hrct, fun h => absurd h hC, fun h => absurd h hC, fun h => absurd h hC, fun h => absurd h hC, fun h => absurd h hC, fun h => absurd h hC⟩
theorem BTab.done {w : World} {base C : Nat} {V : Value} {vs : List Value} {gs : List Nat} {T : List (List Int)} (h : BTab w base C V vs gs T) (hC : 0 < C) (h0 : 0 < vs.length) :
    ∃ G c, V = .slice (some ⟨G, 0, none⟩) vs.length c ∧ base ≤ G ∧ TRows w G vs.length C gs T := by
  obtain ⟨A, c, rfl, hc, hA⟩ := own_slice h.own.own
  cases A with
  | none =>
    rcases h.own.own.2 with ⟨e, _⟩ | ⟨g, cap, cur, e, _⟩
    · injection e with _ e1 _; omega
    · simp at e
  | some ad =>
    obtain ⟨g, rfl, hb⟩ := hA ad rfl
    refine ⟨g, c, rfl, hb, h.lg hC, ⟨h.lT, h.rct⟩, (h.own.own.lt g rfl).2, fun i b hi => ?_, fun k => h.own.own.frozenAt k, h.row hC, h.nd hC⟩
    obtain ⟨c', hc'⟩ := h.cell hC i b hi
    have hl := (List.getElem?_eq_some_iff.1 hc').1
    exact ⟨c', by rw [h.own.own.cellAt i (by omega), hc']⟩

end Go.Proofs.Ytfepmbpcdfdlhaa
