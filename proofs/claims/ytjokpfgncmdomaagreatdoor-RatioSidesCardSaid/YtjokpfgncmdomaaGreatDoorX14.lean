import Derived.Test.YtjokpfgncmdomaaGreatDoorX13
set_option linter.unusedSimpArgs false
set_option linter.unusedVariables false
/- ratio.Right: the walk -/
namespace Go.Proofs.YtjokpfgncmdomaaGreatDoor
open Go.RowKit Go.Sort

theorem one_blk (w : World) (o : Obj) (v : Value) : ((w.alloc o).alloc (.cells #[v] 58)).heap[w.heap.size + 1]? = some (.cells #[v] 58 (0, 0)) := by
  have h := blk_new (w.alloc o) #[v] 58
  rwa [World.size_alloc] at h
def rightB (r : RV) : Bool := if r.num.length = 0 then !r.neg && decide (r.den = [1]) else topB r.num && topB r.den && decide (Nat.gcd (ln r.num) (ln r.den) = 1)

theorem topB_len {xs : List Nat} {n : Nat} (h : topB xs = true) (e : xs.length = n) : n ≤ 256 := by
  unfold topB at h
  simp at h
  omega
theorem topB_ne {xs : List Nat} (h : topB xs = true) (hl : Lds xs) : ln xs ≠ 0 := by
  unfold topB at h
  simp at h
  obtain ⟨⟨h1, _⟩, h2⟩ := h
  have hne : xs ≠ [] := by intro e; rw [e] at h1; simp at h1
  rw [List.getLast?_eq_getElem?] at h2
  have hk : xs.length - 1 < xs.length := by omega
  exact ln_pos (List.getElem?_eq_getElem hk) (fun e => h2 (by rw [List.getElem?_eq_getElem hk, e]))
theorem RdE.belowL2 {w w' : World} {A : Option Addr} {n : Nat} {xs : List Nat} (h : RdE Lc 1 w (fun b => b < w.heap.size) A n xs) (hb : Below w.heap.size w w') : RdE Lc 1 w' (fun b => b < w'.heap.size) A n xs := h.belowL hb

/-- the memory while Right's divisor is worked out -/
def RgMF (w0 : World) (X Y G : Int) (listed : Array Bool) (p0 g1 g2 : Nat) (w : World) : Prop :=
  Below w0.heap.size w0 w ∧ (lst listed 0 = true → w0.heap.size ≤ p0 ∧ IntAt w p0 0 (if lst listed 7 = true then G else 0)) ∧ (lst listed 3 = true → lst listed 7 = false → IntAt w g1 0 X) ∧ (lst listed 6 = true → lst listed 7 = false → IntAt w g2 0 Y)
theorem RgMF.set {w0 : World} {X Y G : Int} {listed : Array Bool} {p0 g1 g2 : Nat} {w : World} (h : RgMF w0 X Y G listed p0 g1 g2 w) {i : Nat} (h0 : i ≠ 0) (h1 : i ≠ 3) (h7 : i ≠ 6) (h8 : i ≠ 7) : RgMF w0 X Y G (listed.setIfInBounds i true) p0 g1 g2 w := by
  unfold RgMF at h ⊢
  rw [lst_ne h0, lst_ne h1, lst_ne h7, lst_ne h8]
  exact h
def RgJ (s : Bool) (A A' : Option Addr) (n n' c c' : Nat) (b0 : Nat) (w0 : World) (X Y G : Int) (listed : Array Bool) (a : Act) (w : World) : Prop := ∃ p0 g1 g2 : Nat, a = ⟨#[(.agg #[.bool s, .slice A n c, .slice A' n' c']), (.pointer (some ⟨b0, 0, none⟩)), (.bool false), ((iv (lst listed 8) (.pointer (some ⟨p0, 0, none⟩)) (undef))), (.pointer (some ⟨b0, 1, none⟩)), (.slice A n c), (.int .i64 (n : Int)), (.bool false), (undef), (undef), (undef), (undef), (undef), (undef), (undef), (undef), (undef), (.pointer (some ⟨b0, 1, none⟩)), (.slice A n c), (.bool true), (.bool false), (.bool false), (.pointer (some ⟨b0, 2, none⟩)), (.slice A' n' c'), (.bool true), (.bool false), (.bool false), ((iv (lst listed 0) (.pointer (some ⟨p0, 0, none⟩)) (undef))), ((iv (lst listed 1) (.pointer (some ⟨b0, 1, none⟩)) (undef))), ((iv (lst listed 2) (.slice A n c) (undef))), ((iv (lst listed 3) (.pointer (some ⟨g1, 0, none⟩)) (undef))), ((iv (lst listed 4) (.pointer (some ⟨b0, 2, none⟩)) (undef))), ((iv (lst listed 5) (.slice A' n' c') (undef))), ((iv (lst listed 6) (.pointer (some ⟨g2, 0, none⟩)) (undef))), ((iv (lst listed 7) (.pointer (some ⟨p0, 0, none⟩)) (undef))), (undef), (undef), (undef), (undef), (undef), (undef), (undef)], []⟩ ∧ RgMF w0 X Y G listed p0 g1 g2 w

set_option maxRecDepth 100000 in
set_option maxHeartbeats 4000000 in
theorem right_ratio (v : Value) (r : RV) (w : World) (hr : RAt w v r) (hn : r.num.length ≤ 1000000000000000) (hm : r.den.length ≤ 1000000000000000) :
    Calls Tryz.prog 29 #[v] w fun e w' => e = .returned (.bool (rightB r)) ∧ Below w.heap.size w w' := by
  obtain ⟨A, n, c, A', n', c', rfl, h1, h2, h3, h4⟩ := hr
  obtain ⟨s, ns, ds⟩ := r
  have en := h1.num
  have em := h2.num
  simp only at h1 h2 h3 h4 hn hm en em
  have H1 := Lib.hid h1
  have H2 := Lib.hid h2
  have H3 := Lib.hid h3
  have H4 := Lib.hid h4
  have EN := Lib.hid en
  have EM := Lib.hid em
  have hn' : n ≤ 1000000000000000 := by omega
  have hm' : n' ≤ 1000000000000000 := by omega
  clear h1 h2 h3 h4 en em hn hm
  by_cases h0 : n = 0
  · subst h0
    cases s
    · have HR := Lib.hid (show rightB ⟨false, ns, ds⟩ = decide (ds = [1]) by unfold rightB; simp [EN.out])
      go_enter Tryz.func29, Tryz.ntmps29
      go_wp2_with fail
      refine (equal_limbs A' (some ⟨w.heap.size + 1, 0, none⟩) n' 1 c' 1 ds [1] _ (fun _ => True) _ (H2.out.belowL (below2 ..)) (rde_blk (one_blk w _ _) rfl trivial rfl rfl) hm' (by omega)).mono ?_
      rintro e w1 ⟨rfl, hb1⟩
      have HB1 := Lib.hid hb1
      clear hb1
      go_wp2_with fail
      go_ret
      exact ⟨by rw [HR.out]; rfl, (below2 ..).trans (HB1.out.mono (by simp; omega))⟩
    · have HR := Lib.hid (show rightB ⟨true, ns, ds⟩ = false by unfold rightB; simp [EN.out])
      go_enter Tryz.func29, Tryz.ntmps29
      go_wp2_with fail
      go_ret
      exact ⟨by rw [HR.out]; rfl, below1 ..⟩
  · have hz : ((n : Int) == 0) = false := by simp; omega
    have HN := Lib.hid h0
    clear h0
    go_enter Tryz.func29, Tryz.ntmps29
    go_wp2_with fail
    refine (top_ratio A n c ns _ _ (H1.out.belowL (below1 ..)) hn').mono ?_
    rintro e w' ⟨rfl, rfl⟩
    cases ht : topB ns
    · have HR := Lib.hid (show rightB ⟨s, ns, ds⟩ = false by unfold rightB; rw [if_neg (by rw [EN.out]; exact HN.out)]; simp [ht])
      clear ht
      go_wp2_with fail
      go_ret
      exact ⟨by rw [HR.out]; rfl, below1 ..⟩
    · have HT := Lib.hid ht
      clear ht
      go_wp2_with fail
      refine (top_ratio A' n' c' ds _ _ (H2.out.belowL (below1 ..)) hm').mono ?_
      rintro e w' ⟨rfl, rfl⟩
      cases ht : topB ds
      · have HR := Lib.hid (show rightB ⟨s, ns, ds⟩ = false by unfold rightB; rw [if_neg (by rw [EN.out]; exact HN.out)]; simp [ht])
        clear ht
        go_wp2_with fail
        go_ret
        exact ⟨by rw [HR.out]; rfl, below1 ..⟩
      · have HT2 := Lib.hid ht
        have HR := Lib.hid (show rightB ⟨s, ns, ds⟩ = decide (Nat.gcd (ln ns) (ln ds) = 1) by unfold rightB; rw [if_neg (by rw [EN.out]; exact HN.out)]; simp [ht, HT.out])
        clear ht
        go_wp2_with fail
        obtain ⟨w0, hw0⟩ : ∃ w0, w0 = w.alloc (.cells #[.bool s, .slice A n c, .slice A' n' c'] 24) := ⟨_, rfl⟩
        have K1 := Lib.hid (show w0.cell? ⟨w.heap.size, 1, none⟩ = some (.slice A n c) by rw [hw0]; exact new_cell w _ _ 1 _ rfl)
        have K2 := Lib.hid (show w0.cell? ⟨w.heap.size, 2, none⟩ = some (.slice A' n' c') by rw [hw0]; exact new_cell w _ _ 2 _ rfl)
        have HB0 := Lib.hid (show Below w.heap.size w w0 by rw [hw0]; exact below1 ..)
        have H1' := Lib.hid (H1.out.belowL (HB0.out))
        have H2' := Lib.hid (H2.out.belowL (HB0.out))
        have n1 : n ≤ 256 := topB_len HT.out EN.out
        have n2 : n' ≤ 256 := topB_len HT2.out EM.out
        have X0 := Lib.hid (topB_ne HT.out H3.out)
        have Y0 := Lib.hid (topB_ne HT2.out H4.out)
        have XL := Lib.hid (show (dig (ln ns)).length ≤ 1000000 from Nat.le_trans (dig_ln_len H3.out) (by have := EN.out; omega))
        have YL := Lib.hid (show (dig (ln ds)).length ≤ 1000000 from Nat.le_trans (dig_ln_len H4.out) (by have := EM.out; omega))
        rw [← hw0]
        clear hw0
        go_cut [3] (fun sv wx => ∃ p0 : Nat, sv = .pointer (some ⟨p0, 0, none⟩) ∧ IntAt wx p0 0 ((Nat.gcd (ln ns) (ln ds) : Nat) : Int) ∧ Below w.heap.size w wx)
        case first =>
         refine wp_region_inv (RgJ s A A' n n' c c' w.heap.size w0 (ln ns : Int) (ln ds : Int) ((Nat.gcd (ln ns) (ln ds) : Nat) : Int)) (by kernel_rfl) ?_ ?_ ?_
         · refine ⟨0, 0, 0, rfl, (Below.refl _ _).drew, ?_, ?_, ?_⟩
           all_goals (intro h; exact absurd h (by decide))
         · intro listed a w1 hs hcl hJ i hi
           obtain ⟨p0, g1, g2, rfl, hmf⟩ := hJ
           have hlt : i < 9 := by
             obtain ⟨_, o, ho, _⟩ := mem_ready.1 hi
             exact (Array.getElem?_eq_some_iff.1 ho).1
           have HSZ : Hid (listed.size = 9) := Lib.hid hs
           refine inv_deps (J := RgJ s A A' n n' c c' w.heap.size w0 (ln ns : Int) (ln ds : Int) ((Nat.gcd (ln ns) (ln ds) : Nat) : Int)) hi fun hu hdep => ?_
           clear hs hi
           have hm2 := hmf
           unfold RgMF at hm2
           have zw := hm2.1.size
           rcases (show i = 0 ∨ i = 1 ∨ i = 2 ∨ i = 3 ∨ i = 4 ∨ i = 5 ∨ i = 6 ∨ i = 7 ∨ i = 8 by omega) with rfl | rfl | rfl | rfl | rfl | rfl | rfl | rfl | rfl
           · -- operation 0
             have nn7 : lst listed 7 = false := closed_not hcl 8 (by kernel_rfl) hu
             have nn8 : lst listed 8 = false := closed_not hcl 8 (by kernel_rfl) hu
             refine inv_op rfl (fun K hK => ?_)
             go_simp
             refine hK.out _ _ ⟨w1.heap.size, g1, g2, ?_, ?_⟩
             · skip
               try simp only [Act.put, List.setIfInBounds_toArray, List.set_cons_zero, List.set_cons_succ]
               rw [lst_self (show 0 < listed.size by rw [HSZ.out]; decide)]
               simp only [lst_ne (show 0 ≠ 1 by decide), lst_ne (show 0 ≠ 2 by decide), lst_ne (show 0 ≠ 3 by decide), lst_ne (show 0 ≠ 4 by decide), lst_ne (show 0 ≠ 5 by decide), lst_ne (show 0 ≠ 6 by decide), lst_ne (show 0 ≠ 7 by decide), lst_ne (show 0 ≠ 8 by decide), iv_true, nn7, nn8, iv_false]
             · unfold RgMF
               rw [lst_ne (show 0 ≠ 3 by decide), lst_ne (show 0 ≠ 6 by decide), lst_ne (show 0 ≠ 7 by decide)]
               refine ⟨hm2.1.alloc zw _, fun _ => ?_, fun h h' => (hm2.2.2.1 h h').below (below1 w1 _), fun h h' => (hm2.2.2.2 h h').below (below1 w1 _)⟩
               rw [nn7]
               exact ⟨zw, new_intAt w1⟩
           · -- operation 1
             refine inv_op rfl (fun K hK => ?_)
             go_simp
             refine hK.out _ _ ⟨p0, g1, g2, ?_, hmf.set (by decide) (by decide) (by decide) (by decide)⟩
             · skip
               try simp only [Act.put, List.setIfInBounds_toArray, List.set_cons_zero, List.set_cons_succ]
               rw [lst_self (show 1 < listed.size by rw [HSZ.out]; decide)]
               simp only [lst_ne (show 1 ≠ 0 by decide), lst_ne (show 1 ≠ 2 by decide), lst_ne (show 1 ≠ 3 by decide), lst_ne (show 1 ≠ 4 by decide), lst_ne (show 1 ≠ 5 by decide), lst_ne (show 1 ≠ 6 by decide), lst_ne (show 1 ≠ 7 by decide), lst_ne (show 1 ≠ 8 by decide), iv_true]
           · -- operation 2
             have d1 : lst listed 1 = true := hdep 1 (by kernel_rfl)
             have kc := bat hm2.1 K1.out
             refine inv_op rfl (fun K hK => ?_)
             simp only [d1, iv_true]
             go_simp
             refine hK.out _ _ ⟨p0, g1, g2, ?_, hmf.set (by decide) (by decide) (by decide) (by decide)⟩
             · skip
               try simp only [Act.put, List.setIfInBounds_toArray, List.set_cons_zero, List.set_cons_succ]
               rw [lst_self (show 2 < listed.size by rw [HSZ.out]; decide)]
               simp only [lst_ne (show 2 ≠ 0 by decide), lst_ne (show 2 ≠ 1 by decide), lst_ne (show 2 ≠ 3 by decide), lst_ne (show 2 ≠ 4 by decide), lst_ne (show 2 ≠ 5 by decide), lst_ne (show 2 ≠ 6 by decide), lst_ne (show 2 ≠ 7 by decide), lst_ne (show 2 ≠ 8 by decide), iv_true, d1]
           · -- operation 3
             have d2 : lst listed 2 = true := hdep 2 (by kernel_rfl)
             have nn7 : lst listed 7 = false := closed_not hcl 8 (by kernel_rfl) hu
             have nn6 : lst listed 6 = false := closed_not hcl 8 (by kernel_rfl) hu
             refine inv_op rfl (fun K hK => ?_)
             simp only [d2, iv_true]
             go_simp
             refine (whole_ratio A n c ns w1 (H1'.out.belowL2 hm2.1) H3.out (by omega)).mono ?_
             rintro e w2 ⟨gg, rfl, hg, hg', hi2, hb2⟩
             try go_wp2_with fail
             refine hK.out _ _ ⟨p0, gg, g2, ?_, ?_⟩
             · skip
               try simp only [Act.put, List.setIfInBounds_toArray, List.set_cons_zero, List.set_cons_succ]
               rw [lst_self (show 3 < listed.size by rw [HSZ.out]; decide)]
               simp only [lst_ne (show 3 ≠ 0 by decide), lst_ne (show 3 ≠ 1 by decide), lst_ne (show 3 ≠ 2 by decide), lst_ne (show 3 ≠ 4 by decide), lst_ne (show 3 ≠ 5 by decide), lst_ne (show 3 ≠ 6 by decide), lst_ne (show 3 ≠ 7 by decide), lst_ne (show 3 ≠ 8 by decide), iv_true, d2, nn6, nn7, iv_false]
             · unfold RgMF
               rw [lst_ne (show 3 ≠ 0 by decide), lst_ne (show 3 ≠ 7 by decide), lst_ne (show 3 ≠ 6 by decide)]
               refine ⟨hm2.1.trans (hb2.mono zw), fun h => ⟨(hm2.2.1 h).1, (hm2.2.1 h).2.below hb2⟩, ?_, ?_⟩
               · exact fun _ _ => hi2
               · exact fun h h' => (hm2.2.2.2 h h').below hb2
           · -- operation 4
             refine inv_op rfl (fun K hK => ?_)
             go_simp
             refine hK.out _ _ ⟨p0, g1, g2, ?_, hmf.set (by decide) (by decide) (by decide) (by decide)⟩
             · skip
               try simp only [Act.put, List.setIfInBounds_toArray, List.set_cons_zero, List.set_cons_succ]
               rw [lst_self (show 4 < listed.size by rw [HSZ.out]; decide)]
               simp only [lst_ne (show 4 ≠ 0 by decide), lst_ne (show 4 ≠ 1 by decide), lst_ne (show 4 ≠ 2 by decide), lst_ne (show 4 ≠ 3 by decide), lst_ne (show 4 ≠ 5 by decide), lst_ne (show 4 ≠ 6 by decide), lst_ne (show 4 ≠ 7 by decide), lst_ne (show 4 ≠ 8 by decide), iv_true]
           · -- operation 5
             have d4 : lst listed 4 = true := hdep 4 (by kernel_rfl)
             have kc := bat hm2.1 K2.out
             refine inv_op rfl (fun K hK => ?_)
             simp only [d4, iv_true]
             go_simp
             refine hK.out _ _ ⟨p0, g1, g2, ?_, hmf.set (by decide) (by decide) (by decide) (by decide)⟩
             · skip
               try simp only [Act.put, List.setIfInBounds_toArray, List.set_cons_zero, List.set_cons_succ]
               rw [lst_self (show 5 < listed.size by rw [HSZ.out]; decide)]
               simp only [lst_ne (show 5 ≠ 0 by decide), lst_ne (show 5 ≠ 1 by decide), lst_ne (show 5 ≠ 2 by decide), lst_ne (show 5 ≠ 3 by decide), lst_ne (show 5 ≠ 4 by decide), lst_ne (show 5 ≠ 6 by decide), lst_ne (show 5 ≠ 7 by decide), lst_ne (show 5 ≠ 8 by decide), iv_true, d4]
           · -- operation 6
             have d5 : lst listed 5 = true := hdep 5 (by kernel_rfl)
             have d3 : lst listed 3 = true := hdep 3 (by kernel_rfl)
             have nn7 : lst listed 7 = false := closed_not hcl 8 (by kernel_rfl) hu
             refine inv_op rfl (fun K hK => ?_)
             simp only [d5, d3, iv_true]
             go_simp
             refine (whole_ratio A' n' c' ds w1 (H2'.out.belowL2 hm2.1) H4.out (by omega)).mono ?_
             rintro e w2 ⟨gg, rfl, hg, hg', hi2, hb2⟩
             try go_wp2_with fail
             refine hK.out _ _ ⟨p0, g1, gg, ?_, ?_⟩
             · skip
               try simp only [Act.put, List.setIfInBounds_toArray, List.set_cons_zero, List.set_cons_succ]
               rw [lst_self (show 6 < listed.size by rw [HSZ.out]; decide)]
               simp only [lst_ne (show 6 ≠ 0 by decide), lst_ne (show 6 ≠ 1 by decide), lst_ne (show 6 ≠ 2 by decide), lst_ne (show 6 ≠ 3 by decide), lst_ne (show 6 ≠ 4 by decide), lst_ne (show 6 ≠ 5 by decide), lst_ne (show 6 ≠ 7 by decide), lst_ne (show 6 ≠ 8 by decide), iv_true, d5, d3, nn7, iv_false]
             · unfold RgMF
               rw [lst_ne (show 6 ≠ 0 by decide), lst_ne (show 6 ≠ 7 by decide), lst_ne (show 6 ≠ 3 by decide)]
               refine ⟨hm2.1.trans (hb2.mono zw), fun h => ⟨(hm2.2.1 h).1, (hm2.2.1 h).2.below hb2⟩, ?_, ?_⟩
               · exact fun h h' => (hm2.2.2.1 h h').below hb2
               · exact fun _ _ => hi2
           · -- operation 7
             have d0 : lst listed 0 = true := hdep 0 (by kernel_rfl)
             have d3 : lst listed 3 = true := hdep 3 (by kernel_rfl)
             have d6 : lst listed 6 = true := hdep 6 (by kernel_rfl)
             refine inv_op rfl (fun K hK => ?_)
             simp only [d0, d3, d6, iv_true]
             go_simp
             have nI : lst listed 7 = false := hu
             have hme := hm2.2.1 d0
             have h1 := hm2.2.2.1 d3 nI
             have h2 := hm2.2.2.2 d6 nI
             rw [nI] at hme
             refine (gcd_int p0 0 g1 0 g2 0 0 (ln ns) (ln ds) w1 hme.2 h1 h2 X0.out Y0.out XL.out YL.out).mono ?_
             rintro e w2 ⟨rfl, hi2, hu2⟩
             try go_wp2_with fail
             refine hK.out _ _ ⟨p0, g1, g2, ?_, ?_⟩
             · skip
               try simp only [Act.put, List.setIfInBounds_toArray, List.set_cons_zero, List.set_cons_succ]
               rw [lst_self (show 7 < listed.size by rw [HSZ.out]; decide)]
               simp only [lst_ne (show 7 ≠ 0 by decide), lst_ne (show 7 ≠ 1 by decide), lst_ne (show 7 ≠ 2 by decide), lst_ne (show 7 ≠ 3 by decide), lst_ne (show 7 ≠ 4 by decide), lst_ne (show 7 ≠ 5 by decide), lst_ne (show 7 ≠ 6 by decide), lst_ne (show 7 ≠ 8 by decide), iv_true, d0, d3, d6]
             · unfold RgMF
               rw [lst_ne (show 7 ≠ 0 by decide), lst_ne (show 7 ≠ 3 by decide), lst_ne (show 7 ≠ 6 by decide), lst_self (show 7 < listed.size by rw [HSZ.out]; decide)]
               exact ⟨hm2.1.trans (hu2.toB.below hme.1 zw), fun _ => ⟨hme.1, hi2⟩, fun _ h => absurd h (by decide), fun _ h => absurd h (by decide)⟩
           · -- operation 8
             have d7 : lst listed 7 = true := hdep 7 (by kernel_rfl)
             refine inv_op rfl (fun K hK => ?_)
             simp only [d7, iv_true]
             go_simp
             refine hK.out _ _ ⟨p0, g1, g2, ?_, hmf.set (by decide) (by decide) (by decide) (by decide)⟩
             · skip
               try simp only [Act.put, List.setIfInBounds_toArray, List.set_cons_zero, List.set_cons_succ]
               rw [lst_self (show 8 < listed.size by rw [HSZ.out]; decide)]
               simp only [lst_ne (show 8 ≠ 0 by decide), lst_ne (show 8 ≠ 1 by decide), lst_ne (show 8 ≠ 2 by decide), lst_ne (show 8 ≠ 3 by decide), lst_ne (show 8 ≠ 4 by decide), lst_ne (show 8 ≠ 5 by decide), lst_ne (show 8 ≠ 6 by decide), lst_ne (show 8 ≠ 7 by decide), iv_true, d7]
         · intro listed a w1 hs hr hJ
           obtain ⟨p0, g1, g2, rfl, hmf⟩ := hJ
           have hall := all_listed hs hr (by kernel_rfl)
           have h0 := hmf.2.1 (hall 0 (by decide))
           rw [show lst listed 7 = true from hall 7 (by decide)] at h0
           have HM := Lib.hid h0
           have HB := Lib.hid hmf.1
           simp only [(show lst listed 0 = true from hall 0 (by decide)), (show lst listed 1 = true from hall 1 (by decide)), (show lst listed 2 = true from hall 2 (by decide)), (show lst listed 3 = true from hall 3 (by decide)), (show lst listed 4 = true from hall 4 (by decide)), (show lst listed 5 = true from hall 5 (by decide)), (show lst listed 6 = true from hall 6 (by decide)), (show lst listed 7 = true from hall 7 (by decide)), (show lst listed 8 = true from hall 8 (by decide)), iv_true]
           clear hmf hall h0 hs hr
           go_wp2_with fail
           go_meet
           exact ⟨p0, rfl, HM.out.2, HB0.out.trans (HB.out.mono HB0.out.size)⟩
        case rest =>
          obtain ⟨p0, rfl, hi, hb⟩ := hcut
          obtain ⟨G, hG⟩ : ∃ G, G = Nat.gcd (ln ns) (ln ds) := ⟨_, rfl⟩
          rw [← hG] at hi
          have HR2 := Lib.hid (show rightB ⟨s, ns, ds⟩ = decide (G = 1) by rw [HR.out, hG])
          have HI := Lib.hid hi
          have HB := Lib.hid hb
          have GL := Lib.hid (show (dig G).length ≤ 10000000 by
            rw [hG]
            exact Nat.le_trans (dig_len_mono (Nat.le_of_dvd (Nat.pos_of_ne_zero X0.out) (Nat.gcd_dvd_left _ _))) (by have := XL.out; omega))
          clear hG hi hb
          go_wp2_with fail
          refine (isU_int p0 0 (G : Int) _ HI.out (by rw [Int.natAbs_natCast]; exact GL.out) (by omega)).mono ?_
          rintro e w' ⟨rfl, rfl⟩
          rw [Int.natAbs_natCast]
          by_cases hU : blen G ≤ 64
          · have hlt : G < 18446744073709551616 := Nat.lt_of_lt_of_le blen_lt (Nat.pow_le_pow_right (by decide) hU)
            have HL := Lib.hid hlt
            rw [decide_eq_true hU]
            clear hU hlt
            go_wp2_with fail
            refine (uint64_int p0 0 (G : Int) _ HI.out).mono ?_
            rintro e w' ⟨rfl, rfl⟩
            rw [Int.natAbs_natCast, Nat.mod_eq_of_lt HL.out]
            go_wp2_with fail
            go_ret
            refine ⟨?_, HB.out⟩
            rw [HR2.out]
            by_cases h : G = 1 <;> simp [h]
            all_goals (try omega)
          · have hne : G ≠ 1 := by
              rintro rfl
              exact hU (by decide)
            have HL := Lib.hid hne
            rw [decide_eq_false hU]
            clear hU hne
            go_wp2_with fail
            go_ret
            refine ⟨?_, HB.out⟩
            rw [HR2.out, decide_eq_false HL.out]
            rfl

end Go.Proofs.YtjokpfgncmdomaaGreatDoor

/- ratio.Norm, both: the walks -/
namespace Go.Proofs.YtjokpfgncmdomaaGreatDoor
open Go.RowKit Go.Sort

theorem right_len {r : RV} (h : rightB r = true) : r.num.length ≤ 256 ∧ r.den.length ≤ 256 := by
  unfold rightB at h
  split at h
  · rename_i h0
    simp at h
    rw [h0, h.2]
    decide
  · simp at h
    exact ⟨topB_len h.1.1 rfl, topB_len h.1.2 rfl⟩
theorem right_den {r : RV} (h : rightB r = true) (hl : Lds r.den) : ln r.den ≠ 0 := by
  unfold rightB at h
  split at h
  · simp at h
    rw [h.2]
    decide
  · simp at h
    exact topB_ne h.1.2 hl

theorem RAt.ldsN {w : World} {v : Value} {r : RV} (h : RAt w v r) : Lds r.num := by obtain ⟨_, _, _, _, _, _, _, _, _, h, _⟩ := h; exact h
theorem RAt.ldsD {w : World} {v : Value} {r : RV} (h : RAt w v r) : Lds r.den := by obtain ⟨_, _, _, _, _, _, _, _, _, _, h⟩ := h; exact h
def BothPost (a b : RV) (w : World) (e : Ending) (w' : World) : Prop := (if rightB a = true ∧ rightB b = true then ∃ g1 g2, e = .returned (.tuple #[.pointer (some ⟨g1, 0, none⟩), .pointer (some ⟨g2, 0, none⟩), .bool true]) ∧ w.heap.size ≤ g1 ∧ w.heap.size ≤ g2 ∧ RatAt w' g1 a.q ∧ RatAt w' g2 b.q else e = .returned (.tuple #[.pointer none, .pointer none, .bool false])) ∧ Below w.heap.size w w'
theorem pair_cells (w : World) (s s2 : Bool) (A A' A2 A2' : Option Addr) (n n' n2 n2' c c' c2 c2' : Nat) :
    let w0 := ((w.alloc (.cells #[.bool s, .slice A n c, .slice A' n' c'] 24)).alloc (.cells #[.bool s2, .slice A2 n2 c2, .slice A2' n2' c2'] 24))
    w0.cell? ⟨w.heap.size, 0, none⟩ = some (.bool s) ∧ w0.cell? ⟨w.heap.size, 1, none⟩ = some (.slice A n c) ∧ w0.cell? ⟨w.heap.size, 2, none⟩ = some (.slice A' n' c') ∧ w0.cell? ⟨w.heap.size + 1, 0, none⟩ = some (.bool s2) ∧ w0.cell? ⟨w.heap.size + 1, 1, none⟩ = some (.slice A2 n2 c2) ∧ w0.cell? ⟨w.heap.size + 1, 2, none⟩ = some (.slice A2' n2' c2') := by
  intro w0
  have h : ∀ i v, (#[Value.bool s2, .slice A2 n2 c2, .slice A2' n2' c2'] : Array Value)[i]? = some v → w0.cell? ⟨w.heap.size + 1, i, none⟩ = some v := fun i v hv => by
    have := new_cell (w.alloc (.cells #[.bool s, .slice A n c, .slice A' n' c'] 24)) #[Value.bool s2, .slice A2 n2 c2, .slice A2' n2' c2'] 24 i v hv
    rwa [World.size_alloc] at this
  exact ⟨bat (below1 ..) (new_cell w _ _ 0 _ rfl), bat (below1 ..) (new_cell w _ _ 1 _ rfl), bat (below1 ..) (new_cell w _ _ 2 _ rfl), h 0 _ rfl, h 1 _ rfl, h 2 _ rfl⟩

set_option maxRecDepth 100000 in
set_option maxHeartbeats 4000000 in
theorem both_ratio (va vb : Value) (a b : RV) (w : World) (ha : RAt w va a) (hb : RAt w vb b) (l1 : a.num.length ≤ 1000000000000000) (l2 : a.den.length ≤ 1000000000000000) (l3 : b.num.length ≤ 1000000000000000) (l4 : b.den.length ≤ 1000000000000000) :
    Calls Tryz.prog 64 #[va, vb] w (BothPost a b w) := by
  have HA := Lib.hid ha
  have HB := Lib.hid hb
  have hA1 : ∃ s A n c A' n' c', va = .agg #[.bool s, .slice A n c, .slice A' n' c'] := by obtain ⟨A, n, c, A', n', c', h, _⟩ := ha; exact ⟨_, _, _, _, _, _, _, h⟩
  have hB1 : ∃ s A n c A' n' c', vb = .agg #[.bool s, .slice A n c, .slice A' n' c'] := by obtain ⟨A, n, c, A', n', c', h, _⟩ := hb; exact ⟨_, _, _, _, _, _, _, h⟩
  obtain ⟨s, A, n, c, A', n', c', rfl⟩ := hA1
  obtain ⟨s2, A2, n2, c2, A2', n2', c2', rfl⟩ := hB1
  clear ha hb
  have hp := pair_cells w s s2 A A' A2 A2' n n' n2 n2' c c' c2 c2'
  obtain ⟨ka0, ka1, ka2, kb0, kb1, kb2⟩ := hp
  have KA := Lib.hid (And.intro ka0 (And.intro ka1 (And.intro ka2 (And.intro kb0 (And.intro kb1 kb2)))))
  go_enter Tryz.func64, Tryz.ntmps64
  go_wp2_with fail
  refine (right_ratio _ a _ (HA.out.below (below2 ..)) l1 l2).mono ?_
  rintro e w1 ⟨rfl, hb1⟩
  have hbw : Below w.heap.size w w1 := (below2 ..).trans (hb1.mono (by simp; omega))
  have HB1 := Lib.hid hbw
  have q0 := bat hb1 kb0
  have q1 := bat hb1 kb1
  have q2 := bat hb1 kb2
  have HBX := Lib.hid hb1
  clear hb1 hbw ka0 ka1 ka2 kb0 kb1 kb2
  cases hra : rightB a
  · have HRA := Lib.hid hra
    clear hra
    go_wp2_with fail
    go_ret3
    refine ⟨?_, HB1.out⟩
    rw [if_neg (fun h => absurd (HRA.out.symm.trans h.1) (by decide))]
    rfl
  · have HRA := Lib.hid hra
    clear hra
    go_wp2_with fail
    refine (right_ratio _ b _ (HB.out.below HB1.out) l3 l4).mono ?_
    rintro e w2 ⟨rfl, hb2⟩
    have HB2 := Lib.hid (HB1.out.trans (hb2.mono HB1.out.size))
    have HBY := Lib.hid (HBX.out.trans (hb2.mono HBX.out.size))
    clear hb2 q0 q1 q2
    cases hrb : rightB b
    · have HRB := Lib.hid hrb
      clear hrb
      go_wp2_with fail
      go_ret3
      refine ⟨?_, HB2.out⟩
      rw [if_neg (fun h => absurd (HRB.out.symm.trans h.2) (by decide))]
      rfl
    · have HRB := Lib.hid hrb
      clear hrb
      have LA := Lib.hid (right_len HRA.out)
      have LB := Lib.hid (right_len HRB.out)
      have DA := Lib.hid (right_den HRA.out HA.out.ldsD)
      have DB := Lib.hid (right_den HRB.out HB.out.ldsD)
      obtain ⟨ka0, ka1, ka2, kb0, kb1, kb2⟩ := KA.out
      have p0 := bat HBY.out ka0
      have p1 := bat HBY.out ka1
      have p2 := bat HBY.out ka2
      have q0 := bat HBY.out kb0
      have q1 := bat HBY.out kb1
      have q2 := bat HBY.out kb2
      clear ka0 ka1 ka2 kb0 kb1 kb2
      go_wp2_with fail
      refine wp_region_held_drew (S := (fun w' => w'.cell? ⟨w.heap.size, 0, none⟩ = some (.bool s) ∧ w'.cell? ⟨w.heap.size, 1, none⟩ = some (.slice A n c) ∧ w'.cell? ⟨w.heap.size, 2, none⟩ = some (.slice A' n' c') ∧ w'.cell? ⟨w.heap.size + 1, 0, none⟩ = some (.bool s2) ∧ w'.cell? ⟨w.heap.size + 1, 1, none⟩ = some (.slice A2 n2 c2) ∧ w'.cell? ⟨w.heap.size + 1, 2, none⟩ = some (.slice A2' n2' c2'))) (by kernel_rfl) ?_ (fun hHeld => ?_)
      · first | exact True.intro | ((try dsimp only); go_keep)
      refine wpAnyH_take (i := 0) (v := ?_) rfl (by kernel_rfl) (by kernel_rfl) (by kernel_rfl) (fun _ _ _ h => h) (Or.inl ⟨by kernel_rfl, ?_⟩) (by assumption) ?_
      rotate_left 1
      · (intro w hSw; (try dsimp only at hSw); go_simp; try with_reducible rfl)
      try simp only [List.getElem_toArray, List.getElem_cons_succ, List.getElem_cons_zero, Act.put, List.setIfInBounds_toArray, List.set_cons_zero, List.set_cons_succ]
      refine wpAnyH_take (i := 2) (v := ?_) rfl (by kernel_rfl) (by kernel_rfl) (by kernel_rfl) (fun _ _ _ h => h) (Or.inl ⟨by kernel_rfl, ?_⟩) (by assumption) ?_
      rotate_left 1
      · (intro w hSw; (try dsimp only at hSw); go_simp; try with_reducible rfl)
      try simp only [List.getElem_toArray, List.getElem_cons_succ, List.getElem_cons_zero, Act.put, List.setIfInBounds_toArray, List.set_cons_zero, List.set_cons_succ]
      refine wpAnyH_ready (rs := [1]) (by kernel_rfl) (by simp) ?_
      refine AllReadyH.cons rfl (fun K hK => ?_) AllReadyH.nil
      go_simp
      (refine (fraction_ratio _ a w2.drew (HA.out.below HB2.out.drew) DA.out (by have := LA.out; omega) (by have := LA.out; omega)).mono ?_; rintro e w3 ⟨g1, rfl, hg1, hr1, hb3⟩; have z3 : w2.heap.size ≤ w3.heap.size := hb3.size; obtain ⟨x0, x1, x2, x3, x4, x5⟩ := hHeld; have k0 := bat hb3 x0; have k1 := bat hb3 x1; have k2 := bat hb3 x2; have k3 := bat hb3 x3; have k4 := bat hb3 x4; have k5 := bat hb3 x5; have HR1 := Lib.hid hr1; have HB3 : Hid (Below w.heap.size w w3) := Lib.hid (HB2.out.drew.trans (hb3.mono HB2.out.size)); clear hr1 hb3 x0 x1 x2 x3 x4 x5)
      try go_wp2_with fail
      refine hK.out _ _ ?_ (fun hHeld => ?_)
      · first | exact True.intro | ((try dsimp only); go_keep)
      clear hK K
      try simp only [List.getElem_toArray, List.getElem_cons_succ, List.getElem_cons_zero, Act.put, List.setIfInBounds_toArray, List.set_cons_zero, List.set_cons_succ]
      refine wpAnyH_ready (rs := [3]) (by kernel_rfl) (by simp) ?_
      refine AllReadyH.cons rfl (fun K hK => ?_) AllReadyH.nil
      go_simp
      (refine (fraction_ratio _ b w3 (HB.out.below HB3.out) DB.out (by have := LB.out; omega) (by have := LB.out; omega)).mono ?_; rintro e w4 ⟨g2, rfl, hg2, hr2, hb4⟩; obtain ⟨x0, x1, x2, x3, x4, x5⟩ := hHeld; have k0 := bat hb4 x0; have k1 := bat hb4 x1; have k2 := bat hb4 x2; have k3 := bat hb4 x3; have k4 := bat hb4 x4; have k5 := bat hb4 x5; have HR2 := Lib.hid hr2; have HR1b := Lib.hid (HR1.out.below hb4); have HB4 : Hid (Below w.heap.size w w4) := Lib.hid (HB3.out.trans (hb4.mono HB3.out.size)); clear hr2 hb4 x0 x1 x2 x3 x4 x5)
      try go_wp2_with fail
      refine hK.out _ _ ?_ (fun hHeld => ?_)
      · first | exact True.intro | ((try dsimp only); go_keep)
      clear hK K
      try simp only [List.getElem_toArray, List.getElem_cons_succ, List.getElem_cons_zero, Act.put, List.setIfInBounds_toArray, List.set_cons_zero, List.set_cons_succ]
      refine wpAnyH_take (i := 4) (v := ?_) rfl (by kernel_rfl) (by kernel_rfl) (by kernel_rfl) (fun _ _ _ h => h) (Or.inl ⟨by kernel_rfl, ?_⟩) (by assumption) ?_
      rotate_left 1
      · (intro w hSw; (try dsimp only at hSw); go_simp; try with_reducible rfl)
      try simp only [List.getElem_toArray, List.getElem_cons_succ, List.getElem_cons_zero, Act.put, List.setIfInBounds_toArray, List.set_cons_zero, List.set_cons_succ]
      refine wpAnyH_take (i := 5) (v := ?_) rfl (by kernel_rfl) (by kernel_rfl) (by kernel_rfl) (fun _ _ _ h => h) (Or.inl ⟨by kernel_rfl, ?_⟩) (by assumption) ?_
      rotate_left 1
      · (intro w hSw; (try dsimp only at hSw); go_simp; try with_reducible rfl)
      try simp only [List.getElem_toArray, List.getElem_cons_succ, List.getElem_cons_zero, Act.put, List.setIfInBounds_toArray, List.set_cons_zero, List.set_cons_succ]
      refine wpAnyH_take (i := 6) (v := ?_) rfl (by kernel_rfl) (by kernel_rfl) (by kernel_rfl) (fun _ _ _ h => h) (Or.inl ⟨by kernel_rfl, ?_⟩) (by assumption) ?_
      rotate_left 1
      · (intro w hSw; (try dsimp only at hSw); go_simp; try with_reducible rfl)
      try simp only [List.getElem_toArray, List.getElem_cons_succ, List.getElem_cons_zero, Act.put, List.setIfInBounds_toArray, List.set_cons_zero, List.set_cons_succ]
      refine wpAnyH_done (by kernel_rfl) ?_ _
      go_wp2_with fail
      go_ret3
      refine ⟨?_, HB4.out⟩
      rw [if_pos ⟨HRA.out, HRB.out⟩]
      exact ⟨g1, g2, rfl, Nat.le_trans HB2.out.size hg1, Nat.le_trans HB3.out.size hg2, HR1b.out, HR2.out⟩

end Go.Proofs.YtjokpfgncmdomaaGreatDoor

/- ratio.Norm, Int: the walks -/
namespace Go.Proofs.YtjokpfgncmdomaaGreatDoor
open Go.RowKit Go.Sort

def NormPost (r : RV) (w : World) (e : Ending) (w' : World) : Prop :=
  if ln r.den = 0 then ∃ v, e = .returned (.tuple #[v, .int .i64 7]) ∧ RAt w' v noR ∧ Below w.heap.size w w' else Told w r.q e w'

theorem norm_sizes {r : RV} (hd : ln r.den ≠ 0) : r.q.num.natAbs ≤ ln r.num ∧ r.q.den ≤ ln r.den := by
  have h1 := rn_num (a := r.top) (b := (ln r.den : Int)) (by omega)
  have h2 := (rn_pos (a := r.top) (b := (ln r.den : Int)) (by omega)).2
  unfold RV.q
  rw [h1.1, h2, Int.natAbs_natCast, top_abs]
  exact ⟨Nat.div_le_self _ _, Nat.div_le_self _ _⟩

set_option maxRecDepth 100000 in
set_option maxHeartbeats 4000000 in
theorem norm_ratio (v : Value) (r : RV) (w : World) (hr : RAt w v r) (l1 : r.num.length ≤ 1000) (l2 : r.den.length ≤ 1000) :
    Calls Tryz.prog 26 #[v] w (NormPost r w) := by
  have HR := Lib.hid hr
  obtain ⟨A, n, c, A', n', c', rfl, h1, h2, h3, h4⟩ := hr
  have H2 := Lib.hid h2
  have hn := h2.num
  have hn' : n' ≤ 1000 := by omega
  clear h1 h2 h3 h4 hn
  go_enter Tryz.func26, Tryz.ntmps26
  go_wp2_with fail
  refine (nought_ratio A' n' c' r.den _ _ (H2.out.belowL (below2 ..)) (by omega)).mono ?_
  rintro e w' ⟨rfl, rfl⟩
  by_cases h0 : ln r.den = 0
  · have H0 := Lib.hid h0
    rw [decide_eq_true h0]
    clear h0
    go_wp2_with fail
    (try simp only [Exit.inBlock, Exit.then])
    refine bodyPost_ret (v := .tuple #[.agg #[.bool false, .slice none 0 0, .slice none 0 0], .int .i64 7]) (by simp [results, Tryz.results26, go_sem]; done) rfl ?_
    unfold NormPost
    rw [if_pos H0.out]
    exact ⟨_, rfl, noR_at _ _ _, below2 ..⟩
  · have H0 := Lib.hid h0
    rw [decide_eq_false h0]
    clear h0
    go_wp2_with fail
    refine (fraction_ratio _ r _ (HR.out.below (below2 ..)) H0.out l1 l2).mono ?_
    rintro e w1 ⟨g, rfl, hg, hr1, hb1⟩
    have HR1 := Lib.hid hr1
    have HB1 := Lib.hid hb1
    clear hr1 hb1
    go_wp2_with fail
    refine (told_ratio g r.q w1 HR1.out (Nat.le_trans (dig_len_mono (norm_sizes H0.out).1) (Nat.le_trans (dig_ln_len HR.out.ldsN) (by omega))) (Nat.le_trans (dig_len_mono (norm_sizes H0.out).2) (Nat.le_trans (dig_ln_len HR.out.ldsD) (by omega)))).mono ?_
    rintro e w2 ⟨v2, rfl, hv2, hb2⟩
    have HV2 := Lib.hid hv2
    obtain ⟨B, m, d, B', m', d', rfl, hh⟩ := hv2
    clear hh
    have hbx := HB1.out.trans (hb2.mono HB1.out.size)
    have hblk : w2.heap[w.heap.size + 1]? = some (.cells #[.bool false, .slice none 0 0, .slice none 0 0] 24 (0, 0)) := by
      rw [hbx.block (w.heap.size + 1) (by simp)]
      have h := blk_new (w.alloc (.cells #[.bool r.neg, .slice A n c, .slice A' n' c'] 24)) #[.bool false, .slice none 0 0, .slice none 0 0] 24
      rwa [World.size_alloc] at h
    obtain ⟨kc, kf⟩ := blk_cells hblk
    have kc0 := kc 0
    have kc1 := kc 1
    have kc2 := kc 2
    have kf0 := kf 0
    have kf1 := kf 1
    have kf2 := kf 2
    simp only [List.getElem?_toArray, List.getElem?_cons_zero, List.getElem?_cons_succ] at kc0 kc1 kc2
    have HBX := Lib.hid hbx
    have zx : w.heap.size + 2 ≤ w2.heap.size := by have := hbx.size; simp at this; omega
    obtain ⟨tn, htn⟩ : ∃ tn, tn = (toldR r.q).neg := ⟨_, rfl⟩
    obtain ⟨te, hte⟩ : ∃ te, te = toldE r.q := ⟨_, rfl⟩
    rw [← htn] at HV2 ⊢
    rw [← hte]
    have HTE := Lib.hid hte
    obtain ⟨w6, hw6⟩ : ∃ w6, w6 = ((w2.setCell ⟨w.heap.size + 1, 0, none⟩ (.bool tn)).setCell ⟨w.heap.size + 1, 1, none⟩ (.slice B m d)).setCell ⟨w.heap.size + 1, 2, none⟩ (.slice B' m' d') := ⟨_, rfl⟩
    obtain ⟨hu6, q0, q1, q2⟩ := rat_set kc0 kc1 kc2 _ _ _ _ _ _ _ _ hw6
    have HW6 := Lib.hid hw6
    have HU6 := Lib.hid hu6
    have Q0 := Lib.hid q0
    have Q1 := Lib.hid q1
    have Q2 := Lib.hid q2
    clear kc kf hblk hbx hb2 hw6 hu6 q0 q1 q2 htn hte
    go_wp2_with fail
    rw [← HW6.out]
    have q0 := Q0.out
    have q1 := Q1.out
    have q2 := Q2.out
    (try simp only [Exit.inBlock, Exit.then])
    refine bodyPost_ret (v := .tuple #[.agg #[.bool tn, .slice B m d, .slice B' m' d'], .int .i64 te]) (by simp [results, Tryz.results26, go_sem, q0, q1, q2]; done) rfl ?_
    unfold NormPost
    rw [if_neg H0.out]
    exact ⟨_, by rw [HTE.out], HV2.out.upb HU6.out, (below2 ..).trans ((HBX.out.mono (by simp; omega)).trans (HU6.out.below (by omega) (by omega)))⟩

end Go.Proofs.YtjokpfgncmdomaaGreatDoor

/- the numbers of Add, Sub, Mul, Div: plain -/
namespace Go.Proofs.YtjokpfgncmdomaaGreatDoor
open Go.RowKit Go.Sort

theorem dsz {N D : Int} (hD : D ≠ 0) : (Rat.divInt N D).num.natAbs ≤ N.natAbs ∧ (Rat.divInt N D).den ≤ D.natAbs := by
  by_cases h : 0 < D
  · have h1 := rn_num (a := N) (b := D) h
    have h2 := (rn_pos (a := N) (b := D) h).2
    rw [h1.1, h2]
    exact ⟨Nat.div_le_self _ _, Nat.div_le_self _ _⟩
  · have h1 := rn_num (a := -N) (b := -D) (by omega)
    have h2 := (rn_pos (a := -N) (b := -D) (by omega)).2
    rw [rn_neg] at h1 h2
    rw [h1.1, h2, Int.natAbs_neg, Int.natAbs_neg]
    exact ⟨Nat.div_le_self _ _, Nat.div_le_self _ _⟩
theorem den_ne (x : Rat) : (x.den : Int) ≠ 0 := by have := x.den_nz; omega
theorem q_add (x y : Rat) : Rat.divInt (x.num * (y.den : Int) + y.num * (x.den : Int)) ((x.den : Int) * y.den) = x + y := by
  have h := Rat.divInt_add_divInt x.num y.num (den_ne x) (den_ne y)
  rw [Rat.num_divInt_den, Rat.num_divInt_den] at h
  exact h.symm
/-- the parts of a number have at most k words -/
def Sz (k : Nat) (q : Rat) : Prop := (dig q.num.natAbs).length ≤ k ∧ (dig q.den).length ≤ k
theorem sz_add {x y : Rat} {k : Nat} (hx : Sz k x) (hy : Sz k y) : Sz (4 * k + 1) (x + y) := by
  have hD : (x.den : Int) * y.den ≠ 0 := Int.mul_ne_zero (den_ne x) (den_ne y)
  rw [← q_add]
  obtain ⟨h1, h2⟩ := dsz (N := x.num * (y.den : Int) + y.num * (x.den : Int)) hD
  refine ⟨Nat.le_trans (dig_len_mono h1) ?_, Nat.le_trans (dig_len_mono h2) ?_⟩
  · have e1 := add_len (x.num * (y.den : Int)) (y.num * (x.den : Int))
    have e2 := mul_len x.num.natAbs y.den
    have e3 := mul_len y.num.natAbs x.den
    rw [Int.natAbs_mul, Int.natAbs_mul, Int.natAbs_natCast, Int.natAbs_natCast] at e1
    have := hx.1; have := hx.2; have := hy.1; have := hy.2
    omega
  · rw [Int.natAbs_mul, Int.natAbs_natCast, Int.natAbs_natCast]
    have e2 := mul_len x.den y.den
    have := hx.2; have := hy.2
    omega
theorem sz_right {r : RV} (h : rightB r = true) (hn : Lds r.num) (hd : Lds r.den) : Sz 512 r.q := by
  have h0 := right_den h hd
  have hl := right_len h
  exact ⟨Nat.le_trans (dig_len_mono (norm_sizes h0).1) (Nat.le_trans (dig_ln_len hn) (by omega)), Nat.le_trans (dig_len_mono (norm_sizes h0).2) (Nat.le_trans (dig_ln_len hd) (by omega))⟩

end Go.Proofs.YtjokpfgncmdomaaGreatDoor

/- ratio.Add, Sub, Mul, Div: the walks (printed by gen_t11.py) -/
namespace Go.Proofs.YtjokpfgncmdomaaGreatDoor
open Go.RowKit Go.Sort

/-- an answer of none, with its errno -/
def Fail (k : Int) (w : World) (e : Ending) (w' : World) : Prop := ∃ v, e = .returned (.tuple #[v, .int .i64 k]) ∧ RAt w' v noR ∧ Below w.heap.size w w'
def BinPost (a b : RV) (q : Rat) (w : World) (e : Ending) (w' : World) : Prop := if rightB a = true ∧ rightB b = true then Told w q e w' else Fail 2 w e w'
theorem blk3 (w : World) (o1 o2 : Obj) (cs : Array Value) (t : TypeId) : (((w.alloc o1).alloc o2).alloc (.cells cs t)).heap[w.heap.size + 2]? = some (.cells cs t (0, 0)) := by
  have h := blk_new ((w.alloc o1).alloc o2) cs t
  rwa [World.size_alloc, World.size_alloc] at h

set_option maxRecDepth 100000 in
set_option maxHeartbeats 4000000 in
theorem add_ratio (va vb : Value) (a b : RV) (w : World) (ha : RAt w va a) (hb : RAt w vb b) (l1 : a.num.length ≤ 1000000000000000) (l2 : a.den.length ≤ 1000000000000000) (l3 : b.num.length ≤ 1000000000000000) (l4 : b.den.length ≤ 1000000000000000) :
    Calls Tryz.prog 21 #[va, vb] w (BinPost a b (a.q + b.q) w) := by
  have HA := Lib.hid ha
  have HB := Lib.hid hb
  have hA1 : ∃ s A n c A' n' c', va = .agg #[.bool s, .slice A n c, .slice A' n' c'] := by obtain ⟨A, n, c, A', n', c', h, _⟩ := ha; exact ⟨_, _, _, _, _, _, _, h⟩
  have hB1 : ∃ s A n c A' n' c', vb = .agg #[.bool s, .slice A n c, .slice A' n' c'] := by obtain ⟨A, n, c, A', n', c', h, _⟩ := hb; exact ⟨_, _, _, _, _, _, _, h⟩
  obtain ⟨s, A, n, c, A', n', c', rfl⟩ := hA1
  obtain ⟨s2, A2, n2, c2, A2', n2', c2', rfl⟩ := hB1
  clear ha hb
  go_enter Tryz.func21, Tryz.ntmps21
  go_wp2_with fail
  refine (both_ratio _ _ a b _ (HA.out.below (below3 ..)) (HB.out.below (below3 ..)) l1 l2 l3 l4).mono ?_
  rintro e w1 ⟨hp, hb1⟩
  have hblk : w1.heap[w.heap.size + 2]? = some (.cells #[.bool false, .slice none 0 0, .slice none 0 0] 24 (0, 0)) := by
    rw [hb1.block (w.heap.size + 2) (by simp)]
    exact blk3 ..
  have zx : w.heap.size + 3 ≤ w1.heap.size := by have := hb1.size; simp at this; omega
  have HB1 := Lib.hid ((below3 w _ _ _).trans (hb1.mono (by simp; omega)))
  clear hb1
  by_cases hr : rightB a = true ∧ rightB b = true
  · rw [if_pos hr] at hp
    obtain ⟨g1, g2, rfl, hg1, hg2, hr1, hr2⟩ := hp
    have SA := Lib.hid (sz_right hr.1 HA.out.ldsN HA.out.ldsD)
    have SB := Lib.hid (sz_right hr.2 HB.out.ldsN HB.out.ldsD)
    have HRR := Lib.hid hr
    have HR1 := Lib.hid hr1
    have HR2 := Lib.hid hr2
    have zg : w.heap.size + 3 ≤ g1 := by simp at hg1; omega
    clear hr hr1 hr2
    go_wp2_with fail
    refine (add_rat g1 g1 g2 a.q b.q w1 HR1.out.obj HR1.out HR2.out (by have := SA.out.1; omega) (by have := SA.out.2; omega) (by have := SB.out.1; omega) (by have := SB.out.2; omega)).mono ?_
    rw [q_add]
    rintro e w2 ⟨rfl, hr3, hu2⟩
    have hblk2 : w2.heap[w.heap.size + 2]? = some (.cells #[.bool false, .slice none 0 0, .slice none 0 0] 24 (0, 0)) := (hu2.blk (w.heap.size + 2) (by omega) (by omega)).trans hblk
    have HR3 := Lib.hid hr3
    have HB2 := Lib.hid (HB1.out.trans (hu2.below (by omega) (by omega)))
    have zy : w.heap.size + 3 ≤ w2.heap.size := by have := hu2.size; omega
    obtain ⟨x, hx⟩ : ∃ x, x = a.q + b.q := ⟨_, rfl⟩
    have SX := Lib.hid (show Sz (4 * 512 + 1) x by rw [hx]; exact sz_add SA.out SB.out)
    rw [← hx] at HR3
    have HX := Lib.hid hx
    clear hr3 hu2 hblk hx
    go_wp2_with fail
    refine (told_ratio g1 x w2 HR3.out (by have := SX.out.1; omega) (by have := SX.out.2; omega)).mono ?_
    rintro e w3 ⟨v2, rfl, hv2, hb2⟩
    have HV2 := Lib.hid hv2
    obtain ⟨B, m, d, B', m', d', rfl, hh⟩ := hv2
    clear hh
    have hblk : w3.heap[w.heap.size + 2]? = some (.cells #[.bool false, .slice none 0 0, .slice none 0 0] 24 (0, 0)) := (hb2.block (w.heap.size + 2) (by omega)).trans hblk2
    have zz : w.heap.size + 3 ≤ w3.heap.size := by have := hb2.size; omega
    have HB3 := Lib.hid (HB2.out.trans (hb2.mono HB2.out.size))
    obtain ⟨tn, htn⟩ : ∃ tn, tn = (toldR x).neg := ⟨_, rfl⟩
    obtain ⟨te, hte⟩ : ∃ te, te = toldE x := ⟨_, rfl⟩
    rw [← htn] at HV2 ⊢
    rw [← hte]
    have HTE := Lib.hid hte
    clear hb2 htn hte hblk2
    obtain ⟨kc, kf⟩ := blk_cells hblk
    have kc0 := kc 0
    have kc1 := kc 1
    have kc2 := kc 2
    have kf0 := kf 0
    have kf1 := kf 1
    have kf2 := kf 2
    simp only [List.getElem?_toArray, List.getElem?_cons_zero, List.getElem?_cons_succ] at kc0 kc1 kc2
    obtain ⟨w6, hw6⟩ : ∃ w6, w6 = ((w3.setCell ⟨w.heap.size + 2, 0, none⟩ (.bool tn)).setCell ⟨w.heap.size + 2, 1, none⟩ (.slice B m d)).setCell ⟨w.heap.size + 2, 2, none⟩ (.slice B' m' d') := ⟨_, rfl⟩
    obtain ⟨hu6, q0, q1, q2⟩ := rat_set kc0 kc1 kc2 _ _ _ _ _ _ _ _ hw6
    have HW6 := Lib.hid hw6
    have HU6 := Lib.hid hu6
    have Q0 := Lib.hid q0
    have Q1 := Lib.hid q1
    have Q2 := Lib.hid q2
    clear kc kf hblk hw6 hu6 q0 q1 q2
    go_wp2_with fail
    rw [← HW6.out]
    have q0 := Q0.out
    have q1 := Q1.out
    have q2 := Q2.out
    (try simp only [Exit.inBlock, Exit.then])
    refine bodyPost_ret (v := .tuple #[.agg #[.bool tn, .slice B m d, .slice B' m' d'], .int .i64 te]) (by simp [results, Tryz.results21, go_sem, q0, q1, q2]; done) rfl ?_
    unfold BinPost
    rw [if_pos HRR.out, ← HX.out]
    exact ⟨_, by rw [HTE.out], HV2.out.upb HU6.out, HB3.out.trans (HU6.out.below (by omega) (by omega))⟩
  · rw [if_neg hr] at hp
    subst hp
    have HRR := Lib.hid hr
    clear hr
    obtain ⟨kc, kf⟩ := blk_cells hblk
    have kc0 := kc 0
    have kc1 := kc 1
    have kc2 := kc 2
    have kf0 := kf 0
    have kf1 := kf 1
    have kf2 := kf 2
    simp only [List.getElem?_toArray, List.getElem?_cons_zero, List.getElem?_cons_succ] at kc0 kc1 kc2
    obtain ⟨w6, hw6⟩ : ∃ w6, w6 = ((w1.setCell ⟨w.heap.size + 2, 0, none⟩ (.bool false)).setCell ⟨w.heap.size + 2, 1, none⟩ (.slice none 0 0)).setCell ⟨w.heap.size + 2, 2, none⟩ (.slice none 0 0) := ⟨_, rfl⟩
    obtain ⟨hu6, q0, q1, q2⟩ := rat_set kc0 kc1 kc2 _ _ _ _ _ _ _ _ hw6
    have HW6 := Lib.hid hw6
    have HU6 := Lib.hid hu6
    have Q0 := Lib.hid q0
    have Q1 := Lib.hid q1
    have Q2 := Lib.hid q2
    clear kc kf hblk hw6 hu6 q0 q1 q2
    go_wp2_with fail
    rw [← HW6.out]
    have q0 := Q0.out
    have q1 := Q1.out
    have q2 := Q2.out
    (try simp only [Exit.inBlock, Exit.then])
    refine bodyPost_ret (v := .tuple #[.agg #[.bool false, .slice none 0 0, .slice none 0 0], .int .i64 2]) (by simp [results, Tryz.results21, go_sem, q0, q1, q2]; done) rfl ?_
    unfold BinPost
    rw [if_neg HRR.out]
    exact ⟨_, rfl, noR_at _ _ _, HB1.out.trans (HU6.out.below (by omega) (by omega))⟩

end Go.Proofs.YtjokpfgncmdomaaGreatDoor

/- Int.Cmp; ratio.Sign, Int: the walks -/
namespace Go.Proofs.YtjokpfgncmdomaaGreatDoor
open Go.RowKit Go.Sort

/-- -1, 0, 1 -/
def cmpI (x y : Int) : Int := if x < y then -1 else if y < x then 1 else 0
theorem cmpI_nat {x y : Int} (hx : 0 ≤ x) (hy : 0 ≤ y) : cmpI x y = cmpN x.natAbs y.natAbs := by
  unfold cmpI cmpN
  have e1 : x < y ↔ x.natAbs < y.natAbs := by omega
  have e2 : y < x ↔ y.natAbs < x.natAbs := by omega
  simp only [e1, e2]
theorem cmpI_neg {x y : Int} (hx : x < 0) (hy : y < 0) : cmpI x y = -cmpN x.natAbs y.natAbs := by
  unfold cmpI cmpN
  have e1 : x < y ↔ y.natAbs < x.natAbs := by omega
  have e2 : y < x ↔ x.natAbs < y.natAbs := by omega
  simp only [e1, e2]
  by_cases h1 : x.natAbs < y.natAbs
  · have : ¬ y.natAbs < x.natAbs := by omega
    simp [h1, this]
  · by_cases h2 : y.natAbs < x.natAbs <;> simp [h1, h2]
theorem cmpN_mem (x y : Nat) : -1 ≤ cmpN x y ∧ cmpN x y ≤ 1 := by
  unfold cmpN
  split
  · omega
  · split <;> omega
theorem neg_wrap (x y : Nat) : wrap64 (-cmpN x y) = -cmpN x y := by
  have := cmpN_mem x y
  unfold wrap64
  omega

set_option maxRecDepth 100000 in
set_option maxHeartbeats 4000000 in
theorem cmp_int (b o b1 o1 : Nat) (x y : Int) (w : World) (hx : IntAt w b o x) (hy : IntAt w b1 o1 y) (hl : (dig x.natAbs).length ≤ 10000000000) (hl' : (dig y.natAbs).length ≤ 10000000000) :
    Calls Tryz.prog 112 #[.pointer (some ⟨b, o, none⟩), .pointer (some ⟨b1, o1, none⟩)] w fun e w' => e = .returned (.int .i64 (cmpI x y)) ∧ Below w.heap.size w w' := by
  obtain ⟨A, n, c, s, HN, HS, h0, h1, hc, HR⟩ := hx.open
  rw [← HN.out] at hl
  obtain ⟨A', n', c', s', HN', HS', h0', h1', hc', HR'⟩ := hy.open
  rw [← HN'.out] at hl'
  have LX := Lib.hid hl
  have LY := Lib.hid hl'
  clear hx hy hc hc' HN HN' hl hl'
  cases s <;> cases s'
  · have hC : Hid (cmpI x y = cmpN x.natAbs y.natAbs) := Lib.hid (cmpI_nat (by have := HS.out; simp at this; exact this) (by have := HS'.out; simp at this; exact this))
    go_enter Tryz.func112, Tryz.ntmps112
    go_wp2_with fail
    go_quiet (fail)
    go_wp2_with fail
    refine wp_region_G (S := (fun w' => w'.cell? ⟨b, o + 1, none⟩ = some (.slice A n c) ∧ w'.cell? ⟨b1, o1 + 1, none⟩ = some (.slice A' n' c'))) 8 (by kernel_rfl) ?_ (fun hHeld => ?_)
    · first | exact True.intro | ((try dsimp only); go_keep)
    refine wpAnyG_take (i := 0) (v := ?_) rfl (by kernel_rfl) (by kernel_rfl) (by kernel_rfl) (by kernel_rfl) 8 (by kernel_rfl) (fun _ _ _ h => h) (Or.inl ⟨by kernel_rfl, ?_⟩) (by assumption) ?_
    rotate_left 1
    · (intro w hSw; (try dsimp only at hSw); go_simp; try with_reducible rfl)
    try simp only [List.getElem_toArray, List.getElem_cons_succ, List.getElem_cons_zero, Act.put, List.setIfInBounds_toArray, List.set_cons_zero, List.set_cons_succ]
    refine wpAnyG_take (i := 1) (v := ?_) rfl (by kernel_rfl) (by kernel_rfl) (by kernel_rfl) (by kernel_rfl) 8 (by kernel_rfl) (fun _ _ _ h => h) (Or.inl ⟨by kernel_rfl, ?_⟩) (by assumption) ?_
    rotate_left 1
    · (intro w hSw; (try dsimp only at hSw); go_simp; try with_reducible rfl)
    try simp only [List.getElem_toArray, List.getElem_cons_succ, List.getElem_cons_zero, Act.put, List.setIfInBounds_toArray, List.set_cons_zero, List.set_cons_succ]
    refine wpAnyG_take (i := 2) (v := ?_) rfl (by kernel_rfl) (by kernel_rfl) (by kernel_rfl) (by kernel_rfl) 8 (by kernel_rfl) (fun _ _ _ h => h) (Or.inl ⟨by kernel_rfl, ?_⟩) (by assumption) ?_
    rotate_left 1
    · (intro w hSw; (try dsimp only at hSw); go_simp; try with_reducible rfl)
    try simp only [List.getElem_toArray, List.getElem_cons_succ, List.getElem_cons_zero, Act.put, List.setIfInBounds_toArray, List.set_cons_zero, List.set_cons_succ]
    refine wpAnyG_take (i := 3) (v := ?_) rfl (by kernel_rfl) (by kernel_rfl) (by kernel_rfl) (by kernel_rfl) 8 (by kernel_rfl) (fun _ _ _ h => h) (Or.inl ⟨by kernel_rfl, ?_⟩) (by assumption) ?_
    rotate_left 1
    · (intro w hSw; (try dsimp only at hSw); go_simp; try with_reducible rfl)
    try simp only [List.getElem_toArray, List.getElem_cons_succ, List.getElem_cons_zero, Act.put, List.setIfInBounds_toArray, List.set_cons_zero, List.set_cons_succ]
    refine wpAnyG_take (i := 4) (v := ?_) rfl (by kernel_rfl) (by kernel_rfl) (by kernel_rfl) (by kernel_rfl) 8 (by kernel_rfl) (fun _ _ _ h => h) (Or.inl ⟨by kernel_rfl, ?_⟩) (by assumption) ?_
    rotate_left 1
    · (intro w hSw; (try dsimp only at hSw); go_simp; try with_reducible rfl)
    try simp only [List.getElem_toArray, List.getElem_cons_succ, List.getElem_cons_zero, Act.put, List.setIfInBounds_toArray, List.set_cons_zero, List.set_cons_succ]
    refine wpAnyG_take (i := 5) (v := ?_) rfl (by kernel_rfl) (by kernel_rfl) (by kernel_rfl) (by kernel_rfl) 8 (by kernel_rfl) (fun _ _ _ h => h) (Or.inl ⟨by kernel_rfl, ?_⟩) (by assumption) ?_
    rotate_left 1
    · (intro w hSw; (try dsimp only at hSw); go_simp; try with_reducible rfl)
    try simp only [List.getElem_toArray, List.getElem_cons_succ, List.getElem_cons_zero, Act.put, List.setIfInBounds_toArray, List.set_cons_zero, List.set_cons_succ]
    refine wpAnyG_take (i := 6) (v := ?_) rfl (by kernel_rfl) (by kernel_rfl) (by kernel_rfl) (by kernel_rfl) 8 (by kernel_rfl) (fun _ _ _ h => h) (Or.inl ⟨by kernel_rfl, ?_⟩) (by assumption) ?_
    rotate_left 1
    · (intro w hSw; (try dsimp only at hSw); go_simp; try with_reducible rfl)
    try simp only [List.getElem_toArray, List.getElem_cons_succ, List.getElem_cons_zero, Act.put, List.setIfInBounds_toArray, List.set_cons_zero, List.set_cons_succ]
    refine wpAnyG_take (i := 7) (v := ?_) rfl (by kernel_rfl) (by kernel_rfl) (by kernel_rfl) (by kernel_rfl) 8 (by kernel_rfl) (fun _ _ _ h => h) (Or.inl ⟨by kernel_rfl, ?_⟩) (by assumption) ?_
    rotate_left 1
    · (intro w hSw; (try dsimp only at hSw); go_simp; try with_reducible rfl)
    try simp only [List.getElem_toArray, List.getElem_cons_succ, List.getElem_cons_zero, Act.put, List.setIfInBounds_toArray, List.set_cons_zero, List.set_cons_succ]
    refine wpAnyG_one (i := 8) (by kernel_rfl) rfl (fun K hK => ?_)
    go_simp
    (refine (cmp_any A A' n n' c c' x.natAbs y.natAbs _ _ (w.drewN nq).drew (HR.out.keep (w' := (w.drewN nq).drew) fun _ _ => rfl) (HR'.out.keep (w' := (w.drewN nq).drew) fun _ _ => rfl) (by have := LX.out; omega) (by have := LY.out; omega)).mono ?_; rintro e w1 ⟨rfl, hb1⟩; have k1 := bat hb1 hHeld.1; have k2 := bat hb1 hHeld.2; have k3 := bat hb1 (show (w.drewN nq).drew.cell? _ = _ from h0))
    try go_wp2_with fail
    refine hK.out _ _ ?_ (fun hHeld => ?_)
    · exact .inr (by kernel_rfl)
    clear hK K
    try simp only [List.getElem_toArray, List.getElem_cons_succ, List.getElem_cons_zero, Act.put, List.setIfInBounds_toArray, List.set_cons_zero, List.set_cons_succ]
    refine wpAnyG_one (i := 9) (by kernel_rfl) rfl (fun K hK => ?_)
    go_simp
    refine hK.out _ _ ?_ (fun hHeld => ?_)
    · exact .inr (by kernel_rfl)
    clear hK K
    try simp only [List.getElem_toArray, List.getElem_cons_succ, List.getElem_cons_zero, Act.put, List.setIfInBounds_toArray, List.set_cons_zero, List.set_cons_succ]
    refine wpAnyG_done (by kernel_rfl) ?_ _
    go_wp2_with fail
    go_ret
    exact ⟨by rw [hC.out]; rfl, ((below_drewN (Below.refl w.heap.size w) nq).drew).trans hb1⟩
  · have hC : Hid (cmpI x y = 1) := Lib.hid (by have h1 := HS.out; have h2 := HS'.out; simp at h1 h2; unfold cmpI; rw [if_neg (by omega), if_pos (by omega)])
    go_enter Tryz.func112, Tryz.ntmps112
    go_wp2_with fail
    go_quiet (fail)
    go_wp2_with fail
    go_ret
    exact ⟨by rw [hC.out]; rfl, below_drewN (Below.refl _ _) _⟩
  · have hC : Hid (cmpI x y = -1) := Lib.hid (by have h1 := HS.out; have h2 := HS'.out; simp at h1 h2; unfold cmpI; rw [if_pos (by omega)])
    go_enter Tryz.func112, Tryz.ntmps112
    go_wp2_with fail
    go_quiet (fail)
    go_wp2_with fail
    go_ret
    exact ⟨by rw [hC.out]; rfl, below_drewN (Below.refl _ _) _⟩
  · have hC : Hid (cmpI x y = -cmpN x.natAbs y.natAbs) := Lib.hid (cmpI_neg (by have := HS.out; simp at this; exact this) (by have := HS'.out; simp at this; exact this))
    go_enter Tryz.func112, Tryz.ntmps112
    go_wp2_with fail
    go_quiet (fail)
    go_wp2_with fail
    refine wp_region_G (S := (fun w' => w'.cell? ⟨b, o + 1, none⟩ = some (.slice A n c) ∧ w'.cell? ⟨b1, o1 + 1, none⟩ = some (.slice A' n' c'))) 8 (by kernel_rfl) ?_ (fun hHeld => ?_)
    · first | exact True.intro | ((try dsimp only); go_keep)
    refine wpAnyG_take (i := 0) (v := ?_) rfl (by kernel_rfl) (by kernel_rfl) (by kernel_rfl) (by kernel_rfl) 8 (by kernel_rfl) (fun _ _ _ h => h) (Or.inl ⟨by kernel_rfl, ?_⟩) (by assumption) ?_
    rotate_left 1
    · (intro w hSw; (try dsimp only at hSw); go_simp; try with_reducible rfl)
    try simp only [List.getElem_toArray, List.getElem_cons_succ, List.getElem_cons_zero, Act.put, List.setIfInBounds_toArray, List.set_cons_zero, List.set_cons_succ]
    refine wpAnyG_take (i := 1) (v := ?_) rfl (by kernel_rfl) (by kernel_rfl) (by kernel_rfl) (by kernel_rfl) 8 (by kernel_rfl) (fun _ _ _ h => h) (Or.inl ⟨by kernel_rfl, ?_⟩) (by assumption) ?_
    rotate_left 1
    · (intro w hSw; (try dsimp only at hSw); go_simp; try with_reducible rfl)
    try simp only [List.getElem_toArray, List.getElem_cons_succ, List.getElem_cons_zero, Act.put, List.setIfInBounds_toArray, List.set_cons_zero, List.set_cons_succ]
    refine wpAnyG_take (i := 2) (v := ?_) rfl (by kernel_rfl) (by kernel_rfl) (by kernel_rfl) (by kernel_rfl) 8 (by kernel_rfl) (fun _ _ _ h => h) (Or.inl ⟨by kernel_rfl, ?_⟩) (by assumption) ?_
    rotate_left 1
    · (intro w hSw; (try dsimp only at hSw); go_simp; try with_reducible rfl)
    try simp only [List.getElem_toArray, List.getElem_cons_succ, List.getElem_cons_zero, Act.put, List.setIfInBounds_toArray, List.set_cons_zero, List.set_cons_succ]
    refine wpAnyG_take (i := 3) (v := ?_) rfl (by kernel_rfl) (by kernel_rfl) (by kernel_rfl) (by kernel_rfl) 8 (by kernel_rfl) (fun _ _ _ h => h) (Or.inl ⟨by kernel_rfl, ?_⟩) (by assumption) ?_
    rotate_left 1
    · (intro w hSw; (try dsimp only at hSw); go_simp; try with_reducible rfl)
    try simp only [List.getElem_toArray, List.getElem_cons_succ, List.getElem_cons_zero, Act.put, List.setIfInBounds_toArray, List.set_cons_zero, List.set_cons_succ]
    refine wpAnyG_take (i := 4) (v := ?_) rfl (by kernel_rfl) (by kernel_rfl) (by kernel_rfl) (by kernel_rfl) 8 (by kernel_rfl) (fun _ _ _ h => h) (Or.inl ⟨by kernel_rfl, ?_⟩) (by assumption) ?_
    rotate_left 1
    · (intro w hSw; (try dsimp only at hSw); go_simp; try with_reducible rfl)
    try simp only [List.getElem_toArray, List.getElem_cons_succ, List.getElem_cons_zero, Act.put, List.setIfInBounds_toArray, List.set_cons_zero, List.set_cons_succ]
    refine wpAnyG_take (i := 5) (v := ?_) rfl (by kernel_rfl) (by kernel_rfl) (by kernel_rfl) (by kernel_rfl) 8 (by kernel_rfl) (fun _ _ _ h => h) (Or.inl ⟨by kernel_rfl, ?_⟩) (by assumption) ?_
    rotate_left 1
    · (intro w hSw; (try dsimp only at hSw); go_simp; try with_reducible rfl)
    try simp only [List.getElem_toArray, List.getElem_cons_succ, List.getElem_cons_zero, Act.put, List.setIfInBounds_toArray, List.set_cons_zero, List.set_cons_succ]
    refine wpAnyG_take (i := 6) (v := ?_) rfl (by kernel_rfl) (by kernel_rfl) (by kernel_rfl) (by kernel_rfl) 8 (by kernel_rfl) (fun _ _ _ h => h) (Or.inl ⟨by kernel_rfl, ?_⟩) (by assumption) ?_
    rotate_left 1
    · (intro w hSw; (try dsimp only at hSw); go_simp; try with_reducible rfl)
    try simp only [List.getElem_toArray, List.getElem_cons_succ, List.getElem_cons_zero, Act.put, List.setIfInBounds_toArray, List.set_cons_zero, List.set_cons_succ]
    refine wpAnyG_take (i := 7) (v := ?_) rfl (by kernel_rfl) (by kernel_rfl) (by kernel_rfl) (by kernel_rfl) 8 (by kernel_rfl) (fun _ _ _ h => h) (Or.inl ⟨by kernel_rfl, ?_⟩) (by assumption) ?_
    rotate_left 1
    · (intro w hSw; (try dsimp only at hSw); go_simp; try with_reducible rfl)
    try simp only [List.getElem_toArray, List.getElem_cons_succ, List.getElem_cons_zero, Act.put, List.setIfInBounds_toArray, List.set_cons_zero, List.set_cons_succ]
    refine wpAnyG_one (i := 8) (by kernel_rfl) rfl (fun K hK => ?_)
    go_simp
    (refine (cmp_any A A' n n' c c' x.natAbs y.natAbs _ _ (w.drewN nq).drew (HR.out.keep (w' := (w.drewN nq).drew) fun _ _ => rfl) (HR'.out.keep (w' := (w.drewN nq).drew) fun _ _ => rfl) (by have := LX.out; omega) (by have := LY.out; omega)).mono ?_; rintro e w1 ⟨rfl, hb1⟩; have k1 := bat hb1 hHeld.1; have k2 := bat hb1 hHeld.2; have k3 := bat hb1 (show (w.drewN nq).drew.cell? _ = _ from h0))
    try go_wp2_with fail
    refine hK.out _ _ ?_ (fun hHeld => ?_)
    · exact .inr (by kernel_rfl)
    clear hK K
    try simp only [List.getElem_toArray, List.getElem_cons_succ, List.getElem_cons_zero, Act.put, List.setIfInBounds_toArray, List.set_cons_zero, List.set_cons_succ]
    refine wpAnyG_one (i := 9) (by kernel_rfl) rfl (fun K hK => ?_)
    go_simp
    refine hK.out _ _ ?_ (fun hHeld => ?_)
    · exact .inr (by kernel_rfl)
    clear hK K
    try simp only [List.getElem_toArray, List.getElem_cons_succ, List.getElem_cons_zero, Act.put, List.setIfInBounds_toArray, List.set_cons_zero, List.set_cons_succ]
    refine wpAnyG_done (by kernel_rfl) ?_ _
    go_wp2_with fail
    go_ret
    exact ⟨by show Ending.returned (.int .i64 (wrap64 _)) = _; rw [neg_wrap, hC.out], ((below_drewN (Below.refl w.heap.size w) nq).drew).trans hb1⟩

end Go.Proofs.YtjokpfgncmdomaaGreatDoor
