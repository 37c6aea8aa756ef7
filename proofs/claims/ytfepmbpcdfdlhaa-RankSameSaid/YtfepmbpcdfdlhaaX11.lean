import Derived.Test.YtfepmbpcdfdlhaaX10
set_option linter.unusedSimpArgs false
set_option linter.unusedVariables false
/- ratio.Right: the walk -/
namespace Go.Proofs.Ytfepmbpcdfdlhaa
open Go.RowKit Go.Sort

theorem one_blk (w : World) (o : Obj) (v : Value) : ((w.alloc o).alloc (.cells #[v] 45)).heap[w.heap.size + 1]? = some (.cells #[v] 45 (0, 0)) := by
  have h := blk_new (w.alloc o) #[v] 45
  rwa [World.size_alloc] at h
def rightB (r : RV) : Bool := if r.num.length = 0 then !r.neg && decide (r.den = [1]) else topB r.num && topB r.den && decide (Nat.gcd (ln r.num) (ln r.den) = 1)

theorem topB_len {xs : List Nat} {n : Nat} (h : topB xs = true) (e : xs.length = n) : n ≤ 256 := by
  unfold topB at h
  simp at h
  omega
theorem topB_ne {xs : List Nat} (h : topB xs = true) (hl : Lds xs) : ln xs ≠ 0 := by
  unfold topB at h
  simp at h
  obtain ⟨⟨h1, _⟩, h2⟩ := h
  have hne : xs ≠ [] := by intro e; rw [e] at h1; simp at h1
  rw [List.getLast?_eq_getElem?] at h2
  have hk : xs.length - 1 < xs.length := by omega
  exact ln_pos (List.getElem?_eq_getElem hk) (fun e => h2 (by rw [List.getElem?_eq_getElem hk, e]))
theorem RdE.belowL2 {w w' : World} {A : Option Addr} {n : Nat} {xs : List Nat} (h : RdE Lc 1 w (fun b => b < w.heap.size) A n xs) (hb : Below w.heap.size w w') : RdE Lc 1 w' (fun b => b < w'.heap.size) A n xs := h.belowL hb

/-- the memory while Right's divisor is worked out -/
def RgMF (w0 : World) (X Y G : Int) (listed : Array Bool) (p0 g1 g2 : Nat) (w : World) : Prop :=
  Below w0.heap.size w0 w ∧ (lst listed 0 = true → w0.heap.size ≤ p0 ∧ IntAt w p0 0 (if lst listed 7 = true then G else 0)) ∧ (lst listed 3 = true → lst listed 7 = false → IntAt w g1 0 X) ∧ (lst listed 6 = true → lst listed 7 = false → IntAt w g2 0 Y)
theorem RgMF.set {w0 : World} {X Y G : Int} {listed : Array Bool} {p0 g1 g2 : Nat} {w : World} (h : RgMF w0 X Y G listed p0 g1 g2 w) {i : Nat} (h0 : i ≠ 0) (h1 : i ≠ 3) (h7 : i ≠ 6) (h8 : i ≠ 7) : RgMF w0 X Y G (listed.setIfInBounds i true) p0 g1 g2 w := by
  unfold RgMF at h ⊢
  rw [lst_ne h0, lst_ne h1, lst_ne h7, lst_ne h8]
  exact h
def RgJ (s : Bool) (A A' : Option Addr) (n n' c c' : Nat) (b0 : Nat) (w0 : World) (X Y G : Int) (listed : Array Bool) (a : Act) (w : World) : Prop := ∃ p0 g1 g2 : Nat, a = ⟨#[(.agg #[.bool s, .slice A n c, .slice A' n' c']), (.pointer (some ⟨b0, 0, none⟩)), (.bool false), ((iv (lst listed 8) (.pointer (some ⟨p0, 0, none⟩)) (undef))), (.pointer (some ⟨b0, 1, none⟩)), (.slice A n c), (.int .i64 (n : Int)), (.bool false), (undef), (undef), (undef), (undef), (undef), (undef), (undef), (undef), (undef), (.pointer (some ⟨b0, 1, none⟩)), (.slice A n c), (.bool true), (.bool false), (.bool false), (.pointer (some ⟨b0, 2, none⟩)), (.slice A' n' c'), (.bool true), (.bool false), (.bool false), ((iv (lst listed 0) (.pointer (some ⟨p0, 0, none⟩)) (undef))), ((iv (lst listed 1) (.pointer (some ⟨b0, 1, none⟩)) (undef))), ((iv (lst listed 2) (.slice A n c) (undef))), ((iv (lst listed 3) (.pointer (some ⟨g1, 0, none⟩)) (undef))), ((iv (lst listed 4) (.pointer (some ⟨b0, 2, none⟩)) (undef))), ((iv (lst listed 5) (.slice A' n' c') (undef))), ((iv (lst listed 6) (.pointer (some ⟨g2, 0, none⟩)) (undef))), ((iv (lst listed 7) (.pointer (some ⟨p0, 0, none⟩)) (undef))), (undef), (undef), (undef), (undef), (undef), (undef), (undef)], []⟩ ∧ RgMF w0 X Y G listed p0 g1 g2 w

set_option maxRecDepth 100000 in
set_option maxHeartbeats 4000000 in
theorem right_ratio (v : Value) (r : RV) (w : World) (hr : RAt w v r) (hn : r.num.length ≤ 1000000000000000) (hm : r.den.length ≤ 1000000000000000) :
    Calls Try.prog 69 #[v] w fun e w' => e = .returned (.bool (rightB r)) ∧ Below w.heap.size w w' := by
  obtain ⟨A, n, c, A', n', c', rfl, h1, h2, h3, h4⟩ := hr
  obtain ⟨s, ns, ds⟩ := r
  have en := h1.num
  have em := h2.num
  simp only at h1 h2 h3 h4 hn hm en em
  have H1 := Lib.hid h1
  have H2 := Lib.hid h2
  have H3 := Lib.hid h3
  have H4 := Lib.hid h4
  have EN := Lib.hid en
  have EM := Lib.hid em
  have hn' : n ≤ 1000000000000000 := by omega
  have hm' : n' ≤ 1000000000000000 := by omega
  clear h1 h2 h3 h4 en em hn hm
  by_cases h0 : n = 0
  · subst h0
    cases s
    · have HR := Lib.hid (show rightB ⟨false, ns, ds⟩ = decide (ds = [1]) by unfold rightB; simp [EN.out])
      go_enter Try.func69, Try.ntmps69
      go_wp2_with fail
      refine (equal_limbs A' (some ⟨w.heap.size + 1, 0, none⟩) n' 1 c' 1 ds [1] _ (fun _ => True) _ (H2.out.belowL (below2 ..)) (rde_blk (one_blk w _ _) rfl trivial rfl rfl) hm' (by omega)).mono ?_
      rintro e w1 ⟨rfl, hb1⟩
      have HB1 := Lib.hid hb1
      clear hb1
      go_wp2_with fail
      go_ret
      exact ⟨by rw [HR.out]; rfl, (below2 ..).trans (HB1.out.mono (by simp; omega))⟩
    · have HR := Lib.hid (show rightB ⟨true, ns, ds⟩ = false by unfold rightB; simp [EN.out])
      go_enter Try.func69, Try.ntmps69
      go_wp2_with fail
      go_ret
      exact ⟨by rw [HR.out]; rfl, below1 ..⟩
  · have hz : ((n : Int) == 0) = false := by simp; omega
    have HN := Lib.hid h0
    clear h0
    go_enter Try.func69, Try.ntmps69
    go_wp2_with fail
    refine (top_ratio A n c ns _ _ (H1.out.belowL (below1 ..)) hn').mono ?_
    rintro e w' ⟨rfl, rfl⟩
    cases ht : topB ns
    · have HR := Lib.hid (show rightB ⟨s, ns, ds⟩ = false by unfold rightB; rw [if_neg (by rw [EN.out]; exact HN.out)]; simp [ht])
      clear ht
      go_wp2_with fail
      go_ret
      exact ⟨by rw [HR.out]; rfl, below1 ..⟩
    · have HT := Lib.hid ht
      clear ht
      go_wp2_with fail
      refine (top_ratio A' n' c' ds _ _ (H2.out.belowL (below1 ..)) hm').mono ?_
      rintro e w' ⟨rfl, rfl⟩
      cases ht : topB ds
      · have HR := Lib.hid (show rightB ⟨s, ns, ds⟩ = false by unfold rightB; rw [if_neg (by rw [EN.out]; exact HN.out)]; simp [ht])
        clear ht
        go_wp2_with fail
        go_ret
        exact ⟨by rw [HR.out]; rfl, below1 ..⟩
      · have HT2 := Lib.hid ht
        have HR := Lib.hid (show rightB ⟨s, ns, ds⟩ = decide (Nat.gcd (ln ns) (ln ds) = 1) by unfold rightB; rw [if_neg (by rw [EN.out]; exact HN.out)]; simp [ht, HT.out])
        clear ht
        go_wp2_with fail
        obtain ⟨w0, hw0⟩ : ∃ w0, w0 = w.alloc (.cells #[.bool s, .slice A n c, .slice A' n' c'] 43) := ⟨_, rfl⟩
        have K1 := Lib.hid (show w0.cell? ⟨w.heap.size, 1, none⟩ = some (.slice A n c) by rw [hw0]; exact new_cell w _ _ 1 _ rfl)
        have K2 := Lib.hid (show w0.cell? ⟨w.heap.size, 2, none⟩ = some (.slice A' n' c') by rw [hw0]; exact new_cell w _ _ 2 _ rfl)
        have HB0 := Lib.hid (show Below w.heap.size w w0 by rw [hw0]; exact below1 ..)
        have H1' := Lib.hid (H1.out.belowL (HB0.out))
        have H2' := Lib.hid (H2.out.belowL (HB0.out))
        have n1 : n ≤ 256 := topB_len HT.out EN.out
        have n2 : n' ≤ 256 := topB_len HT2.out EM.out
        have X0 := Lib.hid (topB_ne HT.out H3.out)
        have Y0 := Lib.hid (topB_ne HT2.out H4.out)
        have XL := Lib.hid (show (dig (ln ns)).length ≤ 1000000 from Nat.le_trans (dig_ln_len H3.out) (by have := EN.out; omega))
        have YL := Lib.hid (show (dig (ln ds)).length ≤ 1000000 from Nat.le_trans (dig_ln_len H4.out) (by have := EM.out; omega))
        rw [← hw0]
        clear hw0
        go_cut [3] (fun sv wx => ∃ p0 : Nat, sv = .pointer (some ⟨p0, 0, none⟩) ∧ IntAt wx p0 0 ((Nat.gcd (ln ns) (ln ds) : Nat) : Int) ∧ Below w.heap.size w wx)
        case first =>
         refine wp_region_inv (RgJ s A A' n n' c c' w.heap.size w0 (ln ns : Int) (ln ds : Int) ((Nat.gcd (ln ns) (ln ds) : Nat) : Int)) (by kernel_rfl) ?_ ?_ ?_
         · refine ⟨0, 0, 0, rfl, (Below.refl _ _).drew, ?_, ?_, ?_⟩
           all_goals (intro h; exact absurd h (by decide))
         · intro listed a w1 hs hcl hJ i hi
           obtain ⟨p0, g1, g2, rfl, hmf⟩ := hJ
           have hlt : i < 9 := by
             obtain ⟨_, o, ho, _⟩ := mem_ready.1 hi
             exact (Array.getElem?_eq_some_iff.1 ho).1
           have HSZ : Hid (listed.size = 9) := Lib.hid hs
           refine inv_deps (J := RgJ s A A' n n' c c' w.heap.size w0 (ln ns : Int) (ln ds : Int) ((Nat.gcd (ln ns) (ln ds) : Nat) : Int)) hi fun hu hdep => ?_
           clear hs hi
           have hm2 := hmf
           unfold RgMF at hm2
           have zw := hm2.1.size
           rcases (show i = 0 ∨ i = 1 ∨ i = 2 ∨ i = 3 ∨ i = 4 ∨ i = 5 ∨ i = 6 ∨ i = 7 ∨ i = 8 by omega) with rfl | rfl | rfl | rfl | rfl | rfl | rfl | rfl | rfl
           · -- operation 0
             have nn7 : lst listed 7 = false := closed_not hcl 8 (by kernel_rfl) hu
             have nn8 : lst listed 8 = false := closed_not hcl 8 (by kernel_rfl) hu
             refine inv_op rfl (fun K hK => ?_)
             go_simp
             refine hK.out _ _ ⟨w1.heap.size, g1, g2, ?_, ?_⟩
             · skip
               try simp only [Act.put, lyD, lyE, lyF]
               rw [lst_self (show 0 < listed.size by rw [HSZ.out]; decide)]
               simp only [lst_ne (show 0 ≠ 1 by decide), lst_ne (show 0 ≠ 2 by decide), lst_ne (show 0 ≠ 3 by decide), lst_ne (show 0 ≠ 4 by decide), lst_ne (show 0 ≠ 5 by decide), lst_ne (show 0 ≠ 6 by decide), lst_ne (show 0 ≠ 7 by decide), lst_ne (show 0 ≠ 8 by decide), iv_true, nn7, nn8, iv_false]
             · unfold RgMF
               rw [lst_ne (show 0 ≠ 3 by decide), lst_ne (show 0 ≠ 6 by decide), lst_ne (show 0 ≠ 7 by decide)]
               refine ⟨hm2.1.alloc zw _, fun _ => ?_, fun h h' => (hm2.2.2.1 h h').below (below1 w1 _), fun h h' => (hm2.2.2.2 h h').below (below1 w1 _)⟩
               rw [nn7]
               exact ⟨zw, new_intAt w1⟩
           · -- operation 1
             refine inv_op rfl (fun K hK => ?_)
             go_simp
             refine hK.out _ _ ⟨p0, g1, g2, ?_, hmf.set (by decide) (by decide) (by decide) (by decide)⟩
             · skip
               try simp only [Act.put, lyD, lyE, lyF]
               rw [lst_self (show 1 < listed.size by rw [HSZ.out]; decide)]
               simp only [lst_ne (show 1 ≠ 0 by decide), lst_ne (show 1 ≠ 2 by decide), lst_ne (show 1 ≠ 3 by decide), lst_ne (show 1 ≠ 4 by decide), lst_ne (show 1 ≠ 5 by decide), lst_ne (show 1 ≠ 6 by decide), lst_ne (show 1 ≠ 7 by decide), lst_ne (show 1 ≠ 8 by decide), iv_true]
           · -- operation 2
             have d1 : lst listed 1 = true := hdep 1 (by kernel_rfl)
             have kc := bat hm2.1 K1.out
             refine inv_op rfl (fun K hK => ?_)
             simp only [d1, iv_true]
             go_simp
             refine hK.out _ _ ⟨p0, g1, g2, ?_, hmf.set (by decide) (by decide) (by decide) (by decide)⟩
             · skip
               try simp only [Act.put, lyD, lyE, lyF]
               rw [lst_self (show 2 < listed.size by rw [HSZ.out]; decide)]
               simp only [lst_ne (show 2 ≠ 0 by decide), lst_ne (show 2 ≠ 1 by decide), lst_ne (show 2 ≠ 3 by decide), lst_ne (show 2 ≠ 4 by decide), lst_ne (show 2 ≠ 5 by decide), lst_ne (show 2 ≠ 6 by decide), lst_ne (show 2 ≠ 7 by decide), lst_ne (show 2 ≠ 8 by decide), iv_true, d1]
           · -- operation 3
             have d2 : lst listed 2 = true := hdep 2 (by kernel_rfl)
             have nn7 : lst listed 7 = false := closed_not hcl 8 (by kernel_rfl) hu
             have nn6 : lst listed 6 = false := closed_not hcl 8 (by kernel_rfl) hu
             refine inv_op rfl (fun K hK => ?_)
             simp only [d2, iv_true]
             go_simp
             refine (whole_ratio A n c ns w1 (H1'.out.belowL2 hm2.1) H3.out (by omega)).mono ?_
             rintro e w2 ⟨gg, rfl, hg, hg', hi2, hb2⟩
             try go_wp2_with fail
             refine hK.out _ _ ⟨p0, gg, g2, ?_, ?_⟩
             · skip
               try simp only [Act.put, lyD, lyE, lyF]
               rw [lst_self (show 3 < listed.size by rw [HSZ.out]; decide)]
               simp only [lst_ne (show 3 ≠ 0 by decide), lst_ne (show 3 ≠ 1 by decide), lst_ne (show 3 ≠ 2 by decide), lst_ne (show 3 ≠ 4 by decide), lst_ne (show 3 ≠ 5 by decide), lst_ne (show 3 ≠ 6 by decide), lst_ne (show 3 ≠ 7 by decide), lst_ne (show 3 ≠ 8 by decide), iv_true, d2, nn6, nn7, iv_false]
             · unfold RgMF
               rw [lst_ne (show 3 ≠ 0 by decide), lst_ne (show 3 ≠ 7 by decide), lst_ne (show 3 ≠ 6 by decide)]
               refine ⟨hm2.1.trans (hb2.mono zw), fun h => ⟨(hm2.2.1 h).1, (hm2.2.1 h).2.below hb2⟩, ?_, ?_⟩
               · exact fun _ _ => hi2
               · exact fun h h' => (hm2.2.2.2 h h').below hb2
           · -- operation 4
             refine inv_op rfl (fun K hK => ?_)
             go_simp
             refine hK.out _ _ ⟨p0, g1, g2, ?_, hmf.set (by decide) (by decide) (by decide) (by decide)⟩
             · skip
               try simp only [Act.put, lyD, lyE, lyF]
               rw [lst_self (show 4 < listed.size by rw [HSZ.out]; decide)]
               simp only [lst_ne (show 4 ≠ 0 by decide), lst_ne (show 4 ≠ 1 by decide), lst_ne (show 4 ≠ 2 by decide), lst_ne (show 4 ≠ 3 by decide), lst_ne (show 4 ≠ 5 by decide), lst_ne (show 4 ≠ 6 by decide), lst_ne (show 4 ≠ 7 by decide), lst_ne (show 4 ≠ 8 by decide), iv_true]
           · -- operation 5
             have d4 : lst listed 4 = true := hdep 4 (by kernel_rfl)
             have kc := bat hm2.1 K2.out
             refine inv_op rfl (fun K hK => ?_)
             simp only [d4, iv_true]
             go_simp
             refine hK.out _ _ ⟨p0, g1, g2, ?_, hmf.set (by decide) (by decide) (by decide) (by decide)⟩
             · skip
               try simp only [Act.put, lyD, lyE, lyF]
               rw [lst_self (show 5 < listed.size by rw [HSZ.out]; decide)]
               simp only [lst_ne (show 5 ≠ 0 by decide), lst_ne (show 5 ≠ 1 by decide), lst_ne (show 5 ≠ 2 by decide), lst_ne (show 5 ≠ 3 by decide), lst_ne (show 5 ≠ 4 by decide), lst_ne (show 5 ≠ 6 by decide), lst_ne (show 5 ≠ 7 by decide), lst_ne (show 5 ≠ 8 by decide), iv_true, d4]
           · -- operation 6
             have d5 : lst listed 5 = true := hdep 5 (by kernel_rfl)
             have d3 : lst listed 3 = true := hdep 3 (by kernel_rfl)
             have nn7 : lst listed 7 = false := closed_not hcl 8 (by kernel_rfl) hu
             refine inv_op rfl (fun K hK => ?_)
             simp only [d5, d3, iv_true]
             go_simp
             refine (whole_ratio A' n' c' ds w1 (H2'.out.belowL2 hm2.1) H4.out (by omega)).mono ?_
             rintro e w2 ⟨gg, rfl, hg, hg', hi2, hb2⟩
             try go_wp2_with fail
             refine hK.out _ _ ⟨p0, g1, gg, ?_, ?_⟩
             · skip
               try simp only [Act.put, lyD, lyE, lyF]
               rw [lst_self (show 6 < listed.size by rw [HSZ.out]; decide)]
               simp only [lst_ne (show 6 ≠ 0 by decide), lst_ne (show 6 ≠ 1 by decide), lst_ne (show 6 ≠ 2 by decide), lst_ne (show 6 ≠ 3 by decide), lst_ne (show 6 ≠ 4 by decide), lst_ne (show 6 ≠ 5 by decide), lst_ne (show 6 ≠ 7 by decide), lst_ne (show 6 ≠ 8 by decide), iv_true, d5, d3, nn7, iv_false]
             · unfold RgMF
               rw [lst_ne (show 6 ≠ 0 by decide), lst_ne (show 6 ≠ 7 by decide), lst_ne (show 6 ≠ 3 by decide)]
               refine ⟨hm2.1.trans (hb2.mono zw), fun h => ⟨(hm2.2.1 h).1, (hm2.2.1 h).2.below hb2⟩, ?_, ?_⟩
               · exact fun h h' => (hm2.2.2.1 h h').below hb2
               · exact fun _ _ => hi2
           · -- operation 7
             have d0 : lst listed 0 = true := hdep 0 (by kernel_rfl)
             have d3 : lst listed 3 = true := hdep 3 (by kernel_rfl)
             have d6 : lst listed 6 = true := hdep 6 (by kernel_rfl)
             refine inv_op rfl (fun K hK => ?_)
             simp only [d0, d3, d6, iv_true]
             go_simp
             have nI : lst listed 7 = false := hu
             have hme := hm2.2.1 d0
             have h1 := hm2.2.2.1 d3 nI
             have h2 := hm2.2.2.2 d6 nI
             rw [nI] at hme
             refine (gcd_int p0 0 g1 0 g2 0 0 (ln ns) (ln ds) w1 hme.2 h1 h2 X0.out Y0.out XL.out YL.out).mono ?_
             rintro e w2 ⟨rfl, hi2, hu2⟩
             try go_wp2_with fail
             refine hK.out _ _ ⟨p0, g1, g2, ?_, ?_⟩
             · skip
               try simp only [Act.put, lyD, lyE, lyF]
               rw [lst_self (show 7 < listed.size by rw [HSZ.out]; decide)]
               simp only [lst_ne (show 7 ≠ 0 by decide), lst_ne (show 7 ≠ 1 by decide), lst_ne (show 7 ≠ 2 by decide), lst_ne (show 7 ≠ 3 by decide), lst_ne (show 7 ≠ 4 by decide), lst_ne (show 7 ≠ 5 by decide), lst_ne (show 7 ≠ 6 by decide), lst_ne (show 7 ≠ 8 by decide), iv_true, d0, d3, d6]
             · unfold RgMF
               rw [lst_ne (show 7 ≠ 0 by decide), lst_ne (show 7 ≠ 3 by decide), lst_ne (show 7 ≠ 6 by decide), lst_self (show 7 < listed.size by rw [HSZ.out]; decide)]
               exact ⟨hm2.1.trans (hu2.toB.below hme.1 zw), fun _ => ⟨hme.1, hi2⟩, fun _ h => absurd h (by decide), fun _ h => absurd h (by decide)⟩
           · -- operation 8
             have d7 : lst listed 7 = true := hdep 7 (by kernel_rfl)
             refine inv_op rfl (fun K hK => ?_)
             simp only [d7, iv_true]
             go_simp
             refine hK.out _ _ ⟨p0, g1, g2, ?_, hmf.set (by decide) (by decide) (by decide) (by decide)⟩
             · skip
               try simp only [Act.put, lyD, lyE, lyF]
               rw [lst_self (show 8 < listed.size by rw [HSZ.out]; decide)]
               simp only [lst_ne (show 8 ≠ 0 by decide), lst_ne (show 8 ≠ 1 by decide), lst_ne (show 8 ≠ 2 by decide), lst_ne (show 8 ≠ 3 by decide), lst_ne (show 8 ≠ 4 by decide), lst_ne (show 8 ≠ 5 by decide), lst_ne (show 8 ≠ 6 by decide), lst_ne (show 8 ≠ 7 by decide), iv_true, d7]
         · intro listed a w1 hs hr hJ
           obtain ⟨p0, g1, g2, rfl, hmf⟩ := hJ
           have hall := all_listed hs hr (by kernel_rfl)
           have h0 := hmf.2.1 (hall 0 (by decide))
           rw [show lst listed 7 = true from hall 7 (by decide)] at h0
           have HM := Lib.hid h0
           have HB := Lib.hid hmf.1
           simp only [(show lst listed 0 = true from hall 0 (by decide)), (show lst listed 1 = true from hall 1 (by decide)), (show lst listed 2 = true from hall 2 (by decide)), (show lst listed 3 = true from hall 3 (by decide)), (show lst listed 4 = true from hall 4 (by decide)), (show lst listed 5 = true from hall 5 (by decide)), (show lst listed 6 = true from hall 6 (by decide)), (show lst listed 7 = true from hall 7 (by decide)), (show lst listed 8 = true from hall 8 (by decide)), iv_true]
           clear hmf hall h0 hs hr
           go_wp2_with fail
           go_meet
           exact ⟨p0, rfl, HM.out.2, HB0.out.trans (HB.out.mono HB0.out.size)⟩
        case rest =>
          obtain ⟨p0, rfl, hi, hb⟩ := hcut
          obtain ⟨G, hG⟩ : ∃ G, G = Nat.gcd (ln ns) (ln ds) := ⟨_, rfl⟩
          rw [← hG] at hi
          have HR2 := Lib.hid (show rightB ⟨s, ns, ds⟩ = decide (G = 1) by rw [HR.out, hG])
          have HI := Lib.hid hi
          have HB := Lib.hid hb
          have GL := Lib.hid (show (dig G).length ≤ 10000000 by
            rw [hG]
            exact Nat.le_trans (dig_len_mono (Nat.le_of_dvd (Nat.pos_of_ne_zero X0.out) (Nat.gcd_dvd_left _ _))) (by have := XL.out; omega))
          clear hG hi hb
          go_wp2_with fail
          refine (isU_int p0 0 (G : Int) _ HI.out (by rw [Int.natAbs_natCast]; exact GL.out) (by omega)).mono ?_
          rintro e w' ⟨rfl, rfl⟩
          rw [Int.natAbs_natCast]
          by_cases hU : blen G ≤ 64
          · have hlt : G < 18446744073709551616 := Nat.lt_of_lt_of_le blen_lt (Nat.pow_le_pow_right (by decide) hU)
            have HL := Lib.hid hlt
            rw [decide_eq_true hU]
            clear hU hlt
            go_wp2_with fail
            refine (uint64_int p0 0 (G : Int) _ HI.out).mono ?_
            rintro e w' ⟨rfl, rfl⟩
            rw [Int.natAbs_natCast, Nat.mod_eq_of_lt HL.out]
            go_wp2_with fail
            go_ret
            refine ⟨?_, HB.out⟩
            rw [HR2.out]
            by_cases h : G = 1 <;> simp [h]
            all_goals (try omega)
          · have hne : G ≠ 1 := by
              rintro rfl
              exact hU (by decide)
            have HL := Lib.hid hne
            rw [decide_eq_false hU]
            clear hU hne
            go_wp2_with fail
            go_ret
            refine ⟨?_, HB.out⟩
            rw [HR2.out, decide_eq_false HL.out]
            rfl

end Go.Proofs.Ytfepmbpcdfdlhaa

/- ratio.Norm, both: the walks -/
namespace Go.Proofs.Ytfepmbpcdfdlhaa
open Go.RowKit Go.Sort

theorem right_len {r : RV} (h : rightB r = true) : r.num.length ≤ 256 ∧ r.den.length ≤ 256 := by
  unfold rightB at h
  split at h
  · rename_i h0
    simp at h
    rw [h0, h.2]
    decide
  · simp at h
    exact ⟨topB_len h.1.1 rfl, topB_len h.1.2 rfl⟩
theorem RAt.ldsN {w : World} {v : Value} {r : RV} (h : RAt w v r) : Lds r.num := by obtain ⟨_, _, _, _, _, _, _, _, _, h, _⟩ := h; exact h
theorem RAt.ldsD {w : World} {v : Value} {r : RV} (h : RAt w v r) : Lds r.den := by obtain ⟨_, _, _, _, _, _, _, _, _, _, h⟩ := h; exact h
theorem pair_cells (w : World) (s s2 : Bool) (A A' A2 A2' : Option Addr) (n n' n2 n2' c c' c2 c2' : Nat) :
    let w0 := ((w.alloc (.cells #[.bool s, .slice A n c, .slice A' n' c'] 43)).alloc (.cells #[.bool s2, .slice A2 n2 c2, .slice A2' n2' c2'] 43))
    w0.cell? ⟨w.heap.size, 0, none⟩ = some (.bool s) ∧ w0.cell? ⟨w.heap.size, 1, none⟩ = some (.slice A n c) ∧ w0.cell? ⟨w.heap.size, 2, none⟩ = some (.slice A' n' c') ∧ w0.cell? ⟨w.heap.size + 1, 0, none⟩ = some (.bool s2) ∧ w0.cell? ⟨w.heap.size + 1, 1, none⟩ = some (.slice A2 n2 c2) ∧ w0.cell? ⟨w.heap.size + 1, 2, none⟩ = some (.slice A2' n2' c2') := by
  intro w0
  have h : ∀ i v, (#[Value.bool s2, .slice A2 n2 c2, .slice A2' n2' c2'] : Array Value)[i]? = some v → w0.cell? ⟨w.heap.size + 1, i, none⟩ = some v := fun i v hv => by
    have := new_cell (w.alloc (.cells #[.bool s, .slice A n c, .slice A' n' c'] 43)) #[Value.bool s2, .slice A2 n2 c2, .slice A2' n2' c2'] 43 i v hv
    rwa [World.size_alloc] at this
  exact ⟨bat (below1 ..) (new_cell w _ _ 0 _ rfl), bat (below1 ..) (new_cell w _ _ 1 _ rfl), bat (below1 ..) (new_cell w _ _ 2 _ rfl), h 0 _ rfl, h 1 _ rfl, h 2 _ rfl⟩

end Go.Proofs.Ytfepmbpcdfdlhaa

/- ratio.Norm, Int: the walks -/
namespace Go.Proofs.Ytfepmbpcdfdlhaa
open Go.RowKit Go.Sort

def NormPost (r : RV) (w : World) (e : Ending) (w' : World) : Prop :=
  if ln r.den = 0 then ∃ v, e = .returned (.tuple #[v, .int .i64 7]) ∧ RAt w' v noR ∧ Below w.heap.size w w' else Told w r.q e w'

theorem norm_sizes {r : RV} (hd : ln r.den ≠ 0) : r.q.num.natAbs ≤ ln r.num ∧ r.q.den ≤ ln r.den := by
  have h1 := rn_num (a := r.top) (b := (ln r.den : Int)) (by omega)
  have h2 := (rn_pos (a := r.top) (b := (ln r.den : Int)) (by omega)).2
  unfold RV.q
  rw [h1.1, h2, Int.natAbs_natCast, top_abs]
  exact ⟨Nat.div_le_self _ _, Nat.div_le_self _ _⟩

set_option maxRecDepth 100000 in
set_option maxHeartbeats 4000000 in
theorem norm_ratio (v : Value) (r : RV) (w : World) (hr : RAt w v r) (l1 : r.num.length ≤ 20000) (l2 : r.den.length ≤ 20000) :
    Calls Try.prog 62 #[v] w (NormPost r w) := by
  have HR := Lib.hid hr
  obtain ⟨A, n, c, A', n', c', rfl, h1, h2, h3, h4⟩ := hr
  have H2 := Lib.hid h2
  have hn := h2.num
  have hn' : n' ≤ 20000 := by omega
  clear h1 h2 h3 h4 hn
  go_enter Try.func62, Try.ntmps62
  go_wp2_with fail
  refine (nought_ratio A' n' c' r.den _ _ (H2.out.belowL (below2 ..)) (by omega)).mono ?_
  rintro e w' ⟨rfl, rfl⟩
  by_cases h0 : ln r.den = 0
  · have H0 := Lib.hid h0
    rw [decide_eq_true h0]
    clear h0
    go_wp2_with fail
    (try simp only [Exit.inBlock, Exit.then])
    refine bodyPost_ret (v := .tuple #[.agg #[.bool false, .slice none 0 0, .slice none 0 0], .int .i64 7]) (by simp [results, Try.results62, go_sem]; done) rfl ?_
    unfold NormPost
    rw [if_pos H0.out]
    exact ⟨_, rfl, noR_at _ _ _, below2 ..⟩
  · have H0 := Lib.hid h0
    rw [decide_eq_false h0]
    clear h0
    go_wp2_with fail
    refine (fraction_ratio _ r _ (HR.out.below (below2 ..)) H0.out l1 l2).mono ?_
    rintro e w1 ⟨g, rfl, hg, hr1, hb1⟩
    have HR1 := Lib.hid hr1
    have HB1 := Lib.hid hb1
    clear hr1 hb1
    go_wp2_with fail
    refine (told_ratio g r.q w1 HR1.out (Nat.le_trans (dig_len_mono (norm_sizes H0.out).1) (Nat.le_trans (dig_ln_len HR.out.ldsN) (by omega))) (Nat.le_trans (dig_len_mono (norm_sizes H0.out).2) (Nat.le_trans (dig_ln_len HR.out.ldsD) (by omega)))).mono ?_
    rintro e w2 ⟨v2, rfl, hv2, hb2⟩
    have HV2 := Lib.hid hv2
    obtain ⟨B, m, d, B', m', d', rfl, hh⟩ := hv2
    clear hh
    have hbx := HB1.out.trans (hb2.mono HB1.out.size)
    have hblk : w2.heap[w.heap.size + 1]? = some (.cells #[.bool false, .slice none 0 0, .slice none 0 0] 43 (0, 0)) := by
      rw [hbx.block (w.heap.size + 1) (by simp)]
      have h := blk_new (w.alloc (.cells #[.bool r.neg, .slice A n c, .slice A' n' c'] 43)) #[.bool false, .slice none 0 0, .slice none 0 0] 43
      rwa [World.size_alloc] at h
    obtain ⟨kc, kf⟩ := blk_cells hblk
    have kc0 := kc 0
    have kc1 := kc 1
    have kc2 := kc 2
    have kf0 := kf 0
    have kf1 := kf 1
    have kf2 := kf 2
    simp only [List.getElem?_toArray, List.getElem?_cons_zero, List.getElem?_cons_succ] at kc0 kc1 kc2
    have HBX := Lib.hid hbx
    have zx : w.heap.size + 2 ≤ w2.heap.size := by have := hbx.size; simp at this; omega
    obtain ⟨tn, htn⟩ : ∃ tn, tn = (toldR r.q).neg := ⟨_, rfl⟩
    obtain ⟨te, hte⟩ : ∃ te, te = toldE r.q := ⟨_, rfl⟩
    rw [← htn] at HV2 ⊢
    rw [← hte]
    have HTE := Lib.hid hte
    obtain ⟨w6, hw6⟩ : ∃ w6, w6 = ((w2.setCell ⟨w.heap.size + 1, 0, none⟩ (.bool tn)).setCell ⟨w.heap.size + 1, 1, none⟩ (.slice B m d)).setCell ⟨w.heap.size + 1, 2, none⟩ (.slice B' m' d') := ⟨_, rfl⟩
    obtain ⟨hu6, q0, q1, q2⟩ := rat_set kc0 kc1 kc2 _ _ _ _ _ _ _ _ hw6
    have HW6 := Lib.hid hw6
    have HU6 := Lib.hid hu6
    have Q0 := Lib.hid q0
    have Q1 := Lib.hid q1
    have Q2 := Lib.hid q2
    clear kc kf hblk hbx hb2 hw6 hu6 q0 q1 q2 htn hte
    go_wp2_with fail
    rw [← HW6.out]
    have q0 := Q0.out
    have q1 := Q1.out
    have q2 := Q2.out
    (try simp only [Exit.inBlock, Exit.then])
    refine bodyPost_ret (v := .tuple #[.agg #[.bool tn, .slice B m d, .slice B' m' d'], .int .i64 te]) (by simp [results, Try.results62, go_sem, q0, q1, q2]; done) rfl ?_
    unfold NormPost
    rw [if_neg H0.out]
    exact ⟨_, by rw [HTE.out], HV2.out.upb HU6.out, (below2 ..).trans ((HBX.out.mono (by simp; omega)).trans (HU6.out.below (by omega) (by omega)))⟩

end Go.Proofs.Ytfepmbpcdfdlhaa

/- the numbers of Add, Sub, Mul, Div: plain -/
namespace Go.Proofs.Ytfepmbpcdfdlhaa
open Go.RowKit Go.Sort

theorem dsz {N D : Int} (hD : D ≠ 0) : (Rat.divInt N D).num.natAbs ≤ N.natAbs ∧ (Rat.divInt N D).den ≤ D.natAbs := by
  by_cases h : 0 < D
  · have h1 := rn_num (a := N) (b := D) h
    have h2 := (rn_pos (a := N) (b := D) h).2
    rw [h1.1, h2]
    exact ⟨Nat.div_le_self _ _, Nat.div_le_self _ _⟩
  · have h1 := rn_num (a := -N) (b := -D) (by omega)
    have h2 := (rn_pos (a := -N) (b := -D) (by omega)).2
    rw [rn_neg] at h1 h2
    rw [h1.1, h2, Int.natAbs_neg, Int.natAbs_neg]
    exact ⟨Nat.div_le_self _ _, Nat.div_le_self _ _⟩
/-- the parts of a number have at most k words -/
def Sz (k : Nat) (q : Rat) : Prop := (dig q.num.natAbs).length ≤ k ∧ (dig q.den).length ≤ k
end Go.Proofs.Ytfepmbpcdfdlhaa

/- Int.Cmp; ratio.Sign, Int: the walks -/
namespace Go.Proofs.Ytfepmbpcdfdlhaa
open Go.RowKit Go.Sort
end Go.Proofs.Ytfepmbpcdfdlhaa

/- ratio.Sign, Int: the walks -/
namespace Go.Proofs.Ytfepmbpcdfdlhaa
open Go.RowKit Go.Sort
theorem told_to {w w' : World} {q : Rat} {e : Ending} (h : Told w q e w') (hf : fits q) : ∃ v, e = .returned (.tuple #[v, .int .i64 0]) ∧ RAt w' v (rv q) ∧ Below w.heap.size w w' := by
  obtain ⟨v, h1, h2, h3⟩ := h
  rw [toldE, if_pos hf] at h1
  rw [toldR, if_pos hf] at h2
  exact ⟨v, h1, h2, h3⟩
theorem fits_int {x : Int} (hx : -9223372036854775808 ≤ x) (hx2 : x ≤ 9223372036854775807) : fits (Rat.divInt x 1) := by
  have h1 := rn_pos (a := x) (b := 1) (by decide)
  have e1 : (Rat.divInt x 1).num = x := by rw [h1.1]; simp
  have e2 : (Rat.divInt x 1).den = 1 := by rw [h1.2]; simp
  unfold fits
  rw [e1, e2]
  exact ⟨Nat.le_trans (lim_len_le (k := 1) (by show _ < 18446744073709551616 ^ 1; omega)) (by decide), by decide⟩
theorem sz_int {x : Int} (hx : -9223372036854775808 ≤ x) (hx2 : x ≤ 9223372036854775807) : Sz 2 (Rat.divInt x 1) := by
  have h1 := rn_pos (a := x) (b := 1) (by decide)
  have e1 : (Rat.divInt x 1).num = x := by rw [h1.1]; simp
  have e2 : (Rat.divInt x 1).den = 1 := by rw [h1.2]; simp
  unfold Sz
  rw [e1, e2]
  exact ⟨dig_len_small (by omega), by decide⟩

set_option maxRecDepth 100000 in
set_option maxHeartbeats 4000000 in
theorem int_ratio (x : Int) (w : World) (hx : -9223372036854775808 ≤ x) (hx2 : x ≤ 9223372036854775807) :
    Calls Try.prog 24 #[.int .i64 x] w fun e w' => ∃ v, e = .returned v ∧ RAt w' v (rv (Rat.divInt x 1)) ∧ Below w.heap.size w w' := by
  have HF := Lib.hid (fits_int hx hx2)
  have HS := Lib.hid (sz_int hx hx2)
  go_enter Try.func24, Try.ntmps24
  go_wp2_with fail
  refine (setI_rat (w.heap.size + 1) x _ (by have h := new_rat (w.alloc (.cells #[.bool false, .slice none 0 0, .slice none 0 0] 43)); rwa [World.size_alloc] at h) hx hx2).mono ?_
  rintro e w1 ⟨rfl, hr1, hu1⟩
  have hblk : w1.heap[w.heap.size]? = some (.cells #[.bool false, .slice none 0 0, .slice none 0 0] 43 (0, 0)) := by
    rw [hu1.blk w.heap.size (by simp; omega) (by omega)]
    exact ((below1 (w.alloc (.cells #[.bool false, .slice none 0 0, .slice none 0 0] 43)) newR).block w.heap.size (by simp)).trans (blk_new w _ _)
  have HR1 := Lib.hid hr1
  have HB1 := Lib.hid ((below1 w (.cells #[.bool false, .slice none 0 0, .slice none 0 0] 43)).trans (((below1 (w.alloc (.cells #[.bool false, .slice none 0 0, .slice none 0 0] 43)) newR).mono (by simp)).trans (hu1.below (by omega) (by simp; omega))))
  have z1 : w.heap.size + 1 ≤ w1.heap.size := by have := hu1.size; simp at this; omega
  clear hr1 hu1
  go_wp2_with fail
  refine (told_ratio _ (Rat.divInt x 1) w1 HR1.out (Nat.le_trans HS.out.1 (by omega)) (Nat.le_trans HS.out.2 (by omega))).mono ?_
  rintro e w2 ht
  obtain ⟨v, rfl, hv2, hb2⟩ := told_to ht HF.out
  have HV2 := Lib.hid hv2
  have hblk2 := (hb2.block w.heap.size (by omega)).trans hblk
  have HB2 := Lib.hid (HB1.out.trans (hb2.mono HB1.out.size))
  have z2 : w.heap.size + 1 ≤ w2.heap.size := by have := hb2.size; omega
  obtain ⟨s, B, m, d, B', m', d', rfl⟩ : ∃ s A n c A' n' c', v = .agg #[.bool s, .slice A n c, .slice A' n' c'] := by obtain ⟨A, n, c, A', n', c', h, _⟩ := hv2; exact ⟨_, _, _, _, _, _, _, h⟩
  have hblk3 := ((below1 w2 (.cells #[.bool s, .slice B m d, .slice B' m' d'] 43)).block w.heap.size (by omega)).trans hblk2
  obtain ⟨kc, kf⟩ := blk_cells hblk3
  have kc0 := kc 0
  have kc1 := kc 1
  have kc2 := kc 2
  have kf0 := kf 0
  have kf1 := kf 1
  have kf2 := kf 2
  simp only [List.getElem?_toArray, List.getElem?_cons_zero, List.getElem?_cons_succ] at kc0 kc1 kc2
  clear hv2 hb2 ht hblk hblk2 hblk3 kc kf
  obtain ⟨w3, hw3⟩ : ∃ w3, w3 = w2.alloc (.cells #[.bool s, .slice B m d, .slice B' m' d'] 43) := ⟨_, rfl⟩
  have HW3 := Lib.hid hw3
  have HB3 := Lib.hid (show Below w2.heap.size w2 w3 by rw [hw3]; exact below1 ..)
  clear hw3
  go_wp2_with fail
  rw [← HW3.out] at kc0 kc1 kc2 ⊢
  obtain ⟨w6, hw6⟩ : ∃ w6, w6 = ((w3.setCell ⟨w.heap.size, 0, none⟩ (.bool s)).setCell ⟨w.heap.size, 1, none⟩ (.slice B m d)).setCell ⟨w.heap.size, 2, none⟩ (.slice B' m' d') := ⟨_, rfl⟩
  obtain ⟨hu6, q0, q1, q2⟩ := rat_set kc0 kc1 kc2 _ _ _ _ _ _ _ _ hw6
  rw [← hw6]
  (try simp only [Exit.inBlock, Exit.then])
  refine bodyPost_ret (v := .agg #[.bool s, .slice B m d, .slice B' m' d']) (by simp [results, Try.results24, go_sem, q0, q1, q2]; done) rfl ?_
  have z3 := HB3.out.size
  exact ⟨_, rfl, (HV2.out.below HB3.out).upb hu6, (HB2.out.trans (HB3.out.mono HB2.out.size)).trans (hu6.below (by omega) (by omega))⟩

end Go.Proofs.Ytfepmbpcdfdlhaa

/- ratio.Add, Sub, Mul, Div: the walks (printed by gen_t11.py) -/
namespace Go.Proofs.Ytfepmbpcdfdlhaa
open Go.RowKit Go.Sort
end Go.Proofs.Ytfepmbpcdfdlhaa

/- right ratios are those of their numbers: plain; Add, Sub, Mul, Div of right ratios -/
namespace Go.Proofs.Ytfepmbpcdfdlhaa
open Go.RowKit Go.Sort

theorem topB_isLim {xs : List Nat} (h : topB xs = true) (hl : Lds xs) : isLim xs := by
  refine ⟨hl, fun hne e => ?_⟩
  unfold topB at h
  simp only [Bool.and_eq_true, decide_eq_true_eq] at h
  exact h.2 (by rw [List.getLast?_eq_some_getLast hne, e])
theorem right_canon {r : RV} (h : rightB r = true) (hn : Lds r.num) (hd : Lds r.den) : r = rv r.q ∧ fits r.q := by
  have hl := right_len h
  obtain ⟨s, ns, ds⟩ := r
  simp only at hn hd hl
  by_cases h0 : ns.length = 0
  · obtain rfl : ns = [] := List.eq_nil_of_length_eq_zero h0
    unfold rightB at h
    simp at h
    obtain ⟨rfl, rfl⟩ := h
    have e : RV.q ⟨false, [], [1]⟩ = 0 := by
      unfold RV.q RV.top
      show Rat.divInt ((0 : Nat) : Int) _ = 0
      exact Rat.zero_divInt _
    rw [e]
    exact ⟨by decide, by decide⟩
  · unfold rightB at h
    simp only at h
    rw [if_neg h0] at h
    simp only [Bool.and_eq_true, decide_eq_true_eq] at h
    obtain ⟨⟨h1, h2⟩, h3⟩ := h
    have l1 := topB_isLim h1 hn
    have l2 := topB_isLim h2 hd
    have n0 : ln ns ≠ 0 := fun e => h0 (by rw [isLim_zero l1 e]; rfl)
    have d0 := topB_ne h2 hd
    have hp := rn_pos (a := RV.top ⟨s, ns, ds⟩) (b := ((ln ds : Nat) : Int)) (by omega)
    have ht : (RV.top ⟨s, ns, ds⟩).natAbs = ln ns := top_abs _
    rw [ht, Int.natAbs_natCast, h3] at hp
    have e1 : (RV.q ⟨s, ns, ds⟩).num = RV.top ⟨s, ns, ds⟩ := by unfold RV.q; rw [hp.1]; simp
    have e2 : (RV.q ⟨s, ns, ds⟩).den = ln ds := by unfold RV.q; rw [hp.2]; simp
    have e3 : decide (RV.top ⟨s, ns, ds⟩ < 0) = s := by
      unfold RV.top
      cases s
      · simp
      · simp; omega
    refine ⟨?_, ?_⟩
    · unfold rv
      rw [e1, e2, e3, ht, ← lim_unique l1, ← lim_unique l2]
    · unfold fits
      rw [e1, e2, ht, ← lim_unique l1, ← lim_unique l2]
      exact hl
theorem rv_inj {x y : Rat} (h : rv x = rv y) : x = y := by rw [← rv_q x, h, rv_q]
/-- a right ratio of that number -/
def At (w : World) (v : Value) (q : Rat) : Prop := RAt w v (rv q) ∧ fits q
theorem At.below {w w' : World} {v : Value} {q : Rat} (h : At w v q) (hb : Below w.heap.size w w') : At w' v q := ⟨h.1.below hb, h.2⟩
theorem told_at {w w' : World} {q : Rat} {e : Ending} (h : Told w q e w') (hf : fits q) : ∃ v, e = .returned (.tuple #[v, .int .i64 0]) ∧ At w' v q ∧ Below w.heap.size w w' := by
  obtain ⟨v, h1, h2, h3⟩ := h
  rw [toldE, if_pos hf] at h1
  rw [toldR, if_pos hf] at h2
  exact ⟨v, h1, ⟨h2, hf⟩, h3⟩
end Go.Proofs.Ytfepmbpcdfdlhaa

/- ratio.Cmp, girderkit.SameRatio: the walks -/
namespace Go.Proofs.Ytfepmbpcdfdlhaa
open Go.RowKit Go.Sort

set_option maxRecDepth 100000 in
set_option maxHeartbeats 4000000 in
theorem same_ratio (va vb : Value) (a b : RV) (w : World) (ha : RAt w va a) (hb : RAt w vb b) (l1 : a.num.length ≤ 1000000000000000) (l2 : a.den.length ≤ 1000000000000000) (l3 : b.num.length ≤ 1000000000000000) (l4 : b.den.length ≤ 1000000000000000) :
    Calls Try.prog 16 #[va, vb] w fun e w' => e = .returned (.bool (decide (a = b))) ∧ Below w.heap.size w w' := by
  obtain ⟨s, xs, ys⟩ := a
  obtain ⟨s2, zs, ts⟩ := b
  obtain ⟨A, n, c, A', n', c', rfl, hx, hy, _, _⟩ := ha
  obtain ⟨A2, n2, c2, A2', n2', c2', rfl, hz, ht, _, _⟩ := hb
  simp only at hx hy hz ht l1 l2 l3 l4
  have en := hx.num
  have en' := hy.num
  have en2 := hz.num
  have en2' := ht.num
  have hn : n ≤ 1000000000000000 := by omega
  have hn' : n' ≤ 1000000000000000 := by omega
  have hn2 : n2 ≤ 1000000000000000 := by omega
  have hn2' : n2' ≤ 1000000000000000 := by omega
  have HX := Lib.hid hx
  have HY := Lib.hid hy
  have HZ := Lib.hid hz
  have HT := Lib.hid ht
  clear hx hy hz ht l1 l2 l3 l4 en en' en2 en2'
  have hp := pair_cells w s s2 A A' A2 A2' n n' n2 n2' c c' c2 c2'
  obtain ⟨ka0, ka1, ka2, kb0, kb1, kb2⟩ := hp
  have K := Lib.hid (And.intro ka2 kb2)
  by_cases h0 : s = s2
  · subst h0
    have e0 : (s == s) = true := by simp
    go_enter Try.func16, Try.ntmps16
    go_wp2_with fail
    refine (same_limbs A A2 n n2 c c2 xs zs _ _ _ (HX.out.belowL (below2 ..)) (HZ.out.belowL (below2 ..)) hn hn2).mono ?_
    rintro e w1 ⟨rfl, hb1⟩
    have q2 := bat hb1 K.out.1
    have q3 := bat hb1 K.out.2
    have HB1 := Lib.hid ((below2 w _ _).trans (hb1.mono (by simp; omega)))
    clear hb1 ka0 ka1 ka2 kb0 kb1 kb2
    by_cases h1 : xs = zs
    · have HE := Lib.hid h1
      rw [decide_eq_true h1]
      clear h1
      go_wp2_with fail
      refine (same_limbs A' A2' n' n2' c' c2' ys ts _ _ w1 (HY.out.belowL HB1.out) (HT.out.belowL HB1.out) hn' hn2').mono ?_
      rintro e w2 ⟨rfl, hb2⟩
      have HB2 := Lib.hid (HB1.out.trans (hb2.mono HB1.out.size))
      clear hb2
      obtain ⟨d, hd⟩ : ∃ d, d = decide (ys = ts) := ⟨_, rfl⟩
      rw [← hd]
      have HD := Lib.hid hd
      clear hd
      go_wp2_with fail
      go_ret
      refine ⟨?_, HB2.out⟩
      have h1 := HE.out
      subst h1
      show Ending.returned (.bool d) = _
      rw [HD.out]
      simp
    · have HE := Lib.hid h1
      rw [decide_eq_false h1]
      clear h1
      go_wp2_with fail
      go_ret
      refine ⟨?_, HB1.out⟩
      rw [decide_eq_false (fun e => HE.out (congrArg RV.num e))]
      rfl
  · have e0 : (s == s2) = false := by simp [h0]
    have HE := Lib.hid h0
    clear h0
    go_enter Try.func16, Try.ntmps16
    go_wp2_with fail
    go_ret
    refine ⟨?_, below2 ..⟩
    show Ending.returned (.bool false) = _
    simp [HE.out]

end Go.Proofs.Ytfepmbpcdfdlhaa

/- rows of pointers to numbers in memory (plain) -/
namespace Go.Proofs.Ytfepmbpcdfdlhaa
open Go.RowKit Go.Sort

/-- the blocks of S alone were changed, and no number in them; besides there are new blocks -/
structure UpS (w w' : World) (S : Nat → Prop) : Prop where
  os : w'.os = w.os
  tape : w'.tape = w.tape
  output : w'.output = w.output
  size : w.heap.size ≤ w'.heap.size
  blk : ∀ k, k < w.heap.size → ¬ S k → w'.heap[k]? = w.heap[k]?
  num : ∀ (b o : Nat) (k : IntKind) (x : Int), w.cell? ⟨b, o, none⟩ = some (.int k x) → w'.cell? ⟨b, o, none⟩ = some (.int k x)
theorem UpB.toS {w w' : World} {b : Nat} (h : UpB w w' b) {S : Nat → Prop} (hS : S b) : UpS w w' S :=
  ⟨h.os, h.tape, h.output, h.size, fun k hk hn => h.blk k hk (fun e => hn (e ▸ hS)), fun _ _ _ _ hv => h.numOf hv⟩
theorem UpS.of_below {w w' : World} (S : Nat → Prop) (h : Below w.heap.size w w') : UpS w w' S :=
  ⟨h.os, h.tape, h.output, h.size, fun k hk _ => h.block k hk, fun _ _ _ _ hv => bat h hv⟩
theorem UpS.refl (w : World) (S : Nat → Prop) : UpS w w S := UpS.of_below S (Below.refl _ _)
/-- blocks that are new at the beginning may be changed at will -/
theorem UpS.trans {w w1 w2 : World} {S T : Nat → Prop} (h : UpS w w1 S) (k : UpS w1 w2 T) (hT : ∀ b, b < w.heap.size → T b → S b) : UpS w w2 S :=
  ⟨k.os.trans h.os, k.tape.trans h.tape, k.output.trans h.output, Nat.le_trans h.size k.size, fun i hi hn => (k.blk i (by have := h.size; omega) (fun ht => hn (hT i hi ht))).trans (h.blk i hi hn), fun b o kd x hv => k.num b o kd x (h.num b o kd x hv)⟩
theorem UpS.mono {w w' : World} {S T : Nat → Prop} (h : UpS w w' S) (hT : ∀ b, S b → T b) : UpS w w' T := ⟨h.os, h.tape, h.output, h.size, fun k hk hn => h.blk k hk (fun hs => hn (hT k hs)), h.num⟩
theorem UpS.below {w w' : World} {S : Nat → Prop} (h : UpS w w' S) {B : Nat} (hB : ∀ k, S k → B ≤ k) (hs : B ≤ w.heap.size) : Below B w w' := ⟨h.os, h.tape, h.output, h.size, fun k hk => h.blk k (by omega) (fun hS => by have := hB k hS; omega)⟩
theorem UpS.cellOf {w w' : World} {S : Nat → Prop} (h : UpS w w' S) {b o : Nat} {v : Value} (hv : w.cell? ⟨b, o, none⟩ = some v) (hn : ¬ S b) : w'.cell? ⟨b, o, none⟩ = some v :=
  (World.cell?_of_block (a := ⟨b, o, none⟩) (h.blk b (World.block_lt_of_cell? w ⟨b, o, none⟩ hv) hn)).trans hv
theorem UpS.frozenOf {w w' : World} {S : Nat → Prop} (h : UpS w w' S) {b o : Nat} (hl : b < w.heap.size) (hn : ¬ S b) : w'.frozen? ⟨b, o, none⟩ = w.frozen? ⟨b, o, none⟩ := World.frozen?_of_block (a := ⟨b, o, none⟩) (h.blk b hl hn)
theorem IntAt.ups {w w' : World} {S : Nat → Prop} {b o : Nat} {z : Int} (h : IntAt w b o z) (hu : UpS w w' S) (hn : ¬ S b) : IntAt w' b o z := by
  obtain ⟨A, c, h1, h2, h3⟩ := h.abs
  have hlt := h.lt
  refine ⟨hu.cellOf h.neg hn, ⟨A, c, hu.cellOf h1 hn, h2, ?_⟩, by rw [hu.frozenOf hlt hn]; exact h.fz, by rw [hu.frozenOf hlt hn]; exact h.fz1⟩
  have h4 : RdE Wc 1 w' (fun d => d < w.heap.size) A (dig z.natAbs).length (dig z.natAbs) := ⟨rd_keep_cells h3.rd fun b o v hv hc => by
    obtain ⟨x, _, hx⟩ := List.mem_flatMap.1 hv
    simp [Wc] at hx
    subst hx
    exact hu.num _ _ _ _ hc, h3.num⟩
  exact h4.imp fun d hd => Nat.lt_of_lt_of_le hd hu.size

abbrev PtrV (p : Nat) : Value := .pointer (some ⟨p, 0, none⟩)
/-- the row of pointers at block g: the numbers they lead to -/
structure PRow (w : World) (g : Nat) (ps : List Nat) (zs : List Int) : Prop where
  len : ps.length = zs.length
  lt : g < w.heap.size
  ptr : ∀ (k p : Nat), ps[k]? = some p → w.cell? ⟨g, k, none⟩ = some (PtrV p)
  fz : ∀ (k : Nat), w.frozen? ⟨g, k, none⟩ = false
  int : ∀ (k p : Nat) (z : Int), ps[k]? = some p → zs[k]? = some z → IntAt w p 0 z
  ne : ∀ p ∈ ps, p ≠ g
theorem PRow.ups {w w' : World} {S : Nat → Prop} {g : Nat} {ps : List Nat} {zs : List Int} (h : PRow w g ps zs) (hu : UpS w w' S) (hg : ¬ S g) (hp : ∀ p ∈ ps, ¬ S p) : PRow w' g ps zs :=
  ⟨h.len, Nat.lt_of_lt_of_le h.lt hu.size, fun k p hk => hu.cellOf (h.ptr k p hk) hg, fun k => by rw [hu.frozenOf h.lt hg]; exact h.fz k,
    fun k p z hk hz => (h.int k p z hk hz).ups hu (hp p (List.mem_of_getElem? hk)), h.ne⟩
theorem PRow.below {w w' : World} {g : Nat} {ps : List Nat} {zs : List Int} (h : PRow w g ps zs) (hb : Below w.heap.size w w') : PRow w' g ps zs :=
  h.ups (UpS.of_below (fun _ => False) hb) (fun h => h) (fun _ _ h => h)
/-- one pointer is set -/
theorem PRow.set {w : World} {g : Nat} {ps : List Nat} {zs : List Int} (h : PRow w g ps zs) {k q : Nat} {z : Int} (hk : k < ps.length) (hq : IntAt w q 0 z) (hne : q ≠ g) :
    PRow (w.setCell ⟨g, k, none⟩ (PtrV q)) g (ps.set k q) (zs.set k z) ∧ UpS w (w.setCell ⟨g, k, none⟩ (PtrV q)) (fun b => b = g) := by
  obtain ⟨p0, hp0⟩ : ∃ p, ps[k]? = some p := ⟨_, List.getElem?_eq_getElem hk⟩
  have hold := h.ptr k p0 hp0
  have hcell : ∀ b o v, (b = g → o ≠ k) → w.cell? ⟨b, o, none⟩ = some v → (w.setCell ⟨g, k, none⟩ (PtrV q)).cell? ⟨b, o, none⟩ = some v := fun b o v hn hv => by
    by_cases e : b = g
    · subst e
      have := hn rfl
      simp [go_sem, this, hv]
    · refine (World.cell?_of_block (a := ⟨b, o, none⟩) ?_).trans hv
      exact Below.heap_setCell _ _ _ _ e
  have hu : UpS w (w.setCell ⟨g, k, none⟩ (PtrV q)) (fun b => b = g) := ⟨rfl, rfl, rfl, by simp, fun j _ hn => Below.heap_setCell _ _ _ _ hn, fun b o kd x hv => hcell b o _ (fun e he => by subst e; subst he; rw [hold] at hv; cases hv) hv⟩
  refine ⟨⟨by simp [h.len], by simpa using h.lt, fun j p hj => ?_, fun j => ?_, fun j p z' hj hz => ?_, fun p hp => ?_⟩, hu⟩
  · rw [List.getElem?_set] at hj
    by_cases e : k = j
    · subst e
      rw [if_pos rfl, if_pos hk] at hj
      injection hj with hj
      subst hj
      simp [go_sem, hold]
    · rw [if_neg e] at hj
      exact hcell g j _ (fun _ => fun e2 => e e2.symm) (h.ptr j p hj)
  · have := h.fz j
    simpa [go_sem] using this
  · rw [List.getElem?_set] at hj hz
    by_cases e : k = j
    · subst e
      rw [if_pos rfl, if_pos hk] at hj
      rw [if_pos rfl, if_pos (by rw [← h.len]; exact hk)] at hz
      injection hj with hj
      injection hz with hz
      subst hj hz
      exact hq.ups hu hne
    · rw [if_neg e] at hj hz
      exact (h.int j p z' hj hz).ups hu (h.ne p (List.mem_of_getElem? hj))
  · rcases List.mem_or_eq_of_mem_set hp with h1 | rfl
    · exact h.ne p h1
    · exact hne

end Go.Proofs.Ytfepmbpcdfdlhaa
