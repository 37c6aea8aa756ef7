import Derived.Test.YtjokpfgncmdomaaGreatDoorX21
set_option linter.unusedSimpArgs false
set_option linter.unusedVariables false
/- girderref07.Right: the walk (printed by gen_h15.py) -/
namespace Go.Proofs.YtjokpfgncmdomaaGreatDoor
open Go.RowKit Go.Sort

theorem trimmed_iff {xs : List Nat} (h : Lds xs) : (lim (ln xs)).length = xs.length ↔ xs = lim (ln xs) := by
  constructor
  · intro he
    by_cases hne : xs = []
    · subst hne; rfl
    · refine lim_of_lds h fun hn h0 => ?_
      obtain ⟨k, hk⟩ : ∃ k, xs.length = k + 1 := ⟨xs.length - 1, by have := List.length_pos_iff.2 hne; omega⟩
      have hg : xs[k]? = some 0 := by
        rw [List.getLast_eq_getElem] at h0
        rw [List.getElem?_eq_getElem (by omega)]
        congr 1
        have e : xs.length - 1 = k := by omega
        simpa [e] using h0
      have h1 := ln_take_succ hg
      rw [List.take_of_length_le (by omega), Nat.mul_zero, Nat.add_zero] at h1
      have h2 := ln_take_lt h k
      rw [← h1] at h2
      have h3 := lim_len_le h2
      omega
  · intro he
    rw [← he]
theorem cmpN_one1 {g : Nat} : (cmpN g (ln [1]) == 0) = decide (g = 1) := by
  have e : ln [1] = 1 := rfl
  rw [e]
  unfold cmpN
  by_cases h1 : g = 1
  · subst h1; rfl
  · by_cases h2 : g < 1
    · simp [h1, h2]
    · have h3 : 1 < g := by omega
      simp [h1, h2, h3]
/-- what girderref07.Right asks -/
def refRight (r : RV) : Bool :=
  !(decide (256 < r.num.length) || (decide (256 < r.den.length) || (decide ((lim (ln r.num)).length ≠ r.num.length) || (decide ((lim (ln r.den)).length ≠ r.den.length) || decide (r.den.length = 0))))) &&
    (if r.num.length = 0 then !r.neg && decide (ln r.den = 1) else decide (Nat.gcd (ln r.num) (ln r.den) = 1))
theorem topB_iff {xs : List Nat} (h : Lds xs) : topB xs = true ↔ 0 < xs.length ∧ xs.length ≤ 256 ∧ (lim (ln xs)).length = xs.length := by
  constructor
  · intro ht
    have h1 := topB_isLim ht h
    have h2 := topB_len ht rfl
    refine ⟨?_, h2, by rw [← lim_unique h1]⟩
    unfold topB at ht
    simp only [Bool.and_eq_true, decide_eq_true_eq] at ht
    omega
  · rintro ⟨h1, h2, h3⟩
    have h4 := (trimmed_iff h).1 h3
    have h5 : ln xs ≠ 0 := fun e => by rw [e] at h4; rw [h4] at h1; exact absurd h1 (by decide)
    rw [h4]
    exact topB_lim h5 (by rw [← h4]; exact h2)
theorem refRight_eq {r : RV} (hl : LdR r) : refRight r = rightB r := by
  obtain ⟨s, xs, ys⟩ := r
  have hx : Lds xs := hl.1
  have hy : Lds ys := hl.2
  have tx := topB_iff hx
  have ty := topB_iff hy
  unfold refRight rightB
  simp only
  by_cases h0 : xs.length = 0
  · have e : xs = [] := List.eq_nil_of_length_eq_zero h0
    subst e
    have e0 : ([] : List Nat).length = 0 := rfl
    rw [if_pos e0, if_pos e0]
    by_cases h1 : ys = [1]
    · subst h1
      cases s <;> decide
    · rw [decide_eq_false h1, Bool.and_false]
      by_cases h2 : (lim (ln ys)).length = ys.length
      · have h3 := (trimmed_iff hy).1 h2
        have h4 : ln ys ≠ 1 := fun e => h1 (by rw [h3, e]; decide)
        simp [h4]
      · simp [h2]
  · rw [if_neg h0, if_neg h0]
    by_cases h1 : xs.length ≤ 256 ∧ (lim (ln xs)).length = xs.length
    · by_cases h2 : 0 < ys.length ∧ ys.length ≤ 256 ∧ (lim (ln ys)).length = ys.length
      · rw [tx.2 ⟨by omega, h1.1, h1.2⟩, ty.2 h2]
        have a1 : ¬ 256 < xs.length := by omega
        have a2 : ¬ 256 < ys.length := by omega
        have a3 : ¬ ys.length = 0 := by omega
        have a4 := h1.2
        have a5 := h2.2.2
        simp only [a1, a2, a3, a4, a5, decide_false, ne_eq, not_true_eq_false, Bool.or_false, Bool.not_false, Bool.true_and]
      · have e1 : topB ys = false := by
          cases h : topB ys
          · rfl
          · exact absurd (ty.1 h) h2
        rw [e1, Bool.and_false, Bool.false_and]
        have h3 : 256 < ys.length ∨ (lim (ln ys)).length ≠ ys.length ∨ ys.length = 0 := by omega
        rcases h3 with h | h | h <;> simp [h]
    · have e1 : topB xs = false := by
        cases h : topB xs
        · rfl
        · exact absurd ((tx.1 h).2) h1
      rw [e1, Bool.false_and, Bool.false_and]
      have h3 : 256 < xs.length ∨ (lim (ln xs)).length ≠ xs.length := by omega
      rcases h3 with h | h <;> simp [h]

set_option maxRecDepth 100000 in
set_option maxHeartbeats 32000000 in
theorem refRight_any (v : Value) (r : RV) (w : World) (h : FAt w v r) (hl : LdR r) (n1 : r.num.length ≤ 10000000000) (n2 : r.den.length ≤ 10000000000) :
    Calls Tryz.prog 30 #[v] w fun e w' => e = .returned (.bool (rightB r)) ∧ Below w.heap.size w w' := by
  rw [← refRight_eq hl]
  obtain ⟨b, hb⟩ : ∃ b, b = refRight r := ⟨_, rfl⟩
  rw [← hb]
  obtain ⟨s, xs, ys⟩ := r
  obtain ⟨A, n, c, A', n', c', rfl, l1, l2⟩ := h.shape
  simp only at l1 l2 n1 n2
  unfold refRight at hb
  simp only at hb
  have HX := Lib.hid l1
  have HY := Lib.hid l2
  have HL1 : Hid (Lds xs) := Lib.hid hl.1
  have HL2 : Hid (Lds ys) := Lib.hid hl.2
  have e1 := (lat_num l1).1
  have e2 := (lat_num l2).1
  rw [← e1] at n1
  rw [← e2] at n2
  rw [← e1, ← e2] at hb
  have E1 := Lib.hid e1
  have E2 := Lib.hid e2
  have HBB := Lib.hid hb
  obtain ⟨w0, hw0⟩ : ∃ w0, w0 = w.alloc (.cells #[.bool s, .slice A n c, .slice A' n' c'] 24) := ⟨_, rfl⟩
  have hb0 : Below w.heap.size w w0 := by rw [hw0]; exact below1 ..
  have g1 : w0.heap[w.heap.size]? = some (.cells #[.bool s, .slice A n c, .slice A' n' c'] 24 (0, 0)) := by rw [hw0]; exact blk_new ..
  have z0 : w.heap.size < w0.heap.size := by rw [hw0]; simp
  have k1 := (blk_cells g1).1
  have k10 := k1 0
  have k11 := k1 1
  have k12 := k1 2
  simp only [List.getElem?_toArray, List.getElem?_cons_zero, List.getElem?_cons_succ] at k10 k11 k12
  have HK := Lib.hid (And.intro k10 (And.intro k11 k12))
  have HB0 := Lib.hid hb0
  have HW0 := Lib.hid hw0
  clear hw0 hb0 g1 k1 k10 k11 k12 l1 l2 h hl e1 e2 hb
  by_cases t1 : 256 < n
  · have d1 : decide (256 < (n : Int)) = true := by simp; omega
    have HV : Hid (b = false) := Lib.hid (by rw [HBB.out]; simp [t1])
    go_enter Tryz.func30, Tryz.ntmps30
    go_wp2_with fail
    rw [← HW0.out]
    obtain ⟨k10, k11, k12⟩ := HK.out
    refine wp_region_held_drew (S := (fun w' => w'.cell? ⟨w.heap.size, 0, none⟩ = some (.bool s) ∧ w'.cell? ⟨w.heap.size, 1, none⟩ = some (.slice A n c) ∧ w'.cell? ⟨w.heap.size, 2, none⟩ = some (.slice A' n' c'))) (by kernel_rfl) ?_ (fun hHeld => ?_)
    · first | exact True.intro | ((try dsimp only); go_keep)
    clear k10 k11 k12
    have HBd : Hid (Below w0.heap.size w0 w0.drew) := Lib.hid ((Below.refl _ _).drew)
    refine tkH (i := 0) (v := ?_) rfl (by kernel_rfl) (Or.inl ⟨by kernel_rfl, ?_⟩) (by assumption) ?_
    rotate_left 1
    · (intro w hSw; (try dsimp only at hSw); go_simp; try with_reducible rfl)
    try simp only [lyA, lyB, lyC, Act.put, lyD, lyE, lyF]
    refine tkH (i := 1) (v := ?_) rfl (by kernel_rfl) (Or.inl ⟨by kernel_rfl, ?_⟩) (by assumption) ?_
    rotate_left 1
    · (intro w hSw; (try dsimp only at hSw); go_simp; try with_reducible rfl)
    try simp only [lyA, lyB, lyC, Act.put, lyD, lyE, lyF]
    refine tkH (i := 2) (v := ?_) rfl (by kernel_rfl) (Or.inl ⟨by kernel_rfl, ?_⟩) (by assumption) ?_
    rotate_left 1
    · (intro w hSw; (try dsimp only at hSw); go_simp; try with_reducible rfl)
    try simp only [lyA, lyB, lyC, Act.put, lyD, lyE, lyF]
    refine tkH (i := 3) (v := ?_) rfl (by kernel_rfl) (Or.inl ⟨by kernel_rfl, ?_⟩) (by assumption) ?_
    rotate_left 1
    · (intro w hSw; (try dsimp only at hSw); go_simp; try with_reducible rfl)
    try simp only [lyA, lyB, lyC, Act.put, lyD, lyE, lyF]
    refine tkH (i := 4) (v := ?_) rfl (by kernel_rfl) (Or.inl ⟨by kernel_rfl, ?_⟩) (by assumption) ?_
    rotate_left 1
    · (intro w hSw; (try dsimp only at hSw); go_simp; try with_reducible rfl)
    try simp only [lyA, lyB, lyC, Act.put, lyD, lyE, lyF]
    refine tkH (i := 5) (v := undef) rfl (by kernel_rfl) (Or.inr ⟨by kernel_rfl, rfl⟩) (by assumption) ?_
    try simp only [lyA, lyB, lyC, Act.put, lyD, lyE, lyF]
    refine tkH (i := 6) (v := undef) rfl (by kernel_rfl) (Or.inr ⟨by kernel_rfl, rfl⟩) (by assumption) ?_
    try simp only [lyA, lyB, lyC, Act.put, lyD, lyE, lyF]
    refine tkH (i := 7) (v := undef) rfl (by kernel_rfl) (Or.inr ⟨by kernel_rfl, rfl⟩) (by assumption) ?_
    try simp only [lyA, lyB, lyC, Act.put, lyD, lyE, lyF]
    refine tkH (i := 8) (v := undef) rfl (by kernel_rfl) (Or.inr ⟨by kernel_rfl, rfl⟩) (by assumption) ?_
    try simp only [lyA, lyB, lyC, Act.put, lyD, lyE, lyF]
    refine tkH (i := 9) (v := ?_) rfl (by kernel_rfl) (Or.inl ⟨by kernel_rfl, ?_⟩) (by assumption) ?_
    rotate_left 1
    · (intro w hSw; (try dsimp only at hSw); go_simp; try with_reducible rfl)
    try simp only [lyA, lyB, lyC, Act.put, lyD, lyE, lyF]
    refine tkH (i := 10) (v := ?_) rfl (by kernel_rfl) (Or.inl ⟨by kernel_rfl, ?_⟩) (by assumption) ?_
    rotate_left 1
    · (intro w hSw; (try dsimp only at hSw); go_simp; try with_reducible rfl)
    try simp only [lyA, lyB, lyC, Act.put, lyD, lyE, lyF]
    refine tkH (i := 11) (v := undef) rfl (by kernel_rfl) (Or.inr ⟨by kernel_rfl, rfl⟩) (by assumption) ?_
    try simp only [lyA, lyB, lyC, Act.put, lyD, lyE, lyF]
    refine tkH (i := 12) (v := undef) rfl (by kernel_rfl) (Or.inr ⟨by kernel_rfl, rfl⟩) (by assumption) ?_
    try simp only [lyA, lyB, lyC, Act.put, lyD, lyE, lyF]
    refine tkH (i := 13) (v := undef) rfl (by kernel_rfl) (Or.inr ⟨by kernel_rfl, rfl⟩) (by assumption) ?_
    try simp only [lyA, lyB, lyC, Act.put, lyD, lyE, lyF]
    refine tkH (i := 14) (v := undef) rfl (by kernel_rfl) (Or.inr ⟨by kernel_rfl, rfl⟩) (by assumption) ?_
    try simp only [lyA, lyB, lyC, Act.put, lyD, lyE, lyF]
    refine tkH (i := 15) (v := undef) rfl (by kernel_rfl) (Or.inr ⟨by kernel_rfl, rfl⟩) (by assumption) ?_
    try simp only [lyA, lyB, lyC, Act.put, lyD, lyE, lyF]
    refine tkH (i := 16) (v := undef) rfl (by kernel_rfl) (Or.inr ⟨by kernel_rfl, rfl⟩) (by assumption) ?_
    try simp only [lyA, lyB, lyC, Act.put, lyD, lyE, lyF]
    refine tkH (i := 17) (v := undef) rfl (by kernel_rfl) (Or.inr ⟨by kernel_rfl, rfl⟩) (by assumption) ?_
    try simp only [lyA, lyB, lyC, Act.put, lyD, lyE, lyF]
    refine tkH (i := 18) (v := undef) rfl (by kernel_rfl) (Or.inr ⟨by kernel_rfl, rfl⟩) (by assumption) ?_
    try simp only [lyA, lyB, lyC, Act.put, lyD, lyE, lyF]
    refine tkH (i := 19) (v := ?_) rfl (by kernel_rfl) (Or.inl ⟨by kernel_rfl, ?_⟩) (by assumption) ?_
    rotate_left 1
    · (intro w hSw; (try dsimp only at hSw); go_simp; try with_reducible rfl)
    try simp only [lyA, lyB, lyC, Act.put, lyD, lyE, lyF]
    refine tkH (i := 20) (v := ?_) rfl (by kernel_rfl) (Or.inl ⟨by kernel_rfl, ?_⟩) (by assumption) ?_
    rotate_left 1
    · (intro w hSw; (try dsimp only at hSw); go_simp; try with_reducible rfl)
    try simp only [lyA, lyB, lyC, Act.put, lyD, lyE, lyF]
    refine tkH (i := 21) (v := undef) rfl (by kernel_rfl) (Or.inr ⟨by kernel_rfl, rfl⟩) (by assumption) ?_
    try simp only [lyA, lyB, lyC, Act.put, lyD, lyE, lyF]
    refine tkH (i := 22) (v := undef) rfl (by kernel_rfl) (Or.inr ⟨by kernel_rfl, rfl⟩) (by assumption) ?_
    try simp only [lyA, lyB, lyC, Act.put, lyD, lyE, lyF]
    refine tkH (i := 23) (v := undef) rfl (by kernel_rfl) (Or.inr ⟨by kernel_rfl, rfl⟩) (by assumption) ?_
    try simp only [lyA, lyB, lyC, Act.put, lyD, lyE, lyF]
    refine tkH (i := 24) (v := undef) rfl (by kernel_rfl) (Or.inr ⟨by kernel_rfl, rfl⟩) (by assumption) ?_
    try simp only [lyA, lyB, lyC, Act.put, lyD, lyE, lyF]
    refine tkH (i := 25) (v := undef) rfl (by kernel_rfl) (Or.inr ⟨by kernel_rfl, rfl⟩) (by assumption) ?_
    try simp only [lyA, lyB, lyC, Act.put, lyD, lyE, lyF]
    refine tkH (i := 26) (v := undef) rfl (by kernel_rfl) (Or.inr ⟨by kernel_rfl, rfl⟩) (by assumption) ?_
    try simp only [lyA, lyB, lyC, Act.put, lyD, lyE, lyF]
    refine tkH (i := 27) (v := undef) rfl (by kernel_rfl) (Or.inr ⟨by kernel_rfl, rfl⟩) (by assumption) ?_
    try simp only [lyA, lyB, lyC, Act.put, lyD, lyE, lyF]
    refine tkH (i := 28) (v := undef) rfl (by kernel_rfl) (Or.inr ⟨by kernel_rfl, rfl⟩) (by assumption) ?_
    try simp only [lyA, lyB, lyC, Act.put, lyD, lyE, lyF]
    refine tkH (i := 29) (v := ?_) rfl (by kernel_rfl) (Or.inl ⟨by kernel_rfl, ?_⟩) (by assumption) ?_
    rotate_left 1
    · (intro w hSw; (try dsimp only at hSw); go_simp; try with_reducible rfl)
    try simp only [lyA, lyB, lyC, Act.put, lyD, lyE, lyF]
    refine tkH (i := 30) (v := ?_) rfl (by kernel_rfl) (Or.inl ⟨by kernel_rfl, ?_⟩) (by assumption) ?_
    rotate_left 1
    · (intro w hSw; (try dsimp only at hSw); go_simp; try with_reducible rfl)
    try simp only [lyA, lyB, lyC, Act.put, lyD, lyE, lyF]
    refine tkH (i := 31) (v := undef) rfl (by kernel_rfl) (Or.inr ⟨by kernel_rfl, rfl⟩) (by assumption) ?_
    try simp only [lyA, lyB, lyC, Act.put, lyD, lyE, lyF]
    refine tkH (i := 32) (v := undef) rfl (by kernel_rfl) (Or.inr ⟨by kernel_rfl, rfl⟩) (by assumption) ?_
    try simp only [lyA, lyB, lyC, Act.put, lyD, lyE, lyF]
    refine tkH (i := 33) (v := undef) rfl (by kernel_rfl) (Or.inr ⟨by kernel_rfl, rfl⟩) (by assumption) ?_
    try simp only [lyA, lyB, lyC, Act.put, lyD, lyE, lyF]
    refine tkH (i := 34) (v := undef) rfl (by kernel_rfl) (Or.inr ⟨by kernel_rfl, rfl⟩) (by assumption) ?_
    try simp only [lyA, lyB, lyC, Act.put, lyD, lyE, lyF]
    refine tkH (i := 35) (v := ?_) rfl (by kernel_rfl) (Or.inl ⟨by kernel_rfl, ?_⟩) (by assumption) ?_
    rotate_left 1
    · (intro w hSw; (try dsimp only at hSw); go_simp; try with_reducible rfl)
    try simp only [lyA, lyB, lyC, Act.put, lyD, lyE, lyF]
    refine wpAnyH_done (by kernel_rfl) ?_ _
    go_wp2_with fail
    go_ret
    exact ⟨by rw [HV.out]; rfl, HB0.out.trans (HBd.out.mono HB0.out.size)⟩
  · have d1 : decide (256 < (n : Int)) = false := by simp; omega
    by_cases t2 : 256 < n'
    · have d2 : decide (256 < (n' : Int)) = true := by simp; omega
      have HV : Hid (b = false) := Lib.hid (by rw [HBB.out]; simp [t1, t2])
      go_enter Tryz.func30, Tryz.ntmps30
      go_wp2_with fail
      rw [← HW0.out]
      obtain ⟨k10, k11, k12⟩ := HK.out
      refine wp_region_held_drew (S := (fun w' => w'.cell? ⟨w.heap.size, 0, none⟩ = some (.bool s) ∧ w'.cell? ⟨w.heap.size, 1, none⟩ = some (.slice A n c) ∧ w'.cell? ⟨w.heap.size, 2, none⟩ = some (.slice A' n' c'))) (by kernel_rfl) ?_ (fun hHeld => ?_)
      · first | exact True.intro | ((try dsimp only); go_keep)
      clear k10 k11 k12
      have HBd : Hid (Below w0.heap.size w0 w0.drew) := Lib.hid ((Below.refl _ _).drew)
      refine tkH (i := 0) (v := ?_) rfl (by kernel_rfl) (Or.inl ⟨by kernel_rfl, ?_⟩) (by assumption) ?_
      rotate_left 1
      · (intro w hSw; (try dsimp only at hSw); go_simp; try with_reducible rfl)
      try simp only [lyA, lyB, lyC, Act.put, lyD, lyE, lyF]
      refine tkH (i := 1) (v := ?_) rfl (by kernel_rfl) (Or.inl ⟨by kernel_rfl, ?_⟩) (by assumption) ?_
      rotate_left 1
      · (intro w hSw; (try dsimp only at hSw); go_simp; try with_reducible rfl)
      try simp only [lyA, lyB, lyC, Act.put, lyD, lyE, lyF]
      refine tkH (i := 2) (v := ?_) rfl (by kernel_rfl) (Or.inl ⟨by kernel_rfl, ?_⟩) (by assumption) ?_
      rotate_left 1
      · (intro w hSw; (try dsimp only at hSw); go_simp; try with_reducible rfl)
      try simp only [lyA, lyB, lyC, Act.put, lyD, lyE, lyF]
      refine tkH (i := 3) (v := ?_) rfl (by kernel_rfl) (Or.inl ⟨by kernel_rfl, ?_⟩) (by assumption) ?_
      rotate_left 1
      · (intro w hSw; (try dsimp only at hSw); go_simp; try with_reducible rfl)
      try simp only [lyA, lyB, lyC, Act.put, lyD, lyE, lyF]
      refine tkH (i := 4) (v := ?_) rfl (by kernel_rfl) (Or.inl ⟨by kernel_rfl, ?_⟩) (by assumption) ?_
      rotate_left 1
      · (intro w hSw; (try dsimp only at hSw); go_simp; try with_reducible rfl)
      try simp only [lyA, lyB, lyC, Act.put, lyD, lyE, lyF]
      refine tkH (i := 5) (v := ?_) rfl (by kernel_rfl) (Or.inl ⟨by kernel_rfl, ?_⟩) (by assumption) ?_
      rotate_left 1
      · (intro w hSw; (try dsimp only at hSw); go_simp; try with_reducible rfl)
      try simp only [lyA, lyB, lyC, Act.put, lyD, lyE, lyF]
      refine tkH (i := 6) (v := ?_) rfl (by kernel_rfl) (Or.inl ⟨by kernel_rfl, ?_⟩) (by assumption) ?_
      rotate_left 1
      · (intro w hSw; (try dsimp only at hSw); go_simp; try with_reducible rfl)
      try simp only [lyA, lyB, lyC, Act.put, lyD, lyE, lyF]
      refine tkH (i := 7) (v := ?_) rfl (by kernel_rfl) (Or.inl ⟨by kernel_rfl, ?_⟩) (by assumption) ?_
      rotate_left 1
      · (intro w hSw; (try dsimp only at hSw); go_simp; try with_reducible rfl)
      try simp only [lyA, lyB, lyC, Act.put, lyD, lyE, lyF]
      refine tkH (i := 8) (v := ?_) rfl (by kernel_rfl) (Or.inl ⟨by kernel_rfl, ?_⟩) (by assumption) ?_
      rotate_left 1
      · (intro w hSw; (try dsimp only at hSw); go_simp; try with_reducible rfl)
      try simp only [lyA, lyB, lyC, Act.put, lyD, lyE, lyF]
      refine tkH (i := 9) (v := ?_) rfl (by kernel_rfl) (Or.inl ⟨by kernel_rfl, ?_⟩) (by assumption) ?_
      rotate_left 1
      · (intro w hSw; (try dsimp only at hSw); go_simp; try with_reducible rfl)
      try simp only [lyA, lyB, lyC, Act.put, lyD, lyE, lyF]
      refine tkH (i := 10) (v := ?_) rfl (by kernel_rfl) (Or.inl ⟨by kernel_rfl, ?_⟩) (by assumption) ?_
      rotate_left 1
      · (intro w hSw; (try dsimp only at hSw); go_simp; try with_reducible rfl)
      try simp only [lyA, lyB, lyC, Act.put, lyD, lyE, lyF]
      refine tkH (i := 11) (v := undef) rfl (by kernel_rfl) (Or.inr ⟨by kernel_rfl, rfl⟩) (by assumption) ?_
      try simp only [lyA, lyB, lyC, Act.put, lyD, lyE, lyF]
      refine tkH (i := 12) (v := undef) rfl (by kernel_rfl) (Or.inr ⟨by kernel_rfl, rfl⟩) (by assumption) ?_
      try simp only [lyA, lyB, lyC, Act.put, lyD, lyE, lyF]
      refine tkH (i := 13) (v := undef) rfl (by kernel_rfl) (Or.inr ⟨by kernel_rfl, rfl⟩) (by assumption) ?_
      try simp only [lyA, lyB, lyC, Act.put, lyD, lyE, lyF]
      refine tkH (i := 14) (v := undef) rfl (by kernel_rfl) (Or.inr ⟨by kernel_rfl, rfl⟩) (by assumption) ?_
      try simp only [lyA, lyB, lyC, Act.put, lyD, lyE, lyF]
      refine tkH (i := 15) (v := undef) rfl (by kernel_rfl) (Or.inr ⟨by kernel_rfl, rfl⟩) (by assumption) ?_
      try simp only [lyA, lyB, lyC, Act.put, lyD, lyE, lyF]
      refine tkH (i := 16) (v := undef) rfl (by kernel_rfl) (Or.inr ⟨by kernel_rfl, rfl⟩) (by assumption) ?_
      try simp only [lyA, lyB, lyC, Act.put, lyD, lyE, lyF]
      refine tkH (i := 17) (v := undef) rfl (by kernel_rfl) (Or.inr ⟨by kernel_rfl, rfl⟩) (by assumption) ?_
      try simp only [lyA, lyB, lyC, Act.put, lyD, lyE, lyF]
      refine tkH (i := 18) (v := undef) rfl (by kernel_rfl) (Or.inr ⟨by kernel_rfl, rfl⟩) (by assumption) ?_
      try simp only [lyA, lyB, lyC, Act.put, lyD, lyE, lyF]
      refine tkH (i := 19) (v := ?_) rfl (by kernel_rfl) (Or.inl ⟨by kernel_rfl, ?_⟩) (by assumption) ?_
      rotate_left 1
      · (intro w hSw; (try dsimp only at hSw); go_simp; try with_reducible rfl)
      try simp only [lyA, lyB, lyC, Act.put, lyD, lyE, lyF]
      refine tkH (i := 20) (v := ?_) rfl (by kernel_rfl) (Or.inl ⟨by kernel_rfl, ?_⟩) (by assumption) ?_
      rotate_left 1
      · (intro w hSw; (try dsimp only at hSw); go_simp; try with_reducible rfl)
      try simp only [lyA, lyB, lyC, Act.put, lyD, lyE, lyF]
      refine tkH (i := 21) (v := undef) rfl (by kernel_rfl) (Or.inr ⟨by kernel_rfl, rfl⟩) (by assumption) ?_
      try simp only [lyA, lyB, lyC, Act.put, lyD, lyE, lyF]
      refine tkH (i := 22) (v := undef) rfl (by kernel_rfl) (Or.inr ⟨by kernel_rfl, rfl⟩) (by assumption) ?_
      try simp only [lyA, lyB, lyC, Act.put, lyD, lyE, lyF]
      refine tkH (i := 23) (v := undef) rfl (by kernel_rfl) (Or.inr ⟨by kernel_rfl, rfl⟩) (by assumption) ?_
      try simp only [lyA, lyB, lyC, Act.put, lyD, lyE, lyF]
      refine tkH (i := 24) (v := undef) rfl (by kernel_rfl) (Or.inr ⟨by kernel_rfl, rfl⟩) (by assumption) ?_
      try simp only [lyA, lyB, lyC, Act.put, lyD, lyE, lyF]
      refine tkH (i := 25) (v := undef) rfl (by kernel_rfl) (Or.inr ⟨by kernel_rfl, rfl⟩) (by assumption) ?_
      try simp only [lyA, lyB, lyC, Act.put, lyD, lyE, lyF]
      refine tkH (i := 26) (v := undef) rfl (by kernel_rfl) (Or.inr ⟨by kernel_rfl, rfl⟩) (by assumption) ?_
      try simp only [lyA, lyB, lyC, Act.put, lyD, lyE, lyF]
      refine tkH (i := 27) (v := undef) rfl (by kernel_rfl) (Or.inr ⟨by kernel_rfl, rfl⟩) (by assumption) ?_
      try simp only [lyA, lyB, lyC, Act.put, lyD, lyE, lyF]
      refine tkH (i := 28) (v := undef) rfl (by kernel_rfl) (Or.inr ⟨by kernel_rfl, rfl⟩) (by assumption) ?_
      try simp only [lyA, lyB, lyC, Act.put, lyD, lyE, lyF]
      refine tkH (i := 29) (v := ?_) rfl (by kernel_rfl) (Or.inl ⟨by kernel_rfl, ?_⟩) (by assumption) ?_
      rotate_left 1
      · (intro w hSw; (try dsimp only at hSw); go_simp; try with_reducible rfl)
      try simp only [lyA, lyB, lyC, Act.put, lyD, lyE, lyF]
      refine tkH (i := 30) (v := ?_) rfl (by kernel_rfl) (Or.inl ⟨by kernel_rfl, ?_⟩) (by assumption) ?_
      rotate_left 1
      · (intro w hSw; (try dsimp only at hSw); go_simp; try with_reducible rfl)
      try simp only [lyA, lyB, lyC, Act.put, lyD, lyE, lyF]
      refine tkH (i := 31) (v := undef) rfl (by kernel_rfl) (Or.inr ⟨by kernel_rfl, rfl⟩) (by assumption) ?_
      try simp only [lyA, lyB, lyC, Act.put, lyD, lyE, lyF]
      refine tkH (i := 32) (v := undef) rfl (by kernel_rfl) (Or.inr ⟨by kernel_rfl, rfl⟩) (by assumption) ?_
      try simp only [lyA, lyB, lyC, Act.put, lyD, lyE, lyF]
      refine tkH (i := 33) (v := undef) rfl (by kernel_rfl) (Or.inr ⟨by kernel_rfl, rfl⟩) (by assumption) ?_
      try simp only [lyA, lyB, lyC, Act.put, lyD, lyE, lyF]
      refine tkH (i := 34) (v := undef) rfl (by kernel_rfl) (Or.inr ⟨by kernel_rfl, rfl⟩) (by assumption) ?_
      try simp only [lyA, lyB, lyC, Act.put, lyD, lyE, lyF]
      refine tkH (i := 35) (v := ?_) rfl (by kernel_rfl) (Or.inl ⟨by kernel_rfl, ?_⟩) (by assumption) ?_
      rotate_left 1
      · (intro w hSw; (try dsimp only at hSw); go_simp; try with_reducible rfl)
      try simp only [lyA, lyB, lyC, Act.put, lyD, lyE, lyF]
      refine wpAnyH_done (by kernel_rfl) ?_ _
      go_wp2_with fail
      go_ret
      exact ⟨by rw [HV.out]; rfl, HB0.out.trans (HBd.out.mono HB0.out.size)⟩
    · have d2 : decide (256 < (n' : Int)) = false := by simp; omega
      by_cases t3 : (lim (ln xs)).length ≠ n
      · have HV : Hid (b = false) := Lib.hid (by rw [HBB.out]; simp [t1, t2, t3])
        go_enter Tryz.func30, Tryz.ntmps30
        go_wp2_with fail
        rw [← HW0.out]
        obtain ⟨k10, k11, k12⟩ := HK.out
        refine wp_region_held_drew (S := (fun w' => w'.cell? ⟨w.heap.size, 0, none⟩ = some (.bool s) ∧ w'.cell? ⟨w.heap.size, 1, none⟩ = some (.slice A n c) ∧ w'.cell? ⟨w.heap.size, 2, none⟩ = some (.slice A' n' c'))) (by kernel_rfl) ?_ (fun hHeld => ?_)
        · first | exact True.intro | ((try dsimp only); go_keep)
        clear k10 k11 k12
        have HBd : Hid (Below w0.heap.size w0 w0.drew) := Lib.hid ((Below.refl _ _).drew)
        refine tkH (i := 0) (v := ?_) rfl (by kernel_rfl) (Or.inl ⟨by kernel_rfl, ?_⟩) (by assumption) ?_
        rotate_left 1
        · (intro w hSw; (try dsimp only at hSw); go_simp; try with_reducible rfl)
        try simp only [lyA, lyB, lyC, Act.put, lyD, lyE, lyF]
        refine tkH (i := 1) (v := ?_) rfl (by kernel_rfl) (Or.inl ⟨by kernel_rfl, ?_⟩) (by assumption) ?_
        rotate_left 1
        · (intro w hSw; (try dsimp only at hSw); go_simp; try with_reducible rfl)
        try simp only [lyA, lyB, lyC, Act.put, lyD, lyE, lyF]
        refine tkH (i := 2) (v := ?_) rfl (by kernel_rfl) (Or.inl ⟨by kernel_rfl, ?_⟩) (by assumption) ?_
        rotate_left 1
        · (intro w hSw; (try dsimp only at hSw); go_simp; try with_reducible rfl)
        try simp only [lyA, lyB, lyC, Act.put, lyD, lyE, lyF]
        refine tkH (i := 3) (v := ?_) rfl (by kernel_rfl) (Or.inl ⟨by kernel_rfl, ?_⟩) (by assumption) ?_
        rotate_left 1
        · (intro w hSw; (try dsimp only at hSw); go_simp; try with_reducible rfl)
        try simp only [lyA, lyB, lyC, Act.put, lyD, lyE, lyF]
        refine tkH (i := 4) (v := ?_) rfl (by kernel_rfl) (Or.inl ⟨by kernel_rfl, ?_⟩) (by assumption) ?_
        rotate_left 1
        · (intro w hSw; (try dsimp only at hSw); go_simp; try with_reducible rfl)
        try simp only [lyA, lyB, lyC, Act.put, lyD, lyE, lyF]
        refine tkH (i := 5) (v := ?_) rfl (by kernel_rfl) (Or.inl ⟨by kernel_rfl, ?_⟩) (by assumption) ?_
        rotate_left 1
        · (intro w hSw; (try dsimp only at hSw); go_simp; try with_reducible rfl)
        try simp only [lyA, lyB, lyC, Act.put, lyD, lyE, lyF]
        refine tkH (i := 6) (v := ?_) rfl (by kernel_rfl) (Or.inl ⟨by kernel_rfl, ?_⟩) (by assumption) ?_
        rotate_left 1
        · (intro w hSw; (try dsimp only at hSw); go_simp; try with_reducible rfl)
        try simp only [lyA, lyB, lyC, Act.put, lyD, lyE, lyF]
        refine tkH (i := 7) (v := ?_) rfl (by kernel_rfl) (Or.inl ⟨by kernel_rfl, ?_⟩) (by assumption) ?_
        rotate_left 1
        · (intro w hSw; (try dsimp only at hSw); go_simp; try with_reducible rfl)
        try simp only [lyA, lyB, lyC, Act.put, lyD, lyE, lyF]
        refine tkH (i := 8) (v := ?_) rfl (by kernel_rfl) (Or.inl ⟨by kernel_rfl, ?_⟩) (by assumption) ?_
        rotate_left 1
        · (intro w hSw; (try dsimp only at hSw); go_simp; try with_reducible rfl)
        try simp only [lyA, lyB, lyC, Act.put, lyD, lyE, lyF]
        refine tkH (i := 9) (v := ?_) rfl (by kernel_rfl) (Or.inl ⟨by kernel_rfl, ?_⟩) (by assumption) ?_
        rotate_left 1
        · (intro w hSw; (try dsimp only at hSw); go_simp; try with_reducible rfl)
        try simp only [lyA, lyB, lyC, Act.put, lyD, lyE, lyF]
        refine tkH (i := 10) (v := ?_) rfl (by kernel_rfl) (Or.inl ⟨by kernel_rfl, ?_⟩) (by assumption) ?_
        rotate_left 1
        · (intro w hSw; (try dsimp only at hSw); go_simp; try with_reducible rfl)
        try simp only [lyA, lyB, lyC, Act.put, lyD, lyE, lyF]
        refine tkH (i := 11) (v := ?_) rfl (by kernel_rfl) (Or.inl ⟨by kernel_rfl, ?_⟩) (by assumption) ?_
        rotate_left 1
        · (intro w hSw; (try dsimp only at hSw); go_simp; try with_reducible rfl)
        try simp only [lyA, lyB, lyC, Act.put, lyD, lyE, lyF]
        refine tkH (i := 12) (v := ?_) rfl (by kernel_rfl) (Or.inl ⟨by kernel_rfl, ?_⟩) (by assumption) ?_
        rotate_left 1
        · (intro w hSw; (try dsimp only at hSw); go_simp; try with_reducible rfl)
        try simp only [lyA, lyB, lyC, Act.put, lyD, lyE, lyF]
        refine tkH (i := 15) (v := ?_) rfl (by kernel_rfl) (Or.inl ⟨by kernel_rfl, ?_⟩) (by assumption) ?_
        rotate_left 1
        · (intro w hSw; (try dsimp only at hSw); go_simp; try with_reducible rfl)
        try simp only [lyA, lyB, lyC, Act.put, lyD, lyE, lyF]
        refine tkH (i := 16) (v := ?_) rfl (by kernel_rfl) (Or.inl ⟨by kernel_rfl, ?_⟩) (by assumption) ?_
        rotate_left 1
        · (intro w hSw; (try dsimp only at hSw); go_simp; try with_reducible rfl)
        try simp only [lyA, lyB, lyC, Act.put, lyD, lyE, lyF]
        refine tkH (i := 17) (v := ?_) rfl (by kernel_rfl) (Or.inl ⟨by kernel_rfl, ?_⟩) (by assumption) ?_
        rotate_left 1
        · (intro w hSw; (try dsimp only at hSw); go_simp; try with_reducible rfl)
        try simp only [lyA, lyB, lyC, Act.put, lyD, lyE, lyF]
        refine wpAnyH_ready (rs := [13]) (by kernel_rfl) (by simp) ?_
        refine AllReadyH.cons rfl (fun K hK => ?_) AllReadyH.nil
        go_simp
        (refine (natTrim_any _ xs w0.drew (HX.out.below (HB0.out.trans (HBd.out.mono HB0.out.size))) HL1.out (by rw [← E1.out]; omega)).mono ?_; rintro e w13 ⟨v13, rfl, hv, hbn⟩; obtain ⟨A13, n13, c13, rfl, hn13, -, -⟩ := hv.parts; have HN13 := Lib.hid hn13; have hHeld := And.intro (bat hbn hHeld.1) (And.intro (bat hbn hHeld.2.1) (bat hbn hHeld.2.2)); have HBn13 := Lib.hid (HBd.out.trans (hbn.mono HBd.out.size)); clear hv hbn hn13)
        try go_wp2_with fail
        refine hK.out _ _ ?_ (fun hHeld => ?_)
        · first | exact True.intro | ((try dsimp only); go_keep)
        clear hK K
        try simp only [lyA, lyB, lyC, Act.put, lyD, lyE, lyF]
        have d3 : ((n13 : Int) != (n : Int)) = true := by have := HN13.out; simp; omega
        refine tkH (i := 14) (v := ?_) rfl (by kernel_rfl) (Or.inl ⟨by kernel_rfl, ?_⟩) (by assumption) ?_
        rotate_left 1
        · (intro w hSw; (try dsimp only at hSw); go_simp; try with_reducible rfl)
        try simp only [lyA, lyB, lyC, Act.put, lyD, lyE, lyF]
        refine tkH (i := 18) (v := ?_) rfl (by kernel_rfl) (Or.inl ⟨by kernel_rfl, ?_⟩) (by assumption) ?_
        rotate_left 1
        · (intro w hSw; (try dsimp only at hSw); go_simp; try with_reducible rfl)
        try simp only [lyA, lyB, lyC, Act.put, lyD, lyE, lyF]
        refine tkH (i := 19) (v := ?_) rfl (by kernel_rfl) (Or.inl ⟨by kernel_rfl, ?_⟩) (by assumption) ?_
        rotate_left 1
        · (intro w hSw; (try dsimp only at hSw); go_simp; try with_reducible rfl)
        try simp only [lyA, lyB, lyC, Act.put, lyD, lyE, lyF]
        refine tkH (i := 20) (v := ?_) rfl (by kernel_rfl) (Or.inl ⟨by kernel_rfl, ?_⟩) (by assumption) ?_
        rotate_left 1
        · (intro w hSw; (try dsimp only at hSw); go_simp; try with_reducible rfl)
        try simp only [lyA, lyB, lyC, Act.put, lyD, lyE, lyF]
        refine tkH (i := 21) (v := undef) rfl (by kernel_rfl) (Or.inr ⟨by kernel_rfl, rfl⟩) (by assumption) ?_
        try simp only [lyA, lyB, lyC, Act.put, lyD, lyE, lyF]
        refine tkH (i := 22) (v := undef) rfl (by kernel_rfl) (Or.inr ⟨by kernel_rfl, rfl⟩) (by assumption) ?_
        try simp only [lyA, lyB, lyC, Act.put, lyD, lyE, lyF]
        refine tkH (i := 23) (v := undef) rfl (by kernel_rfl) (Or.inr ⟨by kernel_rfl, rfl⟩) (by assumption) ?_
        try simp only [lyA, lyB, lyC, Act.put, lyD, lyE, lyF]
        refine tkH (i := 24) (v := undef) rfl (by kernel_rfl) (Or.inr ⟨by kernel_rfl, rfl⟩) (by assumption) ?_
        try simp only [lyA, lyB, lyC, Act.put, lyD, lyE, lyF]
        refine tkH (i := 25) (v := undef) rfl (by kernel_rfl) (Or.inr ⟨by kernel_rfl, rfl⟩) (by assumption) ?_
        try simp only [lyA, lyB, lyC, Act.put, lyD, lyE, lyF]
        refine tkH (i := 26) (v := undef) rfl (by kernel_rfl) (Or.inr ⟨by kernel_rfl, rfl⟩) (by assumption) ?_
        try simp only [lyA, lyB, lyC, Act.put, lyD, lyE, lyF]
        refine tkH (i := 27) (v := undef) rfl (by kernel_rfl) (Or.inr ⟨by kernel_rfl, rfl⟩) (by assumption) ?_
        try simp only [lyA, lyB, lyC, Act.put, lyD, lyE, lyF]
        refine tkH (i := 28) (v := undef) rfl (by kernel_rfl) (Or.inr ⟨by kernel_rfl, rfl⟩) (by assumption) ?_
        try simp only [lyA, lyB, lyC, Act.put, lyD, lyE, lyF]
        refine tkH (i := 29) (v := ?_) rfl (by kernel_rfl) (Or.inl ⟨by kernel_rfl, ?_⟩) (by assumption) ?_
        rotate_left 1
        · (intro w hSw; (try dsimp only at hSw); go_simp; try with_reducible rfl)
        try simp only [lyA, lyB, lyC, Act.put, lyD, lyE, lyF]
        refine tkH (i := 30) (v := ?_) rfl (by kernel_rfl) (Or.inl ⟨by kernel_rfl, ?_⟩) (by assumption) ?_
        rotate_left 1
        · (intro w hSw; (try dsimp only at hSw); go_simp; try with_reducible rfl)
        try simp only [lyA, lyB, lyC, Act.put, lyD, lyE, lyF]
        refine tkH (i := 31) (v := undef) rfl (by kernel_rfl) (Or.inr ⟨by kernel_rfl, rfl⟩) (by assumption) ?_
        try simp only [lyA, lyB, lyC, Act.put, lyD, lyE, lyF]
        refine tkH (i := 32) (v := undef) rfl (by kernel_rfl) (Or.inr ⟨by kernel_rfl, rfl⟩) (by assumption) ?_
        try simp only [lyA, lyB, lyC, Act.put, lyD, lyE, lyF]
        refine tkH (i := 33) (v := undef) rfl (by kernel_rfl) (Or.inr ⟨by kernel_rfl, rfl⟩) (by assumption) ?_
        try simp only [lyA, lyB, lyC, Act.put, lyD, lyE, lyF]
        refine tkH (i := 34) (v := undef) rfl (by kernel_rfl) (Or.inr ⟨by kernel_rfl, rfl⟩) (by assumption) ?_
        try simp only [lyA, lyB, lyC, Act.put, lyD, lyE, lyF]
        refine tkH (i := 35) (v := ?_) rfl (by kernel_rfl) (Or.inl ⟨by kernel_rfl, ?_⟩) (by assumption) ?_
        rotate_left 1
        · (intro w hSw; (try dsimp only at hSw); go_simp; try with_reducible rfl)
        try simp only [lyA, lyB, lyC, Act.put, lyD, lyE, lyF]
        refine wpAnyH_done (by kernel_rfl) ?_ _
        go_wp2_with fail
        go_ret
        exact ⟨by rw [HV.out]; rfl, HB0.out.trans (HBn13.out.mono HB0.out.size)⟩
      · by_cases t4 : (lim (ln ys)).length ≠ n'
        · have HV : Hid (b = false) := Lib.hid (by rw [HBB.out]; simp [t1, t2, t3, t4])
          go_enter Tryz.func30, Tryz.ntmps30
          go_wp2_with fail
          rw [← HW0.out]
          obtain ⟨k10, k11, k12⟩ := HK.out
          refine wp_region_held_drew (S := (fun w' => w'.cell? ⟨w.heap.size, 0, none⟩ = some (.bool s) ∧ w'.cell? ⟨w.heap.size, 1, none⟩ = some (.slice A n c) ∧ w'.cell? ⟨w.heap.size, 2, none⟩ = some (.slice A' n' c'))) (by kernel_rfl) ?_ (fun hHeld => ?_)
          · first | exact True.intro | ((try dsimp only); go_keep)
          clear k10 k11 k12
          have HBd : Hid (Below w0.heap.size w0 w0.drew) := Lib.hid ((Below.refl _ _).drew)
          refine tkH (i := 0) (v := ?_) rfl (by kernel_rfl) (Or.inl ⟨by kernel_rfl, ?_⟩) (by assumption) ?_
          rotate_left 1
          · (intro w hSw; (try dsimp only at hSw); go_simp; try with_reducible rfl)
          try simp only [lyA, lyB, lyC, Act.put, lyD, lyE, lyF]
          refine tkH (i := 1) (v := ?_) rfl (by kernel_rfl) (Or.inl ⟨by kernel_rfl, ?_⟩) (by assumption) ?_
          rotate_left 1
          · (intro w hSw; (try dsimp only at hSw); go_simp; try with_reducible rfl)
          try simp only [lyA, lyB, lyC, Act.put, lyD, lyE, lyF]
          refine tkH (i := 2) (v := ?_) rfl (by kernel_rfl) (Or.inl ⟨by kernel_rfl, ?_⟩) (by assumption) ?_
          rotate_left 1
          · (intro w hSw; (try dsimp only at hSw); go_simp; try with_reducible rfl)
          try simp only [lyA, lyB, lyC, Act.put, lyD, lyE, lyF]
          refine tkH (i := 3) (v := ?_) rfl (by kernel_rfl) (Or.inl ⟨by kernel_rfl, ?_⟩) (by assumption) ?_
          rotate_left 1
          · (intro w hSw; (try dsimp only at hSw); go_simp; try with_reducible rfl)
          try simp only [lyA, lyB, lyC, Act.put, lyD, lyE, lyF]
          refine tkH (i := 4) (v := ?_) rfl (by kernel_rfl) (Or.inl ⟨by kernel_rfl, ?_⟩) (by assumption) ?_
          rotate_left 1
          · (intro w hSw; (try dsimp only at hSw); go_simp; try with_reducible rfl)
          try simp only [lyA, lyB, lyC, Act.put, lyD, lyE, lyF]
          refine tkH (i := 5) (v := ?_) rfl (by kernel_rfl) (Or.inl ⟨by kernel_rfl, ?_⟩) (by assumption) ?_
          rotate_left 1
          · (intro w hSw; (try dsimp only at hSw); go_simp; try with_reducible rfl)
          try simp only [lyA, lyB, lyC, Act.put, lyD, lyE, lyF]
          refine tkH (i := 6) (v := ?_) rfl (by kernel_rfl) (Or.inl ⟨by kernel_rfl, ?_⟩) (by assumption) ?_
          rotate_left 1
          · (intro w hSw; (try dsimp only at hSw); go_simp; try with_reducible rfl)
          try simp only [lyA, lyB, lyC, Act.put, lyD, lyE, lyF]
          refine tkH (i := 7) (v := ?_) rfl (by kernel_rfl) (Or.inl ⟨by kernel_rfl, ?_⟩) (by assumption) ?_
          rotate_left 1
          · (intro w hSw; (try dsimp only at hSw); go_simp; try with_reducible rfl)
          try simp only [lyA, lyB, lyC, Act.put, lyD, lyE, lyF]
          refine tkH (i := 8) (v := ?_) rfl (by kernel_rfl) (Or.inl ⟨by kernel_rfl, ?_⟩) (by assumption) ?_
          rotate_left 1
          · (intro w hSw; (try dsimp only at hSw); go_simp; try with_reducible rfl)
          try simp only [lyA, lyB, lyC, Act.put, lyD, lyE, lyF]
          refine tkH (i := 9) (v := ?_) rfl (by kernel_rfl) (Or.inl ⟨by kernel_rfl, ?_⟩) (by assumption) ?_
          rotate_left 1
          · (intro w hSw; (try dsimp only at hSw); go_simp; try with_reducible rfl)
          try simp only [lyA, lyB, lyC, Act.put, lyD, lyE, lyF]
          refine tkH (i := 10) (v := ?_) rfl (by kernel_rfl) (Or.inl ⟨by kernel_rfl, ?_⟩) (by assumption) ?_
          rotate_left 1
          · (intro w hSw; (try dsimp only at hSw); go_simp; try with_reducible rfl)
          try simp only [lyA, lyB, lyC, Act.put, lyD, lyE, lyF]
          refine tkH (i := 11) (v := ?_) rfl (by kernel_rfl) (Or.inl ⟨by kernel_rfl, ?_⟩) (by assumption) ?_
          rotate_left 1
          · (intro w hSw; (try dsimp only at hSw); go_simp; try with_reducible rfl)
          try simp only [lyA, lyB, lyC, Act.put, lyD, lyE, lyF]
          refine tkH (i := 12) (v := ?_) rfl (by kernel_rfl) (Or.inl ⟨by kernel_rfl, ?_⟩) (by assumption) ?_
          rotate_left 1
          · (intro w hSw; (try dsimp only at hSw); go_simp; try with_reducible rfl)
          try simp only [lyA, lyB, lyC, Act.put, lyD, lyE, lyF]
          refine tkH (i := 15) (v := ?_) rfl (by kernel_rfl) (Or.inl ⟨by kernel_rfl, ?_⟩) (by assumption) ?_
          rotate_left 1
          · (intro w hSw; (try dsimp only at hSw); go_simp; try with_reducible rfl)
          try simp only [lyA, lyB, lyC, Act.put, lyD, lyE, lyF]
          refine tkH (i := 16) (v := ?_) rfl (by kernel_rfl) (Or.inl ⟨by kernel_rfl, ?_⟩) (by assumption) ?_
          rotate_left 1
          · (intro w hSw; (try dsimp only at hSw); go_simp; try with_reducible rfl)
          try simp only [lyA, lyB, lyC, Act.put, lyD, lyE, lyF]
          refine tkH (i := 17) (v := ?_) rfl (by kernel_rfl) (Or.inl ⟨by kernel_rfl, ?_⟩) (by assumption) ?_
          rotate_left 1
          · (intro w hSw; (try dsimp only at hSw); go_simp; try with_reducible rfl)
          try simp only [lyA, lyB, lyC, Act.put, lyD, lyE, lyF]
          refine wpAnyH_ready (rs := [13]) (by kernel_rfl) (by simp) ?_
          refine AllReadyH.cons rfl (fun K hK => ?_) AllReadyH.nil
          go_simp
          (refine (natTrim_any _ xs w0.drew (HX.out.below (HB0.out.trans (HBd.out.mono HB0.out.size))) HL1.out (by rw [← E1.out]; omega)).mono ?_; rintro e w13 ⟨v13, rfl, hv, hbn⟩; obtain ⟨A13, n13, c13, rfl, hn13, -, -⟩ := hv.parts; have HN13 := Lib.hid hn13; have hHeld := And.intro (bat hbn hHeld.1) (And.intro (bat hbn hHeld.2.1) (bat hbn hHeld.2.2)); have HBn13 := Lib.hid (HBd.out.trans (hbn.mono HBd.out.size)); clear hv hbn hn13)
          try go_wp2_with fail
          refine hK.out _ _ ?_ (fun hHeld => ?_)
          · first | exact True.intro | ((try dsimp only); go_keep)
          clear hK K
          try simp only [lyA, lyB, lyC, Act.put, lyD, lyE, lyF]
          have d3 : ((n13 : Int) != (n : Int)) = false := by have := HN13.out; simp; omega
          refine tkH (i := 14) (v := ?_) rfl (by kernel_rfl) (Or.inl ⟨by kernel_rfl, ?_⟩) (by assumption) ?_
          rotate_left 1
          · (intro w hSw; (try dsimp only at hSw); go_simp; try with_reducible rfl)
          try simp only [lyA, lyB, lyC, Act.put, lyD, lyE, lyF]
          refine tkH (i := 18) (v := ?_) rfl (by kernel_rfl) (Or.inl ⟨by kernel_rfl, ?_⟩) (by assumption) ?_
          rotate_left 1
          · (intro w hSw; (try dsimp only at hSw); go_simp; try with_reducible rfl)
          try simp only [lyA, lyB, lyC, Act.put, lyD, lyE, lyF]
          refine tkH (i := 19) (v := ?_) rfl (by kernel_rfl) (Or.inl ⟨by kernel_rfl, ?_⟩) (by assumption) ?_
          rotate_left 1
          · (intro w hSw; (try dsimp only at hSw); go_simp; try with_reducible rfl)
          try simp only [lyA, lyB, lyC, Act.put, lyD, lyE, lyF]
          refine tkH (i := 20) (v := ?_) rfl (by kernel_rfl) (Or.inl ⟨by kernel_rfl, ?_⟩) (by assumption) ?_
          rotate_left 1
          · (intro w hSw; (try dsimp only at hSw); go_simp; try with_reducible rfl)
          try simp only [lyA, lyB, lyC, Act.put, lyD, lyE, lyF]
          refine tkH (i := 21) (v := ?_) rfl (by kernel_rfl) (Or.inl ⟨by kernel_rfl, ?_⟩) (by assumption) ?_
          rotate_left 1
          · (intro w hSw; (try dsimp only at hSw); go_simp; try with_reducible rfl)
          try simp only [lyA, lyB, lyC, Act.put, lyD, lyE, lyF]
          refine tkH (i := 22) (v := ?_) rfl (by kernel_rfl) (Or.inl ⟨by kernel_rfl, ?_⟩) (by assumption) ?_
          rotate_left 1
          · (intro w hSw; (try dsimp only at hSw); go_simp; try with_reducible rfl)
          try simp only [lyA, lyB, lyC, Act.put, lyD, lyE, lyF]
          refine tkH (i := 25) (v := ?_) rfl (by kernel_rfl) (Or.inl ⟨by kernel_rfl, ?_⟩) (by assumption) ?_
          rotate_left 1
          · (intro w hSw; (try dsimp only at hSw); go_simp; try with_reducible rfl)
          try simp only [lyA, lyB, lyC, Act.put, lyD, lyE, lyF]
          refine tkH (i := 26) (v := ?_) rfl (by kernel_rfl) (Or.inl ⟨by kernel_rfl, ?_⟩) (by assumption) ?_
          rotate_left 1
          · (intro w hSw; (try dsimp only at hSw); go_simp; try with_reducible rfl)
          try simp only [lyA, lyB, lyC, Act.put, lyD, lyE, lyF]
          refine tkH (i := 27) (v := ?_) rfl (by kernel_rfl) (Or.inl ⟨by kernel_rfl, ?_⟩) (by assumption) ?_
          rotate_left 1
          · (intro w hSw; (try dsimp only at hSw); go_simp; try with_reducible rfl)
          try simp only [lyA, lyB, lyC, Act.put, lyD, lyE, lyF]
          refine wpAnyH_ready (rs := [23]) (by kernel_rfl) (by simp) ?_
          refine AllReadyH.cons rfl (fun K hK => ?_) AllReadyH.nil
          go_simp
          (refine (natTrim_any _ ys w13 (HY.out.below (HB0.out.trans (HBn13.out.mono HB0.out.size))) HL2.out (by rw [← E2.out]; omega)).mono ?_; rintro e w23 ⟨v23, rfl, hv, hbn⟩; obtain ⟨A23, n23, c23, rfl, hn23, -, -⟩ := hv.parts; have HN23 := Lib.hid hn23; have hHeld := And.intro (bat hbn hHeld.1) (And.intro (bat hbn hHeld.2.1) (bat hbn hHeld.2.2)); have HBn23 := Lib.hid (HBn13.out.trans (hbn.mono HBn13.out.size)); clear hv hbn hn23)
          try go_wp2_with fail
          refine hK.out _ _ ?_ (fun hHeld => ?_)
          · first | exact True.intro | ((try dsimp only); go_keep)
          clear hK K
          try simp only [lyA, lyB, lyC, Act.put, lyD, lyE, lyF]
          have d4 : ((n23 : Int) != (n' : Int)) = true := by have := HN23.out; simp; omega
          refine tkH (i := 24) (v := ?_) rfl (by kernel_rfl) (Or.inl ⟨by kernel_rfl, ?_⟩) (by assumption) ?_
          rotate_left 1
          · (intro w hSw; (try dsimp only at hSw); go_simp; try with_reducible rfl)
          try simp only [lyA, lyB, lyC, Act.put, lyD, lyE, lyF]
          refine tkH (i := 28) (v := ?_) rfl (by kernel_rfl) (Or.inl ⟨by kernel_rfl, ?_⟩) (by assumption) ?_
          rotate_left 1
          · (intro w hSw; (try dsimp only at hSw); go_simp; try with_reducible rfl)
          try simp only [lyA, lyB, lyC, Act.put, lyD, lyE, lyF]
          refine tkH (i := 29) (v := ?_) rfl (by kernel_rfl) (Or.inl ⟨by kernel_rfl, ?_⟩) (by assumption) ?_
          rotate_left 1
          · (intro w hSw; (try dsimp only at hSw); go_simp; try with_reducible rfl)
          try simp only [lyA, lyB, lyC, Act.put, lyD, lyE, lyF]
          refine tkH (i := 30) (v := ?_) rfl (by kernel_rfl) (Or.inl ⟨by kernel_rfl, ?_⟩) (by assumption) ?_
          rotate_left 1
          · (intro w hSw; (try dsimp only at hSw); go_simp; try with_reducible rfl)
          try simp only [lyA, lyB, lyC, Act.put, lyD, lyE, lyF]
          refine tkH (i := 31) (v := undef) rfl (by kernel_rfl) (Or.inr ⟨by kernel_rfl, rfl⟩) (by assumption) ?_
          try simp only [lyA, lyB, lyC, Act.put, lyD, lyE, lyF]
          refine tkH (i := 32) (v := undef) rfl (by kernel_rfl) (Or.inr ⟨by kernel_rfl, rfl⟩) (by assumption) ?_
          try simp only [lyA, lyB, lyC, Act.put, lyD, lyE, lyF]
          refine tkH (i := 33) (v := undef) rfl (by kernel_rfl) (Or.inr ⟨by kernel_rfl, rfl⟩) (by assumption) ?_
          try simp only [lyA, lyB, lyC, Act.put, lyD, lyE, lyF]
          refine tkH (i := 34) (v := undef) rfl (by kernel_rfl) (Or.inr ⟨by kernel_rfl, rfl⟩) (by assumption) ?_
          try simp only [lyA, lyB, lyC, Act.put, lyD, lyE, lyF]
          refine tkH (i := 35) (v := ?_) rfl (by kernel_rfl) (Or.inl ⟨by kernel_rfl, ?_⟩) (by assumption) ?_
          rotate_left 1
          · (intro w hSw; (try dsimp only at hSw); go_simp; try with_reducible rfl)
          try simp only [lyA, lyB, lyC, Act.put, lyD, lyE, lyF]
          refine wpAnyH_done (by kernel_rfl) ?_ _
          go_wp2_with fail
          go_ret
          exact ⟨by rw [HV.out]; rfl, HB0.out.trans (HBn23.out.mono HB0.out.size)⟩
        · by_cases t5 : n' = 0
          · have d5 : ((n' : Int) == 0) = true := by simp; omega
            have HV : Hid (b = false) := Lib.hid (by rw [HBB.out]; simp [t1, t2, t3, t4, t5])
            clear t5
            go_enter Tryz.func30, Tryz.ntmps30
            go_wp2_with fail
            rw [← HW0.out]
            obtain ⟨k10, k11, k12⟩ := HK.out
            refine wp_region_held_drew (S := (fun w' => w'.cell? ⟨w.heap.size, 0, none⟩ = some (.bool s) ∧ w'.cell? ⟨w.heap.size, 1, none⟩ = some (.slice A n c) ∧ w'.cell? ⟨w.heap.size, 2, none⟩ = some (.slice A' n' c'))) (by kernel_rfl) ?_ (fun hHeld => ?_)
            · first | exact True.intro | ((try dsimp only); go_keep)
            clear k10 k11 k12
            have HBd : Hid (Below w0.heap.size w0 w0.drew) := Lib.hid ((Below.refl _ _).drew)
            refine tkH (i := 0) (v := ?_) rfl (by kernel_rfl) (Or.inl ⟨by kernel_rfl, ?_⟩) (by assumption) ?_
            rotate_left 1
            · (intro w hSw; (try dsimp only at hSw); go_simp; try with_reducible rfl)
            try simp only [lyA, lyB, lyC, Act.put, lyD, lyE, lyF]
            refine tkH (i := 1) (v := ?_) rfl (by kernel_rfl) (Or.inl ⟨by kernel_rfl, ?_⟩) (by assumption) ?_
            rotate_left 1
            · (intro w hSw; (try dsimp only at hSw); go_simp; try with_reducible rfl)
            try simp only [lyA, lyB, lyC, Act.put, lyD, lyE, lyF]
            refine tkH (i := 2) (v := ?_) rfl (by kernel_rfl) (Or.inl ⟨by kernel_rfl, ?_⟩) (by assumption) ?_
            rotate_left 1
            · (intro w hSw; (try dsimp only at hSw); go_simp; try with_reducible rfl)
            try simp only [lyA, lyB, lyC, Act.put, lyD, lyE, lyF]
            refine tkH (i := 3) (v := ?_) rfl (by kernel_rfl) (Or.inl ⟨by kernel_rfl, ?_⟩) (by assumption) ?_
            rotate_left 1
            · (intro w hSw; (try dsimp only at hSw); go_simp; try with_reducible rfl)
            try simp only [lyA, lyB, lyC, Act.put, lyD, lyE, lyF]
            refine tkH (i := 4) (v := ?_) rfl (by kernel_rfl) (Or.inl ⟨by kernel_rfl, ?_⟩) (by assumption) ?_
            rotate_left 1
            · (intro w hSw; (try dsimp only at hSw); go_simp; try with_reducible rfl)
            try simp only [lyA, lyB, lyC, Act.put, lyD, lyE, lyF]
            refine tkH (i := 5) (v := ?_) rfl (by kernel_rfl) (Or.inl ⟨by kernel_rfl, ?_⟩) (by assumption) ?_
            rotate_left 1
            · (intro w hSw; (try dsimp only at hSw); go_simp; try with_reducible rfl)
            try simp only [lyA, lyB, lyC, Act.put, lyD, lyE, lyF]
            refine tkH (i := 6) (v := ?_) rfl (by kernel_rfl) (Or.inl ⟨by kernel_rfl, ?_⟩) (by assumption) ?_
            rotate_left 1
            · (intro w hSw; (try dsimp only at hSw); go_simp; try with_reducible rfl)
            try simp only [lyA, lyB, lyC, Act.put, lyD, lyE, lyF]
            refine tkH (i := 7) (v := ?_) rfl (by kernel_rfl) (Or.inl ⟨by kernel_rfl, ?_⟩) (by assumption) ?_
            rotate_left 1
            · (intro w hSw; (try dsimp only at hSw); go_simp; try with_reducible rfl)
            try simp only [lyA, lyB, lyC, Act.put, lyD, lyE, lyF]
            refine tkH (i := 8) (v := ?_) rfl (by kernel_rfl) (Or.inl ⟨by kernel_rfl, ?_⟩) (by assumption) ?_
            rotate_left 1
            · (intro w hSw; (try dsimp only at hSw); go_simp; try with_reducible rfl)
            try simp only [lyA, lyB, lyC, Act.put, lyD, lyE, lyF]
            refine tkH (i := 9) (v := ?_) rfl (by kernel_rfl) (Or.inl ⟨by kernel_rfl, ?_⟩) (by assumption) ?_
            rotate_left 1
            · (intro w hSw; (try dsimp only at hSw); go_simp; try with_reducible rfl)
            try simp only [lyA, lyB, lyC, Act.put, lyD, lyE, lyF]
            refine tkH (i := 10) (v := ?_) rfl (by kernel_rfl) (Or.inl ⟨by kernel_rfl, ?_⟩) (by assumption) ?_
            rotate_left 1
            · (intro w hSw; (try dsimp only at hSw); go_simp; try with_reducible rfl)
            try simp only [lyA, lyB, lyC, Act.put, lyD, lyE, lyF]
            refine tkH (i := 11) (v := ?_) rfl (by kernel_rfl) (Or.inl ⟨by kernel_rfl, ?_⟩) (by assumption) ?_
            rotate_left 1
            · (intro w hSw; (try dsimp only at hSw); go_simp; try with_reducible rfl)
            try simp only [lyA, lyB, lyC, Act.put, lyD, lyE, lyF]
            refine tkH (i := 12) (v := ?_) rfl (by kernel_rfl) (Or.inl ⟨by kernel_rfl, ?_⟩) (by assumption) ?_
            rotate_left 1
            · (intro w hSw; (try dsimp only at hSw); go_simp; try with_reducible rfl)
            try simp only [lyA, lyB, lyC, Act.put, lyD, lyE, lyF]
            refine tkH (i := 15) (v := ?_) rfl (by kernel_rfl) (Or.inl ⟨by kernel_rfl, ?_⟩) (by assumption) ?_
            rotate_left 1
            · (intro w hSw; (try dsimp only at hSw); go_simp; try with_reducible rfl)
            try simp only [lyA, lyB, lyC, Act.put, lyD, lyE, lyF]
            refine tkH (i := 16) (v := ?_) rfl (by kernel_rfl) (Or.inl ⟨by kernel_rfl, ?_⟩) (by assumption) ?_
            rotate_left 1
            · (intro w hSw; (try dsimp only at hSw); go_simp; try with_reducible rfl)
            try simp only [lyA, lyB, lyC, Act.put, lyD, lyE, lyF]
            refine tkH (i := 17) (v := ?_) rfl (by kernel_rfl) (Or.inl ⟨by kernel_rfl, ?_⟩) (by assumption) ?_
            rotate_left 1
            · (intro w hSw; (try dsimp only at hSw); go_simp; try with_reducible rfl)
            try simp only [lyA, lyB, lyC, Act.put, lyD, lyE, lyF]
            refine wpAnyH_ready (rs := [13]) (by kernel_rfl) (by simp) ?_
            refine AllReadyH.cons rfl (fun K hK => ?_) AllReadyH.nil
            go_simp
            (refine (natTrim_any _ xs w0.drew (HX.out.below (HB0.out.trans (HBd.out.mono HB0.out.size))) HL1.out (by rw [← E1.out]; omega)).mono ?_; rintro e w13 ⟨v13, rfl, hv, hbn⟩; obtain ⟨A13, n13, c13, rfl, hn13, -, -⟩ := hv.parts; have HN13 := Lib.hid hn13; have hHeld := And.intro (bat hbn hHeld.1) (And.intro (bat hbn hHeld.2.1) (bat hbn hHeld.2.2)); have HBn13 := Lib.hid (HBd.out.trans (hbn.mono HBd.out.size)); clear hv hbn hn13)
            try go_wp2_with fail
            refine hK.out _ _ ?_ (fun hHeld => ?_)
            · first | exact True.intro | ((try dsimp only); go_keep)
            clear hK K
            try simp only [lyA, lyB, lyC, Act.put, lyD, lyE, lyF]
            have d3 : ((n13 : Int) != (n : Int)) = false := by have := HN13.out; simp; omega
            refine tkH (i := 14) (v := ?_) rfl (by kernel_rfl) (Or.inl ⟨by kernel_rfl, ?_⟩) (by assumption) ?_
            rotate_left 1
            · (intro w hSw; (try dsimp only at hSw); go_simp; try with_reducible rfl)
            try simp only [lyA, lyB, lyC, Act.put, lyD, lyE, lyF]
            refine tkH (i := 18) (v := ?_) rfl (by kernel_rfl) (Or.inl ⟨by kernel_rfl, ?_⟩) (by assumption) ?_
            rotate_left 1
            · (intro w hSw; (try dsimp only at hSw); go_simp; try with_reducible rfl)
            try simp only [lyA, lyB, lyC, Act.put, lyD, lyE, lyF]
            refine tkH (i := 19) (v := ?_) rfl (by kernel_rfl) (Or.inl ⟨by kernel_rfl, ?_⟩) (by assumption) ?_
            rotate_left 1
            · (intro w hSw; (try dsimp only at hSw); go_simp; try with_reducible rfl)
            try simp only [lyA, lyB, lyC, Act.put, lyD, lyE, lyF]
            refine tkH (i := 20) (v := ?_) rfl (by kernel_rfl) (Or.inl ⟨by kernel_rfl, ?_⟩) (by assumption) ?_
            rotate_left 1
            · (intro w hSw; (try dsimp only at hSw); go_simp; try with_reducible rfl)
            try simp only [lyA, lyB, lyC, Act.put, lyD, lyE, lyF]
            refine tkH (i := 21) (v := ?_) rfl (by kernel_rfl) (Or.inl ⟨by kernel_rfl, ?_⟩) (by assumption) ?_
            rotate_left 1
            · (intro w hSw; (try dsimp only at hSw); go_simp; try with_reducible rfl)
            try simp only [lyA, lyB, lyC, Act.put, lyD, lyE, lyF]
            refine tkH (i := 22) (v := ?_) rfl (by kernel_rfl) (Or.inl ⟨by kernel_rfl, ?_⟩) (by assumption) ?_
            rotate_left 1
            · (intro w hSw; (try dsimp only at hSw); go_simp; try with_reducible rfl)
            try simp only [lyA, lyB, lyC, Act.put, lyD, lyE, lyF]
            refine tkH (i := 25) (v := ?_) rfl (by kernel_rfl) (Or.inl ⟨by kernel_rfl, ?_⟩) (by assumption) ?_
            rotate_left 1
            · (intro w hSw; (try dsimp only at hSw); go_simp; try with_reducible rfl)
            try simp only [lyA, lyB, lyC, Act.put, lyD, lyE, lyF]
            refine tkH (i := 26) (v := ?_) rfl (by kernel_rfl) (Or.inl ⟨by kernel_rfl, ?_⟩) (by assumption) ?_
            rotate_left 1
            · (intro w hSw; (try dsimp only at hSw); go_simp; try with_reducible rfl)
            try simp only [lyA, lyB, lyC, Act.put, lyD, lyE, lyF]
            refine tkH (i := 27) (v := ?_) rfl (by kernel_rfl) (Or.inl ⟨by kernel_rfl, ?_⟩) (by assumption) ?_
            rotate_left 1
            · (intro w hSw; (try dsimp only at hSw); go_simp; try with_reducible rfl)
            try simp only [lyA, lyB, lyC, Act.put, lyD, lyE, lyF]
            refine wpAnyH_ready (rs := [23]) (by kernel_rfl) (by simp) ?_
            refine AllReadyH.cons rfl (fun K hK => ?_) AllReadyH.nil
            go_simp
            (refine (natTrim_any _ ys w13 (HY.out.below (HB0.out.trans (HBn13.out.mono HB0.out.size))) HL2.out (by rw [← E2.out]; omega)).mono ?_; rintro e w23 ⟨v23, rfl, hv, hbn⟩; obtain ⟨A23, n23, c23, rfl, hn23, -, -⟩ := hv.parts; have HN23 := Lib.hid hn23; have hHeld := And.intro (bat hbn hHeld.1) (And.intro (bat hbn hHeld.2.1) (bat hbn hHeld.2.2)); have HBn23 := Lib.hid (HBn13.out.trans (hbn.mono HBn13.out.size)); clear hv hbn hn23)
            try go_wp2_with fail
            refine hK.out _ _ ?_ (fun hHeld => ?_)
            · first | exact True.intro | ((try dsimp only); go_keep)
            clear hK K
            try simp only [lyA, lyB, lyC, Act.put, lyD, lyE, lyF]
            have d4 : ((n23 : Int) != (n' : Int)) = false := by have := HN23.out; simp; omega
            refine tkH (i := 24) (v := ?_) rfl (by kernel_rfl) (Or.inl ⟨by kernel_rfl, ?_⟩) (by assumption) ?_
            rotate_left 1
            · (intro w hSw; (try dsimp only at hSw); go_simp; try with_reducible rfl)
            try simp only [lyA, lyB, lyC, Act.put, lyD, lyE, lyF]
            refine tkH (i := 28) (v := ?_) rfl (by kernel_rfl) (Or.inl ⟨by kernel_rfl, ?_⟩) (by assumption) ?_
            rotate_left 1
            · (intro w hSw; (try dsimp only at hSw); go_simp; try with_reducible rfl)
            try simp only [lyA, lyB, lyC, Act.put, lyD, lyE, lyF]
            refine tkH (i := 29) (v := ?_) rfl (by kernel_rfl) (Or.inl ⟨by kernel_rfl, ?_⟩) (by assumption) ?_
            rotate_left 1
            · (intro w hSw; (try dsimp only at hSw); go_simp; try with_reducible rfl)
            try simp only [lyA, lyB, lyC, Act.put, lyD, lyE, lyF]
            refine tkH (i := 30) (v := ?_) rfl (by kernel_rfl) (Or.inl ⟨by kernel_rfl, ?_⟩) (by assumption) ?_
            rotate_left 1
            · (intro w hSw; (try dsimp only at hSw); go_simp; try with_reducible rfl)
            try simp only [lyA, lyB, lyC, Act.put, lyD, lyE, lyF]
            refine tkH (i := 31) (v := ?_) rfl (by kernel_rfl) (Or.inl ⟨by kernel_rfl, ?_⟩) (by assumption) ?_
            rotate_left 1
            · (intro w hSw; (try dsimp only at hSw); go_simp; try with_reducible rfl)
            try simp only [lyA, lyB, lyC, Act.put, lyD, lyE, lyF]
            refine tkH (i := 32) (v := ?_) rfl (by kernel_rfl) (Or.inl ⟨by kernel_rfl, ?_⟩) (by assumption) ?_
            rotate_left 1
            · (intro w hSw; (try dsimp only at hSw); go_simp; try with_reducible rfl)
            try simp only [lyA, lyB, lyC, Act.put, lyD, lyE, lyF]
            refine tkH (i := 33) (v := ?_) rfl (by kernel_rfl) (Or.inl ⟨by kernel_rfl, ?_⟩) (by assumption) ?_
            rotate_left 1
            · (intro w hSw; (try dsimp only at hSw); go_simp; try with_reducible rfl)
            try simp only [lyA, lyB, lyC, Act.put, lyD, lyE, lyF]
            refine tkH (i := 34) (v := ?_) rfl (by kernel_rfl) (Or.inl ⟨by kernel_rfl, ?_⟩) (by assumption) ?_
            rotate_left 1
            · (intro w hSw; (try dsimp only at hSw); go_simp; try with_reducible rfl)
            try simp only [lyA, lyB, lyC, Act.put, lyD, lyE, lyF]
            refine tkH (i := 35) (v := ?_) rfl (by kernel_rfl) (Or.inl ⟨by kernel_rfl, ?_⟩) (by assumption) ?_
            rotate_left 1
            · (intro w hSw; (try dsimp only at hSw); go_simp; try with_reducible rfl)
            try simp only [lyA, lyB, lyC, Act.put, lyD, lyE, lyF]
            refine wpAnyH_done (by kernel_rfl) ?_ _
            go_wp2_with fail
            go_ret
            exact ⟨by rw [HV.out]; rfl, HB0.out.trans (HBn23.out.mono HB0.out.size)⟩
          · have d5 : ((n' : Int) == 0) = false := by simp; omega
            have HV : Hid (b = if n = 0 then !s && decide (ln ys = 1) else decide (Nat.gcd (ln xs) (ln ys) = 1)) := Lib.hid (by
              have t3' : (lim (ln xs)).length = n := by omega
              have t4' : (lim (ln ys)).length = n' := by omega
              rw [HBB.out]; simp only [t1, t2, t3', t4', t5, decide_false, ne_eq, not_true_eq_false, Bool.or_false, Bool.not_false, Bool.true_and])
            go_enter Tryz.func30, Tryz.ntmps30
            go_wp2_with fail
            rw [← HW0.out]
            obtain ⟨k10, k11, k12⟩ := HK.out
            refine wp_region_held_drew (S := (fun w' => w'.cell? ⟨w.heap.size, 0, none⟩ = some (.bool s) ∧ w'.cell? ⟨w.heap.size, 1, none⟩ = some (.slice A n c) ∧ w'.cell? ⟨w.heap.size, 2, none⟩ = some (.slice A' n' c'))) (by kernel_rfl) ?_ (fun hHeld => ?_)
            · first | exact True.intro | ((try dsimp only); go_keep)
            clear k10 k11 k12
            have HBd : Hid (Below w0.heap.size w0 w0.drew) := Lib.hid ((Below.refl _ _).drew)
            refine tkH (i := 0) (v := ?_) rfl (by kernel_rfl) (Or.inl ⟨by kernel_rfl, ?_⟩) (by assumption) ?_
            rotate_left 1
            · (intro w hSw; (try dsimp only at hSw); go_simp; try with_reducible rfl)
            try simp only [lyA, lyB, lyC, Act.put, lyD, lyE, lyF]
            refine tkH (i := 1) (v := ?_) rfl (by kernel_rfl) (Or.inl ⟨by kernel_rfl, ?_⟩) (by assumption) ?_
            rotate_left 1
            · (intro w hSw; (try dsimp only at hSw); go_simp; try with_reducible rfl)
            try simp only [lyA, lyB, lyC, Act.put, lyD, lyE, lyF]
            refine tkH (i := 2) (v := ?_) rfl (by kernel_rfl) (Or.inl ⟨by kernel_rfl, ?_⟩) (by assumption) ?_
            rotate_left 1
            · (intro w hSw; (try dsimp only at hSw); go_simp; try with_reducible rfl)
            try simp only [lyA, lyB, lyC, Act.put, lyD, lyE, lyF]
            refine tkH (i := 3) (v := ?_) rfl (by kernel_rfl) (Or.inl ⟨by kernel_rfl, ?_⟩) (by assumption) ?_
            rotate_left 1
            · (intro w hSw; (try dsimp only at hSw); go_simp; try with_reducible rfl)
            try simp only [lyA, lyB, lyC, Act.put, lyD, lyE, lyF]
            refine tkH (i := 4) (v := ?_) rfl (by kernel_rfl) (Or.inl ⟨by kernel_rfl, ?_⟩) (by assumption) ?_
            rotate_left 1
            · (intro w hSw; (try dsimp only at hSw); go_simp; try with_reducible rfl)
            try simp only [lyA, lyB, lyC, Act.put, lyD, lyE, lyF]
            refine tkH (i := 5) (v := ?_) rfl (by kernel_rfl) (Or.inl ⟨by kernel_rfl, ?_⟩) (by assumption) ?_
            rotate_left 1
            · (intro w hSw; (try dsimp only at hSw); go_simp; try with_reducible rfl)
            try simp only [lyA, lyB, lyC, Act.put, lyD, lyE, lyF]
            refine tkH (i := 6) (v := ?_) rfl (by kernel_rfl) (Or.inl ⟨by kernel_rfl, ?_⟩) (by assumption) ?_
            rotate_left 1
            · (intro w hSw; (try dsimp only at hSw); go_simp; try with_reducible rfl)
            try simp only [lyA, lyB, lyC, Act.put, lyD, lyE, lyF]
            refine tkH (i := 7) (v := ?_) rfl (by kernel_rfl) (Or.inl ⟨by kernel_rfl, ?_⟩) (by assumption) ?_
            rotate_left 1
            · (intro w hSw; (try dsimp only at hSw); go_simp; try with_reducible rfl)
            try simp only [lyA, lyB, lyC, Act.put, lyD, lyE, lyF]
            refine tkH (i := 8) (v := ?_) rfl (by kernel_rfl) (Or.inl ⟨by kernel_rfl, ?_⟩) (by assumption) ?_
            rotate_left 1
            · (intro w hSw; (try dsimp only at hSw); go_simp; try with_reducible rfl)
            try simp only [lyA, lyB, lyC, Act.put, lyD, lyE, lyF]
            refine tkH (i := 9) (v := ?_) rfl (by kernel_rfl) (Or.inl ⟨by kernel_rfl, ?_⟩) (by assumption) ?_
            rotate_left 1
            · (intro w hSw; (try dsimp only at hSw); go_simp; try with_reducible rfl)
            try simp only [lyA, lyB, lyC, Act.put, lyD, lyE, lyF]
            refine tkH (i := 10) (v := ?_) rfl (by kernel_rfl) (Or.inl ⟨by kernel_rfl, ?_⟩) (by assumption) ?_
            rotate_left 1
            · (intro w hSw; (try dsimp only at hSw); go_simp; try with_reducible rfl)
            try simp only [lyA, lyB, lyC, Act.put, lyD, lyE, lyF]
            refine tkH (i := 11) (v := ?_) rfl (by kernel_rfl) (Or.inl ⟨by kernel_rfl, ?_⟩) (by assumption) ?_
            rotate_left 1
            · (intro w hSw; (try dsimp only at hSw); go_simp; try with_reducible rfl)
            try simp only [lyA, lyB, lyC, Act.put, lyD, lyE, lyF]
            refine tkH (i := 12) (v := ?_) rfl (by kernel_rfl) (Or.inl ⟨by kernel_rfl, ?_⟩) (by assumption) ?_
            rotate_left 1
            · (intro w hSw; (try dsimp only at hSw); go_simp; try with_reducible rfl)
            try simp only [lyA, lyB, lyC, Act.put, lyD, lyE, lyF]
            refine tkH (i := 15) (v := ?_) rfl (by kernel_rfl) (Or.inl ⟨by kernel_rfl, ?_⟩) (by assumption) ?_
            rotate_left 1
            · (intro w hSw; (try dsimp only at hSw); go_simp; try with_reducible rfl)
            try simp only [lyA, lyB, lyC, Act.put, lyD, lyE, lyF]
            refine tkH (i := 16) (v := ?_) rfl (by kernel_rfl) (Or.inl ⟨by kernel_rfl, ?_⟩) (by assumption) ?_
            rotate_left 1
            · (intro w hSw; (try dsimp only at hSw); go_simp; try with_reducible rfl)
            try simp only [lyA, lyB, lyC, Act.put, lyD, lyE, lyF]
            refine tkH (i := 17) (v := ?_) rfl (by kernel_rfl) (Or.inl ⟨by kernel_rfl, ?_⟩) (by assumption) ?_
            rotate_left 1
            · (intro w hSw; (try dsimp only at hSw); go_simp; try with_reducible rfl)
            try simp only [lyA, lyB, lyC, Act.put, lyD, lyE, lyF]
            refine wpAnyH_ready (rs := [13]) (by kernel_rfl) (by simp) ?_
            refine AllReadyH.cons rfl (fun K hK => ?_) AllReadyH.nil
            go_simp
            (refine (natTrim_any _ xs w0.drew (HX.out.below (HB0.out.trans (HBd.out.mono HB0.out.size))) HL1.out (by rw [← E1.out]; omega)).mono ?_; rintro e w13 ⟨v13, rfl, hv, hbn⟩; obtain ⟨A13, n13, c13, rfl, hn13, -, -⟩ := hv.parts; have HN13 := Lib.hid hn13; have hHeld := And.intro (bat hbn hHeld.1) (And.intro (bat hbn hHeld.2.1) (bat hbn hHeld.2.2)); have HBn13 := Lib.hid (HBd.out.trans (hbn.mono HBd.out.size)); clear hv hbn hn13)
            try go_wp2_with fail
            refine hK.out _ _ ?_ (fun hHeld => ?_)
            · first | exact True.intro | ((try dsimp only); go_keep)
            clear hK K
            try simp only [lyA, lyB, lyC, Act.put, lyD, lyE, lyF]
            have d3 : ((n13 : Int) != (n : Int)) = false := by have := HN13.out; simp; omega
            refine tkH (i := 14) (v := ?_) rfl (by kernel_rfl) (Or.inl ⟨by kernel_rfl, ?_⟩) (by assumption) ?_
            rotate_left 1
            · (intro w hSw; (try dsimp only at hSw); go_simp; try with_reducible rfl)
            try simp only [lyA, lyB, lyC, Act.put, lyD, lyE, lyF]
            refine tkH (i := 18) (v := ?_) rfl (by kernel_rfl) (Or.inl ⟨by kernel_rfl, ?_⟩) (by assumption) ?_
            rotate_left 1
            · (intro w hSw; (try dsimp only at hSw); go_simp; try with_reducible rfl)
            try simp only [lyA, lyB, lyC, Act.put, lyD, lyE, lyF]
            refine tkH (i := 19) (v := ?_) rfl (by kernel_rfl) (Or.inl ⟨by kernel_rfl, ?_⟩) (by assumption) ?_
            rotate_left 1
            · (intro w hSw; (try dsimp only at hSw); go_simp; try with_reducible rfl)
            try simp only [lyA, lyB, lyC, Act.put, lyD, lyE, lyF]
            refine tkH (i := 20) (v := ?_) rfl (by kernel_rfl) (Or.inl ⟨by kernel_rfl, ?_⟩) (by assumption) ?_
            rotate_left 1
            · (intro w hSw; (try dsimp only at hSw); go_simp; try with_reducible rfl)
            try simp only [lyA, lyB, lyC, Act.put, lyD, lyE, lyF]
            refine tkH (i := 21) (v := ?_) rfl (by kernel_rfl) (Or.inl ⟨by kernel_rfl, ?_⟩) (by assumption) ?_
            rotate_left 1
            · (intro w hSw; (try dsimp only at hSw); go_simp; try with_reducible rfl)
            try simp only [lyA, lyB, lyC, Act.put, lyD, lyE, lyF]
            refine tkH (i := 22) (v := ?_) rfl (by kernel_rfl) (Or.inl ⟨by kernel_rfl, ?_⟩) (by assumption) ?_
            rotate_left 1
            · (intro w hSw; (try dsimp only at hSw); go_simp; try with_reducible rfl)
            try simp only [lyA, lyB, lyC, Act.put, lyD, lyE, lyF]
            refine tkH (i := 25) (v := ?_) rfl (by kernel_rfl) (Or.inl ⟨by kernel_rfl, ?_⟩) (by assumption) ?_
            rotate_left 1
            · (intro w hSw; (try dsimp only at hSw); go_simp; try with_reducible rfl)
            try simp only [lyA, lyB, lyC, Act.put, lyD, lyE, lyF]
            refine tkH (i := 26) (v := ?_) rfl (by kernel_rfl) (Or.inl ⟨by kernel_rfl, ?_⟩) (by assumption) ?_
            rotate_left 1
            · (intro w hSw; (try dsimp only at hSw); go_simp; try with_reducible rfl)
            try simp only [lyA, lyB, lyC, Act.put, lyD, lyE, lyF]
            refine tkH (i := 27) (v := ?_) rfl (by kernel_rfl) (Or.inl ⟨by kernel_rfl, ?_⟩) (by assumption) ?_
            rotate_left 1
            · (intro w hSw; (try dsimp only at hSw); go_simp; try with_reducible rfl)
            try simp only [lyA, lyB, lyC, Act.put, lyD, lyE, lyF]
            refine wpAnyH_ready (rs := [23]) (by kernel_rfl) (by simp) ?_
            refine AllReadyH.cons rfl (fun K hK => ?_) AllReadyH.nil
            go_simp
            (refine (natTrim_any _ ys w13 (HY.out.below (HB0.out.trans (HBn13.out.mono HB0.out.size))) HL2.out (by rw [← E2.out]; omega)).mono ?_; rintro e w23 ⟨v23, rfl, hv, hbn⟩; obtain ⟨A23, n23, c23, rfl, hn23, -, -⟩ := hv.parts; have HN23 := Lib.hid hn23; have hHeld := And.intro (bat hbn hHeld.1) (And.intro (bat hbn hHeld.2.1) (bat hbn hHeld.2.2)); have HBn23 := Lib.hid (HBn13.out.trans (hbn.mono HBn13.out.size)); clear hv hbn hn23)
            try go_wp2_with fail
            refine hK.out _ _ ?_ (fun hHeld => ?_)
            · first | exact True.intro | ((try dsimp only); go_keep)
            clear hK K
            try simp only [lyA, lyB, lyC, Act.put, lyD, lyE, lyF]
            have d4 : ((n23 : Int) != (n' : Int)) = false := by have := HN23.out; simp; omega
            refine tkH (i := 24) (v := ?_) rfl (by kernel_rfl) (Or.inl ⟨by kernel_rfl, ?_⟩) (by assumption) ?_
            rotate_left 1
            · (intro w hSw; (try dsimp only at hSw); go_simp; try with_reducible rfl)
            try simp only [lyA, lyB, lyC, Act.put, lyD, lyE, lyF]
            refine tkH (i := 28) (v := ?_) rfl (by kernel_rfl) (Or.inl ⟨by kernel_rfl, ?_⟩) (by assumption) ?_
            rotate_left 1
            · (intro w hSw; (try dsimp only at hSw); go_simp; try with_reducible rfl)
            try simp only [lyA, lyB, lyC, Act.put, lyD, lyE, lyF]
            refine tkH (i := 29) (v := ?_) rfl (by kernel_rfl) (Or.inl ⟨by kernel_rfl, ?_⟩) (by assumption) ?_
            rotate_left 1
            · (intro w hSw; (try dsimp only at hSw); go_simp; try with_reducible rfl)
            try simp only [lyA, lyB, lyC, Act.put, lyD, lyE, lyF]
            refine tkH (i := 30) (v := ?_) rfl (by kernel_rfl) (Or.inl ⟨by kernel_rfl, ?_⟩) (by assumption) ?_
            rotate_left 1
            · (intro w hSw; (try dsimp only at hSw); go_simp; try with_reducible rfl)
            try simp only [lyA, lyB, lyC, Act.put, lyD, lyE, lyF]
            refine tkH (i := 31) (v := ?_) rfl (by kernel_rfl) (Or.inl ⟨by kernel_rfl, ?_⟩) (by assumption) ?_
            rotate_left 1
            · (intro w hSw; (try dsimp only at hSw); go_simp; try with_reducible rfl)
            try simp only [lyA, lyB, lyC, Act.put, lyD, lyE, lyF]
            refine tkH (i := 32) (v := ?_) rfl (by kernel_rfl) (Or.inl ⟨by kernel_rfl, ?_⟩) (by assumption) ?_
            rotate_left 1
            · (intro w hSw; (try dsimp only at hSw); go_simp; try with_reducible rfl)
            try simp only [lyA, lyB, lyC, Act.put, lyD, lyE, lyF]
            refine tkH (i := 33) (v := ?_) rfl (by kernel_rfl) (Or.inl ⟨by kernel_rfl, ?_⟩) (by assumption) ?_
            rotate_left 1
            · (intro w hSw; (try dsimp only at hSw); go_simp; try with_reducible rfl)
            try simp only [lyA, lyB, lyC, Act.put, lyD, lyE, lyF]
            refine tkH (i := 34) (v := ?_) rfl (by kernel_rfl) (Or.inl ⟨by kernel_rfl, ?_⟩) (by assumption) ?_
            rotate_left 1
            · (intro w hSw; (try dsimp only at hSw); go_simp; try with_reducible rfl)
            try simp only [lyA, lyB, lyC, Act.put, lyD, lyE, lyF]
            refine tkH (i := 35) (v := ?_) rfl (by kernel_rfl) (Or.inl ⟨by kernel_rfl, ?_⟩) (by assumption) ?_
            rotate_left 1
            · (intro w hSw; (try dsimp only at hSw); go_simp; try with_reducible rfl)
            try simp only [lyA, lyB, lyC, Act.put, lyD, lyE, lyF]
            refine wpAnyH_done (by kernel_rfl) ?_ _
            obtain ⟨k10, k11, k12⟩ := hHeld
            have HKs := Lib.hid (And.intro k10 (And.intro k11 k12))
            by_cases t6 : n = 0
            · have d6 : ((n : Int) == 0) = true := by simp; omega
              have T6 := Lib.hid t6
              clear t6
              go_wp2_with fail
              clear k10 k11 k12
              have HBe : Hid (Below w0.heap.size w0 w23.drew) := Lib.hid (HBn23.out.drew)
              cases s
              · obtain ⟨k10, k11, k12⟩ := HKs.out
                refine wp_region_held_drew (S := (fun w' => w'.cell? ⟨w.heap.size, 0, none⟩ = some (.bool false) ∧ w'.cell? ⟨w.heap.size, 1, none⟩ = some (.slice A n c) ∧ w'.cell? ⟨w.heap.size, 2, none⟩ = some (.slice A' n' c'))) (by kernel_rfl) ?_ (fun hHeld => ?_)
                · first | exact True.intro | ((try dsimp only); go_keep)
                clear k10 k11 k12
                refine tkH (i := 0) (v := ?_) rfl (by kernel_rfl) (Or.inl ⟨by kernel_rfl, ?_⟩) (by assumption) ?_
                rotate_left 1
                · (intro w hSw; (try dsimp only at hSw); go_simp; try with_reducible rfl)
                try simp only [lyA, lyB, lyC, Act.put, lyD, lyE, lyF]
                refine tkH (i := 1) (v := ?_) rfl (by kernel_rfl) (Or.inl ⟨by kernel_rfl, ?_⟩) (by assumption) ?_
                rotate_left 1
                · (intro w hSw; (try dsimp only at hSw); go_simp; try with_reducible rfl)
                try simp only [lyA, lyB, lyC, Act.put, lyD, lyE, lyF]
                refine tkH (i := 2) (v := ?_) rfl (by kernel_rfl) (Or.inl ⟨by kernel_rfl, ?_⟩) (by assumption) ?_
                rotate_left 1
                · (intro w hSw; (try dsimp only at hSw); go_simp; try with_reducible rfl)
                try simp only [lyA, lyB, lyC, Act.put, lyD, lyE, lyF]
                refine tkH (i := 3) (v := ?_) rfl (by kernel_rfl) (Or.inl ⟨by kernel_rfl, ?_⟩) (by assumption) ?_
                rotate_left 1
                · (intro w hSw; (try dsimp only at hSw); go_simp; try with_reducible rfl)
                try simp only [lyA, lyB, lyC, Act.put, lyD, lyE, lyF]
                refine tkH (i := 4) (v := ?_) rfl (by kernel_rfl) (Or.inl ⟨by kernel_rfl, ?_⟩) (by assumption) ?_
                rotate_left 1
                · (intro w hSw; (try dsimp only at hSw); go_simp; try with_reducible rfl)
                try simp only [lyA, lyB, lyC, Act.put, lyD, lyE, lyF]
                refine tkH (i := 5) (v := ?_) rfl (by kernel_rfl) (Or.inl ⟨by kernel_rfl, ?_⟩) (by assumption) ?_
                rotate_left 1
                · (intro w hSw; (try dsimp only at hSw); go_simp; try with_reducible rfl)
                try simp only [lyA, lyB, lyC, Act.put, lyD, lyE, lyF]
                refine wpAnyH_ready (rs := [6]) (by kernel_rfl) (by simp) ?_
                refine AllReadyH.cons rfl (fun K hK => ?_) AllReadyH.nil
                go_simp
                (refine (one_any w23.drew).mono ?_; rintro e w6 ⟨v6, rfl, hv6, hb6⟩; have hHeld := And.intro (bat hb6 hHeld.1) (And.intro (bat hb6 hHeld.2.1) (bat hb6 hHeld.2.2)); have HV6 := Lib.hid hv6; have HB6 := Lib.hid (HBe.out.trans (hb6.mono HBe.out.size)); clear hv6 hb6)
                try go_wp2_with fail
                refine hK.out _ _ ?_ (fun hHeld => ?_)
                · first | exact True.intro | ((try dsimp only); go_keep)
                clear hK K
                try simp only [lyA, lyB, lyC, Act.put, lyD, lyE, lyF]
                refine wpAnyH_ready (rs := [7]) (by kernel_rfl) (by simp) ?_
                refine AllReadyH.cons rfl (fun K hK => ?_) AllReadyH.nil
                go_simp
                (refine (natCmp_any _ _ ys [1] w6 (HY.out.below (HB0.out.trans (HB6.out.mono HB0.out.size))) HV6.out HL2.out (fun x hx => by simp at hx; subst hx; decide) (by rw [← E2.out]; omega) (by simp)).mono ?_; rintro e w7 ⟨rfl, hb7⟩; have hHeld := And.intro (bat hb7 hHeld.1) (And.intro (bat hb7 hHeld.2.1) (bat hb7 hHeld.2.2)); have HB7 := Lib.hid (HB6.out.trans (hb7.mono HB6.out.size)); clear hb7)
                try go_wp2_with fail
                refine hK.out _ _ ?_ (fun hHeld => ?_)
                · first | exact True.intro | ((try dsimp only); go_keep)
                clear hK K
                try simp only [lyA, lyB, lyC, Act.put, lyD, lyE, lyF]
                have hcm : (cmpN (ln ys) (ln [1]) == 0) = decide (ln ys = 1) := cmpN_one1
                obtain ⟨z, hz⟩ : ∃ z, z = decide (ln ys = 1) := ⟨_, rfl⟩
                rw [← hz] at hcm
                have HZ := Lib.hid hz
                clear hz
                refine tkH (i := 8) (v := ?_) rfl (by kernel_rfl) (Or.inl ⟨by kernel_rfl, ?_⟩) (by assumption) ?_
                rotate_left 1
                · (intro w hSw; (try dsimp only at hSw); go_simp; try with_reducible rfl)
                try simp only [lyA, lyB, lyC, Act.put, lyD, lyE, lyF]
                refine tkH (i := 9) (v := ?_) rfl (by kernel_rfl) (Or.inl ⟨by kernel_rfl, ?_⟩) (by assumption) ?_
                rotate_left 1
                · (intro w hSw; (try dsimp only at hSw); go_simp; try with_reducible rfl)
                try simp only [lyA, lyB, lyC, Act.put, lyD, lyE, lyF]
                refine wpAnyH_ready (rs := [10]) (by kernel_rfl) (by simp) ?_
                refine AllReadyH.cons rfl (fun K hK => ?_) AllReadyH.nil
                go_simp
                refine hK.out _ _ ?_ (fun hHeld => ?_)
                · first | exact True.intro | ((try dsimp only); go_keep)
                clear hK K
                try simp only [lyA, lyB, lyC, Act.put, lyD, lyE, lyF]
                refine wpAnyH_done (by kernel_rfl) ?_ _
                go_wp2_with fail
                go_ret
                refine ⟨?_, HB0.out.trans (HB7.out.mono HB0.out.size)⟩
                have hbz : b = z := by rw [HV.out, if_pos T6.out, ← HZ.out]; rfl
                rw [hbz]
                rfl
              · obtain ⟨k10, k11, k12⟩ := HKs.out
                refine wp_region_held_drew (S := (fun w' => w'.cell? ⟨w.heap.size, 0, none⟩ = some (.bool true) ∧ w'.cell? ⟨w.heap.size, 1, none⟩ = some (.slice A n c) ∧ w'.cell? ⟨w.heap.size, 2, none⟩ = some (.slice A' n' c'))) (by kernel_rfl) ?_ (fun hHeld => ?_)
                · first | exact True.intro | ((try dsimp only); go_keep)
                clear k10 k11 k12
                refine tkH (i := 0) (v := ?_) rfl (by kernel_rfl) (Or.inl ⟨by kernel_rfl, ?_⟩) (by assumption) ?_
                rotate_left 1
                · (intro w hSw; (try dsimp only at hSw); go_simp; try with_reducible rfl)
                try simp only [lyA, lyB, lyC, Act.put, lyD, lyE, lyF]
                refine tkH (i := 1) (v := ?_) rfl (by kernel_rfl) (Or.inl ⟨by kernel_rfl, ?_⟩) (by assumption) ?_
                rotate_left 1
                · (intro w hSw; (try dsimp only at hSw); go_simp; try with_reducible rfl)
                try simp only [lyA, lyB, lyC, Act.put, lyD, lyE, lyF]
                refine tkH (i := 2) (v := ?_) rfl (by kernel_rfl) (Or.inl ⟨by kernel_rfl, ?_⟩) (by assumption) ?_
                rotate_left 1
                · (intro w hSw; (try dsimp only at hSw); go_simp; try with_reducible rfl)
                try simp only [lyA, lyB, lyC, Act.put, lyD, lyE, lyF]
                refine tkH (i := 3) (v := ?_) rfl (by kernel_rfl) (Or.inl ⟨by kernel_rfl, ?_⟩) (by assumption) ?_
                rotate_left 1
                · (intro w hSw; (try dsimp only at hSw); go_simp; try with_reducible rfl)
                try simp only [lyA, lyB, lyC, Act.put, lyD, lyE, lyF]
                refine tkH (i := 4) (v := undef) rfl (by kernel_rfl) (Or.inr ⟨by kernel_rfl, rfl⟩) (by assumption) ?_
                try simp only [lyA, lyB, lyC, Act.put, lyD, lyE, lyF]
                refine tkH (i := 5) (v := undef) rfl (by kernel_rfl) (Or.inr ⟨by kernel_rfl, rfl⟩) (by assumption) ?_
                try simp only [lyA, lyB, lyC, Act.put, lyD, lyE, lyF]
                refine tkH (i := 6) (v := undef) rfl (by kernel_rfl) (Or.inr ⟨by kernel_rfl, rfl⟩) (by assumption) ?_
                try simp only [lyA, lyB, lyC, Act.put, lyD, lyE, lyF]
                refine tkH (i := 7) (v := undef) rfl (by kernel_rfl) (Or.inr ⟨by kernel_rfl, rfl⟩) (by assumption) ?_
                try simp only [lyA, lyB, lyC, Act.put, lyD, lyE, lyF]
                refine tkH (i := 8) (v := undef) rfl (by kernel_rfl) (Or.inr ⟨by kernel_rfl, rfl⟩) (by assumption) ?_
                try simp only [lyA, lyB, lyC, Act.put, lyD, lyE, lyF]
                refine tkH (i := 9) (v := ?_) rfl (by kernel_rfl) (Or.inl ⟨by kernel_rfl, ?_⟩) (by assumption) ?_
                rotate_left 1
                · (intro w hSw; (try dsimp only at hSw); go_simp; try with_reducible rfl)
                try simp only [lyA, lyB, lyC, Act.put, lyD, lyE, lyF]
                refine wpAnyH_ready (rs := [10]) (by kernel_rfl) (by simp) ?_
                refine AllReadyH.cons rfl (fun K hK => ?_) AllReadyH.nil
                go_simp
                refine hK.out _ _ ?_ (fun hHeld => ?_)
                · first | exact True.intro | ((try dsimp only); go_keep)
                clear hK K
                try simp only [lyA, lyB, lyC, Act.put, lyD, lyE, lyF]
                refine wpAnyH_done (by kernel_rfl) ?_ _
                go_wp2_with fail
                go_ret
                refine ⟨?_, HB0.out.trans (HBe.out.mono HB0.out.size)⟩
                have hbz : b = false := by rw [HV.out, if_pos T6.out]; rfl
                rw [hbz]
                rfl
            · have d6 : ((n : Int) == 0) = false := by simp; omega
              go_wp2_with fail
              clear k10 k11 k12
              refine (natGcd_any _ _ xs ys w23 (HX.out.below (HB0.out.trans (HBn23.out.mono HB0.out.size))) (HY.out.below (HB0.out.trans (HBn23.out.mono HB0.out.size))) HL1.out HL2.out (by rw [← E1.out]; omega) (by rw [← E2.out]; omega)).mono ?_
              rintro e w3 ⟨v3, rfl, hv3, hb3⟩
              obtain ⟨g, hg⟩ : ∃ g, g = Nat.gcd (ln xs) (ln ys) := ⟨_, rfl⟩
              rw [← hg] at hv3
              have HG := Lib.hid hg
              have HV3 := Lib.hid hv3
              have HB3 := Lib.hid (HBn23.out.trans (hb3.mono HBn23.out.size))
              have hgl : (lim g).length ≤ 10000000000 := by
                by_cases hy0 : ln ys = 0
                · rw [hg, hy0, Nat.gcd_zero_right]; exact Nat.le_trans (lim_ln_len HL1.out) (by rw [← E1.out]; omega)
                · exact Nat.le_trans (lim_len_mono (show g ≤ ln ys by rw [hg]; exact Nat.gcd_le_right _ (Nat.pos_of_ne_zero hy0))) (Nat.le_trans (lim_ln_len HL2.out) (by rw [← E2.out]; omega))
              have HGL := Lib.hid hgl
              clear hg hv3 hb3 hgl
              go_wp2_with fail
              refine (one_any w3).mono ?_
              rintro e w4 ⟨v4, rfl, hv4, hb4⟩
              have HV4 := Lib.hid hv4
              have HV3b := Lib.hid (HV3.out.below hb4)
              have HB4 := Lib.hid (HB3.out.trans (hb4.mono HB3.out.size))
              clear hv4 hb4
              go_wp2_with fail
              refine (natCmp_any _ _ (lim g) [1] w4 HV3b.out HV4.out (lim_lds _) (fun x hx => by simp at hx; subst hx; decide) HGL.out (by simp)).mono ?_
              rintro e w5 ⟨rfl, hb5⟩
              have HB5 := Lib.hid (HB4.out.trans (hb5.mono HB4.out.size))
              rw [ln_dig]
              have hcm : (cmpN g (ln [1]) == 0) = decide (g = 1) := cmpN_one1
              obtain ⟨z, hz⟩ : ∃ z, z = decide (g = 1) := ⟨_, rfl⟩
              rw [← hz] at hcm
              have HZ := Lib.hid hz
              clear hz hb5
              go_wp2_with fail
              go_ret
              refine ⟨?_, HB0.out.trans (HB5.out.mono HB0.out.size)⟩
              have hbz : b = z := by rw [HV.out, if_neg t6, HZ.out]; exact decide_eq_decide.2 (by rw [HG.out])
              rw [hbz]
              rfl

end Go.Proofs.YtjokpfgncmdomaaGreatDoor
