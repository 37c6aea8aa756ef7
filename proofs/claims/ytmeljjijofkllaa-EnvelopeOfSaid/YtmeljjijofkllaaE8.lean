import Derived.Test.YtmeljjijofkllaaE4
namespace Go.Proofs.Ytmeljjijofkllaa
open Go.RowKit Go.Sort

def awL : List (List Spn) := [[⟨4607182418800017408, 4611686018427387904⟩, ⟨4617315517961601024, 4618441417868443648⟩], [⟨0, 4613937818241073152⟩, ⟨4617315517961601024, 4621256167635550208⟩]]
def awM : List (List Spn) := [[⟨4607182418800017408, 4611686018427387904⟩], []]
def awR : List Rng := [⟨⟨0, 1⟩, ⟨4613937818241073152, 1⟩⟩, ⟨⟨4617315517961601024, 0⟩, ⟨4621256167635550208, 1⟩⟩]
theorem awL_err : ofErr awL = 0 := by decide +kernel
theorem awL_res : ofRes awL = awR := by rfl
theorem awM_err : ofErr awM = 4 := by decide +kernel

theorem aw_rows (w : World) : RdRows Spn.cells 2 (((w.alloc (.cells #[.float .f64 4607182418800017408, .float .f64 4611686018427387904, .float .f64 4617315517961601024, .float .f64 4618441417868443648] 43)).alloc (.cells #[.float .f64 0, .float .f64 4613937818241073152, .float .f64 4617315517961601024, .float .f64 4621256167635550208] 43)).alloc
    (.cells #[.slice (some ⟨w.heap.size, 0, none⟩) 2 2, .slice (some ⟨w.heap.size + 1, 0, none⟩) 2 2] 31)) (fun b => b < w.heap.size + 3) (some ⟨w.heap.size + 1 + 1, 0, none⟩) 2 awL := by
  have h0 := blk_old (blk_old (blk_new w #[.float .f64 4607182418800017408, .float .f64 4611686018427387904, .float .f64 4617315517961601024, .float .f64 4618441417868443648] 43) (.cells #[.float .f64 0, .float .f64 4613937818241073152, .float .f64 4617315517961601024, .float .f64 4621256167635550208] 43)) (.cells #[.slice (some ⟨w.heap.size, 0, none⟩) 2 2, .slice (some ⟨w.heap.size + 1, 0, none⟩) 2 2] 31)
  have h1 := blk_old (blk_new (w.alloc (.cells #[.float .f64 4607182418800017408, .float .f64 4611686018427387904, .float .f64 4617315517961601024, .float .f64 4618441417868443648] 43)) #[.float .f64 0, .float .f64 4613937818241073152, .float .f64 4617315517961601024, .float .f64 4621256167635550208] 43) (.cells #[.slice (some ⟨w.heap.size, 0, none⟩) 2 2, .slice (some ⟨w.heap.size + 1, 0, none⟩) 2 2] 31)
  have h2 := blk_new ((w.alloc (.cells #[.float .f64 4607182418800017408, .float .f64 4611686018427387904, .float .f64 4617315517961601024, .float .f64 4618441417868443648] 43)).alloc (.cells #[.float .f64 0, .float .f64 4613937818241073152, .float .f64 4617315517961601024, .float .f64 4621256167635550208] 43)) #[.slice (some ⟨w.heap.size, 0, none⟩) 2 2, .slice (some ⟨w.heap.size + 1, 0, none⟩) 2 2] 31
  simp only [World.size_alloc] at h1 h2
  refine ⟨⟨_, rd_blk h2 (n := 2) (size := 1) rfl (by omega), fun i l hl => ?_⟩, rfl⟩
  match i, hl with
  | 0, hl =>
    simp [awL] at hl
    subst hl
    exact ⟨_, 2, rfl, Nat.le_refl _, rde_blk h0 rfl (by omega) rfl rfl⟩
  | 1, hl =>
    simp [awL] at hl
    subst hl
    exact ⟨_, 2, rfl, Nat.le_refl _, rde_blk h1 rfl (by omega) rfl rfl⟩

theorem aw_rows2 (w : World) : RdRows Spn.cells 2 ((w.alloc (.cells #[.float .f64 4607182418800017408, .float .f64 4611686018427387904] 43)).alloc (.cells #[.slice (some ⟨w.heap.size, 0, none⟩) 1 1, .slice none 0 0] 31)) (fun b => b < w.heap.size + 2) (some ⟨w.heap.size + 1, 0, none⟩) 2 awM := by
  have h0 := blk_old (blk_new w #[.float .f64 4607182418800017408, .float .f64 4611686018427387904] 43) (.cells #[.slice (some ⟨w.heap.size, 0, none⟩) 1 1, .slice none 0 0] 31)
  have h2 := blk_new (w.alloc (.cells #[.float .f64 4607182418800017408, .float .f64 4611686018427387904] 43)) #[.slice (some ⟨w.heap.size, 0, none⟩) 1 1, .slice none 0 0] 31
  simp only [World.size_alloc] at h2
  refine ⟨⟨_, rd_blk h2 (n := 2) (size := 1) rfl (by omega), fun i l hl => ?_⟩, rfl⟩
  match i, hl with
  | 0, hl =>
    simp [awM] at hl
    subst hl
    exact ⟨_, 1, rfl, Nat.le_refl _, rde_blk h0 rfl (by omega) rfl rfl⟩
  | 1, hl =>
    simp [awM] at hl
    subst hl
    exact ⟨none, 0, rfl, Nat.le_refl _, RdE.nil ..⟩

theorem aw_len (L : List (List Spn)) (h : (L.all fun l => decide (l.length ≤ 2)) = true) : ∀ (i : Nat) (l : List Spn), L[i]? = some l → l.length ≤ 8796093021952 := by
  intro i l hl
  have := List.all_eq_true.1 h l (List.mem_of_getElem? hl)
  simp at this
  omega

theorem awake_any (w : World) : Calls Try.prog 7 #[] w fun e w' => e = .returned (.bool true) ∧ Below w.heap.size w w' := by
  have q1 : ∀ W, (binOp .eql 47 (.agg #[.float .f64 0, .int .i64 1, .float .f64 4613937818241073152, .int .i64 1]) (.agg #[.float .f64 0, .int .i64 1, .float .f64 4613937818241073152, .int .i64 1])).run Try.prog W = .ok (.bool true) W := fun W => by kernel_rfl
  have q2 : ∀ W, (binOp .eql 47 (.agg #[.float .f64 4617315517961601024, .int .i64 0, .float .f64 4621256167635550208, .int .i64 1]) (.agg #[.float .f64 4617315517961601024, .int .i64 0, .float .f64 4621256167635550208, .int .i64 1])).run Try.prog W = .ok (.bool true) W := fun W => by kernel_rfl
  go_enter Try.func7, Try.ntmps7
  go_wp2_with fail
  refine (of_any _ 2 2 awL _ _ (aw_rows w) (fun b hb => by simp; omega) (by omega) (aw_len _ (by decide))).mono ?_
  rintro e w1 ⟨A, n, c, he, hnc, hr, hb⟩
  rw [awL_err] at he
  rw [awL_res] at hr
  obtain rfl : 2 = n := hr.num
  subst he
  have hb := below_then (below3 _ _ _ _) hb
  have HR := Lib.hid hr
  have HB := Lib.hid hb
  clear hr hb
  go_wp2_with fail
  refine (of_any _ 2 2 awM _ _ (aw_rows2 w1) (fun b hb => by simp; omega) (by omega) (aw_len _ (by decide))).mono ?_
  rintro e w2 ⟨A2, n2, c2, he2, hnc2, hr2, hb2⟩
  rw [awM_err] at he2
  subst he2
  have HB2 := Lib.hid (below_then (below2 _ _ _) hb2)
  clear hr2 hb2
  obtain ⟨b0, o0, rfl, hs0, hc0⟩ := HR.out.elem Rng.clen (show awR[0]? = some _ from rfl) (by omega)
  obtain ⟨b1, o1, e1, hs1, hc1⟩ := HR.out.elem Rng.clen (show awR[1]? = some _ from rfl) (by omega)
  simp only [Option.some.injEq, Addr.mk.injEq, and_true] at e1
  obtain ⟨rfl, rfl⟩ := e1
  have k0 := bat HB2.out (hc0 0 _ rfl)
  have k1 := bat HB2.out (hc0 1 _ rfl)
  have k2 := bat HB2.out (hc0 2 _ rfl)
  have k3 := bat HB2.out (hc0 3 _ rfl)
  have k4 := bat HB2.out (hc1 0 _ rfl)
  have k5 := bat HB2.out (hc1 1 _ rfl)
  have k6 := bat HB2.out (hc1 2 _ rfl)
  have k7 := bat HB2.out (hc1 3 _ rfl)
  simp only [Nat.zero_mul, Nat.one_mul, Nat.add_zero] at k0 k1 k2 k3 k4 k5 k6 k7
  clear hc0 hc1
  go_wp2
  go_ret
  exact ⟨rfl, below_then HB.out HB2.out⟩

end Go.Proofs.Ytmeljjijofkllaa
