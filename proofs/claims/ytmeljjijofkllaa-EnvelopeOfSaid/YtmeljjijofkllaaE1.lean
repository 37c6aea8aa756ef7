import Derived.Test.YtmeljjijofkllaaFK
namespace Go.Proofs.Ytmeljjijofkllaa
open Go.RowKit

@[go_sem] theorem frombits_run (n : Int) (w : World) : (callFunc 41 #[.int .u64 n]).run Try.prog w = .ok (.value (.float .f64 n.toNat)) w :=
  (run_callFunc_extern (P := Try.prog) (e := Extern.MathFloatBits.float64frombits) Try.func41 (by kernel_rfl) (by kernel_rfl) (by kernel_rfl) (by kernel_rfl) _ w).trans rfl
@[go_sem] theorem floatbits_run (n : Nat) (w : World) : (callFunc 43 #[.float .f64 n]).run Try.prog w = .ok (.value (.int .u64 n)) w :=
  (run_callFunc_extern (P := Try.prog) (e := Extern.MathFloatBits.float64bits) Try.func43 (by kernel_rfl) (by kernel_rfl) (by kernel_rfl) (by kernel_rfl) _ w).trans rfl
@[go_sem] theorem store_float_run (P : Program) (w : World) (a : Addr) (m : Mode) (k : FloatKind) (b : Nat) : (store a (.float k b) m).run P w = stored P w a (.float k b) m := run_store P w a _ m rfl

theorem inf_pos (w : World) :
    Calls Try.prog 35 #[.int .i64 1] w fun e w' => e = .returned (.float .f64 9218868437227405312) ∧ w = w' := by
  go_enter Try.func35, Try.ntmps35
  go_wp2
  all_goals (go_ret; exact ⟨rfl, rfl⟩)
theorem inf_neg (w : World) :
    Calls Try.prog 35 #[.int .i64 (-1)] w fun e w' => e = .returned (.float .f64 18442240474082181120) ∧ w = w' := by
  go_enter Try.func35, Try.ntmps35
  go_wp2
  all_goals (go_ret; exact ⟨rfl, rfl⟩)

structure Ext where
  at_ : Nat
  of_ : Int
structure Rng where
  least : Ext
  most : Ext
abbrev Ext.val (x : Ext) : Value := .agg #[.float .f64 x.at_, .int .i64 x.of_]
abbrev Rng.val (x : Rng) : Value := .agg #[.float .f64 x.least.at_, .int .i64 x.least.of_, .float .f64 x.most.at_, .int .i64 x.most.of_]
def bothR (a b : Rng) : Rng := ⟨if flt b.least.at_ a.least.at_ then b.least else a.least, if fgt b.most.at_ a.most.at_ then b.most else a.most⟩


set_option maxHeartbeats 400000 in
theorem both_any (x y : Rng) (w : World) :
    Calls Try.prog 24 #[x.val, y.val] w fun e w' => e = .returned (bothR x y).val ∧ Below w.heap.size w w' := by
  obtain ⟨⟨a, i⟩, ⟨b, j⟩⟩ := x
  obtain ⟨⟨c, k⟩, ⟨d, l⟩⟩ := y
  have hv : (bothR ⟨⟨a, i⟩, ⟨b, j⟩⟩ ⟨⟨c, k⟩, ⟨d, l⟩⟩).val = .agg #[.float .f64 (if flt c a then c else a), .int .i64 (if flt c a then k else i), .float .f64 (if fgt d b then d else b), .int .i64 (if fgt d b then l else j)] := by
    simp only [bothR]; cases flt c a <;> cases fgt d b <;> rfl
  rw [hv]
  clear hv
  cases h1 : flt c a <;> cases h2 : fgt d b
  all_goals
    unfold flt at h1
    unfold fgt at h2
    simp only [if_true, if_false, Bool.false_eq_true]
    go_enter Try.func24, Try.ntmps24
    go_wp2
    exact bodyPost_ret (by simp [results, Try.results24, go_sem]) rfl ⟨rfl, below3 ..⟩

structure Spn where
  lo : Nat
  hi : Nat
abbrev Spn.val (x : Spn) : Value := .agg #[.float .f64 x.lo, .float .f64 x.hi]
def rightB (x : Spn) : Bool := fle x.lo x.hi && (flt x.lo 9218868437227405312 && fgt x.hi 18442240474082181120)


theorem right_any (x : Spn) (w : World) :
    Calls Try.prog 23 #[x.val] w fun e w' => e = .returned (.bool (rightB x)) ∧ Below w.heap.size w w' := by
  obtain ⟨a, b⟩ := x
  have i1 := inf_pos
  have i2 := inf_neg
  have I1 := Lib.hid i1
  have I2 := Lib.hid i2
  clear i1 i2
  have hv : rightB ⟨a, b⟩ = (fle a b && (flt a 9218868437227405312 && fgt b 18442240474082181120)) := rfl
  rw [hv]
  clear hv
  cases h1 : fle a b <;> cases h2 : flt a 9218868437227405312
  all_goals
    have h1' := h1
    unfold fle at h1
    unfold flt at h2
    go_enter Try.func23, Try.ntmps23
    go_wp2_with fail
    go_quiet (first
      | (go_at_call_of 35 (Value.int IntKind.i64 1); exact Calls.quiet_of_same ((I1.out _).mono fun _ _ ⟨h, h'⟩ => ⟨h, h'.symm⟩))
      | (go_at_call 35; exact Calls.quiet_of_same ((I2.out _).mono fun _ _ ⟨h, h'⟩ => ⟨h, h'.symm⟩)))
    go_wp2
    go_ret
    refine ⟨?_, below_drewN (below1 ..) _⟩
    simp [h1', h2, flt, fgt]

def sameF (a b : Nat) : Bool := decide ((a : Int) = b) || (!feq a a && !feq b b)
theorem sameF_any (a b : Nat) (w : World) :
    Calls Try.prog 42 #[.float .f64 a, .float .f64 b] w fun e w' => e = .returned (.bool (sameF a b)) ∧ w = w' := by
  unfold sameF
  cases h1 : ((a : Int) == b) <;> cases h2 : feq a a
  all_goals
    have h2' := h2
    unfold feq at h2'
    have h3 : (FloatKind.f64.format.order a a != some .eq) = !(FloatKind.f64.format.order a a == some .eq) := rfl
    rw [h2'] at h3
    simp only [Bool.not_false, Bool.not_true] at h3
    have H2 := Lib.hid h2
    clear h2 h2'
    go_enter Try.func42, Try.ntmps42
    go_wp2
    go_ret
    refine ⟨?_, rfl⟩
    simp_all [feq, H2.out]
    try rfl

theorem sameSpan_any (x y : Spn) (w : World) :
    Calls Try.prog 37 #[x.val, y.val] w fun e w' => e = .returned (.bool (sameF x.lo y.lo && sameF x.hi y.hi)) ∧ Below w.heap.size w w' := by
  obtain ⟨a, b⟩ := x
  obtain ⟨c, d⟩ := y
  have i1 := sameF_any
  have I1 := Lib.hid i1
  clear i1
  cases h1 : sameF a c <;> cases h2 : sameF b d
  all_goals
    have H1 := Lib.hid h1
    have H2 := Lib.hid h2
    clear h1 h2
    go_enter Try.func37, Try.ntmps37
    go_wp2_with (go_at_call 42; refine (I1.out _ _ _).mono ?_; rintro e w' ⟨rfl, rfl⟩; first | rw [H1.out] | rw [H2.out])
    go_ret
    exact ⟨by simp [H1.out, H2.out], below2 ..⟩

theorem sameExt_any (x y : Ext) (w : World) :
    Calls Try.prog 39 #[x.val, y.val] w fun e w' => e = .returned (.bool (sameF x.at_ y.at_ && (x.of_ == y.of_))) ∧ Below w.heap.size w w' := by
  obtain ⟨a, b⟩ := x
  obtain ⟨c, d⟩ := y
  have i1 := sameF_any
  have I1 := Lib.hid i1
  clear i1
  cases h1 : sameF a c
  all_goals
    have H1 := Lib.hid h1
    clear h1
    go_enter Try.func39, Try.ntmps39
    go_wp2_with (first
      | (go_at_call 42; refine (I1.out a c _).mono ?_; rintro e w' ⟨rfl, rfl⟩; rw [H1.out]))
    go_ret
    exact ⟨by simp [H1.out], below2 ..⟩

theorem sameRng_any (x y : Rng) (w : World) :
    Calls Try.prog 32 #[x.val, y.val] w fun e w' => e = .returned (.bool ((sameF x.least.at_ y.least.at_ && (x.least.of_ == y.least.of_)) && (sameF x.most.at_ y.most.at_ && (x.most.of_ == y.most.of_)))) ∧ Below w.heap.size w w' := by
  obtain ⟨⟨a, b⟩, ⟨c, d⟩⟩ := x
  obtain ⟨⟨a', b'⟩, ⟨c', d'⟩⟩ := y
  have i1 : ∀ (a : Nat) (b : Int) (c : Nat) (d : Int) (w : World), Calls Try.prog 39 #[.agg #[.float .f64 a, .int .i64 b], .agg #[.float .f64 c, .int .i64 d]] w fun e w' => e = .returned (.bool (sameF a c && (b == d))) ∧ Below w.heap.size w w' := fun a b c d w => sameExt_any ⟨a, b⟩ ⟨c, d⟩ w
  have I1 := Lib.hid i1
  clear i1
  cases h1 : (sameF a a' && (b == b')) <;> cases h2 : (sameF c c' && (d == d'))
  all_goals
    have H1 := Lib.hid h1
    have H2 := Lib.hid h2
    clear h1 h2
    go_enter Try.func32, Try.ntmps32
    go_wp2_with (go_at_call 39; refine (I1.out _ _ _ _ _).mono ?_; rintro e w' ⟨rfl, hb⟩; obtain ⟨hc, hf⟩ := bcell hb; first | rw [H1.out] | rw [H2.out])
    go_ret
    first
      | exact ⟨rfl, below_then (below2 ..) hb⟩
      | exact ⟨rfl, below_then (below_then (below2 ..) ‹_›) ‹_›⟩

def markZ (k i : Int) : Int := 1000003 * (k + 7) + i
theorem mark_any (k i : Int) (w : World) (hk0 : 0 ≤ k) (hk : k ≤ 3) (hi0 : 0 ≤ i) (hi : i ≤ 1000000000000000) :
    Calls Try.prog 36 #[.int .i64 k, .int .i64 i] w fun e w' => e = .returned (.int .i64 (markZ k i)) ∧ w = w' := by
  go_enter Try.func36, Try.ntmps36
  go_wp2
  go_ret
  exact ⟨rfl, rfl⟩

def markS (k i : Int) : Spn := ⟨floatOfInt .f64 (markZ k i), 0⟩
def markE (k i : Int) : Ext := ⟨0, markZ k i⟩
def markR (k i : Int) : Rng := ⟨markE k i, ⟨0, 0⟩⟩
theorem markSpan_any (k i : Int) (w : World) (hk0 : 0 ≤ k) (hk : k ≤ 3) (hi0 : 0 ≤ i) (hi : i ≤ 1000000000000000) :
    Calls Try.prog 27 #[.int .i64 k, .int .i64 i] w fun e w' => e = .returned (markS k i).val ∧ Below w.heap.size w w' := by
  have i1 := mark_any k i
  have I1 := Lib.hid i1
  clear i1
  go_enter Try.func27, Try.ntmps27
  go_wp2_with (go_at_call 36; refine (I1.out _ hk0 hk hi0 hi).mono ?_; rintro e w' ⟨rfl, rfl⟩)
  exact bodyPost_ret (by simp [results, Try.results27, go_sem]; exact ⟨rfl, rfl⟩) rfl ⟨rfl, below1 ..⟩
theorem markExt_any (k i : Int) (w : World) (hk0 : 0 ≤ k) (hk : k ≤ 3) (hi0 : 0 ≤ i) (hi : i ≤ 1000000000000000) :
    Calls Try.prog 40 #[.int .i64 k, .int .i64 i] w fun e w' => e = .returned (markE k i).val ∧ Below w.heap.size w w' := by
  have i1 := mark_any k i
  have I1 := Lib.hid i1
  clear i1
  go_enter Try.func40, Try.ntmps40
  go_wp2_with (go_at_call 36; refine (I1.out _ hk0 hk hi0 hi).mono ?_; rintro e w' ⟨rfl, rfl⟩)
  exact bodyPost_ret (by simp [results, Try.results40, go_sem]; exact ⟨rfl, rfl⟩) rfl ⟨rfl, below1 ..⟩
theorem markRng_any (k i : Int) (w : World) (hk0 : 0 ≤ k) (hk : k ≤ 3) (hi0 : 0 ≤ i) (hi : i ≤ 1000000000000000) :
    Calls Try.prog 33 #[.int .i64 k, .int .i64 i] w fun e w' => e = .returned (markR k i).val ∧ Below w.heap.size w w' := by
  have i1 := markExt_any k i
  have I1 := Lib.hid i1
  clear i1
  go_enter Try.func33, Try.ntmps33
  go_wp2_with (go_at_call 40; refine (I1.out _ hk0 hk hi0 hi).mono ?_; rintro e w' ⟨rfl, hb⟩; obtain ⟨hc, hf⟩ := bcell hb)
  have hb' := below_then (below1 ..) hb
  exact bodyPost_ret (by simp [results, Try.results33, go_sem, hc, hf]; exact ⟨rfl, rfl, rfl, rfl⟩) rfl
    ⟨rfl, (((hb'.setCell (by exact Nat.le_refl _) _).setCell (by exact Nat.le_refl _) _).setCell (by exact Nat.le_refl _) _).setCell (by exact Nat.le_refl _) _⟩

end Go.Proofs.Ytmeljjijofkllaa
