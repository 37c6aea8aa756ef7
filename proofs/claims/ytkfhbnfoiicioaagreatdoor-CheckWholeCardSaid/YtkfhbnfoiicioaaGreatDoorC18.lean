import Derived.Test.YtkfhbnfoiicioaaGreatDoorC17
/- span.right, Neg, Abs: the walks -/
set_option linter.unusedSimpArgs false
set_option linter.unusedVariables false
namespace Go.Proofs.YtkfhbnfoiicioaaGreatDoor
open Go.RowKit Go.Sort

theorem blk_cs {w : World} {g : Nat} {cs : Array Value} {t : TypeId} (h : w.heap[g]? = some (.cells cs t (0, 0))) : (∀ i, w.cell? ⟨g, i, none⟩ = cs[i]?) ∧ (∀ i, w.frozen? ⟨g, i, none⟩ = false) :=
  ⟨fun i => by simp [World.cell?, h], fun i => by simp [World.frozen?, h]⟩
/-- one block alone is written -/
structure Wr1 (w w' : World) (b : Nat) : Prop where
  os : w'.os = w.os
  tape : w'.tape = w.tape
  output : w'.output = w.output
  size : w.heap.size ≤ w'.heap.size
  blk : ∀ k, k < w.heap.size → k ≠ b → w'.heap[k]? = w.heap[k]?
theorem Wr1.set (w : World) (b o : Nat) (v : Value) : Wr1 w (w.setCell ⟨b, o, none⟩ v) b := ⟨rfl, rfl, rfl, by simp, fun k _ hne => Below.heap_setCell _ _ _ _ hne⟩
theorem Wr1.trans {w a c : World} {b : Nat} (h : Wr1 w a b) (k : Wr1 a c b) : Wr1 w c b :=
  ⟨k.os.trans h.os, k.tape.trans h.tape, k.output.trans h.output, Nat.le_trans h.size k.size, fun i hi hne => (k.blk i (by have := h.size; omega) hne).trans (h.blk i hi hne)⟩
theorem Wr1.below {w w' : World} {b B : Nat} (h : Wr1 w w' b) (hB : B ≤ b) (hs : B ≤ w.heap.size) : Below B w w' := ⟨h.os, h.tape, h.output, h.size, fun k hk => h.blk k (by omega) (by omega)⟩
theorem Wr1.cell {w w' : World} {b : Nat} (h : Wr1 w w' b) {g o : Nat} {v : Value} (hg : g < w.heap.size) (hne : g ≠ b) (hc : w.cell? ⟨g, o, none⟩ = some v) : w'.cell? ⟨g, o, none⟩ = some v := by
  rw [← hc]
  unfold World.cell?
  simp only
  rw [h.blk g hg hne]
/-- a span in a box -/
def BxS (w : World) (g : Nat) (s : Spn) : Prop := w.cell? ⟨g, 0, none⟩ = some (.float .f64 s.lo) ∧ w.cell? ⟨g, 1, none⟩ = some (.float .f64 s.hi)
theorem BxS.below {w w' : World} {g : Nat} {s : Spn} (h : BxS w g s) (hb : Below w.heap.size w w') : BxS w' g s := ⟨bat hb h.1, bat hb h.2⟩
theorem BxS.of_blk {w : World} {g : Nat} {s : Spn} {t : TypeId} (h : w.heap[g]? = some (.cells #[.float .f64 s.lo, .float .f64 s.hi] t (0, 0))) : BxS w g s := ⟨(blk_cs h).1 0, (blk_cs h).1 1⟩
/-- may a box of two floats be written -/
def FzS (w : World) (g : Nat) : Prop := w.frozen? ⟨g, 0, none⟩ = false ∧ w.frozen? ⟨g, 1, none⟩ = false
theorem FzS.of_blk {w : World} {g : Nat} {a b : Value} {t : TypeId} (h : w.heap[g]? = some (.cells #[a, b] t (0, 0))) : FzS w g := ⟨(blk_cs h).2 0, (blk_cs h).2 1⟩
theorem spn_set {w : World} {g : Nat} {a b : Nat} (h0 : w.cell? ⟨g, 0, none⟩ = some (.float .f64 a)) (h1 : w.cell? ⟨g, 1, none⟩ = some (.float .f64 b)) (lo hi : Nat) :
    ∀ w', w' = (w.setCell ⟨g, 0, none⟩ (.float .f64 lo)).setCell ⟨g, 1, none⟩ (.float .f64 hi) → Wr1 w w' g ∧ BxS w' g ⟨lo, hi⟩ := by
  intro w' hw'
  subst hw'
  exact ⟨(Wr1.set ..).trans (Wr1.set ..), by simp [go_sem, h0], by simp [go_sem, h1]⟩

def Spn.cells (x : Spn) : List Value := [.float .f64 x.lo, .float .f64 x.hi]
theorem Spn.clen (x : Spn) : x.cells.length = 2 := rfl
def Spn.ok (x : Spn) : Bool := spB x.lo x.hi
theorem take_allS {p : Spn → Bool} {xs : List Spn} {k : Nat} {x : Spn} (h : (xs.take k).all p = true) (hx : xs[k]? = some x) (hp : p x = true) : (xs.take (k + 1)).all p = true := by
  obtain ⟨hl, e⟩ := List.getElem?_eq_some_iff.1 hx
  rw [List.take_succ_eq_append_getElem hl, List.all_append, h, e]
  simp [hp]
theorem all_notS {p : Spn → Bool} {xs : List Spn} {k : Nat} {x : Spn} (hx : xs[k]? = some x) (hp : p x = false) : xs.all p = false := by
  rw [List.all_eq_false]
  exact ⟨x, List.mem_of_getElem? hx, by rw [hp]; decide⟩
set_option maxRecDepth 100000 in
set_option maxHeartbeats 2000000 in
theorem rights_any (A : Option Addr) (n c : Nat) (xs : List Spn) (w : World) (hx : RdE Spn.cells 2 w (fun b => b < w.heap.size) A n xs) (hn : n ≤ 1000000) :
    Calls Tryz.prog 33 #[.slice A n c] w fun e w' => e = .returned (.bool (xs.all Spn.ok)) ∧ Below w.heap.size w w' := by
  obtain ⟨r, hr⟩ : ∃ r, r = xs.all Spn.ok := ⟨_, rfl⟩
  rw [← hr]
  have HR := Lib.hid hr
  have HX := Lib.hid hx
  have I1 := Lib.hid right_any
  clear hr hx
  go_enter Tryz.func33, Tryz.ntmps33
  go_wp2_with fail
  go_loopw [7] (fun iv wr => ∃ k : Nat, k ≤ n ∧ iv = .int .i64 k ∧ (xs.take k).all Spn.ok = true ∧ Below w.heap.size w wr) (fun iv _ => n - (intOf iv).toNat)
  case atStart => exact ⟨0, by omega, rfl, by simp, Below.refl _ _⟩
  case round =>
    obtain ⟨k, hk, rfl, hall, hbw⟩ := hrel
    have HA := Lib.hid hall
    have HBW := Lib.hid hbw
    clear hall
    by_cases hlt : k < n
    · obtain ⟨x, ex⟩ := get_some HX.out.num hlt
      obtain ⟨b, o, rfl, hSb, hc⟩ := HX.out.elem Spn.clen ex (by omega)
      have q0 : wr.cell? ⟨b, o + k * 2, none⟩ = some (.float .f64 x.lo) := by have h := hc 0 _ rfl; exact bat hbw (by simpa using h)
      have q1 : wr.cell? ⟨b, o + k * 2 + 1, none⟩ = some (.float .f64 x.hi) := by have h := hc 1 _ rfl; exact bat hbw h
      have HEX := Lib.hid ex
      obtain ⟨w1, hw1⟩ : ∃ w1, w1 = wr.alloc (.cells #[.float .f64 x.lo, .float .f64 x.hi] 24) := ⟨_, rfl⟩
      have hb1 : Below wr.heap.size wr w1 := by rw [hw1]; exact below1 ..
      have HW1 := Lib.hid hw1
      have HB1 := Lib.hid (HBW.out.trans (hb1.mono HBW.out.size))
      have I2 := Lib.hid (I1.out x w1)
      clear hc ex hbw hw1 hb1
      obtain ⟨p, hp⟩ : ∃ p, p = spB x.lo x.hi := ⟨_, rfl⟩
      rw [← hp] at I2
      have HP := Lib.hid hp
      clear hp
      cases p
      · go_wp2_with fail
        rw [← HW1.out]
        refine I2.out.mono ?_
        rintro e w2 ⟨rfl, hb2⟩
        have HB2 := Lib.hid (HB1.out.trans (hb2.mono HB1.out.size))
        clear hb2
        go_wp2_with fail
        go_ret
        exact ⟨by rw [HR.out, all_notS HEX.out HP.out.symm]; rfl, HB2.out⟩
      · go_wp2_with fail
        rw [← HW1.out]
        refine I2.out.mono ?_
        rintro e w2 ⟨rfl, hb2⟩
        have HB2 := Lib.hid (HB1.out.trans (hb2.mono HB1.out.size))
        clear hb2
        go_wp2_with fail
        go_roundw
        case rel => exact ⟨k + 1, by omega, by go_num, take_allS HA.out HEX.out HP.out.symm, HB2.out⟩
        case measure => simp [intOf]; omega
    · obtain rfl : k = n := by omega
      clear hbw
      go_wp2_with fail
      go_ret
      refine ⟨?_, HBW.out⟩
      have h := HA.out
      rw [List.take_of_length_le (by rw [HX.out.num]; exact Nat.le_refl _)] at h
      rw [HR.out, h]
      rfl
set_option maxRecDepth 100000 in
set_option maxHeartbeats 2000000 in
theorem neg_any (x : Spn) (w : World) (h1 : x.lo < 18446744073709551616) (h2 : x.hi < 18446744073709551616) (hok : x.ok = true) :
    Calls Tryz.prog 30 #[x.val] w fun e w' => e = .returned (.tuple #[.agg #[.float .f64 (negF x.hi), .float .f64 (negF x.lo)], .int .i64 0]) ∧ Below w.heap.size w w' := by
  have I1 := Lib.hid (fun w => right_any x w)
  have hok2 : spB x.lo x.hi = true := hok
  rw [hok2] at I1
  have n1 := fun w => run_neg h1 w
  have n2 := fun w => run_neg h2 w
  obtain ⟨lo, hi⟩ := x
  simp only at n1 n2 I1 h1 h2 ⊢
  obtain ⟨w0, hw0⟩ : ∃ w0, w0 = (w.alloc (.cells #[.float .f64 lo, .float .f64 hi] 24)).alloc (.cells #[.float .f64 0, .float .f64 0] 24) := ⟨_, rfl⟩
  have hb0 : Below w.heap.size w w0 := by rw [hw0]; exact below2 ..
  have g1 : w0.heap[w.heap.size]? = some (.cells #[.float .f64 lo, .float .f64 hi] 24 (0, 0)) := by
    rw [hw0]; exact ((below1 (w.alloc _) _).block w.heap.size (by simp)).trans (blk_new w _ _)
  have g2 : w0.heap[w.heap.size + 1]? = some (.cells #[.float .f64 0, .float .f64 0] 24 (0, 0)) := by
    rw [hw0]
    have h := blk_new (w.alloc (.cells #[.float .f64 lo, .float .f64 hi] 24)) #[.float .f64 0, .float .f64 0] 24
    rwa [World.size_alloc] at h
  have z0 : w0.heap.size = w.heap.size + 2 := by rw [hw0]; simp
  have G1 := Lib.hid g1
  have G2 := Lib.hid g2
  have HB0 := Lib.hid hb0
  have HW0 := Lib.hid hw0
  clear hok hok2 hw0 hb0 g1 g2
  go_enter Tryz.func30, Tryz.ntmps30
  go_wp2_with fail
  rw [← HW0.out]
  refine (I1.out w0).mono ?_
  rintro e w1 ⟨rfl, hb1⟩
  have zz1 := hb1.size
  have HB1 := Lib.hid (HB0.out.trans (hb1.mono HB0.out.size))
  have hk1 := (blk_cs ((hb1.block w.heap.size (by omega)).trans G1.out)).1
  have k10 := hk1 0
  have k11 := hk1 1
  obtain ⟨hk2, hf2⟩ := blk_cs ((hb1.block (w.heap.size + 1) (by omega)).trans G2.out)
  have k20 := hk2 0
  have k21 := hk2 1
  have f20 := hf2 0
  have f21 := hf2 1
  simp only [List.getElem?_toArray, List.getElem?_cons_zero, List.getElem?_cons_succ] at k10 k11 k20 k21
  obtain ⟨w8, hw8⟩ : ∃ w8, w8 = (w1.setCell ⟨w.heap.size + 1, 0, none⟩ (.float .f64 (negF hi))).setCell ⟨w.heap.size + 1, 1, none⟩ (.float .f64 (negF lo)) := ⟨_, rfl⟩
  obtain ⟨hu8, hq⟩ := spn_set k20 k21 _ _ _ hw8
  have HQ := Lib.hid hq
  have HW8 := Lib.hid hw8
  have HB8 := Lib.hid (HB1.out.trans (hu8.below (by omega) (by omega)))
  clear hk1 hk2 hf2 hb1 hw8 hu8 hq
  go_wp2_with fail
  rw [← HW8.out]
  obtain ⟨q0, q1⟩ := HQ.out
  (try simp only [Exit.inBlock, Exit.then])
  refine bodyPost_ret (v := .tuple #[.agg #[.float .f64 (negF hi), .float .f64 (negF lo)], .int .i64 0]) (by simp [results, Tryz.results30, go_sem, q0, q1]; done) rfl ?_
  exact ⟨rfl, HB8.out⟩

end Go.Proofs.YtkfhbnfoiicioaaGreatDoor
