import Derived.Test.YtkfhbnfoiicioaaGreatDoorChecked
import Derived.Below
import Derived.Deep.Draws
import Derived.Deep.AppendLies
import Derived.Maps.AppendAt
import Derived.OwnWalk
import Derived.Laws.BytesArg
import Derived.Laws.MakeOwn
import Derived.Laws.OwnMore
import Derived.Deep.OwnRows
import Derived.Tactics
import Derived.Tactics2
import Derived.Laws.Slices
import Derived.WalkKit
import Derived.KernelRfl
import Derived.RowKit3
import Derived.Deep.LoopGhost
import Derived.Deep.QuietTactic
import Derived.BigQuiet
import Derived.WideLaws
import Derived.Deep.DeepCutAuto
import Derived.Deep.CutBlock
import Derived.Deep.RegionHeld3
import Derived.Laws.Rows
import Derived.ArgAppend
import Derived.Laws.IdiomCopy
import Derived.OrdersHeld
import Derived.Laws.BitsLemmas
import Derived.RowKit
import Derived.WalkLawsBesides
import Derived.WalkSpells
import Derived.Laws.Pointers
import Derived.Laws.StructEq
import Derived.Laws.Tables
import Derived.Laws.Cover2
import Derived.Lib.Hide
import Derived.Lib.QuietBelow
import Derived.StillTailTactics
/-
  Plain words on memory, over any program: a slice that reads as a list of cells; what stays when blocks are added.
-/
set_option linter.unusedSimpArgs false
set_option linter.unusedVariables false
namespace Go.Proofs.YtkfhbnfoiicioaaGreatDoor
open Go.RowKit Go.Sort

theorem below_then {w a b : World} (h : Below w.heap.size w a) (k : Below a.heap.size a b) : Below w.heap.size w b := h.trans (k.mono h.size)
theorem bcell {W w1 : World} (hb : Below W.heap.size W w1) : (∀ b o, b < W.heap.size → w1.cell? ⟨b, o, none⟩ = W.cell? ⟨b, o, none⟩) ∧ (∀ b o, b < W.heap.size → w1.frozen? ⟨b, o, none⟩ = W.frozen? ⟨b, o, none⟩) :=
  ⟨fun b o h => hb.cell (p := ⟨b, o, none⟩) h, fun b o h => hb.frozen (p := ⟨b, o, none⟩) h⟩
theorem below1 (w : World) (o1 : Obj) : Below w.heap.size w (w.alloc o1) := (Below.refl _ _).alloc (Nat.le_refl _) _
theorem below2 (w : World) (o1 o2 : Obj) : Below w.heap.size w ((w.alloc o1).alloc o2) := (below1 w o1).alloc (by simp) _
theorem below3 (w : World) (o1 o2 o3 : Obj) : Below w.heap.size w (((w.alloc o1).alloc o2).alloc o3) := (below2 w o1 o2).alloc (by simp; omega) _
theorem below_drewN {B : Nat} {a w : World} (h : Below B a w) (n : Nat) : Below B a (w.drewN n) := ⟨h.os, h.tape, h.output, h.size, h.block⟩
theorem below_of_grown {w w' : World} {row : Option Nat} (h : w.grownBy w' row) (hr : ∀ g, row = some g → w.heap.size ≤ g) : Below w.heap.size w w' := (Below.refl _ _).grown h (Nat.le_refl _) hr

@[go_sem] theorem cell_old (w : World) (o : Obj) (b i : Nat) (h : b < w.heap.size) : (w.alloc o).cell? ⟨b, i, none⟩ = w.cell? ⟨b, i, none⟩ := World.cell?_alloc_lt w o ⟨b, i, none⟩ h
@[go_sem] theorem frozen_old (w : World) (o : Obj) (b i : Nat) (h : b < w.heap.size) : (w.alloc o).frozen? ⟨b, i, none⟩ = w.frozen? ⟨b, i, none⟩ := World.frozen?_alloc_old w o ⟨b, i, none⟩ (Nat.ne_of_lt h)
theorem add_off (b o j : Nat) : (⟨b, o, none⟩ : Addr).add j = ⟨b, o + j, none⟩ := by unfold Addr.add; split <;> simp_all

/-- The slice '.slice A n _' of elements of 'size' cells holds the cells vs, in a block of which S holds. -/
structure Rd (w : World) (S : Nat → Prop) (size : Nat) (A : Option Addr) (n : Nat) (vs : List Value) : Prop where
  len : vs.length = n * size
  at_ : ∀ (j : Nat) (v : Value), vs[j]? = some v → ∃ b o, A = some ⟨b, o, none⟩ ∧ S b ∧ w.cell? ⟨b, o + j, none⟩ = some v

def Keeps (S : Nat → Prop) (w w' : World) : Prop := ∀ b, S b → w'.heap[b]? = w.heap[b]?
theorem Keeps.below {S : Nat → Prop} {B : Nat} {w w' : World} (hb : Below B w w') (hS : ∀ b, S b → b < B) : Keeps S w w' := fun b h => hb.block b (hS b h)
theorem Keeps.grown {S : Nat → Prop} {w w' : World} {row : Option Nat} (hg : w.grownBy w' row) (hS : ∀ b, S b → b < w.heap.size ∧ some b ≠ row) : Keeps S w w' := fun b h => hg.block b (hS b h).1 (hS b h).2
theorem Keeps.trans {S : Nat → Prop} {a b c : World} (h : Keeps S a b) (k : Keeps S b c) : Keeps S a c := fun x hx => (k x hx).trans (h x hx)

section
variable {w w' : World} {S S' : Nat → Prop} {size n : Nat} {A : Option Addr} {vs : List Value}
theorem Rd.nil (w : World) (S : Nat → Prop) (size : Nat) (A : Option Addr) : Rd w S size A 0 [] := ⟨by simp, fun j v h => by simp at h⟩
theorem Rd.keep (h : Rd w S size A n vs) (hk : Keeps S w w') : Rd w' S size A n vs :=
  ⟨h.len, fun j v hv => by
    obtain ⟨b, o, e, hs, hc⟩ := h.at_ j v hv
    exact ⟨b, o, e, hs, (World.cell?_of_block (a := ⟨b, o + j, none⟩) (hk b hs)).trans hc⟩⟩
theorem Rd.imp (h : Rd w S size A n vs) (hS : ∀ b, S b → S' b) : Rd w S' size A n vs :=
  ⟨h.len, fun j v hv => by
    obtain ⟨b, o, e, hs, hc⟩ := h.at_ j v hv
    exact ⟨b, o, e, hS b hs, hc⟩⟩
theorem Rd.of_own {base e c : Nat} (h : w.ownsRow base e size (.slice A n c) n vs) : Rd w (fun b => base ≤ b ∧ b < w.heap.size ∧ (Value.slice A n c).ownBlock = some b) size A n vs := by
  refine ⟨h.1, fun j v hv => ?_⟩
  rcases h.2 with ⟨h1, h2⟩ | ⟨g, cap, cur, hs, hb, hg, hn, hm, hz, ht⟩
  · subst h2
    have h3 := h.1
    rw [Nat.zero_mul] at h3
    rw [List.eq_nil_of_length_eq_zero h3] at hv
    simp at hv
  · simp only [Value.slice.injEq] at hs
    obtain ⟨rfl, _, _⟩ := hs
    refine ⟨g, 0, rfl, ⟨hb, (Array.getElem?_eq_some_iff.1 hg).1, rfl⟩, ?_⟩
    rw [Nat.zero_add, cell_of_row w g j cur e (0, 0) hg]
    rw [← ht, List.getElem?_take] at hv
    split at hv
    · simpa using hv
    · cases hv
theorem Rd.addr (h : Rd w S size A n vs) (hn : 0 < n) (hs : 0 < size) : ∃ b o, A = some ⟨b, o, none⟩ ∧ S b := by
  have hl : 0 < vs.length := by rw [h.len]; exact Nat.mul_pos hn hs
  obtain ⟨b, o, e, hlt, _⟩ := h.at_ 0 _ (List.getElem?_eq_getElem hl)
  exact ⟨b, o, e, hlt⟩
/-- the head of a list -/
theorem Rd.take (h : Rd w S size A n vs) {m : Nat} (hm : m ≤ n) : Rd w S size A m (vs.take (m * size)) :=
  ⟨by rw [List.length_take, h.len]; exact Nat.min_eq_left (Nat.mul_le_mul_right _ hm), fun j v hv => by
    rw [List.getElem?_take] at hv
    split at hv
    · exact h.at_ j v hv
    · cases hv⟩
end

/-- element k of a list whose elements are f x, each of 'size' cells -/
theorem flat_get {α : Type} (f : α → List Value) (size : Nat) (hf : ∀ x, (f x).length = size) : ∀ (xs : List α) (k j : Nat) (x : α) (v : Value), xs[k]? = some x → (f x)[j]? = some v → (xs.flatMap f)[k * size + j]? = some v
  | [], k, j, x, v, h, _ => by simp at h
  | y :: ys, 0, j, x, v, h, hv => by
    simp at h
    subst h
    rw [List.flatMap_cons, Nat.zero_mul, Nat.zero_add, List.getElem?_append_left (List.getElem?_eq_some_iff.1 hv).1]
    exact hv
  | y :: ys, k + 1, j, x, v, h, hv => by
    simp at h
    rw [List.flatMap_cons, List.getElem?_append_right (by rw [hf, Nat.add_mul]; omega), hf, show (k + 1) * size + j - size = k * size + j by rw [Nat.add_mul]; omega]
    exact flat_get f size hf ys k j x v h hv
theorem flat_len {α : Type} (f : α → List Value) (size : Nat) (hf : ∀ x, (f x).length = size) (xs : List α) : (xs.flatMap f).length = xs.length * size := by
  induction xs with
  | nil => simp
  | cons x xs ih => rw [List.flatMap_cons, List.length_append, hf, ih, List.length_cons, Nat.add_mul]; omega

/-- the same, element by element -/
structure RdE {α : Type} (f : α → List Value) (size : Nat) (w : World) (S : Nat → Prop) (A : Option Addr) (n : Nat) (xs : List α) : Prop where
  rd : Rd w S size A n (xs.flatMap f)
  num : xs.length = n

section
variable {α : Type} {f : α → List Value} {size : Nat} {w w' : World} {S S' : Nat → Prop} {n : Nat} {A : Option Addr} {xs : List α}
theorem RdE.elem (hf : ∀ x, (f x).length = size) (h : RdE f size w S A n xs) {k : Nat} {x : α} (hx : xs[k]? = some x) (hsz : 0 < size) :
    ∃ b o, A = some ⟨b, o, none⟩ ∧ S b ∧ ∀ j v, (f x)[j]? = some v → w.cell? ⟨b, o + k * size + j, none⟩ = some v := by
  have hl : 0 < (f x).length := by rw [hf]; exact hsz
  obtain ⟨b, o, e, hlt, _⟩ := h.rd.at_ _ _ (flat_get f size hf xs k 0 x _ hx (List.getElem?_eq_getElem hl))
  refine ⟨b, o, e, hlt, fun j v hv => ?_⟩
  obtain ⟨b', o', e', hlt', hc⟩ := h.rd.at_ _ _ (flat_get f size hf xs k j x v hx hv)
  rw [e] at e'
  simp only [Option.some.injEq, Addr.mk.injEq, and_true] at e'
  obtain ⟨rfl, rfl⟩ := e'
  rw [Nat.add_assoc]
  exact hc
theorem RdE.keep (h : RdE f size w S A n xs) (hk : Keeps S w w') : RdE f size w' S A n xs := ⟨h.rd.keep hk, h.num⟩
theorem RdE.imp (h : RdE f size w S A n xs) (hS : ∀ b, S b → S' b) : RdE f size w S' A n xs := ⟨h.rd.imp hS, h.num⟩
theorem RdE.nil (w : World) (S : Nat → Prop) (A : Option Addr) : RdE f size w S A 0 [] := ⟨Rd.nil .., rfl⟩
theorem RdE.of_own {base e c : Nat} (hf : ∀ x, (f x).length = size) (hsz : 0 < size) (h : w.ownsRow base e size (.slice A n c) n (xs.flatMap f)) :
    RdE f size w (fun b => base ≤ b ∧ b < w.heap.size ∧ (Value.slice A n c).ownBlock = some b) A n xs :=
  ⟨Rd.of_own h, by have h1 := h.1; rw [flat_len f size hf] at h1; exact Nat.eq_of_mul_eq_mul_right hsz h1⟩
theorem flat_take (hf : ∀ x, (f x).length = size) : ∀ (xs : List α) (m : Nat), (xs.flatMap f).take (m * size) = (xs.take m).flatMap f
  | [], m => by simp
  | x :: xs, 0 => by simp
  | x :: xs, m + 1 => by
    rw [List.flatMap_cons, List.take_succ_cons, List.flatMap_cons, List.take_append, hf, List.take_of_length_le (by rw [hf, Nat.add_mul]; omega), show (m + 1) * size - size = m * size by rw [Nat.add_mul]; omega, flat_take hf xs m]
theorem RdE.take (hf : ∀ x, (f x).length = size) (h : RdE f size w S A n xs) {m : Nat} (hm : m ≤ n) : RdE f size w S A m (xs.take m) :=
  ⟨by rw [← flat_take hf]; exact h.rd.take hm, by rw [List.length_take, h.num]; exact Nat.min_eq_left hm⟩
theorem get_some {xs : List α} {k n : Nat} (hn : xs.length = n) (hk : k < n) : ∃ x, xs[k]? = some x := ⟨_, List.getElem?_eq_getElem (by omega)⟩
end

/-- append onto a row of the call's own, from a slice that reads as a list of cells (nil, empty or not) -/
theorem run_append_rd {P : Program} (w : World) (base : Nat) (t ty e : TypeId) (i : TypeInfo) (z : Value) (size bytes : Nat) (ht : P.underlying t = some (.slice e)) (hi : P.info? e = some i) (hz : i.zero = some z)
    (hsize : i.size = size) (hby : i.bytes = bytes) (hzs : z.cells.size = size) (hsz : 0 < size) (v : Value) (n : Nat) (xs : List Value) (hown : w.ownsRow base e size v n xs)
    (S : Nat → Prop) (A : Option Addr) (m c : Nat) (news : List Value) (hr : Rd w S size A m news) (h1 : ∀ u ∈ news, u.oneCell' = true)
    (h63 : n + m ≤ maxLen) (hbytes : (n + m) * bytes ≤ 140737488355328) (hbase : base ≤ w.heap.size) (hA : A = none ∨ ∃ ad, A = some ad) :
    ∃ v' w', (Builtin.append_ #[t, t] ty #[v, .slice A m c]).run P w = .ok v' w' ∧ w'.ownsRow base e size v' (n + m) (xs ++ news) ∧ w.grownBy w' v.ownBlock ∧ (v'.ownBlock = v.ownBlock ∨ v'.ownBlock = some w.heap.size) := by
  rcases hA with rfl | ⟨ad, rfl⟩
  · have hm : m = 0 := by
      rcases Nat.eq_zero_or_pos m with h | h
      · exact h
      · obtain ⟨b, o, h2, _⟩ := hr.addr h hsz
        cases h2
    subst hm
    have hn : news = [] := List.eq_nil_of_length_eq_zero (by simpa using hr.len)
    subst hn
    refine ⟨v, w, ?_, by simpa using hown, World.grownBy.refl w _, .inl rfl⟩
    rcases hown.2 with ⟨rfl, rfl⟩ | ⟨g, cap, cur, rfl, _, _, hnc, _⟩
    · simp [Builtin.append_, run_underlying ht, sizeOf, typeInfo, hi, Builtin.lenOf, Builtin.firstCells]
    · simp [Builtin.append_, run_underlying ht, sizeOf, typeInfo, hi, Builtin.lenOf, Builtin.firstCells, hnc, storeCells]
  · have hcells : ∀ j u, news[j]? = some u → w.cell? (ad.add j) = some u := fun j u hu => by
      obtain ⟨b, o, e1, _, hc⟩ := hr.at_ j u hu
      injection e1 with e1
      subst e1
      rw [add_off]
      exact hc
    obtain ⟨v', w', hrun, h2, h3, _, h5⟩ := run_append_own_at (P := P) w base t ty e i z size bytes ht hi hz hsize hby hzs hsz v n xs hown ad m c news hr.len hcells h1 h63 hbytes hbase
    exact ⟨v', w', hrun, h2, h3, h5⟩

theorem opt_cases {α : Type} (A : Option α) : A = none ∨ ∃ a, A = some a := by cases A; exact .inl rfl; exact .inr ⟨_, rfl⟩

theorem wpList_append_rd {P : Program} (w : World) {ops : Array Oper} {rest : List Oper} {o : Oper} {a : Act} {Q : Exit → Act → World → Prop} (hgd : o.guard = none) (s x : Operand) (t : TypeId)
    (ho : o.op = .call { callee := .builtin .append, args := #[s, x], argTypes := #[t, t] })
    (base : Nat) (e : TypeId) (i : TypeInfo) (z : Value) (size bytes : Nat) (ht : P.underlying t = some (.slice e)) (hi : P.info? e = some i) (hz : i.zero = some z)
    (hsize : i.size = size) (hby : i.bytes = bytes) (hzs : z.cells.size = size) (hsz : 0 < size)
    (v : Value) (n : Nat) (xs : List Value) (hs : a.eval s = v) (hown : w.ownsRow base e size v n xs)
    (S : Nat → Prop) (A : Option Addr) (m c : Nat) (news : List Value) (hx : a.eval x = .slice A m c) (hr : Rd w S size A m news) (h1 : ∀ u ∈ news, u.oneCell' = true)
    (h63 : n + m ≤ maxLen) (hbytes : (n + m) * bytes ≤ 140737488355328) (hbase : base ≤ w.heap.size)
    (h : ∀ v' w', w'.ownsRow base e size v' (n + m) (xs ++ news) → w.grownBy w' v.ownBlock → (v'.ownBlock = v.ownBlock ∨ v'.ownBlock = some w.heap.size) → wpList P ops Q rest (a.put o.dst v') w') : wpList P ops Q (o :: rest) a w := by
  refine wpList_plain hgd fun K hK => ?_
  obtain ⟨v', w', hrun, h2, h3, h5⟩ := run_append_rd (P := P) w base t o.type e i z size bytes ht hi hz hsize hby hzs hsz v n xs hown S A m c news hr h1 h63 hbytes hbase (opt_cases A)
  unfold Oper.wp execOp
  simp only [ho, resolve, invoke, builtin, Sem.run_bind, Sem.run_pure, Result.andThen_ok, List.map_toArray, List.map_cons, List.map_nil, hs, hx, hrun]
  exact hK _ _ (h v' w' h2 h3 h5)

theorem own_slice {w : World} {base e size n : Nat} {v : Value} {vs : List Value} (h : w.ownsRow base e size v n vs) : ∃ A c, v = .slice A n c ∧ n ≤ c ∧ (∀ ad, A = some ad → ∃ g, ad = ⟨g, 0, none⟩ ∧ base ≤ g) := by
  rcases h.2 with ⟨rfl, rfl⟩ | ⟨g, cap, cur, rfl, hb, _, hn, _⟩
  · exact ⟨none, 0, rfl, Nat.le_refl _, fun _ h => by cases h⟩
  · exact ⟨some ⟨g, 0, none⟩, cap, rfl, hn, fun _ h => by injection h with h; subst h; exact ⟨g, rfl, hb⟩⟩

theorem own_elem {α : Type} {f : α → List Value} {size : Nat} (hf : ∀ x, (f x).length = size) {w : World} {base e g n cap : Nat} {xs : List α} (h : w.ownsRow base e size (.slice (some ⟨g, 0, none⟩) n cap) n (xs.flatMap f)) {k : Nat} {x : α} (hx : xs[k]? = some x) :
    ∀ j v, (f x)[j]? = some v → w.cell? ⟨g, k * size + j, none⟩ = some v := by
  intro j v hv
  have hg := flat_get f size hf xs k j x v hx hv
  have hl := (List.getElem?_eq_some_iff.1 hg).1
  rw [h.1] at hl
  rw [h.cellAt _ hl, hg]
theorem own_num {α : Type} {f : α → List Value} {size : Nat} (hf : ∀ x, (f x).length = size) (hsz : 0 < size) {w : World} {base e n : Nat} {v : Value} {xs : List α} (h : w.ownsRow base e size v n (xs.flatMap f)) : xs.length = n := by
  have h1 := h.1
  rw [flat_len f size hf] at h1
  exact Nat.eq_of_mul_eq_mul_right hsz h1
/-- n stores in a row, from offset o on -/
def setAll (w : World) (g o : Nat) : List Value → World
  | [] => w
  | v :: vs => setAll (w.setCell ⟨g, o, none⟩ v) g (o + 1) vs
def putAll (xs : List Value) (o : Nat) : List Value → List Value
  | [] => xs
  | v :: vs => putAll (xs.set o v) (o + 1) vs
theorem own_setAll {base e size g n cap : Nat} : ∀ (vs : List Value) (o : Nat) (w : World) (xs : List Value), w.ownsRow base e size (.slice (some ⟨g, 0, none⟩) n cap) n xs →
    (setAll w g o vs).ownsRow base e size (.slice (some ⟨g, 0, none⟩) n cap) n (putAll xs o vs) ∧ w.grownBy (setAll w g o vs) (some g)
  | [], _, w, _, h => ⟨h, World.grownBy.refl w _⟩
  | v :: vs, o, w, xs, h => by
    obtain ⟨h1, h2⟩ := h.stored o v
    obtain ⟨h3, h4⟩ := own_setAll vs (o + 1) _ _ h1
    exact ⟨h3, h2.trans h4⟩
theorem putAll_len (vs : List Value) : ∀ (xs : List Value) (o : Nat), (putAll xs o vs).length = xs.length := by
  induction vs with
  | nil => intro xs o; rfl
  | cons v vs ih => intro xs o; simp [putAll, ih]
theorem putAll_get (vs : List Value) : ∀ (xs : List Value) (o i : Nat), o + vs.length ≤ xs.length → (putAll xs o vs)[i]? = if o ≤ i ∧ i < o + vs.length then vs[i - o]? else xs[i]? := by
  induction vs with
  | nil => intro xs o i _; simp [putAll]; omega
  | cons v vs ih =>
    intro xs o i h
    simp only [List.length_cons] at h ⊢
    rw [putAll, ih _ _ _ (by simp; omega)]
    by_cases h1 : o + 1 ≤ i ∧ i < o + 1 + vs.length
    · rw [if_pos h1, if_pos (by omega), show i - o = (i - (o + 1)) + 1 by omega, List.getElem?_cons_succ]
    · rw [if_neg h1]
      by_cases h2 : i = o
      · subst h2
        rw [if_pos (by omega), Nat.sub_self, List.getElem?_set_self (by omega)]
        rfl
      · rw [if_neg (by omega), List.getElem?_set_ne (by omega)]
theorem putAll_flat {α : Type} {f : α → List Value} {size : Nat} (hf : ∀ x, (f x).length = size) (x : α) : ∀ (xs : List α) (k : Nat), k < xs.length → putAll (xs.flatMap f) (k * size) (f x) = (xs.set k x).flatMap f := by
  intro xs k hk
  apply List.ext_getElem?
  intro i
  have hl := flat_len f size hf xs
  rw [putAll_get _ _ _ _ (by rw [hf, hl]; have := Nat.mul_le_mul_right size (show k + 1 ≤ xs.length by omega); rw [Nat.add_mul] at this; omega), hf]
  have go : ∀ (ys : List α) (k i : Nat), k < ys.length → ((ys.set k x).flatMap f)[i]? = if k * size ≤ i ∧ i < k * size + size then (f x)[i - k * size]? else (ys.flatMap f)[i]? := by
    intro ys
    induction ys with
    | nil => intro k i h; simp at h
    | cons y ys ih =>
      intro k i h
      cases k with
      | zero =>
        simp only [List.set_cons_zero, List.flatMap_cons, Nat.zero_mul, Nat.zero_le, true_and, Nat.zero_add, Nat.sub_zero]
        by_cases h1 : i < size
        · rw [if_pos h1, List.getElem?_append_left (by rw [hf]; exact h1)]
        · rw [if_neg h1, List.getElem?_append_right (by rw [hf]; omega), List.getElem?_append_right (by rw [hf]; omega), hf, hf]
      | succ k =>
        simp only [List.set_cons_succ, List.flatMap_cons]
        have hm : (k + 1) * size = k * size + size := by rw [Nat.add_mul]; omega
        by_cases h1 : i < size
        · rw [List.getElem?_append_left (by rw [hf]; exact h1), if_neg (by omega), List.getElem?_append_left (by rw [hf]; exact h1)]
        · rw [List.getElem?_append_right (by rw [hf]; omega), List.getElem?_append_right (by rw [hf]; omega), hf, ih k (i - size) (by simp at h; omega)]
          by_cases h2 : k * size ≤ i - size ∧ i - size < k * size + size
          · rw [if_pos h2, if_pos (by omega)]
            congr 1
            omega
          · rw [if_neg h2, if_neg (by omega)]
  exact (go xs k i hk).symm

/-- a slice of slices: row i reads as L[i] -/
structure RdRows {α : Type} (f : α → List Value) (size : Nat) (w : World) (S : Nat → Prop) (A : Option Addr) (n : Nat) (L : List (List α)) : Prop where
  vs : ∃ vs : List Value, Rd w S 1 A n vs ∧ ∀ (i : Nat) (l : List α), L[i]? = some l → ∃ A' c', vs[i]? = some (Value.slice A' l.length c') ∧ l.length ≤ c' ∧ RdE f size w S A' l.length l
  num : L.length = n

section
variable {α : Type} {f : α → List Value} {size : Nat} {w w' : World} {S S' : Nat → Prop} {n : Nat} {A : Option Addr} {L : List (List α)}
theorem RdRows.keep (h : RdRows f size w S A n L) (hk : Keeps S w w') : RdRows f size w' S A n L := by
  obtain ⟨vs, h1, h2⟩ := h.vs
  refine ⟨⟨vs, h1.keep hk, fun i l hl => ?_⟩, h.num⟩
  obtain ⟨A', c', e, hc, hr⟩ := h2 i l hl
  exact ⟨A', c', e, hc, hr.keep hk⟩
theorem RdRows.imp (h : RdRows f size w S A n L) (hS : ∀ b, S b → S' b) : RdRows f size w S' A n L := by
  obtain ⟨vs, h1, h2⟩ := h.vs
  refine ⟨⟨vs, h1.imp hS, fun i l hl => ?_⟩, h.num⟩
  obtain ⟨A', c', e, hc, hr⟩ := h2 i l hl
  exact ⟨A', c', e, hc, hr.imp hS⟩
theorem RdRows.row (h : RdRows f size w S A n L) {i : Nat} {l : List α} (hl : L[i]? = some l) :
    ∃ b o A' c', A = some ⟨b, o, none⟩ ∧ S b ∧ w.cell? ⟨b, o + i, none⟩ = some (.slice A' l.length c') ∧ l.length ≤ c' ∧ RdE f size w S A' l.length l := by
  obtain ⟨vs, h1, h2⟩ := h.vs
  obtain ⟨A', c', e, hc, hr⟩ := h2 i l hl
  obtain ⟨b, o, ea, hs, hcell⟩ := h1.at_ i _ e
  exact ⟨b, o, A', c', ea, hs, hcell, hc, hr⟩
theorem RdRows.take (h : RdRows f size w S A n L) {m : Nat} (hm : m ≤ n) : RdRows f size w S A m (L.take m) := by
  obtain ⟨vs, h1, h2⟩ := h.vs
  have h3 := h1.take hm
  rw [Nat.mul_one] at h3
  refine ⟨⟨vs.take m, h3, fun i l hl => ?_⟩, by rw [List.length_take, h.num]; exact Nat.min_eq_left hm⟩
  rw [List.getElem?_take] at hl
  split at hl
  · rename_i hlt
    obtain ⟨A', c', e, hc, hr⟩ := h2 i l hl
    exact ⟨A', c', by rw [List.getElem?_take, if_pos hlt]; exact e, hc, hr⟩
  · cases hl
end

/-- rows that the call has made so far: k of them, the outer row owned -/
structure MadeRows {α : Type} (f : α → List Value) (size : Nat) (B : Nat) (eo : TypeId) (w : World) (v : Value) (k : Nat) (L : List (List α)) : Prop where
  own : ∃ vs : List Value, w.ownsRow B eo 1 v k vs ∧ ∀ (i : Nat) (l : List α), i < k → L[i]? = some l → ∃ A' c', vs[i]? = some (Value.slice A' l.length c') ∧ l.length ≤ c' ∧ RdE f size w (fun b => B ≤ b ∧ b < w.heap.size ∧ some b ≠ v.ownBlock) A' l.length l

section
variable {α : Type} {f : α → List Value} {size : Nat} {B eo : Nat}
theorem MadeRows.start (w : World) (L : List (List α)) : MadeRows f size B eo w (.slice none 0 0) 0 L :=
  ⟨[], World.ownsRow_nil .., fun i l h => absurd h (Nat.not_lt_zero _)⟩
theorem lt_own {w : World} {base e size n : Nat} {v : Value} {xs : List Value} (h : w.ownsRow base e size v n xs) {b : Nat} (hb : v.ownBlock = some b) : base ≤ b ∧ b < w.heap.size := h.lt b hb
/-- one row more: the callee made it (base: the heap's size then), it was laid in a block of its own, and appended -/
theorem MadeRows.step (hf : ∀ x, (f x).length = size) (hsz : 0 < size) {ei : TypeId} {wr w1 w2 : World} {v v1 v' : Value} {k : Nat} {l : List α} {L : List (List α)} {o : Obj} {vs : List Value}
    (hB : B ≤ wr.heap.size) (hown : wr.ownsRow B eo 1 v k vs)
    (hvs : ∀ (i : Nat) (l : List α), i < k → L[i]? = some l → ∃ A' c', vs[i]? = some (Value.slice A' l.length c') ∧ l.length ≤ c' ∧ RdE f size wr (fun b => B ≤ b ∧ b < wr.heap.size ∧ some b ≠ v.ownBlock) A' l.length l)
    (hl : L[k]? = some l) (h1 : w1.ownsRow wr.heap.size ei size v1 l.length (l.flatMap f)) (hb : Below wr.heap.size wr w1)
    (h2 : w2.ownsRow B eo 1 v' (k + 1) (vs ++ [v1])) (hg : (w1.alloc o).grownBy w2 v.ownBlock) (hat : v'.ownBlock = v.ownBlock ∨ v'.ownBlock = some (w1.alloc o).heap.size) :
    MadeRows f size B eo w2 v' (k + 1) L := by
  refine ⟨vs ++ [v1], h2, fun i m hi hm => ?_⟩
  have hvl : vs.length = k := by have := hown.1; omega
  have hsz1 : wr.heap.size ≤ w1.heap.size := hb.size
  have hsz2 : (w1.alloc o).heap.size ≤ w2.heap.size := hg.size
  have hal : (w1.alloc o).heap.size = w1.heap.size + 1 := by simp
  have hk : ∀ b, b < w1.heap.size → some b ≠ v.ownBlock → w2.heap[b]? = w1.heap[b]? := fun b hb' hne =>
    (hg.block b (by omega) hne).trans (Below.heap_alloc w1 o b hb')
  have hne' : ∀ b, b < w1.heap.size → some b ≠ v.ownBlock → some b ≠ v'.ownBlock := fun b hb' hne => by
    rcases hat with h | h
    · rw [h]; exact hne
    · rw [h]; intro e; injection e with e; omega
  by_cases hik : i < k
  · obtain ⟨A', c', e, hc, hr⟩ := hvs i m hik hm
    refine ⟨A', c', by rw [List.getElem?_append_left (by omega)]; exact e, hc, (hr.keep (w' := w2) fun b hS => ?_).imp fun b hS => ⟨hS.1, by omega, hne' b (by omega) hS.2.2⟩⟩
    exact (hk b (by omega) hS.2.2).trans (hb.block b hS.2.1)
  · obtain rfl : i = k := by omega
    rw [hl] at hm
    injection hm with hm
    subst hm
    obtain ⟨A', c', rfl, hc, _⟩ := own_slice h1
    refine ⟨A', c', by rw [List.getElem?_append_right (by omega), hvl, Nat.sub_self]; rfl, hc, ?_⟩
    have hr := RdE.of_own hf hsz h1
    have hv : ∀ b, v.ownBlock = some b → b < wr.heap.size := fun b h => (hown.lt b h).2
    refine (hr.keep (w' := w2) fun b hS => hk b hS.2.1 (fun e => by have := hv b e.symm; omega)).imp fun b hS => ⟨by omega, by omega, hne' b hS.2.1 (fun e => by have := hv b e.symm; omega)⟩
theorem MadeRows.done {w : World} {v : Value} {k : Nat} {L : List (List α)} (h : MadeRows f size B eo w v k L) (hk : L.length = k) : ∃ A c, v = .slice A k c ∧ k ≤ c ∧ RdRows f size w (fun b => B ≤ b ∧ b < w.heap.size) A k L := by
  obtain ⟨vs, hown, hvs⟩ := h.own
  obtain ⟨A, c, rfl, hc, _⟩ := own_slice hown
  refine ⟨A, c, rfl, hc, ⟨vs, (Rd.of_own hown).imp fun b hb => ⟨hb.1, hb.2.1⟩, fun i l hl => ?_⟩, hk⟩
  obtain ⟨A', c', e, hc', hr⟩ := hvs i l (by have := (List.getElem?_eq_some_iff.1 hl).1; omega) hl
  exact ⟨A', c', e, hc', hr.imp fun b hb => ⟨hb.1, hb.2.1⟩⟩
end

end Go.Proofs.YtkfhbnfoiicioaaGreatDoor
