import Derived.Test.YtfepmbpcdfdlhaaChecked
import Derived.Below
import Derived.Deep.Draws
import Derived.Deep.AppendLies
import Derived.Maps.AppendAt
import Derived.OwnWalk
import Derived.Laws.BytesArg
import Derived.Laws.MakeOwn
import Derived.Laws.OwnMore
import Derived.Deep.OwnRows
import Derived.Tactics
import Derived.Tactics2
import Derived.Laws.Slices
import Derived.WalkKit
import Derived.KernelRfl
import Derived.RowKit3
import Derived.Deep.LoopGhost
import Derived.Deep.QuietTactic
import Derived.BigQuiet
import Derived.WideLaws
import Derived.Deep.DeepCutAuto
import Derived.Deep.CutBlock
import Derived.Deep.RegionHeld3
import Derived.Laws.Rows
import Derived.ArgAppend
import Derived.Laws.IdiomCopy
import Derived.OrdersHeld
import Derived.Laws.BitsLemmas
import Derived.RowKit
import Derived.WalkLawsBesides
import Derived.WalkSpells
import Derived.Laws.Pointers
import Derived.Laws.StructEq
import Derived.Laws.Tables
import Derived.Laws.Cover2
import Derived.Lib.Hide
import Derived.Lib.QuietBelow
import Derived.StillTailTactics
import Derived.Lib.EndianBits
import Derived.ProofKit
set_option linter.unusedSimpArgs false
set_option linter.unusedVariables false

/- short names for what the walks write often -/
namespace Go.Proofs.Ytfepmbpcdfdlhaa
theorem lyA {α : Type _} {xs : List α} {i : Nat} (h : i < xs.toArray.size) : xs.toArray[i] = xs[i]'(by simpa using h) := rfl
theorem lyB {α : Type _} (a : α) (xs : List α) (i : Nat) (h : i + 1 < (a :: xs).length) : (a :: xs)[i + 1] = xs[i]'(Nat.lt_of_succ_lt_succ h) := rfl
theorem lyC {α : Type _} (a : α) (xs : List α) (h : 0 < (a :: xs).length) : (a :: xs)[0] = a := rfl
theorem lyD {α : Type _} (l : List α) (i : Nat) (a : α) : l.toArray.setIfInBounds i a = (l.set i a).toArray := List.setIfInBounds_toArray l i a
theorem lyE {α : Type _} {x : α} {xs : List α} {a : α} : (x :: xs).set 0 a = a :: xs := rfl
theorem lyF {α : Type _} {x : α} {xs : List α} {i : Nat} {a : α} : (x :: xs).set (i + 1) a = x :: xs.set i a := rfl
theorem tkH {P : Program} {ops : Array Oper} {Q : Exit → Act → World → Prop} {md : Region.Mode} {S : World → Prop} {i : Nat} {oi : Oper} {v : Value} {fuel : Nat} {listed : Array Bool} {a : Act} {w : World} (hi : ops[i]? = some oi)
    (hb : (Region.noSelect ops && Region.free md ops listed i && (Region.ready md ops listed).contains i) = true) (hy : YieldsIf P ops S oi v a) (hS : S w)
    (h : wpAnyH P md ops Q S fuel (listed.setIfInBounds i true) (a.put oi.dst v) w) (hQ : ∀ c a w, Q (.panic c) (a.put oi.dst v) w → Q (.panic c) a w := by exact fun _ _ _ h => h) : wpAnyH P md ops Q S (fuel + 1) listed a w := by
  simp only [Bool.and_eq_true] at hb
  exact wpAnyH_take hi hb.1.1 hb.1.2 hb.2 hQ hy hS h
end Go.Proofs.Ytfepmbpcdfdlhaa
/-
  Plain words on memory, over any program: a slice that reads as a list of cells; what stays when blocks are added.
-/
namespace Go.Proofs.Ytfepmbpcdfdlhaa
open Go.RowKit Go.Sort

theorem below_then {w a b : World} (h : Below w.heap.size w a) (k : Below a.heap.size a b) : Below w.heap.size w b := h.trans (k.mono h.size)
theorem below1 (w : World) (o1 : Obj) : Below w.heap.size w (w.alloc o1) := (Below.refl _ _).alloc (Nat.le_refl _) _
theorem below2 (w : World) (o1 o2 : Obj) : Below w.heap.size w ((w.alloc o1).alloc o2) := (below1 w o1).alloc (by simp) _
theorem below_drewN {B : Nat} {a w : World} (h : Below B a w) (n : Nat) : Below B a (w.drewN n) := ⟨h.os, h.tape, h.output, h.size, h.block⟩
theorem below_of_grown {w w' : World} {row : Option Nat} (h : w.grownBy w' row) (hr : ∀ g, row = some g → w.heap.size ≤ g) : Below w.heap.size w w' := (Below.refl _ _).grown h (Nat.le_refl _) hr

@[go_sem] theorem cell_old (w : World) (o : Obj) (b i : Nat) (h : b < w.heap.size) : (w.alloc o).cell? ⟨b, i, none⟩ = w.cell? ⟨b, i, none⟩ := World.cell?_alloc_lt w o ⟨b, i, none⟩ h
@[go_sem] theorem frozen_old (w : World) (o : Obj) (b i : Nat) (h : b < w.heap.size) : (w.alloc o).frozen? ⟨b, i, none⟩ = w.frozen? ⟨b, i, none⟩ := World.frozen?_alloc_old w o ⟨b, i, none⟩ (Nat.ne_of_lt h)
theorem add_off (b o j : Nat) : (⟨b, o, none⟩ : Addr).add j = ⟨b, o + j, none⟩ := by unfold Addr.add; split <;> simp_all

/-- The slice '.slice A n _' of elements of 'size' cells holds the cells vs, in a block of which S holds. -/
structure Rd (w : World) (S : Nat → Prop) (size : Nat) (A : Option Addr) (n : Nat) (vs : List Value) : Prop where
  len : vs.length = n * size
  at_ : ∀ (j : Nat) (v : Value), vs[j]? = some v → ∃ b o, A = some ⟨b, o, none⟩ ∧ S b ∧ w.cell? ⟨b, o + j, none⟩ = some v

def Keeps (S : Nat → Prop) (w w' : World) : Prop := ∀ b, S b → w'.heap[b]? = w.heap[b]?
theorem Keeps.below {S : Nat → Prop} {B : Nat} {w w' : World} (hb : Below B w w') (hS : ∀ b, S b → b < B) : Keeps S w w' := fun b h => hb.block b (hS b h)
section
variable {w w' : World} {S S' : Nat → Prop} {size n : Nat} {A : Option Addr} {vs : List Value}
theorem Rd.nil (w : World) (S : Nat → Prop) (size : Nat) (A : Option Addr) : Rd w S size A 0 [] := ⟨by simp, fun j v h => by simp at h⟩
theorem Rd.keep (h : Rd w S size A n vs) (hk : Keeps S w w') : Rd w' S size A n vs :=
  ⟨h.len, fun j v hv => by
    obtain ⟨b, o, e, hs, hc⟩ := h.at_ j v hv
    exact ⟨b, o, e, hs, (World.cell?_of_block (a := ⟨b, o + j, none⟩) (hk b hs)).trans hc⟩⟩
theorem Rd.imp (h : Rd w S size A n vs) (hS : ∀ b, S b → S' b) : Rd w S' size A n vs :=
  ⟨h.len, fun j v hv => by
    obtain ⟨b, o, e, hs, hc⟩ := h.at_ j v hv
    exact ⟨b, o, e, hS b hs, hc⟩⟩
theorem Rd.of_own {base e c : Nat} (h : w.ownsRow base e size (.slice A n c) n vs) : Rd w (fun b => base ≤ b ∧ b < w.heap.size ∧ (Value.slice A n c).ownBlock = some b) size A n vs := by
  refine ⟨h.1, fun j v hv => ?_⟩
  rcases h.2 with ⟨h1, h2⟩ | ⟨g, cap, cur, hs, hb, hg, hn, hm, hz, ht⟩
  · subst h2
    have h3 := h.1
    rw [Nat.zero_mul] at h3
    rw [List.eq_nil_of_length_eq_zero h3] at hv
    simp at hv
  · simp only [Value.slice.injEq] at hs
    obtain ⟨rfl, _, _⟩ := hs
    refine ⟨g, 0, rfl, ⟨hb, (Array.getElem?_eq_some_iff.1 hg).1, rfl⟩, ?_⟩
    rw [Nat.zero_add, cell_of_row w g j cur e (0, 0) hg]
    rw [← ht, List.getElem?_take] at hv
    split at hv
    · simpa using hv
    · cases hv
theorem Rd.addr (h : Rd w S size A n vs) (hn : 0 < n) (hs : 0 < size) : ∃ b o, A = some ⟨b, o, none⟩ ∧ S b := by
  have hl : 0 < vs.length := by rw [h.len]; exact Nat.mul_pos hn hs
  obtain ⟨b, o, e, hlt, _⟩ := h.at_ 0 _ (List.getElem?_eq_getElem hl)
  exact ⟨b, o, e, hlt⟩
/-- the head of a list -/
theorem Rd.take (h : Rd w S size A n vs) {m : Nat} (hm : m ≤ n) : Rd w S size A m (vs.take (m * size)) :=
  ⟨by rw [List.length_take, h.len]; exact Nat.min_eq_left (Nat.mul_le_mul_right _ hm), fun j v hv => by
    rw [List.getElem?_take] at hv
    split at hv
    · exact h.at_ j v hv
    · cases hv⟩
end

/-- element k of a list whose elements are f x, each of 'size' cells -/
theorem flat_get {α : Type} (f : α → List Value) (size : Nat) (hf : ∀ x, (f x).length = size) : ∀ (xs : List α) (k j : Nat) (x : α) (v : Value), xs[k]? = some x → (f x)[j]? = some v → (xs.flatMap f)[k * size + j]? = some v
  | [], k, j, x, v, h, _ => by simp at h
  | y :: ys, 0, j, x, v, h, hv => by
    simp at h
    subst h
    rw [List.flatMap_cons, Nat.zero_mul, Nat.zero_add, List.getElem?_append_left (List.getElem?_eq_some_iff.1 hv).1]
    exact hv
  | y :: ys, k + 1, j, x, v, h, hv => by
    simp at h
    rw [List.flatMap_cons, List.getElem?_append_right (by rw [hf, Nat.add_mul]; omega), hf, show (k + 1) * size + j - size = k * size + j by rw [Nat.add_mul]; omega]
    exact flat_get f size hf ys k j x v h hv
theorem flat_len {α : Type} (f : α → List Value) (size : Nat) (hf : ∀ x, (f x).length = size) (xs : List α) : (xs.flatMap f).length = xs.length * size := by
  induction xs with
  | nil => simp
  | cons x xs ih => rw [List.flatMap_cons, List.length_append, hf, ih, List.length_cons, Nat.add_mul]; omega

/-- the same, element by element -/
structure RdE {α : Type} (f : α → List Value) (size : Nat) (w : World) (S : Nat → Prop) (A : Option Addr) (n : Nat) (xs : List α) : Prop where
  rd : Rd w S size A n (xs.flatMap f)
  num : xs.length = n

section
variable {α : Type} {f : α → List Value} {size : Nat} {w w' : World} {S S' : Nat → Prop} {n : Nat} {A : Option Addr} {xs : List α}
theorem RdE.elem (hf : ∀ x, (f x).length = size) (h : RdE f size w S A n xs) {k : Nat} {x : α} (hx : xs[k]? = some x) (hsz : 0 < size) :
    ∃ b o, A = some ⟨b, o, none⟩ ∧ S b ∧ ∀ j v, (f x)[j]? = some v → w.cell? ⟨b, o + k * size + j, none⟩ = some v := by
  have hl : 0 < (f x).length := by rw [hf]; exact hsz
  obtain ⟨b, o, e, hlt, _⟩ := h.rd.at_ _ _ (flat_get f size hf xs k 0 x _ hx (List.getElem?_eq_getElem hl))
  refine ⟨b, o, e, hlt, fun j v hv => ?_⟩
  obtain ⟨b', o', e', hlt', hc⟩ := h.rd.at_ _ _ (flat_get f size hf xs k j x v hx hv)
  rw [e] at e'
  simp only [Option.some.injEq, Addr.mk.injEq, and_true] at e'
  obtain ⟨rfl, rfl⟩ := e'
  rw [Nat.add_assoc]
  exact hc
theorem RdE.keep (h : RdE f size w S A n xs) (hk : Keeps S w w') : RdE f size w' S A n xs := ⟨h.rd.keep hk, h.num⟩
theorem RdE.imp (h : RdE f size w S A n xs) (hS : ∀ b, S b → S' b) : RdE f size w S' A n xs := ⟨h.rd.imp hS, h.num⟩
theorem RdE.nil (w : World) (S : Nat → Prop) (A : Option Addr) : RdE f size w S A 0 [] := ⟨Rd.nil .., rfl⟩
theorem RdE.of_own {base e c : Nat} (hf : ∀ x, (f x).length = size) (hsz : 0 < size) (h : w.ownsRow base e size (.slice A n c) n (xs.flatMap f)) :
    RdE f size w (fun b => base ≤ b ∧ b < w.heap.size ∧ (Value.slice A n c).ownBlock = some b) A n xs :=
  ⟨Rd.of_own h, by have h1 := h.1; rw [flat_len f size hf] at h1; exact Nat.eq_of_mul_eq_mul_right hsz h1⟩
theorem flat_take (hf : ∀ x, (f x).length = size) : ∀ (xs : List α) (m : Nat), (xs.flatMap f).take (m * size) = (xs.take m).flatMap f
  | [], m => by simp
  | x :: xs, 0 => by simp
  | x :: xs, m + 1 => by
    rw [List.flatMap_cons, List.take_succ_cons, List.flatMap_cons, List.take_append, hf, List.take_of_length_le (by rw [hf, Nat.add_mul]; omega), show (m + 1) * size - size = m * size by rw [Nat.add_mul]; omega, flat_take hf xs m]
theorem RdE.take (hf : ∀ x, (f x).length = size) (h : RdE f size w S A n xs) {m : Nat} (hm : m ≤ n) : RdE f size w S A m (xs.take m) :=
  ⟨by rw [← flat_take hf]; exact h.rd.take hm, by rw [List.length_take, h.num]; exact Nat.min_eq_left hm⟩
theorem get_some {xs : List α} {k n : Nat} (hn : xs.length = n) (hk : k < n) : ∃ x, xs[k]? = some x := ⟨_, List.getElem?_eq_getElem (by omega)⟩
end

/-- append onto a row of the call's own, from a slice that reads as a list of cells (nil, empty or not) -/
theorem run_append_rd {P : Program} (w : World) (base : Nat) (t ty e : TypeId) (i : TypeInfo) (z : Value) (size bytes : Nat) (ht : P.underlying t = some (.slice e)) (hi : P.info? e = some i) (hz : i.zero = some z)
    (hsize : i.size = size) (hby : i.bytes = bytes) (hzs : z.cells.size = size) (hsz : 0 < size) (v : Value) (n : Nat) (xs : List Value) (hown : w.ownsRow base e size v n xs)
    (S : Nat → Prop) (A : Option Addr) (m c : Nat) (news : List Value) (hr : Rd w S size A m news) (h1 : ∀ u ∈ news, u.oneCell' = true)
    (h63 : n + m ≤ maxLen) (hbytes : (n + m) * bytes ≤ 140737488355328) (hbase : base ≤ w.heap.size) (hA : A = none ∨ ∃ ad, A = some ad) :
    ∃ v' w', (Builtin.append_ #[t, t] ty #[v, .slice A m c]).run P w = .ok v' w' ∧ w'.ownsRow base e size v' (n + m) (xs ++ news) ∧ w.grownBy w' v.ownBlock ∧ (v'.ownBlock = v.ownBlock ∨ v'.ownBlock = some w.heap.size) := by
  rcases hA with rfl | ⟨ad, rfl⟩
  · have hm : m = 0 := by
      rcases Nat.eq_zero_or_pos m with h | h
      · exact h
      · obtain ⟨b, o, h2, _⟩ := hr.addr h hsz
        cases h2
    subst hm
    have hn : news = [] := List.eq_nil_of_length_eq_zero (by simpa using hr.len)
    subst hn
    refine ⟨v, w, ?_, by simpa using hown, World.grownBy.refl w _, .inl rfl⟩
    rcases hown.2 with ⟨rfl, rfl⟩ | ⟨g, cap, cur, rfl, _, _, hnc, _⟩
    · simp [Builtin.append_, run_underlying ht, sizeOf, typeInfo, hi, Builtin.lenOf, Builtin.firstCells]
    · simp [Builtin.append_, run_underlying ht, sizeOf, typeInfo, hi, Builtin.lenOf, Builtin.firstCells, hnc, storeCells]
  · have hcells : ∀ j u, news[j]? = some u → w.cell? (ad.add j) = some u := fun j u hu => by
      obtain ⟨b, o, e1, _, hc⟩ := hr.at_ j u hu
      injection e1 with e1
      subst e1
      rw [add_off]
      exact hc
    obtain ⟨v', w', hrun, h2, h3, _, h5⟩ := run_append_own_at (P := P) w base t ty e i z size bytes ht hi hz hsize hby hzs hsz v n xs hown ad m c news hr.len hcells h1 h63 hbytes hbase
    exact ⟨v', w', hrun, h2, h3, h5⟩

theorem opt_cases {α : Type} (A : Option α) : A = none ∨ ∃ a, A = some a := by cases A; exact .inl rfl; exact .inr ⟨_, rfl⟩

theorem wpList_append_rd {P : Program} (w : World) {ops : Array Oper} {rest : List Oper} {o : Oper} {a : Act} {Q : Exit → Act → World → Prop} (hgd : o.guard = none) (s x : Operand) (t : TypeId)
    (ho : o.op = .call { callee := .builtin .append, args := #[s, x], argTypes := #[t, t] })
    (base : Nat) (e : TypeId) (i : TypeInfo) (z : Value) (size bytes : Nat) (ht : P.underlying t = some (.slice e)) (hi : P.info? e = some i) (hz : i.zero = some z)
    (hsize : i.size = size) (hby : i.bytes = bytes) (hzs : z.cells.size = size) (hsz : 0 < size)
    (v : Value) (n : Nat) (xs : List Value) (hs : a.eval s = v) (hown : w.ownsRow base e size v n xs)
    (S : Nat → Prop) (A : Option Addr) (m c : Nat) (news : List Value) (hx : a.eval x = .slice A m c) (hr : Rd w S size A m news) (h1 : ∀ u ∈ news, u.oneCell' = true)
    (h63 : n + m ≤ maxLen) (hbytes : (n + m) * bytes ≤ 140737488355328) (hbase : base ≤ w.heap.size)
    (h : ∀ v' w', w'.ownsRow base e size v' (n + m) (xs ++ news) → w.grownBy w' v.ownBlock → (v'.ownBlock = v.ownBlock ∨ v'.ownBlock = some w.heap.size) → wpList P ops Q rest (a.put o.dst v') w') : wpList P ops Q (o :: rest) a w := by
  refine wpList_plain hgd fun K hK => ?_
  obtain ⟨v', w', hrun, h2, h3, h5⟩ := run_append_rd (P := P) w base t o.type e i z size bytes ht hi hz hsize hby hzs hsz v n xs hown S A m c news hr h1 h63 hbytes hbase (opt_cases A)
  unfold Oper.wp execOp
  simp only [ho, resolve, invoke, builtin, Sem.run_bind, Sem.run_pure, Result.andThen_ok, List.map_toArray, List.map_cons, List.map_nil, hs, hx, hrun]
  exact hK _ _ (h v' w' h2 h3 h5)

theorem own_slice {w : World} {base e size n : Nat} {v : Value} {vs : List Value} (h : w.ownsRow base e size v n vs) : ∃ A c, v = .slice A n c ∧ n ≤ c ∧ (∀ ad, A = some ad → ∃ g, ad = ⟨g, 0, none⟩ ∧ base ≤ g) := by
  rcases h.2 with ⟨rfl, rfl⟩ | ⟨g, cap, cur, rfl, hb, _, hn, _⟩
  · exact ⟨none, 0, rfl, Nat.le_refl _, fun _ h => by cases h⟩
  · exact ⟨some ⟨g, 0, none⟩, cap, rfl, hn, fun _ h => by injection h with h; subst h; exact ⟨g, rfl, hb⟩⟩

theorem own_elem {α : Type} {f : α → List Value} {size : Nat} (hf : ∀ x, (f x).length = size) {w : World} {base e g n cap : Nat} {xs : List α} (h : w.ownsRow base e size (.slice (some ⟨g, 0, none⟩) n cap) n (xs.flatMap f)) {k : Nat} {x : α} (hx : xs[k]? = some x) :
    ∀ j v, (f x)[j]? = some v → w.cell? ⟨g, k * size + j, none⟩ = some v := by
  intro j v hv
  have hg := flat_get f size hf xs k j x v hx hv
  have hl := (List.getElem?_eq_some_iff.1 hg).1
  rw [h.1] at hl
  rw [h.cellAt _ hl, hg]
theorem own_num {α : Type} {f : α → List Value} {size : Nat} (hf : ∀ x, (f x).length = size) (hsz : 0 < size) {w : World} {base e n : Nat} {v : Value} {xs : List α} (h : w.ownsRow base e size v n (xs.flatMap f)) : xs.length = n := by
  have h1 := h.1
  rw [flat_len f size hf] at h1
  exact Nat.eq_of_mul_eq_mul_right hsz h1
/-- n stores in a row, from offset o on -/
def setAll (w : World) (g o : Nat) : List Value → World
  | [] => w
  | v :: vs => setAll (w.setCell ⟨g, o, none⟩ v) g (o + 1) vs
def putAll (xs : List Value) (o : Nat) : List Value → List Value
  | [] => xs
  | v :: vs => putAll (xs.set o v) (o + 1) vs
theorem own_setAll {base e size g n cap : Nat} : ∀ (vs : List Value) (o : Nat) (w : World) (xs : List Value), w.ownsRow base e size (.slice (some ⟨g, 0, none⟩) n cap) n xs →
    (setAll w g o vs).ownsRow base e size (.slice (some ⟨g, 0, none⟩) n cap) n (putAll xs o vs) ∧ w.grownBy (setAll w g o vs) (some g)
  | [], _, w, _, h => ⟨h, World.grownBy.refl w _⟩
  | v :: vs, o, w, xs, h => by
    obtain ⟨h1, h2⟩ := h.stored o v
    obtain ⟨h3, h4⟩ := own_setAll vs (o + 1) _ _ h1
    exact ⟨h3, h2.trans h4⟩
theorem putAll_get (vs : List Value) : ∀ (xs : List Value) (o i : Nat), o + vs.length ≤ xs.length → (putAll xs o vs)[i]? = if o ≤ i ∧ i < o + vs.length then vs[i - o]? else xs[i]? := by
  induction vs with
  | nil => intro xs o i _; simp [putAll]; omega
  | cons v vs ih =>
    intro xs o i h
    simp only [List.length_cons] at h ⊢
    rw [putAll, ih _ _ _ (by simp; omega)]
    by_cases h1 : o + 1 ≤ i ∧ i < o + 1 + vs.length
    · rw [if_pos h1, if_pos (by omega), show i - o = (i - (o + 1)) + 1 by omega, List.getElem?_cons_succ]
    · rw [if_neg h1]
      by_cases h2 : i = o
      · subst h2
        rw [if_pos (by omega), Nat.sub_self, List.getElem?_set_self (by omega)]
        rfl
      · rw [if_neg (by omega), List.getElem?_set_ne (by omega)]
theorem putAll_flat {α : Type} {f : α → List Value} {size : Nat} (hf : ∀ x, (f x).length = size) (x : α) : ∀ (xs : List α) (k : Nat), k < xs.length → putAll (xs.flatMap f) (k * size) (f x) = (xs.set k x).flatMap f := by
  intro xs k hk
  apply List.ext_getElem?
  intro i
  have hl := flat_len f size hf xs
  rw [putAll_get _ _ _ _ (by rw [hf, hl]; have := Nat.mul_le_mul_right size (show k + 1 ≤ xs.length by omega); rw [Nat.add_mul] at this; omega), hf]
  have go : ∀ (ys : List α) (k i : Nat), k < ys.length → ((ys.set k x).flatMap f)[i]? = if k * size ≤ i ∧ i < k * size + size then (f x)[i - k * size]? else (ys.flatMap f)[i]? := by
    intro ys
    induction ys with
    | nil => intro k i h; simp at h
    | cons y ys ih =>
      intro k i h
      cases k with
      | zero =>
        simp only [List.set_cons_zero, List.flatMap_cons, Nat.zero_mul, Nat.zero_le, true_and, Nat.zero_add, Nat.sub_zero]
        by_cases h1 : i < size
        · rw [if_pos h1, List.getElem?_append_left (by rw [hf]; exact h1)]
        · rw [if_neg h1, List.getElem?_append_right (by rw [hf]; omega), List.getElem?_append_right (by rw [hf]; omega), hf, hf]
      | succ k =>
        simp only [List.set_cons_succ, List.flatMap_cons]
        have hm : (k + 1) * size = k * size + size := by rw [Nat.add_mul]; omega
        by_cases h1 : i < size
        · rw [List.getElem?_append_left (by rw [hf]; exact h1), if_neg (by omega), List.getElem?_append_left (by rw [hf]; exact h1)]
        · rw [List.getElem?_append_right (by rw [hf]; omega), List.getElem?_append_right (by rw [hf]; omega), hf, ih k (i - size) (by simp at h; omega)]
          by_cases h2 : k * size ≤ i - size ∧ i - size < k * size + size
          · rw [if_pos h2, if_pos (by omega)]
            congr 1
            omega
          · rw [if_neg h2, if_neg (by omega)]
  exact (go xs k i hk).symm

/-- a slice of slices: row i reads as L[i] -/
structure RdRows {α : Type} (f : α → List Value) (size : Nat) (w : World) (S : Nat → Prop) (A : Option Addr) (n : Nat) (L : List (List α)) : Prop where
  vs : ∃ vs : List Value, Rd w S 1 A n vs ∧ ∀ (i : Nat) (l : List α), L[i]? = some l → ∃ A' c', vs[i]? = some (Value.slice A' l.length c') ∧ l.length ≤ c' ∧ RdE f size w S A' l.length l
  num : L.length = n

section
variable {α : Type} {f : α → List Value} {size : Nat} {w w' : World} {S S' : Nat → Prop} {n : Nat} {A : Option Addr} {L : List (List α)}
end

/-- rows that the call has made so far: k of them, the outer row owned -/
structure MadeRows {α : Type} (f : α → List Value) (size : Nat) (B : Nat) (eo : TypeId) (w : World) (v : Value) (k : Nat) (L : List (List α)) : Prop where
  own : ∃ vs : List Value, w.ownsRow B eo 1 v k vs ∧ ∀ (i : Nat) (l : List α), i < k → L[i]? = some l → ∃ A' c', vs[i]? = some (Value.slice A' l.length c') ∧ l.length ≤ c' ∧ RdE f size w (fun b => B ≤ b ∧ b < w.heap.size ∧ some b ≠ v.ownBlock) A' l.length l

section
variable {α : Type} {f : α → List Value} {size : Nat} {B eo : Nat}
end

end Go.Proofs.Ytfepmbpcdfdlhaa

/-
  A region that draws its order, whose first n operations only read or call what makes memory of its own, and whose last ones are a chain behind them:
  the first n are walked once, in a class of worlds; the rest in any world of the class.
-/
namespace Go.Proofs.Ytfepmbpcdfdlhaa
open Go.RowKit Go.Sort

section
variable {P : Program} {ops : Array Oper} {md : Region.Mode} {C : World → Prop}
end
theorem below_class {w w' : World} (h : ∃ p : Regrown, w' = grow (redrawn w p.d) p.os) : Below w.heap.size w w' := by
  obtain ⟨p, rfl⟩ := h
  exact below_regrown w p.d p.os

theorem bat {w w' : World} (hb : Below w.heap.size w w') {b o : Nat} {v : Value} (h : w.cell? ⟨b, o, none⟩ = some v) : w'.cell? ⟨b, o, none⟩ = some v :=
  (hb.cell (p := ⟨b, o, none⟩) (World.block_lt_of_cell? w ⟨b, o, none⟩ h)).trans h
theorem bfz {w w' : World} (hb : Below w.heap.size w w') {b o : Nat} (hl : b < w.heap.size) (h : w.frozen? ⟨b, o, none⟩ = false) : w'.frozen? ⟨b, o, none⟩ = false :=
  (hb.frozen (p := ⟨b, o, none⟩) hl).trans h
theorem rd_blk {w : World} {g : Nat} {cs : Array Value} {t : TypeId} {fr : Nat × Nat} (h : w.heap[g]? = some (.cells cs t fr)) {n size : Nat} (hn : cs.size = n * size) {S : Nat → Prop} (hS : S g) : Rd w S size (some ⟨g, 0, none⟩) n cs.toList :=
  ⟨by simpa using hn, fun j v hv => ⟨g, 0, rfl, hS, by rw [Nat.zero_add, cell_of_row w g j cs t fr h]; simpa using hv⟩⟩
theorem rde_blk {α : Type} {f : α → List Value} {w : World} {g : Nat} {cs : Array Value} {t : TypeId} {fr : Nat × Nat} (h : w.heap[g]? = some (.cells cs t fr)) {n size : Nat} (hn : cs.size = n * size) {S : Nat → Prop} (hS : S g) {xs : List α} (hx : cs.toList = xs.flatMap f) (hl : xs.length = n) : RdE f size w S (some ⟨g, 0, none⟩) n xs :=
  ⟨hx ▸ rd_blk h hn hS, hl⟩
theorem blk_new (w : World) (cs : Array Value) (t : TypeId) : (w.alloc (.cells cs t)).heap[w.heap.size]? = some (.cells cs t (0, 0)) := heap_alloc_new w _
theorem blk_old {w : World} {g : Nat} {o : Obj} (h : w.heap[g]? = some o) (p : Obj) : (w.alloc p).heap[g]? = some o :=
  (Below.heap_alloc w p g (Array.getElem?_eq_some_iff.1 h).1).trans h
theorem new_cell (w : World) (cs : Array Value) (t : TypeId) (i : Nat) (v : Value) (h : cs[i]? = some v) : (w.alloc (.cells cs t)).cell? ⟨w.heap.size, i, none⟩ = some v := by
  rw [World.cell?_alloc_new]; exact h

end Go.Proofs.Ytfepmbpcdfdlhaa

/-
  The same where some plain moves stand ahead that only the last operations look at ('x = append(x, f(y[i]))'): they are taken first.
-/
namespace Go.Proofs.Ytfepmbpcdfdlhaa
open Go.RowKit Go.Sort

/-- the moves E, one behind the other, on the frame alone -/
def early (ops : Array Oper) : List Nat → Act → Act
  | [], a => a
  | i :: is, a => match ops[i]? with
    | some o => match o.op with
      | .move x => early ops is (a.put o.dst (a.eval x))
      | _ => early ops is a
    | none => early ops is a
section
variable {P : Program} {ops : Array Oper} {md : Region.Mode} {C : World → Prop}
/-- what stays true while the head is worked off -/
structure InvE (md : Region.Mode) (ops : Array Oper) (E : List Nat) (n : Nat) (listed : Array Bool) : Prop where
  inv : HeadInv md ops n listed
  early : ∀ i ∈ E, i < ops.size → listed.getD i false = true
end
end Go.Proofs.Ytfepmbpcdfdlhaa

/- numbers in words of 32 bits -/
namespace Go.Proofs.Ytfepmbpcdfdlhaa

/-- a word's cell -/
abbrev Wc (x : Nat) : List Value := [.int .u32 (x : Int)]
theorem Wc.clen (x : Nat) : (Wc x).length = 1 := rfl
abbrev W32 : Nat := 4294967296
def nv : List Nat → Nat
  | [] => 0
  | x :: r => x + W32 * nv r
def Wds (ws : List Nat) : Prop := ∀ x ∈ ws, x < W32
def digF : Nat → Nat → List Nat
  | 0, _ => []
  | f + 1, N => if N = 0 then [] else N % W32 :: digF f (N / W32)
/-- the words of a number, none above the highest that is not 0 -/
def dig (N : Nat) : List Nat := digF N N
def isDig (ws : List Nat) : Prop := Wds ws ∧ ∀ h : ws ≠ [], ws.getLast h ≠ 0

theorem nv_append (a b : List Nat) : nv (a ++ b) = nv a + W32 ^ a.length * nv b := by
  induction a with
  | nil => simp [nv]
  | cons x a ih =>
    simp only [List.cons_append, nv, ih, List.length_cons, Nat.pow_succ, Nat.mul_add, Nat.add_assoc]
    rw [Nat.mul_comm (W32 ^ a.length) W32, Nat.mul_assoc]
theorem Wds.tail {x : Nat} {r : List Nat} (h : Wds (x :: r)) : Wds r := fun y hy => h y (List.mem_cons_of_mem _ hy)
theorem Wds.head {x : Nat} {r : List Nat} (h : Wds (x :: r)) : x < W32 := h x List.mem_cons_self
theorem Wds.append {a b : List Nat} (ha : Wds a) (hb : Wds b) : Wds (a ++ b) := fun y hy => (List.mem_append.1 hy).elim (ha y) (hb y)
theorem Wds.take {a : List Nat} (ha : Wds a) (n : Nat) : Wds (a.take n) := fun y hy => ha y (List.mem_of_mem_take hy)
theorem Wds.get {a : List Nat} (ha : Wds a) {i x : Nat} (h : a[i]? = some x) : x < W32 := ha x (List.mem_of_getElem? h)
theorem nv_lt : ∀ {ws : List Nat}, Wds ws → nv ws < W32 ^ ws.length
  | [], _ => by simp [nv]
  | x :: r, h => by
    have h1 := nv_lt h.tail
    have h2 := h.head
    simp only [nv, List.length_cons, Nat.pow_succ]
    have h3 : W32 * nv r + W32 ≤ W32 * W32 ^ r.length := by
      rw [← Nat.mul_succ]
      exact Nat.mul_le_mul_left _ h1
    rw [Nat.mul_comm (W32 ^ r.length) W32]
    omega
theorem digF_nv : ∀ (f N : Nat), N ≤ f → nv (digF f N) = N
  | 0, N, h => by simp [digF, nv]; omega
  | f + 1, N, h => by
    unfold digF
    split
    · rename_i e; rw [e]; rfl
    · have h2 : N / W32 ≤ f := by
        have : N / W32 < N := Nat.div_lt_self (by omega) (by decide)
        omega
      rw [nv, digF_nv f _ h2]
      exact Nat.mod_add_div N W32
theorem nv_dig (N : Nat) : nv (dig N) = N := digF_nv N N (Nat.le_refl _)
theorem digF_wds : ∀ (f N : Nat), Wds (digF f N)
  | 0, N => fun x h => by simp [digF] at h
  | f + 1, N => by
    unfold digF
    split
    · intro x h; simp at h
    · intro x h
      rcases List.mem_cons.1 h with rfl | h
      · exact Nat.mod_lt _ (by decide)
      · exact digF_wds f _ x h
theorem dig_wds (N : Nat) : Wds (dig N) := digF_wds N N
theorem digF_nil {f N : Nat} (hf : N ≤ f) (h : digF f N = []) : N = 0 := by
  have := digF_nv f N hf
  rw [h] at this
  exact this.symm
theorem digF_last : ∀ (f N : Nat), N ≤ f → ∀ h : digF f N ≠ [], (digF f N).getLast h ≠ 0
  | 0, N, _, h => absurd rfl h
  | f + 1, N, hN, h => by
    have h0 : N ≠ 0 := by rintro rfl; simp [digF] at h
    have e : digF (f + 1) N = N % W32 :: digF f (N / W32) := by rw [digF, if_neg h0]
    have hlt : N / W32 ≤ f := by
      have : N / W32 < N := Nat.div_lt_self (by omega) (by decide)
      omega
    simp only [e]
    by_cases hn : digF f (N / W32) = []
    · simp only [hn, List.getLast_singleton]
      have h1 := digF_nil hlt hn
      have h2 := Nat.mod_add_div N W32
      rw [h1] at h2
      omega
    · rw [List.getLast_cons hn]
      exact digF_last f _ hlt hn
theorem dig_isDig (N : Nat) : isDig (dig N) := ⟨dig_wds N, fun h => digF_last N N (Nat.le_refl _) h⟩

/-- words that are trimmed are told by their number -/
theorem isDig_pos {ws : List Nat} (h : isDig ws) (hne : ws ≠ []) : W32 ^ (ws.length - 1) ≤ nv ws := by
  have e := List.dropLast_concat_getLast hne
  rw [← e, nv_append]
  have h1 : ws.dropLast.length = ws.length - 1 := by simp
  have h2 : (ws.dropLast ++ [ws.getLast hne]).length - 1 = ws.length - 1 := by simp
  rw [h2, h1]
  have h3 := h.2 hne
  simp only [nv]
  have : W32 ^ (ws.length - 1) * 1 ≤ W32 ^ (ws.length - 1) * (ws.getLast hne + W32 * 0) := Nat.mul_le_mul_left _ (by omega)
  omega
theorem isDig_zero {ws : List Nat} (h : isDig ws) (h0 : nv ws = 0) : ws = [] := by
  by_cases hne : ws = []
  · exact hne
  · have h1 := isDig_pos h hne
    have h2 : 0 < W32 ^ (ws.length - 1) := Nat.pow_pos (by decide)
    omega
theorem isDig.tail {x : Nat} {r : List Nat} (h : isDig (x :: r)) : isDig r := ⟨h.1.tail, fun hn => by have := h.2 (by simp); rwa [List.getLast_cons hn] at this⟩
theorem isDig_unique : ∀ {a b : List Nat}, isDig a → isDig b → nv a = nv b → a = b
  | [], b, _, hb, h => (isDig_zero hb h.symm).symm
  | a, [], ha, _, h => isDig_zero ha h
  | x :: a, y :: b, ha, hb, h => by
    have hx := ha.1.head
    have hy := hb.1.head
    simp only [nv] at h
    have e1 : x = y := by
      have h1 : (x + W32 * nv a) % W32 = (y + W32 * nv b) % W32 := by rw [h]
      rw [Nat.add_mul_mod_self_left, Nat.add_mul_mod_self_left, Nat.mod_eq_of_lt hx, Nat.mod_eq_of_lt hy] at h1
      exact h1
    subst e1
    have e2 : nv a = nv b := Nat.eq_of_mul_eq_mul_left (show 0 < W32 by decide) (by omega)
    rw [isDig_unique ha.tail hb.tail e2]
theorem dig_unique {ws : List Nat} (h : isDig ws) : ws = dig (nv ws) := isDig_unique h (dig_isDig _) (nv_dig _).symm

end Go.Proofs.Ytfepmbpcdfdlhaa

/- trim, twin, words, plain: the walks -/
namespace Go.Proofs.Ytfepmbpcdfdlhaa
open Go.RowKit Go.Sort

theorem take_zero_last {ws : List Nat} {k : Nat} (h : ws[k]? = some 0) : nv (ws.take (k + 1)) = nv (ws.take k) := by
  obtain ⟨hl, e⟩ := List.getElem?_eq_some_iff.1 h
  rw [List.take_succ_eq_append_getElem hl, nv_append, e]
  simp [nv]
theorem take_isDig {ws : List Nat} {k x : Nat} (hw : Wds ws) (h : ws[k]? = some x) (hx : x ≠ 0) : isDig (ws.take (k + 1)) := by
  obtain ⟨hl, e⟩ := List.getElem?_eq_some_iff.1 h
  refine ⟨hw.take _, fun hn => ?_⟩
  have : (ws.take (k + 1)).getLast hn = x := by
    simp only [List.take_succ_eq_append_getElem hl, e, List.getLast_append, List.getLast_singleton]; simp
  rw [this]
  exact hx

theorem hw0 {ws : List Nat} (h : Wds ws) {i x : Nat} (hx : ws[i]? = some x) : x < 4294967296 := h.get hx

theorem trim_any (A : Option Addr) (n c : Nat) (ws : List Nat) (S : Nat → Prop) (w : World) (hx : RdE Wc 1 w S A n ws) (hw : Wds ws) (hS : ∀ b, S b → b < w.heap.size) (hn : n ≤ 1000000000000) (hnc : n ≤ c) :
    Calls Try.prog 102 #[.slice A n c] w fun e w' => ∃ k, e = .returned (.slice A k c) ∧ k ≤ n ∧ ws.take k = dig (nv ws) ∧ Below w.heap.size w w' := by
  have HX := Lib.hid hx
  have HW := Lib.hid hw
  have HS := Lib.hid hS
  clear hx hw hS
  go_enter Try.func102, Try.ntmps102
  go_wp2_with fail
  go_loop [3] (fun i => ∃ k : Nat, k ≤ n ∧ i = .int .i64 k ∧ nv (ws.take k) = nv ws) (fun i => (intOf i).toNat)
  case atStart => exact ⟨n, Nat.le_refl _, rfl, by rw [List.take_of_length_le (by rw [HX.out.num]; exact Nat.le_refl _)]⟩
  case round =>
    obtain ⟨k, hk, rfl, hv⟩ := hrel
    have HV := Lib.hid hv
    clear hv
    by_cases h0 : k = 0
    · subst h0
      go_wp2_with fail
      go_ret
      have e : nv ws = 0 := by rw [← HV.out]; rfl
      exact ⟨0, rfl, Nat.zero_le _, by rw [e]; rfl, Below.refl _ _⟩
    · obtain ⟨j, rfl⟩ : ∃ j, k = j + 1 := ⟨k - 1, by omega⟩
      obtain ⟨x, hx⟩ := get_some HX.out.num (show j < n by omega)
      obtain ⟨b, o, rfl, hSb, hc⟩ := HX.out.elem Wc.clen hx (by omega)
      have q0 : w.cell? ⟨b, o + j, none⟩ = some (.int .u32 (x : Int)) := by have h := hc 0 _ rfl; rw [Nat.mul_one, Nat.add_zero] at h; exact h
      have HXX := Lib.hid hx
      clear hx hc
      by_cases hz : x = 0
      · subst hz
        go_wp2_with fail
        go_round
        case rel => exact ⟨j, by omega, by go_num, by rw [← take_zero_last HXX.out]; exact HV.out⟩
        case measure => simp [intOf]
      · have hz1 : ((x : Int) == 0) = false := by simp; omega
        have HZ := Lib.hid hz
        clear hz
        go_wp2_with fail
        go_ret
        exact ⟨j + 1, rfl, by omega, by rw [← HV.out]; exact dig_unique (take_isDig HW.out HXX.out HZ.out), Below.refl _ _⟩

def pl (ws : List Nat) : Nat := ws.getD 0 0 + W32 * ws.getD 1 0
theorem plain_any (A : Option Addr) (n c : Nat) (ws : List Nat) (S : Nat → Prop) (w : World) (hx : RdE Wc 1 w S A n ws) (hw : Wds ws) :
    Calls Try.prog 114 #[.slice A n c] w fun e w' => e = .returned (.int .u64 (pl ws)) ∧ w = w' := by
  have HX := Lib.hid hx
  have HW := Lib.hid hw
  clear hx hw
  by_cases h0 : n = 0
  · subst h0
    have hn : ws = [] := List.eq_nil_of_length_eq_zero HX.out.num
    subst hn
    go_enter Try.func114, Try.ntmps114
    go_wp2_with fail
    go_ret
    exact ⟨rfl, rfl⟩
  · obtain ⟨x, hx⟩ := get_some HX.out.num (show 0 < n by omega)
    obtain ⟨b, o, rfl, hSb, hc⟩ := HX.out.elem Wc.clen hx (by omega)
    have q0 : w.cell? ⟨b, o, none⟩ = some (.int .u32 (x : Int)) := hc 0 _ rfl
    have hxl := hw0 HW.out hx
    have HXX := Lib.hid hx
    clear hx hc
    by_cases h1 : n = 1
    · subst h1
      go_enter Try.func114, Try.ntmps114
      go_wp2_with fail
      go_ret
      have e : ws.getD 1 0 = 0 := by simp [List.getD, List.getElem?_eq_none (show ws.length ≤ 1 by rw [HX.out.num]; omega)]
      have e0 : ws.getD 0 0 = x := by simp [List.getD, HXX.out]
      exact ⟨by rw [pl, e, e0]; rfl, rfl⟩
    · obtain ⟨y, hy⟩ := get_some HX.out.num (show 1 < n by omega)
      obtain ⟨b', o', e', _, hc'⟩ := HX.out.elem Wc.clen hy (by omega)
      cases e'
      have q1 : w.cell? ⟨b, o + 1, none⟩ = some (.int .u32 (y : Int)) := hc' 0 _ rfl
      have hyl := hw0 HW.out hy
      have HYY := Lib.hid hy
      clear hy hc'
      go_enter Try.func114, Try.ntmps114
      go_wp2_with fail
      go_ret
      have e1 : ws.getD 1 0 = y := by simp [List.getD, HYY.out]
      have e0 : ws.getD 0 0 = x := by simp [List.getD, HXX.out]
      refine ⟨?_, rfl⟩
      show Ending.returned (Value.int .u64 (bits .or .u64 (x : Int) ((y : Int) * 4294967296))) = _
      rw [u64_or32 _ _ (by omega) (by omega) (by omega) (by omega) (by omega), pl, e1, e0]
      congr 2
      show (x : Int) + y * 4294967296 = ((x + 4294967296 * y : Nat) : Int)
      omega

theorem words_any (x : Nat) (w : World) (hx : x < 18446744073709551616) :
    Calls Try.prog 101 #[.int .u64 x] w fun e w' => ∃ A c, e = .returned (.slice A (dig x).length c) ∧ (dig x).length ≤ c ∧ RdE Wc 1 w' (fun b => w.heap.size ≤ b ∧ b < w'.heap.size) A (dig x).length (dig x) ∧ Below w.heap.size w w' := by
  have i1 := trim_any
  have I1 := Lib.hid i1
  clear i1
  go_enter Try.func101, Try.ntmps101
  go_wp2_with fail
  have hlt : x / W32 < W32 := by show x / 4294967296 < 4294967296; omega
  have hnv : nv [x % W32, x / W32] = x := by
    show x % W32 + W32 * (x / W32 + W32 * 0) = x
    rw [Nat.mul_zero, Nat.add_zero]
    exact Nat.mod_add_div x W32
  have hrd : RdE Wc 1 (w.alloc (.cells #[.int .u32 ((x : Int) % 4294967296), .int .u32 ((x : Int) / 4294967296)] 135)) (fun b => b = w.heap.size) (some ⟨w.heap.size, 0, none⟩) 2 [x % W32, x / W32] := rde_blk (f := Wc) (n := 2) (size := 1) (S := fun b => b = w.heap.size) (xs := [x % W32, x / W32]) (blk_new w #[.int .u32 ((x : Int) % 4294967296), .int .u32 ((x : Int) / 4294967296)] 135) rfl rfl rfl rfl
  have hwd : Wds [x % W32, x / W32] := by
    intro y hy
    simp only [List.mem_cons, List.not_mem_nil, or_false] at hy
    rcases hy with rfl | rfl
    · exact Nat.mod_lt _ (by decide)
    · exact hlt
  refine (I1.out _ 2 2 [x % W32, x / W32] _ _ hrd hwd (fun b hb => by rw [hb]; simp) (by omega) (by omega)).mono ?_
  rintro e w1 ⟨k, rfl, hk, htk, hb1⟩
  rw [hnv] at htk
  have hlen : k = (dig x).length := by rw [← htk, List.length_take]; simp; omega
  have hr1 := (hrd.keep (Keeps.below hb1 (fun b hb => by rw [hb]; simp))).take Wc.clen hk
  rw [htk] at hr1
  have hsz := hb1.size
  simp only [World.size_alloc] at hsz
  have HR := Lib.hid (hr1.imp (S' := fun b => w.heap.size ≤ b ∧ b < w1.heap.size) fun b hb => by rw [hb]; omega)
  have HB := Lib.hid (below_then (below1 w _) hb1)
  have HK := Lib.hid hlen
  have hk2 := hk
  clear hr1 hrd hwd hb1 htk hlen hnv
  go_wp2_with fail
  go_ret
  refine ⟨some ⟨w.heap.size, 0, none⟩, 2, ?_, by rw [← HK.out]; exact hk2, ?_, HB.out⟩
  · rw [← HK.out]; rfl
  · rw [← HK.out]; exact HR.out

end Go.Proofs.Ytfepmbpcdfdlhaa

/- twin, add: the walks -/
namespace Go.Proofs.Ytfepmbpcdfdlhaa
open Go.RowKit Go.Sort

theorem info_u32 : (Try.prog.info? 135).map (fun i => (i.zero, i.size, i.bytes)) = some (some (.int .u32 0), 1, 4) := by kernel_rfl
theorem info_parts' {i : Option TypeInfo} {z : Value} {s b : Nat} (h : i.map (fun i => (i.zero, i.size, i.bytes)) = some (some z, s, b)) : ∃ j, i = some j ∧ j.zero = some z ∧ j.size = s ∧ j.bytes = b := by
  cases i with
  | none => cases h
  | some j => simp only [Option.map_some, Option.some.injEq, Prod.mk.injEq] at h; exact ⟨j, rfl, h.1, h.2.1, h.2.2⟩
theorem wc_one (xs : List Nat) : ∀ u ∈ xs.flatMap Wc, u.oneCell' = true := by
  intro u hu
  obtain ⟨x, _, hx⟩ := List.mem_flatMap.1 hu
  simp [Wc] at hx
  subst hx
  rfl
theorem made_get (z : List Value) (n : Nat) (j : Nat) (h : j < n) : (madeCells z.toArray n).toList[j]? = some (z.toArray[j % z.length]!) := by
  simp [madeCells, h]
theorem rep_get {α : Type} (f : α → List Value) (size : Nat) (hf : ∀ x, (f x).length = size) (x : α) : ∀ (n j : Nat), j < n * size → 0 < size → ((List.replicate n x).flatMap f)[j]? = (f x)[j % size]?
  | 0, j, h, _ => by omega
  | n + 1, j, h, hs => by
    rw [List.replicate_succ, List.flatMap_cons]
    by_cases h1 : j < size
    · rw [List.getElem?_append_left (by rw [hf]; exact h1), Nat.mod_eq_of_lt h1]
    · rw [List.getElem?_append_right (by rw [hf]; omega), hf, rep_get f size hf x n (j - size) (by rw [Nat.add_mul] at h; omega) hs]
      rw [← Nat.mod_eq_sub_mod (show size ≤ j by omega)]
theorem made_flat {α : Type} (f : α → List Value) (size : Nat) (hf : ∀ x, (f x).length = size) (hs : 0 < size) (x : α) (n : Nat) : (madeCells (f x).toArray (n * size)).toList = (List.replicate n x).flatMap f := by
  apply List.ext_getElem?
  intro j
  by_cases h : j < n * size
  · rw [made_get _ _ _ h, rep_get f size hf x n j h hs, hf]
    have h2 : j % size < (f x).length := by rw [hf]; exact Nat.mod_lt _ hs
    rw [List.getElem?_eq_getElem h2]
    simp [h2]
  · rw [List.getElem?_eq_none (by simp [madeCells]; omega), List.getElem?_eq_none (by rw [flat_len f size hf]; simp; omega)]
theorem made_u32 (n : Nat) : (madeCells (Value.int .u32 0).cells (n * 1)).toList = (List.replicate n 0).flatMap Wc := made_flat Wc 1 Wc.clen (by omega) 0 n

theorem twin_any (A : Option Addr) (n c : Nat) (ws : List Nat) (S : Nat → Prop) (w : World) (hx : RdE Wc 1 w S A n ws) (hn : n ≤ 8796093021952) :
    Calls Try.prog 68 #[.slice A n c] w fun e w' => ∃ A' c', e = .returned (.slice A' n c') ∧ n ≤ c' ∧ RdE Wc 1 w' (fun b => w.heap.size ≤ b ∧ b < w'.heap.size) A' n ws ∧ Below w.heap.size w w' := by
  obtain ⟨i0, hi0, hz0, hz1, hz2⟩ := info_parts' info_u32
  have HX := Lib.hid hx
  clear hx
  go_enter Try.func68, Try.ntmps68
  go_wp2_with (at_builtin; go_must (refine wpList_append_rd _ rfl _ _ _ rfl w.heap.size 135 i0 _ 1 4 Try.underlying78 hi0 hz0 hz1 hz2 rfl (by omega) (.slice none 0 0) 0 [] rfl (World.ownsRow_nil _ _ _ _) S A n c (ws.flatMap Wc) rfl HX.out.rd (wc_one ws) (by simp only [maxLen]; omega) (by omega) (Nat.le_refl _) ?_); intro v1 w1 hown1 hg1 hat1)
  go_ret
  rw [Nat.zero_add, List.nil_append] at hown1
  obtain ⟨A', c', e, hc', _⟩ := own_slice hown1
  rw [e] at hown1
  exact ⟨A', c', by rw [← e]; rfl, hc', (RdE.of_own Wc.clen (by omega) hown1).imp (fun b h => ⟨h.1, h.2.1⟩), below_of_grown hg1 (by simp [Value.ownBlock])⟩

/-- trim of a row of the caller's own -/
theorem trim_own (base g n c : Nat) (xs : List Nat) (w : World) (h : w.ownsRow base 135 1 (.slice (some ⟨g, 0, none⟩) n c) n (xs.flatMap Wc)) (hw : Wds xs) (hn : n ≤ 1000000000000) (hnc : n ≤ c) :
    Calls Try.prog 102 #[.slice (some ⟨g, 0, none⟩) n c] w fun e w' => e = .returned (.slice (some ⟨g, 0, none⟩) (dig (nv xs)).length c) ∧ (dig (nv xs)).length ≤ c ∧
      RdE Wc 1 w' (fun b => base ≤ b ∧ b < w'.heap.size) (some ⟨g, 0, none⟩) (dig (nv xs)).length (dig (nv xs)) ∧ Below w.heap.size w w' := by
  have hr := RdE.of_own Wc.clen (by omega) h
  refine (trim_any (some ⟨g, 0, none⟩) n c xs _ w hr hw (fun b hb => hb.2.1) hn hnc).mono ?_
  rintro e w' ⟨k, rfl, hk, htk, hb⟩
  have hlen : k = (dig (nv xs)).length := by rw [← htk, List.length_take, hr.num]; omega
  have hr1 := (hr.keep (Keeps.below hb (fun b hb => hb.2.1))).take Wc.clen hk
  rw [htk] at hr1
  have hz := hb.size
  refine ⟨by rw [← hlen], by omega, ?_, hb⟩
  rw [← hlen]
  exact hr1.imp fun b hb => ⟨hb.1, by omega⟩

end Go.Proofs.Ytfepmbpcdfdlhaa

/- add: the walk -/
namespace Go.Proofs.Ytfepmbpcdfdlhaa
open Go.RowKit Go.Sort

theorem nv_take_succ {ws : List Nat} {k x : Nat} (h : ws[k]? = some x) : nv (ws.take (k + 1)) = nv (ws.take k) + W32 ^ k * x := by
  obtain ⟨hl, e⟩ := List.getElem?_eq_some_iff.1 h
  rw [List.take_succ_eq_append_getElem hl, nv_append, e, List.length_take, Nat.min_eq_left (by omega)]
  simp [nv]
theorem nv_set_take {xs : List Nat} {k v : Nat} (h : k < xs.length) : nv ((xs.set k v).take (k + 1)) = nv (xs.take k) + W32 ^ k * v := by
  rw [nv_take_succ (x := v) (by rw [List.getElem?_set_self h]), List.take_set_of_le (Nat.le_refl _)]
theorem wds_set {xs : List Nat} {k v : Nat} (h : Wds xs) (hv : v < W32) : Wds (xs.set k v) := fun x hx => by
  rcases List.mem_or_eq_of_mem_set hx with h1 | rfl
  · exact h x h1
  · exact hv
theorem add_step {xs : List Nat} {k q p x y : Nat} {X Y : Nat} (hl : k < xs.length) (h : nv (xs.take k) + W32 ^ k * q = X + Y) (hp : p = q + x + y) :
    nv ((xs.set k (p % W32)).take (k + 1)) + W32 ^ (k + 1) * (p / W32) = (X + W32 ^ k * x) + (Y + W32 ^ k * y) := by
  rw [nv_set_take hl, Nat.pow_succ, Nat.mul_assoc]
  have h1 : W32 ^ k * (p % W32) + W32 ^ k * (W32 * (p / W32)) = W32 ^ k * p := by rw [← Nat.mul_add, Nat.mod_add_div]
  have h2 : W32 ^ k * p = W32 ^ k * q + W32 ^ k * x + W32 ^ k * y := by rw [hp, Nat.mul_add, Nat.mul_add]
  omega

theorem add_any (A B : Option Addr) (n m c d : Nat) (a b : List Nat) (S S' : Nat → Prop) (w : World) (hx : RdE Wc 1 w S A n a) (hy : RdE Wc 1 w S' B m b) (ha : Wds a) (hb : Wds b) (hS : ∀ b, S b → b < w.heap.size) (hS' : ∀ b, S' b → b < w.heap.size)
    (hn : n ≤ 100000000000) (hm : m ≤ 100000000000) :
    Calls Try.prog 105 #[.slice A n c, .slice B m d] w fun e w' => ∃ A' c', e = .returned (.slice A' (dig (nv a + nv b)).length c') ∧ (dig (nv a + nv b)).length ≤ c' ∧ RdE Wc 1 w' (fun b => w.heap.size ≤ b ∧ b < w'.heap.size) A' (dig (nv a + nv b)).length (dig (nv a + nv b)) ∧ Below w.heap.size w w' := by
  obtain ⟨i0, hi0, hz0, hz1, hz2⟩ := info_parts' info_u32
  have HX := Lib.hid hx
  have HY := Lib.hid hy
  have HA := Lib.hid ha
  have HB := Lib.hid hb
  have HS := Lib.hid hS
  have HS' := Lib.hid hS'
  have i1 := trim_any
  have I1 := Lib.hid i1
  clear hx hy ha hb hS hS' i1
  by_cases hnm : n < m
  · go_enter Try.func105, Try.ntmps105
    go_wp2_with (at_make; go_must (refine wpList_make_full _ rfl _ _ _ rfl w.heap.size 135 i0 _ 1 Try.underlying78 hi0 hz0 hz1 .i64 .i64 _ _ (m + 1) rfl rfl (by omega) (by omega) (by rw [hz2]; omega) (by simp only [maxLen]; omega) (Nat.le_refl _) ?_); intro w1 hown1 hg1)
    have hinv : w1.ownsRow w.heap.size 135 1 (.slice (some ⟨w.heap.size, 0, none⟩) (m + 1) (m + 1)) (m + 1) ((List.replicate (m + 1) 0).flatMap Wc) := by
      have h := hown1
      rw [made_u32] at h
      exact h
    have HI := Lib.hid hinv
    have HB1 := Lib.hid (below_of_grown hg1 (fun g hg => by cases hg))
    clear hown1 hg1 hinv
    go_loopw [6, 7] (fun cv i wr => ∃ (k q : Nat) (xs : List Nat), k ≤ m ∧ cv = .int .u64 q ∧ i = .int .i64 k ∧ q < 2 ∧ xs.length = m + 1 ∧ Wds xs ∧ nv (xs.take k) + W32 ^ k * q = nv (b.take k) + nv (a.take k) ∧ wr.ownsRow w.heap.size 135 1 (.slice (some ⟨w.heap.size, 0, none⟩) (m + 1) (m + 1)) (m + 1) (xs.flatMap Wc) ∧ Below w.heap.size w wr) (fun _ i _ => m - (intOf i).toNat)
    case atStart => exact ⟨0, 0, List.replicate (m + 1) 0, Nat.zero_le _, rfl, rfl, by decide, by simp, fun x hx => by rw [(List.mem_replicate.1 hx).2]; decide, by simp [nv], HI.out, HB1.out⟩
    case round =>
      obtain ⟨k, q, xs, hk, rfl, rfl, hq, hxl, hxw, hsum, hown, hbw⟩ := hrel
      by_cases hlt : k < m
      · obtain ⟨x, hx⟩ := get_some HY.out.num hlt
        obtain ⟨b1, o1, rfl, hSb1, hc⟩ := HY.out.elem Wc.clen hx (by omega)
        have q1 : wr.cell? ⟨b1, o1 + k, none⟩ = some (.int .u32 (x : Int)) := by have h := (hbw.cell (p := ⟨b1, _, none⟩) (HS'.out _ hSb1)).trans (hc 0 _ rfl); rw [Nat.mul_one, Nat.add_zero] at h; exact h
        have hxlt := hw0 HB.out hx
        have hf := hown.frozenAt k
        obtain ⟨y0, hy0⟩ := get_some (xs := xs.flatMap Wc) (k := k) hown.1 (by omega)
        have q0 : wr.cell? ⟨w.heap.size, k, none⟩ = some y0 := by rw [hown.cellAt _ (by omega)]; exact hy0
        have HO := Lib.hid hown
        have HBW := Lib.hid hbw
        have HSUM := Lib.hid hsum
        have HXX := Lib.hid hx
        have HXW := Lib.hid hxw
        clear hown hbw hsum hx hc hy0 hxw
        by_cases hkm : k < n
        · obtain ⟨y, hy⟩ := get_some HX.out.num hkm
          obtain ⟨b2, o2, rfl, hSb2, hc2⟩ := HX.out.elem Wc.clen hy (by omega)
          have q2 : wr.cell? ⟨b2, o2 + k, none⟩ = some (.int .u32 (y : Int)) := by have h := (HBW.out.cell (p := ⟨b2, _, none⟩) (HS.out _ hSb2)).trans (hc2 0 _ rfl); rw [Nat.mul_one, Nat.add_zero] at h; exact h
          have hylt := hw0 HA.out hy
          have HYY := Lib.hid hy
          clear hy hc2
          go_wp2_with fail
          have ho1 := HO.out.stored k (.int .u32 (((q + x + y) % W32 : Nat) : Int))
          have hset : (xs.flatMap Wc).set k (.int .u32 (((q + x + y) % W32 : Nat) : Int)) = (xs.set k ((q + x + y) % W32)).flatMap Wc := by
            have h := putAll_flat (f := Wc) (size := 1) Wc.clen ((q + x + y) % W32) xs k (by omega)
            rw [Nat.mul_one] at h
            exact h
          have HO1 := Lib.hid (by have h := ho1.1; rw [hset] at h; exact h)
          have HB2 := Lib.hid (HBW.out.grown ho1.2 (Nat.le_of_lt (HO.out.lt w.heap.size rfl).2) (fun g hg => by injection hg with hg; omega))
          clear ho1 hset
          refine ⟨⟨k + 1, (q + x + y) / W32, xs.set k ((q + x + y) % W32), by omega, ?_, by go_num, ?_, by simp [hxl], wds_set HXW.out (Nat.mod_lt _ (by decide)), ?_, HO1.out, HB2.out⟩, by simp [intOf]; omega⟩
          · rfl
          · show (q + x + y) / 4294967296 < 2; omega
          · rw [nv_take_succ HXX.out, nv_take_succ HYY.out]; exact add_step (by omega) HSUM.out rfl
        · go_wp2_with fail
          have ho1 := HO.out.stored k (.int .u32 (((q + x) % W32 : Nat) : Int))
          have hset : (xs.flatMap Wc).set k (.int .u32 (((q + x) % W32 : Nat) : Int)) = (xs.set k ((q + x) % W32)).flatMap Wc := by
            have h := putAll_flat (f := Wc) (size := 1) Wc.clen ((q + x) % W32) xs k (by omega)
            rw [Nat.mul_one] at h
            exact h
          have HO1 := Lib.hid (by have h := ho1.1; rw [hset] at h; exact h)
          have HB2 := Lib.hid (HBW.out.grown ho1.2 (Nat.le_of_lt (HO.out.lt w.heap.size rfl).2) (fun g hg => by injection hg with hg; omega))
          clear ho1 hset
          refine ⟨⟨k + 1, (q + x) / W32, xs.set k ((q + x) % W32), by omega, ?_, by go_num, ?_, by simp [hxl], wds_set HXW.out (Nat.mod_lt _ (by decide)), ?_, HO1.out, HB2.out⟩, by simp [intOf]; omega⟩
          · rfl
          · show (q + x) / 4294967296 < 2; omega
          · have hb := HSUM.out
            rw [nv_take_succ HXX.out]
            have e : a.take (k + 1) = a.take k := by rw [List.take_of_length_le (by rw [HX.out.num]; omega), List.take_of_length_le (by rw [HX.out.num]; omega)]
            rw [e]
            have h := add_step (x := x) (y := 0) (p := q + x) (show k < xs.length by omega) hb (by omega)
            rw [Nat.mul_zero, Nat.add_zero] at h
            exact h
      · obtain rfl : m = k := by omega
        have hf := hown.frozenAt m
        obtain ⟨y0, hy0⟩ := get_some (xs := xs.flatMap Wc) (k := m) hown.1 (by omega)
        have q0 : wr.cell? ⟨w.heap.size, m, none⟩ = some y0 := by rw [hown.cellAt _ (by omega)]; exact hy0
        have HO := Lib.hid hown
        have HBW := Lib.hid hbw
        have HXW := Lib.hid hxw
        have hfin : nv (xs.set m q) = nv b + nv a := by
          have h := nv_set_take (xs := xs) (k := m) (v := q) (by omega)
          rw [List.take_of_length_le (by simp [hxl]), hsum, List.take_of_length_le (by rw [HY.out.num]; exact Nat.le_refl _), List.take_of_length_le (by rw [HX.out.num]; omega)] at h
          exact h
        rw [Nat.add_comm (nv b) (nv a)] at hfin
        have HFIN := Lib.hid hfin
        have ho1 := HO.out.stored m (.int .u32 (q : Int))
        have hset : (xs.flatMap Wc).set m (.int .u32 (q : Int)) = (xs.set m q).flatMap Wc := by
          have h := putAll_flat (f := Wc) (size := 1) Wc.clen q xs m (by omega)
          rw [Nat.mul_one] at h
          exact h
        have HO1 := Lib.hid (by have h := ho1.1; rw [hset] at h; exact h)
        have HB2 := Lib.hid (HBW.out.grown ho1.2 (Nat.le_of_lt (HO.out.lt w.heap.size rfl).2) (fun g hg => by injection hg with hg; omega))
        clear hown hbw hxw hsum hfin hy0 ho1 hset
        go_wp2_with fail
        refine (trim_own w.heap.size w.heap.size (m + 1) (m + 1) (xs.set m q) _ HO1.out (wds_set HXW.out (by show q < 4294967296; omega)) (by omega) (Nat.le_refl _)).mono ?_
        rintro e w9 ⟨rfl, hl9, hr9, hb9⟩
        rw [HFIN.out] at hl9 hr9 ⊢
        have HR9 := Lib.hid hr9
        have HL9 := Lib.hid hl9
        have HB9 := Lib.hid (HB2.out.trans (hb9.mono HB2.out.size))
        clear hr9 hl9 hb9
        go_wp2_with fail
        go_ret
        exact ⟨_, _, rfl, HL9.out, HR9.out, HB9.out⟩
  · go_enter Try.func105, Try.ntmps105
    go_wp2_with (at_make; go_must (refine wpList_make_full _ rfl _ _ _ rfl w.heap.size 135 i0 _ 1 Try.underlying78 hi0 hz0 hz1 .i64 .i64 _ _ (n + 1) rfl rfl (by omega) (by omega) (by rw [hz2]; omega) (by simp only [maxLen]; omega) (Nat.le_refl _) ?_); intro w1 hown1 hg1)
    have hinv : w1.ownsRow w.heap.size 135 1 (.slice (some ⟨w.heap.size, 0, none⟩) (n + 1) (n + 1)) (n + 1) ((List.replicate (n + 1) 0).flatMap Wc) := by
      have h := hown1
      rw [made_u32] at h
      exact h
    have HI := Lib.hid hinv
    have HB1 := Lib.hid (below_of_grown hg1 (fun g hg => by cases hg))
    clear hown1 hg1 hinv
    go_loopw [6, 7] (fun cv i wr => ∃ (k q : Nat) (xs : List Nat), k ≤ n ∧ cv = .int .u64 q ∧ i = .int .i64 k ∧ q < 2 ∧ xs.length = n + 1 ∧ Wds xs ∧ nv (xs.take k) + W32 ^ k * q = nv (a.take k) + nv (b.take k) ∧ wr.ownsRow w.heap.size 135 1 (.slice (some ⟨w.heap.size, 0, none⟩) (n + 1) (n + 1)) (n + 1) (xs.flatMap Wc) ∧ Below w.heap.size w wr) (fun _ i _ => n - (intOf i).toNat)
    case atStart => exact ⟨0, 0, List.replicate (n + 1) 0, Nat.zero_le _, rfl, rfl, by decide, by simp, fun x hx => by rw [(List.mem_replicate.1 hx).2]; decide, by simp [nv], HI.out, HB1.out⟩
    case round =>
      obtain ⟨k, q, xs, hk, rfl, rfl, hq, hxl, hxw, hsum, hown, hbw⟩ := hrel
      by_cases hlt : k < n
      · obtain ⟨x, hx⟩ := get_some HX.out.num hlt
        obtain ⟨b1, o1, rfl, hSb1, hc⟩ := HX.out.elem Wc.clen hx (by omega)
        have q1 : wr.cell? ⟨b1, o1 + k, none⟩ = some (.int .u32 (x : Int)) := by have h := (hbw.cell (p := ⟨b1, _, none⟩) (HS.out _ hSb1)).trans (hc 0 _ rfl); rw [Nat.mul_one, Nat.add_zero] at h; exact h
        have hxlt := hw0 HA.out hx
        have hf := hown.frozenAt k
        obtain ⟨y0, hy0⟩ := get_some (xs := xs.flatMap Wc) (k := k) hown.1 (by omega)
        have q0 : wr.cell? ⟨w.heap.size, k, none⟩ = some y0 := by rw [hown.cellAt _ (by omega)]; exact hy0
        have HO := Lib.hid hown
        have HBW := Lib.hid hbw
        have HSUM := Lib.hid hsum
        have HXX := Lib.hid hx
        have HXW := Lib.hid hxw
        clear hown hbw hsum hx hc hy0 hxw
        by_cases hkm : k < m
        · obtain ⟨y, hy⟩ := get_some HY.out.num hkm
          obtain ⟨b2, o2, rfl, hSb2, hc2⟩ := HY.out.elem Wc.clen hy (by omega)
          have q2 : wr.cell? ⟨b2, o2 + k, none⟩ = some (.int .u32 (y : Int)) := by have h := (HBW.out.cell (p := ⟨b2, _, none⟩) (HS'.out _ hSb2)).trans (hc2 0 _ rfl); rw [Nat.mul_one, Nat.add_zero] at h; exact h
          have hylt := hw0 HB.out hy
          have HYY := Lib.hid hy
          clear hy hc2
          go_wp2_with fail
          have ho1 := HO.out.stored k (.int .u32 (((q + x + y) % W32 : Nat) : Int))
          have hset : (xs.flatMap Wc).set k (.int .u32 (((q + x + y) % W32 : Nat) : Int)) = (xs.set k ((q + x + y) % W32)).flatMap Wc := by
            have h := putAll_flat (f := Wc) (size := 1) Wc.clen ((q + x + y) % W32) xs k (by omega)
            rw [Nat.mul_one] at h
            exact h
          have HO1 := Lib.hid (by have h := ho1.1; rw [hset] at h; exact h)
          have HB2 := Lib.hid (HBW.out.grown ho1.2 (Nat.le_of_lt (HO.out.lt w.heap.size rfl).2) (fun g hg => by injection hg with hg; omega))
          clear ho1 hset
          refine ⟨⟨k + 1, (q + x + y) / W32, xs.set k ((q + x + y) % W32), by omega, ?_, by go_num, ?_, by simp [hxl], wds_set HXW.out (Nat.mod_lt _ (by decide)), ?_, HO1.out, HB2.out⟩, by simp [intOf]; omega⟩
          · rfl
          · show (q + x + y) / 4294967296 < 2; omega
          · rw [nv_take_succ HXX.out, nv_take_succ HYY.out]; exact add_step (by omega) HSUM.out rfl
        · go_wp2_with fail
          have ho1 := HO.out.stored k (.int .u32 (((q + x) % W32 : Nat) : Int))
          have hset : (xs.flatMap Wc).set k (.int .u32 (((q + x) % W32 : Nat) : Int)) = (xs.set k ((q + x) % W32)).flatMap Wc := by
            have h := putAll_flat (f := Wc) (size := 1) Wc.clen ((q + x) % W32) xs k (by omega)
            rw [Nat.mul_one] at h
            exact h
          have HO1 := Lib.hid (by have h := ho1.1; rw [hset] at h; exact h)
          have HB2 := Lib.hid (HBW.out.grown ho1.2 (Nat.le_of_lt (HO.out.lt w.heap.size rfl).2) (fun g hg => by injection hg with hg; omega))
          clear ho1 hset
          refine ⟨⟨k + 1, (q + x) / W32, xs.set k ((q + x) % W32), by omega, ?_, by go_num, ?_, by simp [hxl], wds_set HXW.out (Nat.mod_lt _ (by decide)), ?_, HO1.out, HB2.out⟩, by simp [intOf]; omega⟩
          · rfl
          · show (q + x) / 4294967296 < 2; omega
          · have hb := HSUM.out
            rw [nv_take_succ HXX.out]
            have e : b.take (k + 1) = b.take k := by rw [List.take_of_length_le (by rw [HY.out.num]; omega), List.take_of_length_le (by rw [HY.out.num]; omega)]
            rw [e]
            have h := add_step (x := x) (y := 0) (p := q + x) (show k < xs.length by omega) hb (by omega)
            rw [Nat.mul_zero, Nat.add_zero] at h
            exact h
      · obtain rfl : n = k := by omega
        have hf := hown.frozenAt n
        obtain ⟨y0, hy0⟩ := get_some (xs := xs.flatMap Wc) (k := n) hown.1 (by omega)
        have q0 : wr.cell? ⟨w.heap.size, n, none⟩ = some y0 := by rw [hown.cellAt _ (by omega)]; exact hy0
        have HO := Lib.hid hown
        have HBW := Lib.hid hbw
        have HXW := Lib.hid hxw
        have hfin : nv (xs.set n q) = nv a + nv b := by
          have h := nv_set_take (xs := xs) (k := n) (v := q) (by omega)
          rw [List.take_of_length_le (by simp [hxl]), hsum, List.take_of_length_le (by rw [HX.out.num]; exact Nat.le_refl _), List.take_of_length_le (by rw [HY.out.num]; omega)] at h
          exact h
        have HFIN := Lib.hid hfin
        have ho1 := HO.out.stored n (.int .u32 (q : Int))
        have hset : (xs.flatMap Wc).set n (.int .u32 (q : Int)) = (xs.set n q).flatMap Wc := by
          have h := putAll_flat (f := Wc) (size := 1) Wc.clen q xs n (by omega)
          rw [Nat.mul_one] at h
          exact h
        have HO1 := Lib.hid (by have h := ho1.1; rw [hset] at h; exact h)
        have HB2 := Lib.hid (HBW.out.grown ho1.2 (Nat.le_of_lt (HO.out.lt w.heap.size rfl).2) (fun g hg => by injection hg with hg; omega))
        clear hown hbw hxw hsum hfin hy0 ho1 hset
        go_wp2_with fail
        refine (trim_own w.heap.size w.heap.size (n + 1) (n + 1) (xs.set n q) _ HO1.out (wds_set HXW.out (by show q < 4294967296; omega)) (by omega) (Nat.le_refl _)).mono ?_
        rintro e w9 ⟨rfl, hl9, hr9, hb9⟩
        rw [HFIN.out] at hl9 hr9 ⊢
        have HR9 := Lib.hid hr9
        have HL9 := Lib.hid hl9
        have HB9 := Lib.hid (HB2.out.trans (hb9.mono HB2.out.size))
        clear hr9 hl9 hb9
        go_wp2_with fail
        go_ret
        exact ⟨_, _, rfl, HL9.out, HR9.out, HB9.out⟩

end Go.Proofs.Ytfepmbpcdfdlhaa
