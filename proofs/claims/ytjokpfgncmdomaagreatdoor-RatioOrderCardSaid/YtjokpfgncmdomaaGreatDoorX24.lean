import Derived.Test.YtjokpfgncmdomaaGreatDoorX23
import Derived.SizedLaws
import Derived.ProofKit
import Derived.OpenShut
import Derived.Deep.Slices
import Derived.ChangeOld
import Derived.Carry
import Derived.Test.YtjokpfgncmdomaaGreatDoorCards
import Derived.Test.YtjokpfgncmdomaaGreatDoorTie
import Derived.SevenTiedAt
import Derived.LaidMore
import Derived.Stop.Joined
import Derived.Lib.LaidTab
import Derived.DataShut
set_option linter.unusedSimpArgs false
set_option linter.unusedVariables false
/-
  What an argument reads as, opened down to its cells: by its type, part by part.
-/
namespace Go.Proofs.YtjokpfgncmdomaaGreatDoor
open Go.RowKit Go.Sort

/-- Whatever reads as data of type t is the cells of some x, which is in order in its world. The readings' own bound on sizes is at hand. -/
def Opens (P : Program) (t : TypeId) {α : Type} (f : α → List Value) (Ok : World → α → Prop) : Prop :=
  ∀ (H : Type) (enc : TypeId × Value → H) (W : World) (base : Nat) (spare : Nat → Bool) (held : Bool) (n : Nat) (cs : List Value) (y : DataW H × List MemPlace),
    DataW.trod enc P W base spare held n t cs = some y → (∀ k ∈ y.1.weights P t, k ≤ reachBytes) → ∃ x, cs = f x ∧ Ok W x

def OpensF (P : Program) (l : List Field) (off : Nat) {α : Type} (f : α → List Value) (Ok : World → α → Prop) : Prop :=
  ∀ (H : Type) (enc : TypeId × Value → H) (W : World) (base : Nat) (spare : Nat → Bool) (held : Bool) (n : Nat) (cs : List Value) (ys : List (DataW H × List MemPlace)),
    cs.length = off + (l.map fun fl => P.cellsOf fl.type).sum → ys.length = l.length →
    (∀ (i : Nat) (fl : Field), l[i]? = some fl → DataW.trod enc P W base spare held n fl.type ((cs.drop fl.offset).take (P.cellsOf fl.type)) = ys[i]?) →
    (∀ k ∈ DataW.weightsEach P (l.map (·.type)) (ys.map (·.1)), k ≤ reachBytes) → ∃ x, cs.drop off = f x ∧ Ok W x

section
variable {P : Program} {α β : Type} {f : α → List Value} {f' : β → List Value} {Ok : World → α → Prop} {Ok' : World → β → Prop} {t e : TypeId}

theorem Opens.map (h : Opens P t f Ok) (g : α → β) (hf : ∀ a, f a = f' (g a)) (hok : ∀ W a, Ok W a → Ok' W (g a)) : Opens P t f' Ok' := by
  intro H enc W base spare held n cs y hy hw
  obtain ⟨x, hx, ho⟩ := h H enc W base spare held n cs y hy hw
  exact ⟨g x, by rw [hx, hf], hok W x ho⟩

theorem opens_int {k : IntKind} (ht : P.underlying t = some (.int k)) : Opens P t (fun n : Int => [Value.int k n]) (fun _ n => (Lit.int k n).wf = true) := by
  intro H enc W base spare held n cs y hy _
  obtain ⟨m, rfl, _, hm⟩ := DataW.trod_int ht hy
  exact ⟨m, rfl, hm⟩
theorem opens_bool (ht : P.underlying t = some .bool) : Opens P t (fun b : Bool => [Value.bool b]) (fun _ _ => True) := by
  intro H enc W base spare held n cs y hy _
  cases n with
  | zero => simp [DataW.trod] at hy
  | succ n =>
    unfold DataW.trod at hy
    rw [ht] at hy
    split at hy <;> simp_all
theorem opens_float (ht : P.underlying t = some (.float .f64)) : Opens P t (fun n : Nat => [Value.float .f64 n]) (fun _ n => n < 18446744073709551616) := by
  intro H enc W base spare held n cs y hy _
  cases n with
  | zero => simp [DataW.trod] at hy
  | succ n =>
    unfold DataW.trod at hy
    rw [ht] at hy
    split at hy <;> simp_all
    rename_i hk
    obtain ⟨⟨hk', h2⟩, _⟩ := hy
    rw [← hk] at h2
    simpa [Lit.wf] using h2
theorem opens_string (ht : P.underlying t = some .string) : Opens P t (fun s : ByteArray => [Value.string s]) (fun _ s => s.size ≤ 140737488351232) := by
  intro H enc W base spare held n cs y hy hw
  obtain ⟨s, rfl, rfl, hs⟩ := DataW.trod_string ht hy
  refine ⟨s, rfl, ?_⟩
  have := hw s.data.toList.length (by simp [DataW.weights])
  simpa [reachBytes] using this

theorem opensF_nil {off : Nat} : OpensF P [] off (fun _ : Unit => []) (fun _ _ => True) := by
  intro H enc W base spare held n cs ys hl _ _ _
  exact ⟨(), List.drop_of_length_le (by simp at hl; omega), trivial⟩
theorem opensF_cons {fl : Field} {l : List Field} {off : Nat} {f2 : β → List Value} {Ok2 : World → β → Prop} (h1 : Opens P fl.type f Ok) (ho : fl.offset = off) (h2 : OpensF P l (off + P.cellsOf fl.type) f2 Ok2) :
    OpensF P (fl :: l) off (fun x : α × β => f x.1 ++ f2 x.2) (fun W x => Ok W x.1 ∧ Ok2 W x.2) := by
  intro H enc W base spare held n cs ys hl hn hg hw
  match ys, hn with
  | y :: ys, hn =>
    have hy := hg 0 fl rfl
    rw [ho] at hy
    have hwe : DataW.weightsEach P ((fl :: l).map (·.type)) ((y :: ys).map (·.1)) = y.1.weights P fl.type ++ DataW.weightsEach P (l.map (·.type)) (ys.map (·.1)) := by
      simp [DataW.weightsEach]
    rw [hwe] at hw
    obtain ⟨x, hx, hox⟩ := h1 H enc W base spare held n _ y hy fun k hk => hw k (List.mem_append_left _ hk)
    obtain ⟨z, hz, hoz⟩ := h2 H enc W base spare held n cs ys (by rw [hl]; simp; omega) (by simpa using hn) (fun i g hi => by simpa using hg (i + 1) g (by simpa using hi)) fun k hk => hw k (List.mem_append_right _ hk)
    refine ⟨(x, z), ?_, hox, hoz⟩
    show cs.drop off = f x ++ f2 z
    rw [← hx, ← hz, ← List.drop_drop, List.take_append_drop]

theorem opens_struct {fs : Array Field} (ht : P.underlying t = some (.struct fs)) (hc : P.cellsOf t = (fs.toList.map fun fl => P.cellsOf fl.type).sum) (h : OpensF P fs.toList 0 f Ok) : Opens P t f Ok := by
  intro H enc W base spare held n cs y hy hw
  obtain ⟨xs, m, rfl, rfl, hl, hn, hg⟩ := DataW.trod_struct ht hy
  have hwe : (DataW.agg (xs.map (·.1)) : DataW H).weights P t = DataW.weightsEach P (fs.toList.map (·.type)) (xs.map (·.1)) := by
    simp [DataW.weights, ht]
  rw [hwe] at hw
  obtain ⟨x, hx, ho⟩ := h H enc W base spare held m cs xs (by rw [hl, hc]; omega) (by simpa using hn) (fun i fl hi => hg i fl (by simpa using hi)) hw
  exact ⟨x, by simpa using hx, ho⟩

/-- a slice, by its address, capacity and elements -/
structure SlV (α : Type) where
  A : Option Addr
  c : Nat
  xs : List α

theorem weights_all {H : Type} {P : Program} {e : TypeId} : ∀ {l : List (DataW H)} {d : DataW H}, d ∈ l → ∀ k ∈ d.weights P e, k ∈ DataW.weightsAll P e l
  | x :: r, d, h, k, hk => by
    simp only [DataW.weightsAll, List.mem_append]
    rcases List.mem_cons.1 h with rfl | h
    · exact .inl hk
    · exact .inr (weights_all h k hk)

def OkSl (P : Program) (e : TypeId) (f : α → List Value) (size : Nat) (Ok : World → α → Prop) (W : World) (x : SlV α) : Prop :=
  RdE f size W (fun b => b < W.heap.size) x.A x.xs.length x.xs ∧ (∀ a ∈ x.xs, Ok W a) ∧ x.xs.length ≤ x.c ∧ x.c ≤ maxLen ∧ x.xs.length * P.bytesOf e ≤ reachBytes ∧ (x.A = none → x.c = 0)

theorem list_of_fun {α : Type} {p : Nat → α → Prop} : ∀ (n : Nat), (∀ i, i < n → ∃ x, p i x) → ∃ l : List α, l.length = n ∧ ∀ i x, l[i]? = some x → p i x
  | 0, _ => ⟨[], rfl, fun i x h => by simp at h⟩
  | n + 1, h => by
    obtain ⟨l, hl, hp⟩ := list_of_fun n fun i hi => h i (by omega)
    obtain ⟨x, hx⟩ := h n (by omega)
    refine ⟨l ++ [x], by simp [hl], fun i y hy => ?_⟩
    by_cases hi : i < n
    · rw [List.getElem?_append_left (by omega)] at hy
      exact hp i y hy
    · have hin : i < (l ++ [x]).length := (List.getElem?_eq_some_iff.1 hy).1
      have e : i = n := by simp at hin; omega
      subst e
      rw [List.getElem?_append_right (by omega), hl, Nat.sub_self] at hy
      simp at hy
      subst hy
      exact hx

theorem opens_slice {size : Nat} (ht : P.underlying t = some (.slice e)) (hc : P.cellsOf e = size) (hs : 0 < size) (hf : ∀ x, (f x).length = size) (h : Opens P e f Ok) :
    Opens P t (fun x : SlV α => [Value.slice x.A x.xs.length x.c]) (OkSl P e f size Ok) := by
  intro H enc W base spare held n cs y hy hw
  rcases Go.Deep.open_slice ht hy with ⟨rfl, rfl⟩ | ⟨a, len, cap, m, k, D, Pl, rfl, hb, hl, hm, hmm, rfl, hi⟩
  · exact ⟨⟨none, 0, []⟩, rfl, RdE.nil .., fun a ha => by simp at ha, Nat.le_refl _, Nat.zero_le _, by simp, fun _ => rfl⟩
  · have hlm : len ≤ m := by rw [hmm]; split <;> omega
    have hw' : ∀ k ∈ DataW.weightsAll P e ((List.range len).map D), k ≤ reachBytes := fun k hk => hw k (by simp [DataW.weights, ht, hk])
    have hw0 : len * P.bytesOf e ≤ reachBytes := by
      have h0 := hw ((((List.range len).map D).length + ((List.range (m - len)).map fun j => D (len + j)).length) * P.bytesOf e) (by simp [DataW.weights, ht])
      refine Nat.le_trans (Nat.mul_le_mul_right _ ?_) h0
      simp
    obtain ⟨xs, hxl, hxs⟩ := list_of_fun (p := fun i x => W.cells? base (a.add (i * size)) size = some (f x) ∧ Ok W x) len fun i hi' => by
      obtain ⟨cs', hcs, htr⟩ := hi i (by omega)
      obtain ⟨x, rfl, ho⟩ := h H enc W base spare held k cs' _ htr fun q hq => hw' q (weights_all (List.mem_map.2 ⟨i, List.mem_range.2 hi', rfl⟩) q hq)
      rw [hc] at hcs
      exact ⟨x, hcs, ho⟩
    refine ⟨⟨some a, cap, xs⟩, by simp [hxl], ⟨⟨flat_len f size hf xs, fun j v hv => ?_⟩, rfl⟩, fun x hx => ?_, by simpa [hxl] using hl, hm, by simpa [hxl] using hw0, fun h => by cases h⟩
    · have hjl := (List.getElem?_eq_some_iff.1 hv).1
      rw [flat_len f size hf] at hjl
      have hq : j / size < xs.length := Nat.div_lt_of_lt_mul (by rw [Nat.mul_comm]; exact hjl)
      obtain ⟨x, hx⟩ := get_some (xs := xs) rfl hq
      have hr : j % size < size := Nat.mod_lt _ hs
      have hfv : (f x)[j % size]? = some v := by
        have h1 : (f x)[j % size]? = some ((f x)[j % size]'(by rw [hf]; exact hr)) := List.getElem?_eq_getElem _
        have h2 := flat_get f size hf xs (j / size) (j % size) x _ hx h1
        rw [Nat.div_add_mod'] at h2
        rw [h1, ← h2, hv]
      have hcell := (World.cells?_some (hxs _ x hx).1).2.2 (j % size) hr
      rw [hfv] at hcell
      have hsp : a.spot = none := by
        obtain ⟨x0, hx0⟩ := get_some (xs := xs) rfl (show 0 < xs.length from Nat.lt_of_le_of_lt (Nat.zero_le _) hq)
        have h0 := (World.cells?_some (hxs 0 x0 hx0).1).2.2 0 hs
        rw [List.getElem?_eq_getElem (by rw [hf]; exact hs)] at h0
        simpa [Addr.add] using World.cell?_spot h0
      obtain ⟨b, o, s⟩ := a
      simp only at hsp
      subst hsp
      rw [add_off, add_off] at hcell
      refine ⟨b, o, rfl, World.block_lt_of_cell? _ _ hcell, ?_⟩
      rw [← hcell, Nat.add_assoc, Nat.div_add_mod']
    · obtain ⟨i, hi'⟩ := List.getElem?_of_mem hx
      exact (hxs i x hi').2
end

end Go.Proofs.YtjokpfgncmdomaaGreatDoor

/- what a ratio reads as, opened; the laid table -/
namespace Go.Proofs.YtjokpfgncmdomaaGreatDoor
open Go.RowKit Go.Sort

theorem own : ownKnob Tryz.prog.godebug = none := by kernel_rfl
theorem laidOut : laidOutB Tryz.prog = true := by kernel_rfl
theorem opens_limb : Opens Tryz.prog 58 Lc (fun _ x => x < W64) := by
  intro H enc W base spare held n cs y hy _
  obtain ⟨m, rfl, _, hm⟩ := DataW.trod_int Tryz.underlying58 hy
  have h : (0 : Int) ≤ m ∧ m ≤ 18446744073709551615 := (Lit.wf_int_iff .u64 m).1 hm
  refine ⟨m.toNat, ?_, ?_⟩
  · show [Value.int .u64 m] = [.int .u64 (m.toNat : Int)]
    rw [Int.toNat_of_nonneg h.1]
  · show m.toNat < 18446744073709551616
    omega
theorem opens_limbs : Opens Tryz.prog 22 (fun x : SlV Nat => [Value.slice x.A x.xs.length x.c]) (OkSl Tryz.prog 58 Lc 1 fun _ x => x < W64) :=
  opens_slice Tryz.underlying22 (by kernel_rfl) (by omega) (fun _ => rfl) opens_limb
/-- a ratio's three cells -/
structure RatA where
  neg : Bool
  num : SlV Nat
  den : SlV Nat
def RatA.cells (x : RatA) : List Value := [.bool x.neg, .slice x.num.A x.num.xs.length x.num.c, .slice x.den.A x.den.xs.length x.den.c]
def RatA.Ok (W : World) (x : RatA) : Prop := OkSl Tryz.prog 58 Lc 1 (fun _ x => x < W64) W x.num ∧ OkSl Tryz.prog 58 Lc 1 (fun _ x => x < W64) W x.den
theorem opens_ratio : Opens Tryz.prog 24 RatA.cells RatA.Ok :=
  (opens_struct Tryz.underlying24 (by kernel_rfl) (opensF_cons (opens_bool Tryz.underlying4) rfl (opensF_cons opens_limbs (by kernel_rfl) (opensF_cons opens_limbs (by kernel_rfl) opensF_nil)))).map (fun x => ⟨x.1, x.2.1, x.2.2.1⟩) (fun _ => rfl) (fun _ _ h => ⟨h.2.1, h.2.2.1⟩)
theorem bytes_u64 : Tryz.prog.bytesOf 58 = 8 := by kernel_rfl
/-- the ratio of an input -/
def RatA.r (x : RatA) : RV := ⟨x.neg, x.num.xs, x.den.xs⟩
theorem RatA.at {W : World} {x : RatA} (h : RatA.Ok W x) : RAt W (.agg #[.bool x.neg, .slice x.num.A x.num.xs.length x.num.c, .slice x.den.A x.den.xs.length x.den.c]) x.r ∧ x.r.num.length ≤ 100000000000000 ∧ x.r.den.length ≤ 100000000000000 := by
  obtain ⟨⟨h1, h2, _, _, h5, _⟩, ⟨k1, k2, _, _, k5, _⟩⟩ := h
  rw [bytes_u64] at h5 k5
  have hr : reachBytes = 140737488351232 := rfl
  refine ⟨⟨_, _, _, _, _, _, rfl, h1, k1, fun a ha => h2 a ha, fun a ha => k2 a ha⟩, ?_, ?_⟩
  · show x.num.xs.length ≤ _
    omega
  · show x.den.xs.length ≤ _
    omega

theorem gTab : Tryz.prog.globalNamed "math/bits.deBruijn64tab" = some 1 := by kernel_rfl
theorem tTab : (Tryz.prog.globals[(1 : Nat)]?).map (·.type) = some 170 := by kernel_rfl
theorem laid_of {W : World} (h : laidMet Tryz.prog [("math/bits.deBruijn64tab", Rows.laid_math_bits_deBruijn64tab)] W) : Laid W := by
  have h2 := Lib.tabIs_of_head (k := .u8) (zs := List.map (fun n : Nat => (n : Int)) Lib.deBruijn64tab) (rest := []) gTab tTab Tryz.underlying170 Tryz.underlying5 (by kernel_rfl) (by kernel_rfl) h
  intro j hj
  have h3 := h2.cell gTab j (by simpa using hj)
  rw [h3]
  have e : (List.map (fun n : Nat => (n : Int)) Lib.deBruijn64tab).getD j 0 = ((Lib.deBruijn64tab.getD j 0 : Nat) : Int) := by
    simp [List.getD, List.getElem?_map, hj]
  rw [e]

end Go.Proofs.YtjokpfgncmdomaaGreatDoor

/- held together: an order: plain -/
namespace Go.Proofs.YtjokpfgncmdomaaGreatDoor
open Go.RowKit Go.Sort

theorem cmpQ_lt (x y : Rat) : cmpQ x y = if x < y then -1 else if y < x then 1 else 0 := by
  unfold cmpQ cmpI
  simp only [Rat.lt_iff]
theorem cmpQ_anti (x y : Rat) : cmpQ x y = -cmpQ y x := by
  rw [cmpQ_lt, cmpQ_lt]
  by_cases h1 : x < y
  · have : ¬ y < x := by grind
    simp [h1, this]
  · by_cases h2 : y < x <;> simp [h1, h2]
theorem cmpQ_bound (x y : Rat) : -1 ≤ cmpQ x y ∧ cmpQ x y ≤ 1 := by
  rw [cmpQ_lt]
  split
  · omega
  · split <;> omega
theorem cmpQ_zero (x y : Rat) : cmpQ x y = 0 ↔ x = y := by
  rw [cmpQ_lt]
  by_cases h1 : x < y
  · have : x ≠ y := by grind
    simp [h1, this]
  · by_cases h2 : y < x
    · have : x ≠ y := by grind
      simp [h1, h2, this]
    · have : x = y := by grind
      simp [this]
theorem cmpQ_le (x y : Rat) : cmpQ x y ≤ 0 ↔ x ≤ y := by
  rw [cmpQ_lt]
  by_cases h1 : x < y
  · have : x ≤ y := by grind
    simp [h1, this]
  · by_cases h2 : y < x
    · have : ¬ x ≤ y := by grind
      simp [h1, h2, this]
    · have : x ≤ y := by grind
      simp [h1, h2, this]
theorem cmpQ_trans (x y z : Rat) (h1 : cmpQ x y ≤ 0) (h2 : cmpQ y z ≤ 0) : cmpQ x z ≤ 0 := by
  rw [cmpQ_le] at *
  grind
theorem cmpQ_sub (x y : Rat) : sgnI (x - y).num = cmpQ x y := by
  rw [cmpQ_lt]
  unfold sgnI
  have e1 : (x - y).num < 0 ↔ x < y := by rw [← Int.not_le, Rat.num_nonneg]; grind
  have e2 : (x - y).num = 0 ↔ x = y := by rw [Rat.num_eq_zero]; grind
  by_cases h1 : x < y
  · rw [if_pos (e1.2 h1), if_pos h1]
  · rw [if_neg (fun h => h1 (e1.1 h)), if_neg h1]
    by_cases h2 : x = y
    · have : ¬ y < x := by grind
      rw [if_pos (e2.2 h2), if_neg this]
    · have : y < x := by grind
      rw [if_neg (fun h => h2 (e2.1 h)), if_pos this]
theorem rv_dec (x y : Rat) : decide (rv x = rv y) = decide (x = y) := by
  by_cases h : x = y
  · subst h; simp
  · have : rv x ≠ rv y := fun e => h (rv_inj e)
    simp [h, this]
theorem sameQ (va vb : Value) (x y : Rat) (w : World) (ha : At w va x) (hb : At w vb y) : Calls Tryz.prog 14 #[va, vb] w fun e w' => e = .returned (.bool (decide (x = y))) ∧ Below w.heap.size w w' := by
  have l1 := fits_len ha.2
  have l2 := fits_len hb.2
  refine (same_ratio va vb (rv x) (rv y) w ha.1 hb.1 (by omega) (by omega) (by omega) (by omega)).mono fun e w' h => ?_
  rwa [rv_dec] at h

end Go.Proofs.YtjokpfgncmdomaaGreatDoor

/- girderlaw07.RatioOrder: the walk (printed by gen_law.py) -/
namespace Go.Proofs.YtjokpfgncmdomaaGreatDoor
open Go.RowKit Go.Sort

set_option maxRecDepth 100000 in
set_option maxHeartbeats 16000000 in
theorem order_law (va vb vc : Value) (a b c : RV) (w : World) (ha : RAt w va a) (hb : RAt w vb b) (hc : RAt w vc c) (l1 : a.num.length ≤ 100000000000000) (l2 : a.den.length ≤ 100000000000000) (l3 : b.num.length ≤ 100000000000000) (l4 : b.den.length ≤ 100000000000000) (l5 : c.num.length ≤ 100000000000000) (l6 : c.den.length ≤ 100000000000000) (hw : Laid w) :
    Calls Tryz.prog 4 #[va, vb, vc] w fun e w' => e = .returned (.bool true) ∧ Below w.heap.size w w' := by
  have HA := Lib.hid ha
  have HB := Lib.hid hb
  have HC := Lib.hid hc
  have HW := Lib.hid hw
  have ea : ∃ s A n d A' n' d', va = .agg #[.bool s, .slice A n d, .slice A' n' d'] ∧ n = a.num.length ∧ n' = a.den.length := by obtain ⟨A, n, c, A', n', c', h, h1, h2, _⟩ := ha; exact ⟨_, _, _, _, _, _, _, h, h1.num.symm, h2.num.symm⟩
  have eb : ∃ s A n d A' n' d', vb = .agg #[.bool s, .slice A n d, .slice A' n' d'] ∧ n = b.num.length ∧ n' = b.den.length := by obtain ⟨A, n, c, A', n', c', h, h1, h2, _⟩ := hb; exact ⟨_, _, _, _, _, _, _, h, h1.num.symm, h2.num.symm⟩
  have ec : ∃ s A n d A' n' d', vc = .agg #[.bool s, .slice A n d, .slice A' n' d'] ∧ n = c.num.length ∧ n' = c.den.length := by obtain ⟨A, n, c, A', n', c', h, h1, h2, _⟩ := hc; exact ⟨_, _, _, _, _, _, _, h, h1.num.symm, h2.num.symm⟩
  obtain ⟨s1, A1, n1, d1, A1', n1', d1', rfl, x1, x2⟩ := ea
  obtain ⟨s2, A2, n2, d2, A2', n2', d2', rfl, x3, x4⟩ := eb
  obtain ⟨s3, A3, n3, d3, A3', n3', d3', rfl, x5, x6⟩ := ec
  rw [← x1] at l1
  rw [← x2] at l2
  rw [← x3] at l3
  rw [← x4] at l4
  rw [← x5] at l5
  rw [← x6] at l6
  have X1 := Lib.hid x1
  have X2 := Lib.hid x2
  have X3 := Lib.hid x3
  have X4 := Lib.hid x4
  have X5 := Lib.hid x5
  have X6 := Lib.hid x6
  clear ha hb hc hw x1 x2 x3 x4 x5 x6
  obtain ⟨w0, hw0⟩ : ∃ w0, w0 = ((w.alloc (.cells #[.bool s1, .slice A1 n1 d1, .slice A1' n1' d1'] 24)).alloc (.cells #[.bool s2, .slice A2 n2 d2, .slice A2' n2' d2'] 24)).alloc (.cells #[.bool s3, .slice A3 n3 d3, .slice A3' n3' d3'] 24) := ⟨_, rfl⟩
  have HW0 := Lib.hid hw0
  have hb0 : Below w.heap.size w w0 := by rw [hw0]; exact below3 ..
  have HB0 := Lib.hid hb0
  have zs0 : w0.heap.size = w.heap.size + 3 := by rw [hw0]; simp
  have g1 : w0.heap[w.heap.size]? = some (.cells #[.bool s1, .slice A1 n1 d1, .slice A1' n1' d1'] 24 (0, 0)) := by
    rw [hw0]
    exact ((below2 (w.alloc _) _ _).block w.heap.size (by simp)).trans (blk_new w _ _)
  have g2 : w0.heap[w.heap.size + 1]? = some (.cells #[.bool s2, .slice A2 n2 d2, .slice A2' n2' d2'] 24 (0, 0)) := by
    rw [hw0]
    exact ((below1 ((w.alloc _).alloc _) _).block (w.heap.size + 1) (by simp)).trans (blk2 w _ _ _)
  have g3 : w0.heap[w.heap.size + 2]? = some (.cells #[.bool s3, .slice A3 n3 d3, .slice A3' n3' d3'] 24 (0, 0)) := by
    rw [hw0]
    exact blk3 w _ _ _ _
  have G := Lib.hid (And.intro g1 (And.intro g2 g3))
  clear hw0 hb0 g1 g2 g3
  by_cases hs : 240 < n1 + n1' + n2 + n2' + n3 + n3'
  · have e0 : decide ((240 : Int) < (n1 : Int) + n1' + n2 + n2' + n3 + n3') = true := by simp; omega
    clear hs
    go_enter Tryz.func4, Tryz.ntmps4
    go_wp2_with fail
    rw [← HW0.out]
    refine (awake_law w0 (HW.out.below HB0.out)).mono ?_
    rintro e w1 ⟨rfl, hb1⟩
    have HB1 := Lib.hid (HB0.out.trans (hb1.mono HB0.out.size))
    clear hb1
    go_wp2_with fail
    go_ret
    exact ⟨rfl, HB1.out⟩
  · have e0 : decide ((240 : Int) < (n1 : Int) + n1' + n2 + n2' + n3 + n3') = false := by simp; omega
    go_enter Tryz.func4, Tryz.ntmps4
    go_wp2_with fail
    rw [← HW0.out]
    obtain ⟨g1, g2, g3⟩ := G.out
    have k1 := (blk_cells g1).1
    have k2 := (blk_cells g2).1
    have k3 := (blk_cells g3).1
    have k10 := k1 0
    have k11 := k1 1
    have k12 := k1 2
    have k20 := k2 0
    have k21 := k2 1
    have k22 := k2 2
    have k30 := k3 0
    have k31 := k3 1
    have k32 := k3 2
    simp only [List.getElem?_toArray, List.getElem?_cons_zero, List.getElem?_cons_succ] at k10 k11 k12 k20 k21 k22 k30 k31 k32
    clear k1 k2 k3 g1 g2 g3 e0
    refine wp_region_G (S := (fun w' => w'.cell? ⟨w.heap.size, 0, none⟩ = some (.bool s1) ∧ w'.cell? ⟨w.heap.size, 1, none⟩ = some (.slice A1 n1 d1) ∧ w'.cell? ⟨w.heap.size, 2, none⟩ = some (.slice A1' n1' d1') ∧ w'.cell? ⟨w.heap.size + 1, 0, none⟩ = some (.bool s2) ∧ w'.cell? ⟨w.heap.size + 1, 1, none⟩ = some (.slice A2 n2 d2) ∧ w'.cell? ⟨w.heap.size + 1, 2, none⟩ = some (.slice A2' n2' d2') ∧ w'.cell? ⟨w.heap.size + 2, 0, none⟩ = some (.bool s3) ∧ w'.cell? ⟨w.heap.size + 2, 1, none⟩ = some (.slice A3 n3 d3) ∧ w'.cell? ⟨w.heap.size + 2, 2, none⟩ = some (.slice A3' n3' d3'))) 6 (by kernel_rfl) ?_ (fun hHeld => ?_)
    · first | exact True.intro | ((try dsimp only); go_keep)
    refine wpAnyG_take (i := 0) (v := ?_) rfl (by kernel_rfl) (by kernel_rfl) (by kernel_rfl) (by kernel_rfl) 8 (by kernel_rfl) (fun _ _ _ h => h) (Or.inl ⟨by kernel_rfl, ?_⟩) (by assumption) ?_
    rotate_left 1
    · (intro w hSw; (try dsimp only at hSw); go_simp; try with_reducible rfl)
    try simp only [List.getElem_toArray, List.getElem_cons_succ, List.getElem_cons_zero, Act.put, List.setIfInBounds_toArray, List.set_cons_zero, List.set_cons_succ]
    refine wpAnyG_take (i := 2) (v := ?_) rfl (by kernel_rfl) (by kernel_rfl) (by kernel_rfl) (by kernel_rfl) 8 (by kernel_rfl) (fun _ _ _ h => h) (Or.inl ⟨by kernel_rfl, ?_⟩) (by assumption) ?_
    rotate_left 1
    · (intro w hSw; (try dsimp only at hSw); go_simp; try with_reducible rfl)
    try simp only [List.getElem_toArray, List.getElem_cons_succ, List.getElem_cons_zero, Act.put, List.setIfInBounds_toArray, List.set_cons_zero, List.set_cons_succ]
    refine wpAnyG_take (i := 4) (v := ?_) rfl (by kernel_rfl) (by kernel_rfl) (by kernel_rfl) (by kernel_rfl) 8 (by kernel_rfl) (fun _ _ _ h => h) (Or.inl ⟨by kernel_rfl, ?_⟩) (by assumption) ?_
    rotate_left 1
    · (intro w hSw; (try dsimp only at hSw); go_simp; try with_reducible rfl)
    try simp only [List.getElem_toArray, List.getElem_cons_succ, List.getElem_cons_zero, Act.put, List.setIfInBounds_toArray, List.set_cons_zero, List.set_cons_succ]
    refine wpAnyG_one (i := 1) (by kernel_rfl) rfl (fun K hK => ?_)
    go_simp
    (refine (known_law _ a w0.drew (HA.out.below HB0.out.drew) (by have := X1.out; omega) (by have := X2.out; omega)).mono ?_; rintro e wa ⟨v1, q1, rfl, hv1, hb1⟩; obtain ⟨x0, x1, x2, x3, x4, x5, x6, x7, x8⟩ := hHeld; have y0 := bat hb1 x0; have y1 := bat hb1 x1; have y2 := bat hb1 x2; have y3 := bat hb1 x3; have y4 := bat hb1 x4; have y5 := bat hb1 x5; have y6 := bat hb1 x6; have y7 := bat hb1 x7; have y8 := bat hb1 x8; have HV1 := Lib.hid hv1; have HBa : Hid (Below w0.heap.size w0 wa) := Lib.hid ((Below.refl w0.heap.size w0).drew.trans hb1); clear hv1 hb1 x0 x1 x2 x3 x4 x5 x6 x7 x8)
    try go_wp2_with fail
    refine (fun hHeld => hK.out _ _ (.inl hHeld) (fun _ => ?_)) ?_
    rotate_left 1
    · first | exact True.intro | ((try dsimp only); go_keep)
    clear hK K
    try simp only [List.getElem_toArray, List.getElem_cons_succ, List.getElem_cons_zero, Act.put, List.setIfInBounds_toArray, List.set_cons_zero, List.set_cons_succ]
    refine wpAnyG_one (i := 3) (by kernel_rfl) rfl (fun K hK => ?_)
    go_simp
    (refine (known_law _ b wa (HB.out.below (HB0.out.trans (HBa.out.mono HB0.out.size))) (by have := X3.out; omega) (by have := X4.out; omega)).mono ?_; rintro e wb ⟨v2, q2, rfl, hv2, hb2⟩; obtain ⟨x0, x1, x2, x3, x4, x5, x6, x7, x8⟩ := hHeld; have t0 := bat hb2 x0; have t1 := bat hb2 x1; have t2 := bat hb2 x2; have t3 := bat hb2 x3; have t4 := bat hb2 x4; have t5 := bat hb2 x5; have t6 := bat hb2 x6; have t7 := bat hb2 x7; have t8 := bat hb2 x8; have HV2 := Lib.hid hv2; have HV1b := Lib.hid (HV1.out.below hb2); have HBb : Hid (Below w0.heap.size w0 wb) := Lib.hid (HBa.out.trans (hb2.mono HBa.out.size)); clear hv2 hb2 x0 x1 x2 x3 x4 x5 x6 x7 x8 y0 y1 y2 y3 y4 y5 y6 y7 y8)
    try go_wp2_with fail
    refine (fun hHeld => hK.out _ _ (.inl hHeld) (fun _ => ?_)) ?_
    rotate_left 1
    · first | exact True.intro | ((try dsimp only); go_keep)
    clear hK K
    try simp only [List.getElem_toArray, List.getElem_cons_succ, List.getElem_cons_zero, Act.put, List.setIfInBounds_toArray, List.set_cons_zero, List.set_cons_succ]
    refine wpAnyG_one (i := 5) (by kernel_rfl) rfl (fun K hK => ?_)
    go_simp
    (refine (known_law _ c wb (HC.out.below (HB0.out.trans (HBb.out.mono HB0.out.size))) (by have := X5.out; omega) (by have := X6.out; omega)).mono ?_; rintro e wc ⟨v3, q3, rfl, hv3, hb3⟩; obtain ⟨x0, x1, x2, x3, x4, x5, x6, x7, x8⟩ := hHeld; have y0 := bat hb3 x0; have y1 := bat hb3 x1; have y2 := bat hb3 x2; have y3 := bat hb3 x3; have y4 := bat hb3 x4; have y5 := bat hb3 x5; have y6 := bat hb3 x6; have y7 := bat hb3 x7; have y8 := bat hb3 x8; have HV3 := Lib.hid hv3; have HV1c := Lib.hid (HV1b.out.below hb3); have HV2c := Lib.hid (HV2.out.below hb3); have HBc : Hid (Below w0.heap.size w0 wc) := Lib.hid (HBb.out.trans (hb3.mono HBb.out.size)); clear hv3 hb3 x0 x1 x2 x3 x4 x5 x6 x7 x8 t0 t1 t2 t3 t4 t5 t6 t7 t8; have f1 := (blk_cells ((HBc.out.block (w.heap.size) (by omega)).trans G.out.1)).2; have f2 := (blk_cells ((HBc.out.block (w.heap.size + 1) (by omega)).trans G.out.2.1)).2; have f3 := (blk_cells ((HBc.out.block (w.heap.size + 2) (by omega)).trans G.out.2.2)).2; have f10 := f1 0; have f11 := f1 1; have f12 := f1 2; have f20 := f2 0; have f21 := f2 1; have f22 := f2 2; have f30 := f3 0; have f31 := f3 1; have f32 := f3 2; clear f1 f2 f3; obtain ⟨r1, B1, m1, e1, B1', m1', e1', rfl⟩ := HV1c.out.1.shape; obtain ⟨r2, B2, m2, e2, B2', m2', e2', rfl⟩ := HV2c.out.1.shape; obtain ⟨r3, B3, m3, e3, B3', m3', e3', rfl⟩ := HV3.out.1.shape)
    try go_wp2_with fail
    refine (fun hHeld => hK.out _ _ (.inl hHeld) (fun _ => ?_)) ?_
    rotate_left 1
    · first | exact True.intro | ((try dsimp only); go_keep)
    clear hK K
    try simp only [List.getElem_toArray, List.getElem_cons_succ, List.getElem_cons_zero, Act.put, List.setIfInBounds_toArray, List.set_cons_zero, List.set_cons_succ]
    refine wpAnyG_one (i := 6) (by kernel_rfl) rfl (fun K hK => ?_)
    go_simp
    refine hK.out _ _ ?_ (fun hHeld => ?_)
    · exact .inr (by kernel_rfl)
    clear hK K
    try simp only [List.getElem_toArray, List.getElem_cons_succ, List.getElem_cons_zero, Act.put, List.setIfInBounds_toArray, List.set_cons_zero, List.set_cons_succ]
    refine wpAnyG_one (i := 7) (by kernel_rfl) rfl (fun K hK => ?_)
    go_simp
    refine hK.out _ _ ?_ (fun hHeld => ?_)
    · exact .inr (by kernel_rfl)
    clear hK K
    try simp only [List.getElem_toArray, List.getElem_cons_succ, List.getElem_cons_zero, Act.put, List.setIfInBounds_toArray, List.set_cons_zero, List.set_cons_succ]
    refine wpAnyG_one (i := 8) (by kernel_rfl) rfl (fun K hK => ?_)
    go_simp
    refine hK.out _ _ ?_ (fun hHeld => ?_)
    · exact .inr (by kernel_rfl)
    clear hK K
    try simp only [List.getElem_toArray, List.getElem_cons_succ, List.getElem_cons_zero, Act.put, List.setIfInBounds_toArray, List.set_cons_zero, List.set_cons_succ]
    refine wpAnyG_done (by kernel_rfl) ?_ _
    obtain ⟨w9, hw9⟩ : ∃ w9, w9 = (((((((((wc.setCell ⟨w.heap.size, 0, none⟩ (.bool r1)).setCell ⟨w.heap.size, 1, none⟩ (.slice B1 m1 e1)).setCell ⟨w.heap.size, 2, none⟩ (.slice B1' m1' e1')).setCell ⟨w.heap.size + 1, 0, none⟩ (.bool r2)).setCell ⟨w.heap.size + 1, 1, none⟩ (.slice B2 m2 e2)).setCell ⟨w.heap.size + 1, 2, none⟩ (.slice B2' m2' e2')).setCell ⟨w.heap.size + 1 + 1, 0, none⟩ (.bool r3)).setCell ⟨w.heap.size + 1 + 1, 1, none⟩ (.slice B3 m3 e3)).setCell ⟨w.heap.size + 1 + 1, 2, none⟩ (.slice B3' m3' e3')) := ⟨_, rfl⟩
    obtain ⟨t1, t2, t3, t4⟩ := three_set ((HBc.out.block (w.heap.size) (by omega)).trans G.out.1) ((HBc.out.block (w.heap.size + 1) (by omega)).trans G.out.2.1) ((HBc.out.block (w.heap.size + 2) (by omega)).trans G.out.2.2) ⟨_, _, _, _, _, _, _, rfl, rfl, rfl⟩ ⟨_, _, _, _, _, _, _, rfl, rfl, rfl⟩ ⟨_, _, _, _, _, _, _, rfl, rfl, rfl⟩ HV1c.out.1 HV2c.out.1 HV3.out.1 w9 hw9
    rw [← hw9]
    have BA : Hid (BoxAt w9 w.heap.size r1 B1 m1 e1 B1' m1' e1' (rv q1)) := Lib.hid t1
    have BB : Hid (BoxAt w9 (w.heap.size + 1) r2 B2 m2 e2 B2' m2' e2' (rv q2)) := Lib.hid t2
    have BC : Hid (BoxAt w9 (w.heap.size + 1 + 1) r3 B3 m3 e3 B3' m3' e3' (rv q3)) := Lib.hid t3
    have FA := Lib.hid HV1c.out.2
    have FB := Lib.hid HV2c.out.2
    have FC := Lib.hid HV3.out.2
    have HB9 := Lib.hid ((HB0.out.trans (HBc.out.mono HB0.out.size)).trans (t4 w.heap.size (Nat.le_refl _) (by have := HBc.out.size; omega)))
    clear t1 t2 t3 t4 hw9 f10 f11 f12 f20 f21 f22 f30 f31 f32 y0 y1 y2 y3 y4 y5 y6 y7 y8 k10 k11 k12 k20 k21 k22 k30 k31 k32 hs
    obtain ⟨x1, x2, x3⟩ := BA.out.1
    obtain ⟨x4, x5, x6⟩ := BB.out.1
    go_wp2_with fail
    clear x1 x2 x3 x4 x5 x6
    refine (cmpQ_ratio _ _ _ _ w9 ⟨BA.out.2, FA.out⟩ ⟨BB.out.2, FB.out⟩).mono ?_
    rintro e w7 ⟨rfl, hb8⟩
    have BX9 := Lib.hid (BA.out.below hb8)
    clear BA
    have BX10 := Lib.hid (BB.out.below hb8)
    clear BB
    have BX11 := Lib.hid (BC.out.below hb8)
    clear BC
    have HB12 := Lib.hid (HB9.out.trans (hb8.mono HB9.out.size))
    clear hb8
    obtain ⟨k1, hk1⟩ : ∃ k, k = cmpQ q1 q2 := ⟨_, rfl⟩
    rw [← hk1]
    have Kk1 := Lib.hid hk1
    clear hk1
    obtain ⟨x13, x14, x15⟩ := BX10.out.1
    obtain ⟨x16, x17, x18⟩ := BX9.out.1
    go_wp2_with fail
    clear x13 x14 x15 x16 x17 x18
    refine (cmpQ_ratio _ _ _ _ w7 ⟨BX10.out.2, FB.out⟩ ⟨BX9.out.2, FA.out⟩).mono ?_
    rintro e w19 ⟨rfl, hb20⟩
    have BX21 := Lib.hid (BX9.out.below hb20)
    clear BX9
    have BX22 := Lib.hid (BX10.out.below hb20)
    clear BX10
    have BX23 := Lib.hid (BX11.out.below hb20)
    clear BX11
    have HB24 := Lib.hid (HB12.out.trans (hb20.mono HB12.out.size))
    clear hb20
    obtain ⟨k2, hk2⟩ : ∃ k, k = cmpQ q2 q1 := ⟨_, rfl⟩
    rw [← hk2]
    have Kk2 := Lib.hid hk2
    clear hk2
    obtain ⟨x25, x26, x27⟩ := BX22.out.1
    obtain ⟨x28, x29, x30⟩ := BX23.out.1
    go_wp2_with fail
    clear x25 x26 x27 x28 x29 x30
    refine (cmpQ_ratio _ _ _ _ w19 ⟨BX22.out.2, FB.out⟩ ⟨BX23.out.2, FC.out⟩).mono ?_
    rintro e w31 ⟨rfl, hb32⟩
    have BX33 := Lib.hid (BX21.out.below hb32)
    clear BX21
    have BX34 := Lib.hid (BX22.out.below hb32)
    clear BX22
    have BX35 := Lib.hid (BX23.out.below hb32)
    clear BX23
    have HB36 := Lib.hid (HB24.out.trans (hb32.mono HB24.out.size))
    clear hb32
    obtain ⟨k3, hk3⟩ : ∃ k, k = cmpQ q2 q3 := ⟨_, rfl⟩
    rw [← hk3]
    have Kk3 := Lib.hid hk3
    clear hk3
    obtain ⟨x37, x38, x39⟩ := BX33.out.1
    obtain ⟨x40, x41, x42⟩ := BX35.out.1
    go_wp2_with fail
    clear x37 x38 x39 x40 x41 x42
    refine (cmpQ_ratio _ _ _ _ w31 ⟨BX33.out.2, FA.out⟩ ⟨BX35.out.2, FC.out⟩).mono ?_
    rintro e w43 ⟨rfl, hb44⟩
    have BX45 := Lib.hid (BX33.out.below hb44)
    clear BX33
    have BX46 := Lib.hid (BX34.out.below hb44)
    clear BX34
    have BX47 := Lib.hid (BX35.out.below hb44)
    clear BX35
    have HB48 := Lib.hid (HB36.out.trans (hb44.mono HB36.out.size))
    clear hb44
    obtain ⟨k4, hk4⟩ : ∃ k, k = cmpQ q1 q3 := ⟨_, rfl⟩
    rw [← hk4]
    have Kk4 := Lib.hid hk4
    clear hk4
    have n0 : wrap64 (-k2) = k1 := by
      have h1 := cmpQ_anti q1 q2
      have h2 := cmpQ_bound q2 q1
      rw [Kk1.out, Kk2.out, h1]
      unfold wrap64
      omega
    have n1 : (k1 != k1) = false := by simp
    have n2 : decide (k1 < -1) = false := by
      have h2 := cmpQ_bound q1 q2
      rw [← Kk1.out] at h2
      simp; omega
    have n3 : decide (1 < k1) = false := by
      have h2 := cmpQ_bound q1 q2
      rw [← Kk1.out] at h2
      simp; omega
    by_cases hq : q1 = q2
    · have HQ := Lib.hid hq
      have m1 : (k1 == 0) = true := by rw [Kk1.out, (cmpQ_zero q1 q2).2 hq]; rfl
      clear hq
      by_cases h1 : k1 ≤ 0
      · have d1 : decide (k1 ≤ 0) = true := by simp [h1]
        by_cases h3 : k3 ≤ 0
        · have d3 : decide (k3 ≤ 0) = true := by simp [h3]
          have d4 : decide (0 < k4) = false := by
            have h := cmpQ_trans q1 q2 q3 (by rw [← Kk1.out]; exact h1) (by rw [← Kk3.out]; exact h3)
            rw [← Kk4.out] at h
            simp; omega
          clear h1 h3
          obtain ⟨x49, x50, x51⟩ := BX45.out.1
          obtain ⟨x52, x53, x54⟩ := BX46.out.1
          go_wp2_with fail
          clear x49 x50 x51 x52 x53 x54
          refine (sameQ _ _ _ _ w43 ⟨BX45.out.2, FA.out⟩ ⟨BX46.out.2, FB.out⟩).mono ?_
          rintro e w55 ⟨rfl, hb56⟩
          rw [show decide (q1 = q2) = true by simp [HQ.out]]
          have BX57 := Lib.hid (BX45.out.below hb56)
          clear BX45
          have BX58 := Lib.hid (BX46.out.below hb56)
          clear BX46
          have BX59 := Lib.hid (BX47.out.below hb56)
          clear BX47
          have HB60 := Lib.hid (HB48.out.trans (hb56.mono HB48.out.size))
          clear hb56
          obtain ⟨x61, x62, x63⟩ := BX57.out.1
          obtain ⟨x64, x65, x66⟩ := BX58.out.1
          go_wp2_with fail
          clear x61 x62 x63 x64 x65 x66
          refine (subQ _ _ _ _ w55 ⟨BX57.out.2, FA.out⟩ ⟨BX58.out.2, FB.out⟩).mono ?_
          rintro e w67 ⟨v68, rfl, hv69, hb70⟩
          have HV71 := Lib.hid hv69
          have BX74 := Lib.hid (BX57.out.below hb70)
          clear BX57
          have BX75 := Lib.hid (BX58.out.below hb70)
          clear BX58
          have BX76 := Lib.hid (BX59.out.below hb70)
          clear BX59
          have HB77 := Lib.hid (HB60.out.trans (hb70.mono HB60.out.size))
          obtain ⟨s78, A79, n80, d81, C82, m83, f84, rfl⟩ := hv69.shape
          obtain ⟨er72, her72⟩ : ∃ e, e = toldE (q1 - q2) := ⟨_, rfl⟩
          rw [← her72]
          have E73 := Lib.hid her72
          clear her72
          obtain ⟨w85, hw85⟩ : ∃ wm, wm = w67.alloc (.cells #[.bool s78, .slice A79 n80 d81, .slice C82 m83 f84] 24) := ⟨_, rfl⟩
          have HW86 := Lib.hid hw85
          have hb87 : Below w67.heap.size w67 w85 := by rw [hw85]; exact below1 ..
          have BX88 := Lib.hid (BX74.out.below hb87)
          clear BX74
          have BX89 := Lib.hid (BX75.out.below hb87)
          clear BX75
          have BX90 := Lib.hid (BX76.out.below hb87)
          clear BX76
          have HB91 := Lib.hid (HB77.out.trans (hb87.mono HB77.out.size))
          have BX92 : Hid (BoxAt w85 w67.heap.size s78 A79 n80 d81 C82 m83 f84 (toldR (q1 - q2))) := Lib.hid (by rw [hw85]; exact BoxAt.new HV71.out _)
          clear hv69 hb70 hw85 hb87
          by_cases hf93 : fits (q1 - q2)
          · have F94 := Lib.hid hf93
            have z95 := (e_fits E73.out hf93).1
            have y96 := (e_fits E73.out hf93).2
            clear hf93
            obtain ⟨x97, x98, x99⟩ := BX92.out.1
            rw [HW86.out] at x97 x98 x99
            go_wp2_with fail
            rw [← HW86.out]
            clear x97 x98 x99
            refine (signQ _ _ w85 (atT BX92.out.2 F94.out)).mono ?_
            rintro e w100 ⟨rfl, hb101⟩
            rw [cmpQ_sub, ← Kk1.out]
            have BX102 := Lib.hid (BX88.out.below hb101)
            clear BX88
            have BX103 := Lib.hid (BX89.out.below hb101)
            clear BX89
            have BX104 := Lib.hid (BX90.out.below hb101)
            clear BX90
            have BX105 := Lib.hid (BX92.out.below hb101)
            clear BX92
            have HB106 := Lib.hid (HB91.out.trans (hb101.mono HB91.out.size))
            clear hb101
            have nn : (k1 != k1) = false := by simp
            go_wp2_with fail
            refine (awake_law w100 (HW.out.below HB106.out)).mono ?_
            rintro e w107 ⟨rfl, hb108⟩
            have HB109 := Lib.hid (HB106.out.trans (hb108.mono HB106.out.size))
            clear hb108
            go_wp2_with fail
            go_ret
            exact ⟨rfl, HB109.out⟩
          · have F110 := Lib.hid hf93
            have z111 := (e_long E73.out hf93).1
            have y112 := (e_long E73.out hf93).2.1
            clear hf93
            have z3 := (e_long E73.out F110.out).2.2
            go_wp2_with fail
            rw [← HW86.out]
            refine (awake_law w85 (HW.out.below HB91.out)).mono ?_
            rintro e w113 ⟨rfl, hb114⟩
            have HB115 := Lib.hid (HB91.out.trans (hb114.mono HB91.out.size))
            clear hb114
            go_wp2_with fail
            go_ret
            exact ⟨rfl, HB115.out⟩
        · have d3 : decide (k3 ≤ 0) = false := by simp; omega
          clear h1 h3
          obtain ⟨x116, x117, x118⟩ := BX45.out.1
          obtain ⟨x119, x120, x121⟩ := BX46.out.1
          go_wp2_with fail
          clear x116 x117 x118 x119 x120 x121
          refine (sameQ _ _ _ _ w43 ⟨BX45.out.2, FA.out⟩ ⟨BX46.out.2, FB.out⟩).mono ?_
          rintro e w122 ⟨rfl, hb123⟩
          rw [show decide (q1 = q2) = true by simp [HQ.out]]
          have BX124 := Lib.hid (BX45.out.below hb123)
          clear BX45
          have BX125 := Lib.hid (BX46.out.below hb123)
          clear BX46
          have BX126 := Lib.hid (BX47.out.below hb123)
          clear BX47
          have HB127 := Lib.hid (HB48.out.trans (hb123.mono HB48.out.size))
          clear hb123
          obtain ⟨x128, x129, x130⟩ := BX124.out.1
          obtain ⟨x131, x132, x133⟩ := BX125.out.1
          go_wp2_with fail
          clear x128 x129 x130 x131 x132 x133
          refine (subQ _ _ _ _ w122 ⟨BX124.out.2, FA.out⟩ ⟨BX125.out.2, FB.out⟩).mono ?_
          rintro e w134 ⟨v135, rfl, hv136, hb137⟩
          have HV138 := Lib.hid hv136
          have BX141 := Lib.hid (BX124.out.below hb137)
          clear BX124
          have BX142 := Lib.hid (BX125.out.below hb137)
          clear BX125
          have BX143 := Lib.hid (BX126.out.below hb137)
          clear BX126
          have HB144 := Lib.hid (HB127.out.trans (hb137.mono HB127.out.size))
          obtain ⟨s145, A146, n147, d148, C149, m150, f151, rfl⟩ := hv136.shape
          obtain ⟨er139, her139⟩ : ∃ e, e = toldE (q1 - q2) := ⟨_, rfl⟩
          rw [← her139]
          have E140 := Lib.hid her139
          clear her139
          obtain ⟨w152, hw152⟩ : ∃ wm, wm = w134.alloc (.cells #[.bool s145, .slice A146 n147 d148, .slice C149 m150 f151] 24) := ⟨_, rfl⟩
          have HW153 := Lib.hid hw152
          have hb154 : Below w134.heap.size w134 w152 := by rw [hw152]; exact below1 ..
          have BX155 := Lib.hid (BX141.out.below hb154)
          clear BX141
          have BX156 := Lib.hid (BX142.out.below hb154)
          clear BX142
          have BX157 := Lib.hid (BX143.out.below hb154)
          clear BX143
          have HB158 := Lib.hid (HB144.out.trans (hb154.mono HB144.out.size))
          have BX159 : Hid (BoxAt w152 w134.heap.size s145 A146 n147 d148 C149 m150 f151 (toldR (q1 - q2))) := Lib.hid (by rw [hw152]; exact BoxAt.new HV138.out _)
          clear hv136 hb137 hw152 hb154
          by_cases hf160 : fits (q1 - q2)
          · have F161 := Lib.hid hf160
            have z162 := (e_fits E140.out hf160).1
            have y163 := (e_fits E140.out hf160).2
            clear hf160
            obtain ⟨x164, x165, x166⟩ := BX159.out.1
            rw [HW153.out] at x164 x165 x166
            go_wp2_with fail
            rw [← HW153.out]
            clear x164 x165 x166
            refine (signQ _ _ w152 (atT BX159.out.2 F161.out)).mono ?_
            rintro e w167 ⟨rfl, hb168⟩
            rw [cmpQ_sub, ← Kk1.out]
            have BX169 := Lib.hid (BX155.out.below hb168)
            clear BX155
            have BX170 := Lib.hid (BX156.out.below hb168)
            clear BX156
            have BX171 := Lib.hid (BX157.out.below hb168)
            clear BX157
            have BX172 := Lib.hid (BX159.out.below hb168)
            clear BX159
            have HB173 := Lib.hid (HB158.out.trans (hb168.mono HB158.out.size))
            clear hb168
            have nn : (k1 != k1) = false := by simp
            go_wp2_with fail
            refine (awake_law w167 (HW.out.below HB173.out)).mono ?_
            rintro e w174 ⟨rfl, hb175⟩
            have HB176 := Lib.hid (HB173.out.trans (hb175.mono HB173.out.size))
            clear hb175
            go_wp2_with fail
            go_ret
            exact ⟨rfl, HB176.out⟩
          · have F177 := Lib.hid hf160
            have z178 := (e_long E140.out hf160).1
            have y179 := (e_long E140.out hf160).2.1
            clear hf160
            have z3 := (e_long E140.out F177.out).2.2
            go_wp2_with fail
            rw [← HW153.out]
            refine (awake_law w152 (HW.out.below HB158.out)).mono ?_
            rintro e w180 ⟨rfl, hb181⟩
            have HB182 := Lib.hid (HB158.out.trans (hb181.mono HB158.out.size))
            clear hb181
            go_wp2_with fail
            go_ret
            exact ⟨rfl, HB182.out⟩
      · have d1 : decide (k1 ≤ 0) = false := by simp; omega
        clear h1
        obtain ⟨x183, x184, x185⟩ := BX45.out.1
        obtain ⟨x186, x187, x188⟩ := BX46.out.1
        go_wp2_with fail
        clear x183 x184 x185 x186 x187 x188
        refine (sameQ _ _ _ _ w43 ⟨BX45.out.2, FA.out⟩ ⟨BX46.out.2, FB.out⟩).mono ?_
        rintro e w189 ⟨rfl, hb190⟩
        rw [show decide (q1 = q2) = true by simp [HQ.out]]
        have BX191 := Lib.hid (BX45.out.below hb190)
        clear BX45
        have BX192 := Lib.hid (BX46.out.below hb190)
        clear BX46
        have BX193 := Lib.hid (BX47.out.below hb190)
        clear BX47
        have HB194 := Lib.hid (HB48.out.trans (hb190.mono HB48.out.size))
        clear hb190
        obtain ⟨x195, x196, x197⟩ := BX191.out.1
        obtain ⟨x198, x199, x200⟩ := BX192.out.1
        go_wp2_with fail
        clear x195 x196 x197 x198 x199 x200
        refine (subQ _ _ _ _ w189 ⟨BX191.out.2, FA.out⟩ ⟨BX192.out.2, FB.out⟩).mono ?_
        rintro e w201 ⟨v202, rfl, hv203, hb204⟩
        have HV205 := Lib.hid hv203
        have BX208 := Lib.hid (BX191.out.below hb204)
        clear BX191
        have BX209 := Lib.hid (BX192.out.below hb204)
        clear BX192
        have BX210 := Lib.hid (BX193.out.below hb204)
        clear BX193
        have HB211 := Lib.hid (HB194.out.trans (hb204.mono HB194.out.size))
        obtain ⟨s212, A213, n214, d215, C216, m217, f218, rfl⟩ := hv203.shape
        obtain ⟨er206, her206⟩ : ∃ e, e = toldE (q1 - q2) := ⟨_, rfl⟩
        rw [← her206]
        have E207 := Lib.hid her206
        clear her206
        obtain ⟨w219, hw219⟩ : ∃ wm, wm = w201.alloc (.cells #[.bool s212, .slice A213 n214 d215, .slice C216 m217 f218] 24) := ⟨_, rfl⟩
        have HW220 := Lib.hid hw219
        have hb221 : Below w201.heap.size w201 w219 := by rw [hw219]; exact below1 ..
        have BX222 := Lib.hid (BX208.out.below hb221)
        clear BX208
        have BX223 := Lib.hid (BX209.out.below hb221)
        clear BX209
        have BX224 := Lib.hid (BX210.out.below hb221)
        clear BX210
        have HB225 := Lib.hid (HB211.out.trans (hb221.mono HB211.out.size))
        have BX226 : Hid (BoxAt w219 w201.heap.size s212 A213 n214 d215 C216 m217 f218 (toldR (q1 - q2))) := Lib.hid (by rw [hw219]; exact BoxAt.new HV205.out _)
        clear hv203 hb204 hw219 hb221
        by_cases hf227 : fits (q1 - q2)
        · have F228 := Lib.hid hf227
          have z229 := (e_fits E207.out hf227).1
          have y230 := (e_fits E207.out hf227).2
          clear hf227
          obtain ⟨x231, x232, x233⟩ := BX226.out.1
          rw [HW220.out] at x231 x232 x233
          go_wp2_with fail
          rw [← HW220.out]
          clear x231 x232 x233
          refine (signQ _ _ w219 (atT BX226.out.2 F228.out)).mono ?_
          rintro e w234 ⟨rfl, hb235⟩
          rw [cmpQ_sub, ← Kk1.out]
          have BX236 := Lib.hid (BX222.out.below hb235)
          clear BX222
          have BX237 := Lib.hid (BX223.out.below hb235)
          clear BX223
          have BX238 := Lib.hid (BX224.out.below hb235)
          clear BX224
          have BX239 := Lib.hid (BX226.out.below hb235)
          clear BX226
          have HB240 := Lib.hid (HB225.out.trans (hb235.mono HB225.out.size))
          clear hb235
          have nn : (k1 != k1) = false := by simp
          go_wp2_with fail
          refine (awake_law w234 (HW.out.below HB240.out)).mono ?_
          rintro e w241 ⟨rfl, hb242⟩
          have HB243 := Lib.hid (HB240.out.trans (hb242.mono HB240.out.size))
          clear hb242
          go_wp2_with fail
          go_ret
          exact ⟨rfl, HB243.out⟩
        · have F244 := Lib.hid hf227
          have z245 := (e_long E207.out hf227).1
          have y246 := (e_long E207.out hf227).2.1
          clear hf227
          have z3 := (e_long E207.out F244.out).2.2
          go_wp2_with fail
          rw [← HW220.out]
          refine (awake_law w219 (HW.out.below HB225.out)).mono ?_
          rintro e w247 ⟨rfl, hb248⟩
          have HB249 := Lib.hid (HB225.out.trans (hb248.mono HB225.out.size))
          clear hb248
          go_wp2_with fail
          go_ret
          exact ⟨rfl, HB249.out⟩
    · have HQ := Lib.hid hq
      have m1 : (k1 == 0) = false := by rw [Kk1.out]; simp [cmpQ_zero, hq]
      clear hq
      by_cases h1 : k1 ≤ 0
      · have d1 : decide (k1 ≤ 0) = true := by simp [h1]
        by_cases h3 : k3 ≤ 0
        · have d3 : decide (k3 ≤ 0) = true := by simp [h3]
          have d4 : decide (0 < k4) = false := by
            have h := cmpQ_trans q1 q2 q3 (by rw [← Kk1.out]; exact h1) (by rw [← Kk3.out]; exact h3)
            rw [← Kk4.out] at h
            simp; omega
          clear h1 h3
          obtain ⟨x250, x251, x252⟩ := BX45.out.1
          obtain ⟨x253, x254, x255⟩ := BX46.out.1
          go_wp2_with fail
          clear x250 x251 x252 x253 x254 x255
          refine (sameQ _ _ _ _ w43 ⟨BX45.out.2, FA.out⟩ ⟨BX46.out.2, FB.out⟩).mono ?_
          rintro e w256 ⟨rfl, hb257⟩
          rw [show decide (q1 = q2) = false by simp [HQ.out]]
          have BX258 := Lib.hid (BX45.out.below hb257)
          clear BX45
          have BX259 := Lib.hid (BX46.out.below hb257)
          clear BX46
          have BX260 := Lib.hid (BX47.out.below hb257)
          clear BX47
          have HB261 := Lib.hid (HB48.out.trans (hb257.mono HB48.out.size))
          clear hb257
          obtain ⟨x262, x263, x264⟩ := BX258.out.1
          obtain ⟨x265, x266, x267⟩ := BX259.out.1
          go_wp2_with fail
          clear x262 x263 x264 x265 x266 x267
          refine (subQ _ _ _ _ w256 ⟨BX258.out.2, FA.out⟩ ⟨BX259.out.2, FB.out⟩).mono ?_
          rintro e w268 ⟨v269, rfl, hv270, hb271⟩
          have HV272 := Lib.hid hv270
          have BX275 := Lib.hid (BX258.out.below hb271)
          clear BX258
          have BX276 := Lib.hid (BX259.out.below hb271)
          clear BX259
          have BX277 := Lib.hid (BX260.out.below hb271)
          clear BX260
          have HB278 := Lib.hid (HB261.out.trans (hb271.mono HB261.out.size))
          obtain ⟨s279, A280, n281, d282, C283, m284, f285, rfl⟩ := hv270.shape
          obtain ⟨er273, her273⟩ : ∃ e, e = toldE (q1 - q2) := ⟨_, rfl⟩
          rw [← her273]
          have E274 := Lib.hid her273
          clear her273
          obtain ⟨w286, hw286⟩ : ∃ wm, wm = w268.alloc (.cells #[.bool s279, .slice A280 n281 d282, .slice C283 m284 f285] 24) := ⟨_, rfl⟩
          have HW287 := Lib.hid hw286
          have hb288 : Below w268.heap.size w268 w286 := by rw [hw286]; exact below1 ..
          have BX289 := Lib.hid (BX275.out.below hb288)
          clear BX275
          have BX290 := Lib.hid (BX276.out.below hb288)
          clear BX276
          have BX291 := Lib.hid (BX277.out.below hb288)
          clear BX277
          have HB292 := Lib.hid (HB278.out.trans (hb288.mono HB278.out.size))
          have BX293 : Hid (BoxAt w286 w268.heap.size s279 A280 n281 d282 C283 m284 f285 (toldR (q1 - q2))) := Lib.hid (by rw [hw286]; exact BoxAt.new HV272.out _)
          clear hv270 hb271 hw286 hb288
          by_cases hf294 : fits (q1 - q2)
          · have F295 := Lib.hid hf294
            have z296 := (e_fits E274.out hf294).1
            have y297 := (e_fits E274.out hf294).2
            clear hf294
            obtain ⟨x298, x299, x300⟩ := BX293.out.1
            rw [HW287.out] at x298 x299 x300
            go_wp2_with fail
            rw [← HW287.out]
            clear x298 x299 x300
            refine (signQ _ _ w286 (atT BX293.out.2 F295.out)).mono ?_
            rintro e w301 ⟨rfl, hb302⟩
            rw [cmpQ_sub, ← Kk1.out]
            have BX303 := Lib.hid (BX289.out.below hb302)
            clear BX289
            have BX304 := Lib.hid (BX290.out.below hb302)
            clear BX290
            have BX305 := Lib.hid (BX291.out.below hb302)
            clear BX291
            have BX306 := Lib.hid (BX293.out.below hb302)
            clear BX293
            have HB307 := Lib.hid (HB292.out.trans (hb302.mono HB292.out.size))
            clear hb302
            have nn : (k1 != k1) = false := by simp
            go_wp2_with fail
            refine (awake_law w301 (HW.out.below HB307.out)).mono ?_
            rintro e w308 ⟨rfl, hb309⟩
            have HB310 := Lib.hid (HB307.out.trans (hb309.mono HB307.out.size))
            clear hb309
            go_wp2_with fail
            go_ret
            exact ⟨rfl, HB310.out⟩
          · have F311 := Lib.hid hf294
            have z312 := (e_long E274.out hf294).1
            have y313 := (e_long E274.out hf294).2.1
            clear hf294
            have z3 := (e_long E274.out F311.out).2.2
            go_wp2_with fail
            rw [← HW287.out]
            refine (awake_law w286 (HW.out.below HB292.out)).mono ?_
            rintro e w314 ⟨rfl, hb315⟩
            have HB316 := Lib.hid (HB292.out.trans (hb315.mono HB292.out.size))
            clear hb315
            go_wp2_with fail
            go_ret
            exact ⟨rfl, HB316.out⟩
        · have d3 : decide (k3 ≤ 0) = false := by simp; omega
          clear h1 h3
          obtain ⟨x317, x318, x319⟩ := BX45.out.1
          obtain ⟨x320, x321, x322⟩ := BX46.out.1
          go_wp2_with fail
          clear x317 x318 x319 x320 x321 x322
          refine (sameQ _ _ _ _ w43 ⟨BX45.out.2, FA.out⟩ ⟨BX46.out.2, FB.out⟩).mono ?_
          rintro e w323 ⟨rfl, hb324⟩
          rw [show decide (q1 = q2) = false by simp [HQ.out]]
          have BX325 := Lib.hid (BX45.out.below hb324)
          clear BX45
          have BX326 := Lib.hid (BX46.out.below hb324)
          clear BX46
          have BX327 := Lib.hid (BX47.out.below hb324)
          clear BX47
          have HB328 := Lib.hid (HB48.out.trans (hb324.mono HB48.out.size))
          clear hb324
          obtain ⟨x329, x330, x331⟩ := BX325.out.1
          obtain ⟨x332, x333, x334⟩ := BX326.out.1
          go_wp2_with fail
          clear x329 x330 x331 x332 x333 x334
          refine (subQ _ _ _ _ w323 ⟨BX325.out.2, FA.out⟩ ⟨BX326.out.2, FB.out⟩).mono ?_
          rintro e w335 ⟨v336, rfl, hv337, hb338⟩
          have HV339 := Lib.hid hv337
          have BX342 := Lib.hid (BX325.out.below hb338)
          clear BX325
          have BX343 := Lib.hid (BX326.out.below hb338)
          clear BX326
          have BX344 := Lib.hid (BX327.out.below hb338)
          clear BX327
          have HB345 := Lib.hid (HB328.out.trans (hb338.mono HB328.out.size))
          obtain ⟨s346, A347, n348, d349, C350, m351, f352, rfl⟩ := hv337.shape
          obtain ⟨er340, her340⟩ : ∃ e, e = toldE (q1 - q2) := ⟨_, rfl⟩
          rw [← her340]
          have E341 := Lib.hid her340
          clear her340
          obtain ⟨w353, hw353⟩ : ∃ wm, wm = w335.alloc (.cells #[.bool s346, .slice A347 n348 d349, .slice C350 m351 f352] 24) := ⟨_, rfl⟩
          have HW354 := Lib.hid hw353
          have hb355 : Below w335.heap.size w335 w353 := by rw [hw353]; exact below1 ..
          have BX356 := Lib.hid (BX342.out.below hb355)
          clear BX342
          have BX357 := Lib.hid (BX343.out.below hb355)
          clear BX343
          have BX358 := Lib.hid (BX344.out.below hb355)
          clear BX344
          have HB359 := Lib.hid (HB345.out.trans (hb355.mono HB345.out.size))
          have BX360 : Hid (BoxAt w353 w335.heap.size s346 A347 n348 d349 C350 m351 f352 (toldR (q1 - q2))) := Lib.hid (by rw [hw353]; exact BoxAt.new HV339.out _)
          clear hv337 hb338 hw353 hb355
          by_cases hf361 : fits (q1 - q2)
          · have F362 := Lib.hid hf361
            have z363 := (e_fits E341.out hf361).1
            have y364 := (e_fits E341.out hf361).2
            clear hf361
            obtain ⟨x365, x366, x367⟩ := BX360.out.1
            rw [HW354.out] at x365 x366 x367
            go_wp2_with fail
            rw [← HW354.out]
            clear x365 x366 x367
            refine (signQ _ _ w353 (atT BX360.out.2 F362.out)).mono ?_
            rintro e w368 ⟨rfl, hb369⟩
            rw [cmpQ_sub, ← Kk1.out]
            have BX370 := Lib.hid (BX356.out.below hb369)
            clear BX356
            have BX371 := Lib.hid (BX357.out.below hb369)
            clear BX357
            have BX372 := Lib.hid (BX358.out.below hb369)
            clear BX358
            have BX373 := Lib.hid (BX360.out.below hb369)
            clear BX360
            have HB374 := Lib.hid (HB359.out.trans (hb369.mono HB359.out.size))
            clear hb369
            have nn : (k1 != k1) = false := by simp
            go_wp2_with fail
            refine (awake_law w368 (HW.out.below HB374.out)).mono ?_
            rintro e w375 ⟨rfl, hb376⟩
            have HB377 := Lib.hid (HB374.out.trans (hb376.mono HB374.out.size))
            clear hb376
            go_wp2_with fail
            go_ret
            exact ⟨rfl, HB377.out⟩
          · have F378 := Lib.hid hf361
            have z379 := (e_long E341.out hf361).1
            have y380 := (e_long E341.out hf361).2.1
            clear hf361
            have z3 := (e_long E341.out F378.out).2.2
            go_wp2_with fail
            rw [← HW354.out]
            refine (awake_law w353 (HW.out.below HB359.out)).mono ?_
            rintro e w381 ⟨rfl, hb382⟩
            have HB383 := Lib.hid (HB359.out.trans (hb382.mono HB359.out.size))
            clear hb382
            go_wp2_with fail
            go_ret
            exact ⟨rfl, HB383.out⟩
      · have d1 : decide (k1 ≤ 0) = false := by simp; omega
        clear h1
        obtain ⟨x384, x385, x386⟩ := BX45.out.1
        obtain ⟨x387, x388, x389⟩ := BX46.out.1
        go_wp2_with fail
        clear x384 x385 x386 x387 x388 x389
        refine (sameQ _ _ _ _ w43 ⟨BX45.out.2, FA.out⟩ ⟨BX46.out.2, FB.out⟩).mono ?_
        rintro e w390 ⟨rfl, hb391⟩
        rw [show decide (q1 = q2) = false by simp [HQ.out]]
        have BX392 := Lib.hid (BX45.out.below hb391)
        clear BX45
        have BX393 := Lib.hid (BX46.out.below hb391)
        clear BX46
        have BX394 := Lib.hid (BX47.out.below hb391)
        clear BX47
        have HB395 := Lib.hid (HB48.out.trans (hb391.mono HB48.out.size))
        clear hb391
        obtain ⟨x396, x397, x398⟩ := BX392.out.1
        obtain ⟨x399, x400, x401⟩ := BX393.out.1
        go_wp2_with fail
        clear x396 x397 x398 x399 x400 x401
        refine (subQ _ _ _ _ w390 ⟨BX392.out.2, FA.out⟩ ⟨BX393.out.2, FB.out⟩).mono ?_
        rintro e w402 ⟨v403, rfl, hv404, hb405⟩
        have HV406 := Lib.hid hv404
        have BX409 := Lib.hid (BX392.out.below hb405)
        clear BX392
        have BX410 := Lib.hid (BX393.out.below hb405)
        clear BX393
        have BX411 := Lib.hid (BX394.out.below hb405)
        clear BX394
        have HB412 := Lib.hid (HB395.out.trans (hb405.mono HB395.out.size))
        obtain ⟨s413, A414, n415, d416, C417, m418, f419, rfl⟩ := hv404.shape
        obtain ⟨er407, her407⟩ : ∃ e, e = toldE (q1 - q2) := ⟨_, rfl⟩
        rw [← her407]
        have E408 := Lib.hid her407
        clear her407
        obtain ⟨w420, hw420⟩ : ∃ wm, wm = w402.alloc (.cells #[.bool s413, .slice A414 n415 d416, .slice C417 m418 f419] 24) := ⟨_, rfl⟩
        have HW421 := Lib.hid hw420
        have hb422 : Below w402.heap.size w402 w420 := by rw [hw420]; exact below1 ..
        have BX423 := Lib.hid (BX409.out.below hb422)
        clear BX409
        have BX424 := Lib.hid (BX410.out.below hb422)
        clear BX410
        have BX425 := Lib.hid (BX411.out.below hb422)
        clear BX411
        have HB426 := Lib.hid (HB412.out.trans (hb422.mono HB412.out.size))
        have BX427 : Hid (BoxAt w420 w402.heap.size s413 A414 n415 d416 C417 m418 f419 (toldR (q1 - q2))) := Lib.hid (by rw [hw420]; exact BoxAt.new HV406.out _)
        clear hv404 hb405 hw420 hb422
        by_cases hf428 : fits (q1 - q2)
        · have F429 := Lib.hid hf428
          have z430 := (e_fits E408.out hf428).1
          have y431 := (e_fits E408.out hf428).2
          clear hf428
          obtain ⟨x432, x433, x434⟩ := BX427.out.1
          rw [HW421.out] at x432 x433 x434
          go_wp2_with fail
          rw [← HW421.out]
          clear x432 x433 x434
          refine (signQ _ _ w420 (atT BX427.out.2 F429.out)).mono ?_
          rintro e w435 ⟨rfl, hb436⟩
          rw [cmpQ_sub, ← Kk1.out]
          have BX437 := Lib.hid (BX423.out.below hb436)
          clear BX423
          have BX438 := Lib.hid (BX424.out.below hb436)
          clear BX424
          have BX439 := Lib.hid (BX425.out.below hb436)
          clear BX425
          have BX440 := Lib.hid (BX427.out.below hb436)
          clear BX427
          have HB441 := Lib.hid (HB426.out.trans (hb436.mono HB426.out.size))
          clear hb436
          have nn : (k1 != k1) = false := by simp
          go_wp2_with fail
          refine (awake_law w435 (HW.out.below HB441.out)).mono ?_
          rintro e w442 ⟨rfl, hb443⟩
          have HB444 := Lib.hid (HB441.out.trans (hb443.mono HB441.out.size))
          clear hb443
          go_wp2_with fail
          go_ret
          exact ⟨rfl, HB444.out⟩
        · have F445 := Lib.hid hf428
          have z446 := (e_long E408.out hf428).1
          have y447 := (e_long E408.out hf428).2.1
          clear hf428
          have z3 := (e_long E408.out F445.out).2.2
          go_wp2_with fail
          rw [← HW421.out]
          refine (awake_law w420 (HW.out.below HB426.out)).mono ?_
          rintro e w448 ⟨rfl, hb449⟩
          have HB450 := Lib.hid (HB426.out.trans (hb449.mono HB426.out.size))
          clear hb449
          go_wp2_with fail
          go_ret
          exact ⟨rfl, HB450.out⟩

end Go.Proofs.YtjokpfgncmdomaaGreatDoor
