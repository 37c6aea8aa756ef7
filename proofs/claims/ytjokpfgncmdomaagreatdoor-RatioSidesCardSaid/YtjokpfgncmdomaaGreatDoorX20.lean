import Derived.Test.YtjokpfgncmdomaaGreatDoorX19
import Derived.SizedLaws
import Derived.ProofKit
import Derived.OpenShut
import Derived.Deep.Slices
import Derived.ChangeOld
import Derived.Carry
import Derived.Test.YtjokpfgncmdomaaGreatDoorCards
import Derived.Test.YtjokpfgncmdomaaGreatDoorTie
import Derived.SevenTiedAt
import Derived.LaidMore
import Derived.Stop.Joined
import Derived.Lib.LaidTab
import Derived.DataShut
import Derived.Laws.FloatArith
import Ieee.Arith
set_option linter.unusedSimpArgs false
set_option linter.unusedVariables false
/-
  What an argument reads as, opened down to its cells: by its type, part by part.
-/
namespace Go.Proofs.YtjokpfgncmdomaaGreatDoor
open Go.RowKit Go.Sort

/-- Whatever reads as data of type t is the cells of some x, which is in order in its world. The readings' own bound on sizes is at hand. -/
def Opens (P : Program) (t : TypeId) {α : Type} (f : α → List Value) (Ok : World → α → Prop) : Prop :=
  ∀ (H : Type) (enc : TypeId × Value → H) (W : World) (base : Nat) (spare : Nat → Bool) (held : Bool) (n : Nat) (cs : List Value) (y : DataW H × List MemPlace),
    DataW.trod enc P W base spare held n t cs = some y → (∀ k ∈ y.1.weights P t, k ≤ reachBytes) → ∃ x, cs = f x ∧ Ok W x

def OpensF (P : Program) (l : List Field) (off : Nat) {α : Type} (f : α → List Value) (Ok : World → α → Prop) : Prop :=
  ∀ (H : Type) (enc : TypeId × Value → H) (W : World) (base : Nat) (spare : Nat → Bool) (held : Bool) (n : Nat) (cs : List Value) (ys : List (DataW H × List MemPlace)),
    cs.length = off + (l.map fun fl => P.cellsOf fl.type).sum → ys.length = l.length →
    (∀ (i : Nat) (fl : Field), l[i]? = some fl → DataW.trod enc P W base spare held n fl.type ((cs.drop fl.offset).take (P.cellsOf fl.type)) = ys[i]?) →
    (∀ k ∈ DataW.weightsEach P (l.map (·.type)) (ys.map (·.1)), k ≤ reachBytes) → ∃ x, cs.drop off = f x ∧ Ok W x

section
variable {P : Program} {α β : Type} {f : α → List Value} {f' : β → List Value} {Ok : World → α → Prop} {Ok' : World → β → Prop} {t e : TypeId}

theorem Opens.map (h : Opens P t f Ok) (g : α → β) (hf : ∀ a, f a = f' (g a)) (hok : ∀ W a, Ok W a → Ok' W (g a)) : Opens P t f' Ok' := by
  intro H enc W base spare held n cs y hy hw
  obtain ⟨x, hx, ho⟩ := h H enc W base spare held n cs y hy hw
  exact ⟨g x, by rw [hx, hf], hok W x ho⟩

theorem opens_bool (ht : P.underlying t = some .bool) : Opens P t (fun b : Bool => [Value.bool b]) (fun _ _ => True) := by
  intro H enc W base spare held n cs y hy _
  cases n with
  | zero => simp [DataW.trod] at hy
  | succ n =>
    unfold DataW.trod at hy
    rw [ht] at hy
    split at hy <;> simp_all
theorem opens_float (ht : P.underlying t = some (.float .f64)) : Opens P t (fun n : Nat => [Value.float .f64 n]) (fun _ n => n < 18446744073709551616) := by
  intro H enc W base spare held n cs y hy _
  cases n with
  | zero => simp [DataW.trod] at hy
  | succ n =>
    unfold DataW.trod at hy
    rw [ht] at hy
    split at hy <;> simp_all
    rename_i hk
    obtain ⟨⟨hk', h2⟩, _⟩ := hy
    rw [← hk] at h2
    simpa [Lit.wf] using h2
theorem opensF_nil {off : Nat} : OpensF P [] off (fun _ : Unit => []) (fun _ _ => True) := by
  intro H enc W base spare held n cs ys hl _ _ _
  exact ⟨(), List.drop_of_length_le (by simp at hl; omega), trivial⟩
theorem opensF_cons {fl : Field} {l : List Field} {off : Nat} {f2 : β → List Value} {Ok2 : World → β → Prop} (h1 : Opens P fl.type f Ok) (ho : fl.offset = off) (h2 : OpensF P l (off + P.cellsOf fl.type) f2 Ok2) :
    OpensF P (fl :: l) off (fun x : α × β => f x.1 ++ f2 x.2) (fun W x => Ok W x.1 ∧ Ok2 W x.2) := by
  intro H enc W base spare held n cs ys hl hn hg hw
  match ys, hn with
  | y :: ys, hn =>
    have hy := hg 0 fl rfl
    rw [ho] at hy
    have hwe : DataW.weightsEach P ((fl :: l).map (·.type)) ((y :: ys).map (·.1)) = y.1.weights P fl.type ++ DataW.weightsEach P (l.map (·.type)) (ys.map (·.1)) := by
      simp [DataW.weightsEach]
    rw [hwe] at hw
    obtain ⟨x, hx, hox⟩ := h1 H enc W base spare held n _ y hy fun k hk => hw k (List.mem_append_left _ hk)
    obtain ⟨z, hz, hoz⟩ := h2 H enc W base spare held n cs ys (by rw [hl]; simp; omega) (by simpa using hn) (fun i g hi => by simpa using hg (i + 1) g (by simpa using hi)) fun k hk => hw k (List.mem_append_right _ hk)
    refine ⟨(x, z), ?_, hox, hoz⟩
    show cs.drop off = f x ++ f2 z
    rw [← hx, ← hz, ← List.drop_drop, List.take_append_drop]

theorem opens_struct {fs : Array Field} (ht : P.underlying t = some (.struct fs)) (hc : P.cellsOf t = (fs.toList.map fun fl => P.cellsOf fl.type).sum) (h : OpensF P fs.toList 0 f Ok) : Opens P t f Ok := by
  intro H enc W base spare held n cs y hy hw
  obtain ⟨xs, m, rfl, rfl, hl, hn, hg⟩ := DataW.trod_struct ht hy
  have hwe : (DataW.agg (xs.map (·.1)) : DataW H).weights P t = DataW.weightsEach P (fs.toList.map (·.type)) (xs.map (·.1)) := by
    simp [DataW.weights, ht]
  rw [hwe] at hw
  obtain ⟨x, hx, ho⟩ := h H enc W base spare held m cs xs (by rw [hl, hc]; omega) (by simpa using hn) (fun i fl hi => hg i fl (by simpa using hi)) hw
  exact ⟨x, by simpa using hx, ho⟩

/-- a slice, by its address, capacity and elements -/
structure SlV (α : Type) where
  A : Option Addr
  c : Nat
  xs : List α

theorem weights_all {H : Type} {P : Program} {e : TypeId} : ∀ {l : List (DataW H)} {d : DataW H}, d ∈ l → ∀ k ∈ d.weights P e, k ∈ DataW.weightsAll P e l
  | x :: r, d, h, k, hk => by
    simp only [DataW.weightsAll, List.mem_append]
    rcases List.mem_cons.1 h with rfl | h
    · exact .inl hk
    · exact .inr (weights_all h k hk)

def OkSl (P : Program) (e : TypeId) (f : α → List Value) (size : Nat) (Ok : World → α → Prop) (W : World) (x : SlV α) : Prop :=
  RdE f size W (fun b => b < W.heap.size) x.A x.xs.length x.xs ∧ (∀ a ∈ x.xs, Ok W a) ∧ x.xs.length ≤ x.c ∧ x.c ≤ maxLen ∧ x.xs.length * P.bytesOf e ≤ reachBytes ∧ (x.A = none → x.c = 0)

theorem list_of_fun {α : Type} {p : Nat → α → Prop} : ∀ (n : Nat), (∀ i, i < n → ∃ x, p i x) → ∃ l : List α, l.length = n ∧ ∀ i x, l[i]? = some x → p i x
  | 0, _ => ⟨[], rfl, fun i x h => by simp at h⟩
  | n + 1, h => by
    obtain ⟨l, hl, hp⟩ := list_of_fun n fun i hi => h i (by omega)
    obtain ⟨x, hx⟩ := h n (by omega)
    refine ⟨l ++ [x], by simp [hl], fun i y hy => ?_⟩
    by_cases hi : i < n
    · rw [List.getElem?_append_left (by omega)] at hy
      exact hp i y hy
    · have hin : i < (l ++ [x]).length := (List.getElem?_eq_some_iff.1 hy).1
      have e : i = n := by simp at hin; omega
      subst e
      rw [List.getElem?_append_right (by omega), hl, Nat.sub_self] at hy
      simp at hy
      subst hy
      exact hx

theorem opens_slice {size : Nat} (ht : P.underlying t = some (.slice e)) (hc : P.cellsOf e = size) (hs : 0 < size) (hf : ∀ x, (f x).length = size) (h : Opens P e f Ok) :
    Opens P t (fun x : SlV α => [Value.slice x.A x.xs.length x.c]) (OkSl P e f size Ok) := by
  intro H enc W base spare held n cs y hy hw
  rcases Go.Deep.open_slice ht hy with ⟨rfl, rfl⟩ | ⟨a, len, cap, m, k, D, Pl, rfl, hb, hl, hm, hmm, rfl, hi⟩
  · exact ⟨⟨none, 0, []⟩, rfl, RdE.nil .., fun a ha => by simp at ha, Nat.le_refl _, Nat.zero_le _, by simp, fun _ => rfl⟩
  · have hlm : len ≤ m := by rw [hmm]; split <;> omega
    have hw' : ∀ k ∈ DataW.weightsAll P e ((List.range len).map D), k ≤ reachBytes := fun k hk => hw k (by simp [DataW.weights, ht, hk])
    have hw0 : len * P.bytesOf e ≤ reachBytes := by
      have h0 := hw ((((List.range len).map D).length + ((List.range (m - len)).map fun j => D (len + j)).length) * P.bytesOf e) (by simp [DataW.weights, ht])
      refine Nat.le_trans (Nat.mul_le_mul_right _ ?_) h0
      simp
    obtain ⟨xs, hxl, hxs⟩ := list_of_fun (p := fun i x => W.cells? base (a.add (i * size)) size = some (f x) ∧ Ok W x) len fun i hi' => by
      obtain ⟨cs', hcs, htr⟩ := hi i (by omega)
      obtain ⟨x, rfl, ho⟩ := h H enc W base spare held k cs' _ htr fun q hq => hw' q (weights_all (List.mem_map.2 ⟨i, List.mem_range.2 hi', rfl⟩) q hq)
      rw [hc] at hcs
      exact ⟨x, hcs, ho⟩
    refine ⟨⟨some a, cap, xs⟩, by simp [hxl], ⟨⟨flat_len f size hf xs, fun j v hv => ?_⟩, rfl⟩, fun x hx => ?_, by simpa [hxl] using hl, hm, by simpa [hxl] using hw0, fun h => by cases h⟩
    · have hjl := (List.getElem?_eq_some_iff.1 hv).1
      rw [flat_len f size hf] at hjl
      have hq : j / size < xs.length := Nat.div_lt_of_lt_mul (by rw [Nat.mul_comm]; exact hjl)
      obtain ⟨x, hx⟩ := get_some (xs := xs) rfl hq
      have hr : j % size < size := Nat.mod_lt _ hs
      have hfv : (f x)[j % size]? = some v := by
        have h1 : (f x)[j % size]? = some ((f x)[j % size]'(by rw [hf]; exact hr)) := List.getElem?_eq_getElem _
        have h2 := flat_get f size hf xs (j / size) (j % size) x _ hx h1
        rw [Nat.div_add_mod'] at h2
        rw [h1, ← h2, hv]
      have hcell := (World.cells?_some (hxs _ x hx).1).2.2 (j % size) hr
      rw [hfv] at hcell
      have hsp : a.spot = none := by
        obtain ⟨x0, hx0⟩ := get_some (xs := xs) rfl (show 0 < xs.length from Nat.lt_of_le_of_lt (Nat.zero_le _) hq)
        have h0 := (World.cells?_some (hxs 0 x0 hx0).1).2.2 0 hs
        rw [List.getElem?_eq_getElem (by rw [hf]; exact hs)] at h0
        simpa [Addr.add] using World.cell?_spot h0
      obtain ⟨b, o, s⟩ := a
      simp only at hsp
      subst hsp
      rw [add_off, add_off] at hcell
      refine ⟨b, o, rfl, World.block_lt_of_cell? _ _ hcell, ?_⟩
      rw [← hcell, Nat.add_assoc, Nat.div_add_mod']
    · obtain ⟨i, hi'⟩ := List.getElem?_of_mem hx
      exact (hxs i x hi').2
end

end Go.Proofs.YtjokpfgncmdomaaGreatDoor

/- what a ratio reads as, opened; the laid table -/
namespace Go.Proofs.YtjokpfgncmdomaaGreatDoor
open Go.RowKit Go.Sort

theorem own : ownKnob Tryz.prog.godebug = none := by kernel_rfl
theorem laidOut : laidOutB Tryz.prog = true := by kernel_rfl
theorem opens_limb : Opens Tryz.prog 58 Lc (fun _ x => x < W64) := by
  intro H enc W base spare held n cs y hy _
  obtain ⟨m, rfl, _, hm⟩ := DataW.trod_int Tryz.underlying58 hy
  have h : (0 : Int) ≤ m ∧ m ≤ 18446744073709551615 := (Lit.wf_int_iff .u64 m).1 hm
  refine ⟨m.toNat, ?_, ?_⟩
  · show [Value.int .u64 m] = [.int .u64 (m.toNat : Int)]
    rw [Int.toNat_of_nonneg h.1]
  · show m.toNat < 18446744073709551616
    omega
theorem opens_limbs : Opens Tryz.prog 22 (fun x : SlV Nat => [Value.slice x.A x.xs.length x.c]) (OkSl Tryz.prog 58 Lc 1 fun _ x => x < W64) :=
  opens_slice Tryz.underlying22 (by kernel_rfl) (by omega) (fun _ => rfl) opens_limb
/-- a ratio's three cells -/
structure RatA where
  neg : Bool
  num : SlV Nat
  den : SlV Nat
def RatA.cells (x : RatA) : List Value := [.bool x.neg, .slice x.num.A x.num.xs.length x.num.c, .slice x.den.A x.den.xs.length x.den.c]
def RatA.Ok (W : World) (x : RatA) : Prop := OkSl Tryz.prog 58 Lc 1 (fun _ x => x < W64) W x.num ∧ OkSl Tryz.prog 58 Lc 1 (fun _ x => x < W64) W x.den
theorem opens_ratio : Opens Tryz.prog 24 RatA.cells RatA.Ok :=
  (opens_struct Tryz.underlying24 (by kernel_rfl) (opensF_cons (opens_bool Tryz.underlying4) rfl (opensF_cons opens_limbs (by kernel_rfl) (opensF_cons opens_limbs (by kernel_rfl) opensF_nil)))).map (fun x => ⟨x.1, x.2.1, x.2.2.1⟩) (fun _ => rfl) (fun _ _ h => ⟨h.2.1, h.2.2.1⟩)
theorem bytes_u64 : Tryz.prog.bytesOf 58 = 8 := by kernel_rfl
/-- the ratio of an input -/
def RatA.r (x : RatA) : RV := ⟨x.neg, x.num.xs, x.den.xs⟩
theorem RatA.at {W : World} {x : RatA} (h : RatA.Ok W x) : RAt W (.agg #[.bool x.neg, .slice x.num.A x.num.xs.length x.num.c, .slice x.den.A x.den.xs.length x.den.c]) x.r ∧ x.r.num.length ≤ 100000000000000 ∧ x.r.den.length ≤ 100000000000000 := by
  obtain ⟨⟨h1, h2, _, _, h5, _⟩, ⟨k1, k2, _, _, k5, _⟩⟩ := h
  rw [bytes_u64] at h5 k5
  have hr : reachBytes = 140737488351232 := rfl
  refine ⟨⟨_, _, _, _, _, _, rfl, h1, k1, fun a ha => h2 a ha, fun a ha => k2 a ha⟩, ?_, ?_⟩
  · show x.num.xs.length ≤ _
    omega
  · show x.den.xs.length ≤ _
    omega

theorem gTab : Tryz.prog.globalNamed "math/bits.deBruijn64tab" = some 1 := by kernel_rfl
theorem tTab : (Tryz.prog.globals[(1 : Nat)]?).map (·.type) = some 170 := by kernel_rfl
theorem laid_of {W : World} (h : laidMet Tryz.prog [("math/bits.deBruijn64tab", Rows.laid_math_bits_deBruijn64tab)] W) : Laid W := by
  have h2 := Lib.tabIs_of_head (k := .u8) (zs := List.map (fun n : Nat => (n : Int)) Lib.deBruijn64tab) (rest := []) gTab tTab Tryz.underlying170 Tryz.underlying5 (by kernel_rfl) (by kernel_rfl) h
  intro j hj
  have h3 := h2.cell gTab j (by simpa using hj)
  rw [h3]
  have e : (List.map (fun n : Nat => (n : Int)) Lib.deBruijn64tab).getD j 0 = ((Lib.deBruijn64tab.getD j 0 : Nat) : Int) := by
    simp [List.getD, List.getElem?_map, hj]
  rw [e]

end Go.Proofs.YtjokpfgncmdomaaGreatDoor

/-
  Floats by a whole number: each float (64 bits) that is a number stands for fk x times 2^-1074; the infinities lie beyond all of them.
-/
namespace Go.Proofs.YtjokpfgncmdomaaGreatDoor
open Ieee

def fnan (x : Nat) : Bool := (Ieee.double.read x).isNaN
def bigE : Nat := 4000
theorem bigE_le : 3000 ≤ bigE := by decide
def bigN : Nat := 2 ^ bigE
theorem bigN_eq : bigN = 2 ^ bigE := by unfold bigN; with_reducible rfl
def dkey : Datum → Int
  | .number s m e => signed s m (e + 1074).toNat
  | .infinity s => if s then -(bigN : Int) else (bigN : Int)
  | .nan .. => 0
def fk (x : Nat) : Int := dkey (Ieee.double.read x)

theorem signed_mul (s : Bool) (m i : Nat) : signed s m i = (if s then -1 else 1) * (m : Int) * (2 ^ i : Nat) := by
  unfold signed
  rw [Nat.shiftLeft_eq]
  cases s <;> simp [Int.neg_mul]
theorem signed_add (s : Bool) (m i d : Nat) : signed s m (i + d) = signed s m i * (2 ^ d : Nat) := by
  rw [signed_mul, signed_mul, Nat.pow_add, Int.natCast_mul, ← Int.mul_assoc]
theorem compare_scale (a b : Int) (d : Nat) : compare (a * (2 ^ d : Nat)) (b * (2 ^ d : Nat)) = compare a b := by
  have hp : (0 : Int) < (2 ^ d : Nat) := by exact_mod_cast Nat.two_pow_pos d
  rcases Int.lt_trichotomy a b with h | h | h
  · rw [Int.compare_eq_lt.2 h, Int.compare_eq_lt.2 (Int.mul_lt_mul_of_pos_right h hp)]
  · subst h; simp
  · rw [Int.compare_eq_gt.2 h, Int.compare_eq_gt.2 (Int.mul_lt_mul_of_pos_right h hp)]

/-- what a float's word stands for, as far as sizes go -/
def Fits : Datum → Prop
  | .number _ m e => m < 2 ^ 53 ∧ -1074 ≤ e ∧ e ≤ 971
  | .infinity _ => True
  | .nan .. => True
theorem read_fits (x : Nat) : Fits (Ieee.double.read x) := by
  have e1 : Ieee.double.signWeight = 9223372036854775808 := by decide
  have e2 : Ieee.double.binade = 4503599627370496 := by decide
  have e3 : Ieee.double.infRung = 9218868437227405312 := by decide
  have e4 : Ieee.double.leastPlace = -1074 := by decide
  unfold Ieee.Format.read
  simp only [e1, e2, e3, e4]
  split
  · simp only [Fits]; omega
  · split
    · simp only [Fits]; omega
    · split <;> trivial

theorem key_lt (s : Bool) (m : Nat) (e : Int) (h : Fits (.number s m e)) : dkey (.number s m e) < (bigN : Int) ∧ -(bigN : Int) < dkey (.number s m e) := by
  obtain ⟨h1, h2, h3⟩ := h
  have hk : m * 2 ^ (e + 1074).toNat < bigN := by
    rw [bigN_eq]
    refine Nat.lt_of_lt_of_le (Nat.mul_lt_mul_of_pos_right h1 (Nat.two_pow_pos _)) ?_
    rw [← Nat.pow_add]
    have := bigE_le
    exact Nat.pow_le_pow_right (by omega) (by omega)
  have e1 : dkey (.number s m e) = if s then -((m * 2 ^ (e + 1074).toNat : Nat) : Int) else ((m * 2 ^ (e + 1074).toNat : Nat) : Int) := by
    show signed s m _ = _
    unfold signed
    rw [Nat.shiftLeft_eq]
  rw [e1]
  generalize m * 2 ^ (e + 1074).toNat = k at hk ⊢
  generalize bigN = N at hk ⊢
  cases s <;> simp <;> omega

theorem order_dkey (a b : Datum) (ha : Fits a) (hb : Fits b) (na : a.isNaN = false) (nb : b.isNaN = false) : a.order b = some (compare (dkey a) (dkey b)) := by
  have hN : (0 : Int) < (bigN : Int) := by rw [bigN_eq]; exact_mod_cast Nat.two_pow_pos bigE
  cases a with
  | nan s f => simp [Datum.isNaN] at na
  | infinity s =>
    cases b with
    | nan s f => simp [Datum.isNaN] at nb
    | infinity t =>
      unfold Datum.order dkey
      generalize bigN = N at hN ⊢
      cases s <;> cases t
      · simp
      · rw [Int.compare_eq_gt.2 (show (if true = true then -(N : Int) else (N : Int)) < (if false = true then -(N : Int) else (N : Int)) by simp; omega)]; rfl
      · rw [Int.compare_eq_lt.2 (show (if true = true then -(N : Int) else (N : Int)) < (if false = true then -(N : Int) else (N : Int)) by simp; omega)]; rfl
      · simp
    | number t n j =>
      obtain ⟨h1, h2⟩ := key_lt t n j hb
      have e : dkey (.infinity s) = if s then -(bigN : Int) else (bigN : Int) := rfl
      rw [e]
      unfold Datum.order
      generalize dkey (.number t n j) = k at h1 h2 ⊢
      generalize bigN = N at h1 h2 ⊢
      cases s
      · simp only [Bool.false_eq_true, if_false]; rw [Int.compare_eq_gt.2 h1]
      · simp only [if_true]; rw [Int.compare_eq_lt.2 h2]
  | number s m i =>
    cases b with
    | nan s f => simp [Datum.isNaN] at nb
    | infinity t =>
      obtain ⟨h1, h2⟩ := key_lt s m i ha
      have e : dkey (.infinity t) = if t then -(bigN : Int) else (bigN : Int) := rfl
      rw [e]
      unfold Datum.order
      generalize dkey (.number s m i) = k at h1 h2 ⊢
      generalize bigN = N at h1 h2 ⊢
      cases t
      · simp only [Bool.false_eq_true, if_false]; rw [Int.compare_eq_lt.2 h1]
      · simp only [if_true]; rw [Int.compare_eq_gt.2 h2]
    | number t n j =>
      obtain ⟨_, hi, _⟩ := ha
      obtain ⟨_, hj, _⟩ := hb
      show some (compare (signed s m (i - min i j).toNat) (signed t n (j - min i j).toNat)) = _
      rw [← compare_scale _ _ (min i j + 1074).toNat, ← signed_add, ← signed_add]
      have e1 : (i - min i j).toNat + (min i j + 1074).toNat = (i + 1074).toNat := by omega
      have e2 : (j - min i j).toNat + (min i j + 1074).toNat = (j + 1074).toNat := by omega
      rw [e1, e2]
      rfl

theorem order_fk {x y : Nat} (hx : fnan x = false) (hy : fnan y = false) : FloatKind.f64.format.order x y = some (compare (fk x) (fk y)) :=
  order_dkey _ _ (read_fits x) (read_fits y) hx hy
end Go.Proofs.YtjokpfgncmdomaaGreatDoor

/- floats: what is written exactly; products with a power of two; whole numbers: plain -/
namespace Go.Proofs.YtjokpfgncmdomaaGreatDoor
open Go.RowKit Go.Sort Ieee

theorem log2_mul_pow {m : Nat} (hm : m ≠ 0) : ∀ k : Nat, (m * 2 ^ k).log2 = m.log2 + k
  | 0 => by simp
  | k + 1 => by
    rw [Nat.pow_succ, ← Nat.mul_assoc, Nat.mul_comm _ 2, Nat.log2_two_mul (Nat.mul_ne_zero hm (Nat.ne_of_gt (Nat.pow_pos (by decide)))), log2_mul_pow hm k]
    omega
theorem cut_none (s : Bool) (n : Nat) : Toward.even.cut s n 0 = n := by
  unfold Toward.cut
  simp [Nat.mod_one]
theorem cut_exact (s : Bool) (a d : Nat) (ha : a ≠ 0) : Toward.even.cut s (a * 2 ^ d) d = a := by
  unfold Toward.cut
  have h1 : min d ((a * 2 ^ d).log2 + 2) = d := by rw [log2_mul_pow ha]; omega
  have hp : 0 < 2 ^ d := Nat.pow_pos (by decide)
  simp only [h1, Nat.one_shiftLeft]
  rw [Nat.mul_div_cancel _ hp, Nat.mul_mod_left]
  have : ¬ 2 ^ d < 0 := by omega
  simp [Nat.ne_of_gt hp]
/-- the last place of a number that is kept -/
def lastP (m : Nat) (p : Int) : Int := max (p + (m.log2 : Int) - 52) (-1074)
def rungOf (m : Nat) (p : Int) : Nat := (lastP m p + 1074).toNat * 2 ^ 52 + m * 2 ^ (p - lastP m p).toNat
theorem nearest_exact (s : Bool) (m : Nat) (p : Int) (k : Nat) (hm : m ≠ 0) (hp : lastP m p ≤ p) (hf : rungOf m p ≤ double.infRung) : double.nearest s (m * 2 ^ k) (p - k) = double.word s (rungOf m p) := by
  have hmk : m * 2 ^ k ≠ 0 := Nat.mul_ne_zero hm (Nat.ne_of_gt (Nat.pow_pos (by decide)))
  unfold Format.nearest
  rw [if_neg hmk, log2_mul_pow hm]
  have hl : double.leastPlace = -1074 := by decide
  have hfb : (double.fractionBits : Int) = 52 := by decide
  have e1 : max (p - (k : Int) + ((m.log2 + k : Nat) : Int) - (double.fractionBits : Int)) (-1074) = lastP m p := by
    rw [hfb]; unfold lastP; congr 1; omega
  simp only [hl]
  simp only [e1]
  have hb : double.binade = 2 ^ 52 := by decide
  rw [hb]
  obtain ⟨q, hq⟩ : ∃ q, q = lastP m p := ⟨_, rfl⟩
  have hr : rungOf m p = (q + 1074).toNat * 2 ^ 52 + m * 2 ^ (p - q).toNat := by unfold rungOf; rw [← hq]
  rw [← hq] at hp ⊢
  have e2 : (q - -1074) = q + 1074 := by omega
  rw [e2]
  have hk : Toward.even.cut s ((m * 2 ^ k) <<< (p - (k : Int) - q).toNat) (q - (p - (k : Int))).toNat = m * 2 ^ (p - q).toNat := by
    by_cases h : q ≤ p - k
    · have h0 : (q - (p - (k : Int))).toNat = 0 := by omega
      rw [h0, cut_none, Nat.shiftLeft_eq, Nat.mul_assoc, ← Nat.pow_add]
      congr 2
      omega
    · have h0 : (p - (k : Int) - q).toNat = 0 := by omega
      rw [h0, Nat.shiftLeft_zero]
      have h1 : k = (p - q).toNat + (q - (p - (k : Int))).toNat := by omega
      have h2 : m * 2 ^ k = (m * 2 ^ (p - q).toNat) * 2 ^ (q - (p - (k : Int))).toNat := by
        rw [Nat.mul_assoc, ← Nat.pow_add, ← h1]
      rw [h2]
      exact cut_exact s _ _ (Nat.mul_ne_zero hm (Nat.ne_of_gt (Nat.pow_pos (by decide))))
  rw [hk, ← hr, Nat.min_eq_left hf]
theorem read_word (s : Bool) (K : Nat) (q : Int) (hK : K < 2 ^ 53) (hq : -1074 ≤ q) (hn : q = -1074 ∨ 2 ^ 52 ≤ K) (hf : (q + 1074).toNat * 2 ^ 52 + K < double.infRung) :
    double.read (double.word s ((q + 1074).toNat * 2 ^ 52 + K)) = .number s K q := by
  have hi : double.infRung = 2047 * 2 ^ 52 := by decide
  have hb : double.binade = 2 ^ 52 := by decide
  have hs : double.signWeight = 2 ^ 63 := by decide
  have hl : double.leastPlace = -1074 := by decide
  rw [hi] at hf
  obtain ⟨r, hr⟩ : ∃ r, r = (q + 1074).toNat * 2 ^ 52 + K := ⟨_, rfl⟩
  rw [← hr] at hf ⊢
  have e1 : double.word s r / double.signWeight % 2 = if s then 1 else 0 := by
    unfold Format.word; rw [hs]; cases s <;> simp <;> omega
  have e2 : double.word s r % double.signWeight = r := by
    unfold Format.word; rw [hs]; cases s <;> simp <;> omega
  unfold Format.read
  simp only [e1, e2, hb, hi, hl]
  have e3 : ((if s = true then 1 else 0) == 1) = s := by cases s <;> rfl
  rw [e3]
  by_cases h : r < 2 ^ 52
  · rw [if_pos h]
    have h0 : q = -1074 := by omega
    have h1 : r = K := by omega
    rw [h1, h0]
  · rw [if_neg h, if_pos hf]
    have h2 : 2 ^ 52 ≤ K := by omega
    congr 1 <;> omega
theorem lastP_of {K : Nat} {q : Int} (hK : K < 2 ^ 53) (h0 : K ≠ 0) (hq : -1074 ≤ q) (hn : q = -1074 ∨ 2 ^ 52 ≤ K) : lastP K q = q := by
  unfold lastP
  have h1 : K.log2 < 53 := (Nat.log2_lt h0).2 hK
  rcases hn with h | h
  · omega
  · have h2 : ¬ K.log2 < 52 := fun h3 => by have := (Nat.log2_lt h0).1 h3; omega
    omega
theorem rungOf_of {K : Nat} {q : Int} (hK : K < 2 ^ 53) (h0 : K ≠ 0) (hq : -1074 ≤ q) (hn : q = -1074 ∨ 2 ^ 52 ≤ K) : rungOf K q = (q + 1074).toNat * 2 ^ 52 + K := by
  unfold rungOf
  rw [lastP_of hK h0 hq hn]
  simp
theorem mul_unit (u : Nat) (a : Int) (hu : double.read u = .number false (2 ^ 52) a) (K : Nat) (q : Int) (hK : K < 2 ^ 53) (hq : -1074 ≤ q) (hn : q = -1074 ∨ 2 ^ 52 ≤ K) (hf : (q + 1074).toNat * 2 ^ 52 + K < double.infRung) :
    double.mul u ((q + 1074).toNat * 2 ^ 52 + K) = some (double.nearest false (K * 2 ^ 52) (q + a)) := by
  unfold Format.mul
  have h := read_word false K q hK hq hn hf
  have e : double.word false ((q + 1074).toNat * 2 ^ 52 + K) = (q + 1074).toNat * 2 ^ 52 + K := rfl
  rw [e] at h
  rw [hu, h]
  simp only [Datum.product, Option.map_some, Format.write]
  rw [Nat.mul_comm, Int.add_comm]
  rfl
theorem mul_one (K : Nat) (q : Int) (h0 : K ≠ 0) (hK : K < 2 ^ 53) (hq : -1074 ≤ q) (hn : q = -1074 ∨ 2 ^ 52 ≤ K) (hf : (q + 1074).toNat * 2 ^ 52 + K < double.infRung) :
    double.mul 4607182418800017408 ((q + 1074).toNat * 2 ^ 52 + K) = some ((q + 1074).toNat * 2 ^ 52 + K) := by
  rw [mul_unit 4607182418800017408 (-52) (by decide) K q hK hq hn hf]
  have h := nearest_exact false K q 52 h0 (by rw [lastP_of hK h0 hq hn]; exact Int.le_refl _) (by rw [rungOf_of hK h0 hq hn]; omega)
  rw [rungOf_of hK h0 hq hn] at h
  have e : q + -52 = q - ((52 : Nat) : Int) := rfl
  rw [e, h]
  rfl

theorem order_num (a b : Nat) (i j : Int) : Datum.order (.number false a i) (.number false b j) = some (compare ((a <<< (i - min i j).toNat : Nat) : Int) ((b <<< (j - min i j).toNat : Nat) : Int)) := rfl
theorem icmp_lt {a b : Int} (h : a < b) : compare a b = .lt := by
  show compareOfLessAndEq a b = .lt
  unfold compareOfLessAndEq; rw [if_pos h]
theorem icmp_gt {a b : Int} (h : b < a) : compare a b = .gt := by
  show compareOfLessAndEq a b = .gt
  unfold compareOfLessAndEq; rw [if_neg (by omega), if_neg (by omega)]
theorem icmp_eq (a : Int) : compare a a = .eq := by
  show compareOfLessAndEq a a = .eq
  unfold compareOfLessAndEq; rw [if_neg (by omega), if_pos rfl]
/-- a whole number below 2^53, as a float -/
theorem log_lt {f : Nat} (h0 : f ≠ 0) (h : f < 2 ^ 53) : f.log2 ≤ 52 := by
  have := (Nat.log2_lt h0).2 h
  omega
theorem kept_bounds {f : Nat} (h0 : f ≠ 0) (h : f < 2 ^ 53) : 2 ^ 52 ≤ f * 2 ^ (52 - f.log2) ∧ f * 2 ^ (52 - f.log2) < 2 ^ 53 := by
  have hl := log_lt h0 h
  have h1 : 2 ^ f.log2 ≤ f := Nat.log2_self_le h0
  have h2 : f < 2 ^ (f.log2 + 1) := Nat.lt_log2_self
  have hp : 0 < 2 ^ (52 - f.log2) := Nat.pow_pos (by decide)
  constructor
  · have e : 2 ^ 52 = 2 ^ f.log2 * 2 ^ (52 - f.log2) := by rw [← Nat.pow_add]; congr 1; omega
    rw [e]; exact Nat.mul_le_mul_right _ h1
  · have e : 2 ^ 53 = 2 ^ (f.log2 + 1) * 2 ^ (52 - f.log2) := by rw [← Nat.pow_add]; congr 1; omega
    rw [e]; exact Nat.mul_lt_mul_of_pos_right h2 hp
theorem rung_whole {f : Nat} (h0 : f ≠ 0) (h : f < 2 ^ 53) : rungOf f 0 = (f.log2 + 1022) * 2 ^ 52 + f * 2 ^ (52 - f.log2) := by
  have hl := log_lt h0 h
  have e : lastP f 0 = (f.log2 : Int) - 52 := by unfold lastP; omega
  unfold rungOf
  rw [e]
  congr 2
  · congr 1; omega
  · congr 1; omega
theorem read_whole {f : Nat} (h0 : f ≠ 0) (h : f < 2 ^ 53) : double.read (rungOf f 0) = .number false (f * 2 ^ (52 - f.log2)) ((f.log2 : Int) - 52) := by
  have hl := log_lt h0 h
  have hk := kept_bounds h0 h
  have hi : double.infRung = 2047 * 2 ^ 52 := by decide
  have e : rungOf f 0 = ((((f.log2 : Int) - 52) + 1074).toNat) * 2 ^ 52 + f * 2 ^ (52 - f.log2) := by
    rw [rung_whole h0 h]
    congr 2
    omega
  rw [e]
  exact read_word false _ _ hk.2 (by omega) (.inr hk.1) (by rw [hi]; omega)
theorem whole_ne_zero {f : Nat} (h0 : f ≠ 0) (h : f < 2 ^ 53) : (double.order (rungOf f 0) 0 == some Ordering.eq) = false := by
  have hk := kept_bounds h0 h
  have e : double.read 0 = .number false 0 (-1074) := by decide
  unfold Format.order
  rw [read_whole h0 h, e, order_num, icmp_gt]
  · rfl
  · have : 0 < (f * 2 ^ (52 - f.log2)) <<< ((f.log2 : Int) - 52 - min ((f.log2 : Int) - 52) (-1074)).toNat := by
      rw [Nat.shiftLeft_eq]; exact Nat.mul_pos (by omega) (Nat.pow_pos (by decide))
    rw [Nat.zero_shiftLeft]
    exact Int.ofNat_lt.2 this
theorem whole_eq {f : Nat} (h0 : f ≠ 0) (h : f < 2 ^ 53) : (double.order (rungOf f 0) (rungOf f 0) == some Ordering.eq) = true := by
  unfold Format.order
  rw [read_whole h0 h, order_num, icmp_eq]
  rfl
theorem whole_le_max {f : Nat} (h0 : f ≠ 0) (h : f < 2 ^ 53) : (double.order (rungOf f 0) 9218868437227405311 == some Ordering.gt) = false := by
  have hk := kept_bounds h0 h
  have hl := log_lt h0 h
  have e : double.read 9218868437227405311 = .number false (2 ^ 53 - 1) 971 := by decide
  unfold Format.order
  rw [read_whole h0 h, e, order_num, icmp_lt]
  · rfl
  · have e1 : ((f.log2 : Int) - 52 - min ((f.log2 : Int) - 52) 971).toNat = 0 := by omega
    have e2 : (971 - min ((f.log2 : Int) - 52) 971).toNat = 1023 - f.log2 := by omega
    rw [e1, e2, Nat.shiftLeft_zero, Nat.shiftLeft_eq]
    refine Int.ofNat_lt.2 (Nat.lt_of_lt_of_le hk.2 ?_)
    have h2 : 2 ^ 1 ≤ 2 ^ (1023 - f.log2) := Nat.pow_le_pow_right (by decide) (by omega)
    have h3 := Nat.mul_le_mul_left (2 ^ 53 - 1) h2
    exact Nat.le_trans (by decide) h3
theorem whole_normal {f : Nat} (h0 : f ≠ 0) (h : f < 2 ^ 53) : (double.order (rungOf f 0) 4503599627370496 == some Ordering.lt) = false := by
  have hk := kept_bounds h0 h
  have hl := log_lt h0 h
  have e : double.read 4503599627370496 = .number false (2 ^ 52) (-1074) := by decide
  unfold Format.order
  rw [read_whole h0 h, e, order_num, icmp_gt]
  · rfl
  · have e1 : ((f.log2 : Int) - 52 - min ((f.log2 : Int) - 52) (-1074)).toNat = f.log2 + 1022 := by omega
    have e2 : (-1074 - min ((f.log2 : Int) - 52) (-1074)).toNat = 0 := by omega
    rw [e1, e2, Nat.shiftLeft_zero, Nat.shiftLeft_eq]
    refine Int.ofNat_lt.2 ?_
    have h2 : 2 ^ 1 ≤ 2 ^ (f.log2 + 1022) := Nat.pow_le_pow_right (by decide) (by omega)
    have h3 := Nat.mul_le_mul hk.1 h2
    exact Nat.lt_of_lt_of_le (by decide) h3
theorem and_mask {x : Nat} (hx : x < 2 ^ 63) : x &&& (18446744073709551615 - 9218868437227405312) = x % 2 ^ 52 := by
  apply Nat.eq_of_testBit_eq
  intro i
  rw [Nat.testBit_and, Nat.testBit_mod_two_pow, show (18446744073709551615 - 9218868437227405312 : Nat) = 2 ^ 63 + (2 ^ 52 - 1) by decide]
  have h2 := Nat.two_pow_add_eq_or_of_lt (i := 63) (b := 2 ^ 52 - 1) (by decide) 1
  rw [Nat.mul_one] at h2
  rw [h2, Nat.testBit_or, Nat.testBit_two_pow_sub_one, Nat.testBit_two_pow]
  by_cases h63 : i = 63
  · subst h63
    have : x.testBit 63 = false := Nat.testBit_lt_two_pow hx
    simp [this]
  · have h3 : ¬ 63 = i := fun e => h63 e.symm
    simp [h3, Bool.and_comm]
theorem or_parts {a E : Nat} (ha : a < 2 ^ 52) : a ||| (E * 2 ^ 52) = E * 2 ^ 52 + a := by
  have h := Nat.two_pow_add_eq_or_of_lt (i := 52) (b := a) ha E
  rw [Nat.or_comm, Nat.mul_comm E, ← h]

theorem rung_whole_lt {f : Nat} (h0 : f ≠ 0) (h : f < 2 ^ 53) : rungOf f 0 < 9223372036854775808 := by
  have hk := kept_bounds h0 h
  have hl := log_lt h0 h
  rw [rung_whole h0 h]
  omega
theorem whole_shift {f : Nat} (h0 : f ≠ 0) (h : f < 2 ^ 53) : rungOf f 0 / 2 ^ 52 = f.log2 + 1023 ∧ rungOf f 0 % 2 ^ 52 = f * 2 ^ (52 - f.log2) - 2 ^ 52 := by
  have hk := kept_bounds h0 h
  rw [rung_whole h0 h]
  constructor <;> omega
/-- where a float's exponent is not too small -/
theorem rung_normal {f : Nat} {e : Int} (h0 : f ≠ 0) (h : f < 2 ^ 53) (he : -1022 ≤ e + f.log2) : rungOf f e = (e + f.log2 + 1022).toNat * 2 ^ 52 + f * 2 ^ (52 - f.log2) := by
  have hl := log_lt h0 h
  have e1 : lastP f e = e + (f.log2 : Int) - 52 := by unfold lastP; omega
  unfold rungOf
  rw [e1]
  congr 2
  · congr 1; omega
  · congr 1; omega
theorem ldexp_normal {f : Nat} {e : Int} (h0 : f ≠ 0) (h : f < 2 ^ 53) (he : -1022 ≤ e + f.log2) (he2 : e + f.log2 ≤ 1023) :
    double.mul 4607182418800017408 ((e + f.log2 + 1023).toNat * 2 ^ 52 + (f * 2 ^ (52 - f.log2) - 2 ^ 52)) = some (rungOf f e) := by
  have hk := kept_bounds h0 h
  have hi : double.infRung = 2047 * 2 ^ 52 := by decide
  have e1 : (e + f.log2 + 1023).toNat * 2 ^ 52 + (f * 2 ^ (52 - f.log2) - 2 ^ 52) = (((e + f.log2 - 52) + 1074).toNat) * 2 ^ 52 + f * 2 ^ (52 - f.log2) := by omega
  rw [e1, mul_one _ _ (by omega) hk.2 (by omega) (.inr hk.1) (by rw [hi]; omega), rung_normal h0 h he]
  have e3 : (e + f.log2 - 52 + 1074).toNat = (e + f.log2 + 1022).toNat := by omega
  rw [e3]
theorem ldexp_small {f : Nat} {e : Int} (h0 : f ≠ 0) (h : f < 2 ^ 53) (he : -1074 ≤ e) (he2 : e + f.log2 < -1022) :
    double.mul 4368491638549381120 ((e + f.log2 + 53 + 1023).toNat * 2 ^ 52 + (f * 2 ^ (52 - f.log2) - 2 ^ 52)) = some (rungOf f e) := by
  have hk := kept_bounds h0 h
  have hl := log_lt h0 h
  have hi : double.infRung = 2047 * 2 ^ 52 := by decide
  have e1 : (e + f.log2 + 53 + 1023).toNat * 2 ^ 52 + (f * 2 ^ (52 - f.log2) - 2 ^ 52) = (((e + f.log2 + 1) + 1074).toNat) * 2 ^ 52 + f * 2 ^ (52 - f.log2) := by omega
  rw [e1, mul_unit 4368491638549381120 (-105) (by decide) _ _ hk.2 (by omega) (.inr hk.1) (by rw [hi]; omega)]
  have e2 : lastP f e = -1074 := by unfold lastP; omega
  have hr : rungOf f e ≤ double.infRung := by
    rw [hi]
    unfold rungOf
    rw [e2]
    have h3 : f * 2 ^ (e - -1074).toNat < 2 ^ 52 := by
      have h4 : f < 2 ^ (f.log2 + 1) := Nat.lt_log2_self
      have h5 : 2 ^ (f.log2 + 1) * 2 ^ (e - -1074).toNat ≤ 2 ^ 52 := by
        rw [← Nat.pow_add]; exact Nat.pow_le_pow_right (by decide) (by omega)
      exact Nat.lt_of_lt_of_le (Nat.mul_lt_mul_of_pos_right h4 (Nat.pow_pos (by decide))) h5
    omega
  have hx := nearest_exact false f e (104 - f.log2) h0 (by rw [e2]; exact he) hr
  have e3 : f * 2 ^ (52 - f.log2) * 2 ^ 52 = f * 2 ^ (104 - f.log2) := by
    rw [Nat.mul_assoc, ← Nat.pow_add, show 52 - f.log2 + 52 = 104 - f.log2 by omega]
  have e4 : e + (f.log2 : Int) + 1 + -105 = e - ((104 - f.log2 : Nat) : Int) := by omega
  rw [e3, e4, hx]
  rfl
theorem nearest_whole {f : Nat} (h0 : f ≠ 0) (h : f < 2 ^ 53) : double.nearest false f 0 = rungOf f 0 := by
  have hk := kept_bounds h0 h
  have hl := log_lt h0 h
  have hi : double.infRung = 2047 * 2 ^ 52 := by decide
  have hx := nearest_exact false f 0 0 h0 (by unfold lastP; omega) (by rw [hi, rung_whole h0 h]; omega)
  simp at hx
  rw [hx]
  rfl

end Go.Proofs.YtjokpfgncmdomaaGreatDoor

/- math.Ldexp, bits.Join of any whole number below 2^53: the walks -/
namespace Go.Proofs.YtjokpfgncmdomaaGreatDoor
open Go.RowKit Go.Sort

theorem andNot_exp {x : Nat} (hx : x < 9223372036854775808) : bits BinOp.andNot IntKind.u64 (x : Int) 9218868437227405312 = ((x % 4503599627370496 : Nat) : Int) := by
  have h := u64_andNot_nat x 9218868437227405312 (by omega) (by decide)
  rw [and_mask hx] at h
  exact h
theorem or_exp {a P : Nat} (ha : a < 4503599627370496) (hP : P < 2048) : bits BinOp.or IntKind.u64 (a : Int) ((P * 4503599627370496 : Nat) : Int) = ((P * 4503599627370496 + a : Nat) : Int) := by
  have h := bits_or_u64_nat a (P * 4503599627370496) (by omega) (by omega)
  rw [show a ||| P * 4503599627370496 = P * 4503599627370496 + a from or_parts (a := a) (E := P) ha] at h
  exact h
theorem and_exp {k : Nat} (hk : k < 2048) : bits BinOp.and IntKind.i64 (k : Int) 2047 = (k : Int) := by
  have h1 : (BitVec.ofInt 64 (k : Int)).toNat = k := by
    rw [BitVec.ofInt_natCast, BitVec.toNat_ofNat]; exact Nat.mod_eq_of_lt (by omega)
  show IntKind.i64.wrap ((BitVec.ofInt 64 (k : Int) &&& BitVec.ofInt 64 2047).toNat : Int) = _
  rw [BitVec.toNat_and, h1, show (BitVec.ofInt 64 2047).toNat = 2 ^ 11 - 1 by decide, Nat.and_two_pow_sub_one_eq_mod, Nat.mod_eq_of_lt (show k < 2 ^ 11 by omega), IntKind.wrap_i64]
  omega

set_option maxRecDepth 100000 in
set_option maxHeartbeats 4000000 in
theorem isInf_w (V : Nat) (w : World) (hV : V < 9223372036854775808) (o1 : (FloatKind.f64.format.order V 9218868437227405311 == some Ordering.gt) = false) :
    Calls Tryz.prog 180 #[.float .f64 V, .int .i64 0] w fun e w' => e = .returned (.bool false) ∧ w = w' := by
  go_enter Tryz.func180, Tryz.ntmps180
  go_wp2_with fail
  refine (abs_f V w (by omega)).mono ?_
  rw [Nat.mod_eq_of_lt hV]
  rintro e w' ⟨rfl, rfl⟩
  go_wp2_with fail
  go_ret
  exact ⟨rfl, rfl⟩
set_option maxRecDepth 100000 in
set_option maxHeartbeats 4000000 in
theorem isNaN_w (V : Nat) (w : World) (o1 : (FloatKind.f64.format.order V V != some Ordering.eq) = false) :
    Calls Tryz.prog 94 #[.float .f64 V] w fun e w' => e = .returned (.bool false) ∧ w = w' := by
  go_enter Tryz.func94, Tryz.ntmps94
  go_wp2_with fail
  go_ret
  exact ⟨rfl, rfl⟩
set_option maxRecDepth 100000 in
set_option maxHeartbeats 4000000 in
theorem normalize_w (V : Nat) (w : World) (hV : V < 9223372036854775808) (o1 : (FloatKind.f64.format.order V 4503599627370496 == some Ordering.lt) = false) :
    Calls Tryz.prog 181 #[.float .f64 V] w fun e w' => e = .returned (.tuple #[.float .f64 V, .int .i64 0]) ∧ w = w' := by
  go_enter Tryz.func181, Tryz.ntmps181
  go_wp2_with fail
  refine (abs_f V w (by omega)).mono ?_
  rw [Nat.mod_eq_of_lt hV]
  rintro e w' ⟨rfl, rfl⟩
  go_wp2_with fail
  go_ret2
  exact ⟨rfl, rfl⟩

set_option maxRecDepth 100000 in
set_option maxHeartbeats 4000000 in
theorem ldexp_w (f : Nat) (e : Int) (w : World) (h0 : f ≠ 0) (h : f < 2 ^ 53) (he : -1074 ≤ e) (he2 : e + f.log2 ≤ 1023) :
    Calls Tryz.prog 178 #[.float .f64 (rungOf f 0), .int .i64 e] w fun x w' => x = .returned (.float .f64 (rungOf f e)) ∧ w = w' := by
  have hd := run_f64bits
  have hd2 := run_f64from
  obtain ⟨V, hV⟩ : ∃ V, V = rungOf f 0 := ⟨_, rfl⟩
  obtain ⟨K, hK⟩ : ∃ K, K = f.log2 := ⟨_, rfl⟩
  obtain ⟨a, ha⟩ : ∃ a, a = f * 2 ^ (52 - f.log2) - 2 ^ 52 := ⟨_, rfl⟩
  obtain ⟨R, hR⟩ : ∃ R, R = rungOf f e := ⟨_, rfl⟩
  have hK52 : K ≤ 52 := by rw [hK]; exact log_lt h0 h
  have ha52 : a < 4503599627370496 := by have := kept_bounds h0 h; rw [ha]; omega
  have v1 : V < 9223372036854775808 := by rw [hV]; exact rung_whole_lt h0 h
  have v2 : V / 4503599627370496 = K + 1023 := by rw [hV, hK]; exact (whole_shift h0 h).1
  have v3 : V % 4503599627370496 = a := by rw [hV, ha]; exact (whole_shift h0 h).2
  have o1 : (FloatKind.f64.format.order V 0 == some Ordering.eq) = false := by rw [hV]; exact whole_ne_zero h0 h
  have HINF := Lib.hid (isInf_w V w v1 (by rw [hV]; exact whole_le_max h0 h))
  have HNAN := Lib.hid (isNaN_w V w (by rw [hV]; have := whole_eq h0 h; show (!(Ieee.double.order _ _ == _)) = false; rw [this]; rfl))
  have HNRM := Lib.hid (normalize_w V w v1 (by rw [hV]; exact whole_normal h0 h))
  have b1 : bits BinOp.and IntKind.i64 ((V : Int) / 4503599627370496) 2047 = ((K + 1023 : Nat) : Int) := by
    rw [show (V : Int) / 4503599627370496 = ((K + 1023 : Nat) : Int) by omega]
    exact and_exp (by omega)
  have b2 : bits BinOp.andNot IntKind.u64 (V : Int) 9218868437227405312 = (a : Int) := by rw [andNot_exp v1, v3]
  rw [← hV, ← hR]
  have HLN : Hid (-1022 ≤ e + K → FloatKind.f64.format.mul 4607182418800017408 ((e + K + 1023).toNat * 4503599627370496 + a) = some R) := Lib.hid (fun h1 => by
    rw [hR, ha, hK]
    rw [hK] at h1
    exact ldexp_normal h0 h h1 he2)
  have HLS : Hid (e + K < -1022 → FloatKind.f64.format.mul 4368491638549381120 ((e + K + 53 + 1023).toNat * 4503599627370496 + a) = some R) := Lib.hid (fun h1 => by
    rw [hR, ha, hK]
    rw [hK] at h1
    exact ldexp_small h0 h he h1)
  rw [← hK] at he2
  clear hV hK ha hR v2 v3
  by_cases hn : -1022 ≤ e + K
  · have hm := HLN.out hn
    have b3 : bits BinOp.or IntKind.u64 (a : Int) ((e + K + 1023) * 4503599627370496) = (((e + K + 1023).toNat * 4503599627370496 + a : Nat) : Int) := by
      rw [← or_exp ha52 (P := (e + K + 1023).toNat) (by omega)]
      congr 1
      omega
    obtain ⟨N, hN⟩ : ∃ N, N = (e + K + 1023).toNat * 4503599627370496 + a := ⟨_, rfl⟩
    rw [← hN] at hm b3
    clear hN
    have b4 := fun w => run_float_arith (P := Tryz.prog) (w := w) BinOp.mul 29 FloatKind.f64 4607182418800017408 N _ hm
    go_enter Tryz.func178, Tryz.ntmps178
    go_wp2_with fail
    refine HINF.out.mono ?_
    rintro e w' ⟨rfl, rfl⟩
    go_wp2_with fail
    refine HNAN.out.mono ?_
    rintro e w' ⟨rfl, rfl⟩
    go_wp2_with fail
    refine HNRM.out.mono ?_
    rintro e w' ⟨rfl, rfl⟩
    go_wp2_with fail
    go_ret
    exact ⟨rfl, rfl⟩
  · have hm := HLS.out (by omega)
    have b3 : bits BinOp.or IntKind.u64 (a : Int) ((e + K + 53 + 1023) * 4503599627370496) = (((e + K + 53 + 1023).toNat * 4503599627370496 + a : Nat) : Int) := by
      rw [← or_exp ha52 (P := (e + K + 53 + 1023).toNat) (by omega)]
      congr 1
      omega
    obtain ⟨N, hN⟩ : ∃ N, N = (e + K + 53 + 1023).toNat * 4503599627370496 + a := ⟨_, rfl⟩
    rw [← hN] at hm b3
    clear hN
    have b4 := fun w => run_float_arith (P := Tryz.prog) (w := w) BinOp.mul 29 FloatKind.f64 4368491638549381120 N _ hm
    go_enter Tryz.func178, Tryz.ntmps178
    go_wp2_with fail
    refine HINF.out.mono ?_
    rintro e w' ⟨rfl, rfl⟩
    go_wp2_with fail
    refine HNAN.out.mono ?_
    rintro e w' ⟨rfl, rfl⟩
    go_wp2_with fail
    refine HNRM.out.mono ?_
    rintro e w' ⟨rfl, rfl⟩
    go_wp2_with fail
    go_ret
    exact ⟨rfl, rfl⟩

end Go.Proofs.YtjokpfgncmdomaaGreatDoor

/- math.Copysign; math.Ldexp, bits.Join of any parts: the walks -/
namespace Go.Proofs.YtjokpfgncmdomaaGreatDoor
open Go.RowKit Go.Sort

/-- a size's bits, with a sign -/
def sw (s : Bool) (V : Nat) : Nat := if s then V + 9223372036854775808 else V

set_option maxRecDepth 100000 in
set_option maxHeartbeats 4000000 in
theorem copysign_w (V : Nat) (w : World) (hV : V < 9223372036854775808) :
    Calls Tryz.prog 45 #[.float .f64 V, .float .f64 13830554455654793216] w fun e w' => e = .returned (.float .f64 (sw true V)) ∧ w = w' := by
  have hd := run_f64bits
  have hd2 := run_f64from
  have b1 : bits BinOp.andNot IntKind.u64 (V : Int) 9223372036854775808 = (V : Int) := by rw [clear_sign (by omega), Nat.mod_eq_of_lt hV]
  have b2 : bits BinOp.and IntKind.u64 13830554455654793216 9223372036854775808 = 9223372036854775808 := by decide +kernel
  have b3 : bits BinOp.or IntKind.u64 (V : Int) 9223372036854775808 = ((V + 9223372036854775808 : Nat) : Int) := by
    have h := bits_or_u64_nat V (2 ^ 63) (by omega) (by decide)
    have h2 := Nat.two_pow_add_eq_or_of_lt (i := 63) (b := V) hV 1
    rw [Nat.mul_one, Nat.or_comm] at h2
    rw [← h2, Nat.add_comm] at h
    exact h
  obtain ⟨N, hN⟩ : ∃ N, N = V + 9223372036854775808 := ⟨_, rfl⟩
  rw [← hN] at b3
  have HN : Hid (sw true V = N) := Lib.hid (by rw [hN]; rfl)
  rw [HN.out]
  clear hN
  go_enter Tryz.func45, Tryz.ntmps45
  go_wp2_with fail
  go_ret
  exact ⟨rfl, rfl⟩

set_option maxRecDepth 100000 in
set_option maxHeartbeats 4000000 in
theorem ldexp_zero (w : World) : Calls Tryz.prog 178 #[.float .f64 0, .int .i64 0] w fun x w' => x = .returned (.float .f64 0) ∧ w = w' := by
  have o1 : (FloatKind.f64.format.order 0 0 == some Ordering.eq) = true := by decide +kernel
  go_enter Tryz.func178, Tryz.ntmps178
  go_wp2_with fail
  go_ret
  exact ⟨rfl, rfl⟩
set_option maxRecDepth 100000 in
set_option maxHeartbeats 4000000 in
theorem Ldexp_zero (w : World) : Calls Tryz.prog 169 #[.float .f64 0, .int .i64 0] w fun x w' => x = .returned (.float .f64 0) ∧ w = w' := by
  go_enter Tryz.func169, Tryz.ntmps169
  go_wp2_with fail
  refine (ldexp_zero w).mono ?_
  rintro e w' ⟨rfl, rfl⟩
  go_wp2_with fail
  go_ret
  exact ⟨rfl, rfl⟩
set_option maxRecDepth 100000 in
set_option maxHeartbeats 4000000 in
theorem Ldexp_w (f : Nat) (e : Int) (w : World) (h0 : f ≠ 0) (h : f < 2 ^ 53) (he : -1074 ≤ e) (he2 : e + f.log2 ≤ 1023) :
    Calls Tryz.prog 169 #[.float .f64 (rungOf f 0), .int .i64 e] w fun x w' => x = .returned (.float .f64 (rungOf f e)) ∧ w = w' := by
  have HC := Lib.hid (ldexp_w f e w h0 h he he2)
  generalize rungOf f 0 = V at HC ⊢
  generalize rungOf f e = R at HC ⊢
  have x2 : e ≤ 1023 := by omega
  clear he2 h h0
  go_enter Tryz.func169, Tryz.ntmps169
  go_wp2_with fail
  refine HC.out.mono ?_
  rintro e w' ⟨rfl, rfl⟩
  go_wp2_with fail
  go_ret
  exact ⟨rfl, rfl⟩

theorem rungOf_lt {f : Nat} {e : Int} (h0 : f ≠ 0) (h : f < 2 ^ 53) (he : -1074 ≤ e) (he2 : e + f.log2 ≤ 1023) : rungOf f e < 9218868437227405312 := by
  have hl := log_lt h0 h
  have hk := kept_bounds h0 h
  by_cases hn : -1022 ≤ e + f.log2
  · rw [rung_normal h0 h hn]
    omega
  · have e2 : lastP f e = -1074 := by unfold lastP; omega
    unfold rungOf
    rw [e2]
    have h3 : f * 2 ^ (e - -1074).toNat < 2 ^ 52 := by
      have h4 : f < 2 ^ (f.log2 + 1) := Nat.lt_log2_self
      have h5 : 2 ^ (f.log2 + 1) * 2 ^ (e - -1074).toNat ≤ 2 ^ 52 := by
        rw [← Nat.pow_add]; exact Nat.pow_le_pow_right (by decide) (by omega)
      exact Nat.lt_of_lt_of_le (Nat.mul_lt_mul_of_pos_right h4 (Nat.pow_pos (by decide))) h5
    omega

set_option maxRecDepth 100000 in
set_option maxHeartbeats 4000000 in
theorem join_zero (s : Bool) (w : World) : Calls Tryz.prog 150 #[.agg #[.bool s, .int .u64 0, .int .i64 0]] w fun e w' => e = .returned (.tuple #[.float .f64 (sw s 0), .bool true]) ∧ Below w.heap.size w w' := by
  have c1 : floatOfInt FloatKind.f64 0 = 0 := by decide +kernel
  cases s
  · go_enter Tryz.func150, Tryz.ntmps150
    go_wp2_with fail
    refine (len64 0 _ (by decide)).mono ?_
    rintro e w' ⟨rfl, rfl⟩
    rw [show blen 0 = 0 by decide +kernel]
    go_wp2_with fail
    refine (Ldexp_zero _).mono ?_
    rintro e w' ⟨rfl, rfl⟩
    go_wp2_with fail
    go_ret2
    exact ⟨rfl, below1 ..⟩
  · go_enter Tryz.func150, Tryz.ntmps150
    go_wp2_with fail
    refine (len64 0 _ (by decide)).mono ?_
    rintro e w' ⟨rfl, rfl⟩
    rw [show blen 0 = 0 by decide +kernel]
    go_wp2_with fail
    refine (Ldexp_zero _).mono ?_
    rintro e w' ⟨rfl, rfl⟩
    go_wp2_with fail
    refine (copysign_w 0 _ (by decide)).mono ?_
    rintro e w' ⟨rfl, rfl⟩
    go_wp2_with fail
    go_ret2
    exact ⟨rfl, below1 ..⟩
set_option maxRecDepth 100000 in
set_option maxHeartbeats 4000000 in
theorem join_odd (s : Bool) (f : Nat) (e : Int) (w : World) (h : f < 2 ^ 53) (ho : f % 2 = 1) (he : -1074 ≤ e) (he2 : e + blen f ≤ 1024) :
    Calls Tryz.prog 150 #[.agg #[.bool s, .int .u64 (f : Int), .int .i64 e]] w fun x w' => x = .returned (.tuple #[.float .f64 (sw s (rungOf f e)), .bool true]) ∧ Below w.heap.size w w' := by
  have h0 : f ≠ 0 := by omega
  have hbl : blen f = f.log2 + 1 := by unfold blen; rw [if_neg h0]
  have hl := log_lt h0 h
  have c1 : floatOfInt FloatKind.f64 (f : Int) = rungOf f 0 := by
    rw [← nearest_whole h0 h]
    rfl
  have HL := Lib.hid (fun w => Ldexp_w f e w h0 h he (by omega))
  have HLT := Lib.hid (rungOf_lt h0 h he (by omega))
  have HBL := Lib.hid (fun w => len64 f w (by unfold W64; omega))
  obtain ⟨b, hb⟩ : ∃ b, b = blen f := ⟨_, rfl⟩
  rw [← hb] at HBL he2 hbl
  have hb1 : 1 ≤ b := by omega
  have hb2 : b ≤ 53 := by omega
  clear hb hbl hl
  generalize rungOf f 0 = V at HL c1 ⊢
  generalize rungOf f e = R at HL HLT ⊢
  have f0 : ((f : Int) == 0) = false := by simp; omega
  have f1 : ((f : Int) != 0) = true := by simp; omega
  have f2 : ((f : Int) % 2 == 0) = false := by simp; omega
  clear h0 ho h
  cases s
  · go_enter Tryz.func150, Tryz.ntmps150
    go_wp2_with fail
    refine (HBL.out _).mono ?_
    rintro e w' ⟨rfl, rfl⟩
    go_wp2_with fail
    refine (HL.out _).mono ?_
    rintro e w' ⟨rfl, rfl⟩
    go_wp2_with fail
    go_ret2
    exact ⟨rfl, below1 ..⟩
  · go_enter Tryz.func150, Tryz.ntmps150
    go_wp2_with fail
    refine (HBL.out _).mono ?_
    rintro e w' ⟨rfl, rfl⟩
    go_wp2_with fail
    refine (HL.out _).mono ?_
    rintro e w' ⟨rfl, rfl⟩
    go_wp2_with fail
    refine (copysign_w R _ (by have := HLT.out; omega)).mono ?_
    rintro e w' ⟨rfl, rfl⟩
    go_wp2_with fail
    go_ret2
    exact ⟨rfl, below1 ..⟩

end Go.Proofs.YtjokpfgncmdomaaGreatDoor

/- bits.Next of the greatest floats: the walks; a rung of its parts -/
namespace Go.Proofs.YtjokpfgncmdomaaGreatDoor
open Go.RowKit Go.Sort

theorem rung_parts {size k : Nat} {last : Int} (h0 : size ≠ 0) (h : size ≤ 2 ^ 53) (hd : size / 2 ^ k * 2 ^ k = size) (hk : size / 2 ^ k < 2 ^ 53) (hl : -1074 ≤ last) (hn : last = -1074 ∨ 2 ^ 52 ≤ size) :
    rungOf (size / 2 ^ k) (last + k) = (last + 1074).toNat * 2 ^ 52 + size := by
  obtain ⟨f, hf⟩ : ∃ f, f = size / 2 ^ k := ⟨_, rfl⟩
  rw [← hf] at hd hk ⊢
  have f0 : f ≠ 0 := fun e => by rw [e] at hd; omega
  have hlog : size.log2 = f.log2 + k := by rw [← hd]; exact log2_mul_pow f0 k
  by_cases h53 : size < 2 ^ 53
  · have h1 := log_lt h0 h53
    have hq : lastP f (last + k) = last := by
      unfold lastP
      rcases hn with e | e
      · omega
      · have : ¬ size.log2 < 52 := fun h3 => by have := (Nat.log2_lt h0).1 h3; omega
        omega
    unfold rungOf
    rw [hq, show (last + (k : Int) - last).toNat = k by omega, hd]
  · have e53 : size = 2 ^ 53 := by omega
    have h1 : size.log2 = 53 := by rw [e53]; exact Nat.log2_two_pow
    have hk1 : 1 ≤ k := by
      rcases Nat.eq_zero_or_pos k with e | e
      · rw [e] at hd; omega
      · exact e
    have hq : lastP f (last + k) = last + 1 := by unfold lastP; omega
    unfold rungOf
    rw [hq, show (last + (k : Int) - (last + 1)).toNat = k - 1 by omega]
    have h2 : f * 2 ^ (k - 1) = 2 ^ 52 := by
      have h3 : f * 2 ^ (k - 1) * 2 = 2 ^ 53 := by rw [Nat.mul_assoc, ← Nat.pow_succ, show (k - 1).succ = k by omega, hd, e53]
      omega
    rw [h2, e53]
    omega

set_option maxRecDepth 100000 in
set_option maxHeartbeats 4000000 in
theorem next_max (w : World) : Calls Tryz.prog 151 #[.float .f64 9218868437227405311, .bool true] w fun e w' => e = .returned (.float .f64 9218868437227405312) ∧ Below w.heap.size w w' := by
  have hd := run_f64bits
  have hd2 := run_f64from
  have hP : Calls Tryz.prog 170 #[.float .f64 9218868437227405311] w fun e w' => e = .returned (.tuple #[.int .i64 9218868437227405311, .bool true]) ∧ w = w' := by
    have o1 : (FloatKind.f64.format.order 9218868437227405311 9218868437227405311 != some Ordering.eq) = false := by decide +kernel
    have o2 : (FloatKind.f64.format.order 9218868437227405311 0 == some Ordering.lt) = false := by decide +kernel
    go_enter Tryz.func170, Tryz.ntmps170
    go_wp2_with fail
    refine (abs_f 9218868437227405311 w (by decide)).mono ?_
    rintro e w' ⟨rfl, rfl⟩
    go_wp2_with fail
    go_ret2
    exact ⟨rfl, rfl⟩
  have hA : Calls Tryz.prog 171 #[.int .i64 9218868437227405312] w fun e w' => e = .returned (.tuple #[.float .f64 9218868437227405312, .bool true]) ∧ w = w' := by
    go_enter Tryz.func171, Tryz.ntmps171
    go_wp2_with fail
    go_ret2
    exact ⟨rfl, rfl⟩
  have HP := Lib.hid hP
  have HA := Lib.hid hA
  clear hP hA
  go_enter Tryz.func151, Tryz.ntmps151
  go_wp2_with fail
  refine HP.out.mono ?_
  rintro e w' ⟨rfl, rfl⟩
  go_wp2_with fail
  refine HA.out.mono ?_
  rintro e w' ⟨rfl, rfl⟩
  go_wp2_with fail
  go_ret
  exact ⟨rfl, .refl _ _⟩
set_option maxRecDepth 100000 in
set_option maxHeartbeats 4000000 in
theorem next_min (w : World) : Calls Tryz.prog 151 #[.float .f64 18442240474082181119, .bool false] w fun e w' => e = .returned (.float .f64 18442240474082181120) ∧ Below w.heap.size w w' := by
  have hd := run_f64bits
  have hd2 := run_f64from
  have hP : Calls Tryz.prog 170 #[.float .f64 18442240474082181119] w fun e w' => e = .returned (.tuple #[.int .i64 (-9218868437227405311), .bool true]) ∧ w = w' := by
    have o1 : (FloatKind.f64.format.order 18442240474082181119 18442240474082181119 != some Ordering.eq) = false := by decide +kernel
    have o2 : (FloatKind.f64.format.order 18442240474082181119 0 == some Ordering.lt) = true := by decide +kernel
    go_enter Tryz.func170, Tryz.ntmps170
    go_wp2_with fail
    refine (abs_f 18442240474082181119 w (by decide)).mono ?_
    rintro e w' ⟨rfl, rfl⟩
    go_wp2_with fail
    go_ret2
    exact ⟨rfl, rfl⟩
  have hA : Calls Tryz.prog 171 #[.int .i64 (-9218868437227405312)] w fun e w' => e = .returned (.tuple #[.float .f64 18442240474082181120, .bool true]) ∧ w = w' := by
    have b5 : ∀ w, (Op.unary .neg (.float .f64 9218868437227405312)).run Tryz.prog w = .ok (.float .f64 18442240474082181120) w := fun w => by
      show (pure (Value.float .f64 (Op.negFloat .f64 9218868437227405312)) : Sem Value).run Tryz.prog w = _
      rw [show Op.negFloat .f64 9218868437227405312 = 18442240474082181120 by decide +kernel]
      rfl
    go_enter Tryz.func171, Tryz.ntmps171
    go_wp2_with fail
    go_ret2
    exact ⟨rfl, rfl⟩
  have HP := Lib.hid hP
  have HA := Lib.hid hA
  clear hP hA
  go_enter Tryz.func151, Tryz.ntmps151
  go_wp2_with fail
  refine HP.out.mono ?_
  rintro e w' ⟨rfl, rfl⟩
  go_wp2_with fail
  refine HA.out.mono ?_
  rintro e w' ⟨rfl, rfl⟩
  go_wp2_with fail
  go_ret
  exact ⟨rfl, .refl _ _⟩

end Go.Proofs.YtjokpfgncmdomaaGreatDoor
