import Derived.Test.YtjokpfgncmdomaaGreatDoorX01
import Derived.Lib.EndianBits
import Derived.ProofKit
set_option linter.unusedSimpArgs false
set_option linter.unusedVariables false
/-
  A region that draws its order, by an invariant: J is shown behind each operation, whichever came before.
-/
namespace Go.Proofs.YtjokpfgncmdomaaGreatDoor
open Go.RowKit Go.Sort

section
variable {P : Program} {ops : Array Oper} {md : Region.Mode} {Q : Exit → Act → World → Prop}

def unl (listed : Array Bool) (n : Nat) : Nat := (List.range n).countP fun i => !listed.getD i false
theorem unl_set {listed : Array Bool} {n i : Nat} (hi : i < n) (hs : i < listed.size) (hu : listed.getD i false = false) : unl (listed.setIfInBounds i true) n < unl listed n := by
  unfold unl
  have h1 : ∀ j, (!(listed.setIfInBounds i true).getD j false) = true → (!listed.getD j false) = true := by
    intro j h
    by_cases e : i = j
    · subst e; rw [hu]; rfl
    · rw [getDf_set_ne e] at h; exact h
  have hself : (listed.setIfInBounds i true).getD i false = true := by simp [hs]
  clear hs
  induction n with
  | zero => omega
  | succ n ih =>
    rw [List.range_succ, List.countP_append, List.countP_append]
    by_cases e : i = n
    · subst e
      have h2 : (List.range i).countP (fun j => !(listed.setIfInBounds i true).getD j false) ≤ (List.range i).countP (fun j => !listed.getD j false) := List.countP_mono_left fun j _ h => h1 j h
      have e1 : [i].countP (fun j => !(listed.setIfInBounds i true).getD j false) = 0 := by simp only [List.countP_singleton, hself]; rfl
      have e2 : [i].countP (fun j => !listed.getD j false) = 1 := by simp only [List.countP_singleton, hu]; rfl
      omega
    · have h2 := ih (by omega)
      have h3 : [n].countP (fun j => !(listed.setIfInBounds i true).getD j false) = [n].countP (fun j => !listed.getD j false) := by
        simp only [List.countP_singleton, getDf_set_ne e]
      omega
theorem unl_zero {listed : Array Bool} {n : Nat} (h : unl listed n = 0) {i : Nat} (hi : i < n) : listed.getD i false = true := by
  unfold unl at h
  rw [List.countP_eq_zero] at h
  have := h i (List.mem_range.2 hi)
  simpa using this

theorem wpAny_inv (J : Array Bool → Act → World → Prop)
    (hstep : ∀ listed a w, listed.size = ops.size → Closed md ops listed → J listed a w → ∀ i ∈ Region.ready md ops listed, wpOp P ops Q i (fun a' w' => J (listed.setIfInBounds i true) a' w') a w)
    (hend : ∀ listed a w, listed.size = ops.size → Region.ready md ops listed = [] → J listed a w → Q .normal a w) :
    ∀ (f : Nat) (listed : Array Bool) (a : Act) (w : World), listed.size = ops.size → Closed md ops listed → unl listed ops.size ≤ f → J listed a w → wpAny P md ops Q f listed a w := by
  intro f
  induction f with
  | zero =>
    intro listed a w hs hcl hf hJ
    have hr : Region.ready md ops listed = [] := by
      cases hl : Region.ready md ops listed with
      | nil => rfl
      | cons i is =>
        have hi : i ∈ Region.ready md ops listed := by rw [hl]; exact List.mem_cons_self
        obtain ⟨hu, o, ho, _⟩ := mem_ready.1 hi
        have hlt := (Array.getElem?_eq_some_iff.1 ho).1
        have h1 := unl_zero (Nat.eq_zero_of_le_zero hf) hlt
        rw [getD_both hu] at h1
        cases h1
    exact ⟨hr, hend listed a w hs hr hJ⟩
  | succ f ih =>
    intro listed a w hs hcl hf hJ
    refine ⟨fun hr => hend listed a w hs hr hJ, fun i hi => ?_⟩
    obtain ⟨hu, o, ho, _⟩ := mem_ready.1 hi
    have hlt := (Array.getElem?_eq_some_iff.1 ho).1
    refine wpOp_mono (fun a' w' h' => ih _ a' w' (by simpa using hs) (hcl.set hi) ?_ h') (hstep listed a w hs hcl hJ i hi)
    have h5 := unl_set (listed := listed) hlt (hs.symm ▸ hlt) (by rw [getD_both hu])
    omega

theorem wp_region_inv {id : Nat} {a : Act} {w : World} (J : Array Bool → Act → World → Prop) (hm : P.follows .mixedOrders = true)
    (h0 : J (Array.replicate ops.size false) a w.drew)
    (hstep : ∀ listed a w, listed.size = ops.size → Closed .any ops listed → J listed a w → ∀ i ∈ Region.ready .any ops listed, wpOp P ops Q i (fun a' w' => J (listed.setIfInBounds i true) a' w') a w)
    (hend : ∀ listed a w, listed.size = ops.size → Region.ready .any ops listed = [] → J listed a w → Q .normal a w) : (Code.region id ops true).wp P Q a w :=
  wp_region_any hm (wpAny_inv J hstep hend _ _ _ _ (by simp) (fun j oj _ hl => by rw [getD_replicate_false] at hl; cases hl) (by
    unfold unl
    exact Nat.le_trans List.countP_le_length (by simp)) h0)

theorem closed_not {listed : Array Bool} (hc : Closed md ops listed) {c i : Nat} (f : Nat) (hr : reachG md ops f c i = true) (hi : listed.getD i false = false) : listed.getD c false = false := by
  cases hl : listed.getD c false with
  | false => rfl
  | true =>
    obtain ⟨k, hk, hkl⟩ := reachG_spec hc hi f c hr
    obtain ⟨oc, hoc, e, he, hb, hon⟩ := Region.waitsFor_spec hk
    have h3 := hc c oc hoc hl e he hb
    rw [hon, hkl] at h3
    cases h3
theorem closed_dep {listed : Array Bool} (hc : Closed md ops listed) {c i : Nat} (f : Nat) (hr : reachG md ops f c i = true) (hl : listed.getD c false = true) : listed.getD i false = true := by
  cases hi : listed.getD i false with
  | true => rfl
  | false =>
    have := closed_not hc f hr hi
    rw [hl] at this
    cases this
theorem getDf_set_self {listed : Array Bool} {i : Nat} (h : i < listed.size) : (listed.setIfInBounds i true).getD i false = true := by simp [h]
/-- has operation i come up? -/
def lst (listed : Array Bool) (i : Nat) : Bool := listed.getD i false
theorem lst_ne {listed : Array Bool} {i j : Nat} (h : i ≠ j) : lst (listed.setIfInBounds i true) j = lst listed j := getDf_set_ne h
theorem lst_self {listed : Array Bool} {i : Nat} (h : i < listed.size) : lst (listed.setIfInBounds i true) i = true := getDf_set_self h
/-- a slot that an operation fills -/
def iv (c : Bool) (v u : Value) : Value := if c then v else u
theorem iv_true (v u : Value) : iv true v u = v := rfl
theorem iv_false (v u : Value) : iv false v u = u := rfl

/-- one operation of the region: what it waits for has come up, itself not yet -/
theorem inv_step {J : Array Bool → Act → World → Prop} {listed : Array Bool} {a : Act} {w : World} {i : Nat} (hi : i ∈ Region.ready md ops listed)
    (h : ∀ o, ops[i]? = some o → listed.getD i false = false → (∀ e ∈ o.after, Region.binds md e = true → listed.getD e.on false = true) → wpOp P ops Q i (fun a' w' => J (listed.setIfInBounds i true) a' w') a w) :
    wpOp P ops Q i (fun a' w' => J (listed.setIfInBounds i true) a' w') a w := by
  obtain ⟨hu, o, ho, hall⟩ := mem_ready.1 hi
  exact h o ho (by rw [getD_both hu]) hall
theorem inv_deps {J : Array Bool → Act → World → Prop} {listed : Array Bool} {a : Act} {w : World} {i : Nat} (hi : i ∈ Region.ready md ops listed)
    (h : listed.getD i false = false → (∀ k, Region.waitsFor md ops i k = true → listed.getD k false = true) → wpOp P ops Q i (fun a' w' => J (listed.setIfInBounds i true) a' w') a w) :
    wpOp P ops Q i (fun a' w' => J (listed.setIfInBounds i true) a' w') a w := by
  obtain ⟨hu, o, ho, hall⟩ := mem_ready.1 hi
  refine h (by rw [getD_both hu]) fun k hk => ?_
  obtain ⟨o', ho', e, he, hb, hon⟩ := Region.waitsFor_spec hk
  obtain rfl : o' = o := Option.some.inj (ho'.symm.trans ho)
  rw [← hon]
  exact hall e he hb
def monoB (md : Region.Mode) (ops : Array Oper) : Bool := (List.range ops.size).all fun i => match ops[i]? with
  | some o => o.after.all fun e => !Region.binds md e || decide (e.on < i)
  | none => true
theorem all_listed {listed : Array Bool} (hs : listed.size = ops.size) (hr : Region.ready md ops listed = []) (f : monoB md ops = true) : ∀ i, i < ops.size → listed.getD i false = true := by
  intro i
  induction i using Nat.strongRecOn with
  | _ i ih =>
    intro hi
    cases hl : listed.getD i false with
    | true => rfl
    | false =>
      exfalso
      have hmem : i ∈ Region.ready md ops listed := by
        refine mem_ready.2 ⟨?_, _, Array.getElem?_eq_getElem hi, fun e he hb => ?_⟩
        · have : i < listed.size := by omega
          simp [this] at hl ⊢
          exact hl
        · have h1 := List.all_eq_true.1 f i (List.mem_range.2 hi)
          rw [Array.getElem?_eq_getElem hi] at h1
          simp only [Array.all_eq_true'] at h1
          have h2 := h1 e he
          rw [hb] at h2
          have h3 : e.on < i := by simpa using h2
          exact ih e.on h3 (by omega)
      rw [hr] at hmem
      cases hmem
theorem inv_op {J : Array Bool → Act → World → Prop} {listed : Array Bool} {a : Act} {w : World} {i : Nat} {o : Oper} (ho : ops[i]? = some o)
    (h : ∀ K' : Act → World → Prop, Shut (∀ a w, J (listed.setIfInBounds i true) a w → K' a w) → if Region.wanted o (yielded ops a.tmps) = true then Oper.wp P o a w K' Q else K' (a.put o.dst undef) w) :
    wpOp P ops Q i (fun a' w' => J (listed.setIfInBounds i true) a' w') a w :=
  wpOp_step ho (fun K' hK => h K' (fun a w hS => hK a w hS))
end

end Go.Proofs.YtjokpfgncmdomaaGreatDoor

/- numbers in words of 32 bits -/
namespace Go.Proofs.YtjokpfgncmdomaaGreatDoor

/-- a word's cell -/
abbrev Wc (x : Nat) : List Value := [.int .u32 (x : Int)]
theorem Wc.clen (x : Nat) : (Wc x).length = 1 := rfl
abbrev W32 : Nat := 4294967296
def nv : List Nat → Nat
  | [] => 0
  | x :: r => x + W32 * nv r
def Wds (ws : List Nat) : Prop := ∀ x ∈ ws, x < W32
def digF : Nat → Nat → List Nat
  | 0, _ => []
  | f + 1, N => if N = 0 then [] else N % W32 :: digF f (N / W32)
/-- the words of a number, none above the highest that is not 0 -/
def dig (N : Nat) : List Nat := digF N N
def isDig (ws : List Nat) : Prop := Wds ws ∧ ∀ h : ws ≠ [], ws.getLast h ≠ 0

theorem nv_nil : nv [] = 0 := rfl
theorem nv_append (a b : List Nat) : nv (a ++ b) = nv a + W32 ^ a.length * nv b := by
  induction a with
  | nil => simp [nv]
  | cons x a ih =>
    simp only [List.cons_append, nv, ih, List.length_cons, Nat.pow_succ, Nat.mul_add, Nat.add_assoc]
    rw [Nat.mul_comm (W32 ^ a.length) W32, Nat.mul_assoc]
theorem Wds.tail {x : Nat} {r : List Nat} (h : Wds (x :: r)) : Wds r := fun y hy => h y (List.mem_cons_of_mem _ hy)
theorem Wds.head {x : Nat} {r : List Nat} (h : Wds (x :: r)) : x < W32 := h x List.mem_cons_self
theorem Wds.append {a b : List Nat} (ha : Wds a) (hb : Wds b) : Wds (a ++ b) := fun y hy => (List.mem_append.1 hy).elim (ha y) (hb y)
theorem Wds.take {a : List Nat} (ha : Wds a) (n : Nat) : Wds (a.take n) := fun y hy => ha y (List.mem_of_mem_take hy)
theorem Wds.drop {a : List Nat} (ha : Wds a) (n : Nat) : Wds (a.drop n) := fun y hy => ha y (List.mem_of_mem_drop hy)
theorem Wds.get {a : List Nat} (ha : Wds a) {i x : Nat} (h : a[i]? = some x) : x < W32 := ha x (List.mem_of_getElem? h)
theorem nv_lt : ∀ {ws : List Nat}, Wds ws → nv ws < W32 ^ ws.length
  | [], _ => by simp [nv]
  | x :: r, h => by
    have h1 := nv_lt h.tail
    have h2 := h.head
    simp only [nv, List.length_cons, Nat.pow_succ]
    have h3 : W32 * nv r + W32 ≤ W32 * W32 ^ r.length := by
      rw [← Nat.mul_succ]
      exact Nat.mul_le_mul_left _ h1
    rw [Nat.mul_comm (W32 ^ r.length) W32]
    omega
theorem digF_nv : ∀ (f N : Nat), N ≤ f → nv (digF f N) = N
  | 0, N, h => by simp [digF, nv]; omega
  | f + 1, N, h => by
    unfold digF
    split
    · rename_i e; rw [e]; rfl
    · have h2 : N / W32 ≤ f := by
        have : N / W32 < N := Nat.div_lt_self (by omega) (by decide)
        omega
      rw [nv, digF_nv f _ h2]
      exact Nat.mod_add_div N W32
theorem nv_dig (N : Nat) : nv (dig N) = N := digF_nv N N (Nat.le_refl _)
theorem digF_wds : ∀ (f N : Nat), Wds (digF f N)
  | 0, N => fun x h => by simp [digF] at h
  | f + 1, N => by
    unfold digF
    split
    · intro x h; simp at h
    · intro x h
      rcases List.mem_cons.1 h with rfl | h
      · exact Nat.mod_lt _ (by decide)
      · exact digF_wds f _ x h
theorem dig_wds (N : Nat) : Wds (dig N) := digF_wds N N
theorem digF_nil {f N : Nat} (hf : N ≤ f) (h : digF f N = []) : N = 0 := by
  have := digF_nv f N hf
  rw [h] at this
  exact this.symm
theorem digF_last : ∀ (f N : Nat), N ≤ f → ∀ h : digF f N ≠ [], (digF f N).getLast h ≠ 0
  | 0, N, _, h => absurd rfl h
  | f + 1, N, hN, h => by
    have h0 : N ≠ 0 := by rintro rfl; simp [digF] at h
    have e : digF (f + 1) N = N % W32 :: digF f (N / W32) := by rw [digF, if_neg h0]
    have hlt : N / W32 ≤ f := by
      have : N / W32 < N := Nat.div_lt_self (by omega) (by decide)
      omega
    simp only [e]
    by_cases hn : digF f (N / W32) = []
    · simp only [hn, List.getLast_singleton]
      have h1 := digF_nil hlt hn
      have h2 := Nat.mod_add_div N W32
      rw [h1] at h2
      omega
    · rw [List.getLast_cons hn]
      exact digF_last f _ hlt hn
theorem dig_isDig (N : Nat) : isDig (dig N) := ⟨dig_wds N, fun h => digF_last N N (Nat.le_refl _) h⟩

/-- words that are trimmed are told by their number -/
theorem isDig_pos {ws : List Nat} (h : isDig ws) (hne : ws ≠ []) : W32 ^ (ws.length - 1) ≤ nv ws := by
  have e := List.dropLast_concat_getLast hne
  rw [← e, nv_append]
  have h1 : ws.dropLast.length = ws.length - 1 := by simp
  have h2 : (ws.dropLast ++ [ws.getLast hne]).length - 1 = ws.length - 1 := by simp
  rw [h2, h1]
  have h3 := h.2 hne
  simp only [nv]
  have : W32 ^ (ws.length - 1) * 1 ≤ W32 ^ (ws.length - 1) * (ws.getLast hne + W32 * 0) := Nat.mul_le_mul_left _ (by omega)
  omega
theorem isDig_zero {ws : List Nat} (h : isDig ws) (h0 : nv ws = 0) : ws = [] := by
  by_cases hne : ws = []
  · exact hne
  · have h1 := isDig_pos h hne
    have h2 : 0 < W32 ^ (ws.length - 1) := Nat.pow_pos (by decide)
    omega
theorem isDig.tail {x : Nat} {r : List Nat} (h : isDig (x :: r)) : isDig r := ⟨h.1.tail, fun hn => by have := h.2 (by simp); rwa [List.getLast_cons hn] at this⟩
theorem isDig_unique : ∀ {a b : List Nat}, isDig a → isDig b → nv a = nv b → a = b
  | [], b, _, hb, h => (isDig_zero hb h.symm).symm
  | a, [], ha, _, h => isDig_zero ha h
  | x :: a, y :: b, ha, hb, h => by
    have hx := ha.1.head
    have hy := hb.1.head
    simp only [nv] at h
    have e1 : x = y := by
      have h1 : (x + W32 * nv a) % W32 = (y + W32 * nv b) % W32 := by rw [h]
      rw [Nat.add_mul_mod_self_left, Nat.add_mul_mod_self_left, Nat.mod_eq_of_lt hx, Nat.mod_eq_of_lt hy] at h1
      exact h1
    subst e1
    have e2 : nv a = nv b := Nat.eq_of_mul_eq_mul_left (show 0 < W32 by decide) (by omega)
    rw [isDig_unique ha.tail hb.tail e2]
theorem dig_unique {ws : List Nat} (h : isDig ws) : ws = dig (nv ws) := isDig_unique h (dig_isDig _) (nv_dig _).symm

end Go.Proofs.YtjokpfgncmdomaaGreatDoor

/- trim, twin, words, plain: the walks -/
namespace Go.Proofs.YtjokpfgncmdomaaGreatDoor
open Go.RowKit Go.Sort

theorem take_zero_last {ws : List Nat} {k : Nat} (h : ws[k]? = some 0) : nv (ws.take (k + 1)) = nv (ws.take k) := by
  obtain ⟨hl, e⟩ := List.getElem?_eq_some_iff.1 h
  rw [List.take_succ_eq_append_getElem hl, nv_append, e]
  simp [nv]
theorem take_isDig {ws : List Nat} {k x : Nat} (hw : Wds ws) (h : ws[k]? = some x) (hx : x ≠ 0) : isDig (ws.take (k + 1)) := by
  obtain ⟨hl, e⟩ := List.getElem?_eq_some_iff.1 h
  refine ⟨hw.take _, fun hn => ?_⟩
  have : (ws.take (k + 1)).getLast hn = x := by
    simp only [List.take_succ_eq_append_getElem hl, e, List.getLast_append, List.getLast_singleton]; simp
  rw [this]
  exact hx

theorem hw0 {ws : List Nat} (h : Wds ws) {i x : Nat} (hx : ws[i]? = some x) : x < 4294967296 := h.get hx

theorem trim_any (A : Option Addr) (n c : Nat) (ws : List Nat) (S : Nat → Prop) (w : World) (hx : RdE Wc 1 w S A n ws) (hw : Wds ws) (hS : ∀ b, S b → b < w.heap.size) (hn : n ≤ 1000000000000) (hnc : n ≤ c) :
    Calls Tryz.prog 138 #[.slice A n c] w fun e w' => ∃ k, e = .returned (.slice A k c) ∧ k ≤ n ∧ ws.take k = dig (nv ws) ∧ Below w.heap.size w w' := by
  have HX := Lib.hid hx
  have HW := Lib.hid hw
  have HS := Lib.hid hS
  clear hx hw hS
  go_enter Tryz.func138, Tryz.ntmps138
  go_wp2_with fail
  go_loop [3] (fun i => ∃ k : Nat, k ≤ n ∧ i = .int .i64 k ∧ nv (ws.take k) = nv ws) (fun i => (intOf i).toNat)
  case atStart => exact ⟨n, Nat.le_refl _, rfl, by rw [List.take_of_length_le (by rw [HX.out.num]; exact Nat.le_refl _)]⟩
  case round =>
    obtain ⟨k, hk, rfl, hv⟩ := hrel
    have HV := Lib.hid hv
    clear hv
    by_cases h0 : k = 0
    · subst h0
      go_wp2_with fail
      go_ret
      have e : nv ws = 0 := by rw [← HV.out]; rfl
      exact ⟨0, rfl, Nat.zero_le _, by rw [e]; rfl, Below.refl _ _⟩
    · obtain ⟨j, rfl⟩ : ∃ j, k = j + 1 := ⟨k - 1, by omega⟩
      obtain ⟨x, hx⟩ := get_some HX.out.num (show j < n by omega)
      obtain ⟨b, o, rfl, hSb, hc⟩ := HX.out.elem Wc.clen hx (by omega)
      have q0 : w.cell? ⟨b, o + j, none⟩ = some (.int .u32 (x : Int)) := by have h := hc 0 _ rfl; rw [Nat.mul_one, Nat.add_zero] at h; exact h
      have HXX := Lib.hid hx
      clear hx hc
      by_cases hz : x = 0
      · subst hz
        go_wp2_with fail
        go_round
        case rel => exact ⟨j, by omega, by go_num, by rw [← take_zero_last HXX.out]; exact HV.out⟩
        case measure => simp [intOf]
      · have hz1 : ((x : Int) == 0) = false := by simp; omega
        have HZ := Lib.hid hz
        clear hz
        go_wp2_with fail
        go_ret
        exact ⟨j + 1, rfl, by omega, by rw [← HV.out]; exact dig_unique (take_isDig HW.out HXX.out HZ.out), Below.refl _ _⟩

def pl (ws : List Nat) : Nat := ws.getD 0 0 + W32 * ws.getD 1 0
theorem plain_any (A : Option Addr) (n c : Nat) (ws : List Nat) (S : Nat → Prop) (w : World) (hx : RdE Wc 1 w S A n ws) (hw : Wds ws) :
    Calls Tryz.prog 140 #[.slice A n c] w fun e w' => e = .returned (.int .u64 (pl ws)) ∧ w = w' := by
  have HX := Lib.hid hx
  have HW := Lib.hid hw
  clear hx hw
  by_cases h0 : n = 0
  · subst h0
    have hn : ws = [] := List.eq_nil_of_length_eq_zero HX.out.num
    subst hn
    go_enter Tryz.func140, Tryz.ntmps140
    go_wp2_with fail
    go_ret
    exact ⟨rfl, rfl⟩
  · obtain ⟨x, hx⟩ := get_some HX.out.num (show 0 < n by omega)
    obtain ⟨b, o, rfl, hSb, hc⟩ := HX.out.elem Wc.clen hx (by omega)
    have q0 : w.cell? ⟨b, o, none⟩ = some (.int .u32 (x : Int)) := hc 0 _ rfl
    have hxl := hw0 HW.out hx
    have HXX := Lib.hid hx
    clear hx hc
    by_cases h1 : n = 1
    · subst h1
      go_enter Tryz.func140, Tryz.ntmps140
      go_wp2_with fail
      go_ret
      have e : ws.getD 1 0 = 0 := by simp [List.getD, List.getElem?_eq_none (show ws.length ≤ 1 by rw [HX.out.num]; omega)]
      have e0 : ws.getD 0 0 = x := by simp [List.getD, HXX.out]
      exact ⟨by rw [pl, e, e0]; rfl, rfl⟩
    · obtain ⟨y, hy⟩ := get_some HX.out.num (show 1 < n by omega)
      obtain ⟨b', o', e', _, hc'⟩ := HX.out.elem Wc.clen hy (by omega)
      cases e'
      have q1 : w.cell? ⟨b, o + 1, none⟩ = some (.int .u32 (y : Int)) := hc' 0 _ rfl
      have hyl := hw0 HW.out hy
      have HYY := Lib.hid hy
      clear hy hc'
      go_enter Tryz.func140, Tryz.ntmps140
      go_wp2_with fail
      go_ret
      have e1 : ws.getD 1 0 = y := by simp [List.getD, HYY.out]
      have e0 : ws.getD 0 0 = x := by simp [List.getD, HXX.out]
      refine ⟨?_, rfl⟩
      show Ending.returned (Value.int .u64 (bits .or .u64 (x : Int) ((y : Int) * 4294967296))) = _
      rw [u64_or32 _ _ (by omega) (by omega) (by omega) (by omega) (by omega), pl, e1, e0]
      congr 2
      show (x : Int) + y * 4294967296 = ((x + 4294967296 * y : Nat) : Int)
      omega

theorem words_any (x : Nat) (w : World) (hx : x < 18446744073709551616) :
    Calls Tryz.prog 137 #[.int .u64 x] w fun e w' => ∃ A c, e = .returned (.slice A (dig x).length c) ∧ (dig x).length ≤ c ∧ RdE Wc 1 w' (fun b => w.heap.size ≤ b ∧ b < w'.heap.size) A (dig x).length (dig x) ∧ Below w.heap.size w w' := by
  have i1 := trim_any
  have I1 := Lib.hid i1
  clear i1
  go_enter Tryz.func137, Tryz.ntmps137
  go_wp2_with fail
  have hlt : x / W32 < W32 := by show x / 4294967296 < 4294967296; omega
  have hnv : nv [x % W32, x / W32] = x := by
    show x % W32 + W32 * (x / W32 + W32 * 0) = x
    rw [Nat.mul_zero, Nat.add_zero]
    exact Nat.mod_add_div x W32
  have hrd : RdE Wc 1 (w.alloc (.cells #[.int .u32 ((x : Int) % 4294967296), .int .u32 ((x : Int) / 4294967296)] 119)) (fun b => b = w.heap.size) (some ⟨w.heap.size, 0, none⟩) 2 [x % W32, x / W32] := rde_blk (f := Wc) (n := 2) (size := 1) (S := fun b => b = w.heap.size) (xs := [x % W32, x / W32]) (blk_new w #[.int .u32 ((x : Int) % 4294967296), .int .u32 ((x : Int) / 4294967296)] 119) rfl rfl rfl rfl
  have hwd : Wds [x % W32, x / W32] := by
    intro y hy
    simp only [List.mem_cons, List.not_mem_nil, or_false] at hy
    rcases hy with rfl | rfl
    · exact Nat.mod_lt _ (by decide)
    · exact hlt
  refine (I1.out _ 2 2 [x % W32, x / W32] _ _ hrd hwd (fun b hb => by rw [hb]; simp) (by omega) (by omega)).mono ?_
  rintro e w1 ⟨k, rfl, hk, htk, hb1⟩
  rw [hnv] at htk
  have hlen : k = (dig x).length := by rw [← htk, List.length_take]; simp; omega
  have hr1 := (hrd.keep (Keeps.below hb1 (fun b hb => by rw [hb]; simp))).take Wc.clen hk
  rw [htk] at hr1
  have hsz := hb1.size
  simp only [World.size_alloc] at hsz
  have HR := Lib.hid (hr1.imp (S' := fun b => w.heap.size ≤ b ∧ b < w1.heap.size) fun b hb => by rw [hb]; omega)
  have HB := Lib.hid (below_then (below1 w _) hb1)
  have HK := Lib.hid hlen
  have hk2 := hk
  clear hr1 hrd hwd hb1 htk hlen hnv
  go_wp2_with fail
  go_ret
  refine ⟨some ⟨w.heap.size, 0, none⟩, 2, ?_, by rw [← HK.out]; exact hk2, ?_, HB.out⟩
  · rw [← HK.out]; rfl
  · rw [← HK.out]; exact HR.out

end Go.Proofs.YtjokpfgncmdomaaGreatDoor

/- twin, add: the walks -/
namespace Go.Proofs.YtjokpfgncmdomaaGreatDoor
open Go.RowKit Go.Sort

theorem info_u32 : (Tryz.prog.info? 119).map (fun i => (i.zero, i.size, i.bytes)) = some (some (.int .u32 0), 1, 4) := by kernel_rfl
theorem info_parts' {i : Option TypeInfo} {z : Value} {s b : Nat} (h : i.map (fun i => (i.zero, i.size, i.bytes)) = some (some z, s, b)) : ∃ j, i = some j ∧ j.zero = some z ∧ j.size = s ∧ j.bytes = b := by
  cases i with
  | none => cases h
  | some j => simp only [Option.map_some, Option.some.injEq, Prod.mk.injEq] at h; exact ⟨j, rfl, h.1, h.2.1, h.2.2⟩
theorem wc_one (xs : List Nat) : ∀ u ∈ xs.flatMap Wc, u.oneCell' = true := by
  intro u hu
  obtain ⟨x, _, hx⟩ := List.mem_flatMap.1 hu
  simp [Wc] at hx
  subst hx
  rfl
theorem below_of_grown3 {w w' : World} {row : Option Nat} (h : w.grownBy w' row) (hr : ∀ g, row = some g → w.heap.size ≤ g) : Below w.heap.size w w' := below_of_grown h hr

theorem made_get (z : List Value) (n : Nat) (j : Nat) (h : j < n) : (madeCells z.toArray n).toList[j]? = some (z.toArray[j % z.length]!) := by
  simp [madeCells, h]
theorem rep_get {α : Type} (f : α → List Value) (size : Nat) (hf : ∀ x, (f x).length = size) (x : α) : ∀ (n j : Nat), j < n * size → 0 < size → ((List.replicate n x).flatMap f)[j]? = (f x)[j % size]?
  | 0, j, h, _ => by omega
  | n + 1, j, h, hs => by
    rw [List.replicate_succ, List.flatMap_cons]
    by_cases h1 : j < size
    · rw [List.getElem?_append_left (by rw [hf]; exact h1), Nat.mod_eq_of_lt h1]
    · rw [List.getElem?_append_right (by rw [hf]; omega), hf, rep_get f size hf x n (j - size) (by rw [Nat.add_mul] at h; omega) hs]
      rw [← Nat.mod_eq_sub_mod (show size ≤ j by omega)]
theorem made_flat {α : Type} (f : α → List Value) (size : Nat) (hf : ∀ x, (f x).length = size) (hs : 0 < size) (x : α) (n : Nat) : (madeCells (f x).toArray (n * size)).toList = (List.replicate n x).flatMap f := by
  apply List.ext_getElem?
  intro j
  by_cases h : j < n * size
  · rw [made_get _ _ _ h, rep_get f size hf x n j h hs, hf]
    have h2 : j % size < (f x).length := by rw [hf]; exact Nat.mod_lt _ hs
    rw [List.getElem?_eq_getElem h2]
    simp [h2]
  · rw [List.getElem?_eq_none (by simp [madeCells]; omega), List.getElem?_eq_none (by rw [flat_len f size hf]; simp; omega)]
theorem made_u32 (n : Nat) : (madeCells (Value.int .u32 0).cells (n * 1)).toList = (List.replicate n 0).flatMap Wc := made_flat Wc 1 Wc.clen (by omega) 0 n

theorem twin_any (A : Option Addr) (n c : Nat) (ws : List Nat) (S : Nat → Prop) (w : World) (hx : RdE Wc 1 w S A n ws) (hn : n ≤ 8796093021952) :
    Calls Tryz.prog 134 #[.slice A n c] w fun e w' => ∃ A' c', e = .returned (.slice A' n c') ∧ n ≤ c' ∧ RdE Wc 1 w' (fun b => w.heap.size ≤ b ∧ b < w'.heap.size) A' n ws ∧ Below w.heap.size w w' := by
  obtain ⟨i0, hi0, hz0, hz1, hz2⟩ := info_parts' info_u32
  have HX := Lib.hid hx
  clear hx
  go_enter Tryz.func134, Tryz.ntmps134
  go_wp2_with (at_builtin; go_must (refine wpList_append_rd _ rfl _ _ _ rfl w.heap.size 119 i0 _ 1 4 Tryz.underlying66 hi0 hz0 hz1 hz2 rfl (by omega) (.slice none 0 0) 0 [] rfl (World.ownsRow_nil _ _ _ _) S A n c (ws.flatMap Wc) rfl HX.out.rd (wc_one ws) (by simp only [maxLen]; omega) (by omega) (Nat.le_refl _) ?_); intro v1 w1 hown1 hg1 hat1)
  go_ret
  rw [Nat.zero_add, List.nil_append] at hown1
  obtain ⟨A', c', e, hc', _⟩ := own_slice hown1
  rw [e] at hown1
  exact ⟨A', c', by rw [← e]; rfl, hc', (RdE.of_own Wc.clen (by omega) hown1).imp (fun b h => ⟨h.1, h.2.1⟩), below_of_grown hg1 (by simp [Value.ownBlock])⟩

/-- trim of a row of the caller's own -/
theorem trim_own (base g n c : Nat) (xs : List Nat) (w : World) (h : w.ownsRow base 119 1 (.slice (some ⟨g, 0, none⟩) n c) n (xs.flatMap Wc)) (hw : Wds xs) (hn : n ≤ 1000000000000) (hnc : n ≤ c) :
    Calls Tryz.prog 138 #[.slice (some ⟨g, 0, none⟩) n c] w fun e w' => e = .returned (.slice (some ⟨g, 0, none⟩) (dig (nv xs)).length c) ∧ (dig (nv xs)).length ≤ c ∧
      RdE Wc 1 w' (fun b => base ≤ b ∧ b < w'.heap.size) (some ⟨g, 0, none⟩) (dig (nv xs)).length (dig (nv xs)) ∧ Below w.heap.size w w' := by
  have hr := RdE.of_own Wc.clen (by omega) h
  refine (trim_any (some ⟨g, 0, none⟩) n c xs _ w hr hw (fun b hb => hb.2.1) hn hnc).mono ?_
  rintro e w' ⟨k, rfl, hk, htk, hb⟩
  have hlen : k = (dig (nv xs)).length := by rw [← htk, List.length_take, hr.num]; omega
  have hr1 := (hr.keep (Keeps.below hb (fun b hb => hb.2.1))).take Wc.clen hk
  rw [htk] at hr1
  have hz := hb.size
  refine ⟨by rw [← hlen], by omega, ?_, hb⟩
  rw [← hlen]
  exact hr1.imp fun b hb => ⟨hb.1, by omega⟩

end Go.Proofs.YtjokpfgncmdomaaGreatDoor

/- add: the walk -/
namespace Go.Proofs.YtjokpfgncmdomaaGreatDoor
open Go.RowKit Go.Sort

theorem nv_take_succ {ws : List Nat} {k x : Nat} (h : ws[k]? = some x) : nv (ws.take (k + 1)) = nv (ws.take k) + W32 ^ k * x := by
  obtain ⟨hl, e⟩ := List.getElem?_eq_some_iff.1 h
  rw [List.take_succ_eq_append_getElem hl, nv_append, e, List.length_take, Nat.min_eq_left (by omega)]
  simp [nv]
theorem nv_set_take {xs : List Nat} {k v : Nat} (h : k < xs.length) : nv ((xs.set k v).take (k + 1)) = nv (xs.take k) + W32 ^ k * v := by
  rw [nv_take_succ (x := v) (by rw [List.getElem?_set_self h]), List.take_set_of_le (Nat.le_refl _)]
theorem wds_set {xs : List Nat} {k v : Nat} (h : Wds xs) (hv : v < W32) : Wds (xs.set k v) := fun x hx => by
  rcases List.mem_or_eq_of_mem_set hx with h1 | rfl
  · exact h x h1
  · exact hv
theorem add_step {xs : List Nat} {k q p x y : Nat} {X Y : Nat} (hl : k < xs.length) (h : nv (xs.take k) + W32 ^ k * q = X + Y) (hp : p = q + x + y) :
    nv ((xs.set k (p % W32)).take (k + 1)) + W32 ^ (k + 1) * (p / W32) = (X + W32 ^ k * x) + (Y + W32 ^ k * y) := by
  rw [nv_set_take hl, Nat.pow_succ, Nat.mul_assoc]
  have h1 : W32 ^ k * (p % W32) + W32 ^ k * (W32 * (p / W32)) = W32 ^ k * p := by rw [← Nat.mul_add, Nat.mod_add_div]
  have h2 : W32 ^ k * p = W32 ^ k * q + W32 ^ k * x + W32 ^ k * y := by rw [hp, Nat.mul_add, Nat.mul_add]
  omega

theorem add_any (A B : Option Addr) (n m c d : Nat) (a b : List Nat) (S S' : Nat → Prop) (w : World) (hx : RdE Wc 1 w S A n a) (hy : RdE Wc 1 w S' B m b) (ha : Wds a) (hb : Wds b) (hS : ∀ b, S b → b < w.heap.size) (hS' : ∀ b, S' b → b < w.heap.size)
    (hn : n ≤ 100000000000) (hm : m ≤ 100000000000) :
    Calls Tryz.prog 136 #[.slice A n c, .slice B m d] w fun e w' => ∃ A' c', e = .returned (.slice A' (dig (nv a + nv b)).length c') ∧ (dig (nv a + nv b)).length ≤ c' ∧ RdE Wc 1 w' (fun b => w.heap.size ≤ b ∧ b < w'.heap.size) A' (dig (nv a + nv b)).length (dig (nv a + nv b)) ∧ Below w.heap.size w w' := by
  obtain ⟨i0, hi0, hz0, hz1, hz2⟩ := info_parts' info_u32
  have HX := Lib.hid hx
  have HY := Lib.hid hy
  have HA := Lib.hid ha
  have HB := Lib.hid hb
  have HS := Lib.hid hS
  have HS' := Lib.hid hS'
  have i1 := trim_any
  have I1 := Lib.hid i1
  clear hx hy ha hb hS hS' i1
  by_cases hnm : n < m
  · go_enter Tryz.func136, Tryz.ntmps136
    go_wp2_with (at_make; go_must (refine wpList_make_full _ rfl _ _ _ rfl w.heap.size 119 i0 _ 1 Tryz.underlying66 hi0 hz0 hz1 .i64 .i64 _ _ (m + 1) rfl rfl (by omega) (by omega) (by rw [hz2]; omega) (by simp only [maxLen]; omega) (Nat.le_refl _) ?_); intro w1 hown1 hg1)
    have hinv : w1.ownsRow w.heap.size 119 1 (.slice (some ⟨w.heap.size, 0, none⟩) (m + 1) (m + 1)) (m + 1) ((List.replicate (m + 1) 0).flatMap Wc) := by
      have h := hown1
      rw [made_u32] at h
      exact h
    have HI := Lib.hid hinv
    have HB1 := Lib.hid (below_of_grown hg1 (fun g hg => by cases hg))
    clear hown1 hg1 hinv
    go_loopw [6, 7] (fun cv i wr => ∃ (k q : Nat) (xs : List Nat), k ≤ m ∧ cv = .int .u64 q ∧ i = .int .i64 k ∧ q < 2 ∧ xs.length = m + 1 ∧ Wds xs ∧ nv (xs.take k) + W32 ^ k * q = nv (b.take k) + nv (a.take k) ∧ wr.ownsRow w.heap.size 119 1 (.slice (some ⟨w.heap.size, 0, none⟩) (m + 1) (m + 1)) (m + 1) (xs.flatMap Wc) ∧ Below w.heap.size w wr) (fun _ i _ => m - (intOf i).toNat)
    case atStart => exact ⟨0, 0, List.replicate (m + 1) 0, Nat.zero_le _, rfl, rfl, by decide, by simp, fun x hx => by rw [(List.mem_replicate.1 hx).2]; decide, by simp [nv], HI.out, HB1.out⟩
    case round =>
      obtain ⟨k, q, xs, hk, rfl, rfl, hq, hxl, hxw, hsum, hown, hbw⟩ := hrel
      by_cases hlt : k < m
      · obtain ⟨x, hx⟩ := get_some HY.out.num hlt
        obtain ⟨b1, o1, rfl, hSb1, hc⟩ := HY.out.elem Wc.clen hx (by omega)
        have q1 : wr.cell? ⟨b1, o1 + k, none⟩ = some (.int .u32 (x : Int)) := by have h := (hbw.cell (p := ⟨b1, _, none⟩) (HS'.out _ hSb1)).trans (hc 0 _ rfl); rw [Nat.mul_one, Nat.add_zero] at h; exact h
        have hxlt := hw0 HB.out hx
        have hf := hown.frozenAt k
        obtain ⟨y0, hy0⟩ := get_some (xs := xs.flatMap Wc) (k := k) hown.1 (by omega)
        have q0 : wr.cell? ⟨w.heap.size, k, none⟩ = some y0 := by rw [hown.cellAt _ (by omega)]; exact hy0
        have HO := Lib.hid hown
        have HBW := Lib.hid hbw
        have HSUM := Lib.hid hsum
        have HXX := Lib.hid hx
        have HXW := Lib.hid hxw
        clear hown hbw hsum hx hc hy0 hxw
        by_cases hkm : k < n
        · obtain ⟨y, hy⟩ := get_some HX.out.num hkm
          obtain ⟨b2, o2, rfl, hSb2, hc2⟩ := HX.out.elem Wc.clen hy (by omega)
          have q2 : wr.cell? ⟨b2, o2 + k, none⟩ = some (.int .u32 (y : Int)) := by have h := (HBW.out.cell (p := ⟨b2, _, none⟩) (HS.out _ hSb2)).trans (hc2 0 _ rfl); rw [Nat.mul_one, Nat.add_zero] at h; exact h
          have hylt := hw0 HA.out hy
          have HYY := Lib.hid hy
          clear hy hc2
          go_wp2_with fail
          have ho1 := HO.out.stored k (.int .u32 (((q + x + y) % W32 : Nat) : Int))
          have hset : (xs.flatMap Wc).set k (.int .u32 (((q + x + y) % W32 : Nat) : Int)) = (xs.set k ((q + x + y) % W32)).flatMap Wc := by
            have h := putAll_flat (f := Wc) (size := 1) Wc.clen ((q + x + y) % W32) xs k (by omega)
            rw [Nat.mul_one] at h
            exact h
          have HO1 := Lib.hid (by have h := ho1.1; rw [hset] at h; exact h)
          have HB2 := Lib.hid (HBW.out.grown ho1.2 (Nat.le_of_lt (HO.out.lt w.heap.size rfl).2) (fun g hg => by injection hg with hg; omega))
          clear ho1 hset
          refine ⟨⟨k + 1, (q + x + y) / W32, xs.set k ((q + x + y) % W32), by omega, ?_, by go_num, ?_, by simp [hxl], wds_set HXW.out (Nat.mod_lt _ (by decide)), ?_, HO1.out, HB2.out⟩, by simp [intOf]; omega⟩
          · rfl
          · show (q + x + y) / 4294967296 < 2; omega
          · rw [nv_take_succ HXX.out, nv_take_succ HYY.out]; exact add_step (by omega) HSUM.out rfl
        · go_wp2_with fail
          have ho1 := HO.out.stored k (.int .u32 (((q + x) % W32 : Nat) : Int))
          have hset : (xs.flatMap Wc).set k (.int .u32 (((q + x) % W32 : Nat) : Int)) = (xs.set k ((q + x) % W32)).flatMap Wc := by
            have h := putAll_flat (f := Wc) (size := 1) Wc.clen ((q + x) % W32) xs k (by omega)
            rw [Nat.mul_one] at h
            exact h
          have HO1 := Lib.hid (by have h := ho1.1; rw [hset] at h; exact h)
          have HB2 := Lib.hid (HBW.out.grown ho1.2 (Nat.le_of_lt (HO.out.lt w.heap.size rfl).2) (fun g hg => by injection hg with hg; omega))
          clear ho1 hset
          refine ⟨⟨k + 1, (q + x) / W32, xs.set k ((q + x) % W32), by omega, ?_, by go_num, ?_, by simp [hxl], wds_set HXW.out (Nat.mod_lt _ (by decide)), ?_, HO1.out, HB2.out⟩, by simp [intOf]; omega⟩
          · rfl
          · show (q + x) / 4294967296 < 2; omega
          · have hb := HSUM.out
            rw [nv_take_succ HXX.out]
            have e : a.take (k + 1) = a.take k := by rw [List.take_of_length_le (by rw [HX.out.num]; omega), List.take_of_length_le (by rw [HX.out.num]; omega)]
            rw [e]
            have h := add_step (x := x) (y := 0) (p := q + x) (show k < xs.length by omega) hb (by omega)
            rw [Nat.mul_zero, Nat.add_zero] at h
            exact h
      · obtain rfl : m = k := by omega
        have hf := hown.frozenAt m
        obtain ⟨y0, hy0⟩ := get_some (xs := xs.flatMap Wc) (k := m) hown.1 (by omega)
        have q0 : wr.cell? ⟨w.heap.size, m, none⟩ = some y0 := by rw [hown.cellAt _ (by omega)]; exact hy0
        have HO := Lib.hid hown
        have HBW := Lib.hid hbw
        have HXW := Lib.hid hxw
        have hfin : nv (xs.set m q) = nv b + nv a := by
          have h := nv_set_take (xs := xs) (k := m) (v := q) (by omega)
          rw [List.take_of_length_le (by simp [hxl]), hsum, List.take_of_length_le (by rw [HY.out.num]; exact Nat.le_refl _), List.take_of_length_le (by rw [HX.out.num]; omega)] at h
          exact h
        rw [Nat.add_comm (nv b) (nv a)] at hfin
        have HFIN := Lib.hid hfin
        have ho1 := HO.out.stored m (.int .u32 (q : Int))
        have hset : (xs.flatMap Wc).set m (.int .u32 (q : Int)) = (xs.set m q).flatMap Wc := by
          have h := putAll_flat (f := Wc) (size := 1) Wc.clen q xs m (by omega)
          rw [Nat.mul_one] at h
          exact h
        have HO1 := Lib.hid (by have h := ho1.1; rw [hset] at h; exact h)
        have HB2 := Lib.hid (HBW.out.grown ho1.2 (Nat.le_of_lt (HO.out.lt w.heap.size rfl).2) (fun g hg => by injection hg with hg; omega))
        clear hown hbw hxw hsum hfin hy0 ho1 hset
        go_wp2_with fail
        refine (trim_own w.heap.size w.heap.size (m + 1) (m + 1) (xs.set m q) _ HO1.out (wds_set HXW.out (by show q < 4294967296; omega)) (by omega) (Nat.le_refl _)).mono ?_
        rintro e w9 ⟨rfl, hl9, hr9, hb9⟩
        rw [HFIN.out] at hl9 hr9 ⊢
        have HR9 := Lib.hid hr9
        have HL9 := Lib.hid hl9
        have HB9 := Lib.hid (HB2.out.trans (hb9.mono HB2.out.size))
        clear hr9 hl9 hb9
        go_wp2_with fail
        go_ret
        exact ⟨_, _, rfl, HL9.out, HR9.out, HB9.out⟩
  · go_enter Tryz.func136, Tryz.ntmps136
    go_wp2_with (at_make; go_must (refine wpList_make_full _ rfl _ _ _ rfl w.heap.size 119 i0 _ 1 Tryz.underlying66 hi0 hz0 hz1 .i64 .i64 _ _ (n + 1) rfl rfl (by omega) (by omega) (by rw [hz2]; omega) (by simp only [maxLen]; omega) (Nat.le_refl _) ?_); intro w1 hown1 hg1)
    have hinv : w1.ownsRow w.heap.size 119 1 (.slice (some ⟨w.heap.size, 0, none⟩) (n + 1) (n + 1)) (n + 1) ((List.replicate (n + 1) 0).flatMap Wc) := by
      have h := hown1
      rw [made_u32] at h
      exact h
    have HI := Lib.hid hinv
    have HB1 := Lib.hid (below_of_grown hg1 (fun g hg => by cases hg))
    clear hown1 hg1 hinv
    go_loopw [6, 7] (fun cv i wr => ∃ (k q : Nat) (xs : List Nat), k ≤ n ∧ cv = .int .u64 q ∧ i = .int .i64 k ∧ q < 2 ∧ xs.length = n + 1 ∧ Wds xs ∧ nv (xs.take k) + W32 ^ k * q = nv (a.take k) + nv (b.take k) ∧ wr.ownsRow w.heap.size 119 1 (.slice (some ⟨w.heap.size, 0, none⟩) (n + 1) (n + 1)) (n + 1) (xs.flatMap Wc) ∧ Below w.heap.size w wr) (fun _ i _ => n - (intOf i).toNat)
    case atStart => exact ⟨0, 0, List.replicate (n + 1) 0, Nat.zero_le _, rfl, rfl, by decide, by simp, fun x hx => by rw [(List.mem_replicate.1 hx).2]; decide, by simp [nv], HI.out, HB1.out⟩
    case round =>
      obtain ⟨k, q, xs, hk, rfl, rfl, hq, hxl, hxw, hsum, hown, hbw⟩ := hrel
      by_cases hlt : k < n
      · obtain ⟨x, hx⟩ := get_some HX.out.num hlt
        obtain ⟨b1, o1, rfl, hSb1, hc⟩ := HX.out.elem Wc.clen hx (by omega)
        have q1 : wr.cell? ⟨b1, o1 + k, none⟩ = some (.int .u32 (x : Int)) := by have h := (hbw.cell (p := ⟨b1, _, none⟩) (HS.out _ hSb1)).trans (hc 0 _ rfl); rw [Nat.mul_one, Nat.add_zero] at h; exact h
        have hxlt := hw0 HA.out hx
        have hf := hown.frozenAt k
        obtain ⟨y0, hy0⟩ := get_some (xs := xs.flatMap Wc) (k := k) hown.1 (by omega)
        have q0 : wr.cell? ⟨w.heap.size, k, none⟩ = some y0 := by rw [hown.cellAt _ (by omega)]; exact hy0
        have HO := Lib.hid hown
        have HBW := Lib.hid hbw
        have HSUM := Lib.hid hsum
        have HXX := Lib.hid hx
        have HXW := Lib.hid hxw
        clear hown hbw hsum hx hc hy0 hxw
        by_cases hkm : k < m
        · obtain ⟨y, hy⟩ := get_some HY.out.num hkm
          obtain ⟨b2, o2, rfl, hSb2, hc2⟩ := HY.out.elem Wc.clen hy (by omega)
          have q2 : wr.cell? ⟨b2, o2 + k, none⟩ = some (.int .u32 (y : Int)) := by have h := (HBW.out.cell (p := ⟨b2, _, none⟩) (HS'.out _ hSb2)).trans (hc2 0 _ rfl); rw [Nat.mul_one, Nat.add_zero] at h; exact h
          have hylt := hw0 HB.out hy
          have HYY := Lib.hid hy
          clear hy hc2
          go_wp2_with fail
          have ho1 := HO.out.stored k (.int .u32 (((q + x + y) % W32 : Nat) : Int))
          have hset : (xs.flatMap Wc).set k (.int .u32 (((q + x + y) % W32 : Nat) : Int)) = (xs.set k ((q + x + y) % W32)).flatMap Wc := by
            have h := putAll_flat (f := Wc) (size := 1) Wc.clen ((q + x + y) % W32) xs k (by omega)
            rw [Nat.mul_one] at h
            exact h
          have HO1 := Lib.hid (by have h := ho1.1; rw [hset] at h; exact h)
          have HB2 := Lib.hid (HBW.out.grown ho1.2 (Nat.le_of_lt (HO.out.lt w.heap.size rfl).2) (fun g hg => by injection hg with hg; omega))
          clear ho1 hset
          refine ⟨⟨k + 1, (q + x + y) / W32, xs.set k ((q + x + y) % W32), by omega, ?_, by go_num, ?_, by simp [hxl], wds_set HXW.out (Nat.mod_lt _ (by decide)), ?_, HO1.out, HB2.out⟩, by simp [intOf]; omega⟩
          · rfl
          · show (q + x + y) / 4294967296 < 2; omega
          · rw [nv_take_succ HXX.out, nv_take_succ HYY.out]; exact add_step (by omega) HSUM.out rfl
        · go_wp2_with fail
          have ho1 := HO.out.stored k (.int .u32 (((q + x) % W32 : Nat) : Int))
          have hset : (xs.flatMap Wc).set k (.int .u32 (((q + x) % W32 : Nat) : Int)) = (xs.set k ((q + x) % W32)).flatMap Wc := by
            have h := putAll_flat (f := Wc) (size := 1) Wc.clen ((q + x) % W32) xs k (by omega)
            rw [Nat.mul_one] at h
            exact h
          have HO1 := Lib.hid (by have h := ho1.1; rw [hset] at h; exact h)
          have HB2 := Lib.hid (HBW.out.grown ho1.2 (Nat.le_of_lt (HO.out.lt w.heap.size rfl).2) (fun g hg => by injection hg with hg; omega))
          clear ho1 hset
          refine ⟨⟨k + 1, (q + x) / W32, xs.set k ((q + x) % W32), by omega, ?_, by go_num, ?_, by simp [hxl], wds_set HXW.out (Nat.mod_lt _ (by decide)), ?_, HO1.out, HB2.out⟩, by simp [intOf]; omega⟩
          · rfl
          · show (q + x) / 4294967296 < 2; omega
          · have hb := HSUM.out
            rw [nv_take_succ HXX.out]
            have e : b.take (k + 1) = b.take k := by rw [List.take_of_length_le (by rw [HY.out.num]; omega), List.take_of_length_le (by rw [HY.out.num]; omega)]
            rw [e]
            have h := add_step (x := x) (y := 0) (p := q + x) (show k < xs.length by omega) hb (by omega)
            rw [Nat.mul_zero, Nat.add_zero] at h
            exact h
      · obtain rfl : n = k := by omega
        have hf := hown.frozenAt n
        obtain ⟨y0, hy0⟩ := get_some (xs := xs.flatMap Wc) (k := n) hown.1 (by omega)
        have q0 : wr.cell? ⟨w.heap.size, n, none⟩ = some y0 := by rw [hown.cellAt _ (by omega)]; exact hy0
        have HO := Lib.hid hown
        have HBW := Lib.hid hbw
        have HXW := Lib.hid hxw
        have hfin : nv (xs.set n q) = nv a + nv b := by
          have h := nv_set_take (xs := xs) (k := n) (v := q) (by omega)
          rw [List.take_of_length_le (by simp [hxl]), hsum, List.take_of_length_le (by rw [HX.out.num]; exact Nat.le_refl _), List.take_of_length_le (by rw [HY.out.num]; omega)] at h
          exact h
        have HFIN := Lib.hid hfin
        have ho1 := HO.out.stored n (.int .u32 (q : Int))
        have hset : (xs.flatMap Wc).set n (.int .u32 (q : Int)) = (xs.set n q).flatMap Wc := by
          have h := putAll_flat (f := Wc) (size := 1) Wc.clen q xs n (by omega)
          rw [Nat.mul_one] at h
          exact h
        have HO1 := Lib.hid (by have h := ho1.1; rw [hset] at h; exact h)
        have HB2 := Lib.hid (HBW.out.grown ho1.2 (Nat.le_of_lt (HO.out.lt w.heap.size rfl).2) (fun g hg => by injection hg with hg; omega))
        clear hown hbw hxw hsum hfin hy0 ho1 hset
        go_wp2_with fail
        refine (trim_own w.heap.size w.heap.size (n + 1) (n + 1) (xs.set n q) _ HO1.out (wds_set HXW.out (by show q < 4294967296; omega)) (by omega) (Nat.le_refl _)).mono ?_
        rintro e w9 ⟨rfl, hl9, hr9, hb9⟩
        rw [HFIN.out] at hl9 hr9 ⊢
        have HR9 := Lib.hid hr9
        have HL9 := Lib.hid hl9
        have HB9 := Lib.hid (HB2.out.trans (hb9.mono HB2.out.size))
        clear hr9 hl9 hb9
        go_wp2_with fail
        go_ret
        exact ⟨_, _, rfl, HL9.out, HR9.out, HB9.out⟩

end Go.Proofs.YtjokpfgncmdomaaGreatDoor

/- sub: the walk -/
namespace Go.Proofs.YtjokpfgncmdomaaGreatDoor
open Go.RowKit Go.Sort

theorem sub_step {xs : List Nat} {k q s x y q' : Nat} {X Y : Nat} (hl : k < xs.length) (h : X + W32 ^ k * q = nv (xs.take k) + Y) (hp : x + W32 * q' = s + q + y) :
    (X + W32 ^ k * x) + W32 ^ (k + 1) * q' = nv ((xs.set k s).take (k + 1)) + (Y + W32 ^ k * y) := by
  rw [nv_set_take hl, Nat.pow_succ, Nat.mul_assoc]
  have h1 : W32 ^ k * x + W32 ^ k * (W32 * q') = W32 ^ k * s + W32 ^ k * q + W32 ^ k * y := by rw [← Nat.mul_add, hp, Nat.mul_add, Nat.mul_add]
  omega

theorem borrow {x q y : Nat} (hx : x < 4294967296) (hq : q < 2) (hy : y < 4294967296) : ∃ q' s : Nat, IntKind.u64.wrap (IntKind.u64.wrap ((x : Int) - q) - y) / 9223372036854775808 = (q' : Int) ∧ IntKind.u64.wrap (IntKind.u64.wrap ((x : Int) - q) - y) % 4294967296 = (s : Int) ∧ q' < 2 ∧ s < W32 ∧ x + W32 * q' = s + q + y := by
  have e : IntKind.u64.wrap (IntKind.u64.wrap ((x : Int) - q) - y) = ((x : Int) - q - y) % 18446744073709551616 := by
    rw [IntKind.wrap_u64, IntKind.wrap_u64]; omega
  rw [e]
  show ∃ q' s : Nat, _ ∧ _ ∧ q' < 2 ∧ s < 4294967296 ∧ x + 4294967296 * q' = s + q + y
  by_cases h : q + y ≤ x
  · exact ⟨0, x - q - y, by omega, by omega, by omega, by omega, by omega⟩
  · exact ⟨1, x + 4294967296 - q - y, by omega, by omega, by omega, by omega, by omega⟩
theorem borrow0 {x q : Nat} (hx : x < 4294967296) (hq : q < 2) : ∃ q' s : Nat, IntKind.u64.wrap ((x : Int) - q) / 9223372036854775808 = (q' : Int) ∧ IntKind.u64.wrap ((x : Int) - q) % 4294967296 = (s : Int) ∧ q' < 2 ∧ s < W32 ∧ x + W32 * q' = s + q + 0 := by
  have h := borrow hx hq (y := 0) (by omega)
  have e : IntKind.u64.wrap (IntKind.u64.wrap ((x : Int) - q) - (0 : Nat)) = IntKind.u64.wrap ((x : Int) - q) := by
    rw [IntKind.wrap_u64, IntKind.wrap_u64]; omega
  rw [e] at h
  exact h

theorem sub_any (A B : Option Addr) (n m c d : Nat) (a b : List Nat) (S S' : Nat → Prop) (w : World) (hx : RdE Wc 1 w S A n a) (hy : RdE Wc 1 w S' B m b) (ha : Wds a) (hb : Wds b) (hS : ∀ b, S b → b < w.heap.size) (hS' : ∀ b, S' b → b < w.heap.size)
    (hn : n ≤ 100000000000) (hm : m ≤ n) (hle : nv b ≤ nv a) :
    Calls Tryz.prog 146 #[.slice A n c, .slice B m d] w fun e w' => ∃ A' c', e = .returned (.slice A' (dig (nv a - nv b)).length c') ∧ (dig (nv a - nv b)).length ≤ c' ∧ RdE Wc 1 w' (fun b => w.heap.size ≤ b ∧ b < w'.heap.size) A' (dig (nv a - nv b)).length (dig (nv a - nv b)) ∧ Below w.heap.size w w' := by
  obtain ⟨i0, hi0, hz0, hz1, hz2⟩ := info_parts' info_u32
  have HX := Lib.hid hx
  have HY := Lib.hid hy
  have HA := Lib.hid ha
  have HB := Lib.hid hb
  have HS := Lib.hid hS
  have HS' := Lib.hid hS'
  have HLE := Lib.hid hle
  clear hx hy ha hb hS hS' hle
  go_enter Tryz.func146, Tryz.ntmps146
  go_wp2_with (at_make; go_must (refine wpList_make_full _ rfl _ _ _ rfl w.heap.size 119 i0 _ 1 Tryz.underlying66 hi0 hz0 hz1 .i64 .i64 _ _ n rfl rfl (by omega) (by omega) (by rw [hz2]; omega) (by simp only [maxLen]; omega) (Nat.le_refl _) ?_); intro w1 hown1 hg1)
  have hinv := hown1
  rw [made_u32] at hinv
  have HI := Lib.hid hinv
  have HB1 := Lib.hid (below_of_grown hg1 (fun g hg => by cases hg))
  clear hown1 hg1 hinv
  go_loopw [6, 7] (fun cv i wr => ∃ (k q : Nat) (xs : List Nat), k ≤ n ∧ cv = .int .u64 q ∧ i = .int .i64 k ∧ q < 2 ∧ xs.length = n ∧ Wds xs ∧ nv (a.take k) + W32 ^ k * q = nv (xs.take k) + nv (b.take k) ∧ wr.ownsRow w.heap.size 119 1 (.slice (some ⟨w.heap.size, 0, none⟩) n n) n (xs.flatMap Wc) ∧ Below w.heap.size w wr) (fun _ i _ => n - (intOf i).toNat)
  case atStart => exact ⟨0, 0, List.replicate n 0, Nat.zero_le _, rfl, rfl, by decide, by simp, fun x hx => by rw [(List.mem_replicate.1 hx).2]; decide, by simp [nv], HI.out, HB1.out⟩
  case round =>
    obtain ⟨k, q, xs, hk, rfl, rfl, hq, hxl, hxw, hsum, hown, hbw⟩ := hrel
    by_cases hlt : k < n
    · obtain ⟨x, hx⟩ := get_some HX.out.num hlt
      obtain ⟨b1, o1, rfl, hSb1, hc⟩ := HX.out.elem Wc.clen hx (by omega)
      have q1 : wr.cell? ⟨b1, o1 + k, none⟩ = some (.int .u32 (x : Int)) := by have h := (hbw.cell (p := ⟨b1, _, none⟩) (HS.out _ hSb1)).trans (hc 0 _ rfl); rw [Nat.mul_one, Nat.add_zero] at h; exact h
      have hxlt := hw0 HA.out hx
      have hf := hown.frozenAt k
      obtain ⟨y0, hy0⟩ := get_some (xs := xs.flatMap Wc) (k := k) hown.1 (by omega)
      have q0 : wr.cell? ⟨w.heap.size, k, none⟩ = some y0 := by rw [hown.cellAt _ (by omega)]; exact hy0
      have HO := Lib.hid hown
      have HBW := Lib.hid hbw
      have HSUM := Lib.hid hsum
      have HXX := Lib.hid hx
      have HXW := Lib.hid hxw
      clear hown hbw hsum hx hc hy0 hxw
      by_cases hkm : k < m
      · obtain ⟨y, hy⟩ := get_some HY.out.num hkm
        obtain ⟨b2, o2, rfl, hSb2, hc2⟩ := HY.out.elem Wc.clen hy (by omega)
        have q2 : wr.cell? ⟨b2, o2 + k, none⟩ = some (.int .u32 (y : Int)) := by have h := (HBW.out.cell (p := ⟨b2, _, none⟩) (HS'.out _ hSb2)).trans (hc2 0 _ rfl); rw [Nat.mul_one, Nat.add_zero] at h; exact h
        have hylt := hw0 HB.out hy
        have HYY := Lib.hid hy
        clear hy hc2
        go_wp2_with fail
        obtain ⟨q', s, e1, e2, hq', hs', hxs⟩ := borrow hxlt hq hylt
        rw [e1, e2]
        have ho1 := HO.out.stored k (.int .u32 (s : Int))
        have hset : (xs.flatMap Wc).set k (.int .u32 (s : Int)) = (xs.set k s).flatMap Wc := by
          have h := putAll_flat (f := Wc) (size := 1) Wc.clen s xs k (by omega)
          rw [Nat.mul_one] at h
          exact h
        have HO1 := Lib.hid (by have h := ho1.1; rw [hset] at h; exact h)
        have HB2 := Lib.hid (HBW.out.grown ho1.2 (Nat.le_of_lt (HO.out.lt w.heap.size rfl).2) (fun g hg => by injection hg with hg; omega))
        clear ho1 hset
        refine ⟨⟨k + 1, q', xs.set k s, by omega, rfl, by go_num, hq', by simp [hxl], wds_set HXW.out hs', ?_, HO1.out, HB2.out⟩, by simp [intOf]; omega⟩
        rw [nv_take_succ HXX.out, nv_take_succ HYY.out]
        exact sub_step (by omega) HSUM.out hxs
      · go_wp2_with fail
        obtain ⟨q', s, e1, e2, hq', hs', hxs⟩ := borrow0 hxlt hq
        rw [e1, e2]
        have ho1 := HO.out.stored k (.int .u32 (s : Int))
        have hset : (xs.flatMap Wc).set k (.int .u32 (s : Int)) = (xs.set k s).flatMap Wc := by
          have h := putAll_flat (f := Wc) (size := 1) Wc.clen s xs k (by omega)
          rw [Nat.mul_one] at h
          exact h
        have HO1 := Lib.hid (by have h := ho1.1; rw [hset] at h; exact h)
        have HB2 := Lib.hid (HBW.out.grown ho1.2 (Nat.le_of_lt (HO.out.lt w.heap.size rfl).2) (fun g hg => by injection hg with hg; omega))
        clear ho1 hset
        refine ⟨⟨k + 1, q', xs.set k s, by omega, rfl, by go_num, hq', by simp [hxl], wds_set HXW.out hs', ?_, HO1.out, HB2.out⟩, by simp [intOf]; omega⟩
        have e : b.take (k + 1) = b.take k := by rw [List.take_of_length_le (by rw [HY.out.num]; omega), List.take_of_length_le (by rw [HY.out.num]; omega)]
        rw [nv_take_succ HXX.out, e]
        have h := sub_step (y := 0) (show k < xs.length by omega) HSUM.out hxs
        rw [Nat.mul_zero, Nat.add_zero] at h
        exact h
    · obtain rfl : n = k := by omega
      have HO := Lib.hid hown
      have HBW := Lib.hid hbw
      have HXW := Lib.hid hxw
      have hfin : nv xs = nv a - nv b := by
        have h := hsum
        rw [List.take_of_length_le (by rw [HX.out.num]; exact Nat.le_refl _), List.take_of_length_le (by omega), List.take_of_length_le (by rw [HY.out.num]; omega)] at h
        have hl := nv_lt HXW.out
        rw [hxl] at hl
        have hle := HLE.out
        have hq0 : q = 0 := by
          by_cases e : q = 0
          · exact e
          · have : q = 1 := by omega
            rw [this] at h
            omega
        rw [hq0] at h
        omega
      have HFIN := Lib.hid hfin
      clear hown hbw hxw hsum hfin
      go_wp2_with fail
      refine (trim_own w.heap.size w.heap.size n n xs _ HO.out HXW.out (by omega) (Nat.le_refl _)).mono ?_
      rintro e w9 ⟨rfl, hl9, hr9, hb9⟩
      rw [HFIN.out] at hl9 hr9 ⊢
      have HR9 := Lib.hid hr9
      have HL9 := Lib.hid hl9
      have HB9 := Lib.hid (HBW.out.trans (hb9.mono HBW.out.size))
      clear hr9 hl9 hb9
      go_wp2_with fail
      go_ret
      exact ⟨_, _, rfl, HL9.out, HR9.out, HB9.out⟩

end Go.Proofs.YtjokpfgncmdomaaGreatDoor
