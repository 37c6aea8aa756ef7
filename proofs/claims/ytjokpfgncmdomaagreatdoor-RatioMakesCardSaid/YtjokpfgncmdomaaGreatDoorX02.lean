import Derived.Test.YtjokpfgncmdomaaGreatDoorX01
import Derived.Lib.EndianBits
import Derived.ProofKit
set_option linter.unusedSimpArgs false
set_option linter.unusedVariables false
/- trim, twin, words, plain: the walks -/
namespace Go.Proofs.YtjokpfgncmdomaaGreatDoor
open Go.RowKit Go.Sort

theorem take_zero_last {ws : List Nat} {k : Nat} (h : ws[k]? = some 0) : nv (ws.take (k + 1)) = nv (ws.take k) := by
  obtain ⟨hl, e⟩ := List.getElem?_eq_some_iff.1 h
  rw [List.take_succ_eq_append_getElem hl, nv_append, e]
  simp [nv]
theorem take_isDig {ws : List Nat} {k x : Nat} (hw : Wds ws) (h : ws[k]? = some x) (hx : x ≠ 0) : isDig (ws.take (k + 1)) := by
  obtain ⟨hl, e⟩ := List.getElem?_eq_some_iff.1 h
  refine ⟨hw.take _, fun hn => ?_⟩
  have : (ws.take (k + 1)).getLast hn = x := by
    simp only [List.take_succ_eq_append_getElem hl, e, List.getLast_append, List.getLast_singleton]; simp
  rw [this]
  exact hx

theorem hw0 {ws : List Nat} (h : Wds ws) {i x : Nat} (hx : ws[i]? = some x) : x < 4294967296 := h.get hx

theorem trim_any (A : Option Addr) (n c : Nat) (ws : List Nat) (S : Nat → Prop) (w : World) (hx : RdE Wc 1 w S A n ws) (hw : Wds ws) (hS : ∀ b, S b → b < w.heap.size) (hn : n ≤ 1000000000000) (hnc : n ≤ c) :
    Calls Tryz.prog 138 #[.slice A n c] w fun e w' => ∃ k, e = .returned (.slice A k c) ∧ k ≤ n ∧ ws.take k = dig (nv ws) ∧ Below w.heap.size w w' := by
  have HX := Lib.hid hx
  have HW := Lib.hid hw
  have HS := Lib.hid hS
  clear hx hw hS
  go_enter Tryz.func138, Tryz.ntmps138
  go_wp2_with fail
  go_loop [3] (fun i => ∃ k : Nat, k ≤ n ∧ i = .int .i64 k ∧ nv (ws.take k) = nv ws) (fun i => (intOf i).toNat)
  case atStart => exact ⟨n, Nat.le_refl _, rfl, by rw [List.take_of_length_le (by rw [HX.out.num]; exact Nat.le_refl _)]⟩
  case round =>
    obtain ⟨k, hk, rfl, hv⟩ := hrel
    have HV := Lib.hid hv
    clear hv
    by_cases h0 : k = 0
    · subst h0
      go_wp2_with fail
      go_ret
      have e : nv ws = 0 := by rw [← HV.out]; rfl
      exact ⟨0, rfl, Nat.zero_le _, by rw [e]; rfl, Below.refl _ _⟩
    · obtain ⟨j, rfl⟩ : ∃ j, k = j + 1 := ⟨k - 1, by omega⟩
      obtain ⟨x, hx⟩ := get_some HX.out.num (show j < n by omega)
      obtain ⟨b, o, rfl, hSb, hc⟩ := HX.out.elem Wc.clen hx (by omega)
      have q0 : w.cell? ⟨b, o + j, none⟩ = some (.int .u32 (x : Int)) := by have h := hc 0 _ rfl; rw [Nat.mul_one, Nat.add_zero] at h; exact h
      have HXX := Lib.hid hx
      clear hx hc
      by_cases hz : x = 0
      · subst hz
        go_wp2_with fail
        go_round
        case rel => exact ⟨j, by omega, by go_num, by rw [← take_zero_last HXX.out]; exact HV.out⟩
        case measure => simp [intOf]
      · have hz1 : ((x : Int) == 0) = false := by simp; omega
        have HZ := Lib.hid hz
        clear hz
        go_wp2_with fail
        go_ret
        exact ⟨j + 1, rfl, by omega, by rw [← HV.out]; exact dig_unique (take_isDig HW.out HXX.out HZ.out), Below.refl _ _⟩

def pl (ws : List Nat) : Nat := ws.getD 0 0 + W32 * ws.getD 1 0
theorem plain_any (A : Option Addr) (n c : Nat) (ws : List Nat) (S : Nat → Prop) (w : World) (hx : RdE Wc 1 w S A n ws) (hw : Wds ws) :
    Calls Tryz.prog 140 #[.slice A n c] w fun e w' => e = .returned (.int .u64 (pl ws)) ∧ w = w' := by
  have HX := Lib.hid hx
  have HW := Lib.hid hw
  clear hx hw
  by_cases h0 : n = 0
  · subst h0
    have hn : ws = [] := List.eq_nil_of_length_eq_zero HX.out.num
    subst hn
    go_enter Tryz.func140, Tryz.ntmps140
    go_wp2_with fail
    go_ret
    exact ⟨rfl, rfl⟩
  · obtain ⟨x, hx⟩ := get_some HX.out.num (show 0 < n by omega)
    obtain ⟨b, o, rfl, hSb, hc⟩ := HX.out.elem Wc.clen hx (by omega)
    have q0 : w.cell? ⟨b, o, none⟩ = some (.int .u32 (x : Int)) := hc 0 _ rfl
    have hxl := hw0 HW.out hx
    have HXX := Lib.hid hx
    clear hx hc
    by_cases h1 : n = 1
    · subst h1
      go_enter Tryz.func140, Tryz.ntmps140
      go_wp2_with fail
      go_ret
      have e : ws.getD 1 0 = 0 := by simp [List.getD, List.getElem?_eq_none (show ws.length ≤ 1 by rw [HX.out.num]; omega)]
      have e0 : ws.getD 0 0 = x := by simp [List.getD, HXX.out]
      exact ⟨by rw [pl, e, e0]; rfl, rfl⟩
    · obtain ⟨y, hy⟩ := get_some HX.out.num (show 1 < n by omega)
      obtain ⟨b', o', e', _, hc'⟩ := HX.out.elem Wc.clen hy (by omega)
      cases e'
      have q1 : w.cell? ⟨b, o + 1, none⟩ = some (.int .u32 (y : Int)) := hc' 0 _ rfl
      have hyl := hw0 HW.out hy
      have HYY := Lib.hid hy
      clear hy hc'
      go_enter Tryz.func140, Tryz.ntmps140
      go_wp2_with fail
      go_ret
      have e1 : ws.getD 1 0 = y := by simp [List.getD, HYY.out]
      have e0 : ws.getD 0 0 = x := by simp [List.getD, HXX.out]
      refine ⟨?_, rfl⟩
      show Ending.returned (Value.int .u64 (bits .or .u64 (x : Int) ((y : Int) * 4294967296))) = _
      rw [u64_or32 _ _ (by omega) (by omega) (by omega) (by omega) (by omega), pl, e1, e0]
      congr 2
      show (x : Int) + y * 4294967296 = ((x + 4294967296 * y : Nat) : Int)
      omega

theorem words_any (x : Nat) (w : World) (hx : x < 18446744073709551616) :
    Calls Tryz.prog 137 #[.int .u64 x] w fun e w' => ∃ A c, e = .returned (.slice A (dig x).length c) ∧ (dig x).length ≤ c ∧ RdE Wc 1 w' (fun b => w.heap.size ≤ b ∧ b < w'.heap.size) A (dig x).length (dig x) ∧ Below w.heap.size w w' := by
  have i1 := trim_any
  have I1 := Lib.hid i1
  clear i1
  go_enter Tryz.func137, Tryz.ntmps137
  go_wp2_with fail
  have hlt : x / W32 < W32 := by show x / 4294967296 < 4294967296; omega
  have hnv : nv [x % W32, x / W32] = x := by
    show x % W32 + W32 * (x / W32 + W32 * 0) = x
    rw [Nat.mul_zero, Nat.add_zero]
    exact Nat.mod_add_div x W32
  have hrd : RdE Wc 1 (w.alloc (.cells #[.int .u32 ((x : Int) % 4294967296), .int .u32 ((x : Int) / 4294967296)] 119)) (fun b => b = w.heap.size) (some ⟨w.heap.size, 0, none⟩) 2 [x % W32, x / W32] := rde_blk (f := Wc) (n := 2) (size := 1) (S := fun b => b = w.heap.size) (xs := [x % W32, x / W32]) (blk_new w #[.int .u32 ((x : Int) % 4294967296), .int .u32 ((x : Int) / 4294967296)] 119) rfl rfl rfl rfl
  have hwd : Wds [x % W32, x / W32] := by
    intro y hy
    simp only [List.mem_cons, List.not_mem_nil, or_false] at hy
    rcases hy with rfl | rfl
    · exact Nat.mod_lt _ (by decide)
    · exact hlt
  refine (I1.out _ 2 2 [x % W32, x / W32] _ _ hrd hwd (fun b hb => by rw [hb]; simp) (by omega) (by omega)).mono ?_
  rintro e w1 ⟨k, rfl, hk, htk, hb1⟩
  rw [hnv] at htk
  have hlen : k = (dig x).length := by rw [← htk, List.length_take]; simp; omega
  have hr1 := (hrd.keep (Keeps.below hb1 (fun b hb => by rw [hb]; simp))).take Wc.clen hk
  rw [htk] at hr1
  have hsz := hb1.size
  simp only [World.size_alloc] at hsz
  have HR := Lib.hid (hr1.imp (S' := fun b => w.heap.size ≤ b ∧ b < w1.heap.size) fun b hb => by rw [hb]; omega)
  have HB := Lib.hid (below_then (below1 w _) hb1)
  have HK := Lib.hid hlen
  have hk2 := hk
  clear hr1 hrd hwd hb1 htk hlen hnv
  go_wp2_with fail
  go_ret
  refine ⟨some ⟨w.heap.size, 0, none⟩, 2, ?_, by rw [← HK.out]; exact hk2, ?_, HB.out⟩
  · rw [← HK.out]; rfl
  · rw [← HK.out]; exact HR.out

end Go.Proofs.YtjokpfgncmdomaaGreatDoor

/- twin, add: the walks -/
namespace Go.Proofs.YtjokpfgncmdomaaGreatDoor
open Go.RowKit Go.Sort

theorem info_u32 : (Tryz.prog.info? 119).map (fun i => (i.zero, i.size, i.bytes)) = some (some (.int .u32 0), 1, 4) := by kernel_rfl
theorem info_parts' {i : Option TypeInfo} {z : Value} {s b : Nat} (h : i.map (fun i => (i.zero, i.size, i.bytes)) = some (some z, s, b)) : ∃ j, i = some j ∧ j.zero = some z ∧ j.size = s ∧ j.bytes = b := by
  cases i with
  | none => cases h
  | some j => simp only [Option.map_some, Option.some.injEq, Prod.mk.injEq] at h; exact ⟨j, rfl, h.1, h.2.1, h.2.2⟩
theorem wc_one (xs : List Nat) : ∀ u ∈ xs.flatMap Wc, u.oneCell' = true := by
  intro u hu
  obtain ⟨x, _, hx⟩ := List.mem_flatMap.1 hu
  simp [Wc] at hx
  subst hx
  rfl
theorem made_get (z : List Value) (n : Nat) (j : Nat) (h : j < n) : (madeCells z.toArray n).toList[j]? = some (z.toArray[j % z.length]!) := by
  simp [madeCells, h]
theorem rep_get {α : Type} (f : α → List Value) (size : Nat) (hf : ∀ x, (f x).length = size) (x : α) : ∀ (n j : Nat), j < n * size → 0 < size → ((List.replicate n x).flatMap f)[j]? = (f x)[j % size]?
  | 0, j, h, _ => by omega
  | n + 1, j, h, hs => by
    rw [List.replicate_succ, List.flatMap_cons]
    by_cases h1 : j < size
    · rw [List.getElem?_append_left (by rw [hf]; exact h1), Nat.mod_eq_of_lt h1]
    · rw [List.getElem?_append_right (by rw [hf]; omega), hf, rep_get f size hf x n (j - size) (by rw [Nat.add_mul] at h; omega) hs]
      rw [← Nat.mod_eq_sub_mod (show size ≤ j by omega)]
theorem made_flat {α : Type} (f : α → List Value) (size : Nat) (hf : ∀ x, (f x).length = size) (hs : 0 < size) (x : α) (n : Nat) : (madeCells (f x).toArray (n * size)).toList = (List.replicate n x).flatMap f := by
  apply List.ext_getElem?
  intro j
  by_cases h : j < n * size
  · rw [made_get _ _ _ h, rep_get f size hf x n j h hs, hf]
    have h2 : j % size < (f x).length := by rw [hf]; exact Nat.mod_lt _ hs
    rw [List.getElem?_eq_getElem h2]
    simp [h2]
  · rw [List.getElem?_eq_none (by simp [madeCells]; omega), List.getElem?_eq_none (by rw [flat_len f size hf]; simp; omega)]
theorem made_u32 (n : Nat) : (madeCells (Value.int .u32 0).cells (n * 1)).toList = (List.replicate n 0).flatMap Wc := made_flat Wc 1 Wc.clen (by omega) 0 n

theorem twin_any (A : Option Addr) (n c : Nat) (ws : List Nat) (S : Nat → Prop) (w : World) (hx : RdE Wc 1 w S A n ws) (hn : n ≤ 8796093021952) :
    Calls Tryz.prog 134 #[.slice A n c] w fun e w' => ∃ A' c', e = .returned (.slice A' n c') ∧ n ≤ c' ∧ RdE Wc 1 w' (fun b => w.heap.size ≤ b ∧ b < w'.heap.size) A' n ws ∧ Below w.heap.size w w' := by
  obtain ⟨i0, hi0, hz0, hz1, hz2⟩ := info_parts' info_u32
  have HX := Lib.hid hx
  clear hx
  go_enter Tryz.func134, Tryz.ntmps134
  go_wp2_with (at_builtin; go_must (refine wpList_append_rd _ rfl _ _ _ rfl w.heap.size 119 i0 _ 1 4 Tryz.underlying66 hi0 hz0 hz1 hz2 rfl (by omega) (.slice none 0 0) 0 [] rfl (World.ownsRow_nil _ _ _ _) S A n c (ws.flatMap Wc) rfl HX.out.rd (wc_one ws) (by simp only [maxLen]; omega) (by omega) (Nat.le_refl _) ?_); intro v1 w1 hown1 hg1 hat1)
  go_ret
  rw [Nat.zero_add, List.nil_append] at hown1
  obtain ⟨A', c', e, hc', _⟩ := own_slice hown1
  rw [e] at hown1
  exact ⟨A', c', by rw [← e]; rfl, hc', (RdE.of_own Wc.clen (by omega) hown1).imp (fun b h => ⟨h.1, h.2.1⟩), below_of_grown hg1 (by simp [Value.ownBlock])⟩

/-- trim of a row of the caller's own -/
theorem trim_own (base g n c : Nat) (xs : List Nat) (w : World) (h : w.ownsRow base 119 1 (.slice (some ⟨g, 0, none⟩) n c) n (xs.flatMap Wc)) (hw : Wds xs) (hn : n ≤ 1000000000000) (hnc : n ≤ c) :
    Calls Tryz.prog 138 #[.slice (some ⟨g, 0, none⟩) n c] w fun e w' => e = .returned (.slice (some ⟨g, 0, none⟩) (dig (nv xs)).length c) ∧ (dig (nv xs)).length ≤ c ∧
      RdE Wc 1 w' (fun b => base ≤ b ∧ b < w'.heap.size) (some ⟨g, 0, none⟩) (dig (nv xs)).length (dig (nv xs)) ∧ Below w.heap.size w w' := by
  have hr := RdE.of_own Wc.clen (by omega) h
  refine (trim_any (some ⟨g, 0, none⟩) n c xs _ w hr hw (fun b hb => hb.2.1) hn hnc).mono ?_
  rintro e w' ⟨k, rfl, hk, htk, hb⟩
  have hlen : k = (dig (nv xs)).length := by rw [← htk, List.length_take, hr.num]; omega
  have hr1 := (hr.keep (Keeps.below hb (fun b hb => hb.2.1))).take Wc.clen hk
  rw [htk] at hr1
  have hz := hb.size
  refine ⟨by rw [← hlen], by omega, ?_, hb⟩
  rw [← hlen]
  exact hr1.imp fun b hb => ⟨hb.1, by omega⟩

end Go.Proofs.YtjokpfgncmdomaaGreatDoor

/- add: the walk -/
namespace Go.Proofs.YtjokpfgncmdomaaGreatDoor
open Go.RowKit Go.Sort

theorem nv_take_succ {ws : List Nat} {k x : Nat} (h : ws[k]? = some x) : nv (ws.take (k + 1)) = nv (ws.take k) + W32 ^ k * x := by
  obtain ⟨hl, e⟩ := List.getElem?_eq_some_iff.1 h
  rw [List.take_succ_eq_append_getElem hl, nv_append, e, List.length_take, Nat.min_eq_left (by omega)]
  simp [nv]
theorem nv_set_take {xs : List Nat} {k v : Nat} (h : k < xs.length) : nv ((xs.set k v).take (k + 1)) = nv (xs.take k) + W32 ^ k * v := by
  rw [nv_take_succ (x := v) (by rw [List.getElem?_set_self h]), List.take_set_of_le (Nat.le_refl _)]
theorem wds_set {xs : List Nat} {k v : Nat} (h : Wds xs) (hv : v < W32) : Wds (xs.set k v) := fun x hx => by
  rcases List.mem_or_eq_of_mem_set hx with h1 | rfl
  · exact h x h1
  · exact hv
theorem add_step {xs : List Nat} {k q p x y : Nat} {X Y : Nat} (hl : k < xs.length) (h : nv (xs.take k) + W32 ^ k * q = X + Y) (hp : p = q + x + y) :
    nv ((xs.set k (p % W32)).take (k + 1)) + W32 ^ (k + 1) * (p / W32) = (X + W32 ^ k * x) + (Y + W32 ^ k * y) := by
  rw [nv_set_take hl, Nat.pow_succ, Nat.mul_assoc]
  have h1 : W32 ^ k * (p % W32) + W32 ^ k * (W32 * (p / W32)) = W32 ^ k * p := by rw [← Nat.mul_add, Nat.mod_add_div]
  have h2 : W32 ^ k * p = W32 ^ k * q + W32 ^ k * x + W32 ^ k * y := by rw [hp, Nat.mul_add, Nat.mul_add]
  omega

theorem add_any (A B : Option Addr) (n m c d : Nat) (a b : List Nat) (S S' : Nat → Prop) (w : World) (hx : RdE Wc 1 w S A n a) (hy : RdE Wc 1 w S' B m b) (ha : Wds a) (hb : Wds b) (hS : ∀ b, S b → b < w.heap.size) (hS' : ∀ b, S' b → b < w.heap.size)
    (hn : n ≤ 100000000000) (hm : m ≤ 100000000000) :
    Calls Tryz.prog 136 #[.slice A n c, .slice B m d] w fun e w' => ∃ A' c', e = .returned (.slice A' (dig (nv a + nv b)).length c') ∧ (dig (nv a + nv b)).length ≤ c' ∧ RdE Wc 1 w' (fun b => w.heap.size ≤ b ∧ b < w'.heap.size) A' (dig (nv a + nv b)).length (dig (nv a + nv b)) ∧ Below w.heap.size w w' := by
  obtain ⟨i0, hi0, hz0, hz1, hz2⟩ := info_parts' info_u32
  have HX := Lib.hid hx
  have HY := Lib.hid hy
  have HA := Lib.hid ha
  have HB := Lib.hid hb
  have HS := Lib.hid hS
  have HS' := Lib.hid hS'
  have i1 := trim_any
  have I1 := Lib.hid i1
  clear hx hy ha hb hS hS' i1
  by_cases hnm : n < m
  · go_enter Tryz.func136, Tryz.ntmps136
    go_wp2_with (at_make; go_must (refine wpList_make_full _ rfl _ _ _ rfl w.heap.size 119 i0 _ 1 Tryz.underlying66 hi0 hz0 hz1 .i64 .i64 _ _ (m + 1) rfl rfl (by omega) (by omega) (by rw [hz2]; omega) (by simp only [maxLen]; omega) (Nat.le_refl _) ?_); intro w1 hown1 hg1)
    have hinv : w1.ownsRow w.heap.size 119 1 (.slice (some ⟨w.heap.size, 0, none⟩) (m + 1) (m + 1)) (m + 1) ((List.replicate (m + 1) 0).flatMap Wc) := by
      have h := hown1
      rw [made_u32] at h
      exact h
    have HI := Lib.hid hinv
    have HB1 := Lib.hid (below_of_grown hg1 (fun g hg => by cases hg))
    clear hown1 hg1 hinv
    go_loopw [6, 7] (fun cv i wr => ∃ (k q : Nat) (xs : List Nat), k ≤ m ∧ cv = .int .u64 q ∧ i = .int .i64 k ∧ q < 2 ∧ xs.length = m + 1 ∧ Wds xs ∧ nv (xs.take k) + W32 ^ k * q = nv (b.take k) + nv (a.take k) ∧ wr.ownsRow w.heap.size 119 1 (.slice (some ⟨w.heap.size, 0, none⟩) (m + 1) (m + 1)) (m + 1) (xs.flatMap Wc) ∧ Below w.heap.size w wr) (fun _ i _ => m - (intOf i).toNat)
    case atStart => exact ⟨0, 0, List.replicate (m + 1) 0, Nat.zero_le _, rfl, rfl, by decide, by simp, fun x hx => by rw [(List.mem_replicate.1 hx).2]; decide, by simp [nv], HI.out, HB1.out⟩
    case round =>
      obtain ⟨k, q, xs, hk, rfl, rfl, hq, hxl, hxw, hsum, hown, hbw⟩ := hrel
      by_cases hlt : k < m
      · obtain ⟨x, hx⟩ := get_some HY.out.num hlt
        obtain ⟨b1, o1, rfl, hSb1, hc⟩ := HY.out.elem Wc.clen hx (by omega)
        have q1 : wr.cell? ⟨b1, o1 + k, none⟩ = some (.int .u32 (x : Int)) := by have h := (hbw.cell (p := ⟨b1, _, none⟩) (HS'.out _ hSb1)).trans (hc 0 _ rfl); rw [Nat.mul_one, Nat.add_zero] at h; exact h
        have hxlt := hw0 HB.out hx
        have hf := hown.frozenAt k
        obtain ⟨y0, hy0⟩ := get_some (xs := xs.flatMap Wc) (k := k) hown.1 (by omega)
        have q0 : wr.cell? ⟨w.heap.size, k, none⟩ = some y0 := by rw [hown.cellAt _ (by omega)]; exact hy0
        have HO := Lib.hid hown
        have HBW := Lib.hid hbw
        have HSUM := Lib.hid hsum
        have HXX := Lib.hid hx
        have HXW := Lib.hid hxw
        clear hown hbw hsum hx hc hy0 hxw
        by_cases hkm : k < n
        · obtain ⟨y, hy⟩ := get_some HX.out.num hkm
          obtain ⟨b2, o2, rfl, hSb2, hc2⟩ := HX.out.elem Wc.clen hy (by omega)
          have q2 : wr.cell? ⟨b2, o2 + k, none⟩ = some (.int .u32 (y : Int)) := by have h := (HBW.out.cell (p := ⟨b2, _, none⟩) (HS.out _ hSb2)).trans (hc2 0 _ rfl); rw [Nat.mul_one, Nat.add_zero] at h; exact h
          have hylt := hw0 HA.out hy
          have HYY := Lib.hid hy
          clear hy hc2
          go_wp2_with fail
          have ho1 := HO.out.stored k (.int .u32 (((q + x + y) % W32 : Nat) : Int))
          have hset : (xs.flatMap Wc).set k (.int .u32 (((q + x + y) % W32 : Nat) : Int)) = (xs.set k ((q + x + y) % W32)).flatMap Wc := by
            have h := putAll_flat (f := Wc) (size := 1) Wc.clen ((q + x + y) % W32) xs k (by omega)
            rw [Nat.mul_one] at h
            exact h
          have HO1 := Lib.hid (by have h := ho1.1; rw [hset] at h; exact h)
          have HB2 := Lib.hid (HBW.out.grown ho1.2 (Nat.le_of_lt (HO.out.lt w.heap.size rfl).2) (fun g hg => by injection hg with hg; omega))
          clear ho1 hset
          refine ⟨⟨k + 1, (q + x + y) / W32, xs.set k ((q + x + y) % W32), by omega, ?_, by go_num, ?_, by simp [hxl], wds_set HXW.out (Nat.mod_lt _ (by decide)), ?_, HO1.out, HB2.out⟩, by simp [intOf]; omega⟩
          · rfl
          · show (q + x + y) / 4294967296 < 2; omega
          · rw [nv_take_succ HXX.out, nv_take_succ HYY.out]; exact add_step (by omega) HSUM.out rfl
        · go_wp2_with fail
          have ho1 := HO.out.stored k (.int .u32 (((q + x) % W32 : Nat) : Int))
          have hset : (xs.flatMap Wc).set k (.int .u32 (((q + x) % W32 : Nat) : Int)) = (xs.set k ((q + x) % W32)).flatMap Wc := by
            have h := putAll_flat (f := Wc) (size := 1) Wc.clen ((q + x) % W32) xs k (by omega)
            rw [Nat.mul_one] at h
            exact h
          have HO1 := Lib.hid (by have h := ho1.1; rw [hset] at h; exact h)
          have HB2 := Lib.hid (HBW.out.grown ho1.2 (Nat.le_of_lt (HO.out.lt w.heap.size rfl).2) (fun g hg => by injection hg with hg; omega))
          clear ho1 hset
          refine ⟨⟨k + 1, (q + x) / W32, xs.set k ((q + x) % W32), by omega, ?_, by go_num, ?_, by simp [hxl], wds_set HXW.out (Nat.mod_lt _ (by decide)), ?_, HO1.out, HB2.out⟩, by simp [intOf]; omega⟩
          · rfl
          · show (q + x) / 4294967296 < 2; omega
          · have hb := HSUM.out
            rw [nv_take_succ HXX.out]
            have e : a.take (k + 1) = a.take k := by rw [List.take_of_length_le (by rw [HX.out.num]; omega), List.take_of_length_le (by rw [HX.out.num]; omega)]
            rw [e]
            have h := add_step (x := x) (y := 0) (p := q + x) (show k < xs.length by omega) hb (by omega)
            rw [Nat.mul_zero, Nat.add_zero] at h
            exact h
      · obtain rfl : m = k := by omega
        have hf := hown.frozenAt m
        obtain ⟨y0, hy0⟩ := get_some (xs := xs.flatMap Wc) (k := m) hown.1 (by omega)
        have q0 : wr.cell? ⟨w.heap.size, m, none⟩ = some y0 := by rw [hown.cellAt _ (by omega)]; exact hy0
        have HO := Lib.hid hown
        have HBW := Lib.hid hbw
        have HXW := Lib.hid hxw
        have hfin : nv (xs.set m q) = nv b + nv a := by
          have h := nv_set_take (xs := xs) (k := m) (v := q) (by omega)
          rw [List.take_of_length_le (by simp [hxl]), hsum, List.take_of_length_le (by rw [HY.out.num]; exact Nat.le_refl _), List.take_of_length_le (by rw [HX.out.num]; omega)] at h
          exact h
        rw [Nat.add_comm (nv b) (nv a)] at hfin
        have HFIN := Lib.hid hfin
        have ho1 := HO.out.stored m (.int .u32 (q : Int))
        have hset : (xs.flatMap Wc).set m (.int .u32 (q : Int)) = (xs.set m q).flatMap Wc := by
          have h := putAll_flat (f := Wc) (size := 1) Wc.clen q xs m (by omega)
          rw [Nat.mul_one] at h
          exact h
        have HO1 := Lib.hid (by have h := ho1.1; rw [hset] at h; exact h)
        have HB2 := Lib.hid (HBW.out.grown ho1.2 (Nat.le_of_lt (HO.out.lt w.heap.size rfl).2) (fun g hg => by injection hg with hg; omega))
        clear hown hbw hxw hsum hfin hy0 ho1 hset
        go_wp2_with fail
        refine (trim_own w.heap.size w.heap.size (m + 1) (m + 1) (xs.set m q) _ HO1.out (wds_set HXW.out (by show q < 4294967296; omega)) (by omega) (Nat.le_refl _)).mono ?_
        rintro e w9 ⟨rfl, hl9, hr9, hb9⟩
        rw [HFIN.out] at hl9 hr9 ⊢
        have HR9 := Lib.hid hr9
        have HL9 := Lib.hid hl9
        have HB9 := Lib.hid (HB2.out.trans (hb9.mono HB2.out.size))
        clear hr9 hl9 hb9
        go_wp2_with fail
        go_ret
        exact ⟨_, _, rfl, HL9.out, HR9.out, HB9.out⟩
  · go_enter Tryz.func136, Tryz.ntmps136
    go_wp2_with (at_make; go_must (refine wpList_make_full _ rfl _ _ _ rfl w.heap.size 119 i0 _ 1 Tryz.underlying66 hi0 hz0 hz1 .i64 .i64 _ _ (n + 1) rfl rfl (by omega) (by omega) (by rw [hz2]; omega) (by simp only [maxLen]; omega) (Nat.le_refl _) ?_); intro w1 hown1 hg1)
    have hinv : w1.ownsRow w.heap.size 119 1 (.slice (some ⟨w.heap.size, 0, none⟩) (n + 1) (n + 1)) (n + 1) ((List.replicate (n + 1) 0).flatMap Wc) := by
      have h := hown1
      rw [made_u32] at h
      exact h
    have HI := Lib.hid hinv
    have HB1 := Lib.hid (below_of_grown hg1 (fun g hg => by cases hg))
    clear hown1 hg1 hinv
    go_loopw [6, 7] (fun cv i wr => ∃ (k q : Nat) (xs : List Nat), k ≤ n ∧ cv = .int .u64 q ∧ i = .int .i64 k ∧ q < 2 ∧ xs.length = n + 1 ∧ Wds xs ∧ nv (xs.take k) + W32 ^ k * q = nv (a.take k) + nv (b.take k) ∧ wr.ownsRow w.heap.size 119 1 (.slice (some ⟨w.heap.size, 0, none⟩) (n + 1) (n + 1)) (n + 1) (xs.flatMap Wc) ∧ Below w.heap.size w wr) (fun _ i _ => n - (intOf i).toNat)
    case atStart => exact ⟨0, 0, List.replicate (n + 1) 0, Nat.zero_le _, rfl, rfl, by decide, by simp, fun x hx => by rw [(List.mem_replicate.1 hx).2]; decide, by simp [nv], HI.out, HB1.out⟩
    case round =>
      obtain ⟨k, q, xs, hk, rfl, rfl, hq, hxl, hxw, hsum, hown, hbw⟩ := hrel
      by_cases hlt : k < n
      · obtain ⟨x, hx⟩ := get_some HX.out.num hlt
        obtain ⟨b1, o1, rfl, hSb1, hc⟩ := HX.out.elem Wc.clen hx (by omega)
        have q1 : wr.cell? ⟨b1, o1 + k, none⟩ = some (.int .u32 (x : Int)) := by have h := (hbw.cell (p := ⟨b1, _, none⟩) (HS.out _ hSb1)).trans (hc 0 _ rfl); rw [Nat.mul_one, Nat.add_zero] at h; exact h
        have hxlt := hw0 HA.out hx
        have hf := hown.frozenAt k
        obtain ⟨y0, hy0⟩ := get_some (xs := xs.flatMap Wc) (k := k) hown.1 (by omega)
        have q0 : wr.cell? ⟨w.heap.size, k, none⟩ = some y0 := by rw [hown.cellAt _ (by omega)]; exact hy0
        have HO := Lib.hid hown
        have HBW := Lib.hid hbw
        have HSUM := Lib.hid hsum
        have HXX := Lib.hid hx
        have HXW := Lib.hid hxw
        clear hown hbw hsum hx hc hy0 hxw
        by_cases hkm : k < m
        · obtain ⟨y, hy⟩ := get_some HY.out.num hkm
          obtain ⟨b2, o2, rfl, hSb2, hc2⟩ := HY.out.elem Wc.clen hy (by omega)
          have q2 : wr.cell? ⟨b2, o2 + k, none⟩ = some (.int .u32 (y : Int)) := by have h := (HBW.out.cell (p := ⟨b2, _, none⟩) (HS'.out _ hSb2)).trans (hc2 0 _ rfl); rw [Nat.mul_one, Nat.add_zero] at h; exact h
          have hylt := hw0 HB.out hy
          have HYY := Lib.hid hy
          clear hy hc2
          go_wp2_with fail
          have ho1 := HO.out.stored k (.int .u32 (((q + x + y) % W32 : Nat) : Int))
          have hset : (xs.flatMap Wc).set k (.int .u32 (((q + x + y) % W32 : Nat) : Int)) = (xs.set k ((q + x + y) % W32)).flatMap Wc := by
            have h := putAll_flat (f := Wc) (size := 1) Wc.clen ((q + x + y) % W32) xs k (by omega)
            rw [Nat.mul_one] at h
            exact h
          have HO1 := Lib.hid (by have h := ho1.1; rw [hset] at h; exact h)
          have HB2 := Lib.hid (HBW.out.grown ho1.2 (Nat.le_of_lt (HO.out.lt w.heap.size rfl).2) (fun g hg => by injection hg with hg; omega))
          clear ho1 hset
          refine ⟨⟨k + 1, (q + x + y) / W32, xs.set k ((q + x + y) % W32), by omega, ?_, by go_num, ?_, by simp [hxl], wds_set HXW.out (Nat.mod_lt _ (by decide)), ?_, HO1.out, HB2.out⟩, by simp [intOf]; omega⟩
          · rfl
          · show (q + x + y) / 4294967296 < 2; omega
          · rw [nv_take_succ HXX.out, nv_take_succ HYY.out]; exact add_step (by omega) HSUM.out rfl
        · go_wp2_with fail
          have ho1 := HO.out.stored k (.int .u32 (((q + x) % W32 : Nat) : Int))
          have hset : (xs.flatMap Wc).set k (.int .u32 (((q + x) % W32 : Nat) : Int)) = (xs.set k ((q + x) % W32)).flatMap Wc := by
            have h := putAll_flat (f := Wc) (size := 1) Wc.clen ((q + x) % W32) xs k (by omega)
            rw [Nat.mul_one] at h
            exact h
          have HO1 := Lib.hid (by have h := ho1.1; rw [hset] at h; exact h)
          have HB2 := Lib.hid (HBW.out.grown ho1.2 (Nat.le_of_lt (HO.out.lt w.heap.size rfl).2) (fun g hg => by injection hg with hg; omega))
          clear ho1 hset
          refine ⟨⟨k + 1, (q + x) / W32, xs.set k ((q + x) % W32), by omega, ?_, by go_num, ?_, by simp [hxl], wds_set HXW.out (Nat.mod_lt _ (by decide)), ?_, HO1.out, HB2.out⟩, by simp [intOf]; omega⟩
          · rfl
          · show (q + x) / 4294967296 < 2; omega
          · have hb := HSUM.out
            rw [nv_take_succ HXX.out]
            have e : b.take (k + 1) = b.take k := by rw [List.take_of_length_le (by rw [HY.out.num]; omega), List.take_of_length_le (by rw [HY.out.num]; omega)]
            rw [e]
            have h := add_step (x := x) (y := 0) (p := q + x) (show k < xs.length by omega) hb (by omega)
            rw [Nat.mul_zero, Nat.add_zero] at h
            exact h
      · obtain rfl : n = k := by omega
        have hf := hown.frozenAt n
        obtain ⟨y0, hy0⟩ := get_some (xs := xs.flatMap Wc) (k := n) hown.1 (by omega)
        have q0 : wr.cell? ⟨w.heap.size, n, none⟩ = some y0 := by rw [hown.cellAt _ (by omega)]; exact hy0
        have HO := Lib.hid hown
        have HBW := Lib.hid hbw
        have HXW := Lib.hid hxw
        have hfin : nv (xs.set n q) = nv a + nv b := by
          have h := nv_set_take (xs := xs) (k := n) (v := q) (by omega)
          rw [List.take_of_length_le (by simp [hxl]), hsum, List.take_of_length_le (by rw [HX.out.num]; exact Nat.le_refl _), List.take_of_length_le (by rw [HY.out.num]; omega)] at h
          exact h
        have HFIN := Lib.hid hfin
        have ho1 := HO.out.stored n (.int .u32 (q : Int))
        have hset : (xs.flatMap Wc).set n (.int .u32 (q : Int)) = (xs.set n q).flatMap Wc := by
          have h := putAll_flat (f := Wc) (size := 1) Wc.clen q xs n (by omega)
          rw [Nat.mul_one] at h
          exact h
        have HO1 := Lib.hid (by have h := ho1.1; rw [hset] at h; exact h)
        have HB2 := Lib.hid (HBW.out.grown ho1.2 (Nat.le_of_lt (HO.out.lt w.heap.size rfl).2) (fun g hg => by injection hg with hg; omega))
        clear hown hbw hxw hsum hfin hy0 ho1 hset
        go_wp2_with fail
        refine (trim_own w.heap.size w.heap.size (n + 1) (n + 1) (xs.set n q) _ HO1.out (wds_set HXW.out (by show q < 4294967296; omega)) (by omega) (Nat.le_refl _)).mono ?_
        rintro e w9 ⟨rfl, hl9, hr9, hb9⟩
        rw [HFIN.out] at hl9 hr9 ⊢
        have HR9 := Lib.hid hr9
        have HL9 := Lib.hid hl9
        have HB9 := Lib.hid (HB2.out.trans (hb9.mono HB2.out.size))
        clear hr9 hl9 hb9
        go_wp2_with fail
        go_ret
        exact ⟨_, _, rfl, HL9.out, HR9.out, HB9.out⟩

end Go.Proofs.YtjokpfgncmdomaaGreatDoor

/- sub: the walk -/
namespace Go.Proofs.YtjokpfgncmdomaaGreatDoor
open Go.RowKit Go.Sort

theorem sub_step {xs : List Nat} {k q s x y q' : Nat} {X Y : Nat} (hl : k < xs.length) (h : X + W32 ^ k * q = nv (xs.take k) + Y) (hp : x + W32 * q' = s + q + y) :
    (X + W32 ^ k * x) + W32 ^ (k + 1) * q' = nv ((xs.set k s).take (k + 1)) + (Y + W32 ^ k * y) := by
  rw [nv_set_take hl, Nat.pow_succ, Nat.mul_assoc]
  have h1 : W32 ^ k * x + W32 ^ k * (W32 * q') = W32 ^ k * s + W32 ^ k * q + W32 ^ k * y := by rw [← Nat.mul_add, hp, Nat.mul_add, Nat.mul_add]
  omega

theorem borrow {x q y : Nat} (hx : x < 4294967296) (hq : q < 2) (hy : y < 4294967296) : ∃ q' s : Nat, IntKind.u64.wrap (IntKind.u64.wrap ((x : Int) - q) - y) / 9223372036854775808 = (q' : Int) ∧ IntKind.u64.wrap (IntKind.u64.wrap ((x : Int) - q) - y) % 4294967296 = (s : Int) ∧ q' < 2 ∧ s < W32 ∧ x + W32 * q' = s + q + y := by
  have e : IntKind.u64.wrap (IntKind.u64.wrap ((x : Int) - q) - y) = ((x : Int) - q - y) % 18446744073709551616 := by
    rw [IntKind.wrap_u64, IntKind.wrap_u64]; omega
  rw [e]
  show ∃ q' s : Nat, _ ∧ _ ∧ q' < 2 ∧ s < 4294967296 ∧ x + 4294967296 * q' = s + q + y
  by_cases h : q + y ≤ x
  · exact ⟨0, x - q - y, by omega, by omega, by omega, by omega, by omega⟩
  · exact ⟨1, x + 4294967296 - q - y, by omega, by omega, by omega, by omega, by omega⟩
theorem borrow0 {x q : Nat} (hx : x < 4294967296) (hq : q < 2) : ∃ q' s : Nat, IntKind.u64.wrap ((x : Int) - q) / 9223372036854775808 = (q' : Int) ∧ IntKind.u64.wrap ((x : Int) - q) % 4294967296 = (s : Int) ∧ q' < 2 ∧ s < W32 ∧ x + W32 * q' = s + q + 0 := by
  have h := borrow hx hq (y := 0) (by omega)
  have e : IntKind.u64.wrap (IntKind.u64.wrap ((x : Int) - q) - (0 : Nat)) = IntKind.u64.wrap ((x : Int) - q) := by
    rw [IntKind.wrap_u64, IntKind.wrap_u64]; omega
  rw [e] at h
  exact h

theorem sub_any (A B : Option Addr) (n m c d : Nat) (a b : List Nat) (S S' : Nat → Prop) (w : World) (hx : RdE Wc 1 w S A n a) (hy : RdE Wc 1 w S' B m b) (ha : Wds a) (hb : Wds b) (hS : ∀ b, S b → b < w.heap.size) (hS' : ∀ b, S' b → b < w.heap.size)
    (hn : n ≤ 100000000000) (hm : m ≤ n) (hle : nv b ≤ nv a) :
    Calls Tryz.prog 146 #[.slice A n c, .slice B m d] w fun e w' => ∃ A' c', e = .returned (.slice A' (dig (nv a - nv b)).length c') ∧ (dig (nv a - nv b)).length ≤ c' ∧ RdE Wc 1 w' (fun b => w.heap.size ≤ b ∧ b < w'.heap.size) A' (dig (nv a - nv b)).length (dig (nv a - nv b)) ∧ Below w.heap.size w w' := by
  obtain ⟨i0, hi0, hz0, hz1, hz2⟩ := info_parts' info_u32
  have HX := Lib.hid hx
  have HY := Lib.hid hy
  have HA := Lib.hid ha
  have HB := Lib.hid hb
  have HS := Lib.hid hS
  have HS' := Lib.hid hS'
  have HLE := Lib.hid hle
  clear hx hy ha hb hS hS' hle
  go_enter Tryz.func146, Tryz.ntmps146
  go_wp2_with (at_make; go_must (refine wpList_make_full _ rfl _ _ _ rfl w.heap.size 119 i0 _ 1 Tryz.underlying66 hi0 hz0 hz1 .i64 .i64 _ _ n rfl rfl (by omega) (by omega) (by rw [hz2]; omega) (by simp only [maxLen]; omega) (Nat.le_refl _) ?_); intro w1 hown1 hg1)
  have hinv := hown1
  rw [made_u32] at hinv
  have HI := Lib.hid hinv
  have HB1 := Lib.hid (below_of_grown hg1 (fun g hg => by cases hg))
  clear hown1 hg1 hinv
  go_loopw [6, 7] (fun cv i wr => ∃ (k q : Nat) (xs : List Nat), k ≤ n ∧ cv = .int .u64 q ∧ i = .int .i64 k ∧ q < 2 ∧ xs.length = n ∧ Wds xs ∧ nv (a.take k) + W32 ^ k * q = nv (xs.take k) + nv (b.take k) ∧ wr.ownsRow w.heap.size 119 1 (.slice (some ⟨w.heap.size, 0, none⟩) n n) n (xs.flatMap Wc) ∧ Below w.heap.size w wr) (fun _ i _ => n - (intOf i).toNat)
  case atStart => exact ⟨0, 0, List.replicate n 0, Nat.zero_le _, rfl, rfl, by decide, by simp, fun x hx => by rw [(List.mem_replicate.1 hx).2]; decide, by simp [nv], HI.out, HB1.out⟩
  case round =>
    obtain ⟨k, q, xs, hk, rfl, rfl, hq, hxl, hxw, hsum, hown, hbw⟩ := hrel
    by_cases hlt : k < n
    · obtain ⟨x, hx⟩ := get_some HX.out.num hlt
      obtain ⟨b1, o1, rfl, hSb1, hc⟩ := HX.out.elem Wc.clen hx (by omega)
      have q1 : wr.cell? ⟨b1, o1 + k, none⟩ = some (.int .u32 (x : Int)) := by have h := (hbw.cell (p := ⟨b1, _, none⟩) (HS.out _ hSb1)).trans (hc 0 _ rfl); rw [Nat.mul_one, Nat.add_zero] at h; exact h
      have hxlt := hw0 HA.out hx
      have hf := hown.frozenAt k
      obtain ⟨y0, hy0⟩ := get_some (xs := xs.flatMap Wc) (k := k) hown.1 (by omega)
      have q0 : wr.cell? ⟨w.heap.size, k, none⟩ = some y0 := by rw [hown.cellAt _ (by omega)]; exact hy0
      have HO := Lib.hid hown
      have HBW := Lib.hid hbw
      have HSUM := Lib.hid hsum
      have HXX := Lib.hid hx
      have HXW := Lib.hid hxw
      clear hown hbw hsum hx hc hy0 hxw
      by_cases hkm : k < m
      · obtain ⟨y, hy⟩ := get_some HY.out.num hkm
        obtain ⟨b2, o2, rfl, hSb2, hc2⟩ := HY.out.elem Wc.clen hy (by omega)
        have q2 : wr.cell? ⟨b2, o2 + k, none⟩ = some (.int .u32 (y : Int)) := by have h := (HBW.out.cell (p := ⟨b2, _, none⟩) (HS'.out _ hSb2)).trans (hc2 0 _ rfl); rw [Nat.mul_one, Nat.add_zero] at h; exact h
        have hylt := hw0 HB.out hy
        have HYY := Lib.hid hy
        clear hy hc2
        go_wp2_with fail
        obtain ⟨q', s, e1, e2, hq', hs', hxs⟩ := borrow hxlt hq hylt
        rw [e1, e2]
        have ho1 := HO.out.stored k (.int .u32 (s : Int))
        have hset : (xs.flatMap Wc).set k (.int .u32 (s : Int)) = (xs.set k s).flatMap Wc := by
          have h := putAll_flat (f := Wc) (size := 1) Wc.clen s xs k (by omega)
          rw [Nat.mul_one] at h
          exact h
        have HO1 := Lib.hid (by have h := ho1.1; rw [hset] at h; exact h)
        have HB2 := Lib.hid (HBW.out.grown ho1.2 (Nat.le_of_lt (HO.out.lt w.heap.size rfl).2) (fun g hg => by injection hg with hg; omega))
        clear ho1 hset
        refine ⟨⟨k + 1, q', xs.set k s, by omega, rfl, by go_num, hq', by simp [hxl], wds_set HXW.out hs', ?_, HO1.out, HB2.out⟩, by simp [intOf]; omega⟩
        rw [nv_take_succ HXX.out, nv_take_succ HYY.out]
        exact sub_step (by omega) HSUM.out hxs
      · go_wp2_with fail
        obtain ⟨q', s, e1, e2, hq', hs', hxs⟩ := borrow0 hxlt hq
        rw [e1, e2]
        have ho1 := HO.out.stored k (.int .u32 (s : Int))
        have hset : (xs.flatMap Wc).set k (.int .u32 (s : Int)) = (xs.set k s).flatMap Wc := by
          have h := putAll_flat (f := Wc) (size := 1) Wc.clen s xs k (by omega)
          rw [Nat.mul_one] at h
          exact h
        have HO1 := Lib.hid (by have h := ho1.1; rw [hset] at h; exact h)
        have HB2 := Lib.hid (HBW.out.grown ho1.2 (Nat.le_of_lt (HO.out.lt w.heap.size rfl).2) (fun g hg => by injection hg with hg; omega))
        clear ho1 hset
        refine ⟨⟨k + 1, q', xs.set k s, by omega, rfl, by go_num, hq', by simp [hxl], wds_set HXW.out hs', ?_, HO1.out, HB2.out⟩, by simp [intOf]; omega⟩
        have e : b.take (k + 1) = b.take k := by rw [List.take_of_length_le (by rw [HY.out.num]; omega), List.take_of_length_le (by rw [HY.out.num]; omega)]
        rw [nv_take_succ HXX.out, e]
        have h := sub_step (y := 0) (show k < xs.length by omega) HSUM.out hxs
        rw [Nat.mul_zero, Nat.add_zero] at h
        exact h
    · obtain rfl : n = k := by omega
      have HO := Lib.hid hown
      have HBW := Lib.hid hbw
      have HXW := Lib.hid hxw
      have hfin : nv xs = nv a - nv b := by
        have h := hsum
        rw [List.take_of_length_le (by rw [HX.out.num]; exact Nat.le_refl _), List.take_of_length_le (by omega), List.take_of_length_le (by rw [HY.out.num]; omega)] at h
        have hl := nv_lt HXW.out
        rw [hxl] at hl
        have hle := HLE.out
        have hq0 : q = 0 := by
          by_cases e : q = 0
          · exact e
          · have : q = 1 := by omega
            rw [this] at h
            omega
        rw [hq0] at h
        omega
      have HFIN := Lib.hid hfin
      clear hown hbw hxw hsum hfin
      go_wp2_with fail
      refine (trim_own w.heap.size w.heap.size n n xs _ HO.out HXW.out (by omega) (Nat.le_refl _)).mono ?_
      rintro e w9 ⟨rfl, hl9, hr9, hb9⟩
      rw [HFIN.out] at hl9 hr9 ⊢
      have HR9 := Lib.hid hr9
      have HL9 := Lib.hid hl9
      have HB9 := Lib.hid (HBW.out.trans (hb9.mono HBW.out.size))
      clear hr9 hl9 hb9
      go_wp2_with fail
      go_ret
      exact ⟨_, _, rfl, HL9.out, HR9.out, HB9.out⟩

end Go.Proofs.YtjokpfgncmdomaaGreatDoor

/- plain laws of numbers in words: places, Knuth's division -/
namespace Go.Proofs.YtjokpfgncmdomaaGreatDoor

theorem nv_set {xs : List Nat} {t o v : Nat} (h : xs[t]? = some o) : nv (xs.set t v) + W32 ^ t * o = nv xs + W32 ^ t * v := by
  induction xs generalizing t with
  | nil => simp at h
  | cons x xs ih =>
    cases t with
    | zero =>
      simp at h
      subst h
      simp [nv]
      omega
    | succ t =>
      have h2 := ih (t := t) (by simpa using h)
      simp only [List.set_cons_succ, nv, Nat.pow_succ]
      have e : ∀ z, W32 ^ t * W32 * z = W32 * (W32 ^ t * z) := fun z => by rw [Nat.mul_comm (W32 ^ t) W32, Nat.mul_assoc]
      rw [e, e]
      have h3 : W32 * (nv (xs.set t v) + W32 ^ t * o) = W32 * (nv xs + W32 ^ t * v) := by rw [h2]
      rw [Nat.mul_add, Nat.mul_add] at h3
      omega
/-- one word of Knuth's estimate: the invariant of the guess -/
theorem kn_start {P U V h u2 ul top next vl : Nat} (hV : V = (top * W32 + next) * P + vl) (hU : U = (h * W32 + u2) * P + ul) (hul : ul < P) (hu2 : u2 < W32) (htop : 0 < top) : U / V ≤ h / top := by
  have hV0 : 0 < V := by
    rw [hV]
    have : 0 < P := by omega
    have h2 : 0 < top * W32 := Nat.mul_pos htop (by decide)
    have : 0 < (top * W32 + next) * P := Nat.mul_pos (Nat.add_pos_left h2 _) this
    omega
  rw [Nat.le_div_iff_mul_le htop]
  have h1 : U / V * V ≤ U := Nat.div_mul_le_self U V
  generalize U / V = q at *
  have h2 : q * top * (W32 * P) ≤ q * V := by
    rw [hV, Nat.mul_assoc]
    apply Nat.mul_le_mul_left
    rw [Nat.add_mul, Nat.mul_assoc]
    omega
  have h3 : U < (h + 1) * (W32 * P) := by
    rw [hU, Nat.add_mul, Nat.add_mul h, Nat.mul_assoc h, Nat.one_mul]
    have : (u2 + 1) * P ≤ W32 * P := Nat.mul_le_mul_right _ hu2
    rw [Nat.add_mul, Nat.one_mul] at this
    omega
  have h4 : q * top * (W32 * P) < (h + 1) * (W32 * P) := by omega
  have := Nat.lt_of_mul_lt_mul_right h4
  omega
/-- the guess is too great -/
theorem kn_great {P U V h u2 ul top next vl g r : Nat} (hV : V = (top * W32 + next) * P + vl) (hU : U = (h * W32 + u2) * P + ul) (hul : ul < P) (hr : g * top + r = h) (hbig : r * W32 + u2 < g * next) : U / V < g := by
  have hlt : U < g * V := by
    rw [hU, hV, ← hr]
    have h1 : (r * W32 + u2 + 1) * P ≤ g * next * P := Nat.mul_le_mul_right _ hbig
    have e1 : ((g * top + r) * W32 + u2) * P = g * top * W32 * P + (r * W32 + u2) * P := by
      rw [Nat.add_mul (g * top), Nat.add_assoc, Nat.add_mul]
    have e2 : g * ((top * W32 + next) * P + vl) = g * top * W32 * P + g * next * P + g * vl := by
      simp only [Nat.mul_add, Nat.add_mul, Nat.mul_assoc]
    rw [e1, e2]
    rw [Nat.add_mul, Nat.one_mul] at h1
    omega
  exact Nat.div_lt_of_lt_mul (by rw [Nat.mul_comm]; exact hlt)
/-- the guess is at most one too great -/
theorem kn_near {P U V h u2 ul top next vl g r : Nat} (hV : V = (top * W32 + next) * P + vl) (hU : U = (h * W32 + u2) * P + ul) (hvl : vl < P) (hr : g * top + r = h) (hg : g < W32) (htop : 0 < top) (hok : g * next ≤ r * W32 + u2) : (g - 1) * V ≤ U := by
  have h1 : g * (top * W32 + next) ≤ h * W32 + u2 := by
    rw [← hr, Nat.mul_add, Nat.add_mul, ← Nat.mul_assoc]
    omega
  have h2 : (g - 1) * (top * W32 + next + 1) ≤ g * (top * W32 + next) := by
    cases g with
    | zero => simp
    | succ g =>
      have : W32 ≤ top * W32 := Nat.le_mul_of_pos_left _ htop
      rw [Nat.add_sub_cancel, Nat.mul_add, Nat.mul_one, Nat.add_mul, Nat.one_mul]
      omega
  have h3 : V ≤ (top * W32 + next + 1) * P := by rw [hV, Nat.add_mul _ 1, Nat.one_mul]; omega
  have h4 : (g - 1) * V ≤ (g - 1) * ((top * W32 + next + 1) * P) := Nat.mul_le_mul_left _ h3
  have h5 : (g - 1) * ((top * W32 + next + 1) * P) ≤ (h * W32 + u2) * P := by
    rw [← Nat.mul_assoc]
    exact Nat.mul_le_mul_right _ (Nat.le_trans h2 h1)
  omega

/-- multiply and take off: one place -/
theorem ms_step {W c g v p u d s d' : Nat} (hp : p = c + g * v) (hs : u + W * d' = s + p % W + d) : u + W * (p / W + d') = s + d + c + g * v := by
  have := Nat.mod_add_div p W
  rw [Nat.mul_add]
  omega
theorem nv_split (xs : List Nat) (t : Nat) : nv xs = nv (xs.take t) + W32 ^ t * nv (xs.drop t) := by
  by_cases h : t ≤ xs.length
  · conv => lhs; rw [← List.take_append_drop t xs]
    rw [nv_append, List.length_take, Nat.min_eq_left h]
  · rw [List.take_of_length_le (by omega), List.drop_of_length_le (by omega)]
    simp [nv]
theorem nv_take_lt {ws : List Nat} (h : Wds ws) (t : Nat) : nv (ws.take t) < W32 ^ t := by
  have h1 := nv_lt (h.take t)
  exact Nat.lt_of_lt_of_le h1 (Nat.pow_le_pow_right (by decide) (by rw [List.length_take]; omega))
theorem w_pos (k : Nat) : 0 < W32 ^ k := Nat.pow_pos (by decide)
theorem own_wc {w : World} {base e g n cap : Nat} {ys : List Nat} (h : w.ownsRow base e 1 (.slice (some ⟨g, 0, none⟩) n cap) n (ys.flatMap Wc)) {i o : Nat} (ho : ys[i]? = some o) : w.cell? ⟨g, i, none⟩ = some (.int .u32 (o : Int)) := by
  have h1 := own_elem Wc.clen h ho 0 _ rfl
  rwa [Nat.mul_one, Nat.add_zero] at h1
theorem own_set_wc {w : World} {base e g n cap : Nat} {ys : List Nat} (h : w.ownsRow base e 1 (.slice (some ⟨g, 0, none⟩) n cap) n (ys.flatMap Wc)) {i : Nat} (hi : i < ys.length) (s : Nat) :
    (w.setCell ⟨g, i, none⟩ (.int .u32 (s : Int))).ownsRow base e 1 (.slice (some ⟨g, 0, none⟩) n cap) n ((ys.set i s).flatMap Wc) ∧ w.grownBy (w.setCell ⟨g, i, none⟩ (.int .u32 (s : Int))) (some g) := by
  have h1 := h.stored i (.int .u32 (s : Int))
  have h2 := putAll_flat (f := Wc) (size := 1) Wc.clen s ys i hi
  rw [Nat.mul_one] at h2
  rw [← h2]
  exact h1
theorem own_drewN {w : World} {base e size n : Nat} {v : Value} {xs : List Value} (h : w.ownsRow base e size v n xs) (k : Nat) : (w.drewN k).ownsRow base e size v n xs := h
/-- words given one by one -/
theorem nv_of_get (Y : Nat) : ∀ (r : List Nat) (i : Nat), (∀ k x, r[k]? = some x → x = Y / W32 ^ (i + k) % W32) → Y / W32 ^ i < W32 ^ r.length → nv r = Y / W32 ^ i
  | [], i, _, h => by
    simp only [List.length_nil, Nat.pow_zero] at h
    rw [nv]; generalize Y / W32 ^ i = z at *; omega
  | x :: r, i, hr, h => by
    have h0 := hr 0 x (by simp)
    have e : Y / W32 ^ (i + 1) = Y / W32 ^ i / W32 := by rw [Nat.pow_succ, Nat.div_div_eq_div_mul]
    have ih := nv_of_get Y r (i + 1) (fun k y hy => by rw [hr (k + 1) y (by simpa using hy)]; congr 3; omega) (by
      rw [e]
      rw [List.length_cons, Nat.pow_succ] at h
      exact Nat.div_lt_of_lt_mul (by rw [Nat.mul_comm]; exact h))
    rw [nv, ih, h0, e, Nat.add_zero]
    exact Nat.mod_add_div _ _
theorem small_step {A W r r' x q d Pi N Q : Nat} (h : A = (N + Pi * x) + Pi * W * r + d * Q) (hd : r * W + x = d * q + r') : A = N + Pi * r' + d * (Q + Pi * q) := by
  have e : Pi * x + Pi * W * r = Pi * (d * q + r') := by rw [← hd, Nat.mul_add, Nat.mul_assoc, Nat.mul_comm r W]; omega
  have e2 : d * (Q + Pi * q) = d * Q + Pi * (d * q) := by rw [Nat.mul_add, Nat.mul_left_comm]
  rw [h, e2]
  rw [Nat.mul_add] at e
  omega

/-- the words after position t are 0 -/
def ZeroFrom (xs : List Nat) (t : Nat) : Prop := ∀ (i x : Nat), t ≤ i → xs[i]? = some x → x = 0
theorem nv_zero : ∀ {xs : List Nat}, (∀ (i x : Nat), xs[i]? = some x → x = 0) → nv xs = 0
  | [], _ => rfl
  | y :: xs, h => by
    have h1 := h 0 y (by simp)
    have h2 := nv_zero (xs := xs) (fun i x hx => h (i + 1) x (by simpa using hx))
    rw [nv, h1, h2]; rfl
theorem ZeroFrom.val {xs : List Nat} {t : Nat} (h : ZeroFrom xs t) : nv xs = nv (xs.take t) := by
  rw [nv_split xs t, nv_zero (xs := xs.drop t) (fun i x hx => by rw [List.getElem?_drop] at hx; exact h (t + i) x (by omega) hx), Nat.mul_zero, Nat.add_zero]
theorem ZeroFrom.set {xs : List Nat} {t i v : Nat} (h : ZeroFrom xs t) (hi : i < t) : ZeroFrom (xs.set i v) t := fun k x hk hx => by
  rw [List.getElem?_set_ne (by omega)] at hx
  exact h k x hk hx
theorem ZeroFrom.mono {xs : List Nat} {t t' : Nat} (h : ZeroFrom xs t) (ht : t ≤ t') : ZeroFrom xs t' := fun k x hk hx => h k x (by omega) hx
theorem ZeroFrom.set_at {xs : List Nat} {t v : Nat} (h : ZeroFrom xs t) : ZeroFrom (xs.set t v) (t + 1) := fun k x hk hx => by
  rw [List.getElem?_set_ne (by omega)] at hx
  exact h k x (by omega) hx
theorem zero_rep (n t : Nat) : ZeroFrom (List.replicate n 0) t := fun _ _ _ hx => (List.mem_replicate.1 (List.mem_of_getElem? hx)).2
theorem zeroFrom_of_lt {xs : List Nat} {t : Nat} (h : nv xs < W32 ^ t) : ZeroFrom xs t := by
  intro i x hi hx
  have h1 := nv_split xs i
  have hl := (List.getElem?_eq_some_iff.1 hx).1
  have e : xs.drop i = x :: xs.drop (i + 1) := by
    rw [List.drop_eq_getElem_cons hl, (List.getElem?_eq_some_iff.1 hx).2]
  rw [e, nv] at h1
  have h2 : W32 ^ t ≤ W32 ^ i := Nat.pow_le_pow_right (by decide) hi
  by_cases hx0 : x = 0
  · exact hx0
  · have : W32 ^ i * 1 ≤ W32 ^ i * (x + W32 * nv (xs.drop (i + 1))) := Nat.mul_le_mul_left _ (by omega)
    omega
/-- the words before position t are 0 -/
def ZeroTo (xs : List Nat) (t : Nat) : Prop := ∀ (i x : Nat), i < t → xs[i]? = some x → x = 0
theorem ZeroTo.set {xs : List Nat} {t i v : Nat} (h : ZeroTo xs t) (hi : t ≤ i) : ZeroTo (xs.set i v) t := fun k x hk hx => by
  rw [List.getElem?_set_ne (by omega)] at hx
  exact h k x hk hx
theorem ZeroTo.mono {xs : List Nat} {t t' : Nat} (h : ZeroTo xs t) (ht : t' ≤ t) : ZeroTo xs t' := fun k x hk hx => h k x (by omega) hx
theorem zeroTo_rep (n t : Nat) : ZeroTo (List.replicate n 0) t := fun _ _ _ hx => (List.mem_replicate.1 (List.mem_of_getElem? hx)).2
theorem dig_len_le {N k : Nat} (h : N < W32 ^ k) : (dig N).length ≤ k := by
  by_cases hne : dig N = []
  · rw [hne]; exact Nat.zero_le _
  · have h1 := isDig_pos (dig_isDig N) hne
    rw [nv_dig] at h1
    have h2 : W32 ^ ((dig N).length - 1) < W32 ^ k := Nat.lt_of_le_of_lt h1 h
    have h3 : (dig N).length - 1 < k := by
      apply Nat.lt_of_not_le
      intro h3
      have := Nat.pow_le_pow_right (show 0 < W32 by decide) h3
      omega
    omega
theorem lt_dig_len (N : Nat) : N < W32 ^ (dig N).length := by
  have := nv_lt (dig_wds N)
  rwa [nv_dig] at this
theorem dig_pos {N : Nat} (h : N ≠ 0) : dig N ≠ [] := fun e => h (by rw [← nv_dig N, e]; rfl)
theorem dig_zero : dig 0 = [] := rfl
theorem dig_len_zero {N : Nat} : (dig N).length = 0 ↔ N = 0 := ⟨fun h => by rw [← nv_dig N, List.eq_nil_of_length_eq_zero h]; rfl, fun h => by rw [h]; rfl⟩
theorem dig_len_mono {N M : Nat} (h : N ≤ M) : (dig N).length ≤ (dig M).length := dig_len_le (Nat.lt_of_le_of_lt h (lt_dig_len M))
/-- a list is the words of its number if the last one is something -/
theorem dig_of_wds {ws : List Nat} (h : Wds ws) (hl : ∀ h : ws ≠ [], ws.getLast h ≠ 0) : ws = dig (nv ws) := dig_unique ⟨h, hl⟩
theorem nv_two {N : Nat} (h : (dig N).length ≤ 2) : pl (dig N) = N := by
  have e := nv_dig N
  generalize dig N = l at *
  match l, h with
  | [], _ => exact e
  | [x], _ => simp [pl, nv] at e ⊢; exact e
  | [x, y], _ => simp [pl, nv] at e ⊢; exact e
theorem nv_take2 {v : List Nat} {k x y : Nat} (h0 : v[k]? = some x) (h1 : v[k + 1]? = some y) : nv (v.take (k + 2)) = (y * W32 + x) * W32 ^ k + nv (v.take k) := by
  rw [nv_take_succ h1, nv_take_succ h0, Nat.pow_succ, Nat.add_mul, Nat.mul_assoc (W32 ^ k), Nat.mul_comm x, Nat.mul_comm (y * W32), Nat.mul_comm W32 y]
  omega
theorem kn_v {v : List Nat} {j k next top : Nat} (hw : Wds v) (hv : v.length = k + 2) (h0 : v[k]? = some next) (h1 : v[k + 1]? = some top) :
    ∃ vl, nv v * W32 ^ j = (top * W32 + next) * W32 ^ (j + k) + vl ∧ vl < W32 ^ (j + k) := by
  refine ⟨nv (v.take k) * W32 ^ j, ?_, ?_⟩
  · have h := nv_take2 h0 h1
    rw [List.take_of_length_le (by omega)] at h
    rw [h, Nat.add_mul, Nat.mul_assoc, Nat.pow_add, Nat.mul_comm (W32 ^ j)]
  · rw [Nat.pow_add, Nat.mul_comm]
    exact Nat.mul_lt_mul_of_pos_left (nv_take_lt hw k) (w_pos j)
theorem kn_u {u : List Nat} {t x0 x1 x2 : Nat} (hw : Wds u) (h0 : u[t]? = some x0) (h1 : u[t + 1]? = some x1) (h2 : u[t + 2]? = some x2) (hz : ZeroFrom u (t + 3)) :
    ∃ ul, nv u = ((x2 * W32 + x1) * W32 + x0) * W32 ^ t + ul ∧ ul < W32 ^ t := by
  refine ⟨nv (u.take t), ?_, nv_take_lt hw t⟩
  rw [hz.val, show t + 3 = t + 2 + 1 by omega, nv_take_succ h2, nv_take2 h0 h1, show t + 2 = t + 1 + 1 by omega, Nat.pow_succ, Nat.pow_succ]
  have e : ((x2 * W32 + x1) * W32 + x0) * W32 ^ t = W32 ^ t * W32 * W32 * x2 + (x1 * W32 + x0) * W32 ^ t := by
    simp only [Nat.add_mul]
    rw [Nat.mul_comm (W32 ^ t * W32 * W32) x2, Nat.mul_assoc x2, Nat.mul_assoc x2, Nat.mul_assoc (W32 ^ t), Nat.mul_comm (W32 ^ t) (W32 * W32)]
    omega
  rw [e]
  omega
theorem ms_list {xs v : List Nat} {i j c d g vi o s p d' R : Nat} (ho : xs[j + i]? = some o) (hI : nv xs + W32 ^ j * (g * nv (v.take i)) = R + W32 ^ (j + i) * (c + d)) (hv : v[i]? = some vi) (hp : p = c + g * vi) (hs : o + W32 * d' = s + p % W32 + d) :
    nv (xs.set (j + i) s) + W32 ^ j * (g * nv (v.take (i + 1))) = R + W32 ^ (j + (i + 1)) * (p / W32 + d') := by
  have h1 := nv_set (v := s) ho
  have h2 := ms_step hp hs
  have e1 : W32 ^ j * (g * nv (v.take (i + 1))) = W32 ^ j * (g * nv (v.take i)) + W32 ^ (j + i) * (g * vi) := by
    rw [nv_take_succ hv, Nat.mul_add, Nat.mul_add, Nat.pow_add]
    congr 1
    rw [Nat.mul_left_comm g, Nat.mul_assoc]
  have e2 : W32 ^ (j + (i + 1)) * (p / W32 + d') = W32 ^ (j + i) * (W32 * (p / W32 + d')) := by rw [← Nat.add_assoc, Nat.pow_succ, Nat.mul_assoc]
  have h3 : W32 ^ (j + i) * (o + W32 * (p / W32 + d')) = W32 ^ (j + i) * (s + d + c + g * vi) := by rw [h2]
  rw [e1, e2]
  simp only [Nat.mul_add] at h3 hI ⊢
  omega
theorem kn_done_a {xs : List Nat} {j n y b g V R : Nat} (hI : nv xs + W32 ^ j * (g * V) = R + W32 ^ (j + n) * b) (hy : xs[j + n]? = some y) (hb : b ≤ y) (hQ : R / (V * W32 ^ j) ≤ g) (hV : 0 < V) :
    nv (xs.set (j + n) (y - b)) + W32 ^ j * (g * V) = R ∧ nv (xs.set (j + n) (y - b)) < V * W32 ^ j := by
  have h1 := nv_set (v := y - b) hy
  have h2 : W32 ^ (j + n) * y = W32 ^ (j + n) * (y - b) + W32 ^ (j + n) * b := by rw [← Nat.mul_add, Nat.sub_add_cancel hb]
  have h3 : nv (xs.set (j + n) (y - b)) + W32 ^ j * (g * V) = R := by omega
  refine ⟨h3, ?_⟩
  have h4 : R < V * W32 ^ j * (g + 1) := by
    rw [Nat.mul_comm _ (g + 1), ← Nat.div_lt_iff_lt_mul (Nat.mul_pos hV (w_pos j))]; omega
  have h5 : V * W32 ^ j * (g + 1) = W32 ^ j * (g * V) + V * W32 ^ j := by
    rw [Nat.mul_add, Nat.mul_one, Nat.mul_comm (V * W32 ^ j) g, ← Nat.mul_assoc, Nat.mul_comm (g * V)]
  omega
/-- too much was taken off: the top word then -/
theorem kn_done_b {xs : List Nat} {j n y b g V R : Nat} (hI : nv xs + W32 ^ j * (g * V) = R + W32 ^ (j + n) * b) (hy : xs[j + n]? = some y) (hbl : b ≤ W32 + y) :
    nv (xs.set (j + n) (y + W32 - b)) + W32 ^ j * (g * V) = R + W32 ^ (j + n + 1) := by
  have h1 := nv_set (v := y + W32 - b) hy
  have h2 : W32 ^ (j + n) * y + W32 ^ (j + n) * W32 = W32 ^ (j + n) * (y + W32 - b) + W32 ^ (j + n) * b := by rw [← Nat.mul_add, ← Nat.mul_add]; congr 1; omega
  rw [Nat.pow_succ]
  omega
theorem kn_back {xs : List Nat} {j n y c g V R R' : Nat} (hR : R' + W32 ^ j * (g * V) = R + W32 ^ (j + n + 1)) (hR' : R' < W32 ^ (j + n + 1)) (hI : nv xs + W32 ^ (j + n) * c = R' + W32 ^ j * V) (hy : xs[j + n]? = some y) (hc : c < 2) (hyw : y < W32)
    (hnear : (g - 1) * (V * W32 ^ j) ≤ R) (hg : 0 < g) (hz : ZeroFrom xs (j + n + 1)) (hw : Wds xs) :
    nv (xs.set (j + n) ((y + c) % W32)) + W32 ^ j * ((g - 1) * V) = R ∧ nv (xs.set (j + n) ((y + c) % W32)) < V * W32 ^ j := by
  have e1 : (g - 1) * (V * W32 ^ j) = W32 ^ j * ((g - 1) * V) := by rw [← Nat.mul_assoc, Nat.mul_comm]
  have e2 : W32 ^ j * (g * V) = W32 ^ j * ((g - 1) * V) + W32 ^ j * V := by
    rw [← Nat.mul_add]; congr 1
    conv => lhs; rw [show g = g - 1 + 1 by omega, Nat.add_mul, Nat.one_mul]
  have e3 : V * W32 ^ j = W32 ^ j * V := Nat.mul_comm _ _
  rw [e1] at hnear
  rw [e2] at hR
  have h1 := nv_set (v := (y + c) % W32) hy
  have hlt : nv (xs.set (j + n) ((y + c) % W32)) < W32 ^ (j + n + 1) := by
    rw [(hz.set (v := (y + c) % W32) (show j + n < j + n + 1 by omega)).val]
    exact nv_take_lt (wds_set hw (Nat.mod_lt _ (by decide))) _
  rw [Nat.pow_succ] at hlt hR hR'
  rw [e3]
  by_cases hyc : y + c < W32
  · rw [Nat.mod_eq_of_lt hyc, Nat.mul_add] at h1
    rw [Nat.mod_eq_of_lt hyc] at hlt ⊢
    omega
  · have : (y + c) % W32 = y + c - W32 := by
      rw [Nat.mod_eq_sub_mod (by omega), Nat.mod_eq_of_lt (by omega)]
    rw [this] at h1 hlt ⊢
    have h2 : W32 ^ (j + n) * y + W32 ^ (j + n) * c = W32 ^ (j + n) * (y + c - W32) + W32 ^ (j + n) * W32 := by rw [← Nat.mul_add, ← Nat.mul_add, Nat.sub_add_cancel (Nat.le_of_not_lt hyc)]
    omega
theorem kn_q {A V B Q g j : Nat} (h : A = B + V * Q) {B' Q' : Nat} (hB : B' + W32 ^ j * (g * V) = B) (hQ : Q' + W32 ^ j * 0 = Q + W32 ^ j * g) : A = B' + V * Q' := by
  rw [Nat.mul_zero, Nat.add_zero] at hQ
  rw [h, ← hB, hQ, Nat.mul_add, Nat.add_assoc]
  congr 1
  rw [Nat.mul_comm g V, Nat.mul_left_comm (W32 ^ j) V]
  omega

end Go.Proofs.YtjokpfgncmdomaaGreatDoor
