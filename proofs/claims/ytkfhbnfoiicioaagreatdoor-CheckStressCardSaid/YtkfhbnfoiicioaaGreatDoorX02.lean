import Derived.Test.YtkfhbnfoiicioaaGreatDoorX01
set_option linter.unusedSimpArgs false
set_option linter.unusedVariables false
/- numbers in limbs of 64 bits: as N1, P1, the names changed by program -/
namespace Go.Proofs.YtkfhbnfoiicioaaGreatDoor

/-- a word's cell -/
abbrev Lc (x : Nat) : List Value := [.int .u64 (x : Int)]
theorem Lc.clen (x : Nat) : (Lc x).length = 1 := rfl
abbrev W64 : Nat := 18446744073709551616
def ln : List Nat → Nat
  | [] => 0
  | x :: r => x + W64 * ln r
def Lds (ws : List Nat) : Prop := ∀ x ∈ ws, x < W64
def limF : Nat → Nat → List Nat
  | 0, _ => []
  | f + 1, N => if N = 0 then [] else N % W64 :: limF f (N / W64)
/-- the words of a number, none above the highest that is not 0 -/
def lim (N : Nat) : List Nat := limF N N
def isLim (ws : List Nat) : Prop := Lds ws ∧ ∀ h : ws ≠ [], ws.getLast h ≠ 0

theorem ln_nil : ln [] = 0 := rfl
theorem ln_append (a b : List Nat) : ln (a ++ b) = ln a + W64 ^ a.length * ln b := by
  induction a with
  | nil => simp [ln]
  | cons x a ih =>
    simp only [List.cons_append, ln, ih, List.length_cons, Nat.pow_succ, Nat.mul_add, Nat.add_assoc]
    rw [Nat.mul_comm (W64 ^ a.length) W64, Nat.mul_assoc]
theorem Lds.tail {x : Nat} {r : List Nat} (h : Lds (x :: r)) : Lds r := fun y hy => h y (List.mem_cons_of_mem _ hy)
theorem Lds.head {x : Nat} {r : List Nat} (h : Lds (x :: r)) : x < W64 := h x List.mem_cons_self
theorem Lds.take {a : List Nat} (ha : Lds a) (n : Nat) : Lds (a.take n) := fun y hy => ha y (List.mem_of_mem_take hy)
theorem Lds.drop {a : List Nat} (ha : Lds a) (n : Nat) : Lds (a.drop n) := fun y hy => ha y (List.mem_of_mem_drop hy)
theorem Lds.get {a : List Nat} (ha : Lds a) {i x : Nat} (h : a[i]? = some x) : x < W64 := ha x (List.mem_of_getElem? h)
theorem ln_lt : ∀ {ws : List Nat}, Lds ws → ln ws < W64 ^ ws.length
  | [], _ => by simp [ln]
  | x :: r, h => by
    have h1 := ln_lt h.tail
    have h2 := h.head
    simp only [ln, List.length_cons, Nat.pow_succ]
    have h3 : W64 * ln r + W64 ≤ W64 * W64 ^ r.length := by
      rw [← Nat.mul_succ]
      exact Nat.mul_le_mul_left _ h1
    rw [Nat.mul_comm (W64 ^ r.length) W64]
    omega
theorem limF_ln : ∀ (f N : Nat), N ≤ f → ln (limF f N) = N
  | 0, N, h => by simp [limF, ln]; omega
  | f + 1, N, h => by
    unfold limF
    split
    · rename_i e; rw [e]; rfl
    · have h2 : N / W64 ≤ f := by
        have : N / W64 < N := Nat.div_lt_self (by omega) (by decide)
        omega
      rw [ln, limF_ln f _ h2]
      exact Nat.mod_add_div N W64
theorem ln_dig (N : Nat) : ln (lim N) = N := limF_ln N N (Nat.le_refl _)
theorem limF_lds : ∀ (f N : Nat), Lds (limF f N)
  | 0, N => fun x h => by simp [limF] at h
  | f + 1, N => by
    unfold limF
    split
    · intro x h; simp at h
    · intro x h
      rcases List.mem_cons.1 h with rfl | h
      · exact Nat.mod_lt _ (by decide)
      · exact limF_lds f _ x h
theorem lim_lds (N : Nat) : Lds (lim N) := limF_lds N N
theorem limF_nil {f N : Nat} (hf : N ≤ f) (h : limF f N = []) : N = 0 := by
  have := limF_ln f N hf
  rw [h] at this
  exact this.symm
theorem limF_last : ∀ (f N : Nat), N ≤ f → ∀ h : limF f N ≠ [], (limF f N).getLast h ≠ 0
  | 0, N, _, h => absurd rfl h
  | f + 1, N, hN, h => by
    have h0 : N ≠ 0 := by rintro rfl; simp [limF] at h
    have e : limF (f + 1) N = N % W64 :: limF f (N / W64) := by rw [limF, if_neg h0]
    have hlt : N / W64 ≤ f := by
      have : N / W64 < N := Nat.div_lt_self (by omega) (by decide)
      omega
    simp only [e]
    by_cases hn : limF f (N / W64) = []
    · simp only [hn, List.getLast_singleton]
      have h1 := limF_nil hlt hn
      have h2 := Nat.mod_add_div N W64
      rw [h1] at h2
      omega
    · rw [List.getLast_cons hn]
      exact limF_last f _ hlt hn
theorem lim_isLim (N : Nat) : isLim (lim N) := ⟨lim_lds N, fun h => limF_last N N (Nat.le_refl _) h⟩

/-- words that are trimmed are told by their number -/
theorem isLim_pos {ws : List Nat} (h : isLim ws) (hne : ws ≠ []) : W64 ^ (ws.length - 1) ≤ ln ws := by
  have e := List.dropLast_concat_getLast hne
  rw [← e, ln_append]
  have h1 : ws.dropLast.length = ws.length - 1 := by simp
  have h2 : (ws.dropLast ++ [ws.getLast hne]).length - 1 = ws.length - 1 := by simp
  rw [h2, h1]
  have h3 := h.2 hne
  simp only [ln]
  have : W64 ^ (ws.length - 1) * 1 ≤ W64 ^ (ws.length - 1) * (ws.getLast hne + W64 * 0) := Nat.mul_le_mul_left _ (by omega)
  omega
theorem isLim_zero {ws : List Nat} (h : isLim ws) (h0 : ln ws = 0) : ws = [] := by
  by_cases hne : ws = []
  · exact hne
  · have h1 := isLim_pos h hne
    have h2 : 0 < W64 ^ (ws.length - 1) := Nat.pow_pos (by decide)
    omega
theorem isLim.tail {x : Nat} {r : List Nat} (h : isLim (x :: r)) : isLim r := ⟨h.1.tail, fun hn => by have := h.2 (by simp); rwa [List.getLast_cons hn] at this⟩
theorem isLim_unique : ∀ {a b : List Nat}, isLim a → isLim b → ln a = ln b → a = b
  | [], b, _, hb, h => (isLim_zero hb h.symm).symm
  | a, [], ha, _, h => isLim_zero ha h
  | x :: a, y :: b, ha, hb, h => by
    have hx := ha.1.head
    have hy := hb.1.head
    simp only [ln] at h
    have e1 : x = y := by
      have h1 : (x + W64 * ln a) % W64 = (y + W64 * ln b) % W64 := by rw [h]
      rw [Nat.add_mul_mod_self_left, Nat.add_mul_mod_self_left, Nat.mod_eq_of_lt hx, Nat.mod_eq_of_lt hy] at h1
      exact h1
    subst e1
    have e2 : ln a = ln b := Nat.eq_of_mul_eq_mul_left (show 0 < W64 by decide) (by omega)
    rw [isLim_unique ha.tail hb.tail e2]
theorem lim_unique {ws : List Nat} (h : isLim ws) : ws = lim (ln ws) := isLim_unique h (lim_isLim _) (ln_dig _).symm

theorem ln_split (xs : List Nat) (t : Nat) : ln xs = ln (xs.take t) + W64 ^ t * ln (xs.drop t) := by
  by_cases h : t ≤ xs.length
  · conv => lhs; rw [← List.take_append_drop t xs]
    rw [ln_append, List.length_take, Nat.min_eq_left h]
  · rw [List.take_of_length_le (by omega), List.drop_of_length_le (by omega)]
    simp [ln]
theorem ln_take_lt {ws : List Nat} (h : Lds ws) (t : Nat) : ln (ws.take t) < W64 ^ t := by
  have h1 := ln_lt (h.take t)
  exact Nat.lt_of_lt_of_le h1 (Nat.pow_le_pow_right (by decide) (by rw [List.length_take]; omega))
theorem l_pos (k : Nat) : 0 < W64 ^ k := Nat.pow_pos (by decide)
/-- words given one by one -/
theorem ln_of_get (Y : Nat) : ∀ (r : List Nat) (i : Nat), (∀ k x, r[k]? = some x → x = Y / W64 ^ (i + k) % W64) → Y / W64 ^ i < W64 ^ r.length → ln r = Y / W64 ^ i
  | [], i, _, h => by
    simp only [List.length_nil, Nat.pow_zero] at h
    rw [ln]; generalize Y / W64 ^ i = z at *; omega
  | x :: r, i, hr, h => by
    have h0 := hr 0 x (by simp)
    have e : Y / W64 ^ (i + 1) = Y / W64 ^ i / W64 := by rw [Nat.pow_succ, Nat.div_div_eq_div_mul]
    have ih := ln_of_get Y r (i + 1) (fun k y hy => by rw [hr (k + 1) y (by simpa using hy)]; congr 3; omega) (by
      rw [e]
      rw [List.length_cons, Nat.pow_succ] at h
      exact Nat.div_lt_of_lt_mul (by rw [Nat.mul_comm]; exact h))
    rw [ln, ih, h0, e, Nat.add_zero]
    exact Nat.mod_add_div _ _
/-- the words after position t are 0 -/
def LZeroFrom (xs : List Nat) (t : Nat) : Prop := ∀ (i x : Nat), t ≤ i → xs[i]? = some x → x = 0
theorem ln_zero : ∀ {xs : List Nat}, (∀ (i x : Nat), xs[i]? = some x → x = 0) → ln xs = 0
  | [], _ => rfl
  | y :: xs, h => by
    have h1 := h 0 y (by simp)
    have h2 := ln_zero (xs := xs) (fun i x hx => h (i + 1) x (by simpa using hx))
    rw [ln, h1, h2]; rfl
theorem LZeroFrom.val {xs : List Nat} {t : Nat} (h : LZeroFrom xs t) : ln xs = ln (xs.take t) := by
  rw [ln_split xs t, ln_zero (xs := xs.drop t) (fun i x hx => by rw [List.getElem?_drop] at hx; exact h (t + i) x (by omega) hx), Nat.mul_zero, Nat.add_zero]
theorem lim_len_le {N k : Nat} (h : N < W64 ^ k) : (lim N).length ≤ k := by
  by_cases hne : lim N = []
  · rw [hne]; exact Nat.zero_le _
  · have h1 := isLim_pos (lim_isLim N) hne
    rw [ln_dig] at h1
    have h2 : W64 ^ ((lim N).length - 1) < W64 ^ k := Nat.lt_of_le_of_lt h1 h
    have h3 : (lim N).length - 1 < k := by
      apply Nat.lt_of_not_le
      intro h3
      have := Nat.pow_le_pow_right (show 0 < W64 by decide) h3
      omega
    omega
theorem lt_lim_len (N : Nat) : N < W64 ^ (lim N).length := by
  have := ln_lt (lim_lds N)
  rwa [ln_dig] at this
theorem lim_pos {N : Nat} (h : N ≠ 0) : lim N ≠ [] := fun e => h (by rw [← ln_dig N, e]; rfl)
theorem lim_zero : lim 0 = [] := rfl
theorem lim_len_zero {N : Nat} : (lim N).length = 0 ↔ N = 0 := ⟨fun h => by rw [← ln_dig N, List.eq_nil_of_length_eq_zero h]; rfl, fun h => by rw [h]; rfl⟩
theorem lim_len_mono {N M : Nat} (h : N ≤ M) : (lim N).length ≤ (lim M).length := lim_len_le (Nat.lt_of_le_of_lt h (lt_lim_len M))
/-- a list is the words of its number if the last one is something -/
theorem lim_of_lds {ws : List Nat} (h : Lds ws) (hl : ∀ h : ws ≠ [], ws.getLast h ≠ 0) : ws = lim (ln ws) := lim_unique ⟨h, hl⟩

end Go.Proofs.YtkfhbnfoiicioaaGreatDoor

/- plain laws: bits, shifts -/
namespace Go.Proofs.YtkfhbnfoiicioaaGreatDoor

/-- how many bits a number has -/
def blen (N : Nat) : Nat := if N = 0 then 0 else N.log2 + 1
theorem blen_zero : blen 0 = 0 := rfl
theorem blen_half {t : Nat} (h : t ≠ 0) : blen t = blen (t / 2) + 1 := by
  unfold blen
  rw [if_neg h]
  by_cases h2 : t / 2 = 0
  · have : t = 1 := by omega
    subst this; rfl
  · rw [if_neg h2, Nat.log2_def, if_pos (by omega)]
theorem blen_lt {N : Nat} : N < 2 ^ blen N := by
  unfold blen
  split
  · omega
  · exact Nat.lt_log2_self
theorem blen_le {N : Nat} (h : N ≠ 0) : 2 ^ (blen N - 1) ≤ N := by
  unfold blen
  rw [if_neg h]
  exact Nat.log2_self_le h
theorem blen_uniq {N k : Nat} (h1 : 2 ^ k ≤ N) (h2 : N < 2 ^ (k + 1)) : blen N = k + 1 := by
  have h0 : N ≠ 0 := by have : 0 < 2 ^ k := Nat.pow_pos (by decide); omega
  have h3 := blen_lt (N := N)
  have h4 := blen_le h0
  have h5 : k < blen N := (Nat.pow_lt_pow_iff_right (by decide)).1 (Nat.lt_of_le_of_lt h1 h3)
  have h6 : blen N - 1 < k + 1 := (Nat.pow_lt_pow_iff_right (by decide)).1 (Nat.lt_of_le_of_lt h4 h2)
  omega
theorem blen_le_of_lt {N k : Nat} (h : N < 2 ^ k) : blen N ≤ k := by
  by_cases h0 : N = 0
  · rw [h0]; exact Nat.zero_le _
  · have h4 := blen_le h0
    have h6 : blen N - 1 < k := (Nat.pow_lt_pow_iff_right (by decide)).1 (Nat.lt_of_le_of_lt h4 h)
    omega
theorem blen_pos {N : Nat} (h : N ≠ 0) : 0 < blen N := by unfold blen; rw [if_neg h]; omega
theorem blen_join {k x r : Nat} (hx : x ≠ 0) (hr : r < 2 ^ k) : blen (r + 2 ^ k * x) = k + blen x := by
  have h1 := blen_lt (N := x)
  have h2 := blen_le hx
  have h3 := blen_pos hx
  have e : k + blen x = (k + (blen x - 1)) + 1 := by omega
  rw [e]
  apply blen_uniq
  · rw [Nat.pow_add]
    have := Nat.mul_le_mul_left (2 ^ k) h2
    omega
  · rw [show k + (blen x - 1) + 1 = k + blen x by omega, Nat.pow_add]
    have : 2 ^ k * (x + 1) ≤ 2 ^ k * 2 ^ blen x := Nat.mul_le_mul_left _ h1
    rw [Nat.mul_add, Nat.mul_one] at this
    omega
theorem W32_pow (k : Nat) : W32 ^ k = 2 ^ (32 * k) := by
  rw [Nat.pow_mul]
theorem blen_dig {N x k : Nat} (hk : (dig N).length = k + 1) (hx : (dig N)[k]? = some x) : blen N = 32 * k + blen x := by
  have h1 := nv_split (dig N) k
  rw [nv_dig] at h1
  have hl := (List.getElem?_eq_some_iff.1 hx)
  have e : (dig N).drop k = [x] := by
    rw [List.drop_eq_getElem_cons hl.1, hl.2, List.drop_of_length_le (by omega)]
  have hx0 : x ≠ 0 := by
    have h2 := dig_isDig N
    have hne : dig N ≠ [] := by intro h; rw [h] at hk; simp at hk
    have h3 := h2.2 hne
    rw [List.getLast_eq_getElem] at h3
    have e2 : (dig N).length - 1 = k := by omega
    simp only [e2] at h3
    rw [hl.2] at h3
    exact h3
  rw [e] at h1
  have e3 : nv [x] = x := by simp [nv]
  rw [e3, W32_pow] at h1
  have h4 := nv_take_lt (dig_wds N) k
  rw [W32_pow] at h4
  rw [h1]
  exact blen_join hx0 h4
theorem left_step {R A i w s a v : Nat} (h : R = W32 ^ w * 2 ^ s * A) (hv : v = a * 2 ^ s) : R + W32 ^ (i + w) * (v % W32) + W32 ^ (i + w + 1) * (v / W32) = W32 ^ w * 2 ^ s * (A + W32 ^ i * a) := by
  have h1 : W32 ^ (i + w) * (v % W32) + W32 ^ (i + w + 1) * (v / W32) = W32 ^ (i + w) * v := by
    rw [Nat.pow_succ, Nat.mul_assoc, ← Nat.mul_add, Nat.mod_add_div]
  rw [Nat.add_assoc, h1, h, Nat.mul_add, hv]
  congr 1
  rw [Nat.pow_add]
  simp only [Nat.mul_assoc, Nat.mul_comm, Nat.mul_left_comm]
theorem right_word {X i x y Z s : Nat} (hs : s < 32) (h : X / W32 ^ i = x + W32 * (y + W32 * Z)) : (x + W32 * y) / 2 ^ s % W32 = X / 2 ^ s / W32 ^ i % W32 := by
  rw [Nat.div_div_eq_div_mul, Nat.mul_comm (2 ^ s), ← Nat.div_div_eq_div_mul, h]
  have e : W32 = 2 ^ (32 - s) * 2 ^ s := by rw [← Nat.pow_add, show 32 - s + s = 32 by omega]
  have e1 : x + W32 * (y + W32 * Z) = (x + W32 * y) + 2 ^ s * (2 ^ (32 - s) * (W32 * Z)) := by
    have : W32 * (W32 * Z) = 2 ^ s * (2 ^ (32 - s) * (W32 * Z)) := by
      rw [← Nat.mul_assoc (2 ^ s), Nat.mul_comm (2 ^ s), ← e]
    rw [Nat.mul_add, this, Nat.add_assoc]
  rw [e1, Nat.add_mul_div_left _ _ (Nat.pow_pos (by decide))]
  rw [← Nat.mul_assoc, Nat.mul_comm (2 ^ (32 - s)), Nat.mul_assoc, Nat.add_mul_mod_self_left]

end Go.Proofs.YtkfhbnfoiicioaaGreatDoor

/- plain laws: limbs, bytes, bits of numbers -/
namespace Go.Proofs.YtkfhbnfoiicioaaGreatDoor

theorem W64_pow (k : Nat) : W64 ^ k = 2 ^ (64 * k) := by
  rw [Nat.pow_mul]
theorem lim_of_get {N L : Nat} {r : List Nat} (hl : r.length = L) (hL : L = (blen N + 63) / 64) (hr : ∀ (k x : Nat), r[k]? = some x → x = N / W64 ^ k % W64) : r = lim N := by
  have hN : N < W64 ^ L := by
    rw [W64_pow]
    exact Nat.lt_of_lt_of_le blen_lt (Nat.pow_le_pow_right (by decide) (by omega))
  have h1 : ln r = N := by
    have h := ln_of_get N r 0 (fun k x h => by rw [Nat.zero_add]; exact hr k x h) (by rw [Nat.pow_zero, Nat.div_one, hl]; exact hN)
    rwa [Nat.pow_zero, Nat.div_one] at h
  have h2 : isLim r := by
    refine ⟨fun x hx => ?_, fun hne => ?_⟩
    · obtain ⟨k, hk⟩ := List.getElem?_of_mem hx
      rw [hr k x hk]
      exact Nat.mod_lt _ (by decide)
    · have hlen : 0 < r.length := List.length_pos_iff.2 hne
      have hg : r[r.length - 1]? = some (r.getLast hne) := by rw [List.getLast_eq_getElem, List.getElem?_eq_getElem]
      rw [hr _ _ hg]
      have h0 : N ≠ 0 := by
        intro e
        rw [e, blen_zero] at hL
        omega
      have h3 := blen_le h0
      have h4 : W64 ^ (r.length - 1) ≤ N := by
        rw [W64_pow]
        exact Nat.le_trans (Nat.pow_le_pow_right (by decide) (by omega)) h3
      have h5 : N / W64 ^ (r.length - 1) < W64 := by
        apply Nat.div_lt_of_lt_mul
        rw [← Nat.pow_succ, show (r.length - 1).succ = L by omega]
        exact hN
      rw [Nat.mod_eq_of_lt h5]
      have := Nat.div_pos h4 (l_pos _)
      omega
  rw [← h1]
  exact lim_unique h2
theorem limF_fuel : ∀ (f g N : Nat), N ≤ f → N ≤ g → limF f N = limF g N
  | 0, 0, _, _, _ => rfl
  | 0, g + 1, N, h, _ => by obtain rfl : N = 0 := by omega
                            simp [limF]
  | f + 1, 0, N, _, h => by obtain rfl : N = 0 := by omega
                            simp [limF]
  | f + 1, g + 1, N, h1, h2 => by
    unfold limF
    split
    · rfl
    · have : N / W64 < N := Nat.div_lt_self (by omega) (by decide)
      rw [limF_fuel f g _ (by omega) (by omega)]
theorem lim_succ {N : Nat} (h : N ≠ 0) : lim N = N % W64 :: lim (N / W64) := by
  obtain ⟨m, rfl⟩ : ∃ m, N = m + 1 := ⟨N - 1, by omega⟩
  have : (m + 1) / W64 < m + 1 := Nat.div_lt_self (by omega) (by decide)
  show limF (m + 1) (m + 1) = _
  rw [limF, if_neg h]
  rw [limF_fuel m ((m + 1) / W64) _ (by omega) (Nat.le_refl _)]
  rfl
theorem lim_len (N : Nat) : (lim N).length = (blen N + 63) / 64 := by
  have h := lim_of_get (N := N) (L := (blen N + 63) / 64) (r := (List.range ((blen N + 63) / 64)).map (fun k => N / W64 ^ k % W64)) (by simp) rfl (fun k x hx => by
    simp only [List.getElem?_map, Option.map_eq_some_iff] at hx
    obtain ⟨a, ha, rfl⟩ := hx
    obtain ⟨hl, e⟩ := List.getElem?_eq_some_iff.1 ha
    rw [List.getElem_range] at e
    rw [e])
  rw [← h]; simp
theorem and_join {x y X Y : Nat} (hx : x < W32) (hy : y < W32) : (x + W32 * X) &&& (y + W32 * Y) = (x &&& y) + W32 * (X &&& Y) := by
  have hx' : x < 2 ^ 32 := hx
  have hy' : y < 2 ^ 32 := hy
  have hxy : x &&& y < 2 ^ 32 := Nat.and_lt_two_pow x hy'
  apply Nat.eq_of_testBit_eq
  intro j
  rw [Nat.testBit_and, Nat.add_comm x, Nat.add_comm y, Nat.add_comm (x &&& y)]
  show ((2 ^ 32 * X + x).testBit j && (2 ^ 32 * Y + y).testBit j) = (2 ^ 32 * (X &&& Y) + (x &&& y)).testBit j
  rw [Nat.testBit_two_pow_mul_add _ hx', Nat.testBit_two_pow_mul_add _ hy', Nat.testBit_two_pow_mul_add _ hxy]
  split <;> simp
theorem or_join {x y X Y : Nat} (hx : x < W32) (hy : y < W32) : (x + W32 * X) ||| (y + W32 * Y) = (x ||| y) + W32 * (X ||| Y) := by
  have hx' : x < 2 ^ 32 := hx
  have hy' : y < 2 ^ 32 := hy
  have hxy : x ||| y < 2 ^ 32 := Nat.or_lt_two_pow hx' hy'
  apply Nat.eq_of_testBit_eq
  intro j
  rw [Nat.testBit_or, Nat.add_comm x, Nat.add_comm y, Nat.add_comm (x ||| y)]
  show ((2 ^ 32 * X + x).testBit j || (2 ^ 32 * Y + y).testBit j) = (2 ^ 32 * (X ||| Y) + (x ||| y)).testBit j
  rw [Nat.testBit_two_pow_mul_add _ hx', Nat.testBit_two_pow_mul_add _ hy', Nat.testBit_two_pow_mul_add _ hxy]
  split <;> simp
theorem nv_and : ∀ (xs ys : List Nat), xs.length = ys.length → Wds xs → Wds ys → nv (List.zipWith (· &&& ·) xs ys) = nv xs &&& nv ys
  | [], [], _, _, _ => rfl
  | x :: xs, y :: ys, h, hx, hy => by
    simp only [List.zipWith_cons_cons, nv]
    rw [nv_and xs ys (by simpa using h) hx.tail hy.tail, and_join hx.head hy.head]
theorem nv_or : ∀ (xs ys : List Nat), xs.length = ys.length → Wds xs → Wds ys → nv (List.zipWith (· ||| ·) xs ys) = nv xs ||| nv ys
  | [], [], _, _, _ => rfl
  | x :: xs, y :: ys, h, hx, hy => by
    simp only [List.zipWith_cons_cons, nv]
    rw [nv_or xs ys (by simpa using h) hx.tail hy.tail, or_join hx.head hy.head]
theorem W64_sq : W64 = W32 * W32 := rfl
/-- limbs as words -/
def hv (a : List Nat) : List Nat := a.flatMap fun x => [x % W32, x / W32]
theorem nv_hv : ∀ a : List Nat, nv (hv a) = ln a
  | [] => rfl
  | x :: a => by
    have e : hv (x :: a) = x % W32 :: x / W32 :: hv a := rfl
    rw [e, nv, nv, nv_hv a, ln]
    have h := Nat.mod_add_div x W32
    have e2 : W32 * (x / W32 + W32 * ln a) = W32 * (x / W32) + W64 * ln a := by
      rw [Nat.mul_add, ← Nat.mul_assoc, ← W64_sq]
    rw [e2]
    omega
theorem hv_wds {a : List Nat} (h : Lds a) : Wds (hv a) := by
  intro y hy
  obtain ⟨x, hx, hy⟩ := List.mem_flatMap.1 hy
  have hlt : x < 18446744073709551616 := h x hx
  simp only [List.mem_cons, List.not_mem_nil, or_false] at hy
  rcases hy with rfl | rfl
  · exact Nat.mod_lt _ (by decide)
  · show x / 4294967296 < 4294967296; omega
theorem hv_snoc (a : List Nat) (x : Nat) : hv (a ++ [x]) = hv a ++ [x % W32, x / W32] := by simp [hv]
/-- words as limbs -/
def lb : List Nat → List Nat
  | [] => []
  | [x] => [x]
  | x :: y :: r => (x + W32 * y) :: lb r
theorem ln_lb : ∀ d : List Nat, ln (lb d) = nv d
  | [] => rfl
  | [x] => by simp [lb, ln, nv]
  | x :: y :: r => by
    rw [lb, ln, ln_lb r, nv, nv, Nat.mul_add, ← Nat.mul_assoc, ← W64_sq]
    omega
theorem lb_lds : ∀ {d : List Nat}, Wds d → Lds (lb d)
  | [], _ => fun _ h => by simp [lb] at h
  | [x], h => fun z hz => by
    simp [lb] at hz
    have : x < 4294967296 := h.head
    subst hz
    show z < 18446744073709551616
    omega
  | x :: y :: r, h => fun z hz => by
    rw [lb] at hz
    rcases List.mem_cons.1 hz with rfl | hz
    · have h1 : x < 4294967296 := h.head
      have h2 : y < 4294967296 := h.tail.head
      show x + 4294967296 * y < 18446744073709551616
      omega
    · exact lb_lds h.tail.tail z hz

end Go.Proofs.YtkfhbnfoiicioaaGreatDoor

/- whole numbers as objects: what an Int's two cells say; what stays when one is set -/
namespace Go.Proofs.YtkfhbnfoiicioaaGreatDoor
open Go.RowKit Go.Sort

/-- at block b, offset o lies an Int of the value z -/
structure IntAt (w : World) (b o : Nat) (z : Int) : Prop where
  neg : w.cell? ⟨b, o, none⟩ = some (.bool (decide (z < 0)))
  abs : ∃ A c, w.cell? ⟨b, o + 1, none⟩ = some (.slice A (dig z.natAbs).length c) ∧ (dig z.natAbs).length ≤ c ∧ RdE Wc 1 w (fun d => d < w.heap.size) A (dig z.natAbs).length (dig z.natAbs)
  fz : w.frozen? ⟨b, o, none⟩ = false
  fz1 : w.frozen? ⟨b, o + 1, none⟩ = false

/-- the two cells at block b, offset o were set (a bool, a slice, as before); besides there are new blocks -/
structure Upd (w w' : World) (b o : Nat) : Prop where
  os : w'.os = w.os
  tape : w'.tape = w.tape
  output : w'.output = w.output
  size : w.heap.size ≤ w'.heap.size
  blk : ∀ k, k < w.heap.size → k ≠ b → w'.heap[k]? = w.heap[k]?
  cell : ∀ j, j ≠ o → j ≠ o + 1 → w'.cell? ⟨b, j, none⟩ = w.cell? ⟨b, j, none⟩
  fz : ∀ j, w'.frozen? ⟨b, j, none⟩ = w.frozen? ⟨b, j, none⟩
  old0 : ∃ v, w.cell? ⟨b, o, none⟩ = some (.bool v)
  old1 : ∃ A n c, w.cell? ⟨b, o + 1, none⟩ = some (.slice A n c)

theorem IntAt.lt {w : World} {b o : Nat} {z : Int} (h : IntAt w b o z) : b < w.heap.size := World.block_lt_of_cell? w ⟨b, o, none⟩ h.neg
theorem rd_keep_cells {w w' : World} {S : Nat → Prop} {size n : Nat} {A : Option Addr} {vs : List Value} (h : Rd w S size A n vs) (hk : ∀ b o v, v ∈ vs → w.cell? ⟨b, o, none⟩ = some v → w'.cell? ⟨b, o, none⟩ = some v) : Rd w' S size A n vs :=
  ⟨h.len, fun j v hv => by
    obtain ⟨b, o, e, hs, hc⟩ := h.at_ j v hv
    exact ⟨b, o, e, hs, hk _ _ _ (List.mem_of_getElem? hv) hc⟩⟩
theorem Upd.cellOf {w w' : World} {b o : Nat} (h : Upd w w' b o) {b' o' : Nat} {v : Value} (hv : w.cell? ⟨b', o', none⟩ = some v) (hne : b' = b → o' ≠ o ∧ o' ≠ o + 1) : w'.cell? ⟨b', o', none⟩ = some v := by
  by_cases e : b' = b
  · subst e
    rw [h.cell o' (hne rfl).1 (hne rfl).2]; exact hv
  · exact (World.cell?_of_block (a := ⟨b', o', none⟩) (h.blk b' (World.block_lt_of_cell? w ⟨b', o', none⟩ hv) e)).trans hv
theorem Upd.num {w w' : World} {b o : Nat} (h : Upd w w' b o) {b' o' : Nat} {k : IntKind} {x : Int} (hv : w.cell? ⟨b', o', none⟩ = some (.int k x)) : w'.cell? ⟨b', o', none⟩ = some (.int k x) := by
  refine h.cellOf hv fun e => ?_
  subst e
  obtain ⟨v, h0⟩ := h.old0
  obtain ⟨A, n, c, h1⟩ := h.old1
  constructor
  · rintro rfl
    rw [h0] at hv; cases hv
  · rintro rfl
    rw [h1] at hv; cases hv
theorem Upd.frozenOf {w w' : World} {b o : Nat} (h : Upd w w' b o) {b' o' : Nat} (hl : b' < w.heap.size) : w'.frozen? ⟨b', o', none⟩ = w.frozen? ⟨b', o', none⟩ := by
  by_cases e : b' = b
  · subst e; exact h.fz o'
  · exact World.frozen?_of_block (a := ⟨b', o', none⟩) (h.blk b' hl e)
theorem Upd.words {w w' : World} {b o : Nat} (h : Upd w w' b o) {S : Nat → Prop} {A : Option Addr} {n : Nat} {xs : List Nat} (hr : RdE Wc 1 w S A n xs) : RdE Wc 1 w' S A n xs :=
  ⟨rd_keep_cells hr.rd fun b o v hv hc => by
    obtain ⟨x, _, hx⟩ := List.mem_flatMap.1 hv
    simp [Wc] at hx
    subst hx
    exact h.num hc, hr.num⟩
theorem Upd.below {w w' : World} {b o B : Nat} (h : Upd w w' b o) (hB : B ≤ b) (hs : B ≤ w.heap.size) : Below B w w' := ⟨h.os, h.tape, h.output, h.size, fun k hk => h.blk k (by omega) (by omega)⟩
theorem IntAt.upd {w w' : World} {b o b' o' : Nat} {z : Int} (h : IntAt w b' o' z) (hu : Upd w w' b o) (hne : b' = b → o' ≠ o) : IntAt w' b' o' z := by
  obtain ⟨A, c, h1, h2, h3⟩ := h.abs
  have hlt := h.lt
  refine ⟨hu.cellOf h.neg fun e => ⟨hne e, ?_⟩, ⟨A, c, hu.cellOf h1 fun e => ⟨?_, ?_⟩, h2, (hu.words h3).imp fun d hd => Nat.lt_of_lt_of_le hd hu.size⟩, ?_, ?_⟩
  · subst e
    rintro rfl
    obtain ⟨_, _, _, h1⟩ := hu.old1
    rw [h.neg] at h1; cases h1
  · subst e
    rintro rfl
    obtain ⟨_, h0⟩ := hu.old0
    rw [h1] at h0; cases h0
  · have := hne e; omega
  · rw [hu.frozenOf hlt]; exact h.fz
  · rw [hu.frozenOf hlt]; exact h.fz1
theorem IntAt.below {w w' : World} {b o : Nat} {z : Int} (h : IntAt w b o z) (hb : Below w.heap.size w w') : IntAt w' b o z := by
  obtain ⟨A, c, h1, h2, h3⟩ := h.abs
  have hlt := h.lt
  exact ⟨bat hb h.neg, ⟨A, c, bat hb h1, h2, (h3.keep (Keeps.below hb fun d hd => hd)).imp fun d hd => Nat.lt_of_lt_of_le hd hb.size⟩, bfz hb hlt h.fz, bfz hb hlt h.fz1⟩
theorem Upd.after {w w1 w2 : World} {b o : Nat} (hb : Below w.heap.size w w1) (h : Upd w1 w2 b o) (hl : b < w.heap.size) : Upd w w2 b o :=
  ⟨h.os.trans hb.os, h.tape.trans hb.tape, h.output.trans hb.output, Nat.le_trans hb.size h.size, fun k hk hne => (h.blk k (by have := hb.size; omega) hne).trans (hb.block k hk),
    fun j h1 h2 => (h.cell j h1 h2).trans (hb.cell (p := ⟨b, j, none⟩) hl), fun j => (h.fz j).trans (hb.frozen (p := ⟨b, j, none⟩) hl),
    by obtain ⟨v, hv⟩ := h.old0; exact ⟨v, (hb.cell (p := ⟨b, o, none⟩) hl).symm.trans hv⟩,
    by obtain ⟨A, n, c, hv⟩ := h.old1; exact ⟨A, n, c, (hb.cell (p := ⟨b, o + 1, none⟩) hl).symm.trans hv⟩⟩
theorem IntAt.of_cells {w : World} {b o : Nat} {z : Int} {A : Option Addr} {n c : Nat} {s : Bool} (h0 : w.cell? ⟨b, o, none⟩ = some (.bool s)) (h1 : w.cell? ⟨b, o + 1, none⟩ = some (.slice A n c)) (hs : s = decide (z < 0)) (hn : n = (dig z.natAbs).length) (hc : n ≤ c)
    (hr : RdE Wc 1 w (fun d => d < w.heap.size) A n (dig z.natAbs)) (f0 : w.frozen? ⟨b, o, none⟩ = false) (f1 : w.frozen? ⟨b, o + 1, none⟩ = false) : IntAt w b o z := by
  subst hs hn
  exact ⟨h0, ⟨A, c, h1, hc, hr⟩, f0, f1⟩

/-- block b alone was changed, and no number in it; besides there are new blocks -/
structure UpB (w w' : World) (b : Nat) : Prop where
  os : w'.os = w.os
  tape : w'.tape = w.tape
  output : w'.output = w.output
  size : w.heap.size ≤ w'.heap.size
  blk : ∀ k, k < w.heap.size → k ≠ b → w'.heap[k]? = w.heap[k]?
  num : ∀ (o : Nat) (k : IntKind) (x : Int), w.cell? ⟨b, o, none⟩ = some (.int k x) → w'.cell? ⟨b, o, none⟩ = some (.int k x)
theorem Upd.toB {w w' : World} {b o : Nat} (h : Upd w w' b o) : UpB w w' b := ⟨h.os, h.tape, h.output, h.size, h.blk, fun _ _ _ hv => h.num hv⟩
theorem UpB.below {w w' : World} {b B : Nat} (h : UpB w w' b) (hB : B ≤ b) (hs : B ≤ w.heap.size) : Below B w w' := ⟨h.os, h.tape, h.output, h.size, fun k hk => h.blk k (by omega) (by omega)⟩
end Go.Proofs.YtkfhbnfoiicioaaGreatDoor

/- left: the walk -/
namespace Go.Proofs.YtkfhbnfoiicioaaGreatDoor
open Go.RowKit Go.Sort

theorem left_words {x s o : Nat} (hx : x < 4294967296) (hs : s < 32) (ho : o < 2 ^ s) :
    bits .or .u32 (o : Int) (IntKind.u64.wrap ((x : Int) * 2 ^ s) % 4294967296) = ((o + x * 2 ^ s % W32 : Nat) : Int) ∧ o + x * 2 ^ s % W32 < W32 ∧
    bits .or .u32 0 (IntKind.u64.wrap ((x : Int) * 2 ^ s) / 4294967296 % 4294967296) = ((x * 2 ^ s / W32 : Nat) : Int) ∧ x * 2 ^ s / W32 < 2 ^ s := by
  have hp : 0 < 2 ^ s := Nat.pow_pos (by decide)
  have hp2 : 2 ^ s ≤ 2147483648 := Nat.le_trans (Nat.pow_le_pow_right (show 0 < 2 by decide) (show s ≤ 31 by omega)) (by decide)
  have hv : x * 2 ^ s < 4294967296 * 2 ^ s := Nat.mul_lt_mul_of_pos_right hx hp
  have hvv : x * 2 ^ s < 18446744073709551616 := by omega
  have hw : IntKind.u64.wrap ((x : Int) * 2 ^ s) = ((x * 2 ^ s : Nat) : Int) := by
    rw [IntKind.wrap_u64]
    have e : (x : Int) * 2 ^ s = ((x * 2 ^ s : Nat) : Int) := by push_cast; rfl
    rw [e]; omega
  rw [hw]
  obtain ⟨r, hr⟩ : ∃ r, 4294967296 = 2 ^ s * r := ⟨2 ^ (32 - s), by rw [← Nat.pow_add, show s + (32 - s) = 32 by omega]⟩
  have hdvd : x * 2 ^ s % 4294967296 = 2 ^ s * (x % r) := by
    rw [hr, Nat.mul_comm x, Nat.mul_mod_mul_left]
  have hlow : x * 2 ^ s % 4294967296 % 2 ^ s = 0 := by rw [hdvd, Nat.mul_mod_right]
  have hsum : o + x * 2 ^ s % 4294967296 < 4294967296 := by
    have h1 : x % r < r := Nat.mod_lt _ (by rcases Nat.eq_zero_or_pos r with h | h; · rw [h] at hr; omega
                                            · exact h)
    have h2 : 2 ^ s * (x % r) + 2 ^ s ≤ 2 ^ s * r := by rw [← Nat.mul_succ]; exact Nat.mul_le_mul_left _ h1
    omega
  have hm : x * 2 ^ s % 4294967296 < 4294967296 := Nat.mod_lt _ (by decide)
  have hq : x * 2 ^ s / 4294967296 < 2 ^ s := Nat.div_lt_of_lt_mul hv
  generalize x * 2 ^ s = v at *
  refine ⟨?_, hsum, ?_, hq⟩
  · have h := bits_join_low .u32 32 (by decide) wraps_u32 s (o : Int) ((v : Int) % 4294967296) (by omega) (by rw [show (2 : Int) ^ s = ((2 ^ s : Nat) : Int) from (Int.natCast_pow 2 s).symm]; omega) (by omega) (by omega) (by
      have g1 : (v : Int) % 4294967296 = ((v % 4294967296 : Nat) : Int) := by omega
      have g2 : (2 : Int) ^ s = ((2 ^ s : Nat) : Int) := (Int.natCast_pow 2 s).symm
      rw [g1, g2, ← Int.natCast_emod, hlow]; rfl) (by omega)
    rw [h]
    show (o : Int) + v % 4294967296 = ((o + v % 4294967296 : Nat) : Int)
    omega
  · have e : (v : Int) / 4294967296 % 4294967296 = ((v / 4294967296 : Nat) : Int) := by omega
    rw [e]
    have h := (bits_nat .u32 32 (by decide) wraps_u32 0 (v / 4294967296) (by decide) (by omega)).2
    rw [Nat.zero_or] at h
    exact h

set_option maxRecDepth 100000 in
set_option maxHeartbeats 2000000 in
theorem left_any (A : Option Addr) (n c : Nat) (a : List Nat) (h s : Nat) (S : Nat → Prop) (w : World) (hx : RdE Wc 1 w S A n a) (ha : Wds a) (hS : ∀ b, S b → b < w.heap.size) (hn : n ≤ 10000000000) (hh : h ≤ 10000000000) (hs : s < 32) :
    Calls Tryz.prog 114 #[.slice A n c, .int .u64 ((h * 32 + s : Nat) : Int)] w fun e w' => ∃ A' c', e = .returned (.slice A' (dig (nv a * 2 ^ (h * 32 + s))).length c') ∧ (dig (nv a * 2 ^ (h * 32 + s))).length ≤ c' ∧ RdE Wc 1 w' (fun b => w.heap.size ≤ b ∧ b < w'.heap.size) A' (dig (nv a * 2 ^ (h * 32 + s))).length (dig (nv a * 2 ^ (h * 32 + s))) ∧ Below w.heap.size w w' := by
  obtain ⟨i0, hi0, hz0, hz1, hz2⟩ := info_parts' info_u32
  have HX := Lib.hid hx
  have HA := Lib.hid ha
  have HS := Lib.hid hS
  clear hx ha hS
  by_cases h0 : n = 0
  · subst h0
    have e : a = [] := List.eq_nil_of_length_eq_zero HX.out.num
    subst e
    go_enter Tryz.func114, Tryz.ntmps114
    go_wp2_with fail
    go_ret
    refine ⟨none, 0, ?_, ?_, ?_, Below.refl _ _⟩
    · simp [nv, dig_zero]
    · simp [nv, dig_zero]
    · simp only [nv, Nat.zero_mul, dig_zero]; exact RdE.nil ..
  · have e0 : ((n : Int) == 0) = false := by simp; omega
    have e1 : ((h * 32 + s : Nat) : Int) / 32 = (h : Int) := by omega
    have e2 : ((h * 32 + s : Nat) : Int) % 32 = (s : Int) := by omega
    obtain ⟨N, hN⟩ : ∃ N : Nat, N = h * 32 + s := ⟨_, rfl⟩
    rw [← hN] at e1 e2 ⊢
    have HN := Lib.hid hN
    clear hN
    go_enter Tryz.func114, Tryz.ntmps114
    go_wp2_with (at_make; go_must (refine wpList_make_full _ rfl _ _ _ rfl w.heap.size 139 i0 _ 1 Tryz.underlying120 hi0 hz0 hz1 .i64 .i64 _ _ (n + h + 1) rfl rfl (by omega) (by omega) (by rw [hz2]; omega) (by simp only [maxLen]; omega) (Nat.le_refl _) ?_); intro w1 hown1 hg1)
    have hinv := hown1
    rw [made_u32] at hinv
    have HI := Lib.hid hinv
    have HB1 := Lib.hid (below_of_grown hg1 (fun g hg => by cases hg))
    clear hown1 hg1 hinv
    go_loopw [8] (fun i wr => ∃ (k : Nat) (xs : List Nat), k ≤ n ∧ i = .int .i64 k ∧ xs.length = n + h + 1 ∧ Wds xs ∧ nv xs = W32 ^ h * 2 ^ s * nv (a.take k) ∧ ZeroFrom xs (k + h + 1) ∧ (∀ o, xs[k + h]? = some o → o < 2 ^ s) ∧ wr.ownsRow w.heap.size 139 1 (.slice (some ⟨w.heap.size, 0, none⟩) (n + h + 1) (n + h + 1)) (n + h + 1) (xs.flatMap Wc) ∧ Below w.heap.size w wr) (fun i _ => n - (intOf i).toNat)
    case atStart => exact ⟨0, List.replicate (n + h + 1) 0, Nat.zero_le _, rfl, by simp, fun x hx => by rw [(List.mem_replicate.1 hx).2]; decide, by rw [(zero_rep (n + h + 1) 0).val]; simp [nv], zero_rep _ _, fun o ho => by rw [(List.mem_replicate.1 (List.mem_of_getElem? ho)).2]; exact Nat.pow_pos (by decide), HI.out, HB1.out⟩
    case round =>
      obtain ⟨k, xs, hk, rfl, hxl, hxw, hsum, hzf, hlow, hown, hbw⟩ := hrel
      by_cases hlt : k < n
      · obtain ⟨x, hx⟩ := get_some HX.out.num hlt
        obtain ⟨b1, o1, rfl, hSb1, hc⟩ := HX.out.elem Wc.clen hx (by omega)
        have q1 : wr.cell? ⟨b1, o1 + k, none⟩ = some (.int .u32 (x : Int)) := by have h := (hbw.cell (p := ⟨b1, _, none⟩) (HS.out _ hSb1)).trans (hc 0 _ rfl); rw [Nat.mul_one, Nat.add_zero] at h; exact h
        have hxlt := hw0 HA.out hx
        obtain ⟨o, ho⟩ := get_some hxl (show k + h < n + h + 1 by omega)
        have hos := hlow o ho
        have q0 := own_wc hown ho
        have hf := hown.frozenAt (k + h)
        obtain ⟨o', ho'⟩ := get_some hxl (show k + h + 1 < n + h + 1 by omega)
        obtain rfl : o' = 0 := hzf _ _ (Nat.le_refl _) ho'
        have q0' := own_wc hown ho'
        have hf' := hown.frozenAt (k + h + 1)
        have HO := Lib.hid hown
        have HBW := Lib.hid hbw
        have HSUM := Lib.hid hsum
        have HXX := Lib.hid hx
        have HXW := Lib.hid hxw
        have HZF := Lib.hid hzf
        have HOO := Lib.hid ho
        have HOO' := Lib.hid ho'
        have HOS := Lib.hid hos
        clear hown hbw hsum hx hc hxw hzf hlow ho ho' hos
        go_wp2_with fail
        obtain ⟨b1e, b1l, b2e, b2l⟩ := left_words hxlt hs HOS.out
        rw [b1e, b2e]
        have b2w : x * 2 ^ s / W32 < W32 := Nat.lt_of_lt_of_le b2l (Nat.le_trans (Nat.pow_le_pow_right (show 0 < 2 by decide) (show s ≤ 32 by omega)) (by decide))
        have ho1 := own_set_wc HO.out (i := k + h) (by omega) (o + x * 2 ^ s % W32)
        have ho2 := own_set_wc ho1.1 (i := k + h + 1) (by rw [List.length_set]; omega) (x * 2 ^ s / W32)
        have hB2 := (HBW.out.grown ho1.2 (Nat.le_of_lt (HO.out.lt w.heap.size rfl).2) (fun g hg => by injection hg with hg; omega)).grown ho2.2 (Nat.le_of_lt (ho1.1.lt w.heap.size rfl).2) (fun g hg => by injection hg with hg; omega)
        refine ⟨⟨k + 1, (xs.set (k + h) (o + x * 2 ^ s % W32)).set (k + h + 1) (x * 2 ^ s / W32), by omega, by go_num, by simp [hxl], wds_set (wds_set HXW.out b1l) b2w, ?_, ?_, ?_, ho2.1, hB2⟩, by simp [intOf]; omega⟩
        · have h1 := nv_set (v := o + x * 2 ^ s % W32) HOO.out
          have h2 : (xs.set (k + h) (o + x * 2 ^ s % W32))[k + h + 1]? = some 0 := by rw [List.getElem?_set_ne (by omega)]; exact HOO'.out
          have h3 := nv_set (v := x * 2 ^ s / W32) h2
          rw [Nat.mul_zero, Nat.add_zero] at h3
          rw [Nat.mul_add] at h1
          have h4 : nv (xs.set (k + h) (o + x * 2 ^ s % W32)) = nv xs + W32 ^ (k + h) * (x * 2 ^ s % W32) := by omega
          rw [h3, h4, nv_take_succ HXX.out]
          exact left_step HSUM.out rfl
        · have h5 := (HZF.out.set (v := o + x * 2 ^ s % W32) (show k + h < k + h + 1 by omega)).set_at (v := x * 2 ^ s / W32)
          rw [show k + 1 + h + 1 = k + h + 1 + 1 by omega]
          exact h5
        · intro z hz
          rw [show k + 1 + h = k + h + 1 by omega, List.getElem?_set_self (by rw [List.length_set]; omega)] at hz
          injection hz with hz
          rw [← hz]
          exact b2l
      · obtain rfl : n = k := by omega
        have HO := Lib.hid hown
        have HBW := Lib.hid hbw
        have HXW := Lib.hid hxw
        have hfin : nv xs = nv a * 2 ^ N := by
          rw [hsum, List.take_of_length_le (by rw [HX.out.num]; exact Nat.le_refl _), HN.out, Nat.pow_add, Nat.mul_comm h, Nat.pow_mul, Nat.mul_comm]
        have HFIN := Lib.hid hfin
        clear hown hbw hxw hsum hfin hzf hlow
        go_wp2_with fail
        refine (trim_own w.heap.size w.heap.size (n + h + 1) (n + h + 1) xs _ HO.out HXW.out (by omega) (Nat.le_refl _)).mono ?_
        rintro e w9 ⟨rfl, hl9, hr9, hb9⟩
        rw [HFIN.out] at hl9 hr9 ⊢
        have HR9 := Lib.hid hr9
        have HL9 := Lib.hid hl9
        have HB9 := Lib.hid (HBW.out.trans (hb9.mono HBW.out.size))
        clear hr9 hl9 hb9
        go_wp2_with fail
        go_ret
        exact ⟨_, _, rfl, HL9.out, HR9.out, HB9.out⟩

end Go.Proofs.YtkfhbnfoiicioaaGreatDoor

/- right: the walk -/
namespace Go.Proofs.YtkfhbnfoiicioaaGreatDoor
open Go.RowKit Go.Sort

theorem nv_div {a : List Nat} (ha : Wds a) (t : Nat) : nv a / W32 ^ t = nv (a.drop t) := by
  rw [nv_split a t, Nat.add_mul_div_left _ _ (w_pos t), Nat.div_eq_of_lt (nv_take_lt ha t), Nat.zero_add]
theorem nv_div_get {a : List Nat} (ha : Wds a) {t x : Nat} (hx : a[t]? = some x) : nv a / W32 ^ t = x + W32 * nv (a.drop (t + 1)) := by
  obtain ⟨hl, e⟩ := List.getElem?_eq_some_iff.1 hx
  rw [nv_div ha, List.drop_eq_getElem_cons hl, e, nv]
theorem nv_drop_get2 {ws : List Nat} {i x : Nat} (h : ws[i]? = some x) : nv (ws.drop i) = x + W32 * nv (ws.drop (i + 1)) := by
  obtain ⟨hl, e⟩ := List.getElem?_eq_some_iff.1 h
  rw [List.drop_eq_getElem_cons hl, e, nv]
theorem pow_split (h s : Nat) : 2 ^ (h * 32 + s) = W32 ^ h * 2 ^ s := by
  rw [Nat.pow_add, Nat.mul_comm h, Nat.pow_mul]
theorem right_dig {a : List Nat} (ha : Wds a) {h s i x y Z : Nat} (hs : s < 32) (hx : a[i + h]? = some x) (hy : nv (a.drop (i + h + 1)) = y + W32 * Z) : (x + W32 * y) / 2 ^ s % W32 = nv a / 2 ^ (h * 32 + s) / W32 ^ i % W32 := by
  have e := right_word (X := nv a / W32 ^ h) (i := i) (x := x) (y := y) (Z := Z) (s := s) hs (by
    rw [Nat.div_div_eq_div_mul, ← Nat.pow_add, Nat.add_comm h i, nv_div_get ha hx, hy])
  rw [e, pow_split, ← Nat.div_div_eq_div_mul (nv a) (W32 ^ h)]

theorem cast_shr (v s : Nat) : (v : Int) / 2 ^ s % 4294967296 = ((v / 2 ^ s % W32 : Nat) : Int) := by
  have g2 : (2 : Int) ^ s = ((2 ^ s : Nat) : Int) := (Int.natCast_pow 2 s).symm
  rw [g2, ← Int.natCast_ediv]
  generalize v / 2 ^ s = q
  show (q : Int) % 4294967296 = ((q % 4294967296 : Nat) : Int)
  omega
theorem right_words {x y s : Nat} (hx : x < 4294967296) (hy : y < 4294967296) : bits .or .u64 (x : Int) ((y : Int) * 4294967296) / 2 ^ s % 4294967296 = (((x + W32 * y) / 2 ^ s % W32 : Nat) : Int) := by
  have h := u64_or32 (y := (x : Int)) (x := (y : Int) * 4294967296) (by omega) (by omega) (by omega) (by omega) (by omega)
  rw [h, show (x : Int) + (y : Int) * 4294967296 = ((x + W32 * y : Nat) : Int) by show _ = ((x + 4294967296 * y : Nat) : Int); omega]
  exact cast_shr _ _
theorem set_keeps {xs : List Nat} {k v : Nat} {P : Nat → Nat → Prop} (h : ∀ (j x : Nat), j < k → xs[j]? = some x → P j x) (hv : P k v) : ∀ (j x : Nat), j < k + 1 → (xs.set k v)[j]? = some x → P j x := by
  intro j x hj hx
  by_cases e : j = k
  · subst e
    have hl : j < xs.length := by have := (List.getElem?_eq_some_iff.1 hx).1; simpa using this
    rw [List.getElem?_set_self hl] at hx
    injection hx with hx
    exact hx ▸ hv
  · rw [List.getElem?_set_ne (by omega)] at hx
    exact h j x (by omega) hx

set_option maxRecDepth 100000 in
set_option maxHeartbeats 2000000 in
theorem rightW_any (A : Option Addr) (n c : Nat) (a : List Nat) (h s : Nat) (S : Nat → Prop) (w : World) (hx : RdE Wc 1 w S A n a) (ha : Wds a) (hS : ∀ b, S b → b < w.heap.size) (hn : n ≤ 10000000000) (hh : h ≤ 10000000000) (hs : s < 32) :
    Calls Tryz.prog 149 #[.slice A n c, .int .u64 ((h * 32 + s : Nat) : Int)] w fun e w' => ∃ A' c', e = .returned (.slice A' (dig (nv a / 2 ^ (h * 32 + s))).length c') ∧ (dig (nv a / 2 ^ (h * 32 + s))).length ≤ c' ∧ RdE Wc 1 w' (fun b => w.heap.size ≤ b ∧ b < w'.heap.size) A' (dig (nv a / 2 ^ (h * 32 + s))).length (dig (nv a / 2 ^ (h * 32 + s))) ∧ Below w.heap.size w w' := by
  obtain ⟨i0, hi0, hz0, hz1, hz2⟩ := info_parts' info_u32
  have HX := Lib.hid hx
  have HA := Lib.hid ha
  have HS := Lib.hid hS
  clear hx ha hS
  have e1 : ((h * 32 + s : Nat) : Int) / 32 = (h : Int) := by omega
  have e2 : ((h * 32 + s : Nat) : Int) % 32 = (s : Int) := by omega
  obtain ⟨N, hN⟩ : ∃ N : Nat, N = h * 32 + s := ⟨_, rfl⟩
  rw [← hN] at e1 e2 ⊢
  have HN := Lib.hid hN
  clear hN
  by_cases h0 : n ≤ h
  · have hz : nv a / 2 ^ N = 0 := by
      rw [HN.out, pow_split, ← Nat.div_div_eq_div_mul]
      have h1 := nv_lt HA.out
      rw [HX.out.num] at h1
      rw [Nat.div_eq_of_lt (Nat.lt_of_lt_of_le h1 (Nat.pow_le_pow_right (by decide) h0)), Nat.zero_div]
    have HZ := Lib.hid hz
    clear hz
    go_enter Tryz.func149, Tryz.ntmps149
    go_wp2_with fail
    go_ret
    rw [HZ.out]
    exact ⟨none, 0, rfl, Nat.le_refl _, RdE.nil .., Below.refl _ _⟩
  · obtain ⟨l, hl⟩ : ∃ l, n = h + l := ⟨n - h, by omega⟩
    have hl0 : 0 < l := by omega
    subst hl
    go_enter Tryz.func149, Tryz.ntmps149
    go_wp2_with (at_make; go_must (refine wpList_make_full _ rfl _ _ _ rfl w.heap.size 139 i0 _ 1 Tryz.underlying120 hi0 hz0 hz1 .i64 .i64 _ _ l (by show _ = _; congr 1 <;> omega) (by show _ = _; congr 1 <;> omega) (by omega) (by omega) (by rw [hz2]; omega) (by simp only [maxLen]; omega) (Nat.le_refl _) ?_); intro w1 hown1 hg1)
    have hinv := hown1
    rw [made_u32] at hinv
    have HI := Lib.hid hinv
    have HB1 := Lib.hid (below_of_grown hg1 (fun g hg => by cases hg))
    clear hown1 hg1 hinv
    go_loopw [8] (fun i wr => ∃ (k : Nat) (xs : List Nat), k ≤ l ∧ i = .int .i64 k ∧ xs.length = l ∧ Wds xs ∧ (∀ (j x : Nat), j < k → xs[j]? = some x → x = nv a / 2 ^ N / W32 ^ j % W32) ∧ wr.ownsRow w.heap.size 139 1 (.slice (some ⟨w.heap.size, 0, none⟩) l l) l (xs.flatMap Wc) ∧ Below w.heap.size w wr) (fun i _ => l - (intOf i).toNat)
    case atStart => exact ⟨0, List.replicate l 0, Nat.zero_le _, rfl, by simp, fun x hx => by rw [(List.mem_replicate.1 hx).2]; decide, fun j x hj => absurd hj (Nat.not_lt_zero _), HI.out, HB1.out⟩
    case round =>
      obtain ⟨k, xs, hk, rfl, hxl, hxw, hsum, hown, hbw⟩ := hrel
      by_cases hlt : k < l
      · obtain ⟨x, hx⟩ := get_some HX.out.num (show k + h < h + l by omega)
        obtain ⟨b1, o1, rfl, hSb1, hc⟩ := HX.out.elem Wc.clen hx (by omega)
        have q1 : wr.cell? ⟨b1, o1 + (k + h), none⟩ = some (.int .u32 (x : Int)) := by have h := (hbw.cell (p := ⟨b1, _, none⟩) (HS.out _ hSb1)).trans (hc 0 _ rfl); rw [Nat.mul_one, Nat.add_zero] at h; exact h
        have hxlt := hw0 HA.out hx
        obtain ⟨o, ho⟩ := get_some hxl hlt
        have q0 := own_wc hown ho
        have hf := hown.frozenAt k
        have HO := Lib.hid hown
        have HBW := Lib.hid hbw
        have HSUM := Lib.hid hsum
        have HXX := Lib.hid hx
        have HXW := Lib.hid hxw
        by_cases hmore : k + h + 1 < h + l
        · obtain ⟨y, hy⟩ := get_some HX.out.num hmore
          obtain ⟨b2, o2, eb, _, hc2⟩ := HX.out.elem Wc.clen hy (by omega)
          cases eb
          have q2 : wr.cell? ⟨b1, o1 + (k + h + 1), none⟩ = some (.int .u32 (y : Int)) := by have h := (hbw.cell (p := ⟨b1, _, none⟩) (HS.out _ hSb1)).trans (hc2 0 _ rfl); rw [Nat.mul_one, Nat.add_zero] at h; exact h
          have hylt := hw0 HA.out hy
          have HYY := Lib.hid hy
          clear hown hbw hsum hx hc hxw ho hy hc2
          go_wp2_with fail
          rw [right_words hxlt hylt]
          have ho1 := own_set_wc HO.out (i := k) (by omega) ((x + W32 * y) / 2 ^ s % W32)
          refine ⟨⟨k + 1, xs.set k ((x + W32 * y) / 2 ^ s % W32), by omega, by go_num, by simp [hxl], wds_set HXW.out (Nat.mod_lt _ (by decide)), ?_, ho1.1, HBW.out.grown ho1.2 (Nat.le_of_lt (HO.out.lt w.heap.size rfl).2) (fun g hg => by injection hg with hg; omega)⟩, by simp [intOf]; omega⟩
          exact set_keeps HSUM.out (by rw [HN.out]; exact right_dig HA.out hs HXX.out (nv_drop_get2 HYY.out))
        · clear hown hbw hsum hx hc hxw ho
          go_wp2_with fail
          rw [cast_shr]
          have hz : nv (a.drop (k + h + 1)) = 0 + W32 * 0 := by rw [List.drop_of_length_le (by rw [HX.out.num]; omega)]; rfl
          have ho1 := own_set_wc HO.out (i := k) (by omega) (x / 2 ^ s % W32)
          refine ⟨⟨k + 1, xs.set k (x / 2 ^ s % W32), by omega, by go_num, by simp [hxl], wds_set HXW.out (Nat.mod_lt _ (by decide)), ?_, ho1.1, HBW.out.grown ho1.2 (Nat.le_of_lt (HO.out.lt w.heap.size rfl).2) (fun g hg => by injection hg with hg; omega)⟩, by simp [intOf]; omega⟩
          exact set_keeps HSUM.out (by rw [HN.out]; exact by have h2 := right_dig HA.out hs HXX.out hz; rw [Nat.mul_zero, Nat.add_zero] at h2; exact h2)
      · obtain rfl : l = k := by omega
        have HO := Lib.hid hown
        have HBW := Lib.hid hbw
        have HXW := Lib.hid hxw
        have hfin : nv xs = nv a / 2 ^ N := by
          have h1 := nv_of_get (nv a / 2 ^ N) xs 0 (fun j x hx => by rw [Nat.zero_add]; exact hsum j x (by have := (List.getElem?_eq_some_iff.1 hx).1; omega) hx) (by
            rw [Nat.pow_zero, Nat.div_one, HN.out, pow_split]
            have h2 := nv_lt HA.out
            rw [HX.out.num, Nat.pow_add, ← hxl] at h2
            exact Nat.lt_of_le_of_lt (by rw [← Nat.div_div_eq_div_mul]; exact Nat.div_le_self _ _) (Nat.div_lt_of_lt_mul h2))
          rwa [Nat.pow_zero, Nat.div_one] at h1
        have HFIN := Lib.hid hfin
        clear hown hbw hxw hsum hfin
        go_wp2_with fail
        refine (trim_own w.heap.size w.heap.size l l xs _ HO.out HXW.out (by omega) (Nat.le_refl _)).mono ?_
        rintro e w9 ⟨rfl, hl9, hr9, hb9⟩
        rw [HFIN.out] at hl9 hr9 ⊢
        have HR9 := Lib.hid hr9
        have HL9 := Lib.hid hl9
        have HB9 := Lib.hid (HBW.out.trans (hb9.mono HBW.out.size))
        clear hr9 hl9 hb9
        go_wp2_with fail
        go_ret
        exact ⟨_, _, rfl, HL9.out, HR9.out, HB9.out⟩

end Go.Proofs.YtkfhbnfoiicioaaGreatDoor

/- length, cmp: the walks -/
namespace Go.Proofs.YtkfhbnfoiicioaaGreatDoor
open Go.RowKit Go.Sort

theorem blen_bound {N k : Nat} (h : (dig N).length ≤ k) : blen N ≤ 32 * k := by
  apply blen_le_of_lt
  rw [← W32_pow]
  exact Nat.lt_of_lt_of_le (lt_dig_len N) (Nat.pow_le_pow_right (by decide) h)

theorem length_any (A : Option Addr) (n c : Nat) (N : Nat) (S : Nat → Prop) (w : World) (hx : RdE Wc 1 w S A n (dig N)) (hn : n ≤ 100000000000) :
    Calls Tryz.prog 145 #[.slice A n c] w fun e w' => e = .returned (.int .i64 (blen N)) ∧ w = w' := by
  have HX := Lib.hid hx
  clear hx
  by_cases h0 : n = 0
  · subst h0
    have hN : N = 0 := dig_len_zero.1 HX.out.num
    subst hN
    go_enter Tryz.func145, Tryz.ntmps145
    go_wp2_with fail
    go_ret
    exact ⟨rfl, rfl⟩
  · obtain ⟨j, rfl⟩ : ∃ j, n = j + 1 := ⟨n - 1, by omega⟩
    obtain ⟨x, hx⟩ := get_some HX.out.num (show j < j + 1 by omega)
    obtain ⟨b1, o1, rfl, hSb1, hc⟩ := HX.out.elem Wc.clen hx (by omega)
    have q1 : w.cell? ⟨b1, o1 + j, none⟩ = some (.int .u32 (x : Int)) := by have h := hc 0 _ rfl; rw [Nat.mul_one, Nat.add_zero] at h; exact h
    have hxlt := hw0 (dig_wds N) hx
    have HBL := Lib.hid (blen_dig HX.out.num hx)
    have e0 : (((j : Int) + 1) == 0) = false := by simp; omega
    clear hx hc
    go_enter Tryz.func145, Tryz.ntmps145
    go_wp2_with fail
    go_loop [3, 4] (fun cv tv => ∃ k t : Nat, cv = .int .i64 k ∧ tv = .int .u32 t ∧ t < 4294967296 ∧ k ≤ 100 ∧ k + blen t = blen x) (fun _ tv => (intOf tv).toNat)
    case atStart => exact ⟨0, x, rfl, rfl, hxlt, by omega, by omega⟩
    case round =>
      obtain ⟨k, t, rfl, rfl, ht, hk, hkt⟩ := hrel
      have HKT := Lib.hid hkt
      clear hkt
      have hb32 : blen x ≤ 32 := blen_le_of_lt hxlt
      by_cases htz : t = 0
      · subst htz
        have e : blen x = k := by have := HKT.out; rw [blen_zero] at this; omega
        have hkl : k ≤ 32 := by omega
        have HE := Lib.hid e
        clear e hb32
        go_wp2_with fail
        go_ret
        refine ⟨?_, rfl⟩
        rw [HBL.out, HE.out]
        have : ((32 * j + k : Nat) : Int) = (j : Int) * 32 + k := by omega
        rw [this]; rfl
      · have e1 : ((t : Int) != 0) = true := by simp; omega
        have e2 : ((t : Int) == 0) = false := by simp; omega
        have hhalf := blen_half htz
        have hk2 : k + 1 ≤ 100 := by have := HKT.out; omega
        have HH := Lib.hid hhalf
        clear hhalf htz
        go_wp2_with fail
        go_round
        case rel => exact ⟨k + 1, t / 2, by go_num, rfl, by omega, by omega, by have := HKT.out; have := HH.out; omega⟩
        case measure => simp [intOf] at e1 ⊢; omega

/-- -1, 0, 1 -/
def cmpN (x y : Nat) : Int := if x < y then -1 else if y < x then 1 else 0
theorem dig_lt {x y : Nat} (h : (dig x).length < (dig y).length) : x < y := Nat.lt_of_not_le fun h1 => by have := dig_len_mono h1; omega
theorem nv_drop_get {ws : List Nat} {i x : Nat} (h : ws[i]? = some x) : nv (ws.drop i) = x + W32 * nv (ws.drop (i + 1)) := by
  obtain ⟨hl, e⟩ := List.getElem?_eq_some_iff.1 h
  rw [List.drop_eq_getElem_cons hl, e, nv]
theorem drop_lt {a b : List Nat} {i x y : Nat} (ha : Wds a) (hx : a[i]? = some x) (hy : b[i]? = some y) (he : nv (a.drop (i + 1)) = nv (b.drop (i + 1))) (hlt : x < y) : nv a < nv b := by
  rw [nv_split a i, nv_split b i, nv_drop_get hx, nv_drop_get hy, he]
  have h1 := nv_take_lt ha i
  have h2 : W32 ^ i * (x + W32 * nv (b.drop (i + 1))) + W32 ^ i ≤ W32 ^ i * (y + W32 * nv (b.drop (i + 1))) := by
    rw [← Nat.mul_succ]
    exact Nat.mul_le_mul_left _ (by omega)
  omega

set_option maxRecDepth 100000 in
set_option maxHeartbeats 4000000 in
theorem cmp_any (A B : Option Addr) (n m c d : Nat) (x y : Nat) (S S' : Nat → Prop) (w : World) (hx : RdE Wc 1 w S A n (dig x)) (hy : RdE Wc 1 w S' B m (dig y)) (hn : n ≤ 100000000000) (hm : m ≤ 100000000000) :
    Calls Tryz.prog 115 #[.slice A n c, .slice B m d] w fun e w' => e = .returned (.int .i64 (cmpN x y)) ∧ Below w.heap.size w w' := by
  have HX := Lib.hid hx
  have HY := Lib.hid hy
  clear hx hy
  by_cases h1 : n < m
  · have hlt : x < y := dig_lt (by rw [HX.out.num, HY.out.num]; exact h1)
    have HC := Lib.hid (show cmpN x y = -1 by simp [cmpN, hlt])
    have e0 : ((n : Int) != (m : Int)) = true := by simp; omega
    clear hlt
    go_enter Tryz.func115, Tryz.ntmps115
    go_wp2_with fail
    go_ret
    exact ⟨by rw [HC.out]; rfl, Below.refl _ _⟩
  · by_cases h2 : m < n
    · have hlt : y < x := dig_lt (by rw [HX.out.num, HY.out.num]; exact h2)
      have HC := Lib.hid (show cmpN x y = 1 by have : ¬ x < y := by omega
                                               simp [cmpN, hlt, this])
      have e0 : ((n : Int) != (m : Int)) = true := by simp; omega
      clear hlt
      go_enter Tryz.func115, Tryz.ntmps115
      go_wp2_with fail
      go_ret
      exact ⟨by rw [HC.out]; rfl, Below.refl _ _⟩
    · obtain rfl : n = m := by omega
      clear h1 h2
      go_enter Tryz.func115, Tryz.ntmps115
      go_wp2_with fail
      go_loopw [5] (fun iv wr => ∃ t : Nat, t ≤ n ∧ (∃ z : Int, iv = .int .i64 z ∧ z = (t : Int) - 1) ∧ nv ((dig x).drop t) = nv ((dig y).drop t) ∧ Below w.heap.size w wr) (fun iv _ => (intOf iv + 1).toNat)
      case atStart => exact ⟨n, Nat.le_refl _, ⟨_, rfl, rfl⟩, by rw [List.drop_of_length_le (by rw [HX.out.num]; omega), List.drop_of_length_le (by rw [HY.out.num]; omega)], Below.refl _ _⟩
      case round =>
        obtain ⟨t, ht, ⟨z, rfl, hz⟩, heq, hbw⟩ := hrel
        have HEQ := Lib.hid heq
        have HBW := Lib.hid hbw
        clear heq hbw
        by_cases h0 : t = 0
        · subst h0
          obtain rfl : z = -1 := by omega
          have he := HEQ.out
          rw [List.drop_zero, List.drop_zero, nv_dig, nv_dig] at he
          subst he
          have HC := Lib.hid (show cmpN x x = 0 by simp [cmpN])
          clear hz
          go_wp2_with fail
          go_ret
          exact ⟨by rw [HC.out]; rfl, HBW.out⟩
        · obtain ⟨j, rfl⟩ : ∃ j, t = j + 1 := ⟨t - 1, by omega⟩
          obtain rfl : z = (j : Int) := by omega
          clear hz
          obtain ⟨p, hp⟩ := get_some HX.out.num (show j < n by omega)
          obtain ⟨q, hq⟩ := get_some HY.out.num (show j < n by omega)
          obtain ⟨b1, o1, rfl, hSb1, hc⟩ := HX.out.elem Wc.clen hp (by omega)
          obtain ⟨b2, o2, rfl, hSb2, hc2⟩ := HY.out.elem Wc.clen hq (by omega)
          have q1 : wr.cell? ⟨b1, o1 + j, none⟩ = some (.int .u32 (p : Int)) := by have h := hc 0 _ rfl; rw [Nat.mul_one, Nat.add_zero] at h; exact bat HBW.out h
          have q2 : wr.cell? ⟨b2, o2 + j, none⟩ = some (.int .u32 (q : Int)) := by have h := hc2 0 _ rfl; rw [Nat.mul_one, Nat.add_zero] at h; exact bat HBW.out h
          have HP := Lib.hid hp
          have HQ := Lib.hid hq
          have g1 : (0 : Int) ≤ (j : Int) := by omega
          clear hp hq hc hc2
          by_cases h1 : p = q
          · subst h1
            have e1 : ((p : Int) != (p : Int)) = false := by simp
            have HE := Lib.hid (show nv ((dig x).drop j) = nv ((dig y).drop j) by rw [nv_drop_get HP.out, nv_drop_get HQ.out, HEQ.out])
            go_wp2_with fail
            go_quiet (fail)
            go_wp2_with fail
            go_roundw
            case rel => exact ⟨j, by omega, ⟨_, rfl, by omega⟩, HE.out, below_drewN HBW.out _⟩
            case measure => simp [intOf]
          · have e1 : ((p : Int) != (q : Int)) = true := by simp; omega
            by_cases h2 : p < q
            · have h2' : (p : Int) < (q : Int) := by omega
              have hlt := drop_lt (dig_wds x) HP.out HQ.out HEQ.out h2
              rw [nv_dig, nv_dig] at hlt
              have HC := Lib.hid (show cmpN x y = -1 by simp [cmpN, hlt])
              clear hlt
              go_wp2_with fail
              go_quiet (fail)
              go_wp2_with fail
              go_quiet (fail)
              go_wp2_with fail
              go_ret
              exact ⟨by rw [HC.out]; rfl, below_drewN (below_drewN HBW.out _) _⟩
            · have h2' : ¬ (p : Int) < (q : Int) := by omega
              have hlt := drop_lt (dig_wds y) HQ.out HP.out HEQ.out.symm (show q < p by omega)
              rw [nv_dig, nv_dig] at hlt
              have HC := Lib.hid (show cmpN x y = 1 by have : ¬ x < y := by omega
                                                       simp [cmpN, hlt, this])
              clear hlt
              go_wp2_with fail
              go_quiet (fail)
              go_wp2_with fail
              go_quiet (fail)
              go_wp2_with fail
              go_ret
              exact ⟨by rw [HC.out]; rfl, below_drewN (below_drewN HBW.out _) _⟩

end Go.Proofs.YtkfhbnfoiicioaaGreatDoor
