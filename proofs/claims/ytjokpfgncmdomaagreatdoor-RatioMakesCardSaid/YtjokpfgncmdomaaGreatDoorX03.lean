import Derived.Test.YtjokpfgncmdomaaGreatDoorX02
set_option linter.unusedSimpArgs false
set_option linter.unusedVariables false
/- numbers in limbs of 64 bits: as N1, P1, the names changed by program -/
namespace Go.Proofs.YtjokpfgncmdomaaGreatDoor

/-- a word's cell -/
abbrev Lc (x : Nat) : List Value := [.int .u64 (x : Int)]
theorem Lc.clen (x : Nat) : (Lc x).length = 1 := rfl
abbrev W64 : Nat := 18446744073709551616
def ln : List Nat → Nat
  | [] => 0
  | x :: r => x + W64 * ln r
def Lds (ws : List Nat) : Prop := ∀ x ∈ ws, x < W64
def limF : Nat → Nat → List Nat
  | 0, _ => []
  | f + 1, N => if N = 0 then [] else N % W64 :: limF f (N / W64)
/-- the words of a number, none above the highest that is not 0 -/
def lim (N : Nat) : List Nat := limF N N
def isLim (ws : List Nat) : Prop := Lds ws ∧ ∀ h : ws ≠ [], ws.getLast h ≠ 0

theorem ln_nil : ln [] = 0 := rfl
theorem ln_append (a b : List Nat) : ln (a ++ b) = ln a + W64 ^ a.length * ln b := by
  induction a with
  | nil => simp [ln]
  | cons x a ih =>
    simp only [List.cons_append, ln, ih, List.length_cons, Nat.pow_succ, Nat.mul_add, Nat.add_assoc]
    rw [Nat.mul_comm (W64 ^ a.length) W64, Nat.mul_assoc]
theorem Lds.tail {x : Nat} {r : List Nat} (h : Lds (x :: r)) : Lds r := fun y hy => h y (List.mem_cons_of_mem _ hy)
theorem Lds.head {x : Nat} {r : List Nat} (h : Lds (x :: r)) : x < W64 := h x List.mem_cons_self
theorem Lds.take {a : List Nat} (ha : Lds a) (n : Nat) : Lds (a.take n) := fun y hy => ha y (List.mem_of_mem_take hy)
theorem Lds.drop {a : List Nat} (ha : Lds a) (n : Nat) : Lds (a.drop n) := fun y hy => ha y (List.mem_of_mem_drop hy)
theorem Lds.get {a : List Nat} (ha : Lds a) {i x : Nat} (h : a[i]? = some x) : x < W64 := ha x (List.mem_of_getElem? h)
theorem ln_lt : ∀ {ws : List Nat}, Lds ws → ln ws < W64 ^ ws.length
  | [], _ => by simp [ln]
  | x :: r, h => by
    have h1 := ln_lt h.tail
    have h2 := h.head
    simp only [ln, List.length_cons, Nat.pow_succ]
    have h3 : W64 * ln r + W64 ≤ W64 * W64 ^ r.length := by
      rw [← Nat.mul_succ]
      exact Nat.mul_le_mul_left _ h1
    rw [Nat.mul_comm (W64 ^ r.length) W64]
    omega
theorem limF_ln : ∀ (f N : Nat), N ≤ f → ln (limF f N) = N
  | 0, N, h => by simp [limF, ln]; omega
  | f + 1, N, h => by
    unfold limF
    split
    · rename_i e; rw [e]; rfl
    · have h2 : N / W64 ≤ f := by
        have : N / W64 < N := Nat.div_lt_self (by omega) (by decide)
        omega
      rw [ln, limF_ln f _ h2]
      exact Nat.mod_add_div N W64
theorem ln_dig (N : Nat) : ln (lim N) = N := limF_ln N N (Nat.le_refl _)
theorem limF_lds : ∀ (f N : Nat), Lds (limF f N)
  | 0, N => fun x h => by simp [limF] at h
  | f + 1, N => by
    unfold limF
    split
    · intro x h; simp at h
    · intro x h
      rcases List.mem_cons.1 h with rfl | h
      · exact Nat.mod_lt _ (by decide)
      · exact limF_lds f _ x h
theorem lim_lds (N : Nat) : Lds (lim N) := limF_lds N N
theorem limF_nil {f N : Nat} (hf : N ≤ f) (h : limF f N = []) : N = 0 := by
  have := limF_ln f N hf
  rw [h] at this
  exact this.symm
theorem limF_last : ∀ (f N : Nat), N ≤ f → ∀ h : limF f N ≠ [], (limF f N).getLast h ≠ 0
  | 0, N, _, h => absurd rfl h
  | f + 1, N, hN, h => by
    have h0 : N ≠ 0 := by rintro rfl; simp [limF] at h
    have e : limF (f + 1) N = N % W64 :: limF f (N / W64) := by rw [limF, if_neg h0]
    have hlt : N / W64 ≤ f := by
      have : N / W64 < N := Nat.div_lt_self (by omega) (by decide)
      omega
    simp only [e]
    by_cases hn : limF f (N / W64) = []
    · simp only [hn, List.getLast_singleton]
      have h1 := limF_nil hlt hn
      have h2 := Nat.mod_add_div N W64
      rw [h1] at h2
      omega
    · rw [List.getLast_cons hn]
      exact limF_last f _ hlt hn
theorem lim_isLim (N : Nat) : isLim (lim N) := ⟨lim_lds N, fun h => limF_last N N (Nat.le_refl _) h⟩

/-- words that are trimmed are told by their number -/
theorem isLim_pos {ws : List Nat} (h : isLim ws) (hne : ws ≠ []) : W64 ^ (ws.length - 1) ≤ ln ws := by
  have e := List.dropLast_concat_getLast hne
  rw [← e, ln_append]
  have h1 : ws.dropLast.length = ws.length - 1 := by simp
  have h2 : (ws.dropLast ++ [ws.getLast hne]).length - 1 = ws.length - 1 := by simp
  rw [h2, h1]
  have h3 := h.2 hne
  simp only [ln]
  have : W64 ^ (ws.length - 1) * 1 ≤ W64 ^ (ws.length - 1) * (ws.getLast hne + W64 * 0) := Nat.mul_le_mul_left _ (by omega)
  omega
theorem isLim_zero {ws : List Nat} (h : isLim ws) (h0 : ln ws = 0) : ws = [] := by
  by_cases hne : ws = []
  · exact hne
  · have h1 := isLim_pos h hne
    have h2 : 0 < W64 ^ (ws.length - 1) := Nat.pow_pos (by decide)
    omega
theorem isLim.tail {x : Nat} {r : List Nat} (h : isLim (x :: r)) : isLim r := ⟨h.1.tail, fun hn => by have := h.2 (by simp); rwa [List.getLast_cons hn] at this⟩
theorem isLim_unique : ∀ {a b : List Nat}, isLim a → isLim b → ln a = ln b → a = b
  | [], b, _, hb, h => (isLim_zero hb h.symm).symm
  | a, [], ha, _, h => isLim_zero ha h
  | x :: a, y :: b, ha, hb, h => by
    have hx := ha.1.head
    have hy := hb.1.head
    simp only [ln] at h
    have e1 : x = y := by
      have h1 : (x + W64 * ln a) % W64 = (y + W64 * ln b) % W64 := by rw [h]
      rw [Nat.add_mul_mod_self_left, Nat.add_mul_mod_self_left, Nat.mod_eq_of_lt hx, Nat.mod_eq_of_lt hy] at h1
      exact h1
    subst e1
    have e2 : ln a = ln b := Nat.eq_of_mul_eq_mul_left (show 0 < W64 by decide) (by omega)
    rw [isLim_unique ha.tail hb.tail e2]
theorem lim_unique {ws : List Nat} (h : isLim ws) : ws = lim (ln ws) := isLim_unique h (lim_isLim _) (ln_dig _).symm

theorem ln_take_succ {ws : List Nat} {k x : Nat} (h : ws[k]? = some x) : ln (ws.take (k + 1)) = ln (ws.take k) + W64 ^ k * x := by
  obtain ⟨hl, e⟩ := List.getElem?_eq_some_iff.1 h
  rw [List.take_succ_eq_append_getElem hl, ln_append, e, List.length_take, Nat.min_eq_left (by omega)]
  simp [ln]
theorem ln_split (xs : List Nat) (t : Nat) : ln xs = ln (xs.take t) + W64 ^ t * ln (xs.drop t) := by
  by_cases h : t ≤ xs.length
  · conv => lhs; rw [← List.take_append_drop t xs]
    rw [ln_append, List.length_take, Nat.min_eq_left h]
  · rw [List.take_of_length_le (by omega), List.drop_of_length_le (by omega)]
    simp [ln]
theorem ln_take_lt {ws : List Nat} (h : Lds ws) (t : Nat) : ln (ws.take t) < W64 ^ t := by
  have h1 := ln_lt (h.take t)
  exact Nat.lt_of_lt_of_le h1 (Nat.pow_le_pow_right (by decide) (by rw [List.length_take]; omega))
theorem l_pos (k : Nat) : 0 < W64 ^ k := Nat.pow_pos (by decide)
/-- words given one by one -/
theorem ln_of_get (Y : Nat) : ∀ (r : List Nat) (i : Nat), (∀ k x, r[k]? = some x → x = Y / W64 ^ (i + k) % W64) → Y / W64 ^ i < W64 ^ r.length → ln r = Y / W64 ^ i
  | [], i, _, h => by
    simp only [List.length_nil, Nat.pow_zero] at h
    rw [ln]; generalize Y / W64 ^ i = z at *; omega
  | x :: r, i, hr, h => by
    have h0 := hr 0 x (by simp)
    have e : Y / W64 ^ (i + 1) = Y / W64 ^ i / W64 := by rw [Nat.pow_succ, Nat.div_div_eq_div_mul]
    have ih := ln_of_get Y r (i + 1) (fun k y hy => by rw [hr (k + 1) y (by simpa using hy)]; congr 3; omega) (by
      rw [e]
      rw [List.length_cons, Nat.pow_succ] at h
      exact Nat.div_lt_of_lt_mul (by rw [Nat.mul_comm]; exact h))
    rw [ln, ih, h0, e, Nat.add_zero]
    exact Nat.mod_add_div _ _
/-- the words after position t are 0 -/
def LZeroFrom (xs : List Nat) (t : Nat) : Prop := ∀ (i x : Nat), t ≤ i → xs[i]? = some x → x = 0
theorem ln_zero : ∀ {xs : List Nat}, (∀ (i x : Nat), xs[i]? = some x → x = 0) → ln xs = 0
  | [], _ => rfl
  | y :: xs, h => by
    have h1 := h 0 y (by simp)
    have h2 := ln_zero (xs := xs) (fun i x hx => h (i + 1) x (by simpa using hx))
    rw [ln, h1, h2]; rfl
theorem LZeroFrom.val {xs : List Nat} {t : Nat} (h : LZeroFrom xs t) : ln xs = ln (xs.take t) := by
  rw [ln_split xs t, ln_zero (xs := xs.drop t) (fun i x hx => by rw [List.getElem?_drop] at hx; exact h (t + i) x (by omega) hx), Nat.mul_zero, Nat.add_zero]
theorem lim_len_le {N k : Nat} (h : N < W64 ^ k) : (lim N).length ≤ k := by
  by_cases hne : lim N = []
  · rw [hne]; exact Nat.zero_le _
  · have h1 := isLim_pos (lim_isLim N) hne
    rw [ln_dig] at h1
    have h2 : W64 ^ ((lim N).length - 1) < W64 ^ k := Nat.lt_of_le_of_lt h1 h
    have h3 : (lim N).length - 1 < k := by
      apply Nat.lt_of_not_le
      intro h3
      have := Nat.pow_le_pow_right (show 0 < W64 by decide) h3
      omega
    omega
theorem lt_lim_len (N : Nat) : N < W64 ^ (lim N).length := by
  have := ln_lt (lim_lds N)
  rwa [ln_dig] at this
theorem lim_pos {N : Nat} (h : N ≠ 0) : lim N ≠ [] := fun e => h (by rw [← ln_dig N, e]; rfl)
theorem lim_zero : lim 0 = [] := rfl
theorem lim_len_zero {N : Nat} : (lim N).length = 0 ↔ N = 0 := ⟨fun h => by rw [← ln_dig N, List.eq_nil_of_length_eq_zero h]; rfl, fun h => by rw [h]; rfl⟩
theorem lim_len_mono {N M : Nat} (h : N ≤ M) : (lim N).length ≤ (lim M).length := lim_len_le (Nat.lt_of_le_of_lt h (lt_lim_len M))
/-- a list is the words of its number if the last one is something -/
theorem lim_of_lds {ws : List Nat} (h : Lds ws) (hl : ∀ h : ws ≠ [], ws.getLast h ≠ 0) : ws = lim (ln ws) := lim_unique ⟨h, hl⟩

end Go.Proofs.YtjokpfgncmdomaaGreatDoor

/- plain laws: bits, shifts -/
namespace Go.Proofs.YtjokpfgncmdomaaGreatDoor

/-- how many bits a number has -/
def blen (N : Nat) : Nat := if N = 0 then 0 else N.log2 + 1
theorem blen_zero : blen 0 = 0 := rfl
theorem blen_half {t : Nat} (h : t ≠ 0) : blen t = blen (t / 2) + 1 := by
  unfold blen
  rw [if_neg h]
  by_cases h2 : t / 2 = 0
  · have : t = 1 := by omega
    subst this; rfl
  · rw [if_neg h2, Nat.log2_def, if_pos (by omega)]
theorem blen_lt {N : Nat} : N < 2 ^ blen N := by
  unfold blen
  split
  · omega
  · exact Nat.lt_log2_self
theorem blen_le {N : Nat} (h : N ≠ 0) : 2 ^ (blen N - 1) ≤ N := by
  unfold blen
  rw [if_neg h]
  exact Nat.log2_self_le h
theorem blen_uniq {N k : Nat} (h1 : 2 ^ k ≤ N) (h2 : N < 2 ^ (k + 1)) : blen N = k + 1 := by
  have h0 : N ≠ 0 := by have : 0 < 2 ^ k := Nat.pow_pos (by decide); omega
  have h3 := blen_lt (N := N)
  have h4 := blen_le h0
  have h5 : k < blen N := (Nat.pow_lt_pow_iff_right (by decide)).1 (Nat.lt_of_le_of_lt h1 h3)
  have h6 : blen N - 1 < k + 1 := (Nat.pow_lt_pow_iff_right (by decide)).1 (Nat.lt_of_le_of_lt h4 h2)
  omega
theorem blen_le_of_lt {N k : Nat} (h : N < 2 ^ k) : blen N ≤ k := by
  by_cases h0 : N = 0
  · rw [h0]; exact Nat.zero_le _
  · have h4 := blen_le h0
    have h6 : blen N - 1 < k := (Nat.pow_lt_pow_iff_right (by decide)).1 (Nat.lt_of_le_of_lt h4 h)
    omega
theorem blen_pos {N : Nat} (h : N ≠ 0) : 0 < blen N := by unfold blen; rw [if_neg h]; omega
theorem blen_join {k x r : Nat} (hx : x ≠ 0) (hr : r < 2 ^ k) : blen (r + 2 ^ k * x) = k + blen x := by
  have h1 := blen_lt (N := x)
  have h2 := blen_le hx
  have h3 := blen_pos hx
  have e : k + blen x = (k + (blen x - 1)) + 1 := by omega
  rw [e]
  apply blen_uniq
  · rw [Nat.pow_add]
    have := Nat.mul_le_mul_left (2 ^ k) h2
    omega
  · rw [show k + (blen x - 1) + 1 = k + blen x by omega, Nat.pow_add]
    have : 2 ^ k * (x + 1) ≤ 2 ^ k * 2 ^ blen x := Nat.mul_le_mul_left _ h1
    rw [Nat.mul_add, Nat.mul_one] at this
    omega
theorem W32_pow (k : Nat) : W32 ^ k = 2 ^ (32 * k) := by
  rw [Nat.pow_mul]
theorem blen_dig {N x k : Nat} (hk : (dig N).length = k + 1) (hx : (dig N)[k]? = some x) : blen N = 32 * k + blen x := by
  have h1 := nv_split (dig N) k
  rw [nv_dig] at h1
  have hl := (List.getElem?_eq_some_iff.1 hx)
  have e : (dig N).drop k = [x] := by
    rw [List.drop_eq_getElem_cons hl.1, hl.2, List.drop_of_length_le (by omega)]
  have hx0 : x ≠ 0 := by
    have h2 := dig_isDig N
    have hne : dig N ≠ [] := by intro h; rw [h] at hk; simp at hk
    have h3 := h2.2 hne
    rw [List.getLast_eq_getElem] at h3
    have e2 : (dig N).length - 1 = k := by omega
    simp only [e2] at h3
    rw [hl.2] at h3
    exact h3
  rw [e] at h1
  have e3 : nv [x] = x := by simp [nv]
  rw [e3, W32_pow] at h1
  have h4 := nv_take_lt (dig_wds N) k
  rw [W32_pow] at h4
  rw [h1]
  exact blen_join hx0 h4
theorem left_step {R A i w s a v : Nat} (h : R = W32 ^ w * 2 ^ s * A) (hv : v = a * 2 ^ s) : R + W32 ^ (i + w) * (v % W32) + W32 ^ (i + w + 1) * (v / W32) = W32 ^ w * 2 ^ s * (A + W32 ^ i * a) := by
  have h1 : W32 ^ (i + w) * (v % W32) + W32 ^ (i + w + 1) * (v / W32) = W32 ^ (i + w) * v := by
    rw [Nat.pow_succ, Nat.mul_assoc, ← Nat.mul_add, Nat.mod_add_div]
  rw [Nat.add_assoc, h1, h, Nat.mul_add, hv]
  congr 1
  rw [Nat.pow_add]
  simp only [Nat.mul_assoc, Nat.mul_comm, Nat.mul_left_comm]
theorem right_word {X i x y Z s : Nat} (hs : s < 32) (h : X / W32 ^ i = x + W32 * (y + W32 * Z)) : (x + W32 * y) / 2 ^ s % W32 = X / 2 ^ s / W32 ^ i % W32 := by
  rw [Nat.div_div_eq_div_mul, Nat.mul_comm (2 ^ s), ← Nat.div_div_eq_div_mul, h]
  have e : W32 = 2 ^ (32 - s) * 2 ^ s := by rw [← Nat.pow_add, show 32 - s + s = 32 by omega]
  have e1 : x + W32 * (y + W32 * Z) = (x + W32 * y) + 2 ^ s * (2 ^ (32 - s) * (W32 * Z)) := by
    have : W32 * (W32 * Z) = 2 ^ s * (2 ^ (32 - s) * (W32 * Z)) := by
      rw [← Nat.mul_assoc (2 ^ s), Nat.mul_comm (2 ^ s), ← e]
    rw [Nat.mul_add, this, Nat.add_assoc]
  rw [e1, Nat.add_mul_div_left _ _ (Nat.pow_pos (by decide))]
  rw [← Nat.mul_assoc, Nat.mul_comm (2 ^ (32 - s)), Nat.mul_assoc, Nat.add_mul_mod_self_left]

end Go.Proofs.YtjokpfgncmdomaaGreatDoor

/- plain laws: limbs, bytes, bits of numbers -/
namespace Go.Proofs.YtjokpfgncmdomaaGreatDoor

theorem W64_pow (k : Nat) : W64 ^ k = 2 ^ (64 * k) := by
  rw [Nat.pow_mul]
theorem lim_of_get {N L : Nat} {r : List Nat} (hl : r.length = L) (hL : L = (blen N + 63) / 64) (hr : ∀ (k x : Nat), r[k]? = some x → x = N / W64 ^ k % W64) : r = lim N := by
  have hN : N < W64 ^ L := by
    rw [W64_pow]
    exact Nat.lt_of_lt_of_le blen_lt (Nat.pow_le_pow_right (by decide) (by omega))
  have h1 : ln r = N := by
    have h := ln_of_get N r 0 (fun k x h => by rw [Nat.zero_add]; exact hr k x h) (by rw [Nat.pow_zero, Nat.div_one, hl]; exact hN)
    rwa [Nat.pow_zero, Nat.div_one] at h
  have h2 : isLim r := by
    refine ⟨fun x hx => ?_, fun hne => ?_⟩
    · obtain ⟨k, hk⟩ := List.getElem?_of_mem hx
      rw [hr k x hk]
      exact Nat.mod_lt _ (by decide)
    · have hlen : 0 < r.length := List.length_pos_iff.2 hne
      have hg : r[r.length - 1]? = some (r.getLast hne) := by rw [List.getLast_eq_getElem, List.getElem?_eq_getElem]
      rw [hr _ _ hg]
      have h0 : N ≠ 0 := by
        intro e
        rw [e, blen_zero] at hL
        omega
      have h3 := blen_le h0
      have h4 : W64 ^ (r.length - 1) ≤ N := by
        rw [W64_pow]
        exact Nat.le_trans (Nat.pow_le_pow_right (by decide) (by omega)) h3
      have h5 : N / W64 ^ (r.length - 1) < W64 := by
        apply Nat.div_lt_of_lt_mul
        rw [← Nat.pow_succ, show (r.length - 1).succ = L by omega]
        exact hN
      rw [Nat.mod_eq_of_lt h5]
      have := Nat.div_pos h4 (l_pos _)
      omega
  rw [← h1]
  exact lim_unique h2
theorem limF_fuel : ∀ (f g N : Nat), N ≤ f → N ≤ g → limF f N = limF g N
  | 0, 0, _, _, _ => rfl
  | 0, g + 1, N, h, _ => by obtain rfl : N = 0 := by omega
                            simp [limF]
  | f + 1, 0, N, _, h => by obtain rfl : N = 0 := by omega
                            simp [limF]
  | f + 1, g + 1, N, h1, h2 => by
    unfold limF
    split
    · rfl
    · have : N / W64 < N := Nat.div_lt_self (by omega) (by decide)
      rw [limF_fuel f g _ (by omega) (by omega)]
theorem lim_succ {N : Nat} (h : N ≠ 0) : lim N = N % W64 :: lim (N / W64) := by
  obtain ⟨m, rfl⟩ : ∃ m, N = m + 1 := ⟨N - 1, by omega⟩
  have : (m + 1) / W64 < m + 1 := Nat.div_lt_self (by omega) (by decide)
  show limF (m + 1) (m + 1) = _
  rw [limF, if_neg h]
  rw [limF_fuel m ((m + 1) / W64) _ (by omega) (Nat.le_refl _)]
  rfl
theorem lim_len (N : Nat) : (lim N).length = (blen N + 63) / 64 := by
  have h := lim_of_get (N := N) (L := (blen N + 63) / 64) (r := (List.range ((blen N + 63) / 64)).map (fun k => N / W64 ^ k % W64)) (by simp) rfl (fun k x hx => by
    simp only [List.getElem?_map, Option.map_eq_some_iff] at hx
    obtain ⟨a, ha, rfl⟩ := hx
    obtain ⟨hl, e⟩ := List.getElem?_eq_some_iff.1 ha
    rw [List.getElem_range] at e
    rw [e])
  rw [← h]; simp
/-- bytes, the greatest first -/
def be : List Nat → Nat → Nat
  | [], a => a
  | b :: bs, a => be bs (a * 256 + b)
theorem be_snoc : ∀ (bs : List Nat) (b a : Nat), be (bs ++ [b]) a = be bs a * 256 + b
  | [], _, _ => rfl
  | c :: bs, b, a => be_snoc bs b (a * 256 + c)
theorem be_take {bs : List Nat} {i b : Nat} (h : bs[i]? = some b) : be (bs.take (i + 1)) 0 = be (bs.take i) 0 * 256 + b := by
  obtain ⟨hl, e⟩ := List.getElem?_eq_some_iff.1 h
  rw [List.take_succ_eq_append_getElem hl, e, be_snoc]
theorem be_bytes {X : Nat} {bs : List Nat} (hX : X < 256 ^ bs.length) (h : ∀ (i b : Nat), bs[i]? = some b → b = X / 256 ^ (bs.length - 1 - i) % 256) : ∀ i, i ≤ bs.length → be (bs.take i) 0 = X / 256 ^ (bs.length - i)
  | 0, _ => by rw [Nat.sub_zero, Nat.div_eq_of_lt hX]; rfl
  | i + 1, hi => by
    obtain ⟨b, hb⟩ : ∃ b, bs[i]? = some b := ⟨_, List.getElem?_eq_getElem (by omega)⟩
    rw [be_take hb, be_bytes hX h i (by omega), h i b hb]
    have e : bs.length - i = (bs.length - 1 - i) + 1 := by omega
    rw [e, Nat.pow_succ, ← Nat.div_div_eq_div_mul, show bs.length - (i + 1) = bs.length - 1 - i by omega]
    generalize X / 256 ^ (bs.length - 1 - i) = z
    omega
theorem be_all {X : Nat} {bs : List Nat} (hX : X < 256 ^ bs.length) (h : ∀ (i b : Nat), bs[i]? = some b → b = X / 256 ^ (bs.length - 1 - i) % 256) : be bs 0 = X := by
  have h1 := be_bytes hX h bs.length (Nat.le_refl _)
  rw [List.take_of_length_le (Nat.le_refl _), Nat.sub_self, Nat.pow_zero, Nat.div_one] at h1
  exact h1
theorem W64_256 (k : Nat) : W64 ^ k = 256 ^ (8 * k) := by rw [Nat.pow_mul]
/-- byte j of a list of limbs -/
theorem limb_byte {ls : List Nat} {j x : Nat} (hw : Lds ls) (hx : ls[j / 8]? = some x) : x / 2 ^ (8 * (j % 8)) % 256 = ln ls / 256 ^ j % 256 := by
  have h1 := ln_split ls (j / 8)
  obtain ⟨hl, e⟩ := List.getElem?_eq_some_iff.1 hx
  rw [List.drop_eq_getElem_cons hl, e, ln] at h1
  have h2 := ln_take_lt hw (j / 8)
  have e1 : 256 ^ j = W64 ^ (j / 8) * 256 ^ (j % 8) := by rw [W64_256, ← Nat.pow_add]; congr 1; omega
  have e2 : ln ls / W64 ^ (j / 8) = x + W64 * ln (ls.drop (j / 8 + 1)) := by
    rw [h1, Nat.add_mul_div_left _ _ (l_pos _), Nat.div_eq_of_lt h2, Nat.zero_add]
  rw [e1, ← Nat.div_div_eq_div_mul, e2]
  have e3 : 2 ^ (8 * (j % 8)) = 256 ^ (j % 8) := by rw [Nat.pow_mul]
  rw [e3]
  have e4 : W64 = 256 ^ (j % 8) * (256 ^ (7 - j % 8) * 256) := by
    rw [← Nat.pow_succ, ← Nat.pow_add, show j % 8 + (7 - j % 8 + 1) = 8 by omega]
  generalize ln (ls.drop (j / 8 + 1)) = Z
  rw [show x + W64 * Z = x + 256 ^ (j % 8) * (256 ^ (7 - j % 8) * 256 * Z) by rw [← Nat.mul_assoc, ← e4]]
  rw [Nat.add_mul_div_left _ _ (Nat.pow_pos (by decide))]
  rw [Nat.mul_comm (256 ^ (7 - j % 8)) 256, Nat.mul_assoc, Nat.add_mul_mod_self_left]
theorem and_join {x y X Y : Nat} (hx : x < W32) (hy : y < W32) : (x + W32 * X) &&& (y + W32 * Y) = (x &&& y) + W32 * (X &&& Y) := by
  have hx' : x < 2 ^ 32 := hx
  have hy' : y < 2 ^ 32 := hy
  have hxy : x &&& y < 2 ^ 32 := Nat.and_lt_two_pow x hy'
  apply Nat.eq_of_testBit_eq
  intro j
  rw [Nat.testBit_and, Nat.add_comm x, Nat.add_comm y, Nat.add_comm (x &&& y)]
  show ((2 ^ 32 * X + x).testBit j && (2 ^ 32 * Y + y).testBit j) = (2 ^ 32 * (X &&& Y) + (x &&& y)).testBit j
  rw [Nat.testBit_two_pow_mul_add _ hx', Nat.testBit_two_pow_mul_add _ hy', Nat.testBit_two_pow_mul_add _ hxy]
  split <;> simp
theorem or_join {x y X Y : Nat} (hx : x < W32) (hy : y < W32) : (x + W32 * X) ||| (y + W32 * Y) = (x ||| y) + W32 * (X ||| Y) := by
  have hx' : x < 2 ^ 32 := hx
  have hy' : y < 2 ^ 32 := hy
  have hxy : x ||| y < 2 ^ 32 := Nat.or_lt_two_pow hx' hy'
  apply Nat.eq_of_testBit_eq
  intro j
  rw [Nat.testBit_or, Nat.add_comm x, Nat.add_comm y, Nat.add_comm (x ||| y)]
  show ((2 ^ 32 * X + x).testBit j || (2 ^ 32 * Y + y).testBit j) = (2 ^ 32 * (X ||| Y) + (x ||| y)).testBit j
  rw [Nat.testBit_two_pow_mul_add _ hx', Nat.testBit_two_pow_mul_add _ hy', Nat.testBit_two_pow_mul_add _ hxy]
  split <;> simp
theorem nv_and : ∀ (xs ys : List Nat), xs.length = ys.length → Wds xs → Wds ys → nv (List.zipWith (· &&& ·) xs ys) = nv xs &&& nv ys
  | [], [], _, _, _ => rfl
  | x :: xs, y :: ys, h, hx, hy => by
    simp only [List.zipWith_cons_cons, nv]
    rw [nv_and xs ys (by simpa using h) hx.tail hy.tail, and_join hx.head hy.head]
theorem nv_or : ∀ (xs ys : List Nat), xs.length = ys.length → Wds xs → Wds ys → nv (List.zipWith (· ||| ·) xs ys) = nv xs ||| nv ys
  | [], [], _, _, _ => rfl
  | x :: xs, y :: ys, h, hx, hy => by
    simp only [List.zipWith_cons_cons, nv]
    rw [nv_or xs ys (by simpa using h) hx.tail hy.tail, or_join hx.head hy.head]
/-- the Euclid of GCD: its by-products stay small -/
theorem euclid_keep {S T p q b : Nat} (h : S * q + T * p = b) : T * (p % q) + (S + p / q * T) * q = b := by
  have h1 := Nat.div_add_mod p q
  have h2 : T * p = T * (q * (p / q)) + T * (p % q) := by rw [← Nat.mul_add, h1]
  rw [Nat.add_mul, ← h, h2]
  have : p / q * T * q = T * (q * (p / q)) := by
    rw [Nat.mul_comm (p / q), Nat.mul_assoc, Nat.mul_comm (p / q)]
  omega
theorem W64_sq : W64 = W32 * W32 := rfl
/-- limbs as words -/
def hv (a : List Nat) : List Nat := a.flatMap fun x => [x % W32, x / W32]
theorem nv_hv : ∀ a : List Nat, nv (hv a) = ln a
  | [] => rfl
  | x :: a => by
    have e : hv (x :: a) = x % W32 :: x / W32 :: hv a := rfl
    rw [e, nv, nv, nv_hv a, ln]
    have h := Nat.mod_add_div x W32
    have e2 : W32 * (x / W32 + W32 * ln a) = W32 * (x / W32) + W64 * ln a := by
      rw [Nat.mul_add, ← Nat.mul_assoc, ← W64_sq]
    rw [e2]
    omega
theorem hv_wds {a : List Nat} (h : Lds a) : Wds (hv a) := by
  intro y hy
  obtain ⟨x, hx, hy⟩ := List.mem_flatMap.1 hy
  have hlt : x < 18446744073709551616 := h x hx
  simp only [List.mem_cons, List.not_mem_nil, or_false] at hy
  rcases hy with rfl | rfl
  · exact Nat.mod_lt _ (by decide)
  · show x / 4294967296 < 4294967296; omega
theorem hv_snoc (a : List Nat) (x : Nat) : hv (a ++ [x]) = hv a ++ [x % W32, x / W32] := by simp [hv]
/-- words as limbs -/
def lb : List Nat → List Nat
  | [] => []
  | [x] => [x]
  | x :: y :: r => (x + W32 * y) :: lb r
theorem ln_lb : ∀ d : List Nat, ln (lb d) = nv d
  | [] => rfl
  | [x] => by simp [lb, ln, nv]
  | x :: y :: r => by
    rw [lb, ln, ln_lb r, nv, nv, Nat.mul_add, ← Nat.mul_assoc, ← W64_sq]
    omega
theorem lb_lds : ∀ {d : List Nat}, Wds d → Lds (lb d)
  | [], _ => fun _ h => by simp [lb] at h
  | [x], h => fun z hz => by
    simp [lb] at hz
    have : x < 4294967296 := h.head
    subst hz
    show z < 18446744073709551616
    omega
  | x :: y :: r, h => fun z hz => by
    rw [lb] at hz
    rcases List.mem_cons.1 hz with rfl | hz
    · have h1 : x < 4294967296 := h.head
      have h2 : y < 4294967296 := h.tail.head
      show x + 4294967296 * y < 18446744073709551616
      omega
    · exact lb_lds h.tail.tail z hz

end Go.Proofs.YtjokpfgncmdomaaGreatDoor

/- mul: the walk -/
namespace Go.Proofs.YtjokpfgncmdomaaGreatDoor
open Go.RowKit Go.Sort

theorem mul_step {xs : List Nat} {i j q o p x y : Nat} {R Y : Nat} (ho : xs[i + j]? = some o) (h : nv xs + W32 ^ (i + j) * q = R + W32 ^ i * (x * Y)) (hp : p = q + (x * y + o)) :
    nv (xs.set (i + j) (p % W32)) + W32 ^ (i + (j + 1)) * (p / W32) = R + W32 ^ i * (x * (Y + W32 ^ j * y)) := by
  have h1 := nv_set (v := p % W32) ho
  have h2 : W32 ^ (i + j) * (p % W32) + W32 ^ (i + (j + 1)) * (p / W32) = W32 ^ (i + j) * p := by
    rw [show i + (j + 1) = i + j + 1 by omega, Nat.pow_succ, Nat.mul_assoc, ← Nat.mul_add, Nat.mod_add_div]
  have h3 : W32 ^ (i + j) * p = W32 ^ (i + j) * q + (W32 ^ (i + j) * (x * y) + W32 ^ (i + j) * o) := by rw [hp, Nat.mul_add, Nat.mul_add]
  have h4 : W32 ^ i * (x * (Y + W32 ^ j * y)) = W32 ^ i * (x * Y) + W32 ^ (i + j) * (x * y) := by
    rw [Nat.mul_add, Nat.mul_add, Nat.pow_add]
    congr 1
    rw [Nat.mul_left_comm x, Nat.mul_assoc]
  rw [h4]
  omega

set_option maxRecDepth 100000 in
theorem mul_any (A B : Option Addr) (n m c d : Nat) (a b : List Nat) (S S' : Nat → Prop) (w : World) (hx : RdE Wc 1 w S A n a) (hy : RdE Wc 1 w S' B m b) (ha : Wds a) (hb : Wds b) (hS : ∀ b, S b → b < w.heap.size) (hS' : ∀ b, S' b → b < w.heap.size)
    (hn : n ≤ 100000000000) (hm : m ≤ 100000000000) :
    Calls Tryz.prog 163 #[.slice A n c, .slice B m d] w fun e w' => ∃ A' c', e = .returned (.slice A' (dig (nv a * nv b)).length c') ∧ (dig (nv a * nv b)).length ≤ c' ∧ RdE Wc 1 w' (fun b => w.heap.size ≤ b ∧ b < w'.heap.size) A' (dig (nv a * nv b)).length (dig (nv a * nv b)) ∧ Below w.heap.size w w' := by
  obtain ⟨i0, hi0, hz0, hz1, hz2⟩ := info_parts' info_u32
  have HX := Lib.hid hx
  have HY := Lib.hid hy
  have HA := Lib.hid ha
  have HB := Lib.hid hb
  have HS := Lib.hid hS
  have HS' := Lib.hid hS'
  clear hx hy ha hb hS hS'
  have hzero : (n = 0 ∨ m = 0) → nv a * nv b = 0 := by
    rintro (h | h)
    · rw [List.eq_nil_of_length_eq_zero (HX.out.num.trans h)]; simp [nv]
    · rw [List.eq_nil_of_length_eq_zero (HY.out.num.trans h)]; simp [nv]
  by_cases h0 : n = 0
  · have HZ := Lib.hid (hzero (.inl h0))
    subst h0
    clear hzero
    go_enter Tryz.func163, Tryz.ntmps163
    go_wp2_with fail
    go_ret
    rw [HZ.out]
    exact ⟨none, 0, rfl, Nat.le_refl _, RdE.nil .., Below.refl _ _⟩
  · by_cases h1 : m = 0
    · have HZ := Lib.hid (hzero (.inr h1))
      subst h1
      clear hzero
      go_enter Tryz.func163, Tryz.ntmps163
      go_wp2_with fail
      go_ret
      rw [HZ.out]
      exact ⟨none, 0, rfl, Nat.le_refl _, RdE.nil .., Below.refl _ _⟩
    · clear hzero
      have e0 : ((n : Int) == 0) = false := by simp; omega
      have e1 : ((m : Int) == 0) = false := by simp; omega
      go_enter Tryz.func163, Tryz.ntmps163
      go_wp2_with (at_make; go_must (refine wpList_make_full _ rfl _ _ _ rfl w.heap.size 119 i0 _ 1 Tryz.underlying66 hi0 hz0 hz1 .i64 .i64 _ _ (n + m) rfl rfl (by omega) (by omega) (by rw [hz2]; omega) (by simp only [maxLen]; omega) (Nat.le_refl _) ?_); intro w1 hown1 hg1)
      have hinv := hown1
      rw [made_u32] at hinv
      have HI := Lib.hid hinv
      have HB1 := Lib.hid (below_of_grown hg1 (fun g hg => by cases hg))
      clear hown1 hg1 hinv
      go_loopw [6] (fun i wr => ∃ (k : Nat) (xs : List Nat), k ≤ n ∧ i = .int .i64 k ∧ xs.length = n + m ∧ Wds xs ∧ nv xs = nv (a.take k) * nv b ∧ ZeroFrom xs (k + m) ∧ wr.ownsRow w.heap.size 119 1 (.slice (some ⟨w.heap.size, 0, none⟩) (n + m) (n + m)) (n + m) (xs.flatMap Wc) ∧ Below w.heap.size w wr) (fun i _ => n - (intOf i).toNat)
      case atStart => exact ⟨0, List.replicate (n + m) 0, Nat.zero_le _, rfl, by simp, fun x hx => by rw [(List.mem_replicate.1 hx).2]; decide, by rw [(zero_rep (n + m) 0).val]; simp [nv], zero_rep _ _, HI.out, HB1.out⟩
      case round =>
        obtain ⟨k, xs, hk, rfl, hxl, hxw, hsum, hzf, hown, hbw⟩ := hrel
        by_cases hlt : k < n
        · obtain ⟨x, hx⟩ := get_some HX.out.num hlt
          obtain ⟨b1, o1, rfl, hSb1, hc⟩ := HX.out.elem Wc.clen hx (by omega)
          have q1 : ∀ wi : World, Below w.heap.size w wi → wi.cell? ⟨b1, o1 + k, none⟩ = some (.int .u32 (x : Int)) := fun wi hbi => by have h := (hbi.cell (p := ⟨b1, _, none⟩) (HS.out _ hSb1)).trans (hc 0 _ rfl); rw [Nat.mul_one, Nat.add_zero] at h; exact h
          have Q1 := Lib.hid q1
          have hxlt := hw0 HA.out hx
          have HO := Lib.hid hown
          have HBW := Lib.hid hbw
          have HSUM := Lib.hid hsum
          have HXX := Lib.hid hx
          have HXW := Lib.hid hxw
          have HZF := Lib.hid hzf
          clear hown hbw hsum hx hc hxw hzf q1
          obtain ⟨wo, rfl⟩ : ∃ wo : World, wo = wr := ⟨_, rfl⟩
          go_wp2_with fail
          have hxlt' : (x : Int) < 4294967296 := by omega
          go_loopw [7, 8] (fun cv jv wr => ∃ (l q : Nat) (ys : List Nat), l ≤ m ∧ cv = .int .u64 q ∧ jv = .int .i64 l ∧ q < 4294967296 ∧ ys.length = n + m ∧ Wds ys ∧ nv ys + W32 ^ (k + l) * q = nv xs + W32 ^ k * (x * nv (b.take l)) ∧ ZeroFrom ys (k + m) ∧ wr.ownsRow w.heap.size 119 1 (.slice (some ⟨w.heap.size, 0, none⟩) (n + m) (n + m)) (n + m) (ys.flatMap Wc) ∧ Below w.heap.size w wr) (fun _ j _ => m - (intOf j).toNat)
          case atStart => exact ⟨0, 0, xs, Nat.zero_le _, rfl, rfl, by decide, hxl, HXW.out, by simp [nv], HZF.out, HO.out, HBW.out⟩
          case round =>
            clear HO HBW
            obtain ⟨l, q, ys, hl, rfl, rfl, hq, hyl, hyw, hsm, hzf, hown, hbw⟩ := hrel
            have q1 := Q1.out wr hbw
            by_cases hlm : l < m
            · obtain ⟨y, hy⟩ := get_some HY.out.num hlm
              obtain ⟨b2, o2, rfl, hSb2, hc2⟩ := HY.out.elem Wc.clen hy (by omega)
              have q2 : wr.cell? ⟨b2, o2 + l, none⟩ = some (.int .u32 (y : Int)) := by have h := (hbw.cell (p := ⟨b2, _, none⟩) (HS'.out _ hSb2)).trans (hc2 0 _ rfl); rw [Nat.mul_one, Nat.add_zero] at h; exact h
              have hylt := hw0 HB.out hy
              obtain ⟨o, ho⟩ := get_some hyl (show k + l < n + m by omega)
              have holt := hw0 hyw ho
              have q0 : wr.cell? ⟨w.heap.size, k + l, none⟩ = some (.int .u32 (o : Int)) := own_wc hown ho
              have hf := hown.frozenAt (k + l)
              have hxy : x * y ≤ 18446744065119617025 := Nat.le_trans (Nat.mul_le_mul (show x ≤ 4294967295 by omega) (show y ≤ 4294967295 by omega)) (by decide)
              have hxy1 : (x : Int) * (y : Int) ≤ 18446744065119617025 := by rw [← Int.natCast_mul]; omega
              have hxy0 : 0 ≤ (x : Int) * (y : Int) := by rw [← Int.natCast_mul]; omega
              have hs1 : IntKind.i64.wrap ((k : Int) + l) = (k : Int) + l := IntWalk.i64_in _ (by omega)
              have hs2 : 0 ≤ (k : Int) + l := by omega
              have hs3 : ((k : Int) + l).toNat = k + l := by omega
              have HO := Lib.hid hown
              have HBW := Lib.hid hbw
              have HSM := Lib.hid hsm
              have HYY := Lib.hid hy
              have HYW := Lib.hid hyw
              have HZ := Lib.hid hzf
              have HOO := Lib.hid ho
              clear hown hbw hsm hy hyw hzf ho hc2
              go_wp2_with fail
              go_quiet (fail)
              go_wp2_with fail
              have ho1 := own_set_wc (own_drewN HO.out nq) (i := k + l) (by omega) ((q + (x * y + o)) % W32)
              have HO1 := Lib.hid ho1.1
              have HB2 := Lib.hid ((below_drewN HBW.out nq).grown ho1.2 (Nat.le_of_lt (HO.out.lt w.heap.size rfl).2) (fun g hg => by injection hg with hg; omega))
              clear ho1
              have hplt : q + (x * y + o) < 18446744073709551616 := by omega
              refine ⟨⟨l + 1, (q + (x * y + o)) / W32, ys.set (k + l) ((q + (x * y + o)) % W32), by omega, ?_, by go_num, ?_, by simp [hyl], wds_set HYW.out (Nat.mod_lt _ (by decide)), ?_, HZ.out.set (by omega), HO1.out, HB2.out⟩, by simp [intOf]; omega⟩
              · rfl
              · show (q + (x * y + o)) / 4294967296 < 4294967296; omega
              · rw [nv_take_succ HYY.out]; exact mul_step HOO.out HSM.out rfl
            · obtain rfl : m = l := by omega
              have hzq : ∃ o, ys[k + m]? = some o := get_some hyl (show k + m < n + m by omega)
              obtain ⟨o, ho⟩ := hzq
              obtain rfl : o = 0 := hzf _ _ (Nat.le_refl _) ho
              have q0 := own_wc hown ho
              have hf := hown.frozenAt (k + m)
              have HO := Lib.hid hown
              have HBW := Lib.hid hbw
              have hfin : nv (ys.set (k + m) q) = nv (a.take (k + 1)) * nv b := by
                have h := nv_set (v := q) ho
                have e : b.take m = b := List.take_of_length_le (by rw [HY.out.num]; omega)
                rw [hsm, HSUM.out, Nat.mul_zero, Nat.add_zero, e] at h
                rw [h, nv_take_succ HXX.out, Nat.add_mul, Nat.mul_assoc]
              have HFIN := Lib.hid hfin
              have HZ := Lib.hid (ZeroFrom.set_at (v := q) hzf)
              have HYW := Lib.hid (wds_set (k := k + m) (v := q) hyw hq)
              have ho1 := own_set_wc hown (i := k + m) (by omega) q
              have HO1 := Lib.hid ho1.1
              have HB2 := Lib.hid (hbw.grown ho1.2 (Nat.le_of_lt (hown.lt w.heap.size rfl).2) (fun g hg => by injection hg with hg; omega))
              clear hown hbw hsm hzf hyw hfin ho1 ho
              go_wp2_with fail
              refine ⟨⟨k + 1, ys.set (k + m) q, by omega, by go_num, by simp [hyl], HYW.out, HFIN.out, HZ.out.mono (by omega), HO1.out, HB2.out⟩, by simp [intOf]; omega⟩
        · obtain rfl : n = k := by omega
          have HO := Lib.hid hown
          have HBW := Lib.hid hbw
          have HXW := Lib.hid hxw
          have hfin : nv xs = nv a * nv b := by
            rw [hsum, List.take_of_length_le (by rw [HX.out.num]; exact Nat.le_refl _)]
          have HFIN := Lib.hid hfin
          clear hown hbw hxw hsum hfin hzf
          go_wp2_with fail
          refine (trim_own w.heap.size w.heap.size (n + m) (n + m) xs _ HO.out HXW.out (by omega) (Nat.le_refl _)).mono ?_
          rintro e w9 ⟨rfl, hl9, hr9, hb9⟩
          rw [HFIN.out] at hl9 hr9 ⊢
          have HR9 := Lib.hid hr9
          have HL9 := Lib.hid hl9
          have HB9 := Lib.hid (HBW.out.trans (hb9.mono HBW.out.size))
          clear hr9 hl9 hb9
          go_wp2_with fail
          go_ret
          exact ⟨_, _, rfl, HL9.out, HR9.out, HB9.out⟩

end Go.Proofs.YtjokpfgncmdomaaGreatDoor

/- small: the walk -/
namespace Go.Proofs.YtjokpfgncmdomaaGreatDoor
open Go.RowKit Go.Sort

theorem or_low32 {x y : Nat} (hx : x < 4294967296) (hy : y < 4294967296) : bits .or .u64 ((y : Int) * 4294967296) (x : Int) = ((y * 4294967296 + x : Nat) : Int) := by
  have h := bits_join .u64 64 (by decide) wraps_u64 32 ((y : Int) * 4294967296) (x : Int) (by omega) (by omega) (by omega) (by omega) (by omega) (by omega)
  rw [h]
  omega

set_option maxRecDepth 100000 in
theorem small_any (A : Option Addr) (n c : Nat) (a : List Nat) (d : Nat) (S : Nat → Prop) (w : World) (hx : RdE Wc 1 w S A n a) (ha : Wds a) (hS : ∀ b, S b → b < w.heap.size) (hn : n ≤ 100000000000) (hd0 : 0 < d) (hd : d < 4294967296) :
    Calls Tryz.prog 141 #[.slice A n c, .int .u32 d] w fun e w' => ∃ A' c', e = .returned (.tuple #[.slice A' (dig (nv a / d)).length c', .int .u32 ((nv a % d : Nat) : Int)]) ∧ (dig (nv a / d)).length ≤ c' ∧ RdE Wc 1 w' (fun b => w.heap.size ≤ b ∧ b < w'.heap.size) A' (dig (nv a / d)).length (dig (nv a / d)) ∧ Below w.heap.size w w' := by
  obtain ⟨i0, hi0, hz0, hz1, hz2⟩ := info_parts' info_u32
  have HX := Lib.hid hx
  have HA := Lib.hid ha
  have HS := Lib.hid hS
  have hdi : (0 : Int) < (d : Int) := by omega
  have hdz : ((d : Int) == 0) = false := by simp; omega
  clear hx ha hS
  go_enter Tryz.func141, Tryz.ntmps141
  go_wp2_with (at_make; go_must (refine wpList_make_full _ rfl _ _ _ rfl w.heap.size 119 i0 _ 1 Tryz.underlying66 hi0 hz0 hz1 .i64 .i64 _ _ n rfl rfl (by omega) (by omega) (by rw [hz2]; omega) (by simp only [maxLen]; omega) (Nat.le_refl _) ?_); intro w1 hown1 hg1)
  have hinv := hown1
  rw [made_u32] at hinv
  have HI := Lib.hid hinv
  have HB1 := Lib.hid (below_of_grown hg1 (fun g hg => by cases hg))
  clear hown1 hg1 hinv
  go_loopw [7, 8] (fun rv iv wr => ∃ (t r : Nat) (xs : List Nat), t ≤ n ∧ rv = .int .u64 r ∧ (∃ z : Int, iv = .int .i64 z ∧ z = (t : Int) - 1) ∧ r < d ∧ xs.length = n ∧ Wds xs ∧ nv a = nv (a.take t) + W32 ^ t * r + d * nv xs ∧ ZeroTo xs t ∧ wr.ownsRow w.heap.size 119 1 (.slice (some ⟨w.heap.size, 0, none⟩) n n) n (xs.flatMap Wc) ∧ Below w.heap.size w wr) (fun _ i _ => (intOf i + 1).toNat)
  case atStart => exact ⟨n, 0, List.replicate n 0, Nat.le_refl _, rfl, ⟨_, rfl, rfl⟩, hd0, by simp, fun x hx => by rw [(List.mem_replicate.1 hx).2]; decide, by rw [List.take_of_length_le (by rw [HX.out.num]; exact Nat.le_refl _), (zero_rep n 0).val]; simp [nv], zeroTo_rep _ _, HI.out, HB1.out⟩
  case round =>
    obtain ⟨t, r, xs, ht, rfl, ⟨z, rfl, hz⟩, hr, hxl, hxw, hsum, hzt, hown, hbw⟩ := hrel
    have HO := Lib.hid hown
    have HBW := Lib.hid hbw
    have HXW := Lib.hid hxw
    have HSUM := Lib.hid hsum
    have HZT := Lib.hid hzt
    clear hown hbw hxw hsum hzt
    by_cases h0 : t = 0
    · subst h0
      obtain rfl : z = -1 := by omega
      have hfin := HSUM.out
      have e : nv (a.take 0) = 0 := by simp [nv]
      rw [e, Nat.pow_zero, Nat.one_mul, Nat.zero_add] at hfin
      have hq : nv a / d = nv xs := by rw [hfin, Nat.add_mul_div_left _ _ hd0, Nat.div_eq_of_lt hr, Nat.zero_add]
      have hm : nv a % d = r := by rw [hfin, Nat.add_mul_mod_self_left, Nat.mod_eq_of_lt hr]
      have HQ := Lib.hid hq
      have HM := Lib.hid hm
      clear hfin e hq hm hz
      go_wp2_with fail
      refine (trim_own w.heap.size w.heap.size n n xs _ HO.out HXW.out (by omega) (Nat.le_refl _)).mono ?_
      rintro e w9 ⟨rfl, hl9, hr9, hb9⟩
      have HR9 := Lib.hid hr9
      have HL9 := Lib.hid hl9
      have HB9 := Lib.hid (HBW.out.trans (hb9.mono HBW.out.size))
      clear hr9 hl9 hb9
      go_wp2_with fail
      go_ret2
      rw [HQ.out, HM.out]
      exact ⟨_, _, rfl, HL9.out, HR9.out, HB9.out⟩
    · obtain ⟨j, rfl⟩ : ∃ j, t = j + 1 := ⟨t - 1, by omega⟩
      obtain rfl : z = (j : Int) := by omega
      clear hz
      obtain ⟨x, hx⟩ := get_some HX.out.num (show j < n by omega)
      obtain ⟨b1, o1, rfl, hSb1, hc⟩ := HX.out.elem Wc.clen hx (by omega)
      have q1 : wr.cell? ⟨b1, o1 + j, none⟩ = some (.int .u32 (x : Int)) := by have h := (HBW.out.cell (p := ⟨b1, _, none⟩) (HS.out _ hSb1)).trans (hc 0 _ rfl); rw [Nat.mul_one, Nat.add_zero] at h; exact h
      have hxlt := hw0 HA.out hx
      obtain ⟨o, ho⟩ := get_some hxl (show j < n by omega)
      obtain rfl : o = 0 := HZT.out _ _ (by omega) ho
      have q0 := own_wc HO.out ho
      have hf := HO.out.frozenAt j
      have hor := or_low32 hxlt (show r < 4294967296 by omega)
      have HXX := Lib.hid hx
      have HOO := Lib.hid ho
      clear hx hc ho
      go_wp2_with fail
      have hplt : r * 4294967296 + x < d * 4294967296 := by
        have := Nat.mul_le_mul_right 4294967296 (show r + 1 ≤ d by omega)
        rw [Nat.add_mul, Nat.one_mul] at this
        omega
      have hqlt : (r * 4294967296 + x) / d < 4294967296 := Nat.div_lt_of_lt_mul hplt
      have ho1 := own_set_wc HO.out (i := j) (by omega) ((r * 4294967296 + x) / d)
      have e : (((r : Int) * 4294967296 + x) / d % 4294967296) = (((r * 4294967296 + x) / d : Nat) : Int) := by
        have h1 : (((r * 4294967296 + x : Nat) : Int) / (d : Int)) = (((r * 4294967296 + x) / d : Nat) : Int) := (Int.natCast_ediv _ _).symm
        have h2 : (r : Int) * 4294967296 + x = ((r * 4294967296 + x : Nat) : Int) := by omega
        rw [h2, h1]
        clear h1 ho1
        generalize (r * 4294967296 + x) / d = Q at *
        omega
      rw [e]
      refine ⟨⟨j, (r * 4294967296 + x) % d, xs.set j ((r * 4294967296 + x) / d), by omega, ?_, ⟨_, rfl, rfl⟩, Nat.mod_lt _ hd0, by simp [hxl], wds_set HXW.out hqlt, ?_, (HZT.out.mono (by omega)).set (Nat.le_refl _), ho1.1, HBW.out.grown ho1.2 (Nat.le_of_lt (HO.out.lt w.heap.size rfl).2) (fun g hg => by injection hg with hg; omega)⟩, by simp [intOf]⟩
      · rfl
      · have h1 := HSUM.out
        rw [nv_take_succ HXX.out, Nat.pow_succ] at h1
        have h2 := nv_set (v := (r * 4294967296 + x) / d) HOO.out
        rw [Nat.mul_zero, Nat.add_zero] at h2
        rw [h2]
        exact small_step h1 (Nat.div_add_mod _ _).symm

end Go.Proofs.YtjokpfgncmdomaaGreatDoor

/- left: the walk -/
namespace Go.Proofs.YtjokpfgncmdomaaGreatDoor
open Go.RowKit Go.Sort

theorem left_words {x s o : Nat} (hx : x < 4294967296) (hs : s < 32) (ho : o < 2 ^ s) :
    bits .or .u32 (o : Int) (IntKind.u64.wrap ((x : Int) * 2 ^ s) % 4294967296) = ((o + x * 2 ^ s % W32 : Nat) : Int) ∧ o + x * 2 ^ s % W32 < W32 ∧
    bits .or .u32 0 (IntKind.u64.wrap ((x : Int) * 2 ^ s) / 4294967296 % 4294967296) = ((x * 2 ^ s / W32 : Nat) : Int) ∧ x * 2 ^ s / W32 < 2 ^ s := by
  have hp : 0 < 2 ^ s := Nat.pow_pos (by decide)
  have hp2 : 2 ^ s ≤ 2147483648 := Nat.le_trans (Nat.pow_le_pow_right (show 0 < 2 by decide) (show s ≤ 31 by omega)) (by decide)
  have hv : x * 2 ^ s < 4294967296 * 2 ^ s := Nat.mul_lt_mul_of_pos_right hx hp
  have hvv : x * 2 ^ s < 18446744073709551616 := by omega
  have hw : IntKind.u64.wrap ((x : Int) * 2 ^ s) = ((x * 2 ^ s : Nat) : Int) := by
    rw [IntKind.wrap_u64]
    have e : (x : Int) * 2 ^ s = ((x * 2 ^ s : Nat) : Int) := by push_cast; rfl
    rw [e]; omega
  rw [hw]
  obtain ⟨r, hr⟩ : ∃ r, 4294967296 = 2 ^ s * r := ⟨2 ^ (32 - s), by rw [← Nat.pow_add, show s + (32 - s) = 32 by omega]⟩
  have hdvd : x * 2 ^ s % 4294967296 = 2 ^ s * (x % r) := by
    rw [hr, Nat.mul_comm x, Nat.mul_mod_mul_left]
  have hlow : x * 2 ^ s % 4294967296 % 2 ^ s = 0 := by rw [hdvd, Nat.mul_mod_right]
  have hsum : o + x * 2 ^ s % 4294967296 < 4294967296 := by
    have h1 : x % r < r := Nat.mod_lt _ (by rcases Nat.eq_zero_or_pos r with h | h; · rw [h] at hr; omega
                                            · exact h)
    have h2 : 2 ^ s * (x % r) + 2 ^ s ≤ 2 ^ s * r := by rw [← Nat.mul_succ]; exact Nat.mul_le_mul_left _ h1
    omega
  have hm : x * 2 ^ s % 4294967296 < 4294967296 := Nat.mod_lt _ (by decide)
  have hq : x * 2 ^ s / 4294967296 < 2 ^ s := Nat.div_lt_of_lt_mul hv
  generalize x * 2 ^ s = v at *
  refine ⟨?_, hsum, ?_, hq⟩
  · have h := bits_join_low .u32 32 (by decide) wraps_u32 s (o : Int) ((v : Int) % 4294967296) (by omega) (by rw [show (2 : Int) ^ s = ((2 ^ s : Nat) : Int) from (Int.natCast_pow 2 s).symm]; omega) (by omega) (by omega) (by
      have g1 : (v : Int) % 4294967296 = ((v % 4294967296 : Nat) : Int) := by omega
      have g2 : (2 : Int) ^ s = ((2 ^ s : Nat) : Int) := (Int.natCast_pow 2 s).symm
      rw [g1, g2, ← Int.natCast_emod, hlow]; rfl) (by omega)
    rw [h]
    show (o : Int) + v % 4294967296 = ((o + v % 4294967296 : Nat) : Int)
    omega
  · have e : (v : Int) / 4294967296 % 4294967296 = ((v / 4294967296 : Nat) : Int) := by omega
    rw [e]
    have h := (bits_nat .u32 32 (by decide) wraps_u32 0 (v / 4294967296) (by decide) (by omega)).2
    rw [Nat.zero_or] at h
    exact h

set_option maxRecDepth 100000 in
set_option maxHeartbeats 2000000 in
theorem left_any (A : Option Addr) (n c : Nat) (a : List Nat) (h s : Nat) (S : Nat → Prop) (w : World) (hx : RdE Wc 1 w S A n a) (ha : Wds a) (hS : ∀ b, S b → b < w.heap.size) (hn : n ≤ 10000000000) (hh : h ≤ 10000000000) (hs : s < 32) :
    Calls Tryz.prog 99 #[.slice A n c, .int .u64 ((h * 32 + s : Nat) : Int)] w fun e w' => ∃ A' c', e = .returned (.slice A' (dig (nv a * 2 ^ (h * 32 + s))).length c') ∧ (dig (nv a * 2 ^ (h * 32 + s))).length ≤ c' ∧ RdE Wc 1 w' (fun b => w.heap.size ≤ b ∧ b < w'.heap.size) A' (dig (nv a * 2 ^ (h * 32 + s))).length (dig (nv a * 2 ^ (h * 32 + s))) ∧ Below w.heap.size w w' := by
  obtain ⟨i0, hi0, hz0, hz1, hz2⟩ := info_parts' info_u32
  have HX := Lib.hid hx
  have HA := Lib.hid ha
  have HS := Lib.hid hS
  clear hx ha hS
  by_cases h0 : n = 0
  · subst h0
    have e : a = [] := List.eq_nil_of_length_eq_zero HX.out.num
    subst e
    go_enter Tryz.func99, Tryz.ntmps99
    go_wp2_with fail
    go_ret
    refine ⟨none, 0, ?_, ?_, ?_, Below.refl _ _⟩
    · simp [nv, dig_zero]
    · simp [nv, dig_zero]
    · simp only [nv, Nat.zero_mul, dig_zero]; exact RdE.nil ..
  · have e0 : ((n : Int) == 0) = false := by simp; omega
    have e1 : ((h * 32 + s : Nat) : Int) / 32 = (h : Int) := by omega
    have e2 : ((h * 32 + s : Nat) : Int) % 32 = (s : Int) := by omega
    obtain ⟨N, hN⟩ : ∃ N : Nat, N = h * 32 + s := ⟨_, rfl⟩
    rw [← hN] at e1 e2 ⊢
    have HN := Lib.hid hN
    clear hN
    go_enter Tryz.func99, Tryz.ntmps99
    go_wp2_with (at_make; go_must (refine wpList_make_full _ rfl _ _ _ rfl w.heap.size 119 i0 _ 1 Tryz.underlying66 hi0 hz0 hz1 .i64 .i64 _ _ (n + h + 1) rfl rfl (by omega) (by omega) (by rw [hz2]; omega) (by simp only [maxLen]; omega) (Nat.le_refl _) ?_); intro w1 hown1 hg1)
    have hinv := hown1
    rw [made_u32] at hinv
    have HI := Lib.hid hinv
    have HB1 := Lib.hid (below_of_grown hg1 (fun g hg => by cases hg))
    clear hown1 hg1 hinv
    go_loopw [8] (fun i wr => ∃ (k : Nat) (xs : List Nat), k ≤ n ∧ i = .int .i64 k ∧ xs.length = n + h + 1 ∧ Wds xs ∧ nv xs = W32 ^ h * 2 ^ s * nv (a.take k) ∧ ZeroFrom xs (k + h + 1) ∧ (∀ o, xs[k + h]? = some o → o < 2 ^ s) ∧ wr.ownsRow w.heap.size 119 1 (.slice (some ⟨w.heap.size, 0, none⟩) (n + h + 1) (n + h + 1)) (n + h + 1) (xs.flatMap Wc) ∧ Below w.heap.size w wr) (fun i _ => n - (intOf i).toNat)
    case atStart => exact ⟨0, List.replicate (n + h + 1) 0, Nat.zero_le _, rfl, by simp, fun x hx => by rw [(List.mem_replicate.1 hx).2]; decide, by rw [(zero_rep (n + h + 1) 0).val]; simp [nv], zero_rep _ _, fun o ho => by rw [(List.mem_replicate.1 (List.mem_of_getElem? ho)).2]; exact Nat.pow_pos (by decide), HI.out, HB1.out⟩
    case round =>
      obtain ⟨k, xs, hk, rfl, hxl, hxw, hsum, hzf, hlow, hown, hbw⟩ := hrel
      by_cases hlt : k < n
      · obtain ⟨x, hx⟩ := get_some HX.out.num hlt
        obtain ⟨b1, o1, rfl, hSb1, hc⟩ := HX.out.elem Wc.clen hx (by omega)
        have q1 : wr.cell? ⟨b1, o1 + k, none⟩ = some (.int .u32 (x : Int)) := by have h := (hbw.cell (p := ⟨b1, _, none⟩) (HS.out _ hSb1)).trans (hc 0 _ rfl); rw [Nat.mul_one, Nat.add_zero] at h; exact h
        have hxlt := hw0 HA.out hx
        obtain ⟨o, ho⟩ := get_some hxl (show k + h < n + h + 1 by omega)
        have hos := hlow o ho
        have q0 := own_wc hown ho
        have hf := hown.frozenAt (k + h)
        obtain ⟨o', ho'⟩ := get_some hxl (show k + h + 1 < n + h + 1 by omega)
        obtain rfl : o' = 0 := hzf _ _ (Nat.le_refl _) ho'
        have q0' := own_wc hown ho'
        have hf' := hown.frozenAt (k + h + 1)
        have HO := Lib.hid hown
        have HBW := Lib.hid hbw
        have HSUM := Lib.hid hsum
        have HXX := Lib.hid hx
        have HXW := Lib.hid hxw
        have HZF := Lib.hid hzf
        have HOO := Lib.hid ho
        have HOO' := Lib.hid ho'
        have HOS := Lib.hid hos
        clear hown hbw hsum hx hc hxw hzf hlow ho ho' hos
        go_wp2_with fail
        obtain ⟨b1e, b1l, b2e, b2l⟩ := left_words hxlt hs HOS.out
        rw [b1e, b2e]
        have b2w : x * 2 ^ s / W32 < W32 := Nat.lt_of_lt_of_le b2l (Nat.le_trans (Nat.pow_le_pow_right (show 0 < 2 by decide) (show s ≤ 32 by omega)) (by decide))
        have ho1 := own_set_wc HO.out (i := k + h) (by omega) (o + x * 2 ^ s % W32)
        have ho2 := own_set_wc ho1.1 (i := k + h + 1) (by rw [List.length_set]; omega) (x * 2 ^ s / W32)
        have hB2 := (HBW.out.grown ho1.2 (Nat.le_of_lt (HO.out.lt w.heap.size rfl).2) (fun g hg => by injection hg with hg; omega)).grown ho2.2 (Nat.le_of_lt (ho1.1.lt w.heap.size rfl).2) (fun g hg => by injection hg with hg; omega)
        refine ⟨⟨k + 1, (xs.set (k + h) (o + x * 2 ^ s % W32)).set (k + h + 1) (x * 2 ^ s / W32), by omega, by go_num, by simp [hxl], wds_set (wds_set HXW.out b1l) b2w, ?_, ?_, ?_, ho2.1, hB2⟩, by simp [intOf]; omega⟩
        · have h1 := nv_set (v := o + x * 2 ^ s % W32) HOO.out
          have h2 : (xs.set (k + h) (o + x * 2 ^ s % W32))[k + h + 1]? = some 0 := by rw [List.getElem?_set_ne (by omega)]; exact HOO'.out
          have h3 := nv_set (v := x * 2 ^ s / W32) h2
          rw [Nat.mul_zero, Nat.add_zero] at h3
          rw [Nat.mul_add] at h1
          have h4 : nv (xs.set (k + h) (o + x * 2 ^ s % W32)) = nv xs + W32 ^ (k + h) * (x * 2 ^ s % W32) := by omega
          rw [h3, h4, nv_take_succ HXX.out]
          exact left_step HSUM.out rfl
        · have h5 := (HZF.out.set (v := o + x * 2 ^ s % W32) (show k + h < k + h + 1 by omega)).set_at (v := x * 2 ^ s / W32)
          rw [show k + 1 + h + 1 = k + h + 1 + 1 by omega]
          exact h5
        · intro z hz
          rw [show k + 1 + h = k + h + 1 by omega, List.getElem?_set_self (by rw [List.length_set]; omega)] at hz
          injection hz with hz
          rw [← hz]
          exact b2l
      · obtain rfl : n = k := by omega
        have HO := Lib.hid hown
        have HBW := Lib.hid hbw
        have HXW := Lib.hid hxw
        have hfin : nv xs = nv a * 2 ^ N := by
          rw [hsum, List.take_of_length_le (by rw [HX.out.num]; exact Nat.le_refl _), HN.out, Nat.pow_add, Nat.mul_comm h, Nat.pow_mul, Nat.mul_comm]
        have HFIN := Lib.hid hfin
        clear hown hbw hxw hsum hfin hzf hlow
        go_wp2_with fail
        refine (trim_own w.heap.size w.heap.size (n + h + 1) (n + h + 1) xs _ HO.out HXW.out (by omega) (Nat.le_refl _)).mono ?_
        rintro e w9 ⟨rfl, hl9, hr9, hb9⟩
        rw [HFIN.out] at hl9 hr9 ⊢
        have HR9 := Lib.hid hr9
        have HL9 := Lib.hid hl9
        have HB9 := Lib.hid (HBW.out.trans (hb9.mono HBW.out.size))
        clear hr9 hl9 hb9
        go_wp2_with fail
        go_ret
        exact ⟨_, _, rfl, HL9.out, HR9.out, HB9.out⟩

end Go.Proofs.YtjokpfgncmdomaaGreatDoor

/- right: the walk -/
namespace Go.Proofs.YtjokpfgncmdomaaGreatDoor
open Go.RowKit Go.Sort

theorem nv_div {a : List Nat} (ha : Wds a) (t : Nat) : nv a / W32 ^ t = nv (a.drop t) := by
  rw [nv_split a t, Nat.add_mul_div_left _ _ (w_pos t), Nat.div_eq_of_lt (nv_take_lt ha t), Nat.zero_add]
theorem nv_div_get {a : List Nat} (ha : Wds a) {t x : Nat} (hx : a[t]? = some x) : nv a / W32 ^ t = x + W32 * nv (a.drop (t + 1)) := by
  obtain ⟨hl, e⟩ := List.getElem?_eq_some_iff.1 hx
  rw [nv_div ha, List.drop_eq_getElem_cons hl, e, nv]
theorem nv_drop_get2 {ws : List Nat} {i x : Nat} (h : ws[i]? = some x) : nv (ws.drop i) = x + W32 * nv (ws.drop (i + 1)) := by
  obtain ⟨hl, e⟩ := List.getElem?_eq_some_iff.1 h
  rw [List.drop_eq_getElem_cons hl, e, nv]
theorem pow_split (h s : Nat) : 2 ^ (h * 32 + s) = W32 ^ h * 2 ^ s := by
  rw [Nat.pow_add, Nat.mul_comm h, Nat.pow_mul]
theorem right_dig {a : List Nat} (ha : Wds a) {h s i x y Z : Nat} (hs : s < 32) (hx : a[i + h]? = some x) (hy : nv (a.drop (i + h + 1)) = y + W32 * Z) : (x + W32 * y) / 2 ^ s % W32 = nv a / 2 ^ (h * 32 + s) / W32 ^ i % W32 := by
  have e := right_word (X := nv a / W32 ^ h) (i := i) (x := x) (y := y) (Z := Z) (s := s) hs (by
    rw [Nat.div_div_eq_div_mul, ← Nat.pow_add, Nat.add_comm h i, nv_div_get ha hx, hy])
  rw [e, pow_split, ← Nat.div_div_eq_div_mul (nv a) (W32 ^ h)]

theorem cast_shr (v s : Nat) : (v : Int) / 2 ^ s % 4294967296 = ((v / 2 ^ s % W32 : Nat) : Int) := by
  have g2 : (2 : Int) ^ s = ((2 ^ s : Nat) : Int) := (Int.natCast_pow 2 s).symm
  rw [g2, ← Int.natCast_ediv]
  generalize v / 2 ^ s = q
  show (q : Int) % 4294967296 = ((q % 4294967296 : Nat) : Int)
  omega
theorem right_words {x y s : Nat} (hx : x < 4294967296) (hy : y < 4294967296) : bits .or .u64 (x : Int) ((y : Int) * 4294967296) / 2 ^ s % 4294967296 = (((x + W32 * y) / 2 ^ s % W32 : Nat) : Int) := by
  have h := u64_or32 (y := (x : Int)) (x := (y : Int) * 4294967296) (by omega) (by omega) (by omega) (by omega) (by omega)
  rw [h, show (x : Int) + (y : Int) * 4294967296 = ((x + W32 * y : Nat) : Int) by show _ = ((x + 4294967296 * y : Nat) : Int); omega]
  exact cast_shr _ _
theorem set_keeps {xs : List Nat} {k v : Nat} {P : Nat → Nat → Prop} (h : ∀ (j x : Nat), j < k → xs[j]? = some x → P j x) (hv : P k v) : ∀ (j x : Nat), j < k + 1 → (xs.set k v)[j]? = some x → P j x := by
  intro j x hj hx
  by_cases e : j = k
  · subst e
    have hl : j < xs.length := by have := (List.getElem?_eq_some_iff.1 hx).1; simpa using this
    rw [List.getElem?_set_self hl] at hx
    injection hx with hx
    exact hx ▸ hv
  · rw [List.getElem?_set_ne (by omega)] at hx
    exact h j x (by omega) hx

set_option maxRecDepth 100000 in
set_option maxHeartbeats 2000000 in
theorem right_any (A : Option Addr) (n c : Nat) (a : List Nat) (h s : Nat) (S : Nat → Prop) (w : World) (hx : RdE Wc 1 w S A n a) (ha : Wds a) (hS : ∀ b, S b → b < w.heap.size) (hn : n ≤ 10000000000) (hh : h ≤ 10000000000) (hs : s < 32) :
    Calls Tryz.prog 142 #[.slice A n c, .int .u64 ((h * 32 + s : Nat) : Int)] w fun e w' => ∃ A' c', e = .returned (.slice A' (dig (nv a / 2 ^ (h * 32 + s))).length c') ∧ (dig (nv a / 2 ^ (h * 32 + s))).length ≤ c' ∧ RdE Wc 1 w' (fun b => w.heap.size ≤ b ∧ b < w'.heap.size) A' (dig (nv a / 2 ^ (h * 32 + s))).length (dig (nv a / 2 ^ (h * 32 + s))) ∧ Below w.heap.size w w' := by
  obtain ⟨i0, hi0, hz0, hz1, hz2⟩ := info_parts' info_u32
  have HX := Lib.hid hx
  have HA := Lib.hid ha
  have HS := Lib.hid hS
  clear hx ha hS
  have e1 : ((h * 32 + s : Nat) : Int) / 32 = (h : Int) := by omega
  have e2 : ((h * 32 + s : Nat) : Int) % 32 = (s : Int) := by omega
  obtain ⟨N, hN⟩ : ∃ N : Nat, N = h * 32 + s := ⟨_, rfl⟩
  rw [← hN] at e1 e2 ⊢
  have HN := Lib.hid hN
  clear hN
  by_cases h0 : n ≤ h
  · have hz : nv a / 2 ^ N = 0 := by
      rw [HN.out, pow_split, ← Nat.div_div_eq_div_mul]
      have h1 := nv_lt HA.out
      rw [HX.out.num] at h1
      rw [Nat.div_eq_of_lt (Nat.lt_of_lt_of_le h1 (Nat.pow_le_pow_right (by decide) h0)), Nat.zero_div]
    have HZ := Lib.hid hz
    clear hz
    go_enter Tryz.func142, Tryz.ntmps142
    go_wp2_with fail
    go_ret
    rw [HZ.out]
    exact ⟨none, 0, rfl, Nat.le_refl _, RdE.nil .., Below.refl _ _⟩
  · obtain ⟨l, hl⟩ : ∃ l, n = h + l := ⟨n - h, by omega⟩
    have hl0 : 0 < l := by omega
    subst hl
    go_enter Tryz.func142, Tryz.ntmps142
    go_wp2_with (at_make; go_must (refine wpList_make_full _ rfl _ _ _ rfl w.heap.size 119 i0 _ 1 Tryz.underlying66 hi0 hz0 hz1 .i64 .i64 _ _ l (by show _ = _; congr 1 <;> omega) (by show _ = _; congr 1 <;> omega) (by omega) (by omega) (by rw [hz2]; omega) (by simp only [maxLen]; omega) (Nat.le_refl _) ?_); intro w1 hown1 hg1)
    have hinv := hown1
    rw [made_u32] at hinv
    have HI := Lib.hid hinv
    have HB1 := Lib.hid (below_of_grown hg1 (fun g hg => by cases hg))
    clear hown1 hg1 hinv
    go_loopw [8] (fun i wr => ∃ (k : Nat) (xs : List Nat), k ≤ l ∧ i = .int .i64 k ∧ xs.length = l ∧ Wds xs ∧ (∀ (j x : Nat), j < k → xs[j]? = some x → x = nv a / 2 ^ N / W32 ^ j % W32) ∧ wr.ownsRow w.heap.size 119 1 (.slice (some ⟨w.heap.size, 0, none⟩) l l) l (xs.flatMap Wc) ∧ Below w.heap.size w wr) (fun i _ => l - (intOf i).toNat)
    case atStart => exact ⟨0, List.replicate l 0, Nat.zero_le _, rfl, by simp, fun x hx => by rw [(List.mem_replicate.1 hx).2]; decide, fun j x hj => absurd hj (Nat.not_lt_zero _), HI.out, HB1.out⟩
    case round =>
      obtain ⟨k, xs, hk, rfl, hxl, hxw, hsum, hown, hbw⟩ := hrel
      by_cases hlt : k < l
      · obtain ⟨x, hx⟩ := get_some HX.out.num (show k + h < h + l by omega)
        obtain ⟨b1, o1, rfl, hSb1, hc⟩ := HX.out.elem Wc.clen hx (by omega)
        have q1 : wr.cell? ⟨b1, o1 + (k + h), none⟩ = some (.int .u32 (x : Int)) := by have h := (hbw.cell (p := ⟨b1, _, none⟩) (HS.out _ hSb1)).trans (hc 0 _ rfl); rw [Nat.mul_one, Nat.add_zero] at h; exact h
        have hxlt := hw0 HA.out hx
        obtain ⟨o, ho⟩ := get_some hxl hlt
        have q0 := own_wc hown ho
        have hf := hown.frozenAt k
        have HO := Lib.hid hown
        have HBW := Lib.hid hbw
        have HSUM := Lib.hid hsum
        have HXX := Lib.hid hx
        have HXW := Lib.hid hxw
        by_cases hmore : k + h + 1 < h + l
        · obtain ⟨y, hy⟩ := get_some HX.out.num hmore
          obtain ⟨b2, o2, eb, _, hc2⟩ := HX.out.elem Wc.clen hy (by omega)
          cases eb
          have q2 : wr.cell? ⟨b1, o1 + (k + h + 1), none⟩ = some (.int .u32 (y : Int)) := by have h := (hbw.cell (p := ⟨b1, _, none⟩) (HS.out _ hSb1)).trans (hc2 0 _ rfl); rw [Nat.mul_one, Nat.add_zero] at h; exact h
          have hylt := hw0 HA.out hy
          have HYY := Lib.hid hy
          clear hown hbw hsum hx hc hxw ho hy hc2
          go_wp2_with fail
          rw [right_words hxlt hylt]
          have ho1 := own_set_wc HO.out (i := k) (by omega) ((x + W32 * y) / 2 ^ s % W32)
          refine ⟨⟨k + 1, xs.set k ((x + W32 * y) / 2 ^ s % W32), by omega, by go_num, by simp [hxl], wds_set HXW.out (Nat.mod_lt _ (by decide)), ?_, ho1.1, HBW.out.grown ho1.2 (Nat.le_of_lt (HO.out.lt w.heap.size rfl).2) (fun g hg => by injection hg with hg; omega)⟩, by simp [intOf]; omega⟩
          exact set_keeps HSUM.out (by rw [HN.out]; exact right_dig HA.out hs HXX.out (nv_drop_get2 HYY.out))
        · clear hown hbw hsum hx hc hxw ho
          go_wp2_with fail
          rw [cast_shr]
          have hz : nv (a.drop (k + h + 1)) = 0 + W32 * 0 := by rw [List.drop_of_length_le (by rw [HX.out.num]; omega)]; rfl
          have ho1 := own_set_wc HO.out (i := k) (by omega) (x / 2 ^ s % W32)
          refine ⟨⟨k + 1, xs.set k (x / 2 ^ s % W32), by omega, by go_num, by simp [hxl], wds_set HXW.out (Nat.mod_lt _ (by decide)), ?_, ho1.1, HBW.out.grown ho1.2 (Nat.le_of_lt (HO.out.lt w.heap.size rfl).2) (fun g hg => by injection hg with hg; omega)⟩, by simp [intOf]; omega⟩
          exact set_keeps HSUM.out (by rw [HN.out]; exact by have h2 := right_dig HA.out hs HXX.out hz; rw [Nat.mul_zero, Nat.add_zero] at h2; exact h2)
      · obtain rfl : l = k := by omega
        have HO := Lib.hid hown
        have HBW := Lib.hid hbw
        have HXW := Lib.hid hxw
        have hfin : nv xs = nv a / 2 ^ N := by
          have h1 := nv_of_get (nv a / 2 ^ N) xs 0 (fun j x hx => by rw [Nat.zero_add]; exact hsum j x (by have := (List.getElem?_eq_some_iff.1 hx).1; omega) hx) (by
            rw [Nat.pow_zero, Nat.div_one, HN.out, pow_split]
            have h2 := nv_lt HA.out
            rw [HX.out.num, Nat.pow_add, ← hxl] at h2
            exact Nat.lt_of_le_of_lt (by rw [← Nat.div_div_eq_div_mul]; exact Nat.div_le_self _ _) (Nat.div_lt_of_lt_mul h2))
          rwa [Nat.pow_zero, Nat.div_one] at h1
        have HFIN := Lib.hid hfin
        clear hown hbw hxw hsum hfin
        go_wp2_with fail
        refine (trim_own w.heap.size w.heap.size l l xs _ HO.out HXW.out (by omega) (Nat.le_refl _)).mono ?_
        rintro e w9 ⟨rfl, hl9, hr9, hb9⟩
        rw [HFIN.out] at hl9 hr9 ⊢
        have HR9 := Lib.hid hr9
        have HL9 := Lib.hid hl9
        have HB9 := Lib.hid (HBW.out.trans (hb9.mono HBW.out.size))
        clear hr9 hl9 hb9
        go_wp2_with fail
        go_ret
        exact ⟨_, _, rfl, HL9.out, HR9.out, HB9.out⟩

end Go.Proofs.YtjokpfgncmdomaaGreatDoor
