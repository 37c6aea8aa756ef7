import Derived.Test.YtjokpfgncmdomaaGreatDoorX02
set_option linter.unusedSimpArgs false
set_option linter.unusedVariables false
/- plain laws of numbers in words: places, Knuth's division -/
namespace Go.Proofs.YtjokpfgncmdomaaGreatDoor

theorem nv_set {xs : List Nat} {t o v : Nat} (h : xs[t]? = some o) : nv (xs.set t v) + W32 ^ t * o = nv xs + W32 ^ t * v := by
  induction xs generalizing t with
  | nil => simp at h
  | cons x xs ih =>
    cases t with
    | zero =>
      simp at h
      subst h
      simp [nv]
      omega
    | succ t =>
      have h2 := ih (t := t) (by simpa using h)
      simp only [List.set_cons_succ, nv, Nat.pow_succ]
      have e : ∀ z, W32 ^ t * W32 * z = W32 * (W32 ^ t * z) := fun z => by rw [Nat.mul_comm (W32 ^ t) W32, Nat.mul_assoc]
      rw [e, e]
      have h3 : W32 * (nv (xs.set t v) + W32 ^ t * o) = W32 * (nv xs + W32 ^ t * v) := by rw [h2]
      rw [Nat.mul_add, Nat.mul_add] at h3
      omega
/-- one word of Knuth's estimate: the invariant of the guess -/
theorem kn_start {P U V h u2 ul top next vl : Nat} (hV : V = (top * W32 + next) * P + vl) (hU : U = (h * W32 + u2) * P + ul) (hul : ul < P) (hu2 : u2 < W32) (htop : 0 < top) : U / V ≤ h / top := by
  have hV0 : 0 < V := by
    rw [hV]
    have : 0 < P := by omega
    have h2 : 0 < top * W32 := Nat.mul_pos htop (by decide)
    have : 0 < (top * W32 + next) * P := Nat.mul_pos (Nat.add_pos_left h2 _) this
    omega
  rw [Nat.le_div_iff_mul_le htop]
  have h1 : U / V * V ≤ U := Nat.div_mul_le_self U V
  generalize U / V = q at *
  have h2 : q * top * (W32 * P) ≤ q * V := by
    rw [hV, Nat.mul_assoc]
    apply Nat.mul_le_mul_left
    rw [Nat.add_mul, Nat.mul_assoc]
    omega
  have h3 : U < (h + 1) * (W32 * P) := by
    rw [hU, Nat.add_mul, Nat.add_mul h, Nat.mul_assoc h, Nat.one_mul]
    have : (u2 + 1) * P ≤ W32 * P := Nat.mul_le_mul_right _ hu2
    rw [Nat.add_mul, Nat.one_mul] at this
    omega
  have h4 : q * top * (W32 * P) < (h + 1) * (W32 * P) := by omega
  have := Nat.lt_of_mul_lt_mul_right h4
  omega
/-- the guess is too great -/
theorem kn_great {P U V h u2 ul top next vl g r : Nat} (hV : V = (top * W32 + next) * P + vl) (hU : U = (h * W32 + u2) * P + ul) (hul : ul < P) (hr : g * top + r = h) (hbig : r * W32 + u2 < g * next) : U / V < g := by
  have hlt : U < g * V := by
    rw [hU, hV, ← hr]
    have h1 : (r * W32 + u2 + 1) * P ≤ g * next * P := Nat.mul_le_mul_right _ hbig
    have e1 : ((g * top + r) * W32 + u2) * P = g * top * W32 * P + (r * W32 + u2) * P := by
      rw [Nat.add_mul (g * top), Nat.add_assoc, Nat.add_mul]
    have e2 : g * ((top * W32 + next) * P + vl) = g * top * W32 * P + g * next * P + g * vl := by
      simp only [Nat.mul_add, Nat.add_mul, Nat.mul_assoc]
    rw [e1, e2]
    rw [Nat.add_mul, Nat.one_mul] at h1
    omega
  exact Nat.div_lt_of_lt_mul (by rw [Nat.mul_comm]; exact hlt)
/-- the guess is at most one too great -/
theorem kn_near {P U V h u2 ul top next vl g r : Nat} (hV : V = (top * W32 + next) * P + vl) (hU : U = (h * W32 + u2) * P + ul) (hvl : vl < P) (hr : g * top + r = h) (hg : g < W32) (htop : 0 < top) (hok : g * next ≤ r * W32 + u2) : (g - 1) * V ≤ U := by
  have h1 : g * (top * W32 + next) ≤ h * W32 + u2 := by
    rw [← hr, Nat.mul_add, Nat.add_mul, ← Nat.mul_assoc]
    omega
  have h2 : (g - 1) * (top * W32 + next + 1) ≤ g * (top * W32 + next) := by
    cases g with
    | zero => simp
    | succ g =>
      have : W32 ≤ top * W32 := Nat.le_mul_of_pos_left _ htop
      rw [Nat.add_sub_cancel, Nat.mul_add, Nat.mul_one, Nat.add_mul, Nat.one_mul]
      omega
  have h3 : V ≤ (top * W32 + next + 1) * P := by rw [hV, Nat.add_mul _ 1, Nat.one_mul]; omega
  have h4 : (g - 1) * V ≤ (g - 1) * ((top * W32 + next + 1) * P) := Nat.mul_le_mul_left _ h3
  have h5 : (g - 1) * ((top * W32 + next + 1) * P) ≤ (h * W32 + u2) * P := by
    rw [← Nat.mul_assoc]
    exact Nat.mul_le_mul_right _ (Nat.le_trans h2 h1)
  omega

/-- multiply and take off: one place -/
theorem ms_step {W c g v p u d s d' : Nat} (hp : p = c + g * v) (hs : u + W * d' = s + p % W + d) : u + W * (p / W + d') = s + d + c + g * v := by
  have := Nat.mod_add_div p W
  rw [Nat.mul_add]
  omega
theorem nv_split (xs : List Nat) (t : Nat) : nv xs = nv (xs.take t) + W32 ^ t * nv (xs.drop t) := by
  by_cases h : t ≤ xs.length
  · conv => lhs; rw [← List.take_append_drop t xs]
    rw [nv_append, List.length_take, Nat.min_eq_left h]
  · rw [List.take_of_length_le (by omega), List.drop_of_length_le (by omega)]
    simp [nv]
theorem nv_take_lt {ws : List Nat} (h : Wds ws) (t : Nat) : nv (ws.take t) < W32 ^ t := by
  have h1 := nv_lt (h.take t)
  exact Nat.lt_of_lt_of_le h1 (Nat.pow_le_pow_right (by decide) (by rw [List.length_take]; omega))
theorem w_pos (k : Nat) : 0 < W32 ^ k := Nat.pow_pos (by decide)
theorem own_wc {w : World} {base e g n cap : Nat} {ys : List Nat} (h : w.ownsRow base e 1 (.slice (some ⟨g, 0, none⟩) n cap) n (ys.flatMap Wc)) {i o : Nat} (ho : ys[i]? = some o) : w.cell? ⟨g, i, none⟩ = some (.int .u32 (o : Int)) := by
  have h1 := own_elem Wc.clen h ho 0 _ rfl
  rwa [Nat.mul_one, Nat.add_zero] at h1
theorem own_set_wc {w : World} {base e g n cap : Nat} {ys : List Nat} (h : w.ownsRow base e 1 (.slice (some ⟨g, 0, none⟩) n cap) n (ys.flatMap Wc)) {i : Nat} (hi : i < ys.length) (s : Nat) :
    (w.setCell ⟨g, i, none⟩ (.int .u32 (s : Int))).ownsRow base e 1 (.slice (some ⟨g, 0, none⟩) n cap) n ((ys.set i s).flatMap Wc) ∧ w.grownBy (w.setCell ⟨g, i, none⟩ (.int .u32 (s : Int))) (some g) := by
  have h1 := h.stored i (.int .u32 (s : Int))
  have h2 := putAll_flat (f := Wc) (size := 1) Wc.clen s ys i hi
  rw [Nat.mul_one] at h2
  rw [← h2]
  exact h1
theorem own_drewN {w : World} {base e size n : Nat} {v : Value} {xs : List Value} (h : w.ownsRow base e size v n xs) (k : Nat) : (w.drewN k).ownsRow base e size v n xs := h
/-- words given one by one -/
theorem nv_of_get (Y : Nat) : ∀ (r : List Nat) (i : Nat), (∀ k x, r[k]? = some x → x = Y / W32 ^ (i + k) % W32) → Y / W32 ^ i < W32 ^ r.length → nv r = Y / W32 ^ i
  | [], i, _, h => by
    simp only [List.length_nil, Nat.pow_zero] at h
    rw [nv]; generalize Y / W32 ^ i = z at *; omega
  | x :: r, i, hr, h => by
    have h0 := hr 0 x (by simp)
    have e : Y / W32 ^ (i + 1) = Y / W32 ^ i / W32 := by rw [Nat.pow_succ, Nat.div_div_eq_div_mul]
    have ih := nv_of_get Y r (i + 1) (fun k y hy => by rw [hr (k + 1) y (by simpa using hy)]; congr 3; omega) (by
      rw [e]
      rw [List.length_cons, Nat.pow_succ] at h
      exact Nat.div_lt_of_lt_mul (by rw [Nat.mul_comm]; exact h))
    rw [nv, ih, h0, e, Nat.add_zero]
    exact Nat.mod_add_div _ _
theorem small_step {A W r r' x q d Pi N Q : Nat} (h : A = (N + Pi * x) + Pi * W * r + d * Q) (hd : r * W + x = d * q + r') : A = N + Pi * r' + d * (Q + Pi * q) := by
  have e : Pi * x + Pi * W * r = Pi * (d * q + r') := by rw [← hd, Nat.mul_add, Nat.mul_assoc, Nat.mul_comm r W]; omega
  have e2 : d * (Q + Pi * q) = d * Q + Pi * (d * q) := by rw [Nat.mul_add, Nat.mul_left_comm]
  rw [h, e2]
  rw [Nat.mul_add] at e
  omega

/-- the words after position t are 0 -/
def ZeroFrom (xs : List Nat) (t : Nat) : Prop := ∀ (i x : Nat), t ≤ i → xs[i]? = some x → x = 0
theorem nv_zero : ∀ {xs : List Nat}, (∀ (i x : Nat), xs[i]? = some x → x = 0) → nv xs = 0
  | [], _ => rfl
  | y :: xs, h => by
    have h1 := h 0 y (by simp)
    have h2 := nv_zero (xs := xs) (fun i x hx => h (i + 1) x (by simpa using hx))
    rw [nv, h1, h2]; rfl
theorem ZeroFrom.val {xs : List Nat} {t : Nat} (h : ZeroFrom xs t) : nv xs = nv (xs.take t) := by
  rw [nv_split xs t, nv_zero (xs := xs.drop t) (fun i x hx => by rw [List.getElem?_drop] at hx; exact h (t + i) x (by omega) hx), Nat.mul_zero, Nat.add_zero]
theorem ZeroFrom.set {xs : List Nat} {t i v : Nat} (h : ZeroFrom xs t) (hi : i < t) : ZeroFrom (xs.set i v) t := fun k x hk hx => by
  rw [List.getElem?_set_ne (by omega)] at hx
  exact h k x hk hx
theorem ZeroFrom.mono {xs : List Nat} {t t' : Nat} (h : ZeroFrom xs t) (ht : t ≤ t') : ZeroFrom xs t' := fun k x hk hx => h k x (by omega) hx
theorem ZeroFrom.set_at {xs : List Nat} {t v : Nat} (h : ZeroFrom xs t) : ZeroFrom (xs.set t v) (t + 1) := fun k x hk hx => by
  rw [List.getElem?_set_ne (by omega)] at hx
  exact h k x (by omega) hx
theorem zero_rep (n t : Nat) : ZeroFrom (List.replicate n 0) t := fun _ _ _ hx => (List.mem_replicate.1 (List.mem_of_getElem? hx)).2
theorem zeroFrom_of_lt {xs : List Nat} {t : Nat} (h : nv xs < W32 ^ t) : ZeroFrom xs t := by
  intro i x hi hx
  have h1 := nv_split xs i
  have hl := (List.getElem?_eq_some_iff.1 hx).1
  have e : xs.drop i = x :: xs.drop (i + 1) := by
    rw [List.drop_eq_getElem_cons hl, (List.getElem?_eq_some_iff.1 hx).2]
  rw [e, nv] at h1
  have h2 : W32 ^ t ≤ W32 ^ i := Nat.pow_le_pow_right (by decide) hi
  by_cases hx0 : x = 0
  · exact hx0
  · have : W32 ^ i * 1 ≤ W32 ^ i * (x + W32 * nv (xs.drop (i + 1))) := Nat.mul_le_mul_left _ (by omega)
    omega
/-- the words before position t are 0 -/
def ZeroTo (xs : List Nat) (t : Nat) : Prop := ∀ (i x : Nat), i < t → xs[i]? = some x → x = 0
theorem ZeroTo.set {xs : List Nat} {t i v : Nat} (h : ZeroTo xs t) (hi : t ≤ i) : ZeroTo (xs.set i v) t := fun k x hk hx => by
  rw [List.getElem?_set_ne (by omega)] at hx
  exact h k x hk hx
theorem ZeroTo.mono {xs : List Nat} {t t' : Nat} (h : ZeroTo xs t) (ht : t' ≤ t) : ZeroTo xs t' := fun k x hk hx => h k x (by omega) hx
theorem zeroTo_rep (n t : Nat) : ZeroTo (List.replicate n 0) t := fun _ _ _ hx => (List.mem_replicate.1 (List.mem_of_getElem? hx)).2
theorem dig_len_le {N k : Nat} (h : N < W32 ^ k) : (dig N).length ≤ k := by
  by_cases hne : dig N = []
  · rw [hne]; exact Nat.zero_le _
  · have h1 := isDig_pos (dig_isDig N) hne
    rw [nv_dig] at h1
    have h2 : W32 ^ ((dig N).length - 1) < W32 ^ k := Nat.lt_of_le_of_lt h1 h
    have h3 : (dig N).length - 1 < k := by
      apply Nat.lt_of_not_le
      intro h3
      have := Nat.pow_le_pow_right (show 0 < W32 by decide) h3
      omega
    omega
theorem lt_dig_len (N : Nat) : N < W32 ^ (dig N).length := by
  have := nv_lt (dig_wds N)
  rwa [nv_dig] at this
theorem dig_pos {N : Nat} (h : N ≠ 0) : dig N ≠ [] := fun e => h (by rw [← nv_dig N, e]; rfl)
theorem dig_zero : dig 0 = [] := rfl
theorem dig_len_zero {N : Nat} : (dig N).length = 0 ↔ N = 0 := ⟨fun h => by rw [← nv_dig N, List.eq_nil_of_length_eq_zero h]; rfl, fun h => by rw [h]; rfl⟩
theorem dig_len_mono {N M : Nat} (h : N ≤ M) : (dig N).length ≤ (dig M).length := dig_len_le (Nat.lt_of_le_of_lt h (lt_dig_len M))
/-- a list is the words of its number if the last one is something -/
theorem dig_of_wds {ws : List Nat} (h : Wds ws) (hl : ∀ h : ws ≠ [], ws.getLast h ≠ 0) : ws = dig (nv ws) := dig_unique ⟨h, hl⟩
theorem nv_two {N : Nat} (h : (dig N).length ≤ 2) : pl (dig N) = N := by
  have e := nv_dig N
  generalize dig N = l at *
  match l, h with
  | [], _ => exact e
  | [x], _ => simp [pl, nv] at e ⊢; exact e
  | [x, y], _ => simp [pl, nv] at e ⊢; exact e
theorem mod_once {a : Nat} (h : W32 ≤ a) (h2 : a < W32 + W32) : a % W32 = a - W32 := by
  rw [Nat.mod_eq_sub_mod h, Nat.mod_eq_of_lt (Nat.sub_lt_left_of_lt_add h h2)]
theorem two_w {y c : Nat} (hy : y < W32) (hc : c < 2) : y + c < W32 + W32 := by
  show y + c < 4294967296 + 4294967296
  have : y < 4294967296 := hy
  omega
theorem nv_take2 {v : List Nat} {k x y : Nat} (h0 : v[k]? = some x) (h1 : v[k + 1]? = some y) : nv (v.take (k + 2)) = (y * W32 + x) * W32 ^ k + nv (v.take k) := by
  rw [nv_take_succ h1, nv_take_succ h0, Nat.pow_succ, Nat.add_mul, Nat.mul_assoc (W32 ^ k), Nat.mul_comm x, Nat.mul_comm (y * W32), Nat.mul_comm W32 y]
  omega
theorem kn_v {v : List Nat} {j k next top : Nat} (hw : Wds v) (hv : v.length = k + 2) (h0 : v[k]? = some next) (h1 : v[k + 1]? = some top) :
    ∃ vl, nv v * W32 ^ j = (top * W32 + next) * W32 ^ (j + k) + vl ∧ vl < W32 ^ (j + k) := by
  refine ⟨nv (v.take k) * W32 ^ j, ?_, ?_⟩
  · have h := nv_take2 h0 h1
    rw [List.take_of_length_le (by omega)] at h
    rw [h, Nat.add_mul, Nat.mul_assoc, Nat.pow_add, Nat.mul_comm (W32 ^ j)]
  · rw [Nat.pow_add, Nat.mul_comm]
    exact Nat.mul_lt_mul_of_pos_left (nv_take_lt hw k) (w_pos j)
theorem kn_u {u : List Nat} {t x0 x1 x2 : Nat} (hw : Wds u) (h0 : u[t]? = some x0) (h1 : u[t + 1]? = some x1) (h2 : u[t + 2]? = some x2) (hz : ZeroFrom u (t + 3)) :
    ∃ ul, nv u = ((x2 * W32 + x1) * W32 + x0) * W32 ^ t + ul ∧ ul < W32 ^ t := by
  refine ⟨nv (u.take t), ?_, nv_take_lt hw t⟩
  rw [hz.val, show t + 3 = t + 2 + 1 by omega, nv_take_succ h2, nv_take2 h0 h1, show t + 2 = t + 1 + 1 by omega, Nat.pow_succ, Nat.pow_succ]
  have e : ((x2 * W32 + x1) * W32 + x0) * W32 ^ t = W32 ^ t * W32 * W32 * x2 + (x1 * W32 + x0) * W32 ^ t := by
    simp only [Nat.add_mul]
    rw [Nat.mul_comm (W32 ^ t * W32 * W32) x2, Nat.mul_assoc x2, Nat.mul_assoc x2, Nat.mul_assoc (W32 ^ t), Nat.mul_comm (W32 ^ t) (W32 * W32)]
    omega
  rw [e]
  omega
theorem ms_list {xs v : List Nat} {i j c d g vi o s p d' R : Nat} (ho : xs[j + i]? = some o) (hI : nv xs + W32 ^ j * (g * nv (v.take i)) = R + W32 ^ (j + i) * (c + d)) (hv : v[i]? = some vi) (hp : p = c + g * vi) (hs : o + W32 * d' = s + p % W32 + d) :
    nv (xs.set (j + i) s) + W32 ^ j * (g * nv (v.take (i + 1))) = R + W32 ^ (j + (i + 1)) * (p / W32 + d') := by
  have h1 := nv_set (v := s) ho
  have h2 := ms_step hp hs
  have e1 : W32 ^ j * (g * nv (v.take (i + 1))) = W32 ^ j * (g * nv (v.take i)) + W32 ^ (j + i) * (g * vi) := by
    rw [nv_take_succ hv, Nat.mul_add, Nat.mul_add, Nat.pow_add]
    congr 1
    rw [Nat.mul_left_comm g, Nat.mul_assoc]
  have e2 : W32 ^ (j + (i + 1)) * (p / W32 + d') = W32 ^ (j + i) * (W32 * (p / W32 + d')) := by rw [← Nat.add_assoc, Nat.pow_succ, Nat.mul_assoc]
  have h3 : W32 ^ (j + i) * (o + W32 * (p / W32 + d')) = W32 ^ (j + i) * (s + d + c + g * vi) := by rw [h2]
  rw [e1, e2]
  simp only [Nat.mul_add] at h3 hI ⊢
  omega
theorem kn_done_a {xs : List Nat} {j n y b g V R : Nat} (hI : nv xs + W32 ^ j * (g * V) = R + W32 ^ (j + n) * b) (hy : xs[j + n]? = some y) (hb : b ≤ y) (hQ : R / (V * W32 ^ j) ≤ g) (hV : 0 < V) :
    nv (xs.set (j + n) (y - b)) + W32 ^ j * (g * V) = R ∧ nv (xs.set (j + n) (y - b)) < V * W32 ^ j := by
  have h1 := nv_set (v := y - b) hy
  have h2 : W32 ^ (j + n) * y = W32 ^ (j + n) * (y - b) + W32 ^ (j + n) * b := by rw [← Nat.mul_add, Nat.sub_add_cancel hb]
  have h3 : nv (xs.set (j + n) (y - b)) + W32 ^ j * (g * V) = R := by omega
  refine ⟨h3, ?_⟩
  have h4 : R < V * W32 ^ j * (g + 1) := by
    rw [Nat.mul_comm _ (g + 1), ← Nat.div_lt_iff_lt_mul (Nat.mul_pos hV (w_pos j))]; omega
  have h5 : V * W32 ^ j * (g + 1) = W32 ^ j * (g * V) + V * W32 ^ j := by
    rw [Nat.mul_add, Nat.mul_one, Nat.mul_comm (V * W32 ^ j) g, ← Nat.mul_assoc, Nat.mul_comm (g * V)]
  omega
/-- too much was taken off: the top word then -/
theorem kn_done_b {xs : List Nat} {j n y b g V R : Nat} (hI : nv xs + W32 ^ j * (g * V) = R + W32 ^ (j + n) * b) (hy : xs[j + n]? = some y) (hbl : b ≤ W32 + y) :
    nv (xs.set (j + n) (y + W32 - b)) + W32 ^ j * (g * V) = R + W32 ^ (j + n + 1) := by
  have h1 := nv_set (v := y + W32 - b) hy
  have h2 : W32 ^ (j + n) * y + W32 ^ (j + n) * W32 = W32 ^ (j + n) * (y + W32 - b) + W32 ^ (j + n) * b := by rw [← Nat.mul_add, ← Nat.mul_add]; congr 1; omega
  rw [Nat.pow_succ]
  omega
theorem kn_back {xs : List Nat} {j n y c g V R R' : Nat} (hR : R' + W32 ^ j * (g * V) = R + W32 ^ (j + n + 1)) (hR' : R' < W32 ^ (j + n + 1)) (hI : nv xs + W32 ^ (j + n) * c = R' + W32 ^ j * V) (hy : xs[j + n]? = some y) (hc : c < 2) (hyw : y < W32)
    (hnear : (g - 1) * (V * W32 ^ j) ≤ R) (hg : 0 < g) (hz : ZeroFrom xs (j + n + 1)) (hw : Wds xs) :
    nv (xs.set (j + n) ((y + c) % W32)) + W32 ^ j * ((g - 1) * V) = R ∧ nv (xs.set (j + n) ((y + c) % W32)) < V * W32 ^ j := by
  have e1 : (g - 1) * (V * W32 ^ j) = W32 ^ j * ((g - 1) * V) := by rw [← Nat.mul_assoc, Nat.mul_comm]
  have e2 : W32 ^ j * (g * V) = W32 ^ j * ((g - 1) * V) + W32 ^ j * V := by
    rw [← Nat.mul_add]; congr 1
    conv => lhs; rw [show g = g - 1 + 1 by omega, Nat.add_mul, Nat.one_mul]
  have e3 : V * W32 ^ j = W32 ^ j * V := Nat.mul_comm _ _
  rw [e1] at hnear
  rw [e2] at hR
  have h1 := nv_set (v := (y + c) % W32) hy
  have hlt : nv (xs.set (j + n) ((y + c) % W32)) < W32 ^ (j + n + 1) := by
    rw [(hz.set (v := (y + c) % W32) (show j + n < j + n + 1 by omega)).val]
    exact nv_take_lt (wds_set hw (Nat.mod_lt _ (by decide))) _
  rw [Nat.pow_succ] at hlt hR hR'
  rw [e3]
  by_cases hyc : y + c < W32
  · rw [Nat.mod_eq_of_lt hyc, Nat.mul_add] at h1
    rw [Nat.mod_eq_of_lt hyc] at hlt ⊢
    omega
  · have : (y + c) % W32 = y + c - W32 := by
      rw [Nat.mod_eq_sub_mod (by omega), Nat.mod_eq_of_lt (by omega)]
    rw [this] at h1 hlt ⊢
    have h2 : W32 ^ (j + n) * y + W32 ^ (j + n) * c = W32 ^ (j + n) * (y + c - W32) + W32 ^ (j + n) * W32 := by rw [← Nat.mul_add, ← Nat.mul_add, Nat.sub_add_cancel (Nat.le_of_not_lt hyc)]
    omega
theorem kn_q {A V B Q g j : Nat} (h : A = B + V * Q) {B' Q' : Nat} (hB : B' + W32 ^ j * (g * V) = B) (hQ : Q' + W32 ^ j * 0 = Q + W32 ^ j * g) : A = B' + V * Q' := by
  rw [Nat.mul_zero, Nat.add_zero] at hQ
  rw [h, ← hB, hQ, Nat.mul_add, Nat.add_assoc]
  congr 1
  rw [Nat.mul_comm g V, Nat.mul_left_comm (W32 ^ j) V]
  omega

end Go.Proofs.YtjokpfgncmdomaaGreatDoor

/- numbers in limbs of 64 bits: as N1, P1, the names changed by program -/
namespace Go.Proofs.YtjokpfgncmdomaaGreatDoor

/-- a word's cell -/
abbrev Lc (x : Nat) : List Value := [.int .u64 (x : Int)]
theorem Lc.clen (x : Nat) : (Lc x).length = 1 := rfl
abbrev W64 : Nat := 18446744073709551616
def ln : List Nat → Nat
  | [] => 0
  | x :: r => x + W64 * ln r
def Lds (ws : List Nat) : Prop := ∀ x ∈ ws, x < W64
def limF : Nat → Nat → List Nat
  | 0, _ => []
  | f + 1, N => if N = 0 then [] else N % W64 :: limF f (N / W64)
/-- the words of a number, none above the highest that is not 0 -/
def lim (N : Nat) : List Nat := limF N N
def isLim (ws : List Nat) : Prop := Lds ws ∧ ∀ h : ws ≠ [], ws.getLast h ≠ 0

theorem ln_nil : ln [] = 0 := rfl
theorem ln_append (a b : List Nat) : ln (a ++ b) = ln a + W64 ^ a.length * ln b := by
  induction a with
  | nil => simp [ln]
  | cons x a ih =>
    simp only [List.cons_append, ln, ih, List.length_cons, Nat.pow_succ, Nat.mul_add, Nat.add_assoc]
    rw [Nat.mul_comm (W64 ^ a.length) W64, Nat.mul_assoc]
theorem Lds.tail {x : Nat} {r : List Nat} (h : Lds (x :: r)) : Lds r := fun y hy => h y (List.mem_cons_of_mem _ hy)
theorem Lds.head {x : Nat} {r : List Nat} (h : Lds (x :: r)) : x < W64 := h x List.mem_cons_self
theorem Lds.append {a b : List Nat} (ha : Lds a) (hb : Lds b) : Lds (a ++ b) := fun y hy => (List.mem_append.1 hy).elim (ha y) (hb y)
theorem Lds.take {a : List Nat} (ha : Lds a) (n : Nat) : Lds (a.take n) := fun y hy => ha y (List.mem_of_mem_take hy)
theorem Lds.drop {a : List Nat} (ha : Lds a) (n : Nat) : Lds (a.drop n) := fun y hy => ha y (List.mem_of_mem_drop hy)
theorem Lds.get {a : List Nat} (ha : Lds a) {i x : Nat} (h : a[i]? = some x) : x < W64 := ha x (List.mem_of_getElem? h)
theorem ln_lt : ∀ {ws : List Nat}, Lds ws → ln ws < W64 ^ ws.length
  | [], _ => by simp [ln]
  | x :: r, h => by
    have h1 := ln_lt h.tail
    have h2 := h.head
    simp only [ln, List.length_cons, Nat.pow_succ]
    have h3 : W64 * ln r + W64 ≤ W64 * W64 ^ r.length := by
      rw [← Nat.mul_succ]
      exact Nat.mul_le_mul_left _ h1
    rw [Nat.mul_comm (W64 ^ r.length) W64]
    omega
theorem limF_ln : ∀ (f N : Nat), N ≤ f → ln (limF f N) = N
  | 0, N, h => by simp [limF, ln]; omega
  | f + 1, N, h => by
    unfold limF
    split
    · rename_i e; rw [e]; rfl
    · have h2 : N / W64 ≤ f := by
        have : N / W64 < N := Nat.div_lt_self (by omega) (by decide)
        omega
      rw [ln, limF_ln f _ h2]
      exact Nat.mod_add_div N W64
theorem ln_dig (N : Nat) : ln (lim N) = N := limF_ln N N (Nat.le_refl _)
theorem limF_lds : ∀ (f N : Nat), Lds (limF f N)
  | 0, N => fun x h => by simp [limF] at h
  | f + 1, N => by
    unfold limF
    split
    · intro x h; simp at h
    · intro x h
      rcases List.mem_cons.1 h with rfl | h
      · exact Nat.mod_lt _ (by decide)
      · exact limF_lds f _ x h
theorem lim_lds (N : Nat) : Lds (lim N) := limF_lds N N
theorem limF_nil {f N : Nat} (hf : N ≤ f) (h : limF f N = []) : N = 0 := by
  have := limF_ln f N hf
  rw [h] at this
  exact this.symm
theorem limF_last : ∀ (f N : Nat), N ≤ f → ∀ h : limF f N ≠ [], (limF f N).getLast h ≠ 0
  | 0, N, _, h => absurd rfl h
  | f + 1, N, hN, h => by
    have h0 : N ≠ 0 := by rintro rfl; simp [limF] at h
    have e : limF (f + 1) N = N % W64 :: limF f (N / W64) := by rw [limF, if_neg h0]
    have hlt : N / W64 ≤ f := by
      have : N / W64 < N := Nat.div_lt_self (by omega) (by decide)
      omega
    simp only [e]
    by_cases hn : limF f (N / W64) = []
    · simp only [hn, List.getLast_singleton]
      have h1 := limF_nil hlt hn
      have h2 := Nat.mod_add_div N W64
      rw [h1] at h2
      omega
    · rw [List.getLast_cons hn]
      exact limF_last f _ hlt hn
theorem lim_isLim (N : Nat) : isLim (lim N) := ⟨lim_lds N, fun h => limF_last N N (Nat.le_refl _) h⟩

/-- words that are trimmed are told by their number -/
theorem isLim_pos {ws : List Nat} (h : isLim ws) (hne : ws ≠ []) : W64 ^ (ws.length - 1) ≤ ln ws := by
  have e := List.dropLast_concat_getLast hne
  rw [← e, ln_append]
  have h1 : ws.dropLast.length = ws.length - 1 := by simp
  have h2 : (ws.dropLast ++ [ws.getLast hne]).length - 1 = ws.length - 1 := by simp
  rw [h2, h1]
  have h3 := h.2 hne
  simp only [ln]
  have : W64 ^ (ws.length - 1) * 1 ≤ W64 ^ (ws.length - 1) * (ws.getLast hne + W64 * 0) := Nat.mul_le_mul_left _ (by omega)
  omega
theorem isLim_zero {ws : List Nat} (h : isLim ws) (h0 : ln ws = 0) : ws = [] := by
  by_cases hne : ws = []
  · exact hne
  · have h1 := isLim_pos h hne
    have h2 : 0 < W64 ^ (ws.length - 1) := Nat.pow_pos (by decide)
    omega
theorem isLim.tail {x : Nat} {r : List Nat} (h : isLim (x :: r)) : isLim r := ⟨h.1.tail, fun hn => by have := h.2 (by simp); rwa [List.getLast_cons hn] at this⟩
theorem isLim_unique : ∀ {a b : List Nat}, isLim a → isLim b → ln a = ln b → a = b
  | [], b, _, hb, h => (isLim_zero hb h.symm).symm
  | a, [], ha, _, h => isLim_zero ha h
  | x :: a, y :: b, ha, hb, h => by
    have hx := ha.1.head
    have hy := hb.1.head
    simp only [ln] at h
    have e1 : x = y := by
      have h1 : (x + W64 * ln a) % W64 = (y + W64 * ln b) % W64 := by rw [h]
      rw [Nat.add_mul_mod_self_left, Nat.add_mul_mod_self_left, Nat.mod_eq_of_lt hx, Nat.mod_eq_of_lt hy] at h1
      exact h1
    subst e1
    have e2 : ln a = ln b := Nat.eq_of_mul_eq_mul_left (show 0 < W64 by decide) (by omega)
    rw [isLim_unique ha.tail hb.tail e2]
theorem lim_unique {ws : List Nat} (h : isLim ws) : ws = lim (ln ws) := isLim_unique h (lim_isLim _) (ln_dig _).symm

theorem ln_take_succ {ws : List Nat} {k x : Nat} (h : ws[k]? = some x) : ln (ws.take (k + 1)) = ln (ws.take k) + W64 ^ k * x := by
  obtain ⟨hl, e⟩ := List.getElem?_eq_some_iff.1 h
  rw [List.take_succ_eq_append_getElem hl, ln_append, e, List.length_take, Nat.min_eq_left (by omega)]
  simp [ln]
theorem ln_set_take {xs : List Nat} {k v : Nat} (h : k < xs.length) : ln ((xs.set k v).take (k + 1)) = ln (xs.take k) + W64 ^ k * v := by
  rw [ln_take_succ (x := v) (by rw [List.getElem?_set_self h]), List.take_set_of_le (Nat.le_refl _)]
theorem lds_set {xs : List Nat} {k v : Nat} (h : Lds xs) (hv : v < W64) : Lds (xs.set k v) := fun x hx => by
  rcases List.mem_or_eq_of_mem_set hx with h1 | rfl
  · exact h x h1
  · exact hv
theorem ln_set {xs : List Nat} {t o v : Nat} (h : xs[t]? = some o) : ln (xs.set t v) + W64 ^ t * o = ln xs + W64 ^ t * v := by
  induction xs generalizing t with
  | nil => simp at h
  | cons x xs ih =>
    cases t with
    | zero =>
      simp at h
      subst h
      simp [ln]
      omega
    | succ t =>
      have h2 := ih (t := t) (by simpa using h)
      simp only [List.set_cons_succ, ln, Nat.pow_succ]
      have e : ∀ z, W64 ^ t * W64 * z = W64 * (W64 ^ t * z) := fun z => by rw [Nat.mul_comm (W64 ^ t) W64, Nat.mul_assoc]
      rw [e, e]
      have h3 : W64 * (ln (xs.set t v) + W64 ^ t * o) = W64 * (ln xs + W64 ^ t * v) := by rw [h2]
      rw [Nat.mul_add, Nat.mul_add] at h3
      omega
theorem ln_split (xs : List Nat) (t : Nat) : ln xs = ln (xs.take t) + W64 ^ t * ln (xs.drop t) := by
  by_cases h : t ≤ xs.length
  · conv => lhs; rw [← List.take_append_drop t xs]
    rw [ln_append, List.length_take, Nat.min_eq_left h]
  · rw [List.take_of_length_le (by omega), List.drop_of_length_le (by omega)]
    simp [ln]
theorem ln_take_lt {ws : List Nat} (h : Lds ws) (t : Nat) : ln (ws.take t) < W64 ^ t := by
  have h1 := ln_lt (h.take t)
  exact Nat.lt_of_lt_of_le h1 (Nat.pow_le_pow_right (by decide) (by rw [List.length_take]; omega))
theorem l_pos (k : Nat) : 0 < W64 ^ k := Nat.pow_pos (by decide)
/-- words given one by one -/
theorem ln_of_get (Y : Nat) : ∀ (r : List Nat) (i : Nat), (∀ k x, r[k]? = some x → x = Y / W64 ^ (i + k) % W64) → Y / W64 ^ i < W64 ^ r.length → ln r = Y / W64 ^ i
  | [], i, _, h => by
    simp only [List.length_nil, Nat.pow_zero] at h
    rw [ln]; generalize Y / W64 ^ i = z at *; omega
  | x :: r, i, hr, h => by
    have h0 := hr 0 x (by simp)
    have e : Y / W64 ^ (i + 1) = Y / W64 ^ i / W64 := by rw [Nat.pow_succ, Nat.div_div_eq_div_mul]
    have ih := ln_of_get Y r (i + 1) (fun k y hy => by rw [hr (k + 1) y (by simpa using hy)]; congr 3; omega) (by
      rw [e]
      rw [List.length_cons, Nat.pow_succ] at h
      exact Nat.div_lt_of_lt_mul (by rw [Nat.mul_comm]; exact h))
    rw [ln, ih, h0, e, Nat.add_zero]
    exact Nat.mod_add_div _ _
/-- the words after position t are 0 -/
def LZeroFrom (xs : List Nat) (t : Nat) : Prop := ∀ (i x : Nat), t ≤ i → xs[i]? = some x → x = 0
theorem ln_zero : ∀ {xs : List Nat}, (∀ (i x : Nat), xs[i]? = some x → x = 0) → ln xs = 0
  | [], _ => rfl
  | y :: xs, h => by
    have h1 := h 0 y (by simp)
    have h2 := ln_zero (xs := xs) (fun i x hx => h (i + 1) x (by simpa using hx))
    rw [ln, h1, h2]; rfl
theorem LZeroFrom.val {xs : List Nat} {t : Nat} (h : LZeroFrom xs t) : ln xs = ln (xs.take t) := by
  rw [ln_split xs t, ln_zero (xs := xs.drop t) (fun i x hx => by rw [List.getElem?_drop] at hx; exact h (t + i) x (by omega) hx), Nat.mul_zero, Nat.add_zero]
theorem LZeroFrom.set {xs : List Nat} {t i v : Nat} (h : LZeroFrom xs t) (hi : i < t) : LZeroFrom (xs.set i v) t := fun k x hk hx => by
  rw [List.getElem?_set_ne (by omega)] at hx
  exact h k x hk hx
theorem LZeroFrom.mono {xs : List Nat} {t t' : Nat} (h : LZeroFrom xs t) (ht : t ≤ t') : LZeroFrom xs t' := fun k x hk hx => h k x (by omega) hx
theorem LZeroFrom.set_at {xs : List Nat} {t v : Nat} (h : LZeroFrom xs t) : LZeroFrom (xs.set t v) (t + 1) := fun k x hk hx => by
  rw [List.getElem?_set_ne (by omega)] at hx
  exact h k x (by omega) hx
theorem lzero_rep (n t : Nat) : LZeroFrom (List.replicate n 0) t := fun _ _ _ hx => (List.mem_replicate.1 (List.mem_of_getElem? hx)).2
theorem lzeroFrom_of_lt {xs : List Nat} {t : Nat} (h : ln xs < W64 ^ t) : LZeroFrom xs t := by
  intro i x hi hx
  have h1 := ln_split xs i
  have hl := (List.getElem?_eq_some_iff.1 hx).1
  have e : xs.drop i = x :: xs.drop (i + 1) := by
    rw [List.drop_eq_getElem_cons hl, (List.getElem?_eq_some_iff.1 hx).2]
  rw [e, ln] at h1
  have h2 : W64 ^ t ≤ W64 ^ i := Nat.pow_le_pow_right (by decide) hi
  by_cases hx0 : x = 0
  · exact hx0
  · have : W64 ^ i * 1 ≤ W64 ^ i * (x + W64 * ln (xs.drop (i + 1))) := Nat.mul_le_mul_left _ (by omega)
    omega
/-- the words before position t are 0 -/
def LZeroTo (xs : List Nat) (t : Nat) : Prop := ∀ (i x : Nat), i < t → xs[i]? = some x → x = 0
theorem LZeroTo.set {xs : List Nat} {t i v : Nat} (h : LZeroTo xs t) (hi : t ≤ i) : LZeroTo (xs.set i v) t := fun k x hk hx => by
  rw [List.getElem?_set_ne (by omega)] at hx
  exact h k x hk hx
theorem LZeroTo.mono {xs : List Nat} {t t' : Nat} (h : LZeroTo xs t) (ht : t' ≤ t) : LZeroTo xs t' := fun k x hk hx => h k x (by omega) hx
theorem lzeroTo_rep (n t : Nat) : LZeroTo (List.replicate n 0) t := fun _ _ _ hx => (List.mem_replicate.1 (List.mem_of_getElem? hx)).2
theorem lim_len_le {N k : Nat} (h : N < W64 ^ k) : (lim N).length ≤ k := by
  by_cases hne : lim N = []
  · rw [hne]; exact Nat.zero_le _
  · have h1 := isLim_pos (lim_isLim N) hne
    rw [ln_dig] at h1
    have h2 : W64 ^ ((lim N).length - 1) < W64 ^ k := Nat.lt_of_le_of_lt h1 h
    have h3 : (lim N).length - 1 < k := by
      apply Nat.lt_of_not_le
      intro h3
      have := Nat.pow_le_pow_right (show 0 < W64 by decide) h3
      omega
    omega
theorem lt_lim_len (N : Nat) : N < W64 ^ (lim N).length := by
  have := ln_lt (lim_lds N)
  rwa [ln_dig] at this
theorem lim_pos {N : Nat} (h : N ≠ 0) : lim N ≠ [] := fun e => h (by rw [← ln_dig N, e]; rfl)
theorem lim_zero : lim 0 = [] := rfl
theorem lim_len_zero {N : Nat} : (lim N).length = 0 ↔ N = 0 := ⟨fun h => by rw [← ln_dig N, List.eq_nil_of_length_eq_zero h]; rfl, fun h => by rw [h]; rfl⟩
theorem lim_len_mono {N M : Nat} (h : N ≤ M) : (lim N).length ≤ (lim M).length := lim_len_le (Nat.lt_of_le_of_lt h (lt_lim_len M))
/-- a list is the words of its number if the last one is something -/
theorem lim_of_lds {ws : List Nat} (h : Lds ws) (hl : ∀ h : ws ≠ [], ws.getLast h ≠ 0) : ws = lim (ln ws) := lim_unique ⟨h, hl⟩

end Go.Proofs.YtjokpfgncmdomaaGreatDoor

/- plain laws: bits, shifts -/
namespace Go.Proofs.YtjokpfgncmdomaaGreatDoor

/-- how many bits a number has -/
def blen (N : Nat) : Nat := if N = 0 then 0 else N.log2 + 1
theorem blen_zero : blen 0 = 0 := rfl
theorem blen_half {t : Nat} (h : t ≠ 0) : blen t = blen (t / 2) + 1 := by
  unfold blen
  rw [if_neg h]
  by_cases h2 : t / 2 = 0
  · have : t = 1 := by omega
    subst this; rfl
  · rw [if_neg h2, Nat.log2_def, if_pos (by omega)]
theorem blen_lt {N : Nat} : N < 2 ^ blen N := by
  unfold blen
  split
  · omega
  · exact Nat.lt_log2_self
theorem blen_le {N : Nat} (h : N ≠ 0) : 2 ^ (blen N - 1) ≤ N := by
  unfold blen
  rw [if_neg h]
  exact Nat.log2_self_le h
theorem blen_uniq {N k : Nat} (h1 : 2 ^ k ≤ N) (h2 : N < 2 ^ (k + 1)) : blen N = k + 1 := by
  have h0 : N ≠ 0 := by have : 0 < 2 ^ k := Nat.pow_pos (by decide); omega
  have h3 := blen_lt (N := N)
  have h4 := blen_le h0
  have h5 : k < blen N := (Nat.pow_lt_pow_iff_right (by decide)).1 (Nat.lt_of_le_of_lt h1 h3)
  have h6 : blen N - 1 < k + 1 := (Nat.pow_lt_pow_iff_right (by decide)).1 (Nat.lt_of_le_of_lt h4 h2)
  omega
theorem blen_le_of_lt {N k : Nat} (h : N < 2 ^ k) : blen N ≤ k := by
  by_cases h0 : N = 0
  · rw [h0]; exact Nat.zero_le _
  · have h4 := blen_le h0
    have h6 : blen N - 1 < k := (Nat.pow_lt_pow_iff_right (by decide)).1 (Nat.lt_of_le_of_lt h4 h)
    omega
theorem blen_pos {N : Nat} (h : N ≠ 0) : 0 < blen N := by unfold blen; rw [if_neg h]; omega
theorem blen_join {k x r : Nat} (hx : x ≠ 0) (hr : r < 2 ^ k) : blen (r + 2 ^ k * x) = k + blen x := by
  have h1 := blen_lt (N := x)
  have h2 := blen_le hx
  have h3 := blen_pos hx
  have e : k + blen x = (k + (blen x - 1)) + 1 := by omega
  rw [e]
  apply blen_uniq
  · rw [Nat.pow_add]
    have := Nat.mul_le_mul_left (2 ^ k) h2
    omega
  · rw [show k + (blen x - 1) + 1 = k + blen x by omega, Nat.pow_add]
    have : 2 ^ k * (x + 1) ≤ 2 ^ k * 2 ^ blen x := Nat.mul_le_mul_left _ h1
    rw [Nat.mul_add, Nat.mul_one] at this
    omega
theorem W32_pow (k : Nat) : W32 ^ k = 2 ^ (32 * k) := by
  rw [Nat.pow_mul]
theorem blen_dig {N x k : Nat} (hk : (dig N).length = k + 1) (hx : (dig N)[k]? = some x) : blen N = 32 * k + blen x := by
  have h1 := nv_split (dig N) k
  rw [nv_dig] at h1
  have hl := (List.getElem?_eq_some_iff.1 hx)
  have e : (dig N).drop k = [x] := by
    rw [List.drop_eq_getElem_cons hl.1, hl.2, List.drop_of_length_le (by omega)]
  have hx0 : x ≠ 0 := by
    have h2 := dig_isDig N
    have hne : dig N ≠ [] := by intro h; rw [h] at hk; simp at hk
    have h3 := h2.2 hne
    rw [List.getLast_eq_getElem] at h3
    have e2 : (dig N).length - 1 = k := by omega
    simp only [e2] at h3
    rw [hl.2] at h3
    exact h3
  rw [e] at h1
  have e3 : nv [x] = x := by simp [nv]
  rw [e3, W32_pow] at h1
  have h4 := nv_take_lt (dig_wds N) k
  rw [W32_pow] at h4
  rw [h1]
  exact blen_join hx0 h4
theorem left_step {R A i w s a v : Nat} (h : R = W32 ^ w * 2 ^ s * A) (hv : v = a * 2 ^ s) : R + W32 ^ (i + w) * (v % W32) + W32 ^ (i + w + 1) * (v / W32) = W32 ^ w * 2 ^ s * (A + W32 ^ i * a) := by
  have h1 : W32 ^ (i + w) * (v % W32) + W32 ^ (i + w + 1) * (v / W32) = W32 ^ (i + w) * v := by
    rw [Nat.pow_succ, Nat.mul_assoc, ← Nat.mul_add, Nat.mod_add_div]
  rw [Nat.add_assoc, h1, h, Nat.mul_add, hv]
  congr 1
  rw [Nat.pow_add]
  simp only [Nat.mul_assoc, Nat.mul_comm, Nat.mul_left_comm]
theorem right_word {X i x y Z s : Nat} (hs : s < 32) (h : X / W32 ^ i = x + W32 * (y + W32 * Z)) : (x + W32 * y) / 2 ^ s % W32 = X / 2 ^ s / W32 ^ i % W32 := by
  rw [Nat.div_div_eq_div_mul, Nat.mul_comm (2 ^ s), ← Nat.div_div_eq_div_mul, h]
  have e : W32 = 2 ^ (32 - s) * 2 ^ s := by rw [← Nat.pow_add, show 32 - s + s = 32 by omega]
  have e1 : x + W32 * (y + W32 * Z) = (x + W32 * y) + 2 ^ s * (2 ^ (32 - s) * (W32 * Z)) := by
    have : W32 * (W32 * Z) = 2 ^ s * (2 ^ (32 - s) * (W32 * Z)) := by
      rw [← Nat.mul_assoc (2 ^ s), Nat.mul_comm (2 ^ s), ← e]
    rw [Nat.mul_add, this, Nat.add_assoc]
  rw [e1, Nat.add_mul_div_left _ _ (Nat.pow_pos (by decide))]
  rw [← Nat.mul_assoc, Nat.mul_comm (2 ^ (32 - s)), Nat.mul_assoc, Nat.add_mul_mod_self_left]

end Go.Proofs.YtjokpfgncmdomaaGreatDoor

/- plain laws: limbs, bytes, bits of numbers -/
namespace Go.Proofs.YtjokpfgncmdomaaGreatDoor

theorem W64_pow (k : Nat) : W64 ^ k = 2 ^ (64 * k) := by
  rw [Nat.pow_mul]
theorem lim_of_get {N L : Nat} {r : List Nat} (hl : r.length = L) (hL : L = (blen N + 63) / 64) (hr : ∀ (k x : Nat), r[k]? = some x → x = N / W64 ^ k % W64) : r = lim N := by
  have hN : N < W64 ^ L := by
    rw [W64_pow]
    exact Nat.lt_of_lt_of_le blen_lt (Nat.pow_le_pow_right (by decide) (by omega))
  have h1 : ln r = N := by
    have h := ln_of_get N r 0 (fun k x h => by rw [Nat.zero_add]; exact hr k x h) (by rw [Nat.pow_zero, Nat.div_one, hl]; exact hN)
    rwa [Nat.pow_zero, Nat.div_one] at h
  have h2 : isLim r := by
    refine ⟨fun x hx => ?_, fun hne => ?_⟩
    · obtain ⟨k, hk⟩ := List.getElem?_of_mem hx
      rw [hr k x hk]
      exact Nat.mod_lt _ (by decide)
    · have hlen : 0 < r.length := List.length_pos_iff.2 hne
      have hg : r[r.length - 1]? = some (r.getLast hne) := by rw [List.getLast_eq_getElem, List.getElem?_eq_getElem]
      rw [hr _ _ hg]
      have h0 : N ≠ 0 := by
        intro e
        rw [e, blen_zero] at hL
        omega
      have h3 := blen_le h0
      have h4 : W64 ^ (r.length - 1) ≤ N := by
        rw [W64_pow]
        exact Nat.le_trans (Nat.pow_le_pow_right (by decide) (by omega)) h3
      have h5 : N / W64 ^ (r.length - 1) < W64 := by
        apply Nat.div_lt_of_lt_mul
        rw [← Nat.pow_succ, show (r.length - 1).succ = L by omega]
        exact hN
      rw [Nat.mod_eq_of_lt h5]
      have := Nat.div_pos h4 (l_pos _)
      omega
  rw [← h1]
  exact lim_unique h2
theorem limF_fuel : ∀ (f g N : Nat), N ≤ f → N ≤ g → limF f N = limF g N
  | 0, 0, _, _, _ => rfl
  | 0, g + 1, N, h, _ => by obtain rfl : N = 0 := by omega
                            simp [limF]
  | f + 1, 0, N, _, h => by obtain rfl : N = 0 := by omega
                            simp [limF]
  | f + 1, g + 1, N, h1, h2 => by
    unfold limF
    split
    · rfl
    · have : N / W64 < N := Nat.div_lt_self (by omega) (by decide)
      rw [limF_fuel f g _ (by omega) (by omega)]
theorem lim_succ {N : Nat} (h : N ≠ 0) : lim N = N % W64 :: lim (N / W64) := by
  obtain ⟨m, rfl⟩ : ∃ m, N = m + 1 := ⟨N - 1, by omega⟩
  have : (m + 1) / W64 < m + 1 := Nat.div_lt_self (by omega) (by decide)
  show limF (m + 1) (m + 1) = _
  rw [limF, if_neg h]
  rw [limF_fuel m ((m + 1) / W64) _ (by omega) (Nat.le_refl _)]
  rfl
theorem lim_len (N : Nat) : (lim N).length = (blen N + 63) / 64 := by
  have h := lim_of_get (N := N) (L := (blen N + 63) / 64) (r := (List.range ((blen N + 63) / 64)).map (fun k => N / W64 ^ k % W64)) (by simp) rfl (fun k x hx => by
    simp only [List.getElem?_map, Option.map_eq_some_iff] at hx
    obtain ⟨a, ha, rfl⟩ := hx
    obtain ⟨hl, e⟩ := List.getElem?_eq_some_iff.1 ha
    rw [List.getElem_range] at e
    rw [e])
  rw [← h]; simp
/-- bytes, the greatest first -/
def be : List Nat → Nat → Nat
  | [], a => a
  | b :: bs, a => be bs (a * 256 + b)
theorem be_snoc : ∀ (bs : List Nat) (b a : Nat), be (bs ++ [b]) a = be bs a * 256 + b
  | [], _, _ => rfl
  | c :: bs, b, a => be_snoc bs b (a * 256 + c)
theorem be_take {bs : List Nat} {i b : Nat} (h : bs[i]? = some b) : be (bs.take (i + 1)) 0 = be (bs.take i) 0 * 256 + b := by
  obtain ⟨hl, e⟩ := List.getElem?_eq_some_iff.1 h
  rw [List.take_succ_eq_append_getElem hl, e, be_snoc]
theorem be_bytes {X : Nat} {bs : List Nat} (hX : X < 256 ^ bs.length) (h : ∀ (i b : Nat), bs[i]? = some b → b = X / 256 ^ (bs.length - 1 - i) % 256) : ∀ i, i ≤ bs.length → be (bs.take i) 0 = X / 256 ^ (bs.length - i)
  | 0, _ => by rw [Nat.sub_zero, Nat.div_eq_of_lt hX]; rfl
  | i + 1, hi => by
    obtain ⟨b, hb⟩ : ∃ b, bs[i]? = some b := ⟨_, List.getElem?_eq_getElem (by omega)⟩
    rw [be_take hb, be_bytes hX h i (by omega), h i b hb]
    have e : bs.length - i = (bs.length - 1 - i) + 1 := by omega
    rw [e, Nat.pow_succ, ← Nat.div_div_eq_div_mul, show bs.length - (i + 1) = bs.length - 1 - i by omega]
    generalize X / 256 ^ (bs.length - 1 - i) = z
    omega
theorem be_all {X : Nat} {bs : List Nat} (hX : X < 256 ^ bs.length) (h : ∀ (i b : Nat), bs[i]? = some b → b = X / 256 ^ (bs.length - 1 - i) % 256) : be bs 0 = X := by
  have h1 := be_bytes hX h bs.length (Nat.le_refl _)
  rw [List.take_of_length_le (Nat.le_refl _), Nat.sub_self, Nat.pow_zero, Nat.div_one] at h1
  exact h1
theorem W64_256 (k : Nat) : W64 ^ k = 256 ^ (8 * k) := by rw [Nat.pow_mul]
/-- byte j of a list of limbs -/
theorem limb_byte {ls : List Nat} {j x : Nat} (hw : Lds ls) (hx : ls[j / 8]? = some x) : x / 2 ^ (8 * (j % 8)) % 256 = ln ls / 256 ^ j % 256 := by
  have h1 := ln_split ls (j / 8)
  obtain ⟨hl, e⟩ := List.getElem?_eq_some_iff.1 hx
  rw [List.drop_eq_getElem_cons hl, e, ln] at h1
  have h2 := ln_take_lt hw (j / 8)
  have e1 : 256 ^ j = W64 ^ (j / 8) * 256 ^ (j % 8) := by rw [W64_256, ← Nat.pow_add]; congr 1; omega
  have e2 : ln ls / W64 ^ (j / 8) = x + W64 * ln (ls.drop (j / 8 + 1)) := by
    rw [h1, Nat.add_mul_div_left _ _ (l_pos _), Nat.div_eq_of_lt h2, Nat.zero_add]
  rw [e1, ← Nat.div_div_eq_div_mul, e2]
  have e3 : 2 ^ (8 * (j % 8)) = 256 ^ (j % 8) := by rw [Nat.pow_mul]
  rw [e3]
  have e4 : W64 = 256 ^ (j % 8) * (256 ^ (7 - j % 8) * 256) := by
    rw [← Nat.pow_succ, ← Nat.pow_add, show j % 8 + (7 - j % 8 + 1) = 8 by omega]
  generalize ln (ls.drop (j / 8 + 1)) = Z
  rw [show x + W64 * Z = x + 256 ^ (j % 8) * (256 ^ (7 - j % 8) * 256 * Z) by rw [← Nat.mul_assoc, ← e4]]
  rw [Nat.add_mul_div_left _ _ (Nat.pow_pos (by decide))]
  rw [Nat.mul_comm (256 ^ (7 - j % 8)) 256, Nat.mul_assoc, Nat.add_mul_mod_self_left]
theorem and_join {x y X Y : Nat} (hx : x < W32) (hy : y < W32) : (x + W32 * X) &&& (y + W32 * Y) = (x &&& y) + W32 * (X &&& Y) := by
  have hx' : x < 2 ^ 32 := hx
  have hy' : y < 2 ^ 32 := hy
  have hxy : x &&& y < 2 ^ 32 := Nat.and_lt_two_pow x hy'
  apply Nat.eq_of_testBit_eq
  intro j
  rw [Nat.testBit_and, Nat.add_comm x, Nat.add_comm y, Nat.add_comm (x &&& y)]
  show ((2 ^ 32 * X + x).testBit j && (2 ^ 32 * Y + y).testBit j) = (2 ^ 32 * (X &&& Y) + (x &&& y)).testBit j
  rw [Nat.testBit_two_pow_mul_add _ hx', Nat.testBit_two_pow_mul_add _ hy', Nat.testBit_two_pow_mul_add _ hxy]
  split <;> simp
theorem or_join {x y X Y : Nat} (hx : x < W32) (hy : y < W32) : (x + W32 * X) ||| (y + W32 * Y) = (x ||| y) + W32 * (X ||| Y) := by
  have hx' : x < 2 ^ 32 := hx
  have hy' : y < 2 ^ 32 := hy
  have hxy : x ||| y < 2 ^ 32 := Nat.or_lt_two_pow hx' hy'
  apply Nat.eq_of_testBit_eq
  intro j
  rw [Nat.testBit_or, Nat.add_comm x, Nat.add_comm y, Nat.add_comm (x ||| y)]
  show ((2 ^ 32 * X + x).testBit j || (2 ^ 32 * Y + y).testBit j) = (2 ^ 32 * (X ||| Y) + (x ||| y)).testBit j
  rw [Nat.testBit_two_pow_mul_add _ hx', Nat.testBit_two_pow_mul_add _ hy', Nat.testBit_two_pow_mul_add _ hxy]
  split <;> simp
theorem nv_and : ∀ (xs ys : List Nat), xs.length = ys.length → Wds xs → Wds ys → nv (List.zipWith (· &&& ·) xs ys) = nv xs &&& nv ys
  | [], [], _, _, _ => rfl
  | x :: xs, y :: ys, h, hx, hy => by
    simp only [List.zipWith_cons_cons, nv]
    rw [nv_and xs ys (by simpa using h) hx.tail hy.tail, and_join hx.head hy.head]
theorem nv_or : ∀ (xs ys : List Nat), xs.length = ys.length → Wds xs → Wds ys → nv (List.zipWith (· ||| ·) xs ys) = nv xs ||| nv ys
  | [], [], _, _, _ => rfl
  | x :: xs, y :: ys, h, hx, hy => by
    simp only [List.zipWith_cons_cons, nv]
    rw [nv_or xs ys (by simpa using h) hx.tail hy.tail, or_join hx.head hy.head]
/-- the Euclid of GCD: its by-products stay small -/
theorem euclid_keep {S T p q b : Nat} (h : S * q + T * p = b) : T * (p % q) + (S + p / q * T) * q = b := by
  have h1 := Nat.div_add_mod p q
  have h2 : T * p = T * (q * (p / q)) + T * (p % q) := by rw [← Nat.mul_add, h1]
  rw [Nat.add_mul, ← h, h2]
  have : p / q * T * q = T * (q * (p / q)) := by
    rw [Nat.mul_comm (p / q), Nat.mul_assoc, Nat.mul_comm (p / q)]
  omega
theorem W64_sq : W64 = W32 * W32 := rfl
/-- limbs as words -/
def hv (a : List Nat) : List Nat := a.flatMap fun x => [x % W32, x / W32]
theorem nv_hv : ∀ a : List Nat, nv (hv a) = ln a
  | [] => rfl
  | x :: a => by
    have e : hv (x :: a) = x % W32 :: x / W32 :: hv a := rfl
    rw [e, nv, nv, nv_hv a, ln]
    have h := Nat.mod_add_div x W32
    have e2 : W32 * (x / W32 + W32 * ln a) = W32 * (x / W32) + W64 * ln a := by
      rw [Nat.mul_add, ← Nat.mul_assoc, ← W64_sq]
    rw [e2]
    omega
theorem hv_wds {a : List Nat} (h : Lds a) : Wds (hv a) := by
  intro y hy
  obtain ⟨x, hx, hy⟩ := List.mem_flatMap.1 hy
  have hlt : x < 18446744073709551616 := h x hx
  simp only [List.mem_cons, List.not_mem_nil, or_false] at hy
  rcases hy with rfl | rfl
  · exact Nat.mod_lt _ (by decide)
  · show x / 4294967296 < 4294967296; omega
theorem hv_snoc (a : List Nat) (x : Nat) : hv (a ++ [x]) = hv a ++ [x % W32, x / W32] := by simp [hv]
/-- words as limbs -/
def lb : List Nat → List Nat
  | [] => []
  | [x] => [x]
  | x :: y :: r => (x + W32 * y) :: lb r
theorem ln_lb : ∀ d : List Nat, ln (lb d) = nv d
  | [] => rfl
  | [x] => by simp [lb, ln, nv]
  | x :: y :: r => by
    rw [lb, ln, ln_lb r, nv, nv, Nat.mul_add, ← Nat.mul_assoc, ← W64_sq]
    omega
theorem lb_lds : ∀ {d : List Nat}, Wds d → Lds (lb d)
  | [], _ => fun _ h => by simp [lb] at h
  | [x], h => fun z hz => by
    simp [lb] at hz
    have : x < 4294967296 := h.head
    subst hz
    show z < 18446744073709551616
    omega
  | x :: y :: r, h => fun z hz => by
    rw [lb] at hz
    rcases List.mem_cons.1 hz with rfl | hz
    · have h1 : x < 4294967296 := h.head
      have h2 : y < 4294967296 := h.tail.head
      show x + 4294967296 * y < 18446744073709551616
      omega
    · exact lb_lds h.tail.tail z hz

end Go.Proofs.YtjokpfgncmdomaaGreatDoor

/- mul: the walk -/
namespace Go.Proofs.YtjokpfgncmdomaaGreatDoor
open Go.RowKit Go.Sort

theorem mul_step {xs : List Nat} {i j q o p x y : Nat} {R Y : Nat} (ho : xs[i + j]? = some o) (h : nv xs + W32 ^ (i + j) * q = R + W32 ^ i * (x * Y)) (hp : p = q + (x * y + o)) :
    nv (xs.set (i + j) (p % W32)) + W32 ^ (i + (j + 1)) * (p / W32) = R + W32 ^ i * (x * (Y + W32 ^ j * y)) := by
  have h1 := nv_set (v := p % W32) ho
  have h2 : W32 ^ (i + j) * (p % W32) + W32 ^ (i + (j + 1)) * (p / W32) = W32 ^ (i + j) * p := by
    rw [show i + (j + 1) = i + j + 1 by omega, Nat.pow_succ, Nat.mul_assoc, ← Nat.mul_add, Nat.mod_add_div]
  have h3 : W32 ^ (i + j) * p = W32 ^ (i + j) * q + (W32 ^ (i + j) * (x * y) + W32 ^ (i + j) * o) := by rw [hp, Nat.mul_add, Nat.mul_add]
  have h4 : W32 ^ i * (x * (Y + W32 ^ j * y)) = W32 ^ i * (x * Y) + W32 ^ (i + j) * (x * y) := by
    rw [Nat.mul_add, Nat.mul_add, Nat.pow_add]
    congr 1
    rw [Nat.mul_left_comm x, Nat.mul_assoc]
  rw [h4]
  omega

set_option maxRecDepth 100000 in
theorem mul_any (A B : Option Addr) (n m c d : Nat) (a b : List Nat) (S S' : Nat → Prop) (w : World) (hx : RdE Wc 1 w S A n a) (hy : RdE Wc 1 w S' B m b) (ha : Wds a) (hb : Wds b) (hS : ∀ b, S b → b < w.heap.size) (hS' : ∀ b, S' b → b < w.heap.size)
    (hn : n ≤ 100000000000) (hm : m ≤ 100000000000) :
    Calls Tryz.prog 163 #[.slice A n c, .slice B m d] w fun e w' => ∃ A' c', e = .returned (.slice A' (dig (nv a * nv b)).length c') ∧ (dig (nv a * nv b)).length ≤ c' ∧ RdE Wc 1 w' (fun b => w.heap.size ≤ b ∧ b < w'.heap.size) A' (dig (nv a * nv b)).length (dig (nv a * nv b)) ∧ Below w.heap.size w w' := by
  obtain ⟨i0, hi0, hz0, hz1, hz2⟩ := info_parts' info_u32
  have HX := Lib.hid hx
  have HY := Lib.hid hy
  have HA := Lib.hid ha
  have HB := Lib.hid hb
  have HS := Lib.hid hS
  have HS' := Lib.hid hS'
  clear hx hy ha hb hS hS'
  have hzero : (n = 0 ∨ m = 0) → nv a * nv b = 0 := by
    rintro (h | h)
    · rw [List.eq_nil_of_length_eq_zero (HX.out.num.trans h)]; simp [nv]
    · rw [List.eq_nil_of_length_eq_zero (HY.out.num.trans h)]; simp [nv]
  by_cases h0 : n = 0
  · have HZ := Lib.hid (hzero (.inl h0))
    subst h0
    clear hzero
    go_enter Tryz.func163, Tryz.ntmps163
    go_wp2_with fail
    go_ret
    rw [HZ.out]
    exact ⟨none, 0, rfl, Nat.le_refl _, RdE.nil .., Below.refl _ _⟩
  · by_cases h1 : m = 0
    · have HZ := Lib.hid (hzero (.inr h1))
      subst h1
      clear hzero
      go_enter Tryz.func163, Tryz.ntmps163
      go_wp2_with fail
      go_ret
      rw [HZ.out]
      exact ⟨none, 0, rfl, Nat.le_refl _, RdE.nil .., Below.refl _ _⟩
    · clear hzero
      have e0 : ((n : Int) == 0) = false := by simp; omega
      have e1 : ((m : Int) == 0) = false := by simp; omega
      go_enter Tryz.func163, Tryz.ntmps163
      go_wp2_with (at_make; go_must (refine wpList_make_full _ rfl _ _ _ rfl w.heap.size 119 i0 _ 1 Tryz.underlying66 hi0 hz0 hz1 .i64 .i64 _ _ (n + m) rfl rfl (by omega) (by omega) (by rw [hz2]; omega) (by simp only [maxLen]; omega) (Nat.le_refl _) ?_); intro w1 hown1 hg1)
      have hinv := hown1
      rw [made_u32] at hinv
      have HI := Lib.hid hinv
      have HB1 := Lib.hid (below_of_grown hg1 (fun g hg => by cases hg))
      clear hown1 hg1 hinv
      go_loopw [6] (fun i wr => ∃ (k : Nat) (xs : List Nat), k ≤ n ∧ i = .int .i64 k ∧ xs.length = n + m ∧ Wds xs ∧ nv xs = nv (a.take k) * nv b ∧ ZeroFrom xs (k + m) ∧ wr.ownsRow w.heap.size 119 1 (.slice (some ⟨w.heap.size, 0, none⟩) (n + m) (n + m)) (n + m) (xs.flatMap Wc) ∧ Below w.heap.size w wr) (fun i _ => n - (intOf i).toNat)
      case atStart => exact ⟨0, List.replicate (n + m) 0, Nat.zero_le _, rfl, by simp, fun x hx => by rw [(List.mem_replicate.1 hx).2]; decide, by rw [(zero_rep (n + m) 0).val]; simp [nv], zero_rep _ _, HI.out, HB1.out⟩
      case round =>
        obtain ⟨k, xs, hk, rfl, hxl, hxw, hsum, hzf, hown, hbw⟩ := hrel
        by_cases hlt : k < n
        · obtain ⟨x, hx⟩ := get_some HX.out.num hlt
          obtain ⟨b1, o1, rfl, hSb1, hc⟩ := HX.out.elem Wc.clen hx (by omega)
          have q1 : ∀ wi : World, Below w.heap.size w wi → wi.cell? ⟨b1, o1 + k, none⟩ = some (.int .u32 (x : Int)) := fun wi hbi => by have h := (hbi.cell (p := ⟨b1, _, none⟩) (HS.out _ hSb1)).trans (hc 0 _ rfl); rw [Nat.mul_one, Nat.add_zero] at h; exact h
          have Q1 := Lib.hid q1
          have hxlt := hw0 HA.out hx
          have HO := Lib.hid hown
          have HBW := Lib.hid hbw
          have HSUM := Lib.hid hsum
          have HXX := Lib.hid hx
          have HXW := Lib.hid hxw
          have HZF := Lib.hid hzf
          clear hown hbw hsum hx hc hxw hzf q1
          obtain ⟨wo, rfl⟩ : ∃ wo : World, wo = wr := ⟨_, rfl⟩
          go_wp2_with fail
          have hxlt' : (x : Int) < 4294967296 := by omega
          go_loopw [7, 8] (fun cv jv wr => ∃ (l q : Nat) (ys : List Nat), l ≤ m ∧ cv = .int .u64 q ∧ jv = .int .i64 l ∧ q < 4294967296 ∧ ys.length = n + m ∧ Wds ys ∧ nv ys + W32 ^ (k + l) * q = nv xs + W32 ^ k * (x * nv (b.take l)) ∧ ZeroFrom ys (k + m) ∧ wr.ownsRow w.heap.size 119 1 (.slice (some ⟨w.heap.size, 0, none⟩) (n + m) (n + m)) (n + m) (ys.flatMap Wc) ∧ Below w.heap.size w wr) (fun _ j _ => m - (intOf j).toNat)
          case atStart => exact ⟨0, 0, xs, Nat.zero_le _, rfl, rfl, by decide, hxl, HXW.out, by simp [nv], HZF.out, HO.out, HBW.out⟩
          case round =>
            clear HO HBW
            obtain ⟨l, q, ys, hl, rfl, rfl, hq, hyl, hyw, hsm, hzf, hown, hbw⟩ := hrel
            have q1 := Q1.out wr hbw
            by_cases hlm : l < m
            · obtain ⟨y, hy⟩ := get_some HY.out.num hlm
              obtain ⟨b2, o2, rfl, hSb2, hc2⟩ := HY.out.elem Wc.clen hy (by omega)
              have q2 : wr.cell? ⟨b2, o2 + l, none⟩ = some (.int .u32 (y : Int)) := by have h := (hbw.cell (p := ⟨b2, _, none⟩) (HS'.out _ hSb2)).trans (hc2 0 _ rfl); rw [Nat.mul_one, Nat.add_zero] at h; exact h
              have hylt := hw0 HB.out hy
              obtain ⟨o, ho⟩ := get_some hyl (show k + l < n + m by omega)
              have holt := hw0 hyw ho
              have q0 : wr.cell? ⟨w.heap.size, k + l, none⟩ = some (.int .u32 (o : Int)) := own_wc hown ho
              have hf := hown.frozenAt (k + l)
              have hxy : x * y ≤ 18446744065119617025 := Nat.le_trans (Nat.mul_le_mul (show x ≤ 4294967295 by omega) (show y ≤ 4294967295 by omega)) (by decide)
              have hxy1 : (x : Int) * (y : Int) ≤ 18446744065119617025 := by rw [← Int.natCast_mul]; omega
              have hxy0 : 0 ≤ (x : Int) * (y : Int) := by rw [← Int.natCast_mul]; omega
              have hs1 : IntKind.i64.wrap ((k : Int) + l) = (k : Int) + l := IntWalk.i64_in _ (by omega)
              have hs2 : 0 ≤ (k : Int) + l := by omega
              have hs3 : ((k : Int) + l).toNat = k + l := by omega
              have HO := Lib.hid hown
              have HBW := Lib.hid hbw
              have HSM := Lib.hid hsm
              have HYY := Lib.hid hy
              have HYW := Lib.hid hyw
              have HZ := Lib.hid hzf
              have HOO := Lib.hid ho
              clear hown hbw hsm hy hyw hzf ho hc2
              go_wp2_with fail
              go_quiet (fail)
              go_wp2_with fail
              have ho1 := own_set_wc (own_drewN HO.out nq) (i := k + l) (by omega) ((q + (x * y + o)) % W32)
              have HO1 := Lib.hid ho1.1
              have HB2 := Lib.hid ((below_drewN HBW.out nq).grown ho1.2 (Nat.le_of_lt (HO.out.lt w.heap.size rfl).2) (fun g hg => by injection hg with hg; omega))
              clear ho1
              have hplt : q + (x * y + o) < 18446744073709551616 := by omega
              refine ⟨⟨l + 1, (q + (x * y + o)) / W32, ys.set (k + l) ((q + (x * y + o)) % W32), by omega, ?_, by go_num, ?_, by simp [hyl], wds_set HYW.out (Nat.mod_lt _ (by decide)), ?_, HZ.out.set (by omega), HO1.out, HB2.out⟩, by simp [intOf]; omega⟩
              · rfl
              · show (q + (x * y + o)) / 4294967296 < 4294967296; omega
              · rw [nv_take_succ HYY.out]; exact mul_step HOO.out HSM.out rfl
            · obtain rfl : m = l := by omega
              have hzq : ∃ o, ys[k + m]? = some o := get_some hyl (show k + m < n + m by omega)
              obtain ⟨o, ho⟩ := hzq
              obtain rfl : o = 0 := hzf _ _ (Nat.le_refl _) ho
              have q0 := own_wc hown ho
              have hf := hown.frozenAt (k + m)
              have HO := Lib.hid hown
              have HBW := Lib.hid hbw
              have hfin : nv (ys.set (k + m) q) = nv (a.take (k + 1)) * nv b := by
                have h := nv_set (v := q) ho
                have e : b.take m = b := List.take_of_length_le (by rw [HY.out.num]; omega)
                rw [hsm, HSUM.out, Nat.mul_zero, Nat.add_zero, e] at h
                rw [h, nv_take_succ HXX.out, Nat.add_mul, Nat.mul_assoc]
              have HFIN := Lib.hid hfin
              have HZ := Lib.hid (ZeroFrom.set_at (v := q) hzf)
              have HYW := Lib.hid (wds_set (k := k + m) (v := q) hyw hq)
              have ho1 := own_set_wc hown (i := k + m) (by omega) q
              have HO1 := Lib.hid ho1.1
              have HB2 := Lib.hid (hbw.grown ho1.2 (Nat.le_of_lt (hown.lt w.heap.size rfl).2) (fun g hg => by injection hg with hg; omega))
              clear hown hbw hsm hzf hyw hfin ho1 ho
              go_wp2_with fail
              refine ⟨⟨k + 1, ys.set (k + m) q, by omega, by go_num, by simp [hyl], HYW.out, HFIN.out, HZ.out.mono (by omega), HO1.out, HB2.out⟩, by simp [intOf]; omega⟩
        · obtain rfl : n = k := by omega
          have HO := Lib.hid hown
          have HBW := Lib.hid hbw
          have HXW := Lib.hid hxw
          have hfin : nv xs = nv a * nv b := by
            rw [hsum, List.take_of_length_le (by rw [HX.out.num]; exact Nat.le_refl _)]
          have HFIN := Lib.hid hfin
          clear hown hbw hxw hsum hfin hzf
          go_wp2_with fail
          refine (trim_own w.heap.size w.heap.size (n + m) (n + m) xs _ HO.out HXW.out (by omega) (Nat.le_refl _)).mono ?_
          rintro e w9 ⟨rfl, hl9, hr9, hb9⟩
          rw [HFIN.out] at hl9 hr9 ⊢
          have HR9 := Lib.hid hr9
          have HL9 := Lib.hid hl9
          have HB9 := Lib.hid (HBW.out.trans (hb9.mono HBW.out.size))
          clear hr9 hl9 hb9
          go_wp2_with fail
          go_ret
          exact ⟨_, _, rfl, HL9.out, HR9.out, HB9.out⟩

end Go.Proofs.YtjokpfgncmdomaaGreatDoor
