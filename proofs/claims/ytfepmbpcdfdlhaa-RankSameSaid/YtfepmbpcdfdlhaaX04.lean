import Derived.Test.YtfepmbpcdfdlhaaX03
import Derived.Laws.CopyOwn
set_option linter.unusedSimpArgs false
set_option linter.unusedVariables false
/- plain steps of the long division -/
namespace Go.Proofs.Ytfepmbpcdfdlhaa
open Go.RowKit Go.Sort

theorem kn_h {VJ P h x0 ul top next vl : Nat} (hV : VJ = (top * W32 + next) * P + vl) (hvl : vl < P) (hn : next < W32) {U : Nat} (hU : U = (h * W32 + x0) * P + ul) (hlt : U < VJ * W32) : h < (top + 1) * W32 := by
  have h1 : VJ ≤ (top + 1) * W32 * P := by
    have h2 : (top * W32 + next + 1) * P ≤ (top + 1) * W32 * P := Nat.mul_le_mul_right _ (by rw [Nat.add_mul top 1, Nat.one_mul]; omega)
    rw [Nat.add_mul _ 1, Nat.one_mul] at h2
    omega
  have h3 : h * (W32 * P) ≤ U := by
    rw [hU, Nat.add_mul, Nat.mul_assoc]; omega
  have h4 : U < (top + 1) * W32 * (W32 * P) := by
    refine Nat.lt_of_lt_of_le hlt ?_
    have := Nat.mul_le_mul_right W32 h1
    rw [Nat.mul_assoc ((top + 1) * W32), Nat.mul_comm P] at this
    exact this
  exact Nat.lt_of_mul_lt_mul_right (Nat.lt_of_le_of_lt h3 h4)
theorem kn_u3 {us : List Nat} {V j k : Nat} (hV : (dig V).length = k + 2) (h : nv us < V * W32 ^ (j + 1)) : ZeroFrom us (j + k + 3) := by
  apply zeroFrom_of_lt
  have h1 := lt_dig_len V
  rw [hV] at h1
  refine Nat.lt_of_lt_of_le h ?_
  rw [show j + k + 3 = (k + 2) + (j + 1) by omega, Nat.pow_add W32 (k + 2) (j + 1)]
  exact Nat.mul_le_mul_right _ (Nat.le_of_lt h1)
theorem kn_qlt {us : List Nat} {V j : Nat} (h : nv us < V * W32 ^ (j + 1)) : nv us / (V * W32 ^ j) < W32 := by
  apply Nat.div_lt_of_lt_mul
  rw [Nat.mul_assoc, ← Nat.pow_succ]
  exact h
theorem kn_brk {g top r h : Nat} (hr : g * top + r = h) (hb : W32 ≤ r) (hh : h < (top + 1) * W32) : g < W32 := by
  apply Nat.lt_of_not_le
  intro hg
  have h1 := Nat.mul_le_mul_right top hg
  rw [Nat.add_mul, Nat.one_mul] at hh
  rw [Nat.mul_comm W32] at h1
  rw [Nat.mul_comm top W32] at h1 hh
  omega
theorem kn_ok {g next r x0 : Nat} (hg : g < W32) (hn : next < W32) (hb : W32 ≤ r) : g * next ≤ r * W32 + x0 := by
  have h1 : g * next ≤ W32 * W32 := Nat.mul_le_mul (Nat.le_of_lt hg) (Nat.le_of_lt hn)
  have h2 := Nat.mul_le_mul_right W32 hb
  omega
theorem borrow2 {x q y : Nat} (hx : x < 4294967296) (hq : q < 2) (hy : y < 4294967296) : ∃ q' s : Nat, IntKind.u64.wrap (IntKind.u64.wrap ((x : Int) - y) - q) / 9223372036854775808 = (q' : Int) ∧ IntKind.u64.wrap (IntKind.u64.wrap ((x : Int) - y) - q) % 4294967296 = (s : Int) ∧ q' < 2 ∧ s < W32 ∧ x + W32 * q' = s + y + q := by
  have e : IntKind.u64.wrap (IntKind.u64.wrap ((x : Int) - y) - q) = IntKind.u64.wrap (IntKind.u64.wrap ((x : Int) - q) - y) := by
    rw [IntKind.wrap_u64, IntKind.wrap_u64, IntKind.wrap_u64, IntKind.wrap_u64]; omega
  rw [e]
  obtain ⟨q', s, h1, h2, h3, h4, h5⟩ := borrow hx hq hy
  exact ⟨q', s, h1, h2, h3, h4, by omega⟩
theorem topw {x c d : Nat} (hx : x < 4294967296) (hc : c < 4294967296) (hd : d < 2) :
    (c + d ≤ x → IntKind.u64.wrap (IntKind.u64.wrap ((x : Int) - c) - d) = ((x - (c + d) : Nat) : Int)) ∧
    (x < c + d → IntKind.u64.wrap (IntKind.u64.wrap ((x : Int) - c) - d) / 9223372036854775808 = 1 ∧ IntKind.u64.wrap (IntKind.u64.wrap ((x : Int) - c) - d) % 4294967296 = ((x + W32 - (c + d) : Nat) : Int) ∧ c + d ≤ W32 + x ∧ x + W32 - (c + d) < W32) := by
  rw [IntKind.wrap_u64, IntKind.wrap_u64]
  show (c + d ≤ x → _) ∧ (x < c + d → _ ∧ _ = ((x + 4294967296 - (c + d) : Nat) : Int) ∧ c + d ≤ 4294967296 + x ∧ x + 4294967296 - (c + d) < 4294967296)
  constructor
  · intro h; omega
  · intro h; exact ⟨by omega, by omega, by omega, by omega⟩
theorem back_step {xs v : List Nat} {j i c o p vi R : Nat} (ho : xs[j + i]? = some o) (hI : nv xs + W32 ^ (j + i) * c = R + W32 ^ j * nv (v.take i)) (hv : v[i]? = some vi) (hp : p = c + (o + vi)) :
    nv (xs.set (j + i) (p % W32)) + W32 ^ (j + (i + 1)) * (p / W32) = R + W32 ^ j * nv (v.take (i + 1)) := by
  have h1 := nv_set (v := p % W32) ho
  have h2 : W32 ^ (j + i) * (p % W32) + W32 ^ (j + (i + 1)) * (p / W32) = W32 ^ (j + i) * p := by
    rw [← Nat.add_assoc, Nat.pow_succ, Nat.mul_assoc, ← Nat.mul_add, Nat.mod_add_div]
  have h3 : W32 ^ (j + i) * p = W32 ^ (j + i) * c + (W32 ^ (j + i) * o + W32 ^ (j + i) * vi) := by rw [hp, Nat.mul_add, Nat.mul_add]
  rw [nv_take_succ hv, Nat.mul_add, ← Nat.mul_assoc (W32 ^ j), ← Nat.pow_add]
  omega
theorem u64_pred {g : Nat} (h : 1 ≤ g) : Value.int .u64 ((g : Int) - 1) = Value.int .u64 ((g - 1 : Nat) : Int) := by congr 1; omega
theorem dec_eq {g top r h : Nat} (hg : 1 ≤ g) (e : g * top + r = h) : (g - 1) * top + (r + top) = h := by
  rw [← e]
  conv => rhs; rw [show g = g - 1 + 1 by omega, Nat.add_mul, Nat.one_mul]
  omega
theorem div_end {x y s a b : Nat} (hy : 0 < y) (h : x * 2 ^ s = a + y * 2 ^ s * b) (ha : a < y * 2 ^ s) : b = x / y ∧ a / 2 ^ s = x % y := by
  have hp : 0 < 2 ^ s := Nat.pow_pos (by decide)
  have hd : x * 2 ^ s / (y * 2 ^ s) = b := by rw [h, Nat.add_mul_div_left _ _ (Nat.mul_pos hy hp), Nat.div_eq_of_lt ha, Nat.zero_add]
  have hm : x * 2 ^ s % (y * 2 ^ s) = a := by rw [h, Nat.add_mul_mod_self_left, Nat.mod_eq_of_lt ha]
  rw [Nat.mul_div_mul_right _ _ hp] at hd
  rw [Nat.mul_mod_mul_right] at hm
  exact ⟨hd.symm, by rw [← hm, Nat.mul_div_cancel _ hp]⟩

end Go.Proofs.Ytfepmbpcdfdlhaa

/- div: the long division -/
namespace Go.Proofs.Ytfepmbpcdfdlhaa
open Go.RowKit Go.Sort

theorem own_blk {w : World} {base e g n : Nat} {xs : List Value} (h : w.ownsRow base e 1 (.slice (some ⟨g, 0, none⟩) n n) n xs) : w.heap[g]? = some (.cells xs.toArray e (0, 0)) ∧ base ≤ g := by
  rcases h.2 with ⟨h1, h2⟩ | ⟨g', cap, cur, hs, hb, hg, hn, hm, hz, ht⟩
  · cases h1
  · injection hs with h1 h2 h3
    injection h1 with h1
    injection h1 with h1 _ _
    subst h1 h3
    have hl := h.1
    have e : cur.toList = xs := by
      rw [← ht, List.take_of_length_le]
      simp
      omega
    rw [← e]
    exact ⟨by simpa using hg, hb⟩

theorem own_below {w w' : World} {base e size n : Nat} {v : Value} {xs : List Value} (h : w.ownsRow base e size v n xs) (hb : Below w.heap.size w w') : w'.ownsRow base e size v n xs := by
  refine ⟨h.1, ?_⟩
  rcases h.2 with h1 | ⟨g, cap, cur, hs, hbs, hg, hr⟩
  · exact .inl h1
  · exact .inr ⟨g, cap, cur, hs, hbs, (hb.block g (Array.getElem?_eq_some_iff.1 hg).1).trans hg, hr⟩
theorem own_of_blk {w : World} {base e g n : Nat} {xs : List Value} (hg : w.heap[g]? = some (.cells xs.toArray e (0, 0))) (hl : xs.length = n) (hb : base ≤ g) (hn : n ≤ maxLen) : w.ownsRow base e 1 (.slice (some ⟨g, 0, none⟩) n n) n xs :=
  ⟨by omega, .inr ⟨g, n, xs.toArray, rfl, hb, hg, Nat.le_refl _, hn, by simp [hl], by simp [← hl]⟩⟩
theorem rd_src {w : World} {S : Nat → Prop} {A : Option Addr} {n : Nat} {vs : List Value} (h : Rd w S 1 A n vs) (hp : 0 < vs.length) : ∃ ad, A = some ad ∧ ∀ (j : Nat) (v : Value), vs[j]? = some v → w.cell? (ad.add j) = some v := by
  obtain ⟨b, o, e, _, _⟩ := h.at_ 0 _ (List.getElem?_eq_getElem hp)
  refine ⟨_, e, fun j v hv => ?_⟩
  obtain ⟨b', o', e', _, hc⟩ := h.at_ j v hv
  rw [e] at e'
  injection e' with e'
  injection e' with e1 e2 _
  subst e1 e2
  rw [add_off]
  exact hc
theorem splice_wc {n : Nat} {ds : List Nat} (h : ds.length ≤ n) : splice ((List.replicate n 0).flatMap Wc) 0 (ds.flatMap Wc) = (ds ++ List.replicate (n - ds.length) 0).flatMap Wc := by
  unfold splice
  rw [List.take_zero, List.nil_append, List.flatMap_append, flat_len Wc 1 Wc.clen, Nat.mul_one, Nat.zero_add]
  congr 1
  have h1 : (List.replicate n 0).flatMap Wc = (List.replicate n (Value.int .u32 0)) := by
    rw [List.flatMap_replicate]; simp
  have h2 : (List.replicate (n - ds.length) 0).flatMap Wc = (List.replicate (n - ds.length) (Value.int .u32 0)) := by
    rw [List.flatMap_replicate]; simp
  rw [h1, h2, List.drop_replicate]
theorem left_s (A : Option Addr) (n c : Nat) (a : List Nat) (s : Nat) (S : Nat → Prop) (w : World) (hx : RdE Wc 1 w S A n a) (ha : Wds a) (hS : ∀ b, S b → b < w.heap.size) (hn : n ≤ 10000000000) (hs : s < 32) :
    Calls Try.prog 74 #[.slice A n c, .int .u64 (s : Int)] w fun e w' => ∃ A' c', e = .returned (.slice A' (dig (nv a * 2 ^ s)).length c') ∧ (dig (nv a * 2 ^ s)).length ≤ c' ∧ RdE Wc 1 w' (fun b => w.heap.size ≤ b ∧ b < w'.heap.size) A' (dig (nv a * 2 ^ s)).length (dig (nv a * 2 ^ s)) ∧ Below w.heap.size w w' := by
  have h := left_any A n c a 0 s S w hx ha hS hn (by omega) hs
  rw [Nat.zero_mul, Nat.zero_add] at h
  exact h
theorem right_s (A : Option Addr) (n c : Nat) (a : List Nat) (s : Nat) (S : Nat → Prop) (w : World) (hx : RdE Wc 1 w S A n a) (ha : Wds a) (hS : ∀ b, S b → b < w.heap.size) (hn : n ≤ 10000000000) (hs : s < 32) :
    Calls Try.prog 109 #[.slice A n c, .int .u64 (s : Int)] w fun e w' => ∃ A' c', e = .returned (.slice A' (dig (nv a / 2 ^ s)).length c') ∧ (dig (nv a / 2 ^ s)).length ≤ c' ∧ RdE Wc 1 w' (fun b => w.heap.size ≤ b ∧ b < w'.heap.size) A' (dig (nv a / 2 ^ s)).length (dig (nv a / 2 ^ s)) ∧ Below w.heap.size w w' := by
  have h := right_any A n c a 0 s S w hx ha hS hn (by omega) hs
  rw [Nat.zero_mul, Nat.zero_add] at h
  exact h
/-- the divisor, moved up by s bits -/
theorem div_shift {y m : Nat} (hm : (dig y).length = m + 1) : ∃ s : Nat, s < 32 ∧ (32 : Int) - ((blen y : Int) - 1) % 32 - 1 = (s : Int) ∧ (dig (y * 2 ^ s)).length = m + 1 ∧ blen y ≤ 32 * (m + 1) ∧ 1 ≤ blen y := by
  obtain ⟨x, hx⟩ := get_some hm (show m < m + 1 by omega)
  have hb := blen_dig hm hx
  have hxl := hw0 (dig_wds y) hx
  have hb32 : blen x ≤ 32 := blen_le_of_lt hxl
  have hx0 : x ≠ 0 := by
    have h2 := (dig_isDig y).2 (by intro h; rw [h] at hm; simp at hm)
    rw [List.getLast_eq_getElem] at h2
    have e2 : (dig y).length - 1 = m := by omega
    simp only [e2] at h2
    rw [(List.getElem?_eq_some_iff.1 hx).2] at h2
    exact h2
  have hb1 := blen_pos hx0
  refine ⟨32 - blen x, by omega, by omega, ?_, by omega, by omega⟩
  have hy0 : y ≠ 0 := by intro h; rw [h, dig_zero] at hm; simp at hm
  have h1 := blen_lt (N := y)
  have h2 : y * 2 ^ (32 - blen x) < W32 ^ (m + 1) := by
    rw [W32_pow, show 32 * (m + 1) = blen y + (32 - blen x) by omega, Nat.pow_add]
    exact Nat.mul_lt_mul_of_pos_right h1 (Nat.pow_pos (by decide))
  have h3 := dig_len_le h2
  have h4 : y ≤ y * 2 ^ (32 - blen x) := Nat.le_mul_of_pos_right _ (Nat.pow_pos (by decide))
  have h5 := dig_len_mono h4
  omega

set_option maxRecDepth 100000 in
set_option maxHeartbeats 8000000 in
theorem div_long (A B : Option Addr) (k l c d : Nat) (x y : Nat) (w : World) (hx : RdE Wc 1 w (fun b => b < w.heap.size) A (k + l) (dig x)) (hy : RdE Wc 1 w (fun b => b < w.heap.size) B (k + 2) (dig y)) (hl2 : 2 ≤ l) (hn : 2 < k + l) (hn2 : k + l ≤ 10000000) (h : y ≤ x) :
    Calls Try.prog 107 #[.slice A (k + l) c, .slice B (k + 2) d] w (DivPost x y w.heap.size w) := by
  obtain ⟨i0, hi0, hz0, hz1, hz2⟩ := info_parts' info_u32
  have HX := Lib.hid hx
  have HY := Lib.hid hy
  obtain ⟨s, hs32, hsE, hvl, hbl, hbl1⟩ := div_shift (m := k + 1) HY.out.num
  have hy0 : 0 < y := by
    rcases Nat.eq_zero_or_pos y with e | e
    · rw [e] at hvl; simp [dig_zero] at hvl
    · exact e
  have hV0 : 0 < y * 2 ^ s := Nat.mul_pos hy0 (Nat.pow_pos (by decide))
  have hll : (dig (x * 2 ^ s)).length ≤ k + l + 1 := by
    apply dig_len_le
    have h1 := lt_dig_len x
    rw [HX.out.num] at h1
    rw [Nat.pow_succ]
    have h2 : 2 ^ s ≤ W32 := Nat.le_trans (Nat.pow_le_pow_right (show 0 < 2 by decide) (show s ≤ 32 by omega)) (by decide)
    exact Nat.lt_of_lt_of_le (Nat.mul_lt_mul_of_pos_right h1 (Nat.pow_pos (by decide))) (Nat.mul_le_mul_left _ h2)
  have HVL : Hid ((dig (y * 2 ^ s)).length = k + 2) := Lib.hid hvl
  have e0 : (((k : Int) + 2) == 0) = false := by simp; omega
  have e1 : (((k : Int) + 2) == 1) = false := by simp; omega
  have e4 : (k : Int) + l + 2 - (k + 2) = (l : Int) := by omega
  have e2 : 0 ≤ ((blen y : Int) - 1) % 32 := by omega
  have e3 : ((blen y : Int) - 1) % 32 < 32 := by omega
  clear hx hy hvl
  go_enter Try.func107, Try.ntmps107
  go_wp2_with fail
  refine (cmp_ge _ _ _ _ _ _ x y _ _ _ HX.out HY.out (by omega) (by omega) h).mono ?_
  rintro e w1 ⟨z, hz0', hz1', rfl, hb1⟩
  have hr1 := HX.out.keep (Keeps.below hb1 (fun b hb => hb))
  have hr2 := HY.out.keep (Keeps.below hb1 (fun b hb => hb))
  have HR1 := Lib.hid hr1
  have HR2 := Lib.hid hr2
  have HB1 := Lib.hid hb1
  have z1 := HB1.out.size
  clear hb1 hr1 hr2
  go_wp2_with fail
  refine (length_any _ _ _ y _ _ HR2.out (by omega)).mono ?_
  rintro e w' ⟨rfl, rfl⟩
  go_wp2_with fail
  go_wp2_with fail
  refine (left_s _ _ _ _ s _ _ HR2.out (dig_wds y) (fun b hb => by omega) (by omega) hs32).mono ?_
  rintro e w2 ⟨AV, cV, rfl, hcV, hrV, hb2⟩
  rw [nv_dig] at hcV hrV ⊢
  rw [HVL.out] at hcV hrV ⊢
  have z2 := hb2.size
  have HRV := Lib.hid hrV
  have HB2 := Lib.hid (below_then HB1.out hb2)
  have hr1 := HR1.out.keep (Keeps.below hb2 (fun b hb => by omega))
  have HR1' := Lib.hid hr1
  clear hrV hb2 hr1
  go_wp2_with (at_make; go_must (refine wpList_make_full _ rfl _ _ _ rfl w2.heap.size 135 i0 _ 1 Try.underlying78 hi0 hz0 hz1 .i64 .i64 _ _ (k + l + 2) rfl rfl (by omega) (by omega) (by rw [hz2]; omega) (by simp only [maxLen]; omega) (Nat.le_refl _) ?_); intro w3 hown3 hg3)
  rw [made_u32] at hown3
  have z3 := hg3.size
  have HO3 := Lib.hid hown3
  have HB3 : Hid (Below w2.heap.size w2 w3) := Lib.hid (below_of_grown hg3 (fun g hg => by cases hg))
  have hr1 := HR1'.out.keep (Keeps.below HB3.out (fun b hb => by omega))
  have HR1a := Lib.hid hr1
  clear hown3 hg3 hr1
  go_wp2_with fail
  refine (left_s _ _ _ _ s _ _ HR1a.out (dig_wds x) (fun b hb => by omega) (by omega) hs32).mono ?_
  rintro e w4 ⟨AU, cU, rfl, hcU, hrU, hb4⟩
  rw [nv_dig] at hcU hrU ⊢
  have z4 := hb4.size
  have HRU := Lib.hid hrU
  have HB4 := Lib.hid hb4
  have HO4 : Hid (w4.ownsRow w2.heap.size 135 1 (.slice (some ⟨w2.heap.size, 0, none⟩) (k + l + 2) (k + l + 2)) (k + l + 2) ((List.replicate (k + l + 2) 0).flatMap Wc)) := Lib.hid (own_below HO3.out hb4)
  clear hrU hb4
  have hszk : (Try.prog.info? 135).map (·.size) = some 1 := by rw [hi0]; simp [hz1]
  have c1 : ((dig (x * 2 ^ s)).flatMap Wc).length = Nat.min (dig (x * 2 ^ s)).length (k + l + 2) := by
    rw [flat_len Wc 1 Wc.clen, Nat.mul_one]; exact (Nat.min_eq_left (by omega)).symm
  have c2 : 0 < ((dig (x * 2 ^ s)).flatMap Wc).length → ∃ ad, AU = some ad ∧ ∀ (j : Nat) (v : Value), ((dig (x * 2 ^ s)).flatMap Wc)[j]? = some v → w4.cell? (ad.add j) = some v := fun hp => rd_src HRU.out.rd hp
  have c3 : 0 + ((dig (x * 2 ^ s)).flatMap Wc).length ≤ ((List.replicate (k + l + 2) 0).flatMap Wc).length := by
    rw [flat_len Wc 1 Wc.clen, flat_len Wc 1 Wc.clen, List.length_replicate]; omega
  have c4 : Below w2.heap.size w2 w4 := below_then HB3.out HB4.out
  have C1 := Lib.hid c1
  have C2 := Lib.hid c2
  have C3 := Lib.hid c3
  have C4 := Lib.hid c4
  have CB := Lib.hid (own_blk HO4.out).1
  have HSZK := Lib.hid hszk
  clear c1 c2 c3 c4 hszk
  go_wp2_with (first | (refine wpList_copy_splice rfl _ _ _ _ rfl 135 Try.underlying78 HSZK.out _ _ (k + l + 2) (k + l + 2) _ cU (by rfl) (by rfl) w2.heap.size 0 ((List.replicate (k + l + 2) 0).flatMap Wc) _ CB.out ((dig (x * 2 ^ s)).flatMap Wc) C1.out (fun hp => ⟨rfl, C2.out hp⟩) C3.out (wc_one _) w2.heap.size w2 C4.out (Nat.le_refl _) ?_; intro w5 hg5 hb5) | (at_make; go_must (refine wpList_make_full _ rfl _ _ _ rfl w5.heap.size 135 i0 _ 1 Try.underlying78 hi0 hz0 hz1 .i64 .i64 _ _ l (by show _ = _; congr 1 <;> omega) (by show _ = _; congr 1 <;> omega) (by omega) (by omega) (by rw [hz2]; omega) (by simp only [maxLen]; omega) (Nat.le_refl _) ?_); intro w6 hown6 hg6))
  have hg5' := hg5.out
  rw [splice_wc (by omega)] at hg5'
  have hown5 : w5.ownsRow w2.heap.size 135 1 (.slice (some ⟨w2.heap.size, 0, none⟩) (k + l + 2) (k + l + 2)) (k + l + 2) ((dig (x * 2 ^ s) ++ List.replicate (k + l + 2 - (dig (x * 2 ^ s)).length) 0).flatMap Wc) := own_of_blk hg5' (by rw [flat_len Wc 1 Wc.clen]; simp; omega) (Nat.le_refl _) (by simp only [maxLen]; omega)
  have HO5 := Lib.hid hown5
  have HB5 := Lib.hid hb5
  have z5 := hb5.size
  have h25 : w2.heap.size < w5.heap.size := (hown5.lt w2.heap.size rfl).2
  have hrV5 := HRV.out.keep (Keeps.below hb5 (fun b hb => hb.2))
  have HRV5 := Lib.hid hrV5
  clear hown5 hb5 hg5 hg5' hrV5
  have z6 := hg6.size
  rw [made_u32] at hown6
  have HO6 : Hid (w6.ownsRow w2.heap.size 135 1 (.slice (some ⟨w2.heap.size, 0, none⟩) (k + l + 2) (k + l + 2)) (k + l + 2) ((dig (x * 2 ^ s) ++ List.replicate (k + l + 2 - (dig (x * 2 ^ s)).length) 0).flatMap Wc)) := Lib.hid (own_below HO5.out (below_of_grown hg6 (fun g hg => by cases hg)))
  have HQ6 := Lib.hid hown6
  have hrV6 := HRV5.out.keep (Keeps.below (below_of_grown hg6 (fun g hg => by cases hg)) (fun b hb => by omega))
  have HRV6 := Lib.hid hrV6
  have HB6 : Hid (Below w2.heap.size w2 w6) := Lib.hid (HB5.out.trans ((below_of_grown hg6 (fun g hg => by cases hg)).mono z5))
  clear hown6 hg6 hrV6
  obtain ⟨V, hV⟩ : ∃ V, V = y * 2 ^ s := ⟨_, rfl⟩
  obtain ⟨X, hX⟩ : ∃ X, X = x * 2 ^ s := ⟨_, rfl⟩
  rw [← hV] at HVL HRV6 hV0
  rw [← hX] at HO6 hll
  have HV := Lib.hid hV
  have HXX := Lib.hid hX
  clear hV hX
  obtain ⟨top, htop⟩ := get_some HVL.out (show k + 1 < k + 2 by omega)
  obtain ⟨next, hnext⟩ := get_some HVL.out (show k < k + 2 by omega)
  have htl := hw0 (dig_wds V) htop
  have hnl := hw0 (dig_wds V) hnext
  have htop0 : 0 < top := by
    have h2 := (dig_isDig V).2 (by intro h; have := HVL.out; rw [h] at this; simp at this)
    rw [List.getLast_eq_getElem] at h2
    have e2 : (dig V).length - 1 = k + 1 := by have := HVL.out; omega
    simp only [e2] at h2
    rw [(List.getElem?_eq_some_iff.1 htop).2] at h2
    omega
  obtain ⟨bv, ov, rfl, hSv, hcv⟩ := HRV6.out.elem Wc.clen htop (by omega)
  obtain ⟨bv', ov', ev, _, hcv'⟩ := HRV6.out.elem Wc.clen hnext (by omega)
  cases ev
  have qv1 : w6.cell? ⟨bv, ov + (k + 1), none⟩ = some (.int .u32 (top : Int)) := by have h := hcv 0 _ rfl; rw [Nat.mul_one, Nat.add_zero] at h; exact h
  have qv0 : w6.cell? ⟨bv, ov + k, none⟩ = some (.int .u32 (next : Int)) := by have h := hcv' 0 _ rfl; rw [Nat.mul_one, Nat.add_zero] at h; exact h
  have HTOP := Lib.hid htop
  have HNEXT := Lib.hid hnext
  clear hcv hcv' htop hnext
  have f1 : IntKind.i64.wrap ((k : Int) + 2 - 1) = (k : Int) + 1 := by rw [IntKind.wrap_i64]; omega
  have f2 : IntKind.i64.wrap ((k : Int) + 2 - 2) = (k : Int) := by rw [IntKind.wrap_i64]; omega
  have f3 : ((k : Int) + 1).toNat = k + 1 := by omega
  have f4 : (0 : Int) ≤ (k : Int) + 1 := by omega
  have f5 : (0 : Int) ≤ (k : Int) := by omega
  go_wp2_with fail
  go_quiet (fail)
  clear f1 f2 f3 f4 f5 qv0 qv1
  go_wp2_with fail
  have hX0 : X < V * W32 ^ l := by
    have h1 := lt_dig_len X
    have h2 : W32 ^ (k + 1) ≤ V := by
      have h3 := isDig_pos (dig_isDig V) (dig_pos (by omega))
      rw [nv_dig, HVL.out] at h3
      exact h3
    have h4 := Nat.mul_le_mul_right (W32 ^ l) h2
    rw [← Nat.pow_add] at h4
    have h5 := Nat.pow_le_pow_right (show 0 < W32 by decide) (show (dig X).length ≤ k + 1 + l by omega)
    exact Nat.lt_of_lt_of_le h1 (Nat.le_trans h5 h4)
  have HX0 := Lib.hid hX0
  have hnv0 : nv (dig X ++ List.replicate (k + l + 2 - (dig X).length) 0) = X := by
    have hz : nv (List.replicate (k + l + 2 - (dig X).length) 0) = 0 := nv_zero fun i x hx => (List.mem_replicate.1 (List.mem_of_getElem? hx)).2
    rw [nv_append, nv_dig, hz, Nat.mul_zero, Nat.add_zero]
  have HNV0 := Lib.hid hnv0
  have HWD0 : Hid (Wds (dig X ++ List.replicate (k + l + 2 - (dig X).length) 0)) := Lib.hid ((dig_wds X).append fun x hx => by rw [(List.mem_replicate.1 hx).2]; decide)
  have hcv : ∀ (wi : World) (o : Nat) (v : Value), Below w2.heap.size w2 wi → w6.cell? ⟨bv, o, none⟩ = some v → wi.cell? ⟨bv, o, none⟩ = some v := fun wi o v hb h => (hb.cell (p := ⟨bv, o, none⟩) hSv.2).trans ((HB6.out.cell (p := ⟨bv, o, none⟩) hSv.2).symm.trans h)
  have HCV := Lib.hid hcv
  clear hcv
  clear hX0 hnv0
  go_loopw [18] (fun jv wr => ∃ (t : Nat) (us qs : List Nat), t ≤ l ∧ (∃ z : Int, jv = .int .i64 z ∧ z = (t : Int) - 1) ∧ us.length = k + l + 2 ∧ Wds us ∧ qs.length = l ∧ Wds qs ∧ X = nv us + V * nv qs ∧ nv us < V * W32 ^ t ∧ ZeroTo qs t ∧
    wr.ownsRow w2.heap.size 135 1 (.slice (some ⟨w2.heap.size, 0, none⟩) (k + l + 2) (k + l + 2)) (k + l + 2) (us.flatMap Wc) ∧ wr.ownsRow w5.heap.size 135 1 (.slice (some ⟨w5.heap.size, 0, none⟩) l l) l (qs.flatMap Wc) ∧ Below w2.heap.size w2 wr) (fun jv _ => (intOf jv + 1).toNat)
  case atStart => exact ⟨l, _, List.replicate l 0, Nat.le_refl _, ⟨_, rfl, rfl⟩, by simp; omega, HWD0.out, by simp, fun x hx => by rw [(List.mem_replicate.1 hx).2]; decide, by rw [HNV0.out, (zero_rep l 0).val]; simp [nv], by rw [HNV0.out]; exact HX0.out, zeroTo_rep _ _, own_drewN HO6.out _, own_drewN HQ6.out _, below_drewN HB6.out _⟩
  case round =>
    obtain ⟨t, us, qs, ht, ⟨z', rfl, hz'⟩, hul, huw, hql, hqw, hsum, hlt, hzt, hou, hoq, hbw⟩ := hrel
    have HOU := Lib.hid hou
    have HOQ := Lib.hid hoq
    have HBW := Lib.hid hbw
    have HUW := Lib.hid huw
    have HQW := Lib.hid hqw
    have HSUM := Lib.hid hsum
    have HLT := Lib.hid hlt
    have HZT := Lib.hid hzt
    have hszr : w5.heap.size < wr.heap.size := (hoq.lt w5.heap.size rfl).2
    clear hou hoq hbw huw hqw hsum hlt hzt
    by_cases h0 : t = 0
    · subst h0
      obtain rfl : z' = -1 := by omega
      clear hz'
      go_wp2_with fail
      have hlt0 := HLT.out
      rw [Nat.pow_zero, Nat.mul_one, HV.out] at hlt0
      have hsum0 := HSUM.out
      rw [HXX.out, HV.out] at hsum0
      obtain ⟨hq0, hr0⟩ := div_end hy0 hsum0 hlt0
      have HQ0 := Lib.hid hq0
      have HR0 := Lib.hid hr0
      clear hlt0 hsum0 hq0 hr0
      refine (trim_own w5.heap.size w5.heap.size l l qs _ HOQ.out HQW.out (by omega) (Nat.le_refl _)).mono ?_
      rintro e w7 ⟨rfl, hl7, hr7, hb7⟩
      rw [HQ0.out] at hl7 hr7 ⊢
      have z7 := hb7.size
      have HR7 := Lib.hid hr7
      have HB7 := Lib.hid hb7
      have HOU7 := Lib.hid (own_below HOU.out hb7)
      clear hr7 hb7
      go_wp2_with fail
      refine (trim_own w2.heap.size w2.heap.size (k + l + 2) (k + l + 2) us _ HOU7.out HUW.out (by omega) (Nat.le_refl _)).mono ?_
      rintro e w8 ⟨rfl, hl8, hr8, hb8⟩
      have z8 := hb8.size
      have HR8 := Lib.hid hr8
      have HB8 := Lib.hid hb8
      clear hr8 hb8
      go_wp2_with fail
      refine (right_s _ _ _ _ s _ _ HR8.out (dig_wds _) (fun b hb => hb.2) (by have := dig_len_le (nv_lt HUW.out); omega) hs32).mono ?_
      rintro e w9 ⟨A9, c9, rfl, hc9, hr9, hb9⟩
      rw [nv_dig, HR0.out] at hc9 hr9 ⊢
      have z9 := hb9.size
      have HR9 := Lib.hid hr9
      have HB9 := Lib.hid hb9
      clear hr9 hb9
      go_wp2_with fail
      go_ret2
      have hB : Below w.heap.size w w2 := HB2.out
      have hB2 : Below w2.heap.size w2 w9 := HBW.out.trans ((HB7.out.mono HBW.out.size).trans ((HB8.out.mono (by omega)).trans (HB9.out.mono (by omega))))
      exact ⟨_, _, _, _, rfl, hl7, hc9, (HR7.out.keep (Keeps.below (below_then HB8.out HB9.out) (fun b hb => hb.2))).imp fun b hb => ⟨by omega, by omega⟩, HR9.out.imp fun b hb => ⟨by omega, hb.2⟩, below_then hB hB2⟩
    · obtain ⟨j, rfl⟩ : ∃ j, t = j + 1 := ⟨t - 1, by omega⟩
      obtain rfl : z' = (j : Int) := by omega
      clear hz' h0
      obtain ⟨wo, rfl⟩ : ∃ wo : World, wo = wr := ⟨_, rfl⟩
      obtain ⟨x2, hx2⟩ := get_some hul (show j + k + 2 < k + l + 2 by omega)
      obtain ⟨x1, hx1⟩ := get_some hul (show j + k + 1 < k + l + 2 by omega)
      obtain ⟨x0, hx0⟩ := get_some hul (show j + k < k + l + 2 by omega)
      have q2 := own_wc HOU.out hx2
      have q1 := own_wc HOU.out hx1
      have l2 := hw0 HUW.out hx2
      have l1 := hw0 HUW.out hx1
      have l0 := hw0 HUW.out hx0
      have hor := or_low32 l1 l2
      have g1 : IntKind.i64.wrap ((j : Int) + (k + 2)) = (j : Int) + (k + 2) := by rw [IntKind.wrap_i64]; omega
      have g2 : IntKind.i64.wrap ((j : Int) + (k + 2) - 1) = (j : Int) + (k + 1) := by rw [IntKind.wrap_i64]; omega
      have g3 : ((j : Int) + (k + 2)).toNat = j + k + 2 := by omega
      have g4 : ((j : Int) + (k + 1)).toNat = j + k + 1 := by omega
      have g5 : (0 : Int) ≤ (j : Int) + (k + 2) := by omega
      have g6 : (0 : Int) ≤ (j : Int) + (k + 1) := by omega
      have g7 : IntKind.u64.wrap ((x2 : Int) * 4294967296) = (x2 : Int) * 4294967296 := by rw [IntKind.wrap_u64]; omega
      have hti : (0 : Int) < (top : Int) := by omega
      have htz : ¬ top = 0 := by omega
      obtain ⟨h, hh⟩ : ∃ h : Nat, h = x2 * 4294967296 + x1 := ⟨_, rfl⟩
      rw [← hh] at hor
      have hhl : h < 18446744073709551616 := by omega
      have HH := Lib.hid hh
      clear hh
      go_wp2_with fail
      go_quiet (fail)
      clear g1 g2 g3 g4 g5 g6 g7 hor
      have g1 : IntKind.u64.wrap ((h : Int) / (top : Int)) = ((h / top : Nat) : Int) := by
        have h1 : h / top ≤ h := Nat.div_le_self _ _
        rw [← Int.natCast_ediv, IntKind.wrap_u64]; generalize h / top = q at *; omega
      have g2 : (h : Int).tmod (top : Int) = ((h % top : Nat) : Int) := by rw [Int.tmod_eq_emod_of_nonneg (by omega)]; rfl
      go_wp2_with fail
      go_quiet (fail)
      clear g1 g2
      have hz3 := kn_u3 (j := j) HVL.out HLT.out
      obtain ⟨vl, hev, hvl'⟩ := kn_v (j := j) (dig_wds V) HVL.out HNEXT.out HTOP.out
      rw [nv_dig] at hev
      obtain ⟨ul, heu, hul'⟩ := kn_u HUW.out hx0 (show us[j + k + 1]? = some x1 from hx1) (show us[j + k + 2]? = some x2 from hx2) hz3
      have heu2 : nv us = (h * W32 + x0) * W32 ^ (j + k) + ul := by rw [heu, HH.out]
      have hqs := kn_start hev heu2 hul' l0 htop0
      have hqw' := kn_qlt HLT.out
      have hhh := kn_h hev hvl' hnl heu2 (by rw [Nat.mul_assoc, ← Nat.pow_succ]; exact HLT.out)
      obtain ⟨Q, hQ⟩ : ∃ Q, Q = nv us / (V * W32 ^ j) := ⟨_, rfl⟩
      have hgreat : ∀ g r, g * top + r = h → r * W32 + x0 < g * next → Q < g := fun g r h1 h2 => by rw [hQ]; exact kn_great hev heu2 hul' h1 h2
      have hnear : ∀ g r, g * top + r = h → g < W32 → g * next ≤ r * W32 + x0 → (g - 1) * (V * W32 ^ j) ≤ nv us := fun g r h1 h2 h3 => kn_near hev heu2 hvl' h1 h2 htop0 h3
      rw [← hQ] at hqs hqw'
      have HGREAT := Lib.hid hgreat
      have HNEAR := Lib.hid hnear
      have HQQ := Lib.hid hQ
      have HHH := Lib.hid hhh
      have HZ3 := Lib.hid hz3
      have HQS := Lib.hid hqs
      have hqw2 : Q < 4294967296 := hqw'
      have HX2 := Lib.hid hx2
      have q0 : wo.cell? ⟨w2.heap.size, j + (k + 2) - 2, none⟩ = some (.int .u32 (x0 : Int)) := by rw [show j + (k + 2) - 2 = j + k by omega]; exact own_wc HOU.out hx0
      clear hgreat hnear hQ hhh hz3 hqs hev heu heu2 hvl' hul' hqw' hx1 hx2 hx0 q1 q2
      go_upto_block 2 with fail
      go_cut [20] (fun gv wx => ∃ g : Nat, gv = .int .u64 g ∧ g < 4294967296 ∧ Q ≤ g ∧ (g - 1) * (V * W32 ^ j) ≤ nv us ∧
        wx.ownsRow w2.heap.size 135 1 (.slice (some ⟨w2.heap.size, 0, none⟩) (k + l + 2) (k + l + 2)) (k + l + 2) (us.flatMap Wc) ∧ wx.ownsRow w5.heap.size 135 1 (.slice (some ⟨w5.heap.size, 0, none⟩) l l) l (qs.flatMap Wc) ∧ Below w2.heap.size w2 wx)
      case first =>
        go_wp2_with fail
        go_loopw [20, 21] (fun gv rv wx => ∃ g r : Nat, gv = .int .u64 g ∧ rv = .int .u64 r ∧ g * top + r = h ∧ r < 4294967296 ∧ Q ≤ g ∧ g ≤ h ∧
          wx.ownsRow w2.heap.size 135 1 (.slice (some ⟨w2.heap.size, 0, none⟩) (k + l + 2) (k + l + 2)) (k + l + 2) (us.flatMap Wc) ∧ wx.ownsRow w5.heap.size 135 1 (.slice (some ⟨w5.heap.size, 0, none⟩) l l) l (qs.flatMap Wc) ∧ Below w2.heap.size w2 wx ∧ wx.cell? ⟨w2.heap.size, j + (k + 2) - 2, none⟩ = some (.int .u32 (x0 : Int))) (fun gv _ _ => (intOf gv).toNat)
        case atStart => exact ⟨h / top, h % top, rfl, rfl, by have := Nat.div_add_mod h top; rw [Nat.mul_comm] at this; exact this, Nat.lt_trans (Nat.mod_lt _ htop0) htl, HQS.out, Nat.div_le_self _ _, own_drewN (own_drewN HOU.out _) _, own_drewN (own_drewN HOQ.out _) _, below_drewN (below_drewN HBW.out _) _, q0⟩
        case round =>
          obtain ⟨g, r, rfl, rfl, hgr, hr, hQg, hgh, hou, hoq, hbw, q0'⟩ := hrel
          have HOU1 := Lib.hid hou
          have HOQ1 := Lib.hid hoq
          have HBW1 := Lib.hid hbw
          have HGR := Lib.hid hgr
          clear hou hoq hbw hgr q0 HOU HOQ HBW
          have hor2 := or_low32 l0 hr
          obtain ⟨p, hp⟩ : ∃ p : Nat, p = r * 4294967296 + x0 := ⟨_, rfl⟩
          rw [← hp] at hor2
          have hpl : p < 18446744073709551616 := by omega
          have HP := Lib.hid hp
          clear hp
          have HOR := Lib.hid hor2
          by_cases hbig : 4294967295 < g
          · have hbig' : (4294967295 : Int) < (g : Int) := by omega
            have hQ' : Q ≤ g - 1 := by omega
            have hde := dec_eq (show 1 ≤ g by omega) HGR.out
            have HDE := Lib.hid hde
            clear hde
            by_cases hbrk : 4294967295 < r + top
            · have hbrk' : (4294967295 : Int) < (r : Int) + (top : Int) := by omega
              have hg' : g - 1 < 4294967296 := kn_brk HDE.out (by show 4294967296 ≤ r + top; omega) HHH.out
              have hn := HNEAR.out (g - 1) (r + top) HDE.out hg' (kn_ok hg' hnl (by show 4294967296 ≤ r + top; omega))
              have HN := Lib.hid hn
              clear hn
              go_wp2_with fail
              go_meet
              exact ⟨g - 1, u64_pred (by omega), hg', hQ', HN.out, HOU1.out, HOQ1.out, HBW1.out⟩
            · have hbrk' : ¬ (4294967295 : Int) < (r : Int) + (top : Int) := by omega
              go_wp2_with fail
              exact ⟨⟨g - 1, r + top, u64_pred (by omega), by go_num, HDE.out, by omega, hQ', by omega, HOU1.out, HOQ1.out, HBW1.out, q0'⟩, by simp [intOf]; omega⟩
          · have hg : g < 4294967296 := by omega
            have hbig' : ¬ (4294967295 : Int) < (g : Int) := by omega
            have hgn : g * next ≤ 18446744065119617025 := Nat.le_trans (Nat.mul_le_mul (show g ≤ 4294967295 by omega) (show next ≤ 4294967295 by omega)) (by decide)
            have hgn1 : (g : Int) * (next : Int) ≤ 18446744065119617025 := by rw [← Int.natCast_mul]; omega
            have hgn0 : 0 ≤ (g : Int) * (next : Int) := by rw [← Int.natCast_mul]; omega
            by_cases hlt : p < g * next
            · have hlt' : (p : Int) < (g : Int) * (next : Int) := by rw [← Int.natCast_mul]; omega
              have hQ' := HGREAT.out g r HGR.out (by have := HP.out; show r * 4294967296 + x0 < g * next; omega)
              have hde := dec_eq (show 1 ≤ g by omega) HGR.out
              have HDE := Lib.hid hde
              clear hde hlt hgn
              by_cases hbrk : 4294967295 < r + top
              · have hbrk' : (4294967295 : Int) < (r : Int) + (top : Int) := by omega
                have hn := HNEAR.out (g - 1) (r + top) HDE.out (by show g - 1 < 4294967296; omega) (kn_ok (by show g - 1 < 4294967296; omega) hnl (by show 4294967296 ≤ r + top; omega))
                have HN := Lib.hid hn
                clear hn
                go_wp2_with fail
                go_meet
                exact ⟨g - 1, u64_pred (by omega), by omega, by omega, HN.out, HOU1.out, HOQ1.out, HBW1.out⟩
              · have hbrk' : ¬ (4294967295 : Int) < (r : Int) + (top : Int) := by omega
                go_wp2_with fail
                exact ⟨⟨g - 1, r + top, u64_pred (by omega), by go_num, HDE.out, by omega, by omega, by omega, HOU1.out, HOQ1.out, HBW1.out, q0'⟩, by simp [intOf]; omega⟩
            · have hlt' : ¬ (p : Int) < (g : Int) * (next : Int) := by rw [← Int.natCast_mul]; omega
              have hn := HNEAR.out g r HGR.out hg (by have := HP.out; show g * next ≤ r * 4294967296 + x0; omega)
              have HN := Lib.hid hn
              clear hn hlt hgn
              go_wp2_with fail
              go_meet
              exact ⟨g, rfl, hg, hQg, HN.out, HOU1.out, HOQ1.out, HBW1.out⟩
      case rest =>
        obtain ⟨g, rfl, hg, hQg, hnr, hou, hoq, hbw⟩ := hcut
        have HOU' := Lib.hid hou
        have HOQ' := Lib.hid hoq
        have HBW' := Lib.hid hbw
        have HNR := Lib.hid hnr
        clear hou hoq hbw hnr HOU HOQ HBW q0
        go_wp2_with fail
        go_loopw [22, 23, 24] (fun cv dv iv wx => ∃ (i c d : Nat) (vs : List Nat), i ≤ k + 2 ∧ iv = .int .i64 i ∧ cv = .int .u64 c ∧ dv = .int .u64 d ∧ c < 4294967296 ∧ d < 2 ∧ vs.length = k + l + 2 ∧ Wds vs ∧ nv vs + W32 ^ j * (g * nv ((dig V).take i)) = nv us + W32 ^ (j + i) * (c + d) ∧ ZeroFrom vs (j + k + 3) ∧ vs[j + k + 2]? = some x2 ∧
          wx.ownsRow w2.heap.size 135 1 (.slice (some ⟨w2.heap.size, 0, none⟩) (k + l + 2) (k + l + 2)) (k + l + 2) (vs.flatMap Wc) ∧ wx.ownsRow w5.heap.size 135 1 (.slice (some ⟨w5.heap.size, 0, none⟩) l l) l (qs.flatMap Wc) ∧ Below w2.heap.size w2 wx) (fun _ _ iv _ => k + 2 - (intOf iv).toNat)
        case atStart => exact ⟨0, 0, 0, us, Nat.zero_le _, rfl, rfl, rfl, by decide, by decide, hul, HUW.out, by simp [nv], HZ3.out, HX2.out, HOU'.out, HOQ'.out, HBW'.out⟩
        case round =>
          obtain ⟨i, c, d', vs, hi, rfl, rfl, rfl, hc, hd, hvl, hvw, hI, hzf, hx2', hou, hoq, hbw⟩ := hrel
          have HOU1 := Lib.hid hou
          have HOQ1 := Lib.hid hoq
          have HBW1 := Lib.hid hbw
          have HVW := Lib.hid hvw
          have HI := Lib.hid hI
          have HZF := Lib.hid hzf
          have HX2' := Lib.hid hx2'
          clear hou hoq hbw hvw hI hzf hx2' HOU' HOQ' HBW'
          by_cases hlt : i < k + 2
          · have hlt' : (i : Int) < (k : Int) + 2 := by omega
            obtain ⟨vi, hvi⟩ := get_some HVL.out hlt
            obtain ⟨b9, o9, e9, _, hc9⟩ := HRV6.out.elem Wc.clen hvi (by omega)
            cases e9
            have qv : wr.cell? ⟨bv, ov + i, none⟩ = some (.int .u32 (vi : Int)) := by have h := hc9 0 _ rfl; rw [Nat.mul_one, Nat.add_zero] at h; exact HCV.out _ _ _ HBW1.out h
            have hvil := hw0 (dig_wds V) hvi
            obtain ⟨o, ho⟩ := get_some hvl (show j + i < k + l + 2 by omega)
            have hol := hw0 HVW.out ho
            have qo : wr.cell? ⟨w2.heap.size, i + j, none⟩ = some (.int .u32 (o : Int)) := by rw [Nat.add_comm]; exact own_wc HOU1.out ho
            have hfo := HOU1.out.frozenAt (i + j)
            have hgv : g * vi ≤ 18446744065119617025 := Nat.le_trans (Nat.mul_le_mul (show g ≤ 4294967295 by omega) (show vi ≤ 4294967295 by omega)) (by decide)
            have hgv1 : (g : Int) * (vi : Int) ≤ 18446744065119617025 := by rw [← Int.natCast_mul]; omega
            have hgv0 : 0 ≤ (g : Int) * (vi : Int) := by rw [← Int.natCast_mul]; omega
            have HVI := Lib.hid hvi
            have HO := Lib.hid ho
            clear hvi ho hc9
            go_wp2_with fail
            have ec : ((c : Int) + g * vi) % 4294967296 = (((c + g * vi) % 4294967296 : Nat) : Int) := rfl
            obtain ⟨d2, sv, eb1, eb2, hd2, hs2, hxs⟩ := borrow2 hol hd (Nat.mod_lt (c + g * vi) (show 0 < 4294967296 by decide))
            have hcp : c + g * vi < 18446744073709551616 := by omega
            rw [ec, eb1, eb2, Nat.add_comm i j]
            have ho1 := own_set_wc HOU1.out (i := j + i) (by omega) sv
            refine ⟨⟨i + 1, (c + g * vi) / W32, d2, vs.set (j + i) sv, by omega, by go_num, rfl, rfl, ?_, hd2, by simp [hvl], wds_set HVW.out hs2, ms_list HO.out HI.out HVI.out rfl hxs, HZF.out.set (by omega), ?_, ho1.1, HOQ1.out.kept ho1.2 (.inr (by simp only [Value.ownBlock]; intro e; injection e with e; omega)), HBW1.out.grown ho1.2 (Nat.le_of_lt (HOU1.out.lt w2.heap.size rfl).2) (fun g hg => by injection hg with hg; omega)⟩, by simp [intOf]; omega⟩
            · show (c + g * vi) / 4294967296 < 4294967296; omega
            · rw [List.getElem?_set_ne (by omega)]; exact HX2'.out
          · obtain rfl : i = k + 2 := by omega
            have hI' := HI.out
            rw [List.take_of_length_le (by rw [HVL.out]; exact Nat.le_refl _), nv_dig] at hI'
            have hx2c : vs[j + (k + 2)]? = some x2 := HX2'.out
            have ho2 : wr.cell? ⟨w2.heap.size, j + (k + 2), none⟩ = some (.int .u32 (x2 : Int)) := own_wc HOU1.out hx2c
            have hf2 := HOU1.out.frozenAt (j + (k + 2))
            obtain ⟨qj, hqj⟩ := get_some hql (show j < l by omega)
            have hqj0 := HZT.out j qj (by omega) hqj
            subst hqj0
            have hq2 := own_wc HOQ1.out hqj
            have hq3 := HOQ1.out.frozenAt j
            have hne : ¬ w5.heap.size = w2.heap.size := by omega
            have hne' : ¬ w2.heap.size = w5.heap.size := by omega
            obtain ⟨ta, tb⟩ := topw l2 hc hd
            have HI' := Lib.hid hI'
            have HX2c := Lib.hid hx2c
            have HQJ := Lib.hid hqj
            clear hI' hx2c hqj HX2'
            by_cases hle : c + d' ≤ x2
            · have ht := ta hle
              obtain ⟨hr1, hr2⟩ := kn_done_a HI'.out HX2c.out hle (by rw [← HQQ.out]; exact hQg) hV0
              have HR1b := Lib.hid hr1
              have HR2b := Lib.hid hr2
              obtain ⟨y', hy⟩ : ∃ y', y' = x2 - (c + d') := ⟨_, rfl⟩
              rw [← hy] at ht HR1b HR2b
              have hyl : y' < 4294967296 := by omega
              have htz : ((y' : Int) / 9223372036854775808 != 0) = false := by simp; omega
              clear ta tb hle hy hr1 hr2
              go_wp2_with fail
              have ho1 := own_set_wc HOU1.out (i := j + (k + 2)) (by omega) y'
              have hq1 := HOQ1.out.kept ho1.2 (.inr (by simp only [Value.ownBlock]; intro e; injection e with e; omega))
              have hq1' := own_set_wc hq1 (i := j) (by omega) g
              have ho1' := ho1.1.kept hq1'.2 (.inr (by simp only [Value.ownBlock]; intro e; injection e with e; omega))
              have hB' := (HBW1.out.grown ho1.2 (Nat.le_of_lt (HOU1.out.lt w2.heap.size rfl).2) (fun g hg => by injection hg with hg; omega)).grown hq1'.2 (Nat.le_of_lt (ho1.1.lt w2.heap.size rfl).2) (fun g hg => by injection hg with hg; omega)
              have hgw : (g : Int) % 4294967296 = (g : Int) := by omega
              try rw [hgw]
              exact ⟨⟨j, vs.set (j + (k + 2)) y', qs.set j g, by omega, ⟨_, rfl, rfl⟩, by simp [hvl], wds_set HVW.out hyl, by simp [hql], wds_set HQW.out hg, kn_q HSUM.out HR1b.out (nv_set HQJ.out), HR2b.out, (HZT.out.mono (by omega)).set (Nat.le_refl _), ho1', hq1'.1, hB'⟩, by simp [intOf]⟩
            · obtain ⟨tb1, tb2, tb3, tb4⟩ := tb (by omega)
              have hR := kn_done_b HI'.out HX2c.out tb3
              obtain ⟨y1, hy1⟩ : ∃ y1, y1 = x2 + W32 - (c + d') := ⟨_, rfl⟩
              rw [← hy1] at tb2 tb4 hR
              have hzz := (ZeroFrom.set (v := y1) HZF.out (show j + (k + 2) < j + k + 3 by omega))
              have hR' : nv (vs.set (j + (k + 2)) y1) < W32 ^ (j + (k + 2) + 1) := by
                rw [hzz.val]
                exact nv_take_lt (wds_set HVW.out tb4) _
              have hg1 : 1 ≤ g := by
                rcases Nat.eq_zero_or_pos g with e | e
                · subst e
                  rw [Nat.zero_mul, Nat.mul_zero, Nat.add_zero] at hR
                  omega
                · exact e
              have HR' := Lib.hid hR'
              have HRR := Lib.hid hR
              have HZZ := Lib.hid hzz
              have hy1l : y1 < 4294967296 := tb4
              have ho1 := own_set_wc HOU1.out (i := j + (k + 2)) (by omega) y1
              have HO1u := Lib.hid ho1.1
              have HO1q := Lib.hid (HOQ1.out.kept ho1.2 (.inr (by simp only [Value.ownBlock]; intro e; injection e with e; omega)))
              have HO1b := Lib.hid (HBW1.out.grown ho1.2 (Nat.le_of_lt (HOU1.out.lt w2.heap.size rfl).2) (fun g hg => by injection hg with hg; omega))
              have tb5 : (IntKind.u64.wrap (IntKind.u64.wrap ((x2 : Int) - c) - d') / 9223372036854775808 != 0) = true := by rw [tb1]; decide
              clear ta tb hle hR hR' hzz ho1 tb3 tb4 hy1 hq2 hq3 tb1
              go_wp2_with fail
              clear ho2 hf2 tb5 tb2
              go_loopw [22, 27] (fun cv iv wx => ∃ (i c : Nat) (ts : List Nat), i ≤ k + 2 ∧ iv = .int .i64 i ∧ cv = .int .u64 c ∧ c < 2 ∧ ts.length = k + l + 2 ∧ Wds ts ∧ nv ts + W32 ^ (j + i) * c = nv (vs.set (j + (k + 2)) y1) + W32 ^ j * nv ((dig V).take i) ∧ ZeroFrom ts (j + k + 3) ∧ ts[j + (k + 2)]? = some y1 ∧
                wx.ownsRow w2.heap.size 135 1 (.slice (some ⟨w2.heap.size, 0, none⟩) (k + l + 2) (k + l + 2)) (k + l + 2) (ts.flatMap Wc) ∧ wx.ownsRow w5.heap.size 135 1 (.slice (some ⟨w5.heap.size, 0, none⟩) l l) l (qs.flatMap Wc) ∧ Below w2.heap.size w2 wx) (fun _ iv _ => k + 2 - (intOf iv).toNat)
              case atStart => exact ⟨0, 0, vs.set (j + (k + 2)) y1, Nat.zero_le _, rfl, rfl, by decide, by simp [hvl], wds_set HVW.out hy1l, by simp [nv], HZZ.out, by rw [List.getElem?_set_self (by omega)], HO1u.out, HO1q.out, HO1b.out⟩
              case round =>
                obtain ⟨i, c2, ts, hi, rfl, rfl, hc2, hal, haw, hI2, hzf2, hy2, hou2, hoq2, hbw2⟩ := hrel
                have HOU2 := Lib.hid hou2
                have HOQ2 := Lib.hid hoq2
                have HBW2 := Lib.hid hbw2
                have HAW := Lib.hid haw
                have HI2 := Lib.hid hI2
                have HZF2 := Lib.hid hzf2
                have HY2 := Lib.hid hy2
                clear hou2 hoq2 hbw2 haw hI2 hzf2 hy2 HO1u HO1q HO1b HOU1 HOQ1 HBW1
                by_cases hlt : i < k + 2
                · have hlt' : (i : Int) < (k : Int) + 2 := by omega
                  obtain ⟨vi, hvi⟩ := get_some HVL.out hlt
                  obtain ⟨b9, o9, e9, _, hc9⟩ := HRV6.out.elem Wc.clen hvi (by omega)
                  cases e9
                  have qv : wr.cell? ⟨bv, ov + i, none⟩ = some (.int .u32 (vi : Int)) := by have h := hc9 0 _ rfl; rw [Nat.mul_one, Nat.add_zero] at h; exact HCV.out _ _ _ HBW2.out h
                  have hvil := hw0 (dig_wds V) hvi
                  obtain ⟨o, ho⟩ := get_some hal (show j + i < k + l + 2 by omega)
                  have hol := hw0 HAW.out ho
                  have qo : wr.cell? ⟨w2.heap.size, i + j, none⟩ = some (.int .u32 (o : Int)) := by rw [Nat.add_comm]; exact own_wc HOU2.out ho
                  have hfo := HOU2.out.frozenAt (i + j)
                  have g1 : IntKind.i64.wrap ((i : Int) + j) = (i : Int) + j := IntWalk.i64_in _ (by omega)
                  have g2 : 0 ≤ (i : Int) + j := by omega
                  have g3 : ((i : Int) + j).toNat = i + j := by omega
                  have g4 : (0 : Int) ≤ (i : Int) := by omega
                  have g5 : IntKind.u64.wrap ((o : Int) + vi) = (o : Int) + vi := by rw [IntKind.wrap_u64]; omega
                  have g6 : IntKind.u64.wrap ((c2 : Int) + ((o : Int) + vi)) = (c2 : Int) + ((o : Int) + vi) := by rw [IntKind.wrap_u64]; omega
                  have HVI := Lib.hid hvi
                  have HO := Lib.hid ho
                  clear hvi ho hc9
                  go_wp2_with fail
                  go_quiet (fail)
                  clear g1 g2 g3 g4 g5 g6
                  go_wp2_with fail
                  have ho1 := own_set_wc (own_drewN HOU2.out nq) (i := j + i) (by omega) ((c2 + (o + vi)) % W32)
                  rw [Nat.add_comm i j]
                  refine ⟨⟨i + 1, (c2 + (o + vi)) / W32, ts.set (j + i) ((c2 + (o + vi)) % W32), by omega, by go_num, rfl, ?_, by simp [hal], wds_set HAW.out (Nat.mod_lt _ (by decide)), back_step HO.out HI2.out HVI.out rfl, HZF2.out.set (by omega), ?_, ho1.1, (own_drewN HOQ2.out nq).kept ho1.2 (.inr (by simp only [Value.ownBlock]; intro e; injection e with e; omega)), (below_drewN HBW2.out nq).grown ho1.2 (Nat.le_of_lt (HOU2.out.lt w2.heap.size rfl).2) (fun g hg => by injection hg with hg; omega)⟩, by simp [intOf]; omega⟩
                  · show (c2 + (o + vi)) / 4294967296 < 2; omega
                  · rw [List.getElem?_set_ne (by omega)]; exact HY2.out
                · obtain rfl : i = k + 2 := by omega
                  have hI3 := HI2.out
                  rw [List.take_of_length_le (by rw [HVL.out]; exact Nat.le_refl _), nv_dig] at hI3
                  obtain ⟨hr1, hr2⟩ := kn_back HRR.out HR'.out hI3 HY2.out hc2 hy1l HNR.out hg1 HZF2.out HAW.out
                  have HR1b := Lib.hid hr1
                  have HR2b := Lib.hid hr2
                  have hu2 := own_wc HOU2.out HY2.out
                  have hf2 := HOU2.out.frozenAt (j + (k + 2))
                  have hq2 := own_wc HOQ2.out HQJ.out
                  have hq3 := HOQ2.out.frozenAt j
                  clear hI3 hr1 hr2
                  go_wp2_with fail
                  have hg3 : ((g : Int) - 1) = ((g - 1 : Nat) : Int) := by omega
                  have hyc : ((y1 : Int) + c2) % 4294967296 = (((y1 + c2) % W32 : Nat) : Int) := rfl
                  rw [hg3, hyc]
                  have ho1 := own_set_wc HOU2.out (i := j + (k + 2)) (by omega) ((y1 + c2) % W32)
                  have hq1 := HOQ2.out.kept ho1.2 (.inr (by simp only [Value.ownBlock]; intro e; injection e with e; omega))
                  have hq1' := own_set_wc hq1 (i := j) (by omega) (g - 1)
                  have ho1' := ho1.1.kept hq1'.2 (.inr (by simp only [Value.ownBlock]; intro e; injection e with e; omega))
                  have hB' := (HBW2.out.grown ho1.2 (Nat.le_of_lt (HOU2.out.lt w2.heap.size rfl).2) (fun g hg => by injection hg with hg; omega)).grown hq1'.2 (Nat.le_of_lt (ho1.1.lt w2.heap.size rfl).2) (fun g hg => by injection hg with hg; omega)
                  exact ⟨⟨j, ts.set (j + (k + 2)) ((y1 + c2) % W32), qs.set j (g - 1), by omega, ⟨_, rfl, rfl⟩, by simp [hal], wds_set HAW.out (Nat.mod_lt _ (by decide)), by simp [hql], wds_set HQW.out (by show g - 1 < 4294967296; omega), kn_q HSUM.out HR1b.out (nv_set HQJ.out), HR2b.out, (HZT.out.mono (by omega)).set (Nat.le_refl _), ho1', hq1'.1, hB'⟩, by simp [intOf]⟩

end Go.Proofs.Ytfepmbpcdfdlhaa

/-
  A region that draws its order and ends in a call that writes, for which all loads wait: the loads are taken first; what they read need stay only till that call.
-/
namespace Go.Proofs.Ytfepmbpcdfdlhaa
open Go.RowKit Go.Sort

section
variable {P : Program} {ops : Array Oper} {md : Region.Mode} {Q : Exit → Act → World → Prop} {S : World → Prop} {c : Nat}

def wpAnyG (P : Program) (md : Region.Mode) (ops : Array Oper) (Q : Exit → Act → World → Prop) (S : World → Prop) (c : Nat) : Nat → Array Bool → Act → World → Prop
  | 0, listed, a, w => Region.ready md ops listed = [] ∧ Q .normal a w
  | fuel + 1, listed, a, w =>
    (Region.ready md ops listed = [] → Q .normal a w) ∧
    ∀ i ∈ Region.ready md ops listed, wpOp P ops Q i (fun a' w' => (S w' ∨ (listed.setIfInBounds i true).getD c false = true) ∧ wpAnyG P md ops Q S c fuel (listed.setIfInBounds i true) a' w') a w

theorem wpAny_of_G : ∀ (fuel : Nat) (listed : Array Bool) (a : Act) (w : World), wpAnyG P md ops Q S c fuel listed a w → wpAny P md ops Q fuel listed a w
  | 0, _, _, _, h => h
  | fuel + 1, _, _, _, h => ⟨h.1, fun i hi => wpOp_mono (fun a' w' h' => wpAny_of_G fuel _ a' w' h'.2) (h.2 i hi)⟩

theorem getDf_set_ne {listed : Array Bool} {i j : Nat} (h : i ≠ j) : (listed.setIfInBounds i true).getD j false = listed.getD j false := by
  simp only [Array.getD_eq_getD_getElem?]
  rw [Array.getElem?_setIfInBounds_ne h]
/-- who came up has all that it waits for behind it -/
def Closed (md : Region.Mode) (ops : Array Oper) (listed : Array Bool) : Prop :=
  ∀ j oj, ops[j]? = some oj → listed.getD j false = true → ∀ e ∈ oj.after, Region.binds md e = true → listed.getD e.on false = true
theorem Closed.set {listed : Array Bool} {i : Nat} (h : Closed md ops listed) (hi : i ∈ Region.ready md ops listed) : Closed md ops (listed.setIfInBounds i true) := by
  intro j oj hj hl e he hb
  by_cases hji : i = j
  · subst hji
    obtain ⟨_, o, ho, hall⟩ := mem_ready.1 hi
    obtain rfl : o = oj := Option.some.inj (ho.symm.trans hj)
    exact getD_set_true (hall e he hb)
  · rw [getDf_set_ne hji] at hl
    exact getD_set_true (h j oj hj hl e he hb)
def closedG (md : Region.Mode) (ops : Array Oper) (listed : Array Bool) : Bool :=
  (List.range ops.size).all fun j => !listed.getD j false || match ops[j]? with
    | some oj => oj.after.all fun e => !Region.binds md e || listed.getD e.on false
    | none => true
theorem closedG_spec {listed : Array Bool} (h : closedG md ops listed = true) : Closed md ops listed := by
  intro j oj hj hl e he hb
  have h1 := List.all_eq_true.1 h j (List.mem_range.2 (Array.getElem?_eq_some_iff.1 hj).1)
  rw [hl, hj] at h1
  simp only [Bool.not_true, Bool.false_or, Array.all_eq_true'] at h1
  have h2 := h1 e he
  rw [hb] at h2
  simpa using h2
/-- c waits for i, through others perhaps -/
def reachG (md : Region.Mode) (ops : Array Oper) : Nat → Nat → Nat → Bool
  | 0, _, _ => false
  | f + 1, c, i => Region.waitsFor md ops c i || (List.range ops.size).any fun k => Region.waitsFor md ops c k && reachG md ops f k i
theorem reachG_spec {listed : Array Bool} (hc : Closed md ops listed) {i : Nat} (hi : listed.getD i false = false) : ∀ (f c : Nat), reachG md ops f c i = true → (∃ k, Region.waitsFor md ops c k = true ∧ listed.getD k false = false)
  | 0, _, h => by cases h
  | f + 1, c, h => by
    simp only [reachG, Bool.or_eq_true, List.any_eq_true, Bool.and_eq_true] at h
    rcases h with h | ⟨k, _, h1, h2⟩
    · exact ⟨i, h, hi⟩
    · obtain ⟨m, hm, hml⟩ := reachG_spec hc hi f k h2
      refine ⟨k, h1, ?_⟩
      cases hk : listed.getD k false with
      | false => rfl
      | true =>
        exfalso
        obtain ⟨ok, hok, e, he, hb, hon⟩ := Region.waitsFor_spec hm
        have h3 := hc k ok hok hk e he hb
        rw [hon, hml] at h3
        cases h3

theorem wpAnyG_first {i : Nat} {oi : Oper} {v : Value} (hi : ops[i]? = some oi) (hsel : ∀ (j : Nat) (o : Oper) cs b, ops[j]? = some o → o.op ≠ .select cs b)
    (hQ : ∀ c a w, Q (.panic c) (a.put oi.dst v) w → Q (.panic c) a w) (f : Nat) (hreach : reachG md ops f c i = true) :
    ∀ (fuel : Nat) (listed : Array Bool) (a : Act) (w : World), Closed md ops listed →
      (∀ j oj, ops[j]? = some oj → j ≠ i → listed.getD j true = false → (∀ e ∈ oj.after, Region.binds md e = true → e.on ≠ i) → oi.apart ops oj = true) →
      i ∈ Region.ready md ops listed → YieldsIf P ops S oi v a → S w →
      wpAnyG P md ops Q S c fuel (listed.setIfInBounds i true) (a.put oi.dst v) w → wpAnyG P md ops Q S c (fuel + 1) listed a w := by
  intro fuel
  induction fuel with
  | zero =>
    intro listed a w _ _ hr hy hS H
    refine ⟨fun h => (by rw [h] at hr; cases hr), fun j hj => ?_⟩
    by_cases hji : j = i
    · subst hji; exact hy.wpOp hi hS ⟨.inl hS, H⟩
    · have := ready_mono hj hji
      rw [H.1] at this
      cases this
  | succ fuel ih =>
    intro listed a w hcl hfree hr hy hS H
    refine ⟨fun h => (by rw [h] at hr; cases hr), fun j hj => ?_⟩
    by_cases hji : j = i
    · subst hji; exact hy.wpOp hi hS ⟨.inl hS, H⟩
    · have h1 := H.2 j (ready_mono hj hji)
      have hun := (mem_ready.1 hr).1
      have hunf : listed.getD i false = false := by rw [getD_both hun]
      obtain ⟨hjun, oj, hoj, hall⟩ := mem_ready.1 hj
      have hnot : ∀ e ∈ oj.after, Region.binds md e = true → e.on ≠ i := fun e he hb heq => by
        have h2 := hall e he hb
        rw [heq, getD_both hun] at h2
        cases h2
      have hcj : ((listed.setIfInBounds i true).setIfInBounds j true).getD c false ≠ true := by
        intro hl
        obtain ⟨k, hk, hkl⟩ := reachG_spec hcl hunf f c hreach
        obtain ⟨oc, hoc, e, he, hb, hon⟩ := Region.waitsFor_spec hk
        by_cases hjc : j = c
        · subst hjc
          obtain rfl : oc = oj := Option.some.inj (hoc.symm.trans hoj)
          have h3 := hall e he hb
          rw [hon, hkl] at h3
          cases h3
        · by_cases hic : i = c
          · subst hic
            obtain ⟨_, oi', hoi', hall'⟩ := mem_ready.1 hr
            obtain rfl : oc = oi' := Option.some.inj (hoc.symm.trans hoi')
            have h3 := hall' e he hb
            rw [hon, hkl] at h3
            cases h3
          · rw [getDf_set_ne hjc, getDf_set_ne hic] at hl
            have h3 := hcl c oc hoc hl e he hb
            rw [hon, hkl] at h3
            cases h3
      have h2 := wpOp_putIf hoj (hfree j oj hoj hji hjun hnot) (fun cs b => hsel i oi cs b hi) (fun cs b => hsel j oj cs b hoj) hQ hy h1
      have hfree' : ∀ k ok, ops[k]? = some ok → k ≠ i → (listed.setIfInBounds j true).getD k true = false →
          (∀ e ∈ ok.after, Region.binds md e = true → e.on ≠ i) → oi.apart ops ok = true := fun k ok hk hki hu hno => by
        refine hfree k ok hk hki ?_ hno
        by_cases hjk : j = k
        · subst hjk; exact hjun
        · rw [getD_set_ne true hjk] at hu; exact hu
      refine wpOp_mono (fun a' w' h3 => ?_) h2
      have hS' : S w' := by
        rcases h3.2.1 with h | h
        · exact h
        · exact absurd h hcj
      refine ⟨.inl hS', ih (listed.setIfInBounds j true) a' w' (hcl.set hj) hfree' (ready_mono hr (Ne.symm hji)) h3.1 hS' ?_⟩
      rw [Array.setIfInBounds_comm _ _ hji]
      exact h3.2.2

theorem wpAnyG_take {i : Nat} {oi : Oper} {v : Value} {fuel : Nat} {listed : Array Bool} {a : Act} {w : World} (hi : ops[i]? = some oi)
    (hs : Region.noSelect ops = true) (hf : Region.free md ops listed i = true) (hr : (Region.ready md ops listed).contains i = true) (hcl : closedG md ops listed = true) (f : Nat) (hre : reachG md ops f c i = true)
    (hQ : ∀ c a w, Q (.panic c) (a.put oi.dst v) w → Q (.panic c) a w) (hy : YieldsIf P ops S oi v a) (hS : S w)
    (h : wpAnyG P md ops Q S c fuel (listed.setIfInBounds i true) (a.put oi.dst v) w) : wpAnyG P md ops Q S c (fuel + 1) listed a w :=
  wpAnyG_first hi (Region.noSelect_spec hs) hQ f hre fuel listed a w (closedG_spec hcl) (Region.free_spec hi hf) (by simpa using hr) hy hS h
theorem wpAnyG_one {i : Nat} {o : Oper} {fuel : Nat} {listed : Array Bool} {a : Act} {w : World} (hr : Region.ready md ops listed = [i]) (ho : ops[i]? = some o)
    (h : ∀ K' : Act → World → Prop, Shut (∀ a w, (S w ∨ (listed.setIfInBounds i true).getD c false = true) → ((S w ∨ (listed.setIfInBounds i true).getD c false = true) → wpAnyG P md ops Q S c fuel (listed.setIfInBounds i true) a w) → K' a w) → if Region.wanted o (yielded ops a.tmps) = true then Oper.wp P o a w K' Q else K' (a.put o.dst undef) w) :
    wpAnyG P md ops Q S c (fuel + 1) listed a w := by
  refine ⟨fun h0 => absurd (hr ▸ h0) (by simp), fun j hj => ?_⟩
  rw [hr] at hj
  rcases List.mem_cons.1 hj with rfl | hj
  · exact wpOp_step ho (fun K' hK => h K' (fun a w hS hW => hK a w ⟨hS, hW hS⟩))
  · cases hj
theorem tkG {i : Nat} {oi : Oper} {v : Value} {fuel : Nat} {listed : Array Bool} {a : Act} {w : World} (hi : ops[i]? = some oi)
    (hb : (Region.noSelect ops && Region.free md ops listed i && (Region.ready md ops listed).contains i && closedG md ops listed && reachG md ops 8 c i) = true) (hy : YieldsIf P ops S oi v a) (hS : S w)
    (h : wpAnyG P md ops Q S c fuel (listed.setIfInBounds i true) (a.put oi.dst v) w) (hQ : ∀ c a w, Q (.panic c) (a.put oi.dst v) w → Q (.panic c) a w := by exact fun _ _ _ h => h) : wpAnyG P md ops Q S c (fuel + 1) listed a w := by
  simp only [Bool.and_eq_true] at hb
  exact wpAnyG_take hi hb.1.1.1.1 hb.1.1.1.2 hb.1.1.2 hb.1.2 8 hb.2 hQ hy hS h
theorem wpAnyG_done {listed : Array Bool} {a : Act} {w : World} (hr : Region.ready md ops listed = []) (h : Q .normal a w) :
    ∀ fuel, wpAnyG P md ops Q S c fuel listed a w
  | 0 => ⟨hr, h⟩
  | _ + 1 => ⟨fun _ => h, by rw [hr]; simp⟩
theorem wp_region_G {id : Nat} {a : Act} {w : World} (c : Nat) (hm : P.follows .mixedOrders = true) (hS : S w.drew)
    (h : S w.drew → wpAnyG P .any ops Q S c ops.size (Array.replicate ops.size false) a w.drew) : (Code.region id ops true).wp P Q a w :=
  wp_region_any hm (wpAny_of_G _ _ _ _ (h hS))
end

end Go.Proofs.Ytfepmbpcdfdlhaa
