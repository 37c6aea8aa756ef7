import Derived.Test.YtfepmbpcdfdlhaaX01
set_option linter.unusedSimpArgs false
set_option linter.unusedVariables false
/- sub: the walk -/
namespace Go.Proofs.Ytfepmbpcdfdlhaa
open Go.RowKit Go.Sort

theorem sub_step {xs : List Nat} {k q s x y q' : Nat} {X Y : Nat} (hl : k < xs.length) (h : X + W32 ^ k * q = nv (xs.take k) + Y) (hp : x + W32 * q' = s + q + y) :
    (X + W32 ^ k * x) + W32 ^ (k + 1) * q' = nv ((xs.set k s).take (k + 1)) + (Y + W32 ^ k * y) := by
  rw [nv_set_take hl, Nat.pow_succ, Nat.mul_assoc]
  have h1 : W32 ^ k * x + W32 ^ k * (W32 * q') = W32 ^ k * s + W32 ^ k * q + W32 ^ k * y := by rw [← Nat.mul_add, hp, Nat.mul_add, Nat.mul_add]
  omega

theorem borrow {x q y : Nat} (hx : x < 4294967296) (hq : q < 2) (hy : y < 4294967296) : ∃ q' s : Nat, IntKind.u64.wrap (IntKind.u64.wrap ((x : Int) - q) - y) / 9223372036854775808 = (q' : Int) ∧ IntKind.u64.wrap (IntKind.u64.wrap ((x : Int) - q) - y) % 4294967296 = (s : Int) ∧ q' < 2 ∧ s < W32 ∧ x + W32 * q' = s + q + y := by
  have e : IntKind.u64.wrap (IntKind.u64.wrap ((x : Int) - q) - y) = ((x : Int) - q - y) % 18446744073709551616 := by
    rw [IntKind.wrap_u64, IntKind.wrap_u64]; omega
  rw [e]
  show ∃ q' s : Nat, _ ∧ _ ∧ q' < 2 ∧ s < 4294967296 ∧ x + 4294967296 * q' = s + q + y
  by_cases h : q + y ≤ x
  · exact ⟨0, x - q - y, by omega, by omega, by omega, by omega, by omega⟩
  · exact ⟨1, x + 4294967296 - q - y, by omega, by omega, by omega, by omega, by omega⟩
theorem borrow0 {x q : Nat} (hx : x < 4294967296) (hq : q < 2) : ∃ q' s : Nat, IntKind.u64.wrap ((x : Int) - q) / 9223372036854775808 = (q' : Int) ∧ IntKind.u64.wrap ((x : Int) - q) % 4294967296 = (s : Int) ∧ q' < 2 ∧ s < W32 ∧ x + W32 * q' = s + q + 0 := by
  have h := borrow hx hq (y := 0) (by omega)
  have e : IntKind.u64.wrap (IntKind.u64.wrap ((x : Int) - q) - (0 : Nat)) = IntKind.u64.wrap ((x : Int) - q) := by
    rw [IntKind.wrap_u64, IntKind.wrap_u64]; omega
  rw [e] at h
  exact h

theorem sub_any (A B : Option Addr) (n m c d : Nat) (a b : List Nat) (S S' : Nat → Prop) (w : World) (hx : RdE Wc 1 w S A n a) (hy : RdE Wc 1 w S' B m b) (ha : Wds a) (hb : Wds b) (hS : ∀ b, S b → b < w.heap.size) (hS' : ∀ b, S' b → b < w.heap.size)
    (hn : n ≤ 100000000000) (hm : m ≤ n) (hle : nv b ≤ nv a) :
    Calls Try.prog 110 #[.slice A n c, .slice B m d] w fun e w' => ∃ A' c', e = .returned (.slice A' (dig (nv a - nv b)).length c') ∧ (dig (nv a - nv b)).length ≤ c' ∧ RdE Wc 1 w' (fun b => w.heap.size ≤ b ∧ b < w'.heap.size) A' (dig (nv a - nv b)).length (dig (nv a - nv b)) ∧ Below w.heap.size w w' := by
  obtain ⟨i0, hi0, hz0, hz1, hz2⟩ := info_parts' info_u32
  have HX := Lib.hid hx
  have HY := Lib.hid hy
  have HA := Lib.hid ha
  have HB := Lib.hid hb
  have HS := Lib.hid hS
  have HS' := Lib.hid hS'
  have HLE := Lib.hid hle
  clear hx hy ha hb hS hS' hle
  go_enter Try.func110, Try.ntmps110
  go_wp2_with (at_make; go_must (refine wpList_make_full _ rfl _ _ _ rfl w.heap.size 135 i0 _ 1 Try.underlying78 hi0 hz0 hz1 .i64 .i64 _ _ n rfl rfl (by omega) (by omega) (by rw [hz2]; omega) (by simp only [maxLen]; omega) (Nat.le_refl _) ?_); intro w1 hown1 hg1)
  have hinv := hown1
  rw [made_u32] at hinv
  have HI := Lib.hid hinv
  have HB1 := Lib.hid (below_of_grown hg1 (fun g hg => by cases hg))
  clear hown1 hg1 hinv
  go_loopw [6, 7] (fun cv i wr => ∃ (k q : Nat) (xs : List Nat), k ≤ n ∧ cv = .int .u64 q ∧ i = .int .i64 k ∧ q < 2 ∧ xs.length = n ∧ Wds xs ∧ nv (a.take k) + W32 ^ k * q = nv (xs.take k) + nv (b.take k) ∧ wr.ownsRow w.heap.size 135 1 (.slice (some ⟨w.heap.size, 0, none⟩) n n) n (xs.flatMap Wc) ∧ Below w.heap.size w wr) (fun _ i _ => n - (intOf i).toNat)
  case atStart => exact ⟨0, 0, List.replicate n 0, Nat.zero_le _, rfl, rfl, by decide, by simp, fun x hx => by rw [(List.mem_replicate.1 hx).2]; decide, by simp [nv], HI.out, HB1.out⟩
  case round =>
    obtain ⟨k, q, xs, hk, rfl, rfl, hq, hxl, hxw, hsum, hown, hbw⟩ := hrel
    by_cases hlt : k < n
    · obtain ⟨x, hx⟩ := get_some HX.out.num hlt
      obtain ⟨b1, o1, rfl, hSb1, hc⟩ := HX.out.elem Wc.clen hx (by omega)
      have q1 : wr.cell? ⟨b1, o1 + k, none⟩ = some (.int .u32 (x : Int)) := by have h := (hbw.cell (p := ⟨b1, _, none⟩) (HS.out _ hSb1)).trans (hc 0 _ rfl); rw [Nat.mul_one, Nat.add_zero] at h; exact h
      have hxlt := hw0 HA.out hx
      have hf := hown.frozenAt k
      obtain ⟨y0, hy0⟩ := get_some (xs := xs.flatMap Wc) (k := k) hown.1 (by omega)
      have q0 : wr.cell? ⟨w.heap.size, k, none⟩ = some y0 := by rw [hown.cellAt _ (by omega)]; exact hy0
      have HO := Lib.hid hown
      have HBW := Lib.hid hbw
      have HSUM := Lib.hid hsum
      have HXX := Lib.hid hx
      have HXW := Lib.hid hxw
      clear hown hbw hsum hx hc hy0 hxw
      by_cases hkm : k < m
      · obtain ⟨y, hy⟩ := get_some HY.out.num hkm
        obtain ⟨b2, o2, rfl, hSb2, hc2⟩ := HY.out.elem Wc.clen hy (by omega)
        have q2 : wr.cell? ⟨b2, o2 + k, none⟩ = some (.int .u32 (y : Int)) := by have h := (HBW.out.cell (p := ⟨b2, _, none⟩) (HS'.out _ hSb2)).trans (hc2 0 _ rfl); rw [Nat.mul_one, Nat.add_zero] at h; exact h
        have hylt := hw0 HB.out hy
        have HYY := Lib.hid hy
        clear hy hc2
        go_wp2_with fail
        obtain ⟨q', s, e1, e2, hq', hs', hxs⟩ := borrow hxlt hq hylt
        rw [e1, e2]
        have ho1 := HO.out.stored k (.int .u32 (s : Int))
        have hset : (xs.flatMap Wc).set k (.int .u32 (s : Int)) = (xs.set k s).flatMap Wc := by
          have h := putAll_flat (f := Wc) (size := 1) Wc.clen s xs k (by omega)
          rw [Nat.mul_one] at h
          exact h
        have HO1 := Lib.hid (by have h := ho1.1; rw [hset] at h; exact h)
        have HB2 := Lib.hid (HBW.out.grown ho1.2 (Nat.le_of_lt (HO.out.lt w.heap.size rfl).2) (fun g hg => by injection hg with hg; omega))
        clear ho1 hset
        refine ⟨⟨k + 1, q', xs.set k s, by omega, rfl, by go_num, hq', by simp [hxl], wds_set HXW.out hs', ?_, HO1.out, HB2.out⟩, by simp [intOf]; omega⟩
        rw [nv_take_succ HXX.out, nv_take_succ HYY.out]
        exact sub_step (by omega) HSUM.out hxs
      · go_wp2_with fail
        obtain ⟨q', s, e1, e2, hq', hs', hxs⟩ := borrow0 hxlt hq
        rw [e1, e2]
        have ho1 := HO.out.stored k (.int .u32 (s : Int))
        have hset : (xs.flatMap Wc).set k (.int .u32 (s : Int)) = (xs.set k s).flatMap Wc := by
          have h := putAll_flat (f := Wc) (size := 1) Wc.clen s xs k (by omega)
          rw [Nat.mul_one] at h
          exact h
        have HO1 := Lib.hid (by have h := ho1.1; rw [hset] at h; exact h)
        have HB2 := Lib.hid (HBW.out.grown ho1.2 (Nat.le_of_lt (HO.out.lt w.heap.size rfl).2) (fun g hg => by injection hg with hg; omega))
        clear ho1 hset
        refine ⟨⟨k + 1, q', xs.set k s, by omega, rfl, by go_num, hq', by simp [hxl], wds_set HXW.out hs', ?_, HO1.out, HB2.out⟩, by simp [intOf]; omega⟩
        have e : b.take (k + 1) = b.take k := by rw [List.take_of_length_le (by rw [HY.out.num]; omega), List.take_of_length_le (by rw [HY.out.num]; omega)]
        rw [nv_take_succ HXX.out, e]
        have h := sub_step (y := 0) (show k < xs.length by omega) HSUM.out hxs
        rw [Nat.mul_zero, Nat.add_zero] at h
        exact h
    · obtain rfl : n = k := by omega
      have HO := Lib.hid hown
      have HBW := Lib.hid hbw
      have HXW := Lib.hid hxw
      have hfin : nv xs = nv a - nv b := by
        have h := hsum
        rw [List.take_of_length_le (by rw [HX.out.num]; exact Nat.le_refl _), List.take_of_length_le (by omega), List.take_of_length_le (by rw [HY.out.num]; omega)] at h
        have hl := nv_lt HXW.out
        rw [hxl] at hl
        have hle := HLE.out
        have hq0 : q = 0 := by
          by_cases e : q = 0
          · exact e
          · have : q = 1 := by omega
            rw [this] at h
            omega
        rw [hq0] at h
        omega
      have HFIN := Lib.hid hfin
      clear hown hbw hxw hsum hfin
      go_wp2_with fail
      refine (trim_own w.heap.size w.heap.size n n xs _ HO.out HXW.out (by omega) (Nat.le_refl _)).mono ?_
      rintro e w9 ⟨rfl, hl9, hr9, hb9⟩
      rw [HFIN.out] at hl9 hr9 ⊢
      have HR9 := Lib.hid hr9
      have HL9 := Lib.hid hl9
      have HB9 := Lib.hid (HBW.out.trans (hb9.mono HBW.out.size))
      clear hr9 hl9 hb9
      go_wp2_with fail
      go_ret
      exact ⟨_, _, rfl, HL9.out, HR9.out, HB9.out⟩

end Go.Proofs.Ytfepmbpcdfdlhaa

/- plain laws of numbers in words: places, Knuth's division -/
namespace Go.Proofs.Ytfepmbpcdfdlhaa

theorem nv_set {xs : List Nat} {t o v : Nat} (h : xs[t]? = some o) : nv (xs.set t v) + W32 ^ t * o = nv xs + W32 ^ t * v := by
  induction xs generalizing t with
  | nil => simp at h
  | cons x xs ih =>
    cases t with
    | zero =>
      simp at h
      subst h
      simp [nv]
      omega
    | succ t =>
      have h2 := ih (t := t) (by simpa using h)
      simp only [List.set_cons_succ, nv, Nat.pow_succ]
      have e : ∀ z, W32 ^ t * W32 * z = W32 * (W32 ^ t * z) := fun z => by rw [Nat.mul_comm (W32 ^ t) W32, Nat.mul_assoc]
      rw [e, e]
      have h3 : W32 * (nv (xs.set t v) + W32 ^ t * o) = W32 * (nv xs + W32 ^ t * v) := by rw [h2]
      rw [Nat.mul_add, Nat.mul_add] at h3
      omega
/-- one word of Knuth's estimate: the invariant of the guess -/
theorem kn_start {P U V h u2 ul top next vl : Nat} (hV : V = (top * W32 + next) * P + vl) (hU : U = (h * W32 + u2) * P + ul) (hul : ul < P) (hu2 : u2 < W32) (htop : 0 < top) : U / V ≤ h / top := by
  have hV0 : 0 < V := by
    rw [hV]
    have : 0 < P := by omega
    have h2 : 0 < top * W32 := Nat.mul_pos htop (by decide)
    have : 0 < (top * W32 + next) * P := Nat.mul_pos (Nat.add_pos_left h2 _) this
    omega
  rw [Nat.le_div_iff_mul_le htop]
  have h1 : U / V * V ≤ U := Nat.div_mul_le_self U V
  generalize U / V = q at *
  have h2 : q * top * (W32 * P) ≤ q * V := by
    rw [hV, Nat.mul_assoc]
    apply Nat.mul_le_mul_left
    rw [Nat.add_mul, Nat.mul_assoc]
    omega
  have h3 : U < (h + 1) * (W32 * P) := by
    rw [hU, Nat.add_mul, Nat.add_mul h, Nat.mul_assoc h, Nat.one_mul]
    have : (u2 + 1) * P ≤ W32 * P := Nat.mul_le_mul_right _ hu2
    rw [Nat.add_mul, Nat.one_mul] at this
    omega
  have h4 : q * top * (W32 * P) < (h + 1) * (W32 * P) := by omega
  have := Nat.lt_of_mul_lt_mul_right h4
  omega
/-- the guess is too great -/
theorem kn_great {P U V h u2 ul top next vl g r : Nat} (hV : V = (top * W32 + next) * P + vl) (hU : U = (h * W32 + u2) * P + ul) (hul : ul < P) (hr : g * top + r = h) (hbig : r * W32 + u2 < g * next) : U / V < g := by
  have hlt : U < g * V := by
    rw [hU, hV, ← hr]
    have h1 : (r * W32 + u2 + 1) * P ≤ g * next * P := Nat.mul_le_mul_right _ hbig
    have e1 : ((g * top + r) * W32 + u2) * P = g * top * W32 * P + (r * W32 + u2) * P := by
      rw [Nat.add_mul (g * top), Nat.add_assoc, Nat.add_mul]
    have e2 : g * ((top * W32 + next) * P + vl) = g * top * W32 * P + g * next * P + g * vl := by
      simp only [Nat.mul_add, Nat.add_mul, Nat.mul_assoc]
    rw [e1, e2]
    rw [Nat.add_mul, Nat.one_mul] at h1
    omega
  exact Nat.div_lt_of_lt_mul (by rw [Nat.mul_comm]; exact hlt)
/-- the guess is at most one too great -/
theorem kn_near {P U V h u2 ul top next vl g r : Nat} (hV : V = (top * W32 + next) * P + vl) (hU : U = (h * W32 + u2) * P + ul) (hvl : vl < P) (hr : g * top + r = h) (hg : g < W32) (htop : 0 < top) (hok : g * next ≤ r * W32 + u2) : (g - 1) * V ≤ U := by
  have h1 : g * (top * W32 + next) ≤ h * W32 + u2 := by
    rw [← hr, Nat.mul_add, Nat.add_mul, ← Nat.mul_assoc]
    omega
  have h2 : (g - 1) * (top * W32 + next + 1) ≤ g * (top * W32 + next) := by
    cases g with
    | zero => simp
    | succ g =>
      have : W32 ≤ top * W32 := Nat.le_mul_of_pos_left _ htop
      rw [Nat.add_sub_cancel, Nat.mul_add, Nat.mul_one, Nat.add_mul, Nat.one_mul]
      omega
  have h3 : V ≤ (top * W32 + next + 1) * P := by rw [hV, Nat.add_mul _ 1, Nat.one_mul]; omega
  have h4 : (g - 1) * V ≤ (g - 1) * ((top * W32 + next + 1) * P) := Nat.mul_le_mul_left _ h3
  have h5 : (g - 1) * ((top * W32 + next + 1) * P) ≤ (h * W32 + u2) * P := by
    rw [← Nat.mul_assoc]
    exact Nat.mul_le_mul_right _ (Nat.le_trans h2 h1)
  omega

/-- multiply and take off: one place -/
theorem ms_step {W c g v p u d s d' : Nat} (hp : p = c + g * v) (hs : u + W * d' = s + p % W + d) : u + W * (p / W + d') = s + d + c + g * v := by
  have := Nat.mod_add_div p W
  rw [Nat.mul_add]
  omega
theorem nv_split (xs : List Nat) (t : Nat) : nv xs = nv (xs.take t) + W32 ^ t * nv (xs.drop t) := by
  by_cases h : t ≤ xs.length
  · conv => lhs; rw [← List.take_append_drop t xs]
    rw [nv_append, List.length_take, Nat.min_eq_left h]
  · rw [List.take_of_length_le (by omega), List.drop_of_length_le (by omega)]
    simp [nv]
theorem nv_take_lt {ws : List Nat} (h : Wds ws) (t : Nat) : nv (ws.take t) < W32 ^ t := by
  have h1 := nv_lt (h.take t)
  exact Nat.lt_of_lt_of_le h1 (Nat.pow_le_pow_right (by decide) (by rw [List.length_take]; omega))
theorem w_pos (k : Nat) : 0 < W32 ^ k := Nat.pow_pos (by decide)
theorem own_wc {w : World} {base e g n cap : Nat} {ys : List Nat} (h : w.ownsRow base e 1 (.slice (some ⟨g, 0, none⟩) n cap) n (ys.flatMap Wc)) {i o : Nat} (ho : ys[i]? = some o) : w.cell? ⟨g, i, none⟩ = some (.int .u32 (o : Int)) := by
  have h1 := own_elem Wc.clen h ho 0 _ rfl
  rwa [Nat.mul_one, Nat.add_zero] at h1
theorem own_set_wc {w : World} {base e g n cap : Nat} {ys : List Nat} (h : w.ownsRow base e 1 (.slice (some ⟨g, 0, none⟩) n cap) n (ys.flatMap Wc)) {i : Nat} (hi : i < ys.length) (s : Nat) :
    (w.setCell ⟨g, i, none⟩ (.int .u32 (s : Int))).ownsRow base e 1 (.slice (some ⟨g, 0, none⟩) n cap) n ((ys.set i s).flatMap Wc) ∧ w.grownBy (w.setCell ⟨g, i, none⟩ (.int .u32 (s : Int))) (some g) := by
  have h1 := h.stored i (.int .u32 (s : Int))
  have h2 := putAll_flat (f := Wc) (size := 1) Wc.clen s ys i hi
  rw [Nat.mul_one] at h2
  rw [← h2]
  exact h1
theorem own_drewN {w : World} {base e size n : Nat} {v : Value} {xs : List Value} (h : w.ownsRow base e size v n xs) (k : Nat) : (w.drewN k).ownsRow base e size v n xs := h
/-- words given one by one -/
theorem nv_of_get (Y : Nat) : ∀ (r : List Nat) (i : Nat), (∀ k x, r[k]? = some x → x = Y / W32 ^ (i + k) % W32) → Y / W32 ^ i < W32 ^ r.length → nv r = Y / W32 ^ i
  | [], i, _, h => by
    simp only [List.length_nil, Nat.pow_zero] at h
    rw [nv]; generalize Y / W32 ^ i = z at *; omega
  | x :: r, i, hr, h => by
    have h0 := hr 0 x (by simp)
    have e : Y / W32 ^ (i + 1) = Y / W32 ^ i / W32 := by rw [Nat.pow_succ, Nat.div_div_eq_div_mul]
    have ih := nv_of_get Y r (i + 1) (fun k y hy => by rw [hr (k + 1) y (by simpa using hy)]; congr 3; omega) (by
      rw [e]
      rw [List.length_cons, Nat.pow_succ] at h
      exact Nat.div_lt_of_lt_mul (by rw [Nat.mul_comm]; exact h))
    rw [nv, ih, h0, e, Nat.add_zero]
    exact Nat.mod_add_div _ _
theorem small_step {A W r r' x q d Pi N Q : Nat} (h : A = (N + Pi * x) + Pi * W * r + d * Q) (hd : r * W + x = d * q + r') : A = N + Pi * r' + d * (Q + Pi * q) := by
  have e : Pi * x + Pi * W * r = Pi * (d * q + r') := by rw [← hd, Nat.mul_add, Nat.mul_assoc, Nat.mul_comm r W]; omega
  have e2 : d * (Q + Pi * q) = d * Q + Pi * (d * q) := by rw [Nat.mul_add, Nat.mul_left_comm]
  rw [h, e2]
  rw [Nat.mul_add] at e
  omega

/-- the words after position t are 0 -/
def ZeroFrom (xs : List Nat) (t : Nat) : Prop := ∀ (i x : Nat), t ≤ i → xs[i]? = some x → x = 0
theorem nv_zero : ∀ {xs : List Nat}, (∀ (i x : Nat), xs[i]? = some x → x = 0) → nv xs = 0
  | [], _ => rfl
  | y :: xs, h => by
    have h1 := h 0 y (by simp)
    have h2 := nv_zero (xs := xs) (fun i x hx => h (i + 1) x (by simpa using hx))
    rw [nv, h1, h2]; rfl
theorem ZeroFrom.val {xs : List Nat} {t : Nat} (h : ZeroFrom xs t) : nv xs = nv (xs.take t) := by
  rw [nv_split xs t, nv_zero (xs := xs.drop t) (fun i x hx => by rw [List.getElem?_drop] at hx; exact h (t + i) x (by omega) hx), Nat.mul_zero, Nat.add_zero]
theorem ZeroFrom.set {xs : List Nat} {t i v : Nat} (h : ZeroFrom xs t) (hi : i < t) : ZeroFrom (xs.set i v) t := fun k x hk hx => by
  rw [List.getElem?_set_ne (by omega)] at hx
  exact h k x hk hx
theorem ZeroFrom.mono {xs : List Nat} {t t' : Nat} (h : ZeroFrom xs t) (ht : t ≤ t') : ZeroFrom xs t' := fun k x hk hx => h k x (by omega) hx
theorem ZeroFrom.set_at {xs : List Nat} {t v : Nat} (h : ZeroFrom xs t) : ZeroFrom (xs.set t v) (t + 1) := fun k x hk hx => by
  rw [List.getElem?_set_ne (by omega)] at hx
  exact h k x (by omega) hx
theorem zero_rep (n t : Nat) : ZeroFrom (List.replicate n 0) t := fun _ _ _ hx => (List.mem_replicate.1 (List.mem_of_getElem? hx)).2
theorem zeroFrom_of_lt {xs : List Nat} {t : Nat} (h : nv xs < W32 ^ t) : ZeroFrom xs t := by
  intro i x hi hx
  have h1 := nv_split xs i
  have hl := (List.getElem?_eq_some_iff.1 hx).1
  have e : xs.drop i = x :: xs.drop (i + 1) := by
    rw [List.drop_eq_getElem_cons hl, (List.getElem?_eq_some_iff.1 hx).2]
  rw [e, nv] at h1
  have h2 : W32 ^ t ≤ W32 ^ i := Nat.pow_le_pow_right (by decide) hi
  by_cases hx0 : x = 0
  · exact hx0
  · have : W32 ^ i * 1 ≤ W32 ^ i * (x + W32 * nv (xs.drop (i + 1))) := Nat.mul_le_mul_left _ (by omega)
    omega
/-- the words before position t are 0 -/
def ZeroTo (xs : List Nat) (t : Nat) : Prop := ∀ (i x : Nat), i < t → xs[i]? = some x → x = 0
theorem ZeroTo.set {xs : List Nat} {t i v : Nat} (h : ZeroTo xs t) (hi : t ≤ i) : ZeroTo (xs.set i v) t := fun k x hk hx => by
  rw [List.getElem?_set_ne (by omega)] at hx
  exact h k x hk hx
theorem ZeroTo.mono {xs : List Nat} {t t' : Nat} (h : ZeroTo xs t) (ht : t' ≤ t) : ZeroTo xs t' := fun k x hk hx => h k x (by omega) hx
theorem zeroTo_rep (n t : Nat) : ZeroTo (List.replicate n 0) t := fun _ _ _ hx => (List.mem_replicate.1 (List.mem_of_getElem? hx)).2
theorem dig_len_le {N k : Nat} (h : N < W32 ^ k) : (dig N).length ≤ k := by
  by_cases hne : dig N = []
  · rw [hne]; exact Nat.zero_le _
  · have h1 := isDig_pos (dig_isDig N) hne
    rw [nv_dig] at h1
    have h2 : W32 ^ ((dig N).length - 1) < W32 ^ k := Nat.lt_of_le_of_lt h1 h
    have h3 : (dig N).length - 1 < k := by
      apply Nat.lt_of_not_le
      intro h3
      have := Nat.pow_le_pow_right (show 0 < W32 by decide) h3
      omega
    omega
theorem lt_dig_len (N : Nat) : N < W32 ^ (dig N).length := by
  have := nv_lt (dig_wds N)
  rwa [nv_dig] at this
theorem dig_pos {N : Nat} (h : N ≠ 0) : dig N ≠ [] := fun e => h (by rw [← nv_dig N, e]; rfl)
theorem dig_zero : dig 0 = [] := rfl
theorem dig_len_zero {N : Nat} : (dig N).length = 0 ↔ N = 0 := ⟨fun h => by rw [← nv_dig N, List.eq_nil_of_length_eq_zero h]; rfl, fun h => by rw [h]; rfl⟩
theorem dig_len_mono {N M : Nat} (h : N ≤ M) : (dig N).length ≤ (dig M).length := dig_len_le (Nat.lt_of_le_of_lt h (lt_dig_len M))
theorem nv_two {N : Nat} (h : (dig N).length ≤ 2) : pl (dig N) = N := by
  have e := nv_dig N
  generalize dig N = l at *
  match l, h with
  | [], _ => exact e
  | [x], _ => simp [pl, nv] at e ⊢; exact e
  | [x, y], _ => simp [pl, nv] at e ⊢; exact e
theorem nv_take2 {v : List Nat} {k x y : Nat} (h0 : v[k]? = some x) (h1 : v[k + 1]? = some y) : nv (v.take (k + 2)) = (y * W32 + x) * W32 ^ k + nv (v.take k) := by
  rw [nv_take_succ h1, nv_take_succ h0, Nat.pow_succ, Nat.add_mul, Nat.mul_assoc (W32 ^ k), Nat.mul_comm x, Nat.mul_comm (y * W32), Nat.mul_comm W32 y]
  omega
theorem kn_v {v : List Nat} {j k next top : Nat} (hw : Wds v) (hv : v.length = k + 2) (h0 : v[k]? = some next) (h1 : v[k + 1]? = some top) :
    ∃ vl, nv v * W32 ^ j = (top * W32 + next) * W32 ^ (j + k) + vl ∧ vl < W32 ^ (j + k) := by
  refine ⟨nv (v.take k) * W32 ^ j, ?_, ?_⟩
  · have h := nv_take2 h0 h1
    rw [List.take_of_length_le (by omega)] at h
    rw [h, Nat.add_mul, Nat.mul_assoc, Nat.pow_add, Nat.mul_comm (W32 ^ j)]
  · rw [Nat.pow_add, Nat.mul_comm]
    exact Nat.mul_lt_mul_of_pos_left (nv_take_lt hw k) (w_pos j)
theorem kn_u {u : List Nat} {t x0 x1 x2 : Nat} (hw : Wds u) (h0 : u[t]? = some x0) (h1 : u[t + 1]? = some x1) (h2 : u[t + 2]? = some x2) (hz : ZeroFrom u (t + 3)) :
    ∃ ul, nv u = ((x2 * W32 + x1) * W32 + x0) * W32 ^ t + ul ∧ ul < W32 ^ t := by
  refine ⟨nv (u.take t), ?_, nv_take_lt hw t⟩
  rw [hz.val, show t + 3 = t + 2 + 1 by omega, nv_take_succ h2, nv_take2 h0 h1, show t + 2 = t + 1 + 1 by omega, Nat.pow_succ, Nat.pow_succ]
  have e : ((x2 * W32 + x1) * W32 + x0) * W32 ^ t = W32 ^ t * W32 * W32 * x2 + (x1 * W32 + x0) * W32 ^ t := by
    simp only [Nat.add_mul]
    rw [Nat.mul_comm (W32 ^ t * W32 * W32) x2, Nat.mul_assoc x2, Nat.mul_assoc x2, Nat.mul_assoc (W32 ^ t), Nat.mul_comm (W32 ^ t) (W32 * W32)]
    omega
  rw [e]
  omega
theorem ms_list {xs v : List Nat} {i j c d g vi o s p d' R : Nat} (ho : xs[j + i]? = some o) (hI : nv xs + W32 ^ j * (g * nv (v.take i)) = R + W32 ^ (j + i) * (c + d)) (hv : v[i]? = some vi) (hp : p = c + g * vi) (hs : o + W32 * d' = s + p % W32 + d) :
    nv (xs.set (j + i) s) + W32 ^ j * (g * nv (v.take (i + 1))) = R + W32 ^ (j + (i + 1)) * (p / W32 + d') := by
  have h1 := nv_set (v := s) ho
  have h2 := ms_step hp hs
  have e1 : W32 ^ j * (g * nv (v.take (i + 1))) = W32 ^ j * (g * nv (v.take i)) + W32 ^ (j + i) * (g * vi) := by
    rw [nv_take_succ hv, Nat.mul_add, Nat.mul_add, Nat.pow_add]
    congr 1
    rw [Nat.mul_left_comm g, Nat.mul_assoc]
  have e2 : W32 ^ (j + (i + 1)) * (p / W32 + d') = W32 ^ (j + i) * (W32 * (p / W32 + d')) := by rw [← Nat.add_assoc, Nat.pow_succ, Nat.mul_assoc]
  have h3 : W32 ^ (j + i) * (o + W32 * (p / W32 + d')) = W32 ^ (j + i) * (s + d + c + g * vi) := by rw [h2]
  rw [e1, e2]
  simp only [Nat.mul_add] at h3 hI ⊢
  omega
theorem kn_done_a {xs : List Nat} {j n y b g V R : Nat} (hI : nv xs + W32 ^ j * (g * V) = R + W32 ^ (j + n) * b) (hy : xs[j + n]? = some y) (hb : b ≤ y) (hQ : R / (V * W32 ^ j) ≤ g) (hV : 0 < V) :
    nv (xs.set (j + n) (y - b)) + W32 ^ j * (g * V) = R ∧ nv (xs.set (j + n) (y - b)) < V * W32 ^ j := by
  have h1 := nv_set (v := y - b) hy
  have h2 : W32 ^ (j + n) * y = W32 ^ (j + n) * (y - b) + W32 ^ (j + n) * b := by rw [← Nat.mul_add, Nat.sub_add_cancel hb]
  have h3 : nv (xs.set (j + n) (y - b)) + W32 ^ j * (g * V) = R := by omega
  refine ⟨h3, ?_⟩
  have h4 : R < V * W32 ^ j * (g + 1) := by
    rw [Nat.mul_comm _ (g + 1), ← Nat.div_lt_iff_lt_mul (Nat.mul_pos hV (w_pos j))]; omega
  have h5 : V * W32 ^ j * (g + 1) = W32 ^ j * (g * V) + V * W32 ^ j := by
    rw [Nat.mul_add, Nat.mul_one, Nat.mul_comm (V * W32 ^ j) g, ← Nat.mul_assoc, Nat.mul_comm (g * V)]
  omega
/-- too much was taken off: the top word then -/
theorem kn_done_b {xs : List Nat} {j n y b g V R : Nat} (hI : nv xs + W32 ^ j * (g * V) = R + W32 ^ (j + n) * b) (hy : xs[j + n]? = some y) (hbl : b ≤ W32 + y) :
    nv (xs.set (j + n) (y + W32 - b)) + W32 ^ j * (g * V) = R + W32 ^ (j + n + 1) := by
  have h1 := nv_set (v := y + W32 - b) hy
  have h2 : W32 ^ (j + n) * y + W32 ^ (j + n) * W32 = W32 ^ (j + n) * (y + W32 - b) + W32 ^ (j + n) * b := by rw [← Nat.mul_add, ← Nat.mul_add]; congr 1; omega
  rw [Nat.pow_succ]
  omega
theorem kn_back {xs : List Nat} {j n y c g V R R' : Nat} (hR : R' + W32 ^ j * (g * V) = R + W32 ^ (j + n + 1)) (hR' : R' < W32 ^ (j + n + 1)) (hI : nv xs + W32 ^ (j + n) * c = R' + W32 ^ j * V) (hy : xs[j + n]? = some y) (hc : c < 2) (hyw : y < W32)
    (hnear : (g - 1) * (V * W32 ^ j) ≤ R) (hg : 0 < g) (hz : ZeroFrom xs (j + n + 1)) (hw : Wds xs) :
    nv (xs.set (j + n) ((y + c) % W32)) + W32 ^ j * ((g - 1) * V) = R ∧ nv (xs.set (j + n) ((y + c) % W32)) < V * W32 ^ j := by
  have e1 : (g - 1) * (V * W32 ^ j) = W32 ^ j * ((g - 1) * V) := by rw [← Nat.mul_assoc, Nat.mul_comm]
  have e2 : W32 ^ j * (g * V) = W32 ^ j * ((g - 1) * V) + W32 ^ j * V := by
    rw [← Nat.mul_add]; congr 1
    conv => lhs; rw [show g = g - 1 + 1 by omega, Nat.add_mul, Nat.one_mul]
  have e3 : V * W32 ^ j = W32 ^ j * V := Nat.mul_comm _ _
  rw [e1] at hnear
  rw [e2] at hR
  have h1 := nv_set (v := (y + c) % W32) hy
  have hlt : nv (xs.set (j + n) ((y + c) % W32)) < W32 ^ (j + n + 1) := by
    rw [(hz.set (v := (y + c) % W32) (show j + n < j + n + 1 by omega)).val]
    exact nv_take_lt (wds_set hw (Nat.mod_lt _ (by decide))) _
  rw [Nat.pow_succ] at hlt hR hR'
  rw [e3]
  by_cases hyc : y + c < W32
  · rw [Nat.mod_eq_of_lt hyc, Nat.mul_add] at h1
    rw [Nat.mod_eq_of_lt hyc] at hlt ⊢
    omega
  · have : (y + c) % W32 = y + c - W32 := by
      rw [Nat.mod_eq_sub_mod (by omega), Nat.mod_eq_of_lt (by omega)]
    rw [this] at h1 hlt ⊢
    have h2 : W32 ^ (j + n) * y + W32 ^ (j + n) * c = W32 ^ (j + n) * (y + c - W32) + W32 ^ (j + n) * W32 := by rw [← Nat.mul_add, ← Nat.mul_add, Nat.sub_add_cancel (Nat.le_of_not_lt hyc)]
    omega
theorem kn_q {A V B Q g j : Nat} (h : A = B + V * Q) {B' Q' : Nat} (hB : B' + W32 ^ j * (g * V) = B) (hQ : Q' + W32 ^ j * 0 = Q + W32 ^ j * g) : A = B' + V * Q' := by
  rw [Nat.mul_zero, Nat.add_zero] at hQ
  rw [h, ← hB, hQ, Nat.mul_add, Nat.add_assoc]
  congr 1
  rw [Nat.mul_comm g V, Nat.mul_left_comm (W32 ^ j) V]
  omega

end Go.Proofs.Ytfepmbpcdfdlhaa

/- numbers in limbs of 64 bits: as N1, P1, the names changed by program -/
namespace Go.Proofs.Ytfepmbpcdfdlhaa

/-- a word's cell -/
abbrev Lc (x : Nat) : List Value := [.int .u64 (x : Int)]
theorem Lc.clen (x : Nat) : (Lc x).length = 1 := rfl
abbrev W64 : Nat := 18446744073709551616
def ln : List Nat → Nat
  | [] => 0
  | x :: r => x + W64 * ln r
def Lds (ws : List Nat) : Prop := ∀ x ∈ ws, x < W64
def limF : Nat → Nat → List Nat
  | 0, _ => []
  | f + 1, N => if N = 0 then [] else N % W64 :: limF f (N / W64)
/-- the words of a number, none above the highest that is not 0 -/
def lim (N : Nat) : List Nat := limF N N
def isLim (ws : List Nat) : Prop := Lds ws ∧ ∀ h : ws ≠ [], ws.getLast h ≠ 0

theorem ln_nil : ln [] = 0 := rfl
theorem ln_append (a b : List Nat) : ln (a ++ b) = ln a + W64 ^ a.length * ln b := by
  induction a with
  | nil => simp [ln]
  | cons x a ih =>
    simp only [List.cons_append, ln, ih, List.length_cons, Nat.pow_succ, Nat.mul_add, Nat.add_assoc]
    rw [Nat.mul_comm (W64 ^ a.length) W64, Nat.mul_assoc]
theorem Lds.tail {x : Nat} {r : List Nat} (h : Lds (x :: r)) : Lds r := fun y hy => h y (List.mem_cons_of_mem _ hy)
theorem Lds.head {x : Nat} {r : List Nat} (h : Lds (x :: r)) : x < W64 := h x List.mem_cons_self
theorem Lds.take {a : List Nat} (ha : Lds a) (n : Nat) : Lds (a.take n) := fun y hy => ha y (List.mem_of_mem_take hy)
theorem Lds.drop {a : List Nat} (ha : Lds a) (n : Nat) : Lds (a.drop n) := fun y hy => ha y (List.mem_of_mem_drop hy)
theorem Lds.get {a : List Nat} (ha : Lds a) {i x : Nat} (h : a[i]? = some x) : x < W64 := ha x (List.mem_of_getElem? h)
theorem ln_lt : ∀ {ws : List Nat}, Lds ws → ln ws < W64 ^ ws.length
  | [], _ => by simp [ln]
  | x :: r, h => by
    have h1 := ln_lt h.tail
    have h2 := h.head
    simp only [ln, List.length_cons, Nat.pow_succ]
    have h3 : W64 * ln r + W64 ≤ W64 * W64 ^ r.length := by
      rw [← Nat.mul_succ]
      exact Nat.mul_le_mul_left _ h1
    rw [Nat.mul_comm (W64 ^ r.length) W64]
    omega
theorem limF_ln : ∀ (f N : Nat), N ≤ f → ln (limF f N) = N
  | 0, N, h => by simp [limF, ln]; omega
  | f + 1, N, h => by
    unfold limF
    split
    · rename_i e; rw [e]; rfl
    · have h2 : N / W64 ≤ f := by
        have : N / W64 < N := Nat.div_lt_self (by omega) (by decide)
        omega
      rw [ln, limF_ln f _ h2]
      exact Nat.mod_add_div N W64
theorem ln_dig (N : Nat) : ln (lim N) = N := limF_ln N N (Nat.le_refl _)
theorem limF_lds : ∀ (f N : Nat), Lds (limF f N)
  | 0, N => fun x h => by simp [limF] at h
  | f + 1, N => by
    unfold limF
    split
    · intro x h; simp at h
    · intro x h
      rcases List.mem_cons.1 h with rfl | h
      · exact Nat.mod_lt _ (by decide)
      · exact limF_lds f _ x h
theorem lim_lds (N : Nat) : Lds (lim N) := limF_lds N N
theorem limF_nil {f N : Nat} (hf : N ≤ f) (h : limF f N = []) : N = 0 := by
  have := limF_ln f N hf
  rw [h] at this
  exact this.symm
theorem limF_last : ∀ (f N : Nat), N ≤ f → ∀ h : limF f N ≠ [], (limF f N).getLast h ≠ 0
  | 0, N, _, h => absurd rfl h
  | f + 1, N, hN, h => by
    have h0 : N ≠ 0 := by rintro rfl; simp [limF] at h
    have e : limF (f + 1) N = N % W64 :: limF f (N / W64) := by rw [limF, if_neg h0]
    have hlt : N / W64 ≤ f := by
      have : N / W64 < N := Nat.div_lt_self (by omega) (by decide)
      omega
    simp only [e]
    by_cases hn : limF f (N / W64) = []
    · simp only [hn, List.getLast_singleton]
      have h1 := limF_nil hlt hn
      have h2 := Nat.mod_add_div N W64
      rw [h1] at h2
      omega
    · rw [List.getLast_cons hn]
      exact limF_last f _ hlt hn
theorem lim_isLim (N : Nat) : isLim (lim N) := ⟨lim_lds N, fun h => limF_last N N (Nat.le_refl _) h⟩

/-- words that are trimmed are told by their number -/
theorem isLim_pos {ws : List Nat} (h : isLim ws) (hne : ws ≠ []) : W64 ^ (ws.length - 1) ≤ ln ws := by
  have e := List.dropLast_concat_getLast hne
  rw [← e, ln_append]
  have h1 : ws.dropLast.length = ws.length - 1 := by simp
  have h2 : (ws.dropLast ++ [ws.getLast hne]).length - 1 = ws.length - 1 := by simp
  rw [h2, h1]
  have h3 := h.2 hne
  simp only [ln]
  have : W64 ^ (ws.length - 1) * 1 ≤ W64 ^ (ws.length - 1) * (ws.getLast hne + W64 * 0) := Nat.mul_le_mul_left _ (by omega)
  omega
theorem isLim_zero {ws : List Nat} (h : isLim ws) (h0 : ln ws = 0) : ws = [] := by
  by_cases hne : ws = []
  · exact hne
  · have h1 := isLim_pos h hne
    have h2 : 0 < W64 ^ (ws.length - 1) := Nat.pow_pos (by decide)
    omega
theorem isLim.tail {x : Nat} {r : List Nat} (h : isLim (x :: r)) : isLim r := ⟨h.1.tail, fun hn => by have := h.2 (by simp); rwa [List.getLast_cons hn] at this⟩
theorem isLim_unique : ∀ {a b : List Nat}, isLim a → isLim b → ln a = ln b → a = b
  | [], b, _, hb, h => (isLim_zero hb h.symm).symm
  | a, [], ha, _, h => isLim_zero ha h
  | x :: a, y :: b, ha, hb, h => by
    have hx := ha.1.head
    have hy := hb.1.head
    simp only [ln] at h
    have e1 : x = y := by
      have h1 : (x + W64 * ln a) % W64 = (y + W64 * ln b) % W64 := by rw [h]
      rw [Nat.add_mul_mod_self_left, Nat.add_mul_mod_self_left, Nat.mod_eq_of_lt hx, Nat.mod_eq_of_lt hy] at h1
      exact h1
    subst e1
    have e2 : ln a = ln b := Nat.eq_of_mul_eq_mul_left (show 0 < W64 by decide) (by omega)
    rw [isLim_unique ha.tail hb.tail e2]
theorem lim_unique {ws : List Nat} (h : isLim ws) : ws = lim (ln ws) := isLim_unique h (lim_isLim _) (ln_dig _).symm

theorem ln_split (xs : List Nat) (t : Nat) : ln xs = ln (xs.take t) + W64 ^ t * ln (xs.drop t) := by
  by_cases h : t ≤ xs.length
  · conv => lhs; rw [← List.take_append_drop t xs]
    rw [ln_append, List.length_take, Nat.min_eq_left h]
  · rw [List.take_of_length_le (by omega), List.drop_of_length_le (by omega)]
    simp [ln]
theorem ln_take_lt {ws : List Nat} (h : Lds ws) (t : Nat) : ln (ws.take t) < W64 ^ t := by
  have h1 := ln_lt (h.take t)
  exact Nat.lt_of_lt_of_le h1 (Nat.pow_le_pow_right (by decide) (by rw [List.length_take]; omega))
theorem l_pos (k : Nat) : 0 < W64 ^ k := Nat.pow_pos (by decide)
/-- words given one by one -/
theorem ln_of_get (Y : Nat) : ∀ (r : List Nat) (i : Nat), (∀ k x, r[k]? = some x → x = Y / W64 ^ (i + k) % W64) → Y / W64 ^ i < W64 ^ r.length → ln r = Y / W64 ^ i
  | [], i, _, h => by
    simp only [List.length_nil, Nat.pow_zero] at h
    rw [ln]; generalize Y / W64 ^ i = z at *; omega
  | x :: r, i, hr, h => by
    have h0 := hr 0 x (by simp)
    have e : Y / W64 ^ (i + 1) = Y / W64 ^ i / W64 := by rw [Nat.pow_succ, Nat.div_div_eq_div_mul]
    have ih := ln_of_get Y r (i + 1) (fun k y hy => by rw [hr (k + 1) y (by simpa using hy)]; congr 3; omega) (by
      rw [e]
      rw [List.length_cons, Nat.pow_succ] at h
      exact Nat.div_lt_of_lt_mul (by rw [Nat.mul_comm]; exact h))
    rw [ln, ih, h0, e, Nat.add_zero]
    exact Nat.mod_add_div _ _
theorem ln_zero : ∀ {xs : List Nat}, (∀ (i x : Nat), xs[i]? = some x → x = 0) → ln xs = 0
  | [], _ => rfl
  | y :: xs, h => by
    have h1 := h 0 y (by simp)
    have h2 := ln_zero (xs := xs) (fun i x hx => h (i + 1) x (by simpa using hx))
    rw [ln, h1, h2]; rfl
theorem lim_len_le {N k : Nat} (h : N < W64 ^ k) : (lim N).length ≤ k := by
  by_cases hne : lim N = []
  · rw [hne]; exact Nat.zero_le _
  · have h1 := isLim_pos (lim_isLim N) hne
    rw [ln_dig] at h1
    have h2 : W64 ^ ((lim N).length - 1) < W64 ^ k := Nat.lt_of_le_of_lt h1 h
    have h3 : (lim N).length - 1 < k := by
      apply Nat.lt_of_not_le
      intro h3
      have := Nat.pow_le_pow_right (show 0 < W64 by decide) h3
      omega
    omega
theorem lt_lim_len (N : Nat) : N < W64 ^ (lim N).length := by
  have := ln_lt (lim_lds N)
  rwa [ln_dig] at this
theorem lim_zero : lim 0 = [] := rfl
theorem lim_len_mono {N M : Nat} (h : N ≤ M) : (lim N).length ≤ (lim M).length := lim_len_le (Nat.lt_of_le_of_lt h (lt_lim_len M))
end Go.Proofs.Ytfepmbpcdfdlhaa

/- plain laws: bits, shifts -/
namespace Go.Proofs.Ytfepmbpcdfdlhaa

/-- how many bits a number has -/
def blen (N : Nat) : Nat := if N = 0 then 0 else N.log2 + 1
theorem blen_zero : blen 0 = 0 := rfl
theorem blen_half {t : Nat} (h : t ≠ 0) : blen t = blen (t / 2) + 1 := by
  unfold blen
  rw [if_neg h]
  by_cases h2 : t / 2 = 0
  · have : t = 1 := by omega
    subst this; rfl
  · rw [if_neg h2, Nat.log2_def, if_pos (by omega)]
theorem blen_lt {N : Nat} : N < 2 ^ blen N := by
  unfold blen
  split
  · omega
  · exact Nat.lt_log2_self
theorem blen_le {N : Nat} (h : N ≠ 0) : 2 ^ (blen N - 1) ≤ N := by
  unfold blen
  rw [if_neg h]
  exact Nat.log2_self_le h
theorem blen_uniq {N k : Nat} (h1 : 2 ^ k ≤ N) (h2 : N < 2 ^ (k + 1)) : blen N = k + 1 := by
  have h0 : N ≠ 0 := by have : 0 < 2 ^ k := Nat.pow_pos (by decide); omega
  have h3 := blen_lt (N := N)
  have h4 := blen_le h0
  have h5 : k < blen N := (Nat.pow_lt_pow_iff_right (by decide)).1 (Nat.lt_of_le_of_lt h1 h3)
  have h6 : blen N - 1 < k + 1 := (Nat.pow_lt_pow_iff_right (by decide)).1 (Nat.lt_of_le_of_lt h4 h2)
  omega
theorem blen_le_of_lt {N k : Nat} (h : N < 2 ^ k) : blen N ≤ k := by
  by_cases h0 : N = 0
  · rw [h0]; exact Nat.zero_le _
  · have h4 := blen_le h0
    have h6 : blen N - 1 < k := (Nat.pow_lt_pow_iff_right (by decide)).1 (Nat.lt_of_le_of_lt h4 h)
    omega
theorem blen_pos {N : Nat} (h : N ≠ 0) : 0 < blen N := by unfold blen; rw [if_neg h]; omega
theorem blen_join {k x r : Nat} (hx : x ≠ 0) (hr : r < 2 ^ k) : blen (r + 2 ^ k * x) = k + blen x := by
  have h1 := blen_lt (N := x)
  have h2 := blen_le hx
  have h3 := blen_pos hx
  have e : k + blen x = (k + (blen x - 1)) + 1 := by omega
  rw [e]
  apply blen_uniq
  · rw [Nat.pow_add]
    have := Nat.mul_le_mul_left (2 ^ k) h2
    omega
  · rw [show k + (blen x - 1) + 1 = k + blen x by omega, Nat.pow_add]
    have : 2 ^ k * (x + 1) ≤ 2 ^ k * 2 ^ blen x := Nat.mul_le_mul_left _ h1
    rw [Nat.mul_add, Nat.mul_one] at this
    omega
theorem W32_pow (k : Nat) : W32 ^ k = 2 ^ (32 * k) := by
  rw [Nat.pow_mul]
theorem blen_dig {N x k : Nat} (hk : (dig N).length = k + 1) (hx : (dig N)[k]? = some x) : blen N = 32 * k + blen x := by
  have h1 := nv_split (dig N) k
  rw [nv_dig] at h1
  have hl := (List.getElem?_eq_some_iff.1 hx)
  have e : (dig N).drop k = [x] := by
    rw [List.drop_eq_getElem_cons hl.1, hl.2, List.drop_of_length_le (by omega)]
  have hx0 : x ≠ 0 := by
    have h2 := dig_isDig N
    have hne : dig N ≠ [] := by intro h; rw [h] at hk; simp at hk
    have h3 := h2.2 hne
    rw [List.getLast_eq_getElem] at h3
    have e2 : (dig N).length - 1 = k := by omega
    simp only [e2] at h3
    rw [hl.2] at h3
    exact h3
  rw [e] at h1
  have e3 : nv [x] = x := by simp [nv]
  rw [e3, W32_pow] at h1
  have h4 := nv_take_lt (dig_wds N) k
  rw [W32_pow] at h4
  rw [h1]
  exact blen_join hx0 h4
theorem left_step {R A i w s a v : Nat} (h : R = W32 ^ w * 2 ^ s * A) (hv : v = a * 2 ^ s) : R + W32 ^ (i + w) * (v % W32) + W32 ^ (i + w + 1) * (v / W32) = W32 ^ w * 2 ^ s * (A + W32 ^ i * a) := by
  have h1 : W32 ^ (i + w) * (v % W32) + W32 ^ (i + w + 1) * (v / W32) = W32 ^ (i + w) * v := by
    rw [Nat.pow_succ, Nat.mul_assoc, ← Nat.mul_add, Nat.mod_add_div]
  rw [Nat.add_assoc, h1, h, Nat.mul_add, hv]
  congr 1
  rw [Nat.pow_add]
  simp only [Nat.mul_assoc, Nat.mul_comm, Nat.mul_left_comm]
theorem right_word {X i x y Z s : Nat} (hs : s < 32) (h : X / W32 ^ i = x + W32 * (y + W32 * Z)) : (x + W32 * y) / 2 ^ s % W32 = X / 2 ^ s / W32 ^ i % W32 := by
  rw [Nat.div_div_eq_div_mul, Nat.mul_comm (2 ^ s), ← Nat.div_div_eq_div_mul, h]
  have e : W32 = 2 ^ (32 - s) * 2 ^ s := by rw [← Nat.pow_add, show 32 - s + s = 32 by omega]
  have e1 : x + W32 * (y + W32 * Z) = (x + W32 * y) + 2 ^ s * (2 ^ (32 - s) * (W32 * Z)) := by
    have : W32 * (W32 * Z) = 2 ^ s * (2 ^ (32 - s) * (W32 * Z)) := by
      rw [← Nat.mul_assoc (2 ^ s), Nat.mul_comm (2 ^ s), ← e]
    rw [Nat.mul_add, this, Nat.add_assoc]
  rw [e1, Nat.add_mul_div_left _ _ (Nat.pow_pos (by decide))]
  rw [← Nat.mul_assoc, Nat.mul_comm (2 ^ (32 - s)), Nat.mul_assoc, Nat.add_mul_mod_self_left]

end Go.Proofs.Ytfepmbpcdfdlhaa

/- plain laws: limbs, bytes, bits of numbers -/
namespace Go.Proofs.Ytfepmbpcdfdlhaa

theorem W64_pow (k : Nat) : W64 ^ k = 2 ^ (64 * k) := by
  rw [Nat.pow_mul]
theorem lim_of_get {N L : Nat} {r : List Nat} (hl : r.length = L) (hL : L = (blen N + 63) / 64) (hr : ∀ (k x : Nat), r[k]? = some x → x = N / W64 ^ k % W64) : r = lim N := by
  have hN : N < W64 ^ L := by
    rw [W64_pow]
    exact Nat.lt_of_lt_of_le blen_lt (Nat.pow_le_pow_right (by decide) (by omega))
  have h1 : ln r = N := by
    have h := ln_of_get N r 0 (fun k x h => by rw [Nat.zero_add]; exact hr k x h) (by rw [Nat.pow_zero, Nat.div_one, hl]; exact hN)
    rwa [Nat.pow_zero, Nat.div_one] at h
  have h2 : isLim r := by
    refine ⟨fun x hx => ?_, fun hne => ?_⟩
    · obtain ⟨k, hk⟩ := List.getElem?_of_mem hx
      rw [hr k x hk]
      exact Nat.mod_lt _ (by decide)
    · have hlen : 0 < r.length := List.length_pos_iff.2 hne
      have hg : r[r.length - 1]? = some (r.getLast hne) := by rw [List.getLast_eq_getElem, List.getElem?_eq_getElem]
      rw [hr _ _ hg]
      have h0 : N ≠ 0 := by
        intro e
        rw [e, blen_zero] at hL
        omega
      have h3 := blen_le h0
      have h4 : W64 ^ (r.length - 1) ≤ N := by
        rw [W64_pow]
        exact Nat.le_trans (Nat.pow_le_pow_right (by decide) (by omega)) h3
      have h5 : N / W64 ^ (r.length - 1) < W64 := by
        apply Nat.div_lt_of_lt_mul
        rw [← Nat.pow_succ, show (r.length - 1).succ = L by omega]
        exact hN
      rw [Nat.mod_eq_of_lt h5]
      have := Nat.div_pos h4 (l_pos _)
      omega
  rw [← h1]
  exact lim_unique h2
theorem lim_len (N : Nat) : (lim N).length = (blen N + 63) / 64 := by
  have h := lim_of_get (N := N) (L := (blen N + 63) / 64) (r := (List.range ((blen N + 63) / 64)).map (fun k => N / W64 ^ k % W64)) (by simp) rfl (fun k x hx => by
    simp only [List.getElem?_map, Option.map_eq_some_iff] at hx
    obtain ⟨a, ha, rfl⟩ := hx
    obtain ⟨hl, e⟩ := List.getElem?_eq_some_iff.1 ha
    rw [List.getElem_range] at e
    rw [e])
  rw [← h]; simp
/-- bytes, the greatest first -/
def be : List Nat → Nat → Nat
  | [], a => a
  | b :: bs, a => be bs (a * 256 + b)
theorem be_snoc : ∀ (bs : List Nat) (b a : Nat), be (bs ++ [b]) a = be bs a * 256 + b
  | [], _, _ => rfl
  | c :: bs, b, a => be_snoc bs b (a * 256 + c)
theorem be_take {bs : List Nat} {i b : Nat} (h : bs[i]? = some b) : be (bs.take (i + 1)) 0 = be (bs.take i) 0 * 256 + b := by
  obtain ⟨hl, e⟩ := List.getElem?_eq_some_iff.1 h
  rw [List.take_succ_eq_append_getElem hl, e, be_snoc]
theorem be_bytes {X : Nat} {bs : List Nat} (hX : X < 256 ^ bs.length) (h : ∀ (i b : Nat), bs[i]? = some b → b = X / 256 ^ (bs.length - 1 - i) % 256) : ∀ i, i ≤ bs.length → be (bs.take i) 0 = X / 256 ^ (bs.length - i)
  | 0, _ => by rw [Nat.sub_zero, Nat.div_eq_of_lt hX]; rfl
  | i + 1, hi => by
    obtain ⟨b, hb⟩ : ∃ b, bs[i]? = some b := ⟨_, List.getElem?_eq_getElem (by omega)⟩
    rw [be_take hb, be_bytes hX h i (by omega), h i b hb]
    have e : bs.length - i = (bs.length - 1 - i) + 1 := by omega
    rw [e, Nat.pow_succ, ← Nat.div_div_eq_div_mul, show bs.length - (i + 1) = bs.length - 1 - i by omega]
    generalize X / 256 ^ (bs.length - 1 - i) = z
    omega
theorem be_all {X : Nat} {bs : List Nat} (hX : X < 256 ^ bs.length) (h : ∀ (i b : Nat), bs[i]? = some b → b = X / 256 ^ (bs.length - 1 - i) % 256) : be bs 0 = X := by
  have h1 := be_bytes hX h bs.length (Nat.le_refl _)
  rw [List.take_of_length_le (Nat.le_refl _), Nat.sub_self, Nat.pow_zero, Nat.div_one] at h1
  exact h1
theorem W64_256 (k : Nat) : W64 ^ k = 256 ^ (8 * k) := by rw [Nat.pow_mul]
/-- byte j of a list of limbs -/
theorem limb_byte {ls : List Nat} {j x : Nat} (hw : Lds ls) (hx : ls[j / 8]? = some x) : x / 2 ^ (8 * (j % 8)) % 256 = ln ls / 256 ^ j % 256 := by
  have h1 := ln_split ls (j / 8)
  obtain ⟨hl, e⟩ := List.getElem?_eq_some_iff.1 hx
  rw [List.drop_eq_getElem_cons hl, e, ln] at h1
  have h2 := ln_take_lt hw (j / 8)
  have e1 : 256 ^ j = W64 ^ (j / 8) * 256 ^ (j % 8) := by rw [W64_256, ← Nat.pow_add]; congr 1; omega
  have e2 : ln ls / W64 ^ (j / 8) = x + W64 * ln (ls.drop (j / 8 + 1)) := by
    rw [h1, Nat.add_mul_div_left _ _ (l_pos _), Nat.div_eq_of_lt h2, Nat.zero_add]
  rw [e1, ← Nat.div_div_eq_div_mul, e2]
  have e3 : 2 ^ (8 * (j % 8)) = 256 ^ (j % 8) := by rw [Nat.pow_mul]
  rw [e3]
  have e4 : W64 = 256 ^ (j % 8) * (256 ^ (7 - j % 8) * 256) := by
    rw [← Nat.pow_succ, ← Nat.pow_add, show j % 8 + (7 - j % 8 + 1) = 8 by omega]
  generalize ln (ls.drop (j / 8 + 1)) = Z
  rw [show x + W64 * Z = x + 256 ^ (j % 8) * (256 ^ (7 - j % 8) * 256 * Z) by rw [← Nat.mul_assoc, ← e4]]
  rw [Nat.add_mul_div_left _ _ (Nat.pow_pos (by decide))]
  rw [Nat.mul_comm (256 ^ (7 - j % 8)) 256, Nat.mul_assoc, Nat.add_mul_mod_self_left]
theorem and_join {x y X Y : Nat} (hx : x < W32) (hy : y < W32) : (x + W32 * X) &&& (y + W32 * Y) = (x &&& y) + W32 * (X &&& Y) := by
  have hx' : x < 2 ^ 32 := hx
  have hy' : y < 2 ^ 32 := hy
  have hxy : x &&& y < 2 ^ 32 := Nat.and_lt_two_pow x hy'
  apply Nat.eq_of_testBit_eq
  intro j
  rw [Nat.testBit_and, Nat.add_comm x, Nat.add_comm y, Nat.add_comm (x &&& y)]
  show ((2 ^ 32 * X + x).testBit j && (2 ^ 32 * Y + y).testBit j) = (2 ^ 32 * (X &&& Y) + (x &&& y)).testBit j
  rw [Nat.testBit_two_pow_mul_add _ hx', Nat.testBit_two_pow_mul_add _ hy', Nat.testBit_two_pow_mul_add _ hxy]
  split <;> simp
theorem or_join {x y X Y : Nat} (hx : x < W32) (hy : y < W32) : (x + W32 * X) ||| (y + W32 * Y) = (x ||| y) + W32 * (X ||| Y) := by
  have hx' : x < 2 ^ 32 := hx
  have hy' : y < 2 ^ 32 := hy
  have hxy : x ||| y < 2 ^ 32 := Nat.or_lt_two_pow hx' hy'
  apply Nat.eq_of_testBit_eq
  intro j
  rw [Nat.testBit_or, Nat.add_comm x, Nat.add_comm y, Nat.add_comm (x ||| y)]
  show ((2 ^ 32 * X + x).testBit j || (2 ^ 32 * Y + y).testBit j) = (2 ^ 32 * (X ||| Y) + (x ||| y)).testBit j
  rw [Nat.testBit_two_pow_mul_add _ hx', Nat.testBit_two_pow_mul_add _ hy', Nat.testBit_two_pow_mul_add _ hxy]
  split <;> simp
theorem nv_and : ∀ (xs ys : List Nat), xs.length = ys.length → Wds xs → Wds ys → nv (List.zipWith (· &&& ·) xs ys) = nv xs &&& nv ys
  | [], [], _, _, _ => rfl
  | x :: xs, y :: ys, h, hx, hy => by
    simp only [List.zipWith_cons_cons, nv]
    rw [nv_and xs ys (by simpa using h) hx.tail hy.tail, and_join hx.head hy.head]
theorem nv_or : ∀ (xs ys : List Nat), xs.length = ys.length → Wds xs → Wds ys → nv (List.zipWith (· ||| ·) xs ys) = nv xs ||| nv ys
  | [], [], _, _, _ => rfl
  | x :: xs, y :: ys, h, hx, hy => by
    simp only [List.zipWith_cons_cons, nv]
    rw [nv_or xs ys (by simpa using h) hx.tail hy.tail, or_join hx.head hy.head]
/-- the Euclid of GCD: its by-products stay small -/
theorem euclid_keep {S T p q b : Nat} (h : S * q + T * p = b) : T * (p % q) + (S + p / q * T) * q = b := by
  have h1 := Nat.div_add_mod p q
  have h2 : T * p = T * (q * (p / q)) + T * (p % q) := by rw [← Nat.mul_add, h1]
  rw [Nat.add_mul, ← h, h2]
  have : p / q * T * q = T * (q * (p / q)) := by
    rw [Nat.mul_comm (p / q), Nat.mul_assoc, Nat.mul_comm (p / q)]
  omega
/-- limbs as words -/
def hv (a : List Nat) : List Nat := a.flatMap fun x => [x % W32, x / W32]
end Go.Proofs.Ytfepmbpcdfdlhaa

/- whole numbers as objects: what an Int's two cells say; what stays when one is set -/
namespace Go.Proofs.Ytfepmbpcdfdlhaa
open Go.RowKit Go.Sort

/-- at block b, offset o lies an Int of the value z -/
structure IntAt (w : World) (b o : Nat) (z : Int) : Prop where
  neg : w.cell? ⟨b, o, none⟩ = some (.bool (decide (z < 0)))
  abs : ∃ A c, w.cell? ⟨b, o + 1, none⟩ = some (.slice A (dig z.natAbs).length c) ∧ (dig z.natAbs).length ≤ c ∧ RdE Wc 1 w (fun d => d < w.heap.size) A (dig z.natAbs).length (dig z.natAbs)
  fz : w.frozen? ⟨b, o, none⟩ = false
  fz1 : w.frozen? ⟨b, o + 1, none⟩ = false

/-- the two cells at block b, offset o were set (a bool, a slice, as before); besides there are new blocks -/
structure Upd (w w' : World) (b o : Nat) : Prop where
  os : w'.os = w.os
  tape : w'.tape = w.tape
  output : w'.output = w.output
  size : w.heap.size ≤ w'.heap.size
  blk : ∀ k, k < w.heap.size → k ≠ b → w'.heap[k]? = w.heap[k]?
  cell : ∀ j, j ≠ o → j ≠ o + 1 → w'.cell? ⟨b, j, none⟩ = w.cell? ⟨b, j, none⟩
  fz : ∀ j, w'.frozen? ⟨b, j, none⟩ = w.frozen? ⟨b, j, none⟩
  old0 : ∃ v, w.cell? ⟨b, o, none⟩ = some (.bool v)
  old1 : ∃ A n c, w.cell? ⟨b, o + 1, none⟩ = some (.slice A n c)

theorem IntAt.lt {w : World} {b o : Nat} {z : Int} (h : IntAt w b o z) : b < w.heap.size := World.block_lt_of_cell? w ⟨b, o, none⟩ h.neg
theorem rd_keep_cells {w w' : World} {S : Nat → Prop} {size n : Nat} {A : Option Addr} {vs : List Value} (h : Rd w S size A n vs) (hk : ∀ b o v, v ∈ vs → w.cell? ⟨b, o, none⟩ = some v → w'.cell? ⟨b, o, none⟩ = some v) : Rd w' S size A n vs :=
  ⟨h.len, fun j v hv => by
    obtain ⟨b, o, e, hs, hc⟩ := h.at_ j v hv
    exact ⟨b, o, e, hs, hk _ _ _ (List.mem_of_getElem? hv) hc⟩⟩
theorem Upd.cellOf {w w' : World} {b o : Nat} (h : Upd w w' b o) {b' o' : Nat} {v : Value} (hv : w.cell? ⟨b', o', none⟩ = some v) (hne : b' = b → o' ≠ o ∧ o' ≠ o + 1) : w'.cell? ⟨b', o', none⟩ = some v := by
  by_cases e : b' = b
  · subst e
    rw [h.cell o' (hne rfl).1 (hne rfl).2]; exact hv
  · exact (World.cell?_of_block (a := ⟨b', o', none⟩) (h.blk b' (World.block_lt_of_cell? w ⟨b', o', none⟩ hv) e)).trans hv
theorem Upd.num {w w' : World} {b o : Nat} (h : Upd w w' b o) {b' o' : Nat} {k : IntKind} {x : Int} (hv : w.cell? ⟨b', o', none⟩ = some (.int k x)) : w'.cell? ⟨b', o', none⟩ = some (.int k x) := by
  refine h.cellOf hv fun e => ?_
  subst e
  obtain ⟨v, h0⟩ := h.old0
  obtain ⟨A, n, c, h1⟩ := h.old1
  constructor
  · rintro rfl
    rw [h0] at hv; cases hv
  · rintro rfl
    rw [h1] at hv; cases hv
theorem Upd.frozenOf {w w' : World} {b o : Nat} (h : Upd w w' b o) {b' o' : Nat} (hl : b' < w.heap.size) : w'.frozen? ⟨b', o', none⟩ = w.frozen? ⟨b', o', none⟩ := by
  by_cases e : b' = b
  · subst e; exact h.fz o'
  · exact World.frozen?_of_block (a := ⟨b', o', none⟩) (h.blk b' hl e)
theorem Upd.words {w w' : World} {b o : Nat} (h : Upd w w' b o) {S : Nat → Prop} {A : Option Addr} {n : Nat} {xs : List Nat} (hr : RdE Wc 1 w S A n xs) : RdE Wc 1 w' S A n xs :=
  ⟨rd_keep_cells hr.rd fun b o v hv hc => by
    obtain ⟨x, _, hx⟩ := List.mem_flatMap.1 hv
    simp [Wc] at hx
    subst hx
    exact h.num hc, hr.num⟩
theorem Upd.below {w w' : World} {b o B : Nat} (h : Upd w w' b o) (hB : B ≤ b) (hs : B ≤ w.heap.size) : Below B w w' := ⟨h.os, h.tape, h.output, h.size, fun k hk => h.blk k (by omega) (by omega)⟩
theorem IntAt.upd {w w' : World} {b o b' o' : Nat} {z : Int} (h : IntAt w b' o' z) (hu : Upd w w' b o) (hne : b' = b → o' ≠ o) : IntAt w' b' o' z := by
  obtain ⟨A, c, h1, h2, h3⟩ := h.abs
  have hlt := h.lt
  refine ⟨hu.cellOf h.neg fun e => ⟨hne e, ?_⟩, ⟨A, c, hu.cellOf h1 fun e => ⟨?_, ?_⟩, h2, (hu.words h3).imp fun d hd => Nat.lt_of_lt_of_le hd hu.size⟩, ?_, ?_⟩
  · subst e
    rintro rfl
    obtain ⟨_, _, _, h1⟩ := hu.old1
    rw [h.neg] at h1; cases h1
  · subst e
    rintro rfl
    obtain ⟨_, h0⟩ := hu.old0
    rw [h1] at h0; cases h0
  · have := hne e; omega
  · rw [hu.frozenOf hlt]; exact h.fz
  · rw [hu.frozenOf hlt]; exact h.fz1
theorem IntAt.below {w w' : World} {b o : Nat} {z : Int} (h : IntAt w b o z) (hb : Below w.heap.size w w') : IntAt w' b o z := by
  obtain ⟨A, c, h1, h2, h3⟩ := h.abs
  have hlt := h.lt
  exact ⟨bat hb h.neg, ⟨A, c, bat hb h1, h2, (h3.keep (Keeps.below hb fun d hd => hd)).imp fun d hd => Nat.lt_of_lt_of_le hd hb.size⟩, bfz hb hlt h.fz, bfz hb hlt h.fz1⟩
theorem Upd.after {w w1 w2 : World} {b o : Nat} (hb : Below w.heap.size w w1) (h : Upd w1 w2 b o) (hl : b < w.heap.size) : Upd w w2 b o :=
  ⟨h.os.trans hb.os, h.tape.trans hb.tape, h.output.trans hb.output, Nat.le_trans hb.size h.size, fun k hk hne => (h.blk k (by have := hb.size; omega) hne).trans (hb.block k hk),
    fun j h1 h2 => (h.cell j h1 h2).trans (hb.cell (p := ⟨b, j, none⟩) hl), fun j => (h.fz j).trans (hb.frozen (p := ⟨b, j, none⟩) hl),
    by obtain ⟨v, hv⟩ := h.old0; exact ⟨v, (hb.cell (p := ⟨b, o, none⟩) hl).symm.trans hv⟩,
    by obtain ⟨A, n, c, hv⟩ := h.old1; exact ⟨A, n, c, (hb.cell (p := ⟨b, o + 1, none⟩) hl).symm.trans hv⟩⟩
theorem IntAt.of_cells {w : World} {b o : Nat} {z : Int} {A : Option Addr} {n c : Nat} {s : Bool} (h0 : w.cell? ⟨b, o, none⟩ = some (.bool s)) (h1 : w.cell? ⟨b, o + 1, none⟩ = some (.slice A n c)) (hs : s = decide (z < 0)) (hn : n = (dig z.natAbs).length) (hc : n ≤ c)
    (hr : RdE Wc 1 w (fun d => d < w.heap.size) A n (dig z.natAbs)) (f0 : w.frozen? ⟨b, o, none⟩ = false) (f1 : w.frozen? ⟨b, o + 1, none⟩ = false) : IntAt w b o z := by
  subst hs hn
  exact ⟨h0, ⟨A, c, h1, hc, hr⟩, f0, f1⟩

/-- block b alone was changed, and no number in it; besides there are new blocks -/
structure UpB (w w' : World) (b : Nat) : Prop where
  os : w'.os = w.os
  tape : w'.tape = w.tape
  output : w'.output = w.output
  size : w.heap.size ≤ w'.heap.size
  blk : ∀ k, k < w.heap.size → k ≠ b → w'.heap[k]? = w.heap[k]?
  num : ∀ (o : Nat) (k : IntKind) (x : Int), w.cell? ⟨b, o, none⟩ = some (.int k x) → w'.cell? ⟨b, o, none⟩ = some (.int k x)
theorem Upd.toB {w w' : World} {b o : Nat} (h : Upd w w' b o) : UpB w w' b := ⟨h.os, h.tape, h.output, h.size, h.blk, fun _ _ _ hv => h.num hv⟩
theorem UpB.trans {w w1 w2 : World} {b : Nat} (h : UpB w w1 b) (k : UpB w1 w2 b) : UpB w w2 b :=
  ⟨k.os.trans h.os, k.tape.trans h.tape, k.output.trans h.output, Nat.le_trans h.size k.size, fun i hi hne => (k.blk i (by have := h.size; omega) hne).trans (h.blk i hi hne), fun o kd x hv => k.num o kd x (h.num o kd x hv)⟩
theorem UpB.of_below {w w' : World} (b : Nat) (h : Below w.heap.size w w') : UpB w w' b :=
  ⟨h.os, h.tape, h.output, h.size, fun k hk _ => h.block k hk, fun _ _ _ hv => bat h hv⟩
theorem UpB.below {w w' : World} {b B : Nat} (h : UpB w w' b) (hB : B ≤ b) (hs : B ≤ w.heap.size) : Below B w w' := ⟨h.os, h.tape, h.output, h.size, fun k hk => h.blk k (by omega) (by omega)⟩
theorem UpB.numOf {w w' : World} {b : Nat} (h : UpB w w' b) {b' o' : Nat} {k : IntKind} {x : Int} (hv : w.cell? ⟨b', o', none⟩ = some (.int k x)) : w'.cell? ⟨b', o', none⟩ = some (.int k x) := by
  by_cases e : b' = b
  · subst e; exact h.num _ _ _ hv
  · exact (World.cell?_of_block (a := ⟨b', o', none⟩) (h.blk b' (World.block_lt_of_cell? w ⟨b', o', none⟩ hv) e)).trans hv
theorem UpB.words {w w' : World} {b : Nat} (h : UpB w w' b) {S : Nat → Prop} {A : Option Addr} {n : Nat} {xs : List Nat} (hr : RdE Wc 1 w S A n xs) : RdE Wc 1 w' S A n xs :=
  ⟨rd_keep_cells hr.rd fun b o v hv hc => by
    obtain ⟨x, _, hx⟩ := List.mem_flatMap.1 hv
    simp [Wc] at hx
    subst hx
    exact h.numOf hc, hr.num⟩
theorem UpB.limbs {w w' : World} {b : Nat} (h : UpB w w' b) {S : Nat → Prop} {A : Option Addr} {n : Nat} {xs : List Nat} (hr : RdE Lc 1 w S A n xs) : RdE Lc 1 w' S A n xs :=
  ⟨rd_keep_cells hr.rd fun b o v hv hc => by
    obtain ⟨x, _, hx⟩ := List.mem_flatMap.1 hv
    simp [Lc] at hx
    subst hx
    exact h.numOf hc, hr.num⟩
end Go.Proofs.Ytfepmbpcdfdlhaa

/- small: the walk -/
namespace Go.Proofs.Ytfepmbpcdfdlhaa
open Go.RowKit Go.Sort

theorem or_low32 {x y : Nat} (hx : x < 4294967296) (hy : y < 4294967296) : bits .or .u64 ((y : Int) * 4294967296) (x : Int) = ((y * 4294967296 + x : Nat) : Int) := by
  have h := bits_join .u64 64 (by decide) wraps_u64 32 ((y : Int) * 4294967296) (x : Int) (by omega) (by omega) (by omega) (by omega) (by omega) (by omega)
  rw [h]
  omega

set_option maxRecDepth 100000 in
theorem small_any (A : Option Addr) (n c : Nat) (a : List Nat) (d : Nat) (S : Nat → Prop) (w : World) (hx : RdE Wc 1 w S A n a) (ha : Wds a) (hS : ∀ b, S b → b < w.heap.size) (hn : n ≤ 100000000000) (hd0 : 0 < d) (hd : d < 4294967296) :
    Calls Try.prog 115 #[.slice A n c, .int .u32 d] w fun e w' => ∃ A' c', e = .returned (.tuple #[.slice A' (dig (nv a / d)).length c', .int .u32 ((nv a % d : Nat) : Int)]) ∧ (dig (nv a / d)).length ≤ c' ∧ RdE Wc 1 w' (fun b => w.heap.size ≤ b ∧ b < w'.heap.size) A' (dig (nv a / d)).length (dig (nv a / d)) ∧ Below w.heap.size w w' := by
  obtain ⟨i0, hi0, hz0, hz1, hz2⟩ := info_parts' info_u32
  have HX := Lib.hid hx
  have HA := Lib.hid ha
  have HS := Lib.hid hS
  have hdi : (0 : Int) < (d : Int) := by omega
  have hdz : ((d : Int) == 0) = false := by simp; omega
  clear hx ha hS
  go_enter Try.func115, Try.ntmps115
  go_wp2_with (at_make; go_must (refine wpList_make_full _ rfl _ _ _ rfl w.heap.size 135 i0 _ 1 Try.underlying78 hi0 hz0 hz1 .i64 .i64 _ _ n rfl rfl (by omega) (by omega) (by rw [hz2]; omega) (by simp only [maxLen]; omega) (Nat.le_refl _) ?_); intro w1 hown1 hg1)
  have hinv := hown1
  rw [made_u32] at hinv
  have HI := Lib.hid hinv
  have HB1 := Lib.hid (below_of_grown hg1 (fun g hg => by cases hg))
  clear hown1 hg1 hinv
  go_loopw [7, 8] (fun rv iv wr => ∃ (t r : Nat) (xs : List Nat), t ≤ n ∧ rv = .int .u64 r ∧ (∃ z : Int, iv = .int .i64 z ∧ z = (t : Int) - 1) ∧ r < d ∧ xs.length = n ∧ Wds xs ∧ nv a = nv (a.take t) + W32 ^ t * r + d * nv xs ∧ ZeroTo xs t ∧ wr.ownsRow w.heap.size 135 1 (.slice (some ⟨w.heap.size, 0, none⟩) n n) n (xs.flatMap Wc) ∧ Below w.heap.size w wr) (fun _ i _ => (intOf i + 1).toNat)
  case atStart => exact ⟨n, 0, List.replicate n 0, Nat.le_refl _, rfl, ⟨_, rfl, rfl⟩, hd0, by simp, fun x hx => by rw [(List.mem_replicate.1 hx).2]; decide, by rw [List.take_of_length_le (by rw [HX.out.num]; exact Nat.le_refl _), (zero_rep n 0).val]; simp [nv], zeroTo_rep _ _, HI.out, HB1.out⟩
  case round =>
    obtain ⟨t, r, xs, ht, rfl, ⟨z, rfl, hz⟩, hr, hxl, hxw, hsum, hzt, hown, hbw⟩ := hrel
    have HO := Lib.hid hown
    have HBW := Lib.hid hbw
    have HXW := Lib.hid hxw
    have HSUM := Lib.hid hsum
    have HZT := Lib.hid hzt
    clear hown hbw hxw hsum hzt
    by_cases h0 : t = 0
    · subst h0
      obtain rfl : z = -1 := by omega
      have hfin := HSUM.out
      have e : nv (a.take 0) = 0 := by simp [nv]
      rw [e, Nat.pow_zero, Nat.one_mul, Nat.zero_add] at hfin
      have hq : nv a / d = nv xs := by rw [hfin, Nat.add_mul_div_left _ _ hd0, Nat.div_eq_of_lt hr, Nat.zero_add]
      have hm : nv a % d = r := by rw [hfin, Nat.add_mul_mod_self_left, Nat.mod_eq_of_lt hr]
      have HQ := Lib.hid hq
      have HM := Lib.hid hm
      clear hfin e hq hm hz
      go_wp2_with fail
      refine (trim_own w.heap.size w.heap.size n n xs _ HO.out HXW.out (by omega) (Nat.le_refl _)).mono ?_
      rintro e w9 ⟨rfl, hl9, hr9, hb9⟩
      have HR9 := Lib.hid hr9
      have HL9 := Lib.hid hl9
      have HB9 := Lib.hid (HBW.out.trans (hb9.mono HBW.out.size))
      clear hr9 hl9 hb9
      go_wp2_with fail
      go_ret2
      rw [HQ.out, HM.out]
      exact ⟨_, _, rfl, HL9.out, HR9.out, HB9.out⟩
    · obtain ⟨j, rfl⟩ : ∃ j, t = j + 1 := ⟨t - 1, by omega⟩
      obtain rfl : z = (j : Int) := by omega
      clear hz
      obtain ⟨x, hx⟩ := get_some HX.out.num (show j < n by omega)
      obtain ⟨b1, o1, rfl, hSb1, hc⟩ := HX.out.elem Wc.clen hx (by omega)
      have q1 : wr.cell? ⟨b1, o1 + j, none⟩ = some (.int .u32 (x : Int)) := by have h := (HBW.out.cell (p := ⟨b1, _, none⟩) (HS.out _ hSb1)).trans (hc 0 _ rfl); rw [Nat.mul_one, Nat.add_zero] at h; exact h
      have hxlt := hw0 HA.out hx
      obtain ⟨o, ho⟩ := get_some hxl (show j < n by omega)
      obtain rfl : o = 0 := HZT.out _ _ (by omega) ho
      have q0 := own_wc HO.out ho
      have hf := HO.out.frozenAt j
      have hor := or_low32 hxlt (show r < 4294967296 by omega)
      have HXX := Lib.hid hx
      have HOO := Lib.hid ho
      clear hx hc ho
      go_wp2_with fail
      have hplt : r * 4294967296 + x < d * 4294967296 := by
        have := Nat.mul_le_mul_right 4294967296 (show r + 1 ≤ d by omega)
        rw [Nat.add_mul, Nat.one_mul] at this
        omega
      have hqlt : (r * 4294967296 + x) / d < 4294967296 := Nat.div_lt_of_lt_mul hplt
      have ho1 := own_set_wc HO.out (i := j) (by omega) ((r * 4294967296 + x) / d)
      have e : (((r : Int) * 4294967296 + x) / d % 4294967296) = (((r * 4294967296 + x) / d : Nat) : Int) := by
        have h1 : (((r * 4294967296 + x : Nat) : Int) / (d : Int)) = (((r * 4294967296 + x) / d : Nat) : Int) := (Int.natCast_ediv _ _).symm
        have h2 : (r : Int) * 4294967296 + x = ((r * 4294967296 + x : Nat) : Int) := by omega
        rw [h2, h1]
        clear h1 ho1
        generalize (r * 4294967296 + x) / d = Q at *
        omega
      rw [e]
      refine ⟨⟨j, (r * 4294967296 + x) % d, xs.set j ((r * 4294967296 + x) / d), by omega, ?_, ⟨_, rfl, rfl⟩, Nat.mod_lt _ hd0, by simp [hxl], wds_set HXW.out hqlt, ?_, (HZT.out.mono (by omega)).set (Nat.le_refl _), ho1.1, HBW.out.grown ho1.2 (Nat.le_of_lt (HO.out.lt w.heap.size rfl).2) (fun g hg => by injection hg with hg; omega)⟩, by simp [intOf]⟩
      · rfl
      · have h1 := HSUM.out
        rw [nv_take_succ HXX.out, Nat.pow_succ] at h1
        have h2 := nv_set (v := (r * 4294967296 + x) / d) HOO.out
        rw [Nat.mul_zero, Nat.add_zero] at h2
        rw [h2]
        exact small_step h1 (Nat.div_add_mod _ _).symm

end Go.Proofs.Ytfepmbpcdfdlhaa
