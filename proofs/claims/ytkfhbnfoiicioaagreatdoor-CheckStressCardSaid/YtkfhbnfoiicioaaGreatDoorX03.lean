import Derived.Test.YtkfhbnfoiicioaaGreatDoorX02
import Derived.Laws.Pointers
import Derived.Deep.Fields
import Derived.Laws.CopyOwn
set_option linter.unusedSimpArgs false
set_option linter.unusedVariables false
/- mul: the walk -/
namespace Go.Proofs.YtkfhbnfoiicioaaGreatDoor
open Go.RowKit Go.Sort

theorem mul_step {xs : List Nat} {i j q o p x y : Nat} {R Y : Nat} (ho : xs[i + j]? = some o) (h : nv xs + W32 ^ (i + j) * q = R + W32 ^ i * (x * Y)) (hp : p = q + (x * y + o)) :
    nv (xs.set (i + j) (p % W32)) + W32 ^ (i + (j + 1)) * (p / W32) = R + W32 ^ i * (x * (Y + W32 ^ j * y)) := by
  have h1 := nv_set (v := p % W32) ho
  have h2 : W32 ^ (i + j) * (p % W32) + W32 ^ (i + (j + 1)) * (p / W32) = W32 ^ (i + j) * p := by
    rw [show i + (j + 1) = i + j + 1 by omega, Nat.pow_succ, Nat.mul_assoc, ← Nat.mul_add, Nat.mod_add_div]
  have h3 : W32 ^ (i + j) * p = W32 ^ (i + j) * q + (W32 ^ (i + j) * (x * y) + W32 ^ (i + j) * o) := by rw [hp, Nat.mul_add, Nat.mul_add]
  have h4 : W32 ^ i * (x * (Y + W32 ^ j * y)) = W32 ^ i * (x * Y) + W32 ^ (i + j) * (x * y) := by
    rw [Nat.mul_add, Nat.mul_add, Nat.pow_add]
    congr 1
    rw [Nat.mul_left_comm x, Nat.mul_assoc]
  rw [h4]
  omega

set_option maxRecDepth 100000 in
theorem mul_any (A B : Option Addr) (n m c d : Nat) (a b : List Nat) (S S' : Nat → Prop) (w : World) (hx : RdE Wc 1 w S A n a) (hy : RdE Wc 1 w S' B m b) (ha : Wds a) (hb : Wds b) (hS : ∀ b, S b → b < w.heap.size) (hS' : ∀ b, S' b → b < w.heap.size)
    (hn : n ≤ 100000000000) (hm : m ≤ 100000000000) :
    Calls Tryz.prog 126 #[.slice A n c, .slice B m d] w fun e w' => ∃ A' c', e = .returned (.slice A' (dig (nv a * nv b)).length c') ∧ (dig (nv a * nv b)).length ≤ c' ∧ RdE Wc 1 w' (fun b => w.heap.size ≤ b ∧ b < w'.heap.size) A' (dig (nv a * nv b)).length (dig (nv a * nv b)) ∧ Below w.heap.size w w' := by
  obtain ⟨i0, hi0, hz0, hz1, hz2⟩ := info_parts' info_u32
  have HX := Lib.hid hx
  have HY := Lib.hid hy
  have HA := Lib.hid ha
  have HB := Lib.hid hb
  have HS := Lib.hid hS
  have HS' := Lib.hid hS'
  clear hx hy ha hb hS hS'
  have hzero : (n = 0 ∨ m = 0) → nv a * nv b = 0 := by
    rintro (h | h)
    · rw [List.eq_nil_of_length_eq_zero (HX.out.num.trans h)]; simp [nv]
    · rw [List.eq_nil_of_length_eq_zero (HY.out.num.trans h)]; simp [nv]
  by_cases h0 : n = 0
  · have HZ := Lib.hid (hzero (.inl h0))
    subst h0
    clear hzero
    go_enter Tryz.func126, Tryz.ntmps126
    go_wp2_with fail
    go_ret
    rw [HZ.out]
    exact ⟨none, 0, rfl, Nat.le_refl _, RdE.nil .., Below.refl _ _⟩
  · by_cases h1 : m = 0
    · have HZ := Lib.hid (hzero (.inr h1))
      subst h1
      clear hzero
      go_enter Tryz.func126, Tryz.ntmps126
      go_wp2_with fail
      go_ret
      rw [HZ.out]
      exact ⟨none, 0, rfl, Nat.le_refl _, RdE.nil .., Below.refl _ _⟩
    · clear hzero
      have e0 : ((n : Int) == 0) = false := by simp; omega
      have e1 : ((m : Int) == 0) = false := by simp; omega
      go_enter Tryz.func126, Tryz.ntmps126
      go_wp2_with (at_make; go_must (refine wpList_make_full _ rfl _ _ _ rfl w.heap.size 139 i0 _ 1 Tryz.underlying120 hi0 hz0 hz1 .i64 .i64 _ _ (n + m) rfl rfl (by omega) (by omega) (by rw [hz2]; omega) (by simp only [maxLen]; omega) (Nat.le_refl _) ?_); intro w1 hown1 hg1)
      have hinv := hown1
      rw [made_u32] at hinv
      have HI := Lib.hid hinv
      have HB1 := Lib.hid (below_of_grown hg1 (fun g hg => by cases hg))
      clear hown1 hg1 hinv
      go_loopw [6] (fun i wr => ∃ (k : Nat) (xs : List Nat), k ≤ n ∧ i = .int .i64 k ∧ xs.length = n + m ∧ Wds xs ∧ nv xs = nv (a.take k) * nv b ∧ ZeroFrom xs (k + m) ∧ wr.ownsRow w.heap.size 139 1 (.slice (some ⟨w.heap.size, 0, none⟩) (n + m) (n + m)) (n + m) (xs.flatMap Wc) ∧ Below w.heap.size w wr) (fun i _ => n - (intOf i).toNat)
      case atStart => exact ⟨0, List.replicate (n + m) 0, Nat.zero_le _, rfl, by simp, fun x hx => by rw [(List.mem_replicate.1 hx).2]; decide, by rw [(zero_rep (n + m) 0).val]; simp [nv], zero_rep _ _, HI.out, HB1.out⟩
      case round =>
        obtain ⟨k, xs, hk, rfl, hxl, hxw, hsum, hzf, hown, hbw⟩ := hrel
        by_cases hlt : k < n
        · obtain ⟨x, hx⟩ := get_some HX.out.num hlt
          obtain ⟨b1, o1, rfl, hSb1, hc⟩ := HX.out.elem Wc.clen hx (by omega)
          have q1 : ∀ wi : World, Below w.heap.size w wi → wi.cell? ⟨b1, o1 + k, none⟩ = some (.int .u32 (x : Int)) := fun wi hbi => by have h := (hbi.cell (p := ⟨b1, _, none⟩) (HS.out _ hSb1)).trans (hc 0 _ rfl); rw [Nat.mul_one, Nat.add_zero] at h; exact h
          have Q1 := Lib.hid q1
          have hxlt := hw0 HA.out hx
          have HO := Lib.hid hown
          have HBW := Lib.hid hbw
          have HSUM := Lib.hid hsum
          have HXX := Lib.hid hx
          have HXW := Lib.hid hxw
          have HZF := Lib.hid hzf
          clear hown hbw hsum hx hc hxw hzf q1
          obtain ⟨wo, rfl⟩ : ∃ wo : World, wo = wr := ⟨_, rfl⟩
          go_wp2_with fail
          have hxlt' : (x : Int) < 4294967296 := by omega
          go_loopw [7, 8] (fun cv jv wr => ∃ (l q : Nat) (ys : List Nat), l ≤ m ∧ cv = .int .u64 q ∧ jv = .int .i64 l ∧ q < 4294967296 ∧ ys.length = n + m ∧ Wds ys ∧ nv ys + W32 ^ (k + l) * q = nv xs + W32 ^ k * (x * nv (b.take l)) ∧ ZeroFrom ys (k + m) ∧ wr.ownsRow w.heap.size 139 1 (.slice (some ⟨w.heap.size, 0, none⟩) (n + m) (n + m)) (n + m) (ys.flatMap Wc) ∧ Below w.heap.size w wr) (fun _ j _ => m - (intOf j).toNat)
          case atStart => exact ⟨0, 0, xs, Nat.zero_le _, rfl, rfl, by decide, hxl, HXW.out, by simp [nv], HZF.out, HO.out, HBW.out⟩
          case round =>
            clear HO HBW
            obtain ⟨l, q, ys, hl, rfl, rfl, hq, hyl, hyw, hsm, hzf, hown, hbw⟩ := hrel
            have q1 := Q1.out wr hbw
            by_cases hlm : l < m
            · obtain ⟨y, hy⟩ := get_some HY.out.num hlm
              obtain ⟨b2, o2, rfl, hSb2, hc2⟩ := HY.out.elem Wc.clen hy (by omega)
              have q2 : wr.cell? ⟨b2, o2 + l, none⟩ = some (.int .u32 (y : Int)) := by have h := (hbw.cell (p := ⟨b2, _, none⟩) (HS'.out _ hSb2)).trans (hc2 0 _ rfl); rw [Nat.mul_one, Nat.add_zero] at h; exact h
              have hylt := hw0 HB.out hy
              obtain ⟨o, ho⟩ := get_some hyl (show k + l < n + m by omega)
              have holt := hw0 hyw ho
              have q0 : wr.cell? ⟨w.heap.size, k + l, none⟩ = some (.int .u32 (o : Int)) := own_wc hown ho
              have hf := hown.frozenAt (k + l)
              have hxy : x * y ≤ 18446744065119617025 := Nat.le_trans (Nat.mul_le_mul (show x ≤ 4294967295 by omega) (show y ≤ 4294967295 by omega)) (by decide)
              have hxy1 : (x : Int) * (y : Int) ≤ 18446744065119617025 := by rw [← Int.natCast_mul]; omega
              have hxy0 : 0 ≤ (x : Int) * (y : Int) := by rw [← Int.natCast_mul]; omega
              have hs1 : IntKind.i64.wrap ((k : Int) + l) = (k : Int) + l := IntWalk.i64_in _ (by omega)
              have hs2 : 0 ≤ (k : Int) + l := by omega
              have hs3 : ((k : Int) + l).toNat = k + l := by omega
              have HO := Lib.hid hown
              have HBW := Lib.hid hbw
              have HSM := Lib.hid hsm
              have HYY := Lib.hid hy
              have HYW := Lib.hid hyw
              have HZ := Lib.hid hzf
              have HOO := Lib.hid ho
              clear hown hbw hsm hy hyw hzf ho hc2
              go_wp2_with fail
              go_quiet (fail)
              go_wp2_with fail
              have ho1 := own_set_wc (own_drewN HO.out nq) (i := k + l) (by omega) ((q + (x * y + o)) % W32)
              have HO1 := Lib.hid ho1.1
              have HB2 := Lib.hid ((below_drewN HBW.out nq).grown ho1.2 (Nat.le_of_lt (HO.out.lt w.heap.size rfl).2) (fun g hg => by injection hg with hg; omega))
              clear ho1
              have hplt : q + (x * y + o) < 18446744073709551616 := by omega
              refine ⟨⟨l + 1, (q + (x * y + o)) / W32, ys.set (k + l) ((q + (x * y + o)) % W32), by omega, ?_, by go_num, ?_, by simp [hyl], wds_set HYW.out (Nat.mod_lt _ (by decide)), ?_, HZ.out.set (by omega), HO1.out, HB2.out⟩, by simp [intOf]; omega⟩
              · rfl
              · show (q + (x * y + o)) / 4294967296 < 4294967296; omega
              · rw [nv_take_succ HYY.out]; exact mul_step HOO.out HSM.out rfl
            · obtain rfl : m = l := by omega
              have hzq : ∃ o, ys[k + m]? = some o := get_some hyl (show k + m < n + m by omega)
              obtain ⟨o, ho⟩ := hzq
              obtain rfl : o = 0 := hzf _ _ (Nat.le_refl _) ho
              have q0 := own_wc hown ho
              have hf := hown.frozenAt (k + m)
              have HO := Lib.hid hown
              have HBW := Lib.hid hbw
              have hfin : nv (ys.set (k + m) q) = nv (a.take (k + 1)) * nv b := by
                have h := nv_set (v := q) ho
                have e : b.take m = b := List.take_of_length_le (by rw [HY.out.num]; omega)
                rw [hsm, HSUM.out, Nat.mul_zero, Nat.add_zero, e] at h
                rw [h, nv_take_succ HXX.out, Nat.add_mul, Nat.mul_assoc]
              have HFIN := Lib.hid hfin
              have HZ := Lib.hid (ZeroFrom.set_at (v := q) hzf)
              have HYW := Lib.hid (wds_set (k := k + m) (v := q) hyw hq)
              have ho1 := own_set_wc hown (i := k + m) (by omega) q
              have HO1 := Lib.hid ho1.1
              have HB2 := Lib.hid (hbw.grown ho1.2 (Nat.le_of_lt (hown.lt w.heap.size rfl).2) (fun g hg => by injection hg with hg; omega))
              clear hown hbw hsm hzf hyw hfin ho1 ho
              go_wp2_with fail
              refine ⟨⟨k + 1, ys.set (k + m) q, by omega, by go_num, by simp [hyl], HYW.out, HFIN.out, HZ.out.mono (by omega), HO1.out, HB2.out⟩, by simp [intOf]; omega⟩
        · obtain rfl : n = k := by omega
          have HO := Lib.hid hown
          have HBW := Lib.hid hbw
          have HXW := Lib.hid hxw
          have hfin : nv xs = nv a * nv b := by
            rw [hsum, List.take_of_length_le (by rw [HX.out.num]; exact Nat.le_refl _)]
          have HFIN := Lib.hid hfin
          clear hown hbw hxw hsum hfin hzf
          go_wp2_with fail
          refine (trim_own w.heap.size w.heap.size (n + m) (n + m) xs _ HO.out HXW.out (by omega) (Nat.le_refl _)).mono ?_
          rintro e w9 ⟨rfl, hl9, hr9, hb9⟩
          rw [HFIN.out] at hl9 hr9 ⊢
          have HR9 := Lib.hid hr9
          have HL9 := Lib.hid hl9
          have HB9 := Lib.hid (HBW.out.trans (hb9.mono HBW.out.size))
          clear hr9 hl9 hb9
          go_wp2_with fail
          go_ret
          exact ⟨_, _, rfl, HL9.out, HR9.out, HB9.out⟩

end Go.Proofs.YtkfhbnfoiicioaaGreatDoor

/- div: the easy cases -/
namespace Go.Proofs.YtkfhbnfoiicioaaGreatDoor
open Go.RowKit Go.Sort

theorem dig_len_small {x : Nat} (h : x < 18446744073709551616) : (dig x).length ≤ 2 := dig_len_le (k := 2) h
end Go.Proofs.YtkfhbnfoiicioaaGreatDoor

/- give: a number is set -/
namespace Go.Proofs.YtkfhbnfoiicioaaGreatDoor
open Go.RowKit Go.Sort

theorem two_set {w : World} {b o : Nat} {s : Bool} {A0 : Option Addr} {n0 c0 : Nat} (u : Bool) (A : Option Addr) (n c : Nat) (h0 : w.cell? ⟨b, o, none⟩ = some (.bool s)) (h1 : w.cell? ⟨b, o + 1, none⟩ = some (.slice A0 n0 c0)) :
    Upd w ((w.setCell ⟨b, o + 1, none⟩ (.slice A n c)).setCell ⟨b, o, none⟩ (.bool u)) b o ∧ ((w.setCell ⟨b, o + 1, none⟩ (.slice A n c)).setCell ⟨b, o, none⟩ (.bool u)).cell? ⟨b, o, none⟩ = some (.bool u) ∧
      ((w.setCell ⟨b, o + 1, none⟩ (.slice A n c)).setCell ⟨b, o, none⟩ (.bool u)).cell? ⟨b, o + 1, none⟩ = some (.slice A n c) := by
  refine ⟨⟨rfl, rfl, rfl, by simp, fun k hk hne => ?_, fun j h2 h3 => ?_, fun j => ?_, ⟨_, h0⟩, ⟨_, _, _, h1⟩⟩, ?_, ?_⟩
  · rw [Below.heap_setCell _ _ _ _ hne, Below.heap_setCell _ _ _ _ hne]
  · simp [go_sem, h2, h3]
  · simp [go_sem]
  · simp [go_sem, h0]
  · simp [go_sem, h1]

theorem give_int (b o : Nat) (z z0 : Int) (neg : Bool) (A : Option Addr) (n c : Nat) (w : World) (hz : IntAt w b o z0) (hn : n = (dig z.natAbs).length) (hc : n ≤ c) (hr : RdE Wc 1 w (fun d => d < w.heap.size) A n (dig z.natAbs))
    (hs : (neg && decide (0 < n)) = decide (z < 0)) :
    Calls Tryz.prog 113 #[.pointer (some ⟨b, o, none⟩), .bool neg, .slice A n c] w fun e w' => e = .returned (.pointer (some ⟨b, o, none⟩)) ∧ IntAt w' b o z ∧ Upd w w' b o := by
  obtain ⟨A0, c0, h1, _, _⟩ := hz.abs
  have h0 := hz.neg
  have hf := hz.fz
  have hf1 := hz.fz1
  have HZ := Lib.hid hz
  have HR := Lib.hid hr
  have HS := Lib.hid hs
  have HN := Lib.hid hn
  clear hz hr hs hn
  have H2 := fun u => Lib.hid (two_set u A n c h0 h1)
  cases neg
  · go_enter Tryz.func113, Tryz.ntmps113
    go_wp2_with fail
    go_ret
    obtain ⟨hu, k0, k1⟩ := (H2 false).out
    refine ⟨rfl, IntAt.of_cells k0 k1 ?_ HN.out hc ((hu.words HR.out).imp fun d hd => Nat.lt_of_lt_of_le hd hu.size) (by rw [hu.fz]; exact hf) (by rw [hu.fz]; exact hf1), hu⟩
    have := HS.out
    simpa using this
  · by_cases hp : 0 < n
    · have hp' : decide ((0 : Int) < (n : Int)) = true := by simp; omega
      go_enter Tryz.func113, Tryz.ntmps113
      go_wp2_with fail
      go_ret
      obtain ⟨hu, k0, k1⟩ := (H2 true).out
      refine ⟨rfl, IntAt.of_cells k0 k1 ?_ HN.out hc ((hu.words HR.out).imp fun d hd => Nat.lt_of_lt_of_le hd hu.size) (by rw [hu.fz]; exact hf) (by rw [hu.fz]; exact hf1), hu⟩
      have := HS.out
      simpa [hp] using this
    · have hp' : decide ((0 : Int) < (n : Int)) = false := by simp; omega
      go_enter Tryz.func113, Tryz.ntmps113
      go_wp2_with fail
      go_ret
      obtain ⟨hu, k0, k1⟩ := (H2 false).out
      refine ⟨rfl, IntAt.of_cells k0 k1 ?_ HN.out hc ((hu.words HR.out).imp fun d hd => Nat.lt_of_lt_of_le hd hu.size) (by rw [hu.fz]; exact hf) (by rw [hu.fz]; exact hf1), hu⟩
      have := HS.out
      simpa [hp] using this

theorem sgn_and {neg : Bool} {z : Int} {n : Nat} (hn : n = (dig z.natAbs).length) (h : z ≠ 0 → neg = decide (z < 0)) : (neg && decide (0 < n)) = decide (z < 0) := by
  by_cases hz : z = 0
  · subst hz
    rw [hn]; simp [dig_zero]
  · have h1 : 0 < n := by
      rw [hn]
      exact List.length_pos_iff.2 (dig_pos (by omega))
    rw [h hz]; simp [h1]
theorem drew_rd {α : Type} {f : α → List Value} {size : Nat} {w : World} {S : Nat → Prop} {A : Option Addr} {n : Nat} {xs : List α} (h : RdE f size w S A n xs) : RdE f size w.drew S A n xs := h.keep fun _ _ => rfl
/-- the words of an Int, apart from its cells -/
theorem IntAt.open {w : World} {b o : Nat} {x : Int} (h : IntAt w b o x) : ∃ (A : Option Addr) (n c : Nat) (s : Bool), Hid (n = (dig x.natAbs).length) ∧ Hid (s = decide (x < 0)) ∧ w.cell? ⟨b, o, none⟩ = some (.bool s) ∧ w.cell? ⟨b, o + 1, none⟩ = some (.slice A n c) ∧ n ≤ c ∧ Hid (RdE Wc 1 w.drew (fun d => d < w.drew.heap.size) A n (dig x.natAbs)) := by
  obtain ⟨A, c, h1, hc, hr⟩ := h.abs
  exact ⟨A, _, c, _, rfl, rfl, h.neg, h1, hc, drew_rd hr⟩

end Go.Proofs.YtkfhbnfoiicioaaGreatDoor

/- div: the long division -/
namespace Go.Proofs.YtkfhbnfoiicioaaGreatDoor
open Go.RowKit Go.Sort

theorem own_blk {w : World} {base e g n : Nat} {xs : List Value} (h : w.ownsRow base e 1 (.slice (some ⟨g, 0, none⟩) n n) n xs) : w.heap[g]? = some (.cells xs.toArray e (0, 0)) ∧ base ≤ g := by
  rcases h.2 with ⟨h1, h2⟩ | ⟨g', cap, cur, hs, hb, hg, hn, hm, hz, ht⟩
  · cases h1
  · injection hs with h1 h2 h3
    injection h1 with h1
    injection h1 with h1 _ _
    subst h1 h3
    have hl := h.1
    have e : cur.toList = xs := by
      rw [← ht, List.take_of_length_le]
      simp
      omega
    rw [← e]
    exact ⟨by simpa using hg, hb⟩

theorem own_below {w w' : World} {base e size n : Nat} {v : Value} {xs : List Value} (h : w.ownsRow base e size v n xs) (hb : Below w.heap.size w w') : w'.ownsRow base e size v n xs := by
  refine ⟨h.1, ?_⟩
  rcases h.2 with h1 | ⟨g, cap, cur, hs, hbs, hg, hr⟩
  · exact .inl h1
  · exact .inr ⟨g, cap, cur, hs, hbs, (hb.block g (Array.getElem?_eq_some_iff.1 hg).1).trans hg, hr⟩
theorem own_of_blk {w : World} {base e g n : Nat} {xs : List Value} (hg : w.heap[g]? = some (.cells xs.toArray e (0, 0))) (hl : xs.length = n) (hb : base ≤ g) (hn : n ≤ maxLen) : w.ownsRow base e 1 (.slice (some ⟨g, 0, none⟩) n n) n xs :=
  ⟨by omega, .inr ⟨g, n, xs.toArray, rfl, hb, hg, Nat.le_refl _, hn, by simp [hl], by simp [← hl]⟩⟩
theorem rd_src {w : World} {S : Nat → Prop} {A : Option Addr} {n : Nat} {vs : List Value} (h : Rd w S 1 A n vs) (hp : 0 < vs.length) : ∃ ad, A = some ad ∧ ∀ (j : Nat) (v : Value), vs[j]? = some v → w.cell? (ad.add j) = some v := by
  obtain ⟨b, o, e, _, _⟩ := h.at_ 0 _ (List.getElem?_eq_getElem hp)
  refine ⟨_, e, fun j v hv => ?_⟩
  obtain ⟨b', o', e', _, hc⟩ := h.at_ j v hv
  rw [e] at e'
  injection e' with e'
  injection e' with e1 e2 _
  subst e1 e2
  rw [add_off]
  exact hc
theorem splice_wc {n : Nat} {ds : List Nat} (h : ds.length ≤ n) : splice ((List.replicate n 0).flatMap Wc) 0 (ds.flatMap Wc) = (ds ++ List.replicate (n - ds.length) 0).flatMap Wc := by
  unfold splice
  rw [List.take_zero, List.nil_append, List.flatMap_append, flat_len Wc 1 Wc.clen, Nat.mul_one, Nat.zero_add]
  congr 1
  have h1 : (List.replicate n 0).flatMap Wc = (List.replicate n (Value.int .u32 0)) := by
    rw [List.flatMap_replicate]; simp
  have h2 : (List.replicate (n - ds.length) 0).flatMap Wc = (List.replicate (n - ds.length) (Value.int .u32 0)) := by
    rw [List.flatMap_replicate]; simp
  rw [h1, h2, List.drop_replicate]
end Go.Proofs.YtkfhbnfoiicioaaGreatDoor

/-
  A region that draws its order and ends in a call that writes, for which all loads wait: the loads are taken first; what they read need stay only till that call.
-/
namespace Go.Proofs.YtkfhbnfoiicioaaGreatDoor
open Go.RowKit Go.Sort

section
variable {P : Program} {ops : Array Oper} {md : Region.Mode} {Q : Exit → Act → World → Prop} {S : World → Prop} {c : Nat}

def wpAnyG (P : Program) (md : Region.Mode) (ops : Array Oper) (Q : Exit → Act → World → Prop) (S : World → Prop) (c : Nat) : Nat → Array Bool → Act → World → Prop
  | 0, listed, a, w => Region.ready md ops listed = [] ∧ Q .normal a w
  | fuel + 1, listed, a, w =>
    (Region.ready md ops listed = [] → Q .normal a w) ∧
    ∀ i ∈ Region.ready md ops listed, wpOp P ops Q i (fun a' w' => (S w' ∨ (listed.setIfInBounds i true).getD c false = true) ∧ wpAnyG P md ops Q S c fuel (listed.setIfInBounds i true) a' w') a w

theorem wpAny_of_G : ∀ (fuel : Nat) (listed : Array Bool) (a : Act) (w : World), wpAnyG P md ops Q S c fuel listed a w → wpAny P md ops Q fuel listed a w
  | 0, _, _, _, h => h
  | fuel + 1, _, _, _, h => ⟨h.1, fun i hi => wpOp_mono (fun a' w' h' => wpAny_of_G fuel _ a' w' h'.2) (h.2 i hi)⟩

theorem getDf_set_ne {listed : Array Bool} {i j : Nat} (h : i ≠ j) : (listed.setIfInBounds i true).getD j false = listed.getD j false := by
  simp only [Array.getD_eq_getD_getElem?]
  rw [Array.getElem?_setIfInBounds_ne h]
/-- who came up has all that it waits for behind it -/
def Closed (md : Region.Mode) (ops : Array Oper) (listed : Array Bool) : Prop :=
  ∀ j oj, ops[j]? = some oj → listed.getD j false = true → ∀ e ∈ oj.after, Region.binds md e = true → listed.getD e.on false = true
theorem Closed.set {listed : Array Bool} {i : Nat} (h : Closed md ops listed) (hi : i ∈ Region.ready md ops listed) : Closed md ops (listed.setIfInBounds i true) := by
  intro j oj hj hl e he hb
  by_cases hji : i = j
  · subst hji
    obtain ⟨_, o, ho, hall⟩ := mem_ready.1 hi
    obtain rfl : o = oj := Option.some.inj (ho.symm.trans hj)
    exact getD_set_true (hall e he hb)
  · rw [getDf_set_ne hji] at hl
    exact getD_set_true (h j oj hj hl e he hb)
def closedG (md : Region.Mode) (ops : Array Oper) (listed : Array Bool) : Bool :=
  (List.range ops.size).all fun j => !listed.getD j false || match ops[j]? with
    | some oj => oj.after.all fun e => !Region.binds md e || listed.getD e.on false
    | none => true
theorem closedG_spec {listed : Array Bool} (h : closedG md ops listed = true) : Closed md ops listed := by
  intro j oj hj hl e he hb
  have h1 := List.all_eq_true.1 h j (List.mem_range.2 (Array.getElem?_eq_some_iff.1 hj).1)
  rw [hl, hj] at h1
  simp only [Bool.not_true, Bool.false_or, Array.all_eq_true'] at h1
  have h2 := h1 e he
  rw [hb] at h2
  simpa using h2
/-- c waits for i, through others perhaps -/
def reachG (md : Region.Mode) (ops : Array Oper) : Nat → Nat → Nat → Bool
  | 0, _, _ => false
  | f + 1, c, i => Region.waitsFor md ops c i || (List.range ops.size).any fun k => Region.waitsFor md ops c k && reachG md ops f k i
theorem reachG_spec {listed : Array Bool} (hc : Closed md ops listed) {i : Nat} (hi : listed.getD i false = false) : ∀ (f c : Nat), reachG md ops f c i = true → (∃ k, Region.waitsFor md ops c k = true ∧ listed.getD k false = false)
  | 0, _, h => by cases h
  | f + 1, c, h => by
    simp only [reachG, Bool.or_eq_true, List.any_eq_true, Bool.and_eq_true] at h
    rcases h with h | ⟨k, _, h1, h2⟩
    · exact ⟨i, h, hi⟩
    · obtain ⟨m, hm, hml⟩ := reachG_spec hc hi f k h2
      refine ⟨k, h1, ?_⟩
      cases hk : listed.getD k false with
      | false => rfl
      | true =>
        exfalso
        obtain ⟨ok, hok, e, he, hb, hon⟩ := Region.waitsFor_spec hm
        have h3 := hc k ok hok hk e he hb
        rw [hon, hml] at h3
        cases h3

theorem wpAnyG_first {i : Nat} {oi : Oper} {v : Value} (hi : ops[i]? = some oi) (hsel : ∀ (j : Nat) (o : Oper) cs b, ops[j]? = some o → o.op ≠ .select cs b)
    (hQ : ∀ c a w, Q (.panic c) (a.put oi.dst v) w → Q (.panic c) a w) (f : Nat) (hreach : reachG md ops f c i = true) :
    ∀ (fuel : Nat) (listed : Array Bool) (a : Act) (w : World), Closed md ops listed →
      (∀ j oj, ops[j]? = some oj → j ≠ i → listed.getD j true = false → (∀ e ∈ oj.after, Region.binds md e = true → e.on ≠ i) → oi.apart ops oj = true) →
      i ∈ Region.ready md ops listed → YieldsIf P ops S oi v a → S w →
      wpAnyG P md ops Q S c fuel (listed.setIfInBounds i true) (a.put oi.dst v) w → wpAnyG P md ops Q S c (fuel + 1) listed a w := by
  intro fuel
  induction fuel with
  | zero =>
    intro listed a w _ _ hr hy hS H
    refine ⟨fun h => (by rw [h] at hr; cases hr), fun j hj => ?_⟩
    by_cases hji : j = i
    · subst hji; exact hy.wpOp hi hS ⟨.inl hS, H⟩
    · have := ready_mono hj hji
      rw [H.1] at this
      cases this
  | succ fuel ih =>
    intro listed a w hcl hfree hr hy hS H
    refine ⟨fun h => (by rw [h] at hr; cases hr), fun j hj => ?_⟩
    by_cases hji : j = i
    · subst hji; exact hy.wpOp hi hS ⟨.inl hS, H⟩
    · have h1 := H.2 j (ready_mono hj hji)
      have hun := (mem_ready.1 hr).1
      have hunf : listed.getD i false = false := by rw [getD_both hun]
      obtain ⟨hjun, oj, hoj, hall⟩ := mem_ready.1 hj
      have hnot : ∀ e ∈ oj.after, Region.binds md e = true → e.on ≠ i := fun e he hb heq => by
        have h2 := hall e he hb
        rw [heq, getD_both hun] at h2
        cases h2
      have hcj : ((listed.setIfInBounds i true).setIfInBounds j true).getD c false ≠ true := by
        intro hl
        obtain ⟨k, hk, hkl⟩ := reachG_spec hcl hunf f c hreach
        obtain ⟨oc, hoc, e, he, hb, hon⟩ := Region.waitsFor_spec hk
        by_cases hjc : j = c
        · subst hjc
          obtain rfl : oc = oj := Option.some.inj (hoc.symm.trans hoj)
          have h3 := hall e he hb
          rw [hon, hkl] at h3
          cases h3
        · by_cases hic : i = c
          · subst hic
            obtain ⟨_, oi', hoi', hall'⟩ := mem_ready.1 hr
            obtain rfl : oc = oi' := Option.some.inj (hoc.symm.trans hoi')
            have h3 := hall' e he hb
            rw [hon, hkl] at h3
            cases h3
          · rw [getDf_set_ne hjc, getDf_set_ne hic] at hl
            have h3 := hcl c oc hoc hl e he hb
            rw [hon, hkl] at h3
            cases h3
      have h2 := wpOp_putIf hoj (hfree j oj hoj hji hjun hnot) (fun cs b => hsel i oi cs b hi) (fun cs b => hsel j oj cs b hoj) hQ hy h1
      have hfree' : ∀ k ok, ops[k]? = some ok → k ≠ i → (listed.setIfInBounds j true).getD k true = false →
          (∀ e ∈ ok.after, Region.binds md e = true → e.on ≠ i) → oi.apart ops ok = true := fun k ok hk hki hu hno => by
        refine hfree k ok hk hki ?_ hno
        by_cases hjk : j = k
        · subst hjk; exact hjun
        · rw [getD_set_ne true hjk] at hu; exact hu
      refine wpOp_mono (fun a' w' h3 => ?_) h2
      have hS' : S w' := by
        rcases h3.2.1 with h | h
        · exact h
        · exact absurd h hcj
      refine ⟨.inl hS', ih (listed.setIfInBounds j true) a' w' (hcl.set hj) hfree' (ready_mono hr (Ne.symm hji)) h3.1 hS' ?_⟩
      rw [Array.setIfInBounds_comm _ _ hji]
      exact h3.2.2

theorem wpAnyG_take {i : Nat} {oi : Oper} {v : Value} {fuel : Nat} {listed : Array Bool} {a : Act} {w : World} (hi : ops[i]? = some oi)
    (hs : Region.noSelect ops = true) (hf : Region.free md ops listed i = true) (hr : (Region.ready md ops listed).contains i = true) (hcl : closedG md ops listed = true) (f : Nat) (hre : reachG md ops f c i = true)
    (hQ : ∀ c a w, Q (.panic c) (a.put oi.dst v) w → Q (.panic c) a w) (hy : YieldsIf P ops S oi v a) (hS : S w)
    (h : wpAnyG P md ops Q S c fuel (listed.setIfInBounds i true) (a.put oi.dst v) w) : wpAnyG P md ops Q S c (fuel + 1) listed a w :=
  wpAnyG_first hi (Region.noSelect_spec hs) hQ f hre fuel listed a w (closedG_spec hcl) (Region.free_spec hi hf) (by simpa using hr) hy hS h
theorem wpAnyG_one {i : Nat} {o : Oper} {fuel : Nat} {listed : Array Bool} {a : Act} {w : World} (hr : Region.ready md ops listed = [i]) (ho : ops[i]? = some o)
    (h : ∀ K' : Act → World → Prop, Shut (∀ a w, (S w ∨ (listed.setIfInBounds i true).getD c false = true) → ((S w ∨ (listed.setIfInBounds i true).getD c false = true) → wpAnyG P md ops Q S c fuel (listed.setIfInBounds i true) a w) → K' a w) → if Region.wanted o (yielded ops a.tmps) = true then Oper.wp P o a w K' Q else K' (a.put o.dst undef) w) :
    wpAnyG P md ops Q S c (fuel + 1) listed a w := by
  refine ⟨fun h0 => absurd (hr ▸ h0) (by simp), fun j hj => ?_⟩
  rw [hr] at hj
  rcases List.mem_cons.1 hj with rfl | hj
  · exact wpOp_step ho (fun K' hK => h K' (fun a w hS hW => hK a w ⟨hS, hW hS⟩))
  · cases hj
theorem tkG {i : Nat} {oi : Oper} {v : Value} {fuel : Nat} {listed : Array Bool} {a : Act} {w : World} (hi : ops[i]? = some oi)
    (hb : (Region.noSelect ops && Region.free md ops listed i && (Region.ready md ops listed).contains i && closedG md ops listed && reachG md ops 8 c i) = true) (hy : YieldsIf P ops S oi v a) (hS : S w)
    (h : wpAnyG P md ops Q S c fuel (listed.setIfInBounds i true) (a.put oi.dst v) w) (hQ : ∀ c a w, Q (.panic c) (a.put oi.dst v) w → Q (.panic c) a w := by exact fun _ _ _ h => h) : wpAnyG P md ops Q S c (fuel + 1) listed a w := by
  simp only [Bool.and_eq_true] at hb
  exact wpAnyG_take hi hb.1.1.1.1 hb.1.1.1.2 hb.1.1.2 hb.1.2 8 hb.2 hQ hy hS h
theorem wpAnyG_done {listed : Array Bool} {a : Act} {w : World} (hr : Region.ready md ops listed = []) (h : Q .normal a w) :
    ∀ fuel, wpAnyG P md ops Q S c fuel listed a w
  | 0 => ⟨hr, h⟩
  | _ + 1 => ⟨fun _ => h, by rw [hr]; simp⟩
theorem wp_region_G {id : Nat} {a : Act} {w : World} (c : Nat) (hm : P.follows .mixedOrders = true) (hS : S w.drew)
    (h : S w.drew → wpAnyG P .any ops Q S c ops.size (Array.replicate ops.size false) a w.drew) : (Code.region id ops true).wp P Q a w :=
  wp_region_any hm (wpAny_of_G _ _ _ _ (h hS))
end

end Go.Proofs.YtkfhbnfoiicioaaGreatDoor

/- sum, Add, Sub, Mul, Neg, Abs, Lsh, Rsh, SetInt64 ..: the walks -/
namespace Go.Proofs.YtkfhbnfoiicioaaGreatDoor
open Go.RowKit Go.Sort
/-- what a call answers whose words are those of N, in new memory -/
def WordsPost (N : Nat) (w : World) (e : Ending) (w' : World) : Prop := ∃ A' c', e = .returned (.slice A' (dig N).length c') ∧ (dig N).length ≤ c' ∧ RdE Wc 1 w' (fun b => w.heap.size ≤ b ∧ b < w'.heap.size) A' (dig N).length (dig N) ∧ Below w.heap.size w w'
end Go.Proofs.YtkfhbnfoiicioaaGreatDoor

/- Add, Sub, Mul, Neg, Abs, Lsh, Rsh, SetInt64 ..: the walks (printed by wip/Int/gen_i5.py) -/
namespace Go.Proofs.YtkfhbnfoiicioaaGreatDoor
open Go.RowKit Go.Sort

/-- a method answers its receiver, which has the value z now -/
def IntPost (b o : Nat) (z : Int) (w : World) (e : Ending) (w' : World) : Prop := e = .returned (.pointer (some ⟨b, o, none⟩)) ∧ IntAt w' b o z ∧ Upd w w' b o

theorem sgn_mul {x y : Int} (h : x * y ≠ 0) : (decide (x < 0) != decide (y < 0)) = decide (x * y < 0) := by
  have hx : x ≠ 0 := fun e => h (by rw [e, Int.zero_mul])
  have hy : y ≠ 0 := fun e => h (by rw [e, Int.mul_zero])
  by_cases h1 : x < 0
  · by_cases h2 : y < 0
    · have := Int.mul_pos_of_neg_of_neg h1 h2
      simp [h1, h2]; omega
    · have := Int.mul_neg_of_neg_of_pos h1 (show 0 < y by omega)
      simp [h1, h2]; omega
  · by_cases h2 : y < 0
    · have := Int.mul_neg_of_pos_of_neg (show 0 < x by omega) h2
      simp [h1, h2]; omega
    · have := Int.mul_pos (show 0 < x by omega) (show 0 < y by omega)
      simp [h1, h2]; omega
theorem abs_shl (x : Int) (k : Nat) : (x * 2 ^ k).natAbs = x.natAbs * 2 ^ k := by
  rw [Int.natAbs_mul, Int.natAbs_pow]; rfl
theorem sgn_shl (x : Int) (k : Nat) : decide (x * 2 ^ k < 0) = decide (x < 0) := by
  have hp : (0 : Int) < 2 ^ k := Int.pow_pos (by decide)
  by_cases h : x < 0
  · have := Int.mul_neg_of_neg_of_pos h hp
    simp [h, this]
  · have := Int.mul_nonneg (show 0 ≤ x by omega) (Int.le_of_lt hp)
    simp [h]; omega
theorem left_k (A : Option Addr) (n c : Nat) (x k : Nat) (S : Nat → Prop) (w : World) (hx : RdE Wc 1 w S A n (dig x)) (hS : ∀ b, S b → b < w.heap.size) (hn : n ≤ 10000000) (hk : k ≤ 100000000) :
    Calls Tryz.prog 114 #[.slice A n c, .int .u64 (k : Int)] w (WordsPost (x * 2 ^ k) w) := by
  have h := left_any A n c (dig x) (k / 32) (k % 32) S w hx (dig_wds x) hS (by omega) (by omega) (Nat.mod_lt _ (by decide))
  rw [nv_dig, show k / 32 * 32 + k % 32 = k by omega] at h
  exact h
theorem right_k (A : Option Addr) (n c : Nat) (x k : Nat) (S : Nat → Prop) (w : World) (hx : RdE Wc 1 w S A n (dig x)) (hS : ∀ b, S b → b < w.heap.size) (hn : n ≤ 10000000) (hk : k ≤ 100000000) :
    Calls Tryz.prog 149 #[.slice A n c, .int .u64 (k : Int)] w (WordsPost (x / 2 ^ k) w) := by
  have h := rightW_any A n c (dig x) (k / 32) (k % 32) S w hx (dig_wds x) hS (by omega) (by omega) (Nat.mod_lt _ (by decide))
  rw [nv_dig, show k / 32 * 32 + k % 32 = k by omega] at h
  exact h

set_option maxRecDepth 100000 in
set_option maxHeartbeats 2000000 in
theorem neg_int (b o b1 o1 : Nat) (z x : Int) (w : World) (hz : IntAt w b o z) (hx : IntAt w b1 o1 x) (hl : (dig x.natAbs).length ≤ 10000000) :
    Calls Tryz.prog 112 #[.pointer (some ⟨b, o, none⟩), .pointer (some ⟨b1, o1, none⟩)] w (IntPost b o (-x) w) := by
  obtain ⟨A, n, c, s, HN, HS, h0, h1, hc, HR⟩ := hx.open
  rw [← HN.out] at hl
  have HZ := Lib.hid hz
  clear hz hx
  have HN' : Hid (n = (dig (-x).natAbs).length) := Lib.hid (by rw [Int.natAbs_neg]; exact HN.out)
  have HR' : Hid (RdE Wc 1 w.drew (fun d => d < w.drew.heap.size) A n (dig (-x).natAbs)) := Lib.hid (by rw [Int.natAbs_neg]; exact HR.out)
  have hsg : -x ≠ 0 → (!s) = decide (-x < 0) := by
    intro h; rw [HS.out]; by_cases h1 : x < 0 <;> simp [h1] <;> omega
  have HSG := Lib.hid hsg
  clear hsg
  go_enter Tryz.func112, Tryz.ntmps112
  go_wp2_with fail
  refine wp_region_G (S := (fun w' => w'.cell? ⟨b1, o1, none⟩ = some (.bool s) ∧ w'.cell? ⟨b1, o1 + 1, none⟩ = some (.slice A n c))) 11 (by kernel_rfl) ?_ (fun hHeld => ?_)
  · first | exact True.intro | ((try dsimp only); go_keep)
  refine tkG (i := 0) (v := ?_) rfl (by kernel_rfl) (Or.inl ⟨by kernel_rfl, ?_⟩) (by assumption) ?_
  rotate_left 1
  · (intro w hSw; (try dsimp only at hSw); go_simp; try with_reducible rfl)
  try simp only [lyA, lyB, lyC, Act.put, lyD, lyE, lyF]
  refine tkG (i := 1) (v := ?_) rfl (by kernel_rfl) (Or.inl ⟨by kernel_rfl, ?_⟩) (by assumption) ?_
  rotate_left 1
  · (intro w hSw; (try dsimp only at hSw); go_simp; try with_reducible rfl)
  try simp only [lyA, lyB, lyC, Act.put, lyD, lyE, lyF]
  refine tkG (i := 2) (v := ?_) rfl (by kernel_rfl) (Or.inl ⟨by kernel_rfl, ?_⟩) (by assumption) ?_
  rotate_left 1
  · (intro w hSw; (try dsimp only at hSw); go_simp; try with_reducible rfl)
  try simp only [lyA, lyB, lyC, Act.put, lyD, lyE, lyF]
  refine tkG (i := 3) (v := ?_) rfl (by kernel_rfl) (Or.inl ⟨by kernel_rfl, ?_⟩) (by assumption) ?_
  rotate_left 1
  · (intro w hSw; (try dsimp only at hSw); go_simp; try with_reducible rfl)
  try simp only [lyA, lyB, lyC, Act.put, lyD, lyE, lyF]
  refine tkG (i := 4) (v := ?_) rfl (by kernel_rfl) (Or.inl ⟨by kernel_rfl, ?_⟩) (by assumption) ?_
  rotate_left 1
  · (intro w hSw; (try dsimp only at hSw); go_simp; try with_reducible rfl)
  try simp only [lyA, lyB, lyC, Act.put, lyD, lyE, lyF]
  refine tkG (i := 5) (v := ?_) rfl (by kernel_rfl) (Or.inl ⟨by kernel_rfl, ?_⟩) (by assumption) ?_
  rotate_left 1
  · (intro w hSw; (try dsimp only at hSw); go_simp; try with_reducible rfl)
  try simp only [lyA, lyB, lyC, Act.put, lyD, lyE, lyF]
  refine tkG (i := 6) (v := ?_) rfl (by kernel_rfl) (Or.inl ⟨by kernel_rfl, ?_⟩) (by assumption) ?_
  rotate_left 1
  · (intro w hSw; (try dsimp only at hSw); go_simp; try with_reducible rfl)
  try simp only [lyA, lyB, lyC, Act.put, lyD, lyE, lyF]
  refine tkG (i := 7) (v := ?_) rfl (by kernel_rfl) (Or.inl ⟨by kernel_rfl, ?_⟩) (by assumption) ?_
  rotate_left 1
  · (intro w hSw; (try dsimp only at hSw); go_simp; try with_reducible rfl)
  try simp only [lyA, lyB, lyC, Act.put, lyD, lyE, lyF]
  refine tkG (i := 8) (v := ?_) rfl (by kernel_rfl) (Or.inl ⟨by kernel_rfl, ?_⟩) (by assumption) ?_
  rotate_left 1
  · (intro w hSw; (try dsimp only at hSw); go_simp; try with_reducible rfl)
  try simp only [lyA, lyB, lyC, Act.put, lyD, lyE, lyF]
  refine tkG (i := 9) (v := ?_) rfl (by kernel_rfl) (Or.inl ⟨by kernel_rfl, ?_⟩) (by assumption) ?_
  rotate_left 1
  · (intro w hSw; (try dsimp only at hSw); go_simp; try with_reducible rfl)
  try simp only [lyA, lyB, lyC, Act.put, lyD, lyE, lyF]
  refine wpAnyG_one (i := 10) (by kernel_rfl) rfl (fun K hK => ?_)
  go_simp
  (refine (twin_any _ _ _ _ _ _ HR'.out (by omega)).mono ?_; rintro e w1 ⟨A1, c1, rfl, hc1, hr1, hb1⟩; have k1 := bat hb1 hHeld.1; have k2 := bat hb1 hHeld.2; have HR1 := Lib.hid hr1; have HB1 : Hid (Below w.heap.size w w1) := Lib.hid (((Below.refl w.heap.size w).drew).trans hb1); clear hr1 hb1)
  try go_wp2_with fail
  refine (fun hHeld => hK.out _ _ (.inl hHeld) (fun _ => ?_)) ?_
  rotate_left 1
  · first | exact True.intro | ((try dsimp only); go_keep)
  clear hK K
  try simp only [lyA, lyB, lyC, Act.put, lyD, lyE, lyF]
  refine wpAnyG_one (i := 11) (by kernel_rfl) rfl (fun K hK => ?_)
  go_simp
  (refine (give_int _ _ (-x) z (!s) A1 n c1 w1 (HZ.out.below HB1.out) HN'.out hc1 (HR1.out.imp fun d hd => hd.2) (sgn_and HN'.out fun h => HSG.out h)).mono ?_; rintro e w2 ⟨rfl, hi2, hu2⟩; have HI2 := Lib.hid hi2; have HU2 := Lib.hid hu2; clear hi2 hu2)
  try go_wp2_with fail
  refine hK.out _ _ ?_ (fun hHeld => ?_)
  · exact .inr (by kernel_rfl)
  clear hK K
  try simp only [lyA, lyB, lyC, Act.put, lyD, lyE, lyF]
  refine wpAnyG_one (i := 12) (by kernel_rfl) rfl (fun K hK => ?_)
  go_simp
  refine hK.out _ _ ?_ (fun hHeld => ?_)
  · exact .inr (by kernel_rfl)
  clear hK K
  try simp only [lyA, lyB, lyC, Act.put, lyD, lyE, lyF]
  refine wpAnyG_done (by kernel_rfl) ?_ _
  go_wp2_with fail
  go_ret
  exact ⟨rfl, HI2.out, Upd.after HB1.out HU2.out HZ.out.lt⟩

set_option maxRecDepth 100000 in
set_option maxHeartbeats 2000000 in
theorem lsh_int (b o b1 o1 : Nat) (z x : Int) (k : Nat) (w : World) (hz : IntAt w b o z) (hx : IntAt w b1 o1 x) (hl : (dig x.natAbs).length ≤ 10000000) (hk : k ≤ 100000000) :
    Calls Tryz.prog 95 #[.pointer (some ⟨b, o, none⟩), .pointer (some ⟨b1, o1, none⟩), .int .u64 (k : Int)] w (IntPost b o (x * 2 ^ k) w) := by
  obtain ⟨A, n, c, s, HN, HS, h0, h1, hc, HR⟩ := hx.open
  rw [← HN.out] at hl
  have HZ := Lib.hid hz
  clear hz hx
  have HA := Lib.hid (abs_shl x k)
  have HSG : Hid (s = decide (x * 2 ^ k < 0)) := Lib.hid (by rw [sgn_shl]; exact HS.out)
  go_enter Tryz.func95, Tryz.ntmps95
  go_wp2_with fail
  refine wp_region_G (S := (fun w' => w'.cell? ⟨b1, o1, none⟩ = some (.bool s) ∧ w'.cell? ⟨b1, o1 + 1, none⟩ = some (.slice A n c))) 11 (by kernel_rfl) ?_ (fun hHeld => ?_)
  · first | exact True.intro | ((try dsimp only); go_keep)
  refine tkG (i := 0) (v := ?_) rfl (by kernel_rfl) (Or.inl ⟨by kernel_rfl, ?_⟩) (by assumption) ?_
  rotate_left 1
  · (intro w hSw; (try dsimp only at hSw); go_simp; try with_reducible rfl)
  try simp only [lyA, lyB, lyC, Act.put, lyD, lyE, lyF]
  refine tkG (i := 1) (v := ?_) rfl (by kernel_rfl) (Or.inl ⟨by kernel_rfl, ?_⟩) (by assumption) ?_
  rotate_left 1
  · (intro w hSw; (try dsimp only at hSw); go_simp; try with_reducible rfl)
  try simp only [lyA, lyB, lyC, Act.put, lyD, lyE, lyF]
  refine tkG (i := 2) (v := ?_) rfl (by kernel_rfl) (Or.inl ⟨by kernel_rfl, ?_⟩) (by assumption) ?_
  rotate_left 1
  · (intro w hSw; (try dsimp only at hSw); go_simp; try with_reducible rfl)
  try simp only [lyA, lyB, lyC, Act.put, lyD, lyE, lyF]
  refine tkG (i := 3) (v := ?_) rfl (by kernel_rfl) (Or.inl ⟨by kernel_rfl, ?_⟩) (by assumption) ?_
  rotate_left 1
  · (intro w hSw; (try dsimp only at hSw); go_simp; try with_reducible rfl)
  try simp only [lyA, lyB, lyC, Act.put, lyD, lyE, lyF]
  refine tkG (i := 4) (v := ?_) rfl (by kernel_rfl) (Or.inl ⟨by kernel_rfl, ?_⟩) (by assumption) ?_
  rotate_left 1
  · (intro w hSw; (try dsimp only at hSw); go_simp; try with_reducible rfl)
  try simp only [lyA, lyB, lyC, Act.put, lyD, lyE, lyF]
  refine tkG (i := 5) (v := ?_) rfl (by kernel_rfl) (Or.inl ⟨by kernel_rfl, ?_⟩) (by assumption) ?_
  rotate_left 1
  · (intro w hSw; (try dsimp only at hSw); go_simp; try with_reducible rfl)
  try simp only [lyA, lyB, lyC, Act.put, lyD, lyE, lyF]
  refine tkG (i := 6) (v := ?_) rfl (by kernel_rfl) (Or.inl ⟨by kernel_rfl, ?_⟩) (by assumption) ?_
  rotate_left 1
  · (intro w hSw; (try dsimp only at hSw); go_simp; try with_reducible rfl)
  try simp only [lyA, lyB, lyC, Act.put, lyD, lyE, lyF]
  refine tkG (i := 7) (v := ?_) rfl (by kernel_rfl) (Or.inl ⟨by kernel_rfl, ?_⟩) (by assumption) ?_
  rotate_left 1
  · (intro w hSw; (try dsimp only at hSw); go_simp; try with_reducible rfl)
  try simp only [lyA, lyB, lyC, Act.put, lyD, lyE, lyF]
  refine tkG (i := 8) (v := ?_) rfl (by kernel_rfl) (Or.inl ⟨by kernel_rfl, ?_⟩) (by assumption) ?_
  rotate_left 1
  · (intro w hSw; (try dsimp only at hSw); go_simp; try with_reducible rfl)
  try simp only [lyA, lyB, lyC, Act.put, lyD, lyE, lyF]
  refine tkG (i := 9) (v := ?_) rfl (by kernel_rfl) (Or.inl ⟨by kernel_rfl, ?_⟩) (by assumption) ?_
  rotate_left 1
  · (intro w hSw; (try dsimp only at hSw); go_simp; try with_reducible rfl)
  try simp only [lyA, lyB, lyC, Act.put, lyD, lyE, lyF]
  refine wpAnyG_one (i := 10) (by kernel_rfl) rfl (fun K hK => ?_)
  go_simp
  (refine (left_k _ _ _ x.natAbs k _ _ HR.out (fun b hb => hb) (by omega) hk).mono ?_; rintro e w1 ⟨A1, c1, rfl, hc1, hr1, hb1⟩; rw [← HA.out] at hc1 hr1; rw [← HA.out]; have k1 := bat hb1 hHeld.1; have k2 := bat hb1 hHeld.2; have HR1 := Lib.hid hr1; have HB1 : Hid (Below w.heap.size w w1) := Lib.hid (((Below.refl w.heap.size w).drew).trans hb1); clear hr1 hb1)
  try go_wp2_with fail
  refine (fun hHeld => hK.out _ _ (.inl hHeld) (fun _ => ?_)) ?_
  rotate_left 1
  · first | exact True.intro | ((try dsimp only); go_keep)
  clear hK K
  try simp only [lyA, lyB, lyC, Act.put, lyD, lyE, lyF]
  refine wpAnyG_one (i := 11) (by kernel_rfl) rfl (fun K hK => ?_)
  go_simp
  (refine (give_int _ _ (x * 2 ^ k) z s A1 _ c1 w1 (HZ.out.below HB1.out) rfl hc1 (HR1.out.imp fun d hd => hd.2) (sgn_and rfl fun _ => HSG.out)).mono ?_; rintro e w2 ⟨rfl, hi2, hu2⟩; have HI2 := Lib.hid hi2; have HU2 := Lib.hid hu2; clear hi2 hu2)
  try go_wp2_with fail
  refine hK.out _ _ ?_ (fun hHeld => ?_)
  · exact .inr (by kernel_rfl)
  clear hK K
  try simp only [lyA, lyB, lyC, Act.put, lyD, lyE, lyF]
  refine wpAnyG_one (i := 12) (by kernel_rfl) rfl (fun K hK => ?_)
  go_simp
  refine hK.out _ _ ?_ (fun hHeld => ?_)
  · exact .inr (by kernel_rfl)
  clear hK K
  try simp only [lyA, lyB, lyC, Act.put, lyD, lyE, lyF]
  refine wpAnyG_done (by kernel_rfl) ?_ _
  go_wp2_with fail
  go_ret
  exact ⟨rfl, HI2.out, Upd.after HB1.out HU2.out HZ.out.lt⟩

set_option maxRecDepth 100000 in
set_option maxHeartbeats 2000000 in
theorem mul_int (b o b1 o1 b2 o2 : Nat) (z x y : Int) (w : World) (hz : IntAt w b o z) (hx : IntAt w b1 o1 x) (hy : IntAt w b2 o2 y) (hl : (dig x.natAbs).length ≤ 10000000) (hl' : (dig y.natAbs).length ≤ 10000000) :
    Calls Tryz.prog 100 #[.pointer (some ⟨b, o, none⟩), .pointer (some ⟨b1, o1, none⟩), .pointer (some ⟨b2, o2, none⟩)] w (IntPost b o (x * y) w) := by
  obtain ⟨A, n, c, s, HN, HS, h0, h1, hc, HR⟩ := hx.open
  rw [← HN.out] at hl
  have HZ := Lib.hid hz
  obtain ⟨A', n', c', s', HN', HS', h0', h1', hc', HR'⟩ := hy.open
  rw [← HN'.out] at hl'
  clear hz hx hy
  have HA := Lib.hid (Int.natAbs_mul x y)
  have HSG : Hid (x * y ≠ 0 → (s != s') = decide (x * y < 0)) := Lib.hid (fun h => by rw [HS.out, HS'.out]; exact sgn_mul h)
  go_enter Tryz.func100, Tryz.ntmps100
  go_wp2_with fail
  refine wp_region_G (S := (fun w' => w'.cell? ⟨b1, o1, none⟩ = some (.bool s) ∧ w'.cell? ⟨b1, o1 + 1, none⟩ = some (.slice A n c) ∧ w'.cell? ⟨b2, o2, none⟩ = some (.bool s') ∧ w'.cell? ⟨b2, o2 + 1, none⟩ = some (.slice A' n' c'))) 19 (by kernel_rfl) ?_ (fun hHeld => ?_)
  · first | exact True.intro | ((try dsimp only); go_keep)
  refine tkG (i := 0) (v := ?_) rfl (by kernel_rfl) (Or.inl ⟨by kernel_rfl, ?_⟩) (by assumption) ?_
  rotate_left 1
  · (intro w hSw; (try dsimp only at hSw); go_simp; try with_reducible rfl)
  try simp only [lyA, lyB, lyC, Act.put, lyD, lyE, lyF]
  refine tkG (i := 1) (v := ?_) rfl (by kernel_rfl) (Or.inl ⟨by kernel_rfl, ?_⟩) (by assumption) ?_
  rotate_left 1
  · (intro w hSw; (try dsimp only at hSw); go_simp; try with_reducible rfl)
  try simp only [lyA, lyB, lyC, Act.put, lyD, lyE, lyF]
  refine tkG (i := 2) (v := ?_) rfl (by kernel_rfl) (Or.inl ⟨by kernel_rfl, ?_⟩) (by assumption) ?_
  rotate_left 1
  · (intro w hSw; (try dsimp only at hSw); go_simp; try with_reducible rfl)
  try simp only [lyA, lyB, lyC, Act.put, lyD, lyE, lyF]
  refine tkG (i := 3) (v := ?_) rfl (by kernel_rfl) (Or.inl ⟨by kernel_rfl, ?_⟩) (by assumption) ?_
  rotate_left 1
  · (intro w hSw; (try dsimp only at hSw); go_simp; try with_reducible rfl)
  try simp only [lyA, lyB, lyC, Act.put, lyD, lyE, lyF]
  refine tkG (i := 4) (v := ?_) rfl (by kernel_rfl) (Or.inl ⟨by kernel_rfl, ?_⟩) (by assumption) ?_
  rotate_left 1
  · (intro w hSw; (try dsimp only at hSw); go_simp; try with_reducible rfl)
  try simp only [lyA, lyB, lyC, Act.put, lyD, lyE, lyF]
  refine tkG (i := 5) (v := ?_) rfl (by kernel_rfl) (Or.inl ⟨by kernel_rfl, ?_⟩) (by assumption) ?_
  rotate_left 1
  · (intro w hSw; (try dsimp only at hSw); go_simp; try with_reducible rfl)
  try simp only [lyA, lyB, lyC, Act.put, lyD, lyE, lyF]
  refine tkG (i := 6) (v := ?_) rfl (by kernel_rfl) (Or.inl ⟨by kernel_rfl, ?_⟩) (by assumption) ?_
  rotate_left 1
  · (intro w hSw; (try dsimp only at hSw); go_simp; try with_reducible rfl)
  try simp only [lyA, lyB, lyC, Act.put, lyD, lyE, lyF]
  refine tkG (i := 7) (v := ?_) rfl (by kernel_rfl) (Or.inl ⟨by kernel_rfl, ?_⟩) (by assumption) ?_
  rotate_left 1
  · (intro w hSw; (try dsimp only at hSw); go_simp; try with_reducible rfl)
  try simp only [lyA, lyB, lyC, Act.put, lyD, lyE, lyF]
  refine tkG (i := 8) (v := ?_) rfl (by kernel_rfl) (Or.inl ⟨by kernel_rfl, ?_⟩) (by assumption) ?_
  rotate_left 1
  · (intro w hSw; (try dsimp only at hSw); go_simp; try with_reducible rfl)
  try simp only [lyA, lyB, lyC, Act.put, lyD, lyE, lyF]
  refine tkG (i := 9) (v := ?_) rfl (by kernel_rfl) (Or.inl ⟨by kernel_rfl, ?_⟩) (by assumption) ?_
  rotate_left 1
  · (intro w hSw; (try dsimp only at hSw); go_simp; try with_reducible rfl)
  try simp only [lyA, lyB, lyC, Act.put, lyD, lyE, lyF]
  refine tkG (i := 10) (v := ?_) rfl (by kernel_rfl) (Or.inl ⟨by kernel_rfl, ?_⟩) (by assumption) ?_
  rotate_left 1
  · (intro w hSw; (try dsimp only at hSw); go_simp; try with_reducible rfl)
  try simp only [lyA, lyB, lyC, Act.put, lyD, lyE, lyF]
  refine tkG (i := 11) (v := ?_) rfl (by kernel_rfl) (Or.inl ⟨by kernel_rfl, ?_⟩) (by assumption) ?_
  rotate_left 1
  · (intro w hSw; (try dsimp only at hSw); go_simp; try with_reducible rfl)
  try simp only [lyA, lyB, lyC, Act.put, lyD, lyE, lyF]
  refine tkG (i := 12) (v := ?_) rfl (by kernel_rfl) (Or.inl ⟨by kernel_rfl, ?_⟩) (by assumption) ?_
  rotate_left 1
  · (intro w hSw; (try dsimp only at hSw); go_simp; try with_reducible rfl)
  try simp only [lyA, lyB, lyC, Act.put, lyD, lyE, lyF]
  refine tkG (i := 13) (v := ?_) rfl (by kernel_rfl) (Or.inl ⟨by kernel_rfl, ?_⟩) (by assumption) ?_
  rotate_left 1
  · (intro w hSw; (try dsimp only at hSw); go_simp; try with_reducible rfl)
  try simp only [lyA, lyB, lyC, Act.put, lyD, lyE, lyF]
  refine tkG (i := 14) (v := ?_) rfl (by kernel_rfl) (Or.inl ⟨by kernel_rfl, ?_⟩) (by assumption) ?_
  rotate_left 1
  · (intro w hSw; (try dsimp only at hSw); go_simp; try with_reducible rfl)
  try simp only [lyA, lyB, lyC, Act.put, lyD, lyE, lyF]
  refine tkG (i := 15) (v := ?_) rfl (by kernel_rfl) (Or.inl ⟨by kernel_rfl, ?_⟩) (by assumption) ?_
  rotate_left 1
  · (intro w hSw; (try dsimp only at hSw); go_simp; try with_reducible rfl)
  try simp only [lyA, lyB, lyC, Act.put, lyD, lyE, lyF]
  refine tkG (i := 16) (v := ?_) rfl (by kernel_rfl) (Or.inl ⟨by kernel_rfl, ?_⟩) (by assumption) ?_
  rotate_left 1
  · (intro w hSw; (try dsimp only at hSw); go_simp; try with_reducible rfl)
  try simp only [lyA, lyB, lyC, Act.put, lyD, lyE, lyF]
  refine tkG (i := 17) (v := ?_) rfl (by kernel_rfl) (Or.inl ⟨by kernel_rfl, ?_⟩) (by assumption) ?_
  rotate_left 1
  · (intro w hSw; (try dsimp only at hSw); go_simp; try with_reducible rfl)
  try simp only [lyA, lyB, lyC, Act.put, lyD, lyE, lyF]
  refine wpAnyG_one (i := 18) (by kernel_rfl) rfl (fun K hK => ?_)
  go_simp
  (refine (mul_any _ _ _ _ _ _ _ _ _ _ _ HR.out HR'.out (dig_wds _) (dig_wds _) (fun b hb => hb) (fun b hb => hb) (by omega) (by omega)).mono ?_; rintro e w1 ⟨A1, c1, rfl, hc1, hr1, hb1⟩; rw [nv_dig, nv_dig, ← HA.out] at hc1 hr1; rw [nv_dig, nv_dig, ← HA.out]; have k1 := bat hb1 hHeld.1; have k2 := bat hb1 hHeld.2.1; have k3 := bat hb1 hHeld.2.2.1; have k4 := bat hb1 hHeld.2.2.2; have HR1 := Lib.hid hr1; have HB1 : Hid (Below w.heap.size w w1) := Lib.hid (((Below.refl w.heap.size w).drew).trans hb1); clear hr1 hb1)
  try go_wp2_with fail
  refine (fun hHeld => hK.out _ _ (.inl hHeld) (fun _ => ?_)) ?_
  rotate_left 1
  · first | exact True.intro | ((try dsimp only); go_keep)
  clear hK K
  try simp only [lyA, lyB, lyC, Act.put, lyD, lyE, lyF]
  refine wpAnyG_one (i := 19) (by kernel_rfl) rfl (fun K hK => ?_)
  go_simp
  (refine (give_int _ _ (x * y) z (s != s') A1 _ c1 w1 (HZ.out.below HB1.out) rfl hc1 (HR1.out.imp fun d hd => hd.2) (sgn_and rfl fun h => HSG.out h)).mono ?_; rintro e w2 ⟨rfl, hi2, hu2⟩; have HI2 := Lib.hid hi2; have HU2 := Lib.hid hu2; clear hi2 hu2)
  try go_wp2_with fail
  refine hK.out _ _ ?_ (fun hHeld => ?_)
  · exact .inr (by kernel_rfl)
  clear hK K
  try simp only [lyA, lyB, lyC, Act.put, lyD, lyE, lyF]
  refine wpAnyG_one (i := 20) (by kernel_rfl) rfl (fun K hK => ?_)
  go_simp
  refine hK.out _ _ ?_ (fun hHeld => ?_)
  · exact .inr (by kernel_rfl)
  clear hK K
  try simp only [lyA, lyB, lyC, Act.put, lyD, lyE, lyF]
  refine wpAnyG_done (by kernel_rfl) ?_ _
  go_wp2_with fail
  go_ret
  exact ⟨rfl, HI2.out, Upd.after HB1.out HU2.out HZ.out.lt⟩

end Go.Proofs.YtkfhbnfoiicioaaGreatDoor

/- Abs, SetUint64, SetInt64, Sign, Uint64 ..: the walks of those that draw no order -/
namespace Go.Proofs.YtkfhbnfoiicioaaGreatDoor
open Go.RowKit Go.Sort

/-- a method answers its receiver, which has the value z now (as IntPost) -/
def IntGot (b o : Nat) (z : Int) (w : World) (e : Ending) (w' : World) : Prop := e = .returned (.pointer (some ⟨b, o, none⟩)) ∧ IntAt w' b o z ∧ Upd w w' b o

set_option maxRecDepth 100000 in
set_option maxHeartbeats 2000000 in
theorem abs_int (b o b1 o1 : Nat) (z x : Int) (w : World) (hz : IntAt w b o z) (hx : IntAt w b1 o1 x) (hl : (dig x.natAbs).length ≤ 10000000) :
    Calls Tryz.prog 125 #[.pointer (some ⟨b, o, none⟩), .pointer (some ⟨b1, o1, none⟩)] w (IntGot b o (x.natAbs : Int) w) := by
  obtain ⟨A, n, c, s, HN, HS, h0, h1, hc, HR⟩ := hx.open
  rw [← HN.out] at hl
  have HZ := Lib.hid hz
  clear hz hx h0
  have hR : RdE Wc 1 w (fun d => d < w.heap.size) A n (dig x.natAbs) := HR.out.keep (fun _ _ => rfl)
  have HR' := Lib.hid hR
  clear hR
  go_enter Tryz.func125, Tryz.ntmps125
  go_wp2_with fail
  refine (twin_any _ _ _ _ _ _ HR'.out (by omega)).mono ?_
  rintro e w1 ⟨A1, c1, rfl, hc1, hr1, hb1⟩
  have HR1 := Lib.hid hr1
  have HB1 := Lib.hid hb1
  clear hr1 hb1
  go_wp2_with fail
  refine (give_int _ _ (x.natAbs : Int) z false A1 n c1 w1 (HZ.out.below HB1.out) HN.out hc1 (HR1.out.imp fun d hd => hd.2) (by simp)).mono ?_
  rintro e w2 ⟨rfl, hi2, hu2⟩
  have HI2 := Lib.hid hi2
  have HU2 := Lib.hid hu2
  clear hi2 hu2
  go_wp2_with fail
  go_ret
  exact ⟨rfl, HI2.out, Upd.after HB1.out HU2.out HZ.out.lt⟩

set_option maxRecDepth 100000 in
set_option maxHeartbeats 2000000 in
theorem setU_int (b o : Nat) (z : Int) (x : Nat) (w : World) (hz : IntAt w b o z) (hx : x < 18446744073709551616) :
    Calls Tryz.prog 111 #[.pointer (some ⟨b, o, none⟩), .int .u64 (x : Int)] w (IntGot b o (x : Int) w) := by
  have HZ := Lib.hid hz
  clear hz
  go_enter Tryz.func111, Tryz.ntmps111
  go_wp2_with fail
  refine (words_any x _ hx).mono ?_
  rintro e w1 ⟨A1, c1, rfl, hc1, hr1, hb1⟩
  have HR1 := Lib.hid hr1
  have HB1 := Lib.hid hb1
  clear hr1 hb1
  go_wp2_with fail
  refine (give_int _ _ (x : Int) z false A1 _ c1 w1 (HZ.out.below HB1.out) rfl hc1 (HR1.out.imp fun d hd => hd.2) (by simp)).mono ?_
  rintro e w2 ⟨rfl, hi2, hu2⟩
  have HI2 := Lib.hid hi2
  have HU2 := Lib.hid hu2
  clear hi2 hu2
  go_wp2_with fail
  go_ret
  exact ⟨rfl, HI2.out, Upd.after HB1.out HU2.out HZ.out.lt⟩

end Go.Proofs.YtkfhbnfoiicioaaGreatDoor

/- Sign, BitLen, Uint64, IsUint64, Cmp: the walks -/
namespace Go.Proofs.YtkfhbnfoiicioaaGreatDoor
open Go.RowKit Go.Sort

/-- -1, 0, 1 -/
def sgnI (x : Int) : Int := if x < 0 then -1 else if x = 0 then 0 else 1

theorem sign_int (b o : Nat) (x : Int) (w : World) (hx : IntAt w b o x) :
    Calls Tryz.prog 120 #[.pointer (some ⟨b, o, none⟩)] w fun e w' => e = .returned (.int .i64 (sgnI x)) ∧ w = w' := by
  obtain ⟨A, n, c, s, HN, HS, h0, h1, hc, HR⟩ := hx.open
  clear hx
  by_cases hz : x = 0
  · have hn : n = 0 := by rw [HN.out, hz]; rfl
    subst hn
    have HE : Hid (sgnI x = 0) := Lib.hid (by simp [sgnI, hz])
    go_enter Tryz.func120, Tryz.ntmps120
    go_wp2_with fail
    go_ret
    exact ⟨by rw [HE.out]; rfl, rfl⟩
  · have hn : 0 < n := by rw [HN.out]; exact List.length_pos_iff.2 (dig_pos (by omega))
    have e0 : ((n : Int) == 0) = false := by simp; omega
    by_cases hneg : x < 0
    · have HE : Hid (sgnI x = -1) := Lib.hid (by simp [sgnI, hneg])
      obtain rfl : s = true := by rw [HS.out]; simp [hneg]
      go_enter Tryz.func120, Tryz.ntmps120
      go_wp2_with fail
      go_ret
      exact ⟨by rw [HE.out]; rfl, rfl⟩
    · have HE : Hid (sgnI x = 1) := Lib.hid (by simp [sgnI, hneg, hz])
      obtain rfl : s = false := by rw [HS.out]; simp [hneg]
      go_enter Tryz.func120, Tryz.ntmps120
      go_wp2_with fail
      go_ret
      exact ⟨by rw [HE.out]; rfl, rfl⟩

theorem bitLen_int (b o : Nat) (x : Int) (w : World) (hx : IntAt w b o x) (hl : (dig x.natAbs).length ≤ 10000000) :
    Calls Tryz.prog 122 #[.pointer (some ⟨b, o, none⟩)] w fun e w' => e = .returned (.int .i64 (blen x.natAbs)) ∧ w = w' := by
  obtain ⟨A, n, c, s, HN, HS, h0, h1, hc, HR⟩ := hx.open
  rw [← HN.out] at hl
  have HR' : Hid (RdE Wc 1 w (fun d => d < w.heap.size) A n (dig x.natAbs)) := Lib.hid (HR.out.keep (fun _ _ => rfl))
  clear hx
  go_enter Tryz.func122, Tryz.ntmps122
  go_wp2_with fail
  refine (length_any _ _ _ x.natAbs _ _ HR'.out (by omega)).mono ?_
  rintro e w' ⟨rfl, rfl⟩
  go_wp2_with fail
  go_ret
  exact ⟨rfl, rfl⟩

theorem uint64_int (b o : Nat) (x : Int) (w : World) (hx : IntAt w b o x) :
    Calls Tryz.prog 147 #[.pointer (some ⟨b, o, none⟩)] w fun e w' => e = .returned (.int .u64 ((x.natAbs % 18446744073709551616 : Nat) : Int)) ∧ w = w' := by
  obtain ⟨A, n, c, s, HN, HS, h0, h1, hc, HR⟩ := hx.open
  have HR' : Hid (RdE Wc 1 w (fun d => d < w.heap.size) A n (dig x.natAbs)) := Lib.hid (HR.out.keep (fun _ _ => rfl))
  have HD := dig_wds x.natAbs
  have hpl := nv_dig x.natAbs
  generalize hds : dig x.natAbs = ds at *
  generalize hX : x.natAbs = X at *
  have HW := Lib.hid HD
  have HNV := Lib.hid hpl
  have HL : Hid (ds.length = n) := Lib.hid HN.out.symm
  clear HD hpl hx hds hX HN HR
  match ds, HW, HR', HNV, HL with
  | [], HW, HR', HNV, HL =>
    obtain rfl : n = 0 := HL.out.symm
    have HE : Hid (X % 18446744073709551616 = 0) := Lib.hid (by rw [← HNV.out]; rfl)
    go_enter Tryz.func147, Tryz.ntmps147
    go_wp2_with fail
    go_ret
    exact ⟨by rw [HE.out]; rfl, rfl⟩
  | [p], HW, HR', HNV, HL =>
    obtain rfl : n = 1 := HL.out.symm
    have hp : p < 4294967296 := HW.out.head
    have HE : Hid (X % 18446744073709551616 = p) := Lib.hid (by
      have h := HNV.out
      simp [nv] at h
      rw [← h]; omega)
    obtain ⟨b1, o1, rfl, _, hcc⟩ := HR'.out.elem Wc.clen (show [p][0]? = some p from rfl) (by omega)
    have q0 : w.cell? ⟨b1, o1, none⟩ = some (.int .u32 (p : Int)) := hcc 0 _ rfl
    clear hcc
    go_enter Tryz.func147, Tryz.ntmps147
    go_wp2_with fail
    go_ret
    exact ⟨by rw [HE.out]; rfl, rfl⟩
  | p :: q :: r, HW, HR', HNV, HL =>
    have hn2 : 2 ≤ n := by have := HL.out; simp at this; omega
    have hp : p < 4294967296 := HW.out.head
    have hq : q < 4294967296 := HW.out.tail.head
    have HE : Hid (X % 18446744073709551616 = p + 4294967296 * q) := Lib.hid (by
      have h := HNV.out
      simp only [nv] at h
      rw [← h, Nat.mul_add, ← Nat.mul_assoc, ← Nat.add_assoc]
      show (p + 4294967296 * q + 18446744073709551616 * nv r) % 18446744073709551616 = _
      rw [Nat.add_mul_mod_self_left]
      omega)
    obtain ⟨b1, o1, rfl, _, hcc⟩ := HR'.out.elem Wc.clen (show (p :: q :: r)[0]? = some p from rfl) (by omega)
    obtain ⟨b2, o2, e2, _, hcc2⟩ := HR'.out.elem Wc.clen (show (p :: q :: r)[1]? = some q from rfl) (by omega)
    cases e2
    have q0 : w.cell? ⟨b1, o1, none⟩ = some (.int .u32 (p : Int)) := hcc 0 _ rfl
    have q1 : w.cell? ⟨b1, o1 + 1, none⟩ = some (.int .u32 (q : Int)) := hcc2 0 _ rfl
    have hor := u64_or32 (y := (p : Int)) (x := (q : Int) * 4294967296) (by omega) (by omega) (by omega) (by omega) (by omega)
    clear hcc hcc2
    go_enter Tryz.func147, Tryz.ntmps147
    go_wp2_with fail
    go_ret
    refine ⟨?_, rfl⟩
    rw [HE.out]
    have : ((p + 4294967296 * q : Nat) : Int) = (p : Int) + q * 4294967296 := by omega
    rw [this]
    rfl

end Go.Proofs.YtkfhbnfoiicioaaGreatDoor

/- new, NewInt, Quo: the walks -/
namespace Go.Proofs.YtkfhbnfoiicioaaGreatDoor
open Go.RowKit Go.Sort
theorem new_intAt (w : World) : IntAt (w.alloc (.cells #[.bool false, .slice none 0 0] 122)) w.heap.size 0 0 :=
  IntAt.of_cells (new_cell w _ _ 0 _ rfl) (new_cell w _ _ 1 _ rfl) (by simp) rfl (Nat.le_refl _) (RdE.nil ..) (by simp [go_sem]) (by simp [go_sem])

end Go.Proofs.YtkfhbnfoiicioaaGreatDoor

/- GCD without the factors: the walk -/
namespace Go.Proofs.YtkfhbnfoiicioaaGreatDoor
open Go.RowKit Go.Sort
theorem newB {w w' : World} {t : TypeId} {cs : Array Value} (h : Upd (w.alloc (.cells cs t)) w' w.heap.size 0) : Below w.heap.size w w' :=
  (below1 w _).trans (h.toB.below (Nat.le_refl _) (by simp))

abbrev newI : Obj := .cells #[.bool false, .slice none 0 0] 122
end Go.Proofs.YtkfhbnfoiicioaaGreatDoor
