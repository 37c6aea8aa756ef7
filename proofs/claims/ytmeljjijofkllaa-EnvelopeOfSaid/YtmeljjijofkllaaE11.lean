import Derived.Test.YtmeljjijofkllaaE5
import Derived.Test.YtmeljjijofkllaaQT2
namespace Go.Proofs.Ytmeljjijofkllaa
open Go.RowKit Go.Sort

theorem pick_any (x n : Int) (w : World) (hx : -9223372036854775808 ≤ x) (hx2 : x ≤ 9223372036854775807) (h1 : 1 ≤ n) (h2 : n ≤ 1000000) :
    Calls Try.prog 22 #[.int .i64 x, .int .i64 n] w fun e w' => (∃ k : Nat, e = .returned (.int .i64 k) ∧ (k : Int) < n) ∧ w = w' := by
  have hb := Int.tmod_lt_of_pos x (show 0 < n by omega)
  have hb2 := Int.lt_tmod_of_pos x (show 0 < n by omega)
  by_cases h : x.tmod n < 0
  · go_enter Try.func22, Try.ntmps22
    go_wp2
    go_ret
    exact ⟨⟨(x.tmod n + n).toNat, by show Ending.returned (Value.int .i64 (x.tmod n + n)) = _; congr 2; omega, by omega⟩, rfl⟩
  · go_enter Try.func22, Try.ntmps22
    go_wp2
    go_ret
    exact ⟨⟨(x.tmod n).toNat, by show Ending.returned (Value.int .i64 (x.tmod n)) = _; congr 2; omega, by omega⟩, rfl⟩

/-- what Join answers -/
def placeB (n : Int) : Bool := decide (0 ≤ n) && decide (n ≤ 2147483647)
def extGood (x : Ext) : Bool := placeB x.of_
def numB (r : Rng) : Bool := feq r.least.at_ r.least.at_ && feq r.most.at_ r.most.at_
def goodB (r : Rng) : Bool := placeB r.least.of_ && placeB r.most.of_
def shiftR (more : Int) (r : Rng) : Rng := ⟨⟨r.least.at_, r.least.of_ + more⟩, ⟨r.most.at_, r.most.of_ + more⟩⟩
def joinErr (a b : List Rng) (more : Int) : Int :=
  if a.length ≠ b.length then 4 else if (a ++ b).all numB = false then 5 else if placeB more && (a ++ b).all goodB then 0 else 2
def joinRes (a b : List Rng) (more : Int) : List Rng := if joinErr a b more = 0 then List.zipWith (fun x y => bothR x (shiftR more y)) a b else []


/-- the flag 'good' when k ranges of both lists have been looked at -/
def gdB (a b : List Rng) (more : Int) (k : Nat) : Bool := placeB more && ((a ++ b).take k).all goodB
def NumTo (a b : List Rng) (k : Nat) : Prop := ((a ++ b).take k).all numB = true
theorem gd_succ {a b : List Rng} {more : Int} {k : Nat} {r : Rng} (h : (a ++ b)[k]? = some r) : gdB a b more (k + 1) = (gdB a b more k && goodB r) := by
  obtain ⟨hl, hr⟩ := List.getElem?_eq_some_iff.1 h
  unfold gdB
  rw [List.take_succ_eq_append_getElem hl, List.all_append, hr]
  simp [Bool.and_assoc]
theorem num_succ {a b : List Rng} {k : Nat} {r : Rng} (hn : NumTo a b k) (h : (a ++ b)[k]? = some r) (hr : numB r = true) : NumTo a b (k + 1) := by
  obtain ⟨hl, e⟩ := List.getElem?_eq_some_iff.1 h
  unfold NumTo at *
  rw [List.take_succ_eq_append_getElem hl, List.all_append, hn, e]
  simp [hr]
theorem join_nan {a b : List Rng} {more : Int} {k : Nat} {r : Rng} (hl : a.length = b.length) (h : (a ++ b)[k]? = some r) (hr : numB r = false) : joinErr a b more = 5 := by
  have : (a ++ b).all numB = false := by rw [List.all_eq_false]; exact ⟨r, List.mem_of_getElem? h, by simp [hr]⟩
  simp [joinErr, hl, this]
theorem join_end {a b : List Rng} {more : Int} {k : Nat} (hl : a.length = b.length) (hk : k = (a ++ b).length) (h : NumTo a b k) : joinErr a b more = if gdB a b more k then 0 else 2 := by
  unfold NumTo at h
  have e : (a ++ b).take k = a ++ b := List.take_of_length_le (by omega)
  rw [e] at h
  unfold joinErr gdB
  rw [e, if_neg (by simpa using hl), if_neg (by rw [h]; simp)]

def JoinPost (a b : List Rng) (more : Int) (w : World) (e : Ending) (w' : World) : Prop :=
  ∃ A n c, e = .returned (.tuple #[.slice A n c, .int .i64 (joinErr a b more)]) ∧ n ≤ c ∧ RdE Rng.cells 4 w' (fun b => w.heap.size ≤ b ∧ b < w'.heap.size) A n (joinRes a b more) ∧ Below w.heap.size w w'
theorem join_fail {a b : List Rng} {more : Int} {w w' : World} {x : Int} (h : joinErr a b more = x) (hx : x ≠ 0) (hb : Below w.heap.size w w') : JoinPost a b more w (.returned (.tuple #[.slice none 0 0, .int .i64 x])) w' := by
  have : joinRes a b more = [] := by simp [joinRes, h, hx]
  exact ⟨none, 0, 0, by rw [h], Nat.le_refl _, by rw [this]; exact RdE.nil .., hb⟩

theorem ext_of (r : Rng) (t : Nat) (ht : t < 2) : ∃ x : Ext, (t = 0 → x = r.least) ∧ (t = 1 → x = r.most) ∧
    ∀ w, (Instr.index 57 (.agg #[.float .f64 r.least.at_, .int .i64 r.least.of_, .float .f64 r.most.at_, .int .i64 r.most.of_]) (.int .i64 t)).run Try.prog w = .ok x.val w := by
  rcases (show t = 0 ∨ t = 1 by omega) with rfl | rfl
  · exact ⟨r.least, fun _ => rfl, fun h => absurd h (by decide), fun w => by kernel_rfl⟩
  · exact ⟨r.most, fun h => absurd h (by decide), fun _ => rfl, fun w => by kernel_rfl⟩

theorem list_of (A B : Option Addr) (n c d : Nat) (a b : List Rng) (w : World) (S S' : Nat → Prop) (hx : RdE Rng.cells 4 w S A n a) (hy : RdE Rng.cells 4 w S' B n b) (hS : ∀ b, S b → b < w.heap.size) (hS' : ∀ b, S' b → b < w.heap.size) (t : Nat) (ht : t < 2) :
    ∃ (C : Option Addr) (f : Nat) (l : List Rng), RdE Rng.cells 4 w (fun b => b < w.heap.size) C n l ∧ (∀ k, k < n → (a ++ b)[t * n + k]? = l[k]?) ∧
    ∀ w, (Instr.index 56 (.agg #[.slice A n c, .slice B n d]) (.int .i64 t)).run Try.prog w = .ok (.slice C n f) w := by
  rcases (show t = 0 ∨ t = 1 by omega) with rfl | rfl
  · exact ⟨A, c, a, hx.imp hS, fun k hk => by rw [Nat.zero_mul, Nat.zero_add, List.getElem?_append_left (by rw [hx.num]; exact hk)], fun w => by kernel_rfl⟩
  · exact ⟨B, d, b, hy.imp hS', fun k hk => by rw [Nat.one_mul, List.getElem?_append_right (by rw [hx.num]; omega), hx.num]; congr 1; omega, fun w => by kernel_rfl⟩


/-- the inmost loop, after t ends of r -/
def gE (r : Rng) (t : Nat) : Bool := if t = 0 then true else if t = 1 then extGood r.least else goodB r
def nE (r : Rng) (t : Nat) : Prop := (1 ≤ t → feq r.least.at_ r.least.at_ = true) ∧ (2 ≤ t → feq r.most.at_ r.most.at_ = true)
theorem gE_succ {r : Rng} {t : Nat} {x : Ext} (ht : t < 2) (h0 : t = 0 → x = r.least) (h1 : t = 1 → x = r.most) (g : Bool) : (g && gE r (t + 1)) = (g && gE r t && extGood x) := by
  rcases (show t = 0 ∨ t = 1 by omega) with rfl | rfl
  · simp [gE, h0]
  · simp [gE, h1, goodB, extGood, Bool.and_assoc]
theorem nE_succ {r : Rng} {t : Nat} {x : Ext} (ht : t < 2) (h0 : t = 0 → x = r.least) (h1 : t = 1 → x = r.most) (hn : nE r t) (hx : feq x.at_ x.at_ = true) : nE r (t + 1) := by
  rcases (show t = 0 ∨ t = 1 by omega) with rfl | rfl
  · exact ⟨fun _ => by rw [← h0 rfl]; exact hx, fun h => by omega⟩
  · exact ⟨fun _ => hn.1 (by omega), fun _ => by rw [← h1 rfl]; exact hx⟩
theorem nE_no {r : Rng} {t : Nat} {x : Ext} (ht : t < 2) (h0 : t = 0 → x = r.least) (h1 : t = 1 → x = r.most) (hx : feq x.at_ x.at_ = false) : numB r = false := by
  rcases (show t = 0 ∨ t = 1 by omega) with rfl | rfl
  · simp [numB, ← h0 rfl, hx]
  · simp [numB, ← h1 rfl, hx]
theorem nE_all {r : Rng} {t : Nat} (ht : ¬ t < 2) (h : nE r t) : numB r = true := by simp [numB, h.1 (by omega), h.2 (by omega)]
theorem gE_all {r : Rng} {t : Nat} (ht : ¬ t < 2) : gE r t = goodB r := by simp [gE, show t ≠ 0 by omega, show t ≠ 1 by omega]
theorem place_parts (o : Int) : (decide (0 ≤ o) = true ∧ decide (o ≤ 2147483647) = placeB o) ∨ (decide (0 ≤ o) = false ∧ placeB o = false) := by
  unfold placeB
  cases h : decide (0 ≤ o)
  · exact .inr ⟨rfl, rfl⟩
  · exact .inl ⟨rfl, by simp⟩

theorem place_of {o : Int} (h : placeB o = true) : 0 ≤ o ∧ o ≤ 2147483647 := by simpa [placeB] using h
theorem gd_good {a b : List Rng} {more : Int} {k i : Nat} {r : Rng} (hk : k = (a ++ b).length) (h : gdB a b more k = true) (hr : b[i]? = some r) :
    (0 ≤ more ∧ more ≤ 2147483647) ∧ (0 ≤ r.least.of_ ∧ r.least.of_ ≤ 2147483647) ∧ (0 ≤ r.most.of_ ∧ r.most.of_ ≤ 2147483647) := by
  unfold gdB at h
  rw [List.take_of_length_le (by omega), Bool.and_eq_true, List.all_eq_true] at h
  have h2 := h.2 r (List.mem_append_right _ (List.mem_of_getElem? hr))
  unfold goodB at h2
  rw [Bool.and_eq_true] at h2
  exact ⟨place_of h.1, place_of h2.1, place_of h2.2⟩
theorem res_get {a b : List Rng} {more : Int} {i : Nat} {q r : Rng} (h : joinErr a b more = 0) (hq : a[i]? = some q) (hr : b[i]? = some r) : (joinRes a b more)[i]? = some (bothR q (shiftR more r)) := by
  simp [joinRes, h, List.getElem?_zipWith, hq, hr]
theorem res_step {α : Type} {f : α → List Value} {xs : List α} {i : Nat} {x : α} (h : xs[i]? = some x) : (xs.take i).flatMap f ++ f x = (xs.take (i + 1)).flatMap f := by
  obtain ⟨hl, e⟩ := List.getElem?_eq_some_iff.1 h
  rw [List.take_succ_eq_append_getElem hl, List.flatMap_append, e]
  simp
theorem res_len {a b : List Rng} {more : Int} (h : joinErr a b more = 0) (hl : a.length = b.length) : (joinRes a b more).length = b.length := by
  simp [joinRes, h, hl]

set_option maxRecDepth 100000 in
set_option maxHeartbeats 1000000 in
theorem join_any (A B : Option Addr) (n m c d : Nat) (a b : List Rng) (more : Int) (w : World) (S S' : Nat → Prop) (hx : RdE Rng.cells 4 w S A n a) (hy : RdE Rng.cells 4 w S' B m b) (hS : ∀ b, S b → b < w.heap.size) (hS' : ∀ b, S' b → b < w.heap.size) (hn : n ≤ 1000000000000) (hm : m ≤ 1000000000000) :
    Calls Try.prog 18 #[.slice A n c, .slice B m d, .int .i64 more] w (JoinPost a b more w) := by
  obtain ⟨i0, hi0, hz0, hz1, hz2⟩ := info_parts info_rng
  by_cases hne : n = m
  · subst hne
    have hlen : a.length = b.length := by rw [hx.num, hy.num]
    have HX := Lib.hid hx
    have HY := Lib.hid hy
    have HS := Lib.hid hS
    have HS' := Lib.hid hS'
    have HL := Lib.hid hlen
    clear hx hy hS hS' hlen
    obtain ⟨g0, hg0⟩ : ∃ g0, placeB more = g0 := ⟨_, rfl⟩
    have hmw : (decide (0 ≤ more) = true ∧ decide (more ≤ 2147483647) = g0) ∨ (decide (0 ≤ more) = false ∧ g0 = false) := by
      unfold placeB at hg0
      cases h : decide (0 ≤ more)
      · rw [h] at hg0; exact .inr ⟨rfl, by simpa using hg0.symm⟩
      · rw [h] at hg0; exact .inl ⟨rfl, by simpa using hg0⟩
    have HG0 := Lib.hid hg0
    clear hg0
    rcases hmw with ⟨hm1, hm2⟩ | ⟨hm1, rfl⟩
    all_goals
      go_enter Try.func18, Try.ntmps18
      go_wp2_with fail

      go_loopw [8, 32] (fun g i wr => ∃ k : Nat, k ≤ 2 ∧ g = .bool (gdB a b more (k * n)) ∧ i = .int .i64 k ∧ Below w.heap.size w wr ∧ NumTo a b (k * n)) (fun _ i _ => 2 - (intOf i).toNat)
      case atStart => exact ⟨0, by omega, by rw [Nat.zero_mul]; simp [gdB, HG0.out], rfl, Below.refl _ _, by rw [Nat.zero_mul]; simp [NumTo]⟩
      case round =>
        obtain ⟨k, hk, rfl, rfl, hb, hn1⟩ := hrel
        have HB := Lib.hid hb
        have HN := Lib.hid hn1
        clear hb hn1
        by_cases hlt : k < 2
        · obtain ⟨C, f, l, hrd, hget, hidx⟩ := list_of A B n c d a b w S S' HX.out HY.out HS.out HS'.out k hlt
          have HI := hidx
          obtain ⟨gk, hgk⟩ : ∃ g, gdB a b more (k * n) = g := ⟨_, rfl⟩
          have HGK := Lib.hid hgk
          rw [hgk]
          clear hgk
          have HR := Lib.hid hrd
          have HGet := Lib.hid hget
          clear hrd hget hidx
          go_wp2_with fail
          obtain ⟨wo, rfl⟩ : ∃ wo : World, wo = wr := ⟨_, rfl⟩
          go_loopw [8, 37] (fun g i wr => ∃ j : Nat, j ≤ n ∧ g = .bool (gdB a b more (k * n + j)) ∧ i = .int .i64 j ∧ Below w.heap.size w wr ∧ NumTo a b (k * n + j)) (fun _ i _ => n - (intOf i).toNat)
          case atStart => exact ⟨0, Nat.zero_le _, by rw [Nat.add_zero, HGK.out], rfl, HB.out, by rw [Nat.add_zero]; exact HN.out⟩
          case round =>
            obtain ⟨j, hj, rfl, rfl, hb, hn1⟩ := hrel
            have HBj := Lib.hid hb
            have HNj := Lib.hid hn1
            clear hb hn1
            obtain ⟨gj, hgj⟩ : ∃ g, gdB a b more (k * n + j) = g := ⟨_, rfl⟩
            have HGJ := Lib.hid hgj
            rw [hgj]
            clear hgj
            by_cases hltj : j < n
            · obtain ⟨r, hr⟩ := get_some HR.out.num hltj
              obtain ⟨b1, o1, rfl, hSb, hc⟩ := HR.out.elem Rng.clen hr (by omega)
              have hc0 : wr.cell? ⟨b1, o1 + j * 4, none⟩ = some (.float .f64 r.least.at_) := (HBj.out.cell (p := ⟨b1, _, none⟩) hSb).trans (hc 0 _ rfl)
              have hc1 : wr.cell? ⟨b1, o1 + j * 4 + 1, none⟩ = some (.int .i64 r.least.of_) := (HBj.out.cell (p := ⟨b1, _, none⟩) hSb).trans (hc 1 _ rfl)
              have hc2 : wr.cell? ⟨b1, o1 + j * 4 + 2, none⟩ = some (.float .f64 r.most.at_) := (HBj.out.cell (p := ⟨b1, _, none⟩) hSb).trans (hc 2 _ rfl)
              have hc3 : wr.cell? ⟨b1, o1 + j * 4 + 3, none⟩ = some (.int .i64 r.most.of_) := (HBj.out.cell (p := ⟨b1, _, none⟩) hSb).trans (hc 3 _ rfl)
              have hab : (a ++ b)[k * n + j]? = some r := (HGet.out j hltj).trans hr
              have HAB := Lib.hid hab
              clear hab hr hc
              go_wp2_with fail
              obtain ⟨wo, rfl⟩ : ∃ wo : World, wo = wr := ⟨_, rfl⟩
              go_loopw [8, 46] (fun g i ww => ∃ t : Nat, t ≤ 2 ∧ g = .bool (gj && gE r t) ∧ i = .int .i64 t ∧ Below w.heap.size w ww ∧ nE r t) (fun _ i _ => 2 - (intOf i).toNat)
              case atStart => exact ⟨0, Nat.zero_le _, by simp [gE], rfl, below_then HBj.out (below1 ..), fun h => absurd h (by omega), fun h => absurd h (by omega)⟩
              case round =>
                obtain ⟨t, ht, rfl, rfl, hb, hn1⟩ := hrel
                have HBt := Lib.hid hb
                have HNt := Lib.hid hn1
                clear hb hn1 hc0 hc1 hc2 hc3
                by_cases hlt2 : t < 2
                · obtain ⟨x, hx0, hx1, hxi⟩ := ext_of r t hlt2
                  have HX0 := Lib.hid hx0
                  have HX1 := Lib.hid hx1
                  clear hx0 hx1
                  cases hf : feq x.at_ x.at_
                  · have HF := Lib.hid hf
                    have hq : (FloatKind.f64.format.order x.at_ x.at_ != some .eq) = true := by unfold feq at hf; simp [bne, hf]
                    clear hf
                    go_wp2_with fail
                    go_ret2
                    exact join_fail (join_nan HL.out HAB.out (nE_no hlt2 HX0.out HX1.out HF.out)) (by decide) (below_then HBt.out (below1 ..))
                  · have HF := Lib.hid hf
                    have hq : (FloatKind.f64.format.order x.at_ x.at_ != some .eq) = false := by unfold feq at hf; simp [bne, hf]
                    clear hf
                    obtain ⟨g8, hg⟩ : ∃ g, (gj && gE r t) = g := ⟨_, rfl⟩
                    rw [hg]
                    cases g8
                    · have HG := Lib.hid hg
                      clear hg
                      go_wp2_with fail
                      go_roundw
                      case rel => exact ⟨t + 1, by omega, by rw [gE_succ hlt2 HX0.out HX1.out, HG.out]; rfl, by go_num, below_then HBt.out (below1 ..), nE_succ hlt2 HX0.out HX1.out HNt.out HF.out⟩
                      case measure => simp [intOf]; omega
                    · have HG := Lib.hid hg
                      clear hg
                      rcases place_parts x.of_ with ⟨hp1, hp2⟩ | ⟨hp1, hp2⟩
                      · obtain ⟨pv, hpv⟩ : ∃ g, placeB x.of_ = g := ⟨_, rfl⟩
                        rw [hpv] at hp2
                        have HP := Lib.hid hpv
                        clear hpv
                        go_wp2_with fail
                        go_roundw
                        case rel => exact ⟨t + 1, by omega, by rw [gE_succ hlt2 HX0.out HX1.out, HG.out]; show _ = Value.bool (true && placeB x.of_); rw [HP.out]; rfl, by go_num, below_then HBt.out (below1 ..), nE_succ hlt2 HX0.out HX1.out HNt.out HF.out⟩
                        case measure => simp [intOf]; omega
                      · have HP := Lib.hid hp2
                        clear hp2
                        go_wp2_with fail
                        go_roundw
                        case rel => exact ⟨t + 1, by omega, by rw [gE_succ hlt2 HX0.out HX1.out, HG.out]; show _ = Value.bool (true && placeB x.of_); rw [HP.out]; rfl, by go_num, below_then HBt.out (below1 ..), nE_succ hlt2 HX0.out HX1.out HNt.out HF.out⟩
                        case measure => simp [intOf]; omega
                · go_wp2_with fail
                  go_roundw
                  case rel => exact ⟨j + 1, by omega, by rw [show k * n + (j + 1) = k * n + j + 1 by omega, gd_succ HAB.out, HGJ.out, gE_all hlt2], by go_num, HBt.out, by rw [show k * n + (j + 1) = k * n + j + 1 by omega]; exact num_succ HNj.out HAB.out (nE_all hlt2 HNt.out)⟩
                  case measure => simp [intOf]; omega
            · obtain rfl : n = j := by omega
              go_wp2_with fail
              go_roundw
              case rel => exact ⟨k + 1, by omega, by rw [show (k + 1) * n = k * n + n by rw [Nat.add_mul, Nat.one_mul], HGJ.out], by go_num, HBj.out, by rw [show (k + 1) * n = k * n + n by rw [Nat.add_mul, Nat.one_mul]]; exact HNj.out⟩
              case measure => simp [intOf]; omega
        · have HK2 := Lib.hid (show k = 2 by omega)
          have hres := join_end (more := more) HL.out (by rw [List.length_append, HX.out.num, HY.out.num, HK2.out]; omega) HN.out
          have HE := Lib.hid hres
          clear hres
          obtain ⟨gd, hgd⟩ : ∃ g, gdB a b more (k * n) = g := ⟨_, rfl⟩
          rw [hgd]
          cases gd
          · have HGD := Lib.hid hgd
            clear hgd
            go_wp2_with fail
            go_ret2
            exact join_fail (by rw [HE.out, HGD.out]; rfl) (by decide) HB.out
          · have HGD := Lib.hid hgd
            clear hgd
            go_wp2_with fail
            obtain ⟨wo, rfl⟩ : ∃ wo : World, wo = wr := ⟨_, rfl⟩
            go_loopw [15, 72] (fun v i wr => ∃ j : Nat, j ≤ n ∧ i = .int .i64 j ∧ wr.ownsRow w.heap.size 47 4 v j (((joinRes a b more).take j).flatMap Rng.cells) ∧ Below w.heap.size w wr) (fun _ i _ => n - (intOf i).toNat)
            case atStart => exact ⟨0, Nat.zero_le _, rfl, World.ownsRow_nil .., HB.out⟩
            case round =>
              obtain ⟨j, hj, rfl, hown, hb⟩ := hrel
              have HBj := Lib.hid hb
              have HO := Lib.hid hown
              clear hb hown
              by_cases hltj : j < n
              · obtain ⟨r, hr⟩ := get_some HY.out.num hltj
                obtain ⟨b1, o1, rfl, hSb, hc⟩ := HY.out.elem Rng.clen hr (by omega)
                have hc0 : wr.cell? ⟨b1, o1 + j * 4, none⟩ = some (.float .f64 r.least.at_) := (HBj.out.cell (p := ⟨b1, _, none⟩) (HS'.out _ hSb)).trans (hc 0 _ rfl)
                have hc1 : wr.cell? ⟨b1, o1 + j * 4 + 1, none⟩ = some (.int .i64 r.least.of_) := (HBj.out.cell (p := ⟨b1, _, none⟩) (HS'.out _ hSb)).trans (hc 1 _ rfl)
                have hc2 : wr.cell? ⟨b1, o1 + j * 4 + 2, none⟩ = some (.float .f64 r.most.at_) := (HBj.out.cell (p := ⟨b1, _, none⟩) (HS'.out _ hSb)).trans (hc 2 _ rfl)
                have hc3 : wr.cell? ⟨b1, o1 + j * 4 + 3, none⟩ = some (.int .i64 r.most.of_) := (HBj.out.cell (p := ⟨b1, _, none⟩) (HS'.out _ hSb)).trans (hc 3 _ rfl)
                obtain ⟨q, hq⟩ := get_some HX.out.num hltj
                obtain ⟨b2, o2, rfl, hSb2, hd⟩ := HX.out.elem Rng.clen hq (by omega)
                have hd0 : wr.cell? ⟨b2, o2 + j * 4, none⟩ = some (.float .f64 q.least.at_) := (HBj.out.cell (p := ⟨b2, _, none⟩) (HS.out _ hSb2)).trans (hd 0 _ rfl)
                have hd1 : wr.cell? ⟨b2, o2 + j * 4 + 1, none⟩ = some (.int .i64 q.least.of_) := (HBj.out.cell (p := ⟨b2, _, none⟩) (HS.out _ hSb2)).trans (hd 1 _ rfl)
                have hd2 : wr.cell? ⟨b2, o2 + j * 4 + 2, none⟩ = some (.float .f64 q.most.at_) := (HBj.out.cell (p := ⟨b2, _, none⟩) (HS.out _ hSb2)).trans (hd 2 _ rfl)
                have hd3 : wr.cell? ⟨b2, o2 + j * 4 + 3, none⟩ = some (.int .i64 q.most.of_) := (HBj.out.cell (p := ⟨b2, _, none⟩) (HS.out _ hSb2)).trans (hd 3 _ rfl)
                clear hc hd
                obtain ⟨hv0, hv1, hv2⟩ := gd_good (by rw [List.length_append, HX.out.num, HY.out.num, HK2.out]; omega) HGD.out hr
                obtain ⟨g1, g2⟩ := hv0
                obtain ⟨g3, g4⟩ := hv1
                obtain ⟨g5, g6⟩ := hv2
                have HR := Lib.hid hr
                have HQ := Lib.hid hq
                clear hr hq
                go_wp2_with fail
                clear hc0 hc1 hc2 hc3
                have dA := below1 wr (.cells #[.float .f64 r.least.at_, .int .i64 (r.least.of_ + more), .float .f64 r.most.at_, .int .i64 (r.most.of_ + more)] 47)
                have k0 := cell_regrown (bat dA hd0)
                have k1 := cell_regrown (bat dA hd1)
                have k2 := cell_regrown (bat dA hd2)
                have k3 := cell_regrown (bat dA hd3)
                have n0 := cell_regrown (new_cell wr #[.float .f64 r.least.at_, .int .i64 (r.least.of_ + more), .float .f64 r.most.at_, .int .i64 (r.most.of_ + more)] 47 0 _ rfl)
                have n1 := cell_regrown (new_cell wr #[.float .f64 r.least.at_, .int .i64 (r.least.of_ + more), .float .f64 r.most.at_, .int .i64 (r.most.of_ + more)] 47 1 _ rfl)
                have n2 := cell_regrown (new_cell wr #[.float .f64 r.least.at_, .int .i64 (r.least.of_ + more), .float .f64 r.most.at_, .int .i64 (r.most.of_ + more)] 47 2 _ rfl)
                have n3 := cell_regrown (new_cell wr #[.float .f64 r.least.at_, .int .i64 (r.least.of_ + more), .float .f64 r.most.at_, .int .i64 (r.most.of_ + more)] 47 3 _ rfl)
                have cQ : ∀ d os, Calls Try.prog 24 #[q.val, Rng.val (shiftR more r)] (grow (redrawn (wr.alloc (.cells #[.float .f64 r.least.at_, .int .i64 (r.least.of_ + more), .float .f64 r.most.at_, .int .i64 (r.most.of_ + more)] 47)) d) os) fun e w'' => e = .returned (bothR q (shiftR more r)).val ∧ ∃ p : Regrown, w'' = grow (redrawn (wr.alloc (.cells #[.float .f64 r.least.at_, .int .i64 (r.least.of_ + more), .float .f64 r.most.at_, .int .i64 (r.most.of_ + more)] 47)) p.d) p.os := fun d os => Calls.regrown_of (both_any _ _ _)
                have HA := Lib.hid dA
                clear dA
                refine wp_region_early_below [0] [1, 2, 3, 4, 5, 6] 7 (by kernel_rfl) (by kernel_rfl) (fun _ _ d _ _ h => by cases d <;> exact h) ?_
                simp only [pick, early, List.filterMap_cons, List.filterMap_nil, List.getElem?_cons_succ, List.getElem?_cons_zero, List.size_toArray, List.getElem?_toArray]
                repeat (first | go_big_quiet_step (exact cQ _ _) | quiet_step (exact cQ _ _))
                refine wpQuiet_nil ?_
                intro wq hwq
                have hbq := below_class hwq
                clear hwq k0 k1 k2 k3 n0 n1 n2 n3 cQ hd0 hd1 hd2 hd3
                obtain ⟨A3, c3, rfl, hc3, _⟩ := own_slice HO.out
                have hbA := below_then HA.out hbq
                have hzz := hbA.size
                have hjz := HBj.out.size
                have ho1 := (own_below HO.out hbA).alloc (.cells (bothR q (shiftR more r)).cells.toArray 47)
                have HO1 := Lib.hid ho1
                have HBA := Lib.hid hbA
                have HBQ := Lib.hid hbq
                clear ho1 hbA hbq
                go_wp2_with (at_builtin; go_must (refine wpList_append_rd _ rfl (.tmp 91) (.tmp 98) _ rfl w.heap.size 47 i0 _ 4 32 Try.underlying24 hi0 hz0 hz1 hz2 rfl (by omega) (.slice A3 j c3) j (((joinRes a b more).take j).flatMap Rng.cells) rfl HO1.out (fun _ => True) (some ⟨wq.heap.size, 0, none⟩) 1 1 (bothR q (shiftR more r)).cells rfl (rd_blk (blk_new ..) rfl trivial) (by simpa using rng_one [bothR q (shiftR more r)]) (by simp only [maxLen]; omega) (by omega) (by simp; omega) ?_); intro v2 w2 hown2 hg2 hat2)
                have hj0 : joinErr a b more = 0 := by rw [HE.out, HGD.out]; rfl
                have hown3 := hown2
                rw [res_step (f := Rng.cells) (res_get hj0 HQ.out HR.out)] at hown3
                have HO3 := Lib.hid hown3
                have HB3 := Lib.hid (HBj.out.trans ((below_then HBA.out (below1 ..)).mono hjz |>.trans (Below.grown (Below.refl w.heap.size _) hg2 (by simp; omega) (fun g hg => (HO1.out.lt g hg).1))))
                go_roundw
                case rel => exact ⟨j + 1, by omega, by go_num, HO3.out, HB3.out⟩
                case measure => simp [intOf]; omega
              · obtain rfl : n = j := by omega
                go_wp2_with fail
                go_ret2
                obtain ⟨A', c', e, hc', hh⟩ := own_slice HO.out
                have hown := HO.out
                rw [e] at hown
                have hj0 : joinErr a b more = 0 := by rw [HE.out, HGD.out]; rfl
                rw [List.take_of_length_le (by rw [res_len hj0 HL.out, HY.out.num]; exact Nat.le_refl _)] at hown
                exact ⟨A', n, c', by rw [e, hj0]; rfl, hc', (RdE.of_own Rng.clen (by omega) hown).imp (fun b h => ⟨h.1, h.2.1⟩), HBj.out⟩
  · have herr : joinErr a b more = 4 := by
      unfold joinErr
      rw [if_pos (by rw [hx.num, hy.num]; exact hne)]
    have hq : ((n : Int) != m) = true := by simp; omega
    have HE := Lib.hid herr
    clear herr hx hy hS hS'
    go_enter Try.func18, Try.ntmps18
    go_wp2_with fail
    go_ret2
    exact join_fail HE.out (by decide) (Below.refl _ _)

end Go.Proofs.Ytmeljjijofkllaa
