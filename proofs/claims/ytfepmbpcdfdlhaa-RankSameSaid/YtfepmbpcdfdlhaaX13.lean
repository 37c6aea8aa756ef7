import Derived.Test.YtfepmbpcdfdlhaaX12
import Derived.Deep.Cut
import Derived.Deep.DeepCutAuto
set_option linter.unusedSimpArgs false
set_option linter.unusedVariables false
/- (*rank.table).off: the walk -/
namespace Go.Proofs.Ytfepmbpcdfdlhaa
open Go.RowKit Go.Sort

/-- sizes that all operations allow -/
def Sm (z : Int) : Prop := (dig z.natAbs).length ≤ 100000
theorem Sm.ten {z : Int} (h : Sm z) : (dig z.natAbs).length ≤ 10000000 := Nat.le_trans h (by decide)
theorem mulLen (a b : Nat) : (dig (a * b)).length ≤ (dig a).length + (dig b).length := by
  apply dig_len_le
  rw [Nat.pow_add]
  exact Nat.mul_lt_mul_of_lt_of_lt (lt_dig_len a) (lt_dig_len b)

theorem subLen (x y : Int) : (dig (x - y).natAbs).length ≤ max (dig x.natAbs).length (dig y.natAbs).length + 1 := by
  refine dig_len_le ?_
  have h1 := lt_dig_len x.natAbs
  have h2 := lt_dig_len y.natAbs
  obtain ⟨m, hm⟩ : ∃ m, m = max (dig x.natAbs).length (dig y.natAbs).length := ⟨_, rfl⟩
  rw [← hm]
  have h3 : W32 ^ (dig x.natAbs).length ≤ W32 ^ m := Nat.pow_le_pow_right (by decide) (by omega)
  have h4 : W32 ^ (dig y.natAbs).length ≤ W32 ^ m := Nat.pow_le_pow_right (by decide) (by omega)
  have h5 := Int.natAbs_sub_le x y
  have h6 : W32 ^ (m + 1) = W32 ^ m * 4294967296 := Nat.pow_succ ..
  rw [h6]
  generalize W32 ^ m = P at *
  omega
theorem sm_of {z : Int} {E : Nat} (h : z.natAbs < 2 ^ E) (hE : E ≤ 3000000) : Sm z := by
  unfold Sm
  refine Nat.le_trans (dig_len_le (k := E / 32 + 1) ?_) (by omega)
  rw [W32_pow]
  exact Nat.lt_of_lt_of_le h (Nat.pow_le_pow_right (by decide) (by omega))
theorem bigB_lt {R M a b : Nat} (hR : R + 1 ≤ 2 ^ a) (hM : M + 1 ≤ 2 ^ b) : bigB R M < 2 ^ ((a + b) * (R + 1) + 2) := by
  unfold bigB
  have h1 : (R + 1) * (M + 1) ≤ 2 ^ (a + b) := by rw [Nat.pow_add]; exact Nat.mul_le_mul hR hM
  have h2 : ((R + 1) * (M + 1)) ^ (R + 1) ≤ 2 ^ ((a + b) * (R + 1)) := by rw [Nat.pow_mul]; exact Nat.pow_le_pow_left h1 _
  rw [Nat.pow_add 2 ((a + b) * (R + 1)) 2]
  have h3 : 0 < 2 ^ ((a + b) * (R + 1)) := Nat.two_pow_pos _
  have h4 : (2 : Nat) ^ 2 = 4 := by decide
  rw [h4]
  generalize 2 ^ ((a + b) * (R + 1)) = P at h2 h3 ⊢
  generalize ((R + 1) * (M + 1)) ^ (R + 1) = X at h2 ⊢
  omega
theorem PRow.noInt {w : World} {g : Nat} {ps : List Nat} {zs : List Int} (h : PRow w g ps zs) (h0 : 0 < ps.length) {b : Nat} {z : Int} (hb : IntAt w b 0 z) : b ≠ g := fun e => by
  subst e
  obtain ⟨p, hp⟩ : ∃ p, ps[0]? = some p := ⟨_, List.getElem?_eq_getElem h0⟩
  have h1 := h.ptr 0 p hp
  rw [hb.neg] at h1
  cases h1
theorem zip_get {zs bs : List Int} {F : Int → Int → Int} {k : Nat} {z b : Int} (hz : zs[k]? = some z) (hb : bs[k]? = some b) : (List.zipWith F zs bs)[k]? = some (F z b) := by
  rw [List.getElem?_zipWith, hz, hb]
/-- the numbers when the first k are done -/
def wayZ (zs ns : List Int) (k : Nat) : List Int := ns.take k ++ zs.drop k
theorem wayZ_len {zs ns : List Int} {k : Nat} (h : ns.length = zs.length) (hk : k ≤ zs.length) : (wayZ zs ns k).length = zs.length := by unfold wayZ; simp; omega
theorem wayZ_set {zs ns : List Int} {k : Nat} {n : Int} (h : ns.length = zs.length) (hn : ns[k]? = some n) : (wayZ zs ns k).set k n = wayZ zs ns (k + 1) := by
  have hk := (List.getElem?_eq_some_iff.1 hn).1
  unfold wayZ
  refine List.ext_getElem? fun i => ?_
  rw [List.getElem?_set]
  simp only [List.getElem?_append, List.length_take, List.length_append, List.length_drop, List.getElem?_take, List.getElem?_drop]
  by_cases e : k = i
  · subst e
    rw [if_pos rfl, if_pos (by omega), if_pos (by omega), if_pos (by omega), hn]
  · rw [if_neg e]
    by_cases h1 : i < k
    · rw [if_pos (by omega), if_pos h1, if_pos (by omega), if_pos (by omega)]
    · rw [if_neg (by omega), if_neg (by omega)]
      congr 1
      omega
theorem wayZ_get {zs ns : List Int} {k : Nat} (h : ns.length = zs.length) (hk : k < zs.length) : (wayZ zs ns k)[k]? = zs[k]? := by
  unfold wayZ
  rw [List.getElem?_append_right (by simp; omega)]
  simp
  congr 1
  omega
theorem wayZ_zero (zs ns : List Int) : wayZ zs ns 0 = zs := by simp [wayZ]
theorem wayZ_all {zs ns : List Int} (h : ns.length = zs.length) : wayZ zs ns zs.length = ns := by
  unfold wayZ
  rw [List.take_of_length_le (by omega), List.drop_of_length_le (Nat.le_refl _), List.append_nil]

/-- one number of the row was changed in its place -/
theorem PRow.chg {w w' : World} {S : Nat → Prop} {g k q : Nat} {ps : List Nat} {zs : List Int} {z : Int} (h : PRow w g ps zs) (hu : UpS w w' S) (hg : ¬ S g) (hk : ps[k]? = some q) (hz : IntAt w' q 0 z) (hne : ∀ (j p : Nat), j ≠ k → ps[j]? = some p → ¬ S p) : PRow w' g ps (zs.set k z) :=
  ⟨by simp [h.len], Nat.lt_of_lt_of_le h.lt hu.size, fun j p hj => hu.cellOf (h.ptr j p hj) hg, fun j => by rw [hu.frozenOf h.lt hg]; exact h.fz j,
    fun j p z' hj hz' => by
      rw [List.getElem?_set] at hz'
      by_cases e : k = j
      · subst e
        have hkl := (List.getElem?_eq_some_iff.1 hk).1
        rw [if_pos rfl, if_pos (by rw [← h.len]; exact hkl)] at hz'
        injection hz' with hz'
        rw [hk] at hj
        injection hj with hj
        subst hj hz'
        exact hz
      · rw [if_neg e] at hz'
        exact (h.int j p z' hj hz').ups hu (hne j p (fun e2 => e e2.symm) hj), h.ne⟩
theorem Upd.toS {w w' : World} {b o : Nat} (h : Upd w w' b o) {S : Nat → Prop} (hS : S b) : UpS w w' S := h.toB.toS hS

set_option maxRecDepth 100000 in
set_option maxHeartbeats 8000000 in
theorem off_tab (gt g gb gp gf gl n cg cb : Nat) (ps pb : List Nat) (zs bs : List Int) (p f d : Int) (w : World)
    (hr : PRow w g ps zs) (hb : PRow w gb pb bs) (hn : zs.length = n) (hnb : bs.length = n) (hn0 : 0 < n) (hn1 : n ≤ 1000000) (hp : IntAt w gp 0 p) (hf : IntAt w gf 0 f) (hd : IntAt w gl 0 d) (ht : w.cell? ⟨gt, 2, none⟩ = some (PtrV gl)) (hd0 : d ≠ 0)
    (sz : ∀ z ∈ zs, Sm z) (sb : ∀ b ∈ bs, Sm b) (sp : Sm p) (sf : Sm f) (sd : Sm d) (ne1 : gb ≠ g) (ne2 : gt ≠ g) :
    Calls Try.prog 77 #[PtrV gt, .slice (some ⟨g, 0, none⟩) n cg, .slice (some ⟨gb, 0, none⟩) n cb, PtrV gp, PtrV gf] w fun e w' => e = .returned (.tuple #[]) ∧
      (∃ qs, PRow w' g qs (offRow zs bs p f d) ∧ ∀ q ∈ qs, w.heap.size ≤ q) ∧ UpS w w' (fun b => b = g) := by
  obtain ⟨ns, hns⟩ : ∃ ns, ns = offRow zs bs p f d := ⟨_, rfl⟩
  have hnl : ns.length = zs.length := by rw [hns]; unfold offRow; rw [List.length_zipWith]; omega
  have hlt := hr.lt
  have hpl := hr.len
  have HNS := Lib.hid hns
  have HNL := Lib.hid (And.intro hnl (And.intro hn (And.intro hnb hpl)))
  have HR := Lib.hid hr
  have HB := Lib.hid hb
  have HP := Lib.hid hp
  have HF := Lib.hid hf
  have HD := Lib.hid hd
  have HT := Lib.hid ht
  have HSZ := Lib.hid (And.intro sz (And.intro sb (And.intro sp (And.intro sf sd))))
  have np : gp ≠ g := hr.noInt (by omega) hp
  have nf : gf ≠ g := hr.noInt (by omega) hf
  have nl : gl ≠ g := hr.noInt (by omega) hd
  have nb : ∀ q ∈ pb, q ≠ g := fun q hq => by
    obtain ⟨k, hk⟩ := List.getElem?_of_mem hq
    have hkl := (List.getElem?_eq_some_iff.1 hk).1
    have hbl := hb.len
    obtain ⟨z, hz⟩ : ∃ z, bs[k]? = some z := ⟨_, List.getElem?_eq_getElem (by omega)⟩
    exact hr.noInt (by omega) (hb.int k q z hk hz)
  have NN := Lib.hid (And.intro np (And.intro nf (And.intro nl nb)))
  have HTL := Lib.hid (World.block_lt_of_cell? w ⟨gt, 2, none⟩ ht)
  rw [← hns]
  clear hr hb hp hf hd ht sz sb sp sf sd np nf nl nb hns hnl hpl hn hnb
  have hx0 : IntAt (w.alloc (.cells #[.bool false, .slice none 0 0] 80)) w.heap.size 0 0 := new_intAt w
  have HX0 := Lib.hid hx0
  clear hx0
  go_enter Try.func77, Try.ntmps77
  go_wp2_with fail
  go_loopw [15] (fun iv wr => ∃ (k : Nat) (qs : List Nat) (x : Int), k ≤ n ∧ iv = .int .i64 k ∧ UpS w wr (fun b => b = g) ∧ PRow wr g qs (wayZ zs ns k) ∧ (∀ (j q : Nat), j < k → qs[j]? = some q → w.heap.size < q) ∧ (∀ (j : Nat), k ≤ j → qs[j]? = ps[j]?) ∧ IntAt wr w.heap.size 0 x) (fun iv _ => n - (intOf iv).toNat)
  case atStart =>
    refine ⟨0, ps, 0, Nat.zero_le _, rfl, UpS.of_below _ (below1 ..), ?_, fun j q hj => by omega, fun j _ => rfl, HX0.out⟩
    rw [wayZ_zero]
    exact HR.out.below (below1 ..)
  case round =>
    obtain ⟨k, qs, x, hk, rfl, hu, hrow, hnew, hold, hx⟩ := hrel
    have HU := Lib.hid hu
    have HROW := Lib.hid hrow
    have HNEW := Lib.hid hnew
    have HOLD := Lib.hid hold
    have HXX := Lib.hid hx
    have hql : qs.length = n := by have h1 := hrow.len; have h2 := wayZ_len (k := k) HNL.out.1 (by have := HNL.out.2.1; omega); have := HNL.out.2.1; omega
    have HQL := Lib.hid hql
    have hws := hu.size
    by_cases hlt2 : k < n
    · have hlti : (k : Int) < (n : Int) := by omega
      obtain ⟨z, hz⟩ : ∃ z, zs[k]? = some z := ⟨_, List.getElem?_eq_getElem (by have := HNL.out.2.1; omega)⟩
      obtain ⟨b, hbb⟩ : ∃ b, bs[k]? = some b := ⟨_, List.getElem?_eq_getElem (by have := HNL.out.2.2.1; omega)⟩
      obtain ⟨q0, hq0⟩ : ∃ q, qs[k]? = some q := ⟨_, List.getElem?_eq_getElem (by omega)⟩
      obtain ⟨p0, hp0⟩ : ∃ q, pb[k]? = some q := ⟨_, List.getElem?_eq_getElem (by have := HB.out.len; have := HNL.out.2.2.1; omega)⟩
      have hzw : (wayZ zs ns k)[k]? = some z := by rw [wayZ_get HNL.out.1 (by have := HNL.out.2.1; omega)]; exact hz
      have c0 := hrow.ptr k q0 hq0
      have iz := hrow.int k q0 z hq0 hzw
      have c1 : wr.cell? ⟨gb, k, none⟩ = some (PtrV p0) := hu.cellOf (HB.out.ptr k p0 hp0) ne1
      have ib := (HB.out.int k p0 b hp0 hbb).ups hu (NN.out.2.2.2 p0 (List.mem_of_getElem? hp0))
      have ip := HP.out.ups hu NN.out.1
      have jf := HF.out.ups hu NN.out.2.1
      have jd := HD.out.ups hu NN.out.2.2.1
      have c2 : wr.cell? ⟨gt, 2, none⟩ = some (PtrV gl) := hu.cellOf HT.out ne2
      have ff := hrow.fz k
      have hb1 := below1 wr (.cells #[.bool false, .slice none 0 0] 80)
      have d0 := bat hb1 c0
      have hmz : Sm z := HSZ.out.1 z (List.mem_of_getElem? hz)
      have hmb : Sm b := HSZ.out.2.1 b (List.mem_of_getElem? hbb)
      have HZ := Lib.hid hz
      have HBB := Lib.hid hbb
      have HQ0 := Lib.hid hq0
      have HP0 := Lib.hid hp0
      have IZ := Lib.hid (iz.below hb1)
      have IB := Lib.hid (ib.below hb1)
      have IP := Lib.hid (ip.below hb1)
      have IF := Lib.hid (jf.below hb1)
      have ID := Lib.hid (jd.below hb1)
      have IX := Lib.hid (hx.below hb1)
      have C1 := Lib.hid (bat hb1 c1)
      have C2 := Lib.hid (bat hb1 c2)
      have FF := Lib.hid (bfz hb1 hrow.lt ff)
      have D0 := Lib.hid d0
      have SMZ := Lib.hid (And.intro hmz hmb)
      obtain ⟨gq, hgq⟩ : ∃ gq, gq = wr.heap.size := ⟨_, rfl⟩
      obtain ⟨wA, hwA⟩ : ∃ wA, wA = wr.alloc (.cells #[.bool false, .slice none 0 0] 80) := ⟨_, rfl⟩
      have hq0n : IntAt wA gq 0 0 := by rw [hwA, hgq]; exact new_intAt wr
      rw [← hwA] at IZ IB IP IF ID IX C1 C2 FF D0 hb1
      have HB1 := Lib.hid hb1
      have HQN := Lib.hid hq0n
      have HWA := Lib.hid hwA
      have HGQ := Lib.hid hgq
      have hwAs : wA.heap.size = gq + 1 := by rw [hwA, hgq]; simp
      have HAS := Lib.hid hwAs
      clear hu hrow hnew hold hx c0 iz c1 ib ip jf jd c2 ff hz hbb hq0 hp0 hzw hmz hmb hb1 hq0n hwA hgq
      go_wp2_with fail
      rw [← HWA.out, ← HGQ.out]
      refine (mul_int gq 0 q0 0 gp 0 0 z p wA HQN.out IZ.out IP.out SMZ.out.1.ten HSZ.out.2.2.1.ten).mono ?_
      rintro e w1 ⟨rfl, hi1, hu1⟩
      have hbr1 : Below wr.heap.size wr w1 := HB1.out.trans (hu1.below (by have := HGQ.out; omega) HB1.out.size)
      have hr1 := HROW.out.below hbr1
      have hu1S : UpS wr w1 (fun b => b = g) := UpS.of_below _ hbr1
      have hgqg : gq ≠ g := by have := HROW.out.lt; have := HGQ.out; omega
      have e0 := hr1.ptr k q0 HQ0.out
      have e1 := hr1.fz k
      have hkl : k < qs.length := by have := HQL.out; omega
      obtain ⟨w2, hw2⟩ : ∃ w2, w2 = w1.setCell ⟨g, k, none⟩ (PtrV gq) := ⟨_, rfl⟩
      obtain ⟨hr2, hs2⟩ := hr1.set hkl hi1 hgqg
      rw [← hw2] at hr2 hs2
      have hu12 : UpS wr w2 (fun b => b = g) := hu1S.trans hs2 (fun b _ h => h)
      have hgqn : ∀ (j q : Nat), j ≠ k → qs[j]? = some q → q < gq := fun j q hjk hj => by
        have hjl := (List.getElem?_eq_some_iff.1 hj).1
        obtain ⟨z', hz'⟩ : ∃ z', (wayZ zs ns k)[j]? = some z' := ⟨_, List.getElem?_eq_getElem (by rw [← HROW.out.len]; exact hjl)⟩
        have := (HROW.out.int j q z' hj hz').lt
        have := HGQ.out
        omega
      have hIQ2 : IntAt w2 gq 0 (z * p) := hi1.ups hs2 hgqg
      have hIX2 : IntAt w2 w.heap.size 0 x := by
        have h1 : IntAt w1 w.heap.size 0 x := HXX.out.below hbr1
        exact h1.ups hs2 (by have := HR.out.lt; omega)
      have hgx : w.heap.size < gq := by have := HXX.out.lt; have := HGQ.out; omega
      have hc1 : w2.cell? ⟨gb, k, none⟩ = some (PtrV p0) := hs2.cellOf (bat hbr1 (HU.out.cellOf (HB.out.ptr k p0 HP0.out) ne1)) ne1
      have hc2 : w2.cell? ⟨gt, 2, none⟩ = some (PtrV gl) := hs2.cellOf (bat hbr1 (HU.out.cellOf HT.out ne2)) ne2
      have hc0 : w2.cell? ⟨g, k, none⟩ = some (PtrV gq) := hr2.ptr k gq (by rw [List.getElem?_set, if_pos rfl, if_pos hkl])
      have HU12 := Lib.hid hu12
      have HR2 := Lib.hid hr2
      have HGN := Lib.hid hgqn
      have IQ2 := Lib.hid hIQ2
      have IX2 := Lib.hid hIX2
      have GX := Lib.hid hgx
      have GQG := Lib.hid hgqg
      have CC0 := Lib.hid hc0
      have CC1 := Lib.hid hc1
      have CC2 := Lib.hid hc2
      have HW2 := Lib.hid hw2
      have HKL := Lib.hid hkl
      clear hi1 hu1 hbr1 hr1 hu1S hr2 hs2 hu12 hgqn hIQ2 hIX2 hw2 hc0 hc1 hc2 d0
      go_upto_region 5 with fail
      rw [← HW2.out]
      obtain ⟨u, hu⟩ : ∃ u, u = w2.drew := ⟨_, rfl⟩
      have hbu : Below w2.heap.size w2 u := by rw [hu]; exact (Below.refl _ _).drew
      have HUU := Lib.hid hu
      have HBU := Lib.hid hbu
      have y0 := CC0.out
      have y1 := CC1.out
      clear hu hbu e0 e1
      refine wp_region_held_drew (S := (fun w' => w'.cell? ⟨g, k, none⟩ = some (PtrV gq) ∧ w'.cell? ⟨gb, k, none⟩ = some (PtrV p0))) (by kernel_rfl) ?_ (fun hHeld => ?_)
      · first | exact True.intro | ((try dsimp only); go_keep)
      refine tkH (i := 0) (v := ?_) rfl (by kernel_rfl) (Or.inl ⟨by kernel_rfl, ?_⟩) (by assumption) ?_
      rotate_left 1
      · (intro w hSw; (try dsimp only at hSw); go_simp; try with_reducible rfl)
      try simp only [lyA, lyB, lyC, Act.put, lyD, lyE, lyF]
      refine tkH (i := 1) (v := ?_) rfl (by kernel_rfl) (Or.inl ⟨by kernel_rfl, ?_⟩) (by assumption) ?_
      rotate_left 1
      · (intro w hSw; (try dsimp only at hSw); go_simp; try with_reducible rfl)
      try simp only [lyA, lyB, lyC, Act.put, lyD, lyE, lyF]
      refine tkH (i := 2) (v := ?_) rfl (by kernel_rfl) (Or.inl ⟨by kernel_rfl, ?_⟩) (by assumption) ?_
      rotate_left 1
      · (intro w hSw; (try dsimp only at hSw); go_simp; try with_reducible rfl)
      try simp only [lyA, lyB, lyC, Act.put, lyD, lyE, lyF]
      refine tkH (i := 3) (v := ?_) rfl (by kernel_rfl) (Or.inl ⟨by kernel_rfl, ?_⟩) (by assumption) ?_
      rotate_left 1
      · (intro w hSw; (try dsimp only at hSw); go_simp; try with_reducible rfl)
      try simp only [lyA, lyB, lyC, Act.put, lyD, lyE, lyF]
      refine tkH (i := 4) (v := ?_) rfl (by kernel_rfl) (Or.inl ⟨by kernel_rfl, ?_⟩) (by assumption) ?_
      rotate_left 1
      · (intro w hSw; (try dsimp only at hSw); go_simp; try with_reducible rfl)
      try simp only [lyA, lyB, lyC, Act.put, lyD, lyE, lyF]
      refine tkH (i := 5) (v := ?_) rfl (by kernel_rfl) (Or.inl ⟨by kernel_rfl, ?_⟩) (by assumption) ?_
      rotate_left 1
      · (intro w hSw; (try dsimp only at hSw); go_simp; try with_reducible rfl)
      try simp only [lyA, lyB, lyC, Act.put, lyD, lyE, lyF]
      refine tkH (i := 6) (v := ?_) rfl (by kernel_rfl) (Or.inl ⟨by kernel_rfl, ?_⟩) (by assumption) ?_
      rotate_left 1
      · (intro w hSw; (try dsimp only at hSw); go_simp; try with_reducible rfl)
      try simp only [lyA, lyB, lyC, Act.put, lyD, lyE, lyF]
      refine tkH (i := 7) (v := ?_) rfl (by kernel_rfl) (Or.inl ⟨by kernel_rfl, ?_⟩) (by assumption) ?_
      rotate_left 1
      · (intro w hSw; (try dsimp only at hSw); go_simp; try with_reducible rfl)
      try simp only [lyA, lyB, lyC, Act.put, lyD, lyE, lyF]
      refine tkH (i := 8) (v := ?_) rfl (by kernel_rfl) (Or.inl ⟨by kernel_rfl, ?_⟩) (by assumption) ?_
      rotate_left 1
      · (intro w hSw; (try dsimp only at hSw); go_simp; try with_reducible rfl)
      try simp only [lyA, lyB, lyC, Act.put, lyD, lyE, lyF]
      refine tkH (i := 9) (v := ?_) rfl (by kernel_rfl) (Or.inl ⟨by kernel_rfl, ?_⟩) (by assumption) ?_
      rotate_left 1
      · (intro w hSw; (try dsimp only at hSw); go_simp; try with_reducible rfl)
      try simp only [lyA, lyB, lyC, Act.put, lyD, lyE, lyF]
      refine tkH (i := 10) (v := ?_) rfl (by kernel_rfl) (Or.inl ⟨by kernel_rfl, ?_⟩) (by assumption) ?_
      rotate_left 1
      · (intro w hSw; (try dsimp only at hSw); go_simp; try with_reducible rfl)
      try simp only [lyA, lyB, lyC, Act.put, lyD, lyE, lyF]
      refine tkH (i := 11) (v := ?_) rfl (by kernel_rfl) (Or.inl ⟨by kernel_rfl, ?_⟩) (by assumption) ?_
      rotate_left 1
      · (intro w hSw; (try dsimp only at hSw); go_simp; try with_reducible rfl)
      try simp only [lyA, lyB, lyC, Act.put, lyD, lyE, lyF]
      refine tkH (i := 12) (v := ?_) rfl (by kernel_rfl) (Or.inl ⟨by kernel_rfl, ?_⟩) (by assumption) ?_
      rotate_left 1
      · (intro w hSw; (try dsimp only at hSw); go_simp; try with_reducible rfl)
      try simp only [lyA, lyB, lyC, Act.put, lyD, lyE, lyF]
      refine tkH (i := 13) (v := ?_) rfl (by kernel_rfl) (Or.inl ⟨by kernel_rfl, ?_⟩) (by assumption) ?_
      rotate_left 1
      · (intro w hSw; (try dsimp only at hSw); go_simp; try with_reducible rfl)
      try simp only [lyA, lyB, lyC, Act.put, lyD, lyE, lyF]
      rw [← HUU.out]
      clear y0 y1
      have hut : UpS w u (fun b => b = g) := (HU.out.trans HU12.out (fun b _ h => h)).trans (UpS.of_below (fun b => b = g) HBU.out) (fun b _ h => h)
      have HUT := Lib.hid hut
      have hmul1 : (dig (z * p).natAbs).length ≤ 10000000 := by rw [Int.natAbs_mul]; have h1 := mulLen z.natAbs p.natAbs; have h2 := SMZ.out.1; have h3 := HSZ.out.2.2.1; unfold Sm at h2 h3; omega
      have hmul2 : (dig (f * b).natAbs).length ≤ 10000000 := by rw [Int.natAbs_mul]; have h1 := mulLen f.natAbs b.natAbs; have h2 := SMZ.out.2; have h3 := HSZ.out.2.2.2.1; unfold Sm at h2 h3; omega
      have HM := Lib.hid (And.intro hmul1 hmul2)
      clear hut hmul1 hmul2
      refine wpAnyH_ready (rs := [14]) (by kernel_rfl) (by simp) ?_
      refine AllReadyH.cons rfl (fun K hK => ?_) AllReadyH.nil
      go_simp
      (refine (mul_int w.heap.size 0 gf 0 p0 0 x f b u (IX2.out.below HBU.out) (HF.out.ups HUT.out NN.out.2.1) ((HB.out.int k p0 b HP0.out HBB.out).ups HUT.out (NN.out.2.2.2 p0 (List.mem_of_getElem? HP0.out))) HSZ.out.2.2.2.1.ten SMZ.out.2.ten).mono ?_; rintro e w3 ⟨rfl, hi3, hu3⟩; have U3 := Lib.hid (hu3.toS (S := fun b => b = gq ∨ b = w.heap.size) (.inr rfl)); have I3 := Lib.hid hi3; have J3 := Lib.hid ((IQ2.out.below HBU.out).upd hu3 (fun e => by have := GX.out; omega)); have t0 := hu3.cellOf (bat HBU.out CC0.out) (fun e => by have := HR.out.lt; omega); have t1 := hu3.cellOf (bat HBU.out CC1.out) (fun e => by have := HB.out.lt; omega); clear hi3 hu3)
      try go_wp2_with fail
      refine hK.out _ _ ?_ (fun hHeld => ?_)
      · first | exact True.intro | ((try dsimp only); go_keep)
      clear hK K
      try simp only [lyA, lyB, lyC, Act.put, lyD, lyE, lyF]
      clear t0 t1
      refine wpAnyH_ready (rs := [15]) (by kernel_rfl) (by simp) ?_
      refine AllReadyH.cons rfl (fun K hK => ?_) AllReadyH.nil
      go_simp
      (refine (sub_int gq 0 gq 0 w.heap.size 0 (z * p) (z * p) (f * b) w3 J3.out J3.out I3.out HM.out.1 HM.out.2).mono ?_; rintro e w4 ⟨rfl, hi4, hu4⟩; have U4 := Lib.hid ((UpS.of_below (fun b => b = gq ∨ b = w.heap.size) HBU.out).trans (U3.out.trans (hu4.toS (S := fun b => b = gq ∨ b = w.heap.size) (.inl rfl)) (fun b _ h => h)) (fun b _ h => h)); have I4 := Lib.hid hi4; have J4 := Lib.hid (I3.out.upd hu4 (fun e => by have := GX.out; omega)); have t0 := U4.out.cellOf CC0.out (fun h => by have := GQG.out; have := HR.out.lt; rcases h with h | h <;> omega); have t1 := U4.out.cellOf CC1.out (fun h => by have := HB.out.lt; have := GX.out; rcases h with h | h <;> omega); clear hi4 hu4)
      try go_wp2_with fail
      refine hK.out _ _ ?_ (fun hHeld => ?_)
      · first | exact True.intro | ((try dsimp only); go_keep)
      clear hK K
      try simp only [lyA, lyB, lyC, Act.put, lyD, lyE, lyF]
      refine wpAnyH_done (by kernel_rfl) ?_ _
      clear t0 t1 hHeld
      have t0 := U4.out.cellOf CC0.out (fun h => by have := GQG.out; have := HR.out.lt; rcases h with h | h <;> omega)
      have t2 := U4.out.cellOf CC2.out (fun h => by have := HTL.out; have := GX.out; rcases h with h | h <;> omega)
      obtain ⟨u2, hu2⟩ : ∃ u, u = w4.drew := ⟨_, rfl⟩
      have hbu2 : Below w4.heap.size w4 u2 := by rw [hu2]; exact (Below.refl _ _).drew
      have HU2 := Lib.hid hu2
      have HBU2 := Lib.hid hbu2
      clear hu2 hbu2
      go_upto_region 6 with fail
      refine wp_region_held_drew (S := (fun w' => w'.cell? ⟨g, k, none⟩ = some (PtrV gq) ∧ w'.cell? ⟨gt, 2, none⟩ = some (PtrV gl))) (by kernel_rfl) ?_ (fun hHeld => ?_)
      · first | exact True.intro | ((try dsimp only); go_keep)
      refine tkH (i := 0) (v := ?_) rfl (by kernel_rfl) (Or.inl ⟨by kernel_rfl, ?_⟩) (by assumption) ?_
      rotate_left 1
      · (intro w hSw; (try dsimp only at hSw); go_simp; try with_reducible rfl)
      try simp only [lyA, lyB, lyC, Act.put, lyD, lyE, lyF]
      refine tkH (i := 1) (v := ?_) rfl (by kernel_rfl) (Or.inl ⟨by kernel_rfl, ?_⟩) (by assumption) ?_
      rotate_left 1
      · (intro w hSw; (try dsimp only at hSw); go_simp; try with_reducible rfl)
      try simp only [lyA, lyB, lyC, Act.put, lyD, lyE, lyF]
      refine tkH (i := 2) (v := ?_) rfl (by kernel_rfl) (Or.inl ⟨by kernel_rfl, ?_⟩) (by assumption) ?_
      rotate_left 1
      · (intro w hSw; (try dsimp only at hSw); go_simp; try with_reducible rfl)
      try simp only [lyA, lyB, lyC, Act.put, lyD, lyE, lyF]
      refine tkH (i := 3) (v := ?_) rfl (by kernel_rfl) (Or.inl ⟨by kernel_rfl, ?_⟩) (by assumption) ?_
      rotate_left 1
      · (intro w hSw; (try dsimp only at hSw); go_simp; try with_reducible rfl)
      try simp only [lyA, lyB, lyC, Act.put, lyD, lyE, lyF]
      refine tkH (i := 4) (v := ?_) rfl (by kernel_rfl) (Or.inl ⟨by kernel_rfl, ?_⟩) (by assumption) ?_
      rotate_left 1
      · (intro w hSw; (try dsimp only at hSw); go_simp; try with_reducible rfl)
      try simp only [lyA, lyB, lyC, Act.put, lyD, lyE, lyF]
      refine tkH (i := 5) (v := ?_) rfl (by kernel_rfl) (Or.inl ⟨by kernel_rfl, ?_⟩) (by assumption) ?_
      rotate_left 1
      · (intro w hSw; (try dsimp only at hSw); go_simp; try with_reducible rfl)
      try simp only [lyA, lyB, lyC, Act.put, lyD, lyE, lyF]
      refine tkH (i := 6) (v := ?_) rfl (by kernel_rfl) (Or.inl ⟨by kernel_rfl, ?_⟩) (by assumption) ?_
      rotate_left 1
      · (intro w hSw; (try dsimp only at hSw); go_simp; try with_reducible rfl)
      try simp only [lyA, lyB, lyC, Act.put, lyD, lyE, lyF]
      refine tkH (i := 7) (v := ?_) rfl (by kernel_rfl) (Or.inl ⟨by kernel_rfl, ?_⟩) (by assumption) ?_
      rotate_left 1
      · (intro w hSw; (try dsimp only at hSw); go_simp; try with_reducible rfl)
      try simp only [lyA, lyB, lyC, Act.put, lyD, lyE, lyF]
      refine tkH (i := 8) (v := ?_) rfl (by kernel_rfl) (Or.inl ⟨by kernel_rfl, ?_⟩) (by assumption) ?_
      rotate_left 1
      · (intro w hSw; (try dsimp only at hSw); go_simp; try with_reducible rfl)
      try simp only [lyA, lyB, lyC, Act.put, lyD, lyE, lyF]
      refine tkH (i := 9) (v := ?_) rfl (by kernel_rfl) (Or.inl ⟨by kernel_rfl, ?_⟩) (by assumption) ?_
      rotate_left 1
      · (intro w hSw; (try dsimp only at hSw); go_simp; try with_reducible rfl)
      try simp only [lyA, lyB, lyC, Act.put, lyD, lyE, lyF]
      refine tkH (i := 10) (v := ?_) rfl (by kernel_rfl) (Or.inl ⟨by kernel_rfl, ?_⟩) (by assumption) ?_
      rotate_left 1
      · (intro w hSw; (try dsimp only at hSw); go_simp; try with_reducible rfl)
      try simp only [lyA, lyB, lyC, Act.put, lyD, lyE, lyF]
      refine tkH (i := 11) (v := ?_) rfl (by kernel_rfl) (Or.inl ⟨by kernel_rfl, ?_⟩) (by assumption) ?_
      rotate_left 1
      · (intro w hSw; (try dsimp only at hSw); go_simp; try with_reducible rfl)
      try simp only [lyA, lyB, lyC, Act.put, lyD, lyE, lyF]
      rw [← HU2.out]
      clear t0 t2
      have hut2 : UpS w u2 (fun b => b = g) := (HU.out.trans HU12.out (fun b _ h => h)).trans (U4.out.trans (UpS.of_below (fun b => b = gq ∨ b = w.heap.size) HBU2.out) (fun b _ h => h)) (fun b hb h => by have := GX.out; rcases h with h | h <;> omega)
      have HUT2 := Lib.hid hut2
      have hX : (dig (z * p - f * b).natAbs).length ≤ 10000000 := by
        have h1 := subLen (z * p) (f * b)
        have h2 : (dig (z * p).natAbs).length ≤ 200000 := by rw [Int.natAbs_mul]; have h1 := mulLen z.natAbs p.natAbs; have h2 := SMZ.out.1; have h3 := HSZ.out.2.2.1; unfold Sm at h2 h3; omega
        have h3 : (dig (f * b).natAbs).length ≤ 200000 := by rw [Int.natAbs_mul]; have h1 := mulLen f.natAbs b.natAbs; have h2 := SMZ.out.2; have h3 := HSZ.out.2.2.2.1; unfold Sm at h2 h3; omega
        omega
      have HXL := Lib.hid hX
      clear hut2 hX
      refine wpAnyH_ready (rs := [12]) (by kernel_rfl) (by simp) ?_
      refine AllReadyH.cons rfl (fun K hK => ?_) AllReadyH.nil
      go_simp
      (refine (quo_int gq 0 gq 0 gl 0 (z * p - f * b) (z * p - f * b) d u2 (I4.out.below HBU2.out) (I4.out.below HBU2.out) (HD.out.ups HUT2.out NN.out.2.2.1) HXL.out HSZ.out.2.2.2.2.ten hd0).mono ?_; rintro e w5 ⟨rfl, hi5, hu5⟩; have U5 := Lib.hid ((U4.out.trans (UpS.of_below (fun b => b = gq ∨ b = w.heap.size) HBU2.out) (fun b _ h => h)).trans (hu5.toS (S := fun b => b = gq ∨ b = w.heap.size) (.inl rfl)) (fun b _ h => h)); have I5 := Lib.hid hi5; have J5 := Lib.hid ((J4.out.below HBU2.out).upd hu5 (fun e => by have := GX.out; omega)); have t0 := U5.out.cellOf CC0.out (fun h => by have := GQG.out; have := HR.out.lt; rcases h with h | h <;> omega); have t2 := U5.out.cellOf CC2.out (fun h => by have := HTL.out; have := GX.out; rcases h with h | h <;> omega); clear hi5 hu5)
      try go_wp2_with fail
      refine hK.out _ _ ?_ (fun hHeld => ?_)
      · first | exact True.intro | ((try dsimp only); go_keep)
      clear hK K
      try simp only [lyA, lyB, lyC, Act.put, lyD, lyE, lyF]
      refine wpAnyH_done (by kernel_rfl) ?_ _
      clear t0 t2 hHeld
      have hnk : ns[k]? = some ((z * p - f * b).tdiv d) := by
        rw [HNS.out]
        exact zip_get (F := fun a b => (a * p - f * b).tdiv d) HZ.out HBB.out
      have hrow5 : PRow w5 g (qs.set k gq) (wayZ zs ns (k + 1)) := by
        have h1 := HR2.out.chg U5.out (k := k) (q := gq) (z := (z * p - f * b).tdiv d) (fun h => by have := GQG.out; have := HR.out.lt; rcases h with h | h <;> omega) (by rw [List.getElem?_set, if_pos rfl, if_pos HKL.out]) I5.out (fun j p' hj hp' => by
          rw [List.getElem?_set, if_neg (fun e => hj e.symm)] at hp'
          have h2 := HGN.out j p' hj hp'
          rintro (h3 | h3)
          · omega
          · by_cases hjk : j < k
            · have := HNEW.out j p' hjk hp'; omega
            · rw [HOLD.out j (by omega)] at hp'
              have hjl := (List.getElem?_eq_some_iff.1 hp').1
              obtain ⟨z', hz'⟩ : ∃ z', zs[j]? = some z' := ⟨_, List.getElem?_eq_getElem (by rw [← HR.out.len]; exact hjl)⟩
              have := (HR.out.int j p' z' hp' hz').lt
              omega)
        rw [List.set_set, wayZ_set HNL.out.1 hnk] at h1
        exact h1
      have HROW5 := Lib.hid hrow5
      have HUT5 := Lib.hid ((HU.out.trans HU12.out (fun b _ h => h)).trans U5.out (fun b hb h => by have := GX.out; rcases h with h | h <;> omega))
      clear hnk hrow5
      go_wp2_with fail
      refine ⟨⟨k + 1, qs.set k gq, f * b, by omega, by go_num, HUT5.out, HROW5.out, fun j q hj hq => ?_, fun j hj => ?_, J5.out⟩, by simp [intOf]; omega⟩
      · rw [List.getElem?_set] at hq
        by_cases e : k = j
        · subst e
          rw [if_pos rfl, if_pos HKL.out] at hq
          injection hq with hq
          have := GX.out
          omega
        · rw [if_neg e] at hq
          exact HNEW.out j q (by omega) hq
      · rw [List.getElem?_set, if_neg (by omega)]
        exact HOLD.out j (by omega)
    · obtain rfl : k = n := by omega
      have hnl : ¬ ((k : Int) < (k : Int)) := by omega
      have e := wayZ_all HNL.out.1
      rw [HNL.out.2.1] at e
      rw [e] at hrow
      have HRO2 := Lib.hid hrow
      clear hu hrow hnew hold hx e
      go_wp2_with fail
      refine bodyPost_end (results_none rfl _ _ _) rfl ⟨rfl, ⟨qs, HRO2.out, fun q hq => ?_⟩, HU.out⟩
      obtain ⟨j, hj⟩ := List.getElem?_of_mem hq
      have hjl := (List.getElem?_eq_some_iff.1 hj).1
      exact Nat.le_of_lt (HNEW.out j q (by have := HQL.out; omega) hj)

end Go.Proofs.Ytfepmbpcdfdlhaa

/- what a reduced table tells of the rows it was made from -/
namespace Go.Proofs.Ytfepmbpcdfdlhaa

theorem dl_unit_out {c : Nat} : ∀ (J : List Nat) (F : List Nat → Int), c ∉ J → dl (unitRow c) F J = 0 := fun J F h => dl_zero _ J F (fun e he => if_neg (fun e2 : e = c => h (e2 ▸ he)))
/-- a derivative out of its values at the places -/
theorem dl_units (x : Row) : ∀ (J : List Nat) (F : List Nat → Int), J.Nodup → dl x F J = (J.map fun c => x c * dl (unitRow c) F J).sum
  | [], _, _ => rfl
  | c :: J, F, h => by
    rw [List.nodup_cons] at h
    have ih := dl_units x J (fun l => F (c :: l)) h.2
    have e1 : dl (unitRow c) F (c :: J) = F J := by
      show unitRow c c * F J - dl (unitRow c) (fun l => F (c :: l)) J = F J
      rw [dl_unit_out J _ h.1]
      simp [unitRow]
    have e2 : ∀ d ∈ J, dl (unitRow d) F (c :: J) = -dl (unitRow d) (fun l => F (c :: l)) J := fun d hd => by
      show unitRow d c * F J - dl (unitRow d) (fun l => F (c :: l)) J = _
      have : unitRow d c = 0 := if_neg (fun e : c = d => h.1 (e ▸ hd))
      rw [this]; simp
    have e3 : (J.map fun d => x d * dl (unitRow d) F (c :: J)) = J.map fun d => -(x d * dl (unitRow d) (fun l => F (c :: l)) J) := by
      refine List.map_congr_left fun d hd => ?_
      rw [e2 d hd, Int.mul_neg]
    have e4 : ∀ (L : List Nat) (g : Nat → Int), (L.map fun d => -(g d)).sum = -(L.map g).sum := fun L g => by
      induction L with
      | nil => rfl
      | cons a L ih => simp only [List.map_cons, List.sum_cons, ih]; omega
    rw [List.map_cons, List.sum_cons, e1, e3, e4, ← ih]
    show x c * F J - dl x (fun l => F (c :: l)) J = _
    omega

/-- more of what holds after n columns -/
structure BE (A : List (List Int)) (R C n : Nat) (s : BSt) : Prop where
  rct : rect s.rows R C
  last : s.last ≠ 0
  le : s.piv.length ≤ R
  lt : ∀ j ∈ s.piv, j < n
  inc : s.piv.Pairwise (· < ·)
  low : ∀ i, s.piv.length ≤ i → ∀ k, k < n → tf s.rows i k = 0
  top : ∀ r j, s.piv[r]? = some j → ∀ k, k < j → tf s.rows r k = 0
  bar : ∃ B P, Bar (tf s.rows) B P s.piv.reverse s.last ∧ ∀ i, i < R → (tf A i ∈ P ∨ ∃ i', s.piv.length ≤ i' ∧ i' < R ∧ B i' = tf A i)
theorem BE.start {A : List (List Int)} {R C : Nat} (h : rect A R C) : BE A R C 0 ⟨A, [], 1⟩ :=
  ⟨h, by simp, Nat.zero_le _, fun j hj => by simp at hj, List.Pairwise.nil, fun i _ k hk => by omega, fun r j hj => by simp at hj, ⟨_, _, Bar.start _, fun i hi => .inr ⟨i, Nat.zero_le _, hi, rfl⟩⟩⟩
theorem BE.swapped {A : List (List Int)} {R C n : Nat} {s : BSt} (h : BE A R C n s) (hp : pivAt s.rows s.piv.length n ≠ s.rows.length) :
    s.piv.length < R ∧ rect (swapAt s.rows s.piv.length (pivAt s.rows s.piv.length n)) R C ∧ tf (swapAt s.rows s.piv.length (pivAt s.rows s.piv.length n)) s.piv.length n ≠ 0 ∧
      (∀ i, s.piv.length ≤ i → ∀ k, k < n → tf (swapAt s.rows s.piv.length (pivAt s.rows s.piv.length n)) i k = 0) ∧
      (∀ i, i < s.piv.length → ∀ k, tf (swapAt s.rows s.piv.length (pivAt s.rows s.piv.length n)) i k = tf s.rows i k) ∧
      ∃ B P, Bar (tf (swapAt s.rows s.piv.length (pivAt s.rows s.piv.length n))) B P s.piv.reverse s.last ∧ ∀ i, i < R → (tf A i ∈ P ∨ ∃ i', s.piv.length ≤ i' ∧ i' < R ∧ B i' = tf A i) := by
  have hl := h.rct.1
  obtain ⟨h1, h2, h3⟩ := pivAt_some (by rw [hl]; exact h.le) hp
  have hr : s.piv.length < R := by omega
  have ha : pivAt s.rows s.piv.length n < R := by omega
  refine ⟨hr, swapAt_rect h.rct hr ha, ?_, fun i hi k hk => ?_, fun i hi k => ?_, ?_⟩
  · rw [tf_swap h.rct hr ha, if_pos rfl]; exact h3
  · rw [tf_swap h.rct hr ha]
    refine h.low _ ?_ k hk
    split
    · omega
    · split <;> omega
  · rw [tf_swap h.rct hr ha, if_neg (by omega), if_neg (by omega)]
  · obtain ⟨B, P, hb, hc⟩ := h.bar
    have hs := hb.swap (fun i => if i = s.piv.length then pivAt s.rows s.piv.length n else if i = pivAt s.rows s.piv.length n then s.piv.length else i)
      (fun i hi => by simp only [List.length_reverse] at hi ⊢; split; omega; split <;> omega) (fun i hi => by simp only [List.length_reverse] at hi; rw [if_neg (by omega), if_neg (by omega)])
    have e : tf (swapAt s.rows s.piv.length (pivAt s.rows s.piv.length n)) = fun i => tf s.rows (if i = s.piv.length then pivAt s.rows s.piv.length n else if i = pivAt s.rows s.piv.length n then s.piv.length else i) := by
      funext i k; exact tf_swap h.rct hr ha i k
    refine ⟨_, P, by rw [e]; exact hs, fun i hi => ?_⟩
    rcases hc i hi with h4 | ⟨i', h4, h5, h6⟩
    · exact .inl h4
    · right
      by_cases e1 : i' = s.piv.length
      · refine ⟨pivAt s.rows s.piv.length n, h1, ha, ?_⟩
        by_cases e2 : pivAt s.rows s.piv.length n = s.piv.length
        · simp only [e2, if_true]; rw [← h6, e1]
        · simp only [if_neg e2, if_true]; rw [← h6, e1]
      · by_cases e2 : i' = pivAt s.rows s.piv.length n
        · refine ⟨s.piv.length, Nat.le_refl _, hr, ?_⟩
          simp only [if_true]; rw [← h6, e2]
        · refine ⟨i', h4, h5, ?_⟩
          simp only [if_neg e1, if_neg e2]; exact h6
theorem BE.step {A : List (List Int)} {R C n : Nat} {s : BSt} (h : BE A R C n s) : BE A R C (n + 1) (bstep s n) := by
  unfold bstep
  split
  · rename_i hp
    refine ⟨h.rct, h.last, h.le, fun j hj => by have := h.lt j hj; omega, h.inc, fun i hi k hk => ?_, h.top, h.bar⟩
    rcases Nat.lt_or_eq_of_le (Nat.le_of_lt_succ hk) with h1 | h1
    · exact h.low i hi k h1
    · subst h1; exact pivAt_none hp hi
  · rename_i hp
    obtain ⟨hr, hrect, hne, hlow, htop, B, P, hb, hc⟩ := h.swapped hp
    obtain ⟨T, hT⟩ : ∃ T, T = swapAt s.rows s.piv.length (pivAt s.rows s.piv.length n) := ⟨_, rfl⟩
    rw [← hT] at hrect hne hlow htop hb ⊢
    have hs := hb.step (c := n) (T' := tf (elim T s.piv.length n s.last)) (fun hm => by have := h.lt n (by simpa using hm); omega) h.last
      (fun k => by rw [List.length_reverse, tf_elim hrect hr, if_pos rfl]) (fun i hi k => by rw [List.length_reverse] at hi ⊢; rw [tf_elim hrect hr, if_neg hi])
    simp only [List.length_reverse] at hs
    have hel : ∀ i, i ≠ s.piv.length → ∀ k, k < n → tf T i k = 0 → tf (elim T s.piv.length n s.last) i k = 0 := fun i hi k hk h0 => by
      rw [tf_elim hrect hr, if_neg hi, h0, hlow s.piv.length (Nat.le_refl _) k hk]
      simp
    refine ⟨elim_rect hrect hr _ _, hne, by simp; omega, fun j hj => ?_, ?_, fun i hi k hk => ?_, fun r j hj k hk => ?_, ?_⟩
    · rcases List.mem_append.1 hj with hj | hj
      · have := h.lt j hj; omega
      · simp at hj; omega
    · rw [List.pairwise_append]
      refine ⟨h.inc, List.pairwise_singleton _ _, fun a ha b hb => ?_⟩
      have := h.lt a ha
      simp at hb
      omega
    · simp only [List.length_append, List.length_cons, List.length_nil] at hi
      rcases Nat.lt_or_eq_of_le (Nat.le_of_lt_succ hk) with h1 | h1
      · exact hel i (by omega) k h1 (hlow i (by omega) k h1)
      · subst h1
        rw [tf_elim hrect hr, if_neg (by omega), Int.mul_comm, Int.sub_self]
        simp
    · by_cases e : r < s.piv.length
      · have hj0 : s.piv[r]? = some j := by rwa [List.getElem?_append_left e] at hj
        have hjn := h.lt j (List.mem_of_getElem? hj0)
        exact hel r (by omega) k (by omega) (by rw [htop r e k]; exact h.top r j hj0 k hk)
      · rw [List.getElem?_append_right (by omega)] at hj
        have h1 := (List.getElem?_eq_some_iff.1 hj).1
        simp at h1
        have e2 : r = s.piv.length := by omega
        subst e2
        simp at hj
        subst hj
        rw [tf_elim hrect hr, if_pos rfl]
        exact hlow _ (Nat.le_refl _) k hk
    · refine ⟨B, B s.piv.length :: P, by simp only [List.reverse_append, List.reverse_cons, List.reverse_nil, List.nil_append, List.singleton_append]; exact hs.1, fun i hi => ?_⟩
      rcases hc i hi with h4 | ⟨i', h4, h5, h6⟩
      · exact .inl (List.mem_cons_of_mem _ h4)
      · by_cases e : i' = s.piv.length
        · left; rw [← h6, e]; exact List.mem_cons_self
        · exact .inr ⟨i', by simp; omega, h5, h6⟩
theorem brun_be {A : List (List Int)} {R C : Nat} (h : rect A R C) : ∀ n, BE A R C n (brun A n)
  | 0 => BE.start h
  | n + 1 => by rw [brun_succ]; exact (brun_be h n).step
/-- in the pivots' columns stands one number -/
theorem BE.diag {A : List (List Int)} {R C n : Nat} {s : BSt} (h : BE A R C n s) {r j : Nat} (hj : s.piv[r]? = some j) {c : Nat} (hc : c ∈ s.piv) : tf s.rows r c = if c = j then s.last else 0 := by
  obtain ⟨B, P, hb, _⟩ := h.bar
  rw [hb.top r j (by rw [List.reverse_reverse]; exact hj) c, mnr_dup _ (by simpa using hc)]
  unfold unitRow
  split <;> simp
theorem nodup_rev {s : List Nat} (h : s.Pairwise (· < ·)) : s.reverse.Nodup := by
  unfold List.Nodup
  rw [List.pairwise_reverse]
  exact h.imp (fun h => (Nat.ne_of_lt h).symm)
/-- the rows that the table was made from, out of its rows -/
theorem BE.back {A : List (List Int)} {R C : Nat} {s : BSt} (h : BE A R C C s) {i : Nat} (hi : i < R) (k : Nat) :
    s.last * tf A i k = (s.piv.map fun c => tf A i c * tf s.rows (s.piv.idxOf c) k).sum := by
  obtain ⟨B, P, hb, hc⟩ := h.bar
  have hz : mnr (tf A i :: P) (k :: s.piv.reverse) = 0 := by
    rcases hc i hi with h1 | ⟨i', h1, h2, h3⟩
    · exact mnr_mem P _ h1 _
    · rw [← h3, ← hb.low i' (by simpa using h1) k]
      by_cases hk : k < C
      · exact h.low i' h1 k hk
      · obtain ⟨row, hrow, hlen⟩ := h.rct.get h2
        rw [tf_get hrow]
        simp [List.getD, List.getElem?_eq_none (show row.length ≤ k by omega)]
  have e1 : ∀ x : Row, mnr (x :: P) (k :: s.piv.reverse) = x k * s.last - dl x (fun l => mnr P (k :: l)) s.piv.reverse := fun x => by rw [hb.det]; rfl
  rw [e1] at hz
  have hnd := nodup_rev h.inc
  rw [dl_units _ _ _ hnd] at hz
  have e2 : ∀ c ∈ s.piv, dl (unitRow c) (fun l => mnr P (k :: l)) s.piv.reverse = tf s.rows (s.piv.idxOf c) k := fun c hcm => by
    have hj : s.piv[s.piv.idxOf c]? = some c := by
      rw [List.getElem?_eq_getElem (List.idxOf_lt_length_of_mem hcm)]
      simp
    rw [hb.top (s.piv.idxOf c) c (by rw [List.reverse_reverse]; exact hj) k, e1]
    rw [Int.mul_comm s.last]
    omega
  have e3 : (s.piv.reverse.map fun c => tf A i c * dl (unitRow c) (fun l => mnr P (k :: l)) s.piv.reverse) = s.piv.reverse.map fun c => tf A i c * tf s.rows (s.piv.idxOf c) k :=
    List.map_congr_left fun c hcm => by rw [e2 c (by simpa using hcm)]
  rw [e3, List.map_reverse, List.sum_reverse] at hz
  rw [Int.mul_comm]
  omega

end Go.Proofs.Ytfepmbpcdfdlhaa

/- tables of rows in memory (plain) -/
namespace Go.Proofs.Ytfepmbpcdfdlhaa
open Go.RowKit Go.Sort

/-- the first k of E, then those of T -/
def wayT {α : Type} (T E : List α) (k : Nat) : List α := E.take k ++ T.drop k
theorem wayT_len {α : Type} {T E : List α} {k : Nat} (h : E.length = T.length) (hk : k ≤ T.length) : (wayT T E k).length = T.length := by unfold wayT; simp; omega
theorem wayT_get {α : Type} {T E : List α} {k : Nat} (h : E.length = T.length) (i : Nat) : (wayT T E k)[i]? = if i < k then E[i]? else T[i]? := by
  unfold wayT
  by_cases hk : k ≤ E.length
  · rw [List.getElem?_append, List.length_take, Nat.min_eq_left hk, List.getElem?_take, List.getElem?_drop]
    split
    · rfl
    · rename_i h1
      rw [show k + (i - k) = i by omega]
  · rw [List.take_of_length_le (by omega), List.drop_of_length_le (by omega), List.append_nil]
    split
    · rfl
    · rename_i h1
      rw [List.getElem?_eq_none (by omega), List.getElem?_eq_none (by omega)]
theorem wayT_set {α : Type} {T E : List α} {k : Nat} {e : α} (h : E.length = T.length) (hn : E[k]? = some e) : (wayT T E k).set k e = wayT T E (k + 1) := by
  have hk := (List.getElem?_eq_some_iff.1 hn).1
  refine List.ext_getElem? fun i => ?_
  rw [List.getElem?_set, wayT_len h (by omega), wayT_get h, wayT_get h]
  by_cases e1 : k = i
  · subst e1
    rw [if_pos rfl, if_pos (by omega), if_pos (by omega), hn]
  · rw [if_neg e1]
    by_cases h1 : i < k
    · rw [if_pos h1, if_pos (by omega)]
    · rw [if_neg h1, if_neg (by omega)]
theorem wayT_same {α : Type} {T E : List α} {k : Nat} {e : α} (h : E.length = T.length) (hn : E[k]? = some e) (ht : T[k]? = some e) : wayT T E k = wayT T E (k + 1) := by
  rw [← wayT_set h hn]
  refine List.ext_getElem? fun i => ?_
  rw [List.getElem?_set]
  by_cases e1 : k = i
  · subst e1
    have hk := (List.getElem?_eq_some_iff.1 hn).1
    rw [if_pos rfl, wayT_len h (by omega), if_pos (by omega), wayT_get h, if_neg (Nat.lt_irrefl _), ht]
  · rw [if_neg e1]
theorem wayT_all {α : Type} {T E : List α} (h : E.length = T.length) : wayT T E T.length = E := by
  unfold wayT
  rw [List.take_of_length_le (by omega), List.drop_of_length_le (Nat.le_refl _), List.append_nil]

/-- the rows at block G: their blocks, their numbers -/
structure TRows (w : World) (G R C : Nat) (gs : List Nat) (T : List (List Int)) : Prop where
  lg : gs.length = R
  rct : rect T R C
  ltG : G < w.heap.size
  cell : ∀ (i g : Nat), gs[i]? = some g → ∃ c, w.cell? ⟨G, i, none⟩ = some (.slice (some ⟨g, 0, none⟩) C c)
  fz : ∀ (i : Nat), w.frozen? ⟨G, i, none⟩ = false
  row : ∀ (i g : Nat) (zs : List Int), gs[i]? = some g → T[i]? = some zs → ∃ ps, PRow w g ps zs
  nd : ∀ (i j g : Nat), gs[i]? = some g → gs[j]? = some g → i = j
theorem TRows.get {w : World} {G R C : Nat} {gs : List Nat} {T : List (List Int)} (h : TRows w G R C gs T) {i : Nat} (hi : i < R) :
    ∃ g zs ps c, gs[i]? = some g ∧ T[i]? = some zs ∧ zs.length = C ∧ PRow w g ps zs ∧ w.cell? ⟨G, i, none⟩ = some (.slice (some ⟨g, 0, none⟩) C c) := by
  obtain ⟨zs, hz, hl⟩ := h.rct.get hi
  obtain ⟨g, hg⟩ : ∃ g, gs[i]? = some g := ⟨_, List.getElem?_eq_getElem (by rw [h.lg]; exact hi)⟩
  obtain ⟨ps, hp⟩ := h.row i g zs hg hz
  obtain ⟨c, hc⟩ := h.cell i g hg
  exact ⟨g, zs, ps, c, hg, hz, hl, hp, hc⟩
/-- a block of numbers' cells is none of the rows' blocks, nor the rows' own -/
theorem TRows.noInt {w : World} {G R C : Nat} {gs : List Nat} {T : List (List Int)} (h : TRows w G R C gs T) (hC : 0 < C) (hR : 0 < R) {b : Nat} {z : Int} (hb : IntAt w b 0 z) : b ≠ G ∧ b ∉ gs := by
  refine ⟨fun e => ?_, fun hm => ?_⟩
  · subst e
    obtain ⟨g, zs, ps, c, h1, h2, h3, h4, h5⟩ := h.get hR
    rw [hb.neg] at h5
    cases h5
  · obtain ⟨i, hi⟩ := List.getElem?_of_mem hm
    have hil := (List.getElem?_eq_some_iff.1 hi).1
    obtain ⟨g, zs, ps, c, h1, h2, h3, h4, h5⟩ := h.get (show i < R by rw [← h.lg]; exact hil)
    rw [hi] at h1
    injection h1 with h1
    subst h1
    exact h4.noInt (by rw [h4.len, h3]; exact hC) hb rfl
theorem TRows.neG {w : World} {G R C : Nat} {gs : List Nat} {T : List (List Int)} (h : TRows w G R C gs T) (hC : 0 < C) : G ∉ gs := fun hm => by
  obtain ⟨i, hi⟩ := List.getElem?_of_mem hm
  have hil := (List.getElem?_eq_some_iff.1 hi).1
  obtain ⟨g, zs, ps, c, h1, h2, h3, h4, h5⟩ := h.get (show i < R by rw [← h.lg]; exact hil)
  rw [hi] at h1
  injection h1 with h1
  subst h1
  obtain ⟨g0, _, _, c0, k1, _, _, _, k5⟩ := h.get (i := 0) (by have := h.lg; omega)
  obtain ⟨p, hp⟩ : ∃ p, ps[0]? = some p := ⟨_, List.getElem?_eq_getElem (by rw [h4.len, h3]; exact hC)⟩
  have h6 := h4.ptr 0 p hp
  rw [k5] at h6
  cases h6
theorem TRows.ups {w w' : World} {S : Nat → Prop} {G R C : Nat} {gs : List Nat} {T : List (List Int)} (h : TRows w G R C gs T) (hu : UpS w w' S) (hG : ¬ S G) (hg : ∀ g ∈ gs, ¬ S g) (hp : ∀ (b : Nat) (z : Int), IntAt w b 0 z → ¬ S b) : TRows w' G R C gs T :=
  ⟨h.lg, h.rct, Nat.lt_of_lt_of_le h.ltG hu.size, fun i g hi => by
    obtain ⟨c, hc⟩ := h.cell i g hi
    exact ⟨c, hu.cellOf hc hG⟩, fun i => by rw [hu.frozenOf h.ltG hG]; exact h.fz i, fun i g zs h1 h2 => by
    obtain ⟨ps, hr⟩ := h.row i g zs h1 h2
    refine ⟨ps, hr.ups hu (hg g (List.mem_of_getElem? h1)) fun p hpm => ?_⟩
    obtain ⟨k, hk⟩ := List.getElem?_of_mem hpm
    have hkl := (List.getElem?_eq_some_iff.1 hk).1
    obtain ⟨z, hz⟩ : ∃ z, zs[k]? = some z := ⟨_, List.getElem?_eq_getElem (by rw [← hr.len]; exact hkl)⟩
    exact hp p z (hr.int k p z hk hz), h.nd⟩
theorem TRows.below {w w' : World} {G R C : Nat} {gs : List Nat} {T : List (List Int)} (h : TRows w G R C gs T) (hb : Below w.heap.size w w') : TRows w' G R C gs T :=
  h.ups (UpS.of_below (fun _ => False) hb) (fun h => h) (fun _ _ h => h) (fun _ _ _ h => h)
/-- one row was made anew in its block -/
theorem TRows.set {w w' : World} {G R C : Nat} {gs : List Nat} {T : List (List Int)} (h : TRows w G R C gs T) (hC : 0 < C) {i g : Nat} {ns : List Int} {qs : List Nat} (hi : gs[i]? = some g) (hu : UpS w w' (fun b => b = g)) (hr : PRow w' g qs ns) (hl : ns.length = C) : TRows w' G R C gs (T.set i ns) := by
  have hil := (List.getElem?_eq_some_iff.1 hi).1
  have hiR : i < R := by rw [← h.lg]; exact hil
  have hneG := h.neG hC
  have hgm := List.mem_of_getElem? hi
  have hGg : G ≠ g := fun e => hneG (e ▸ hgm)
  refine ⟨h.lg, ⟨by rw [List.length_set]; exact h.rct.1, fun row hrow => ?_⟩, Nat.lt_of_lt_of_le h.ltG hu.size, fun j g' hj => ?_, fun j => by rw [hu.frozenOf h.ltG hGg]; exact h.fz j, fun j g' zs hj hz => ?_, h.nd⟩
  · rcases List.mem_or_eq_of_mem_set hrow with h1 | rfl
    · exact h.rct.2 row h1
    · exact hl
  · obtain ⟨c, hc⟩ := h.cell j g' hj
    exact ⟨c, hu.cellOf hc hGg⟩
  · rw [List.getElem?_set] at hz
    by_cases e : i = j
    · subst e
      rw [if_pos rfl, if_pos (by rw [h.rct.1]; exact hiR)] at hz
      injection hz with hz
      subst hz
      rw [hi] at hj
      injection hj with hj
      subst hj
      exact ⟨qs, hr⟩
    · rw [if_neg e] at hz
      obtain ⟨ps, h1⟩ := h.row j g' zs hj hz
      have hgg : g' ≠ g := fun e2 => by
        subst e2
        exact e (h.nd i j _ hi hj)
      refine ⟨ps, h1.ups hu hgg fun p hpm hpg => ?_⟩
      obtain ⟨k, hk⟩ := List.getElem?_of_mem hpm
      have hkl := (List.getElem?_eq_some_iff.1 hk).1
      obtain ⟨z, hz2⟩ : ∃ z, zs[k]? = some z := ⟨_, List.getElem?_eq_getElem (by rw [← h1.len]; exact hkl)⟩
      exact (h.noInt hC (by omega) (h1.int k p z hk hz2)).2 (hpg ▸ hgm)
/-- two rows change places -/
theorem TRows.swap {w w' : World} {G R C : Nat} {gs : List Nat} {T : List (List Int)} (h : TRows w G R C gs T) (hC : 0 < C) {a b ga gb ca cb : Nat} (ha : gs[a]? = some ga) (hb : gs[b]? = some gb)
    (hca : w.cell? ⟨G, a, none⟩ = some (.slice (some ⟨ga, 0, none⟩) C ca)) (hcb : w.cell? ⟨G, b, none⟩ = some (.slice (some ⟨gb, 0, none⟩) C cb))
    (hw : w' = (w.setCell ⟨G, a, none⟩ (.slice (some ⟨gb, 0, none⟩) C cb)).setCell ⟨G, b, none⟩ (.slice (some ⟨ga, 0, none⟩) C ca)) :
    TRows w' G R C (swapAt gs a b) (swapAt T a b) ∧ UpS w w' (fun k => k = G) ∧ ∀ g, g ∈ swapAt gs a b ↔ g ∈ gs := by
  have hal := (List.getElem?_eq_some_iff.1 ha).1
  have hbl := (List.getElem?_eq_some_iff.1 hb).1
  have haR : a < R := by rw [← h.lg]; exact hal
  have hbR : b < R := by rw [← h.lg]; exact hbl
  have hneG := h.neG hC
  have hcell : ∀ (k o : Nat) (v : Value), (k = G → o ≠ a ∧ o ≠ b) → w.cell? ⟨k, o, none⟩ = some v → w'.cell? ⟨k, o, none⟩ = some v := fun k o v hn hv => by
    rw [hw]
    by_cases e : k = G
    · subst e
      obtain ⟨h1, h2⟩ := hn rfl
      simp [go_sem, h1, h2, hv]
    · refine (World.cell?_of_block (a := ⟨k, o, none⟩) ?_).trans hv
      rw [Below.heap_setCell _ _ _ _ e, Below.heap_setCell _ _ _ _ e]
  have hu : UpS w w' (fun k => k = G) := by
    refine ⟨by rw [hw]; rfl, by rw [hw]; rfl, by rw [hw]; rfl, by rw [hw]; simp, fun j _ hn => by rw [hw, Below.heap_setCell _ _ _ _ hn, Below.heap_setCell _ _ _ _ hn], fun k o kd x hv => hcell k o _ (fun e => ?_) hv⟩
    subst e
    constructor
    · rintro rfl; rw [hca] at hv; cases hv
    · rintro rfl; rw [hcb] at hv; cases hv
  have hget : ∀ i, (swapAt gs a b)[i]? = gs[if i = a then b else if i = b then a else i]? := fun i => swapAt_get gs hal hbl i
  have hmem : ∀ g, g ∈ swapAt gs a b ↔ g ∈ gs := fun g => by
    constructor
    · intro hm
      obtain ⟨i, hi⟩ := List.getElem?_of_mem hm
      rw [hget] at hi
      exact List.mem_of_getElem? hi
    · intro hm
      obtain ⟨i, hi⟩ := List.getElem?_of_mem hm
      by_cases e1 : i = a
      · subst e1
        refine List.mem_of_getElem? (i := b) ?_
        rw [hget]
        by_cases e2 : b = i
        · rw [if_pos e2, e2]; exact hi
        · rw [if_neg e2, if_pos rfl]; exact hi
      · by_cases e2 : i = b
        · subst e2
          refine List.mem_of_getElem? (i := a) ?_
          rw [hget, if_pos rfl]; exact hi
        · refine List.mem_of_getElem? (i := i) ?_
          rw [hget, if_neg e1, if_neg e2]; exact hi
  refine ⟨⟨by rw [swapAt_len]; exact h.lg, swapAt_rect h.rct haR hbR, Nat.lt_of_lt_of_le h.ltG hu.size, fun i g hi => ?_, fun i => ?_, fun i g zs hi hz => ?_, ?_⟩, hu, hmem⟩
  · rw [hget] at hi
    by_cases e2 : i = b
    · subst e2
      have e3 : g = ga := by
        by_cases e1 : i = a
        · subst e1
          rw [if_pos rfl, hb] at hi
          rw [ha] at hb
          injection hi with hi
          injection hb with hb
          omega
        · rw [if_neg e1, if_pos rfl, ha] at hi
          injection hi with hi
          exact hi.symm
      subst e3
      refine ⟨ca, ?_⟩
      rw [hw]
      by_cases e1 : i = a
      · subst e1; simp [go_sem, hcb]
      · have e4 : a ≠ i := fun e => e1 e.symm
        simp [go_sem, hcb, e1, e4]
    · by_cases e1 : i = a
      · subst e1
        rw [if_pos rfl, hb] at hi
        injection hi with hi
        subst hi
        refine ⟨cb, ?_⟩
        rw [hw]
        have e4 : b ≠ i := fun e => e2 e.symm
        simp [go_sem, hca, e2, e4]
      · rw [if_neg e1, if_neg e2] at hi
        obtain ⟨c, hc⟩ := h.cell i g hi
        exact ⟨c, hcell G i _ (fun _ => ⟨e1, e2⟩) hc⟩
  · have := h.fz i
    rw [hw]
    simpa [go_sem] using this
  · rw [hget] at hi
    rw [swapAt_get T (by rw [h.rct.1]; exact haR) (by rw [h.rct.1]; exact hbR) i] at hz
    obtain ⟨ps, h1⟩ := h.row _ g zs hi hz
    refine ⟨ps, h1.ups hu (fun e => hneG (e ▸ List.mem_of_getElem? hi)) fun p hpm hpg => ?_⟩
    obtain ⟨k, hk⟩ := List.getElem?_of_mem hpm
    have hkl := (List.getElem?_eq_some_iff.1 hk).1
    obtain ⟨z, hz2⟩ : ∃ z, zs[k]? = some z := ⟨_, List.getElem?_eq_getElem (by rw [← h1.len]; exact hkl)⟩
    exact (h.noInt hC (by omega) (h1.int k p z hk hz2)).1 hpg
  · intro i j g hi hj
    rw [hget] at hi hj
    have h1 := h.nd _ _ g hi hj
    split at h1 <;> split at h1 <;> (try split at h1) <;> (try split at h1) <;> omega

end Go.Proofs.Ytfepmbpcdfdlhaa
