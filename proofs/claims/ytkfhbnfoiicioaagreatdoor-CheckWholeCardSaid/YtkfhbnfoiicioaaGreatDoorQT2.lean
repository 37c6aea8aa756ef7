import Derived.Test.YtkfhbnfoiicioaaGreatDoorQT
/-
  The same where some plain moves stand ahead that only the last operations look at ('x = append(x, f(y[i]))'): they are taken first.
-/
set_option linter.unusedSimpArgs false
set_option linter.unusedVariables false
namespace Go.Proofs.YtkfhbnfoiicioaaGreatDoor
open Go.RowKit Go.Sort

/-- the moves E, one behind the other, on the frame alone -/
def early (ops : Array Oper) : List Nat → Act → Act
  | [], a => a
  | i :: is, a => match ops[i]? with
    | some o => match o.op with
      | .move x => early ops is (a.put o.dst (a.eval x))
      | _ => early ops is a
    | none => early ops is a
def isMove (ops : Array Oper) (i : Nat) : Bool := match ops[i]? with
  | some o => o.guard.isNone && (match o.op with | .move _ => true | _ => false)
  | none => false
def earlyB (md : Region.Mode) (ops : Array Oper) : List Nat → Array Bool → Bool
  | [], _ => true
  | i :: is, listed => isMove ops i && (Region.ready md ops listed).contains i && Region.free md ops listed i && earlyB md ops is (listed.setIfInBounds i true)
def listE : List Nat → Array Bool → Array Bool
  | [], l => l
  | i :: is, l => listE is (l.setIfInBounds i true)
def sinkE (md : Region.Mode) (ops : Array Oper) (E : List Nat) (n : Nat) : Bool :=
  (List.range n).all fun i => E.contains i || (List.range (n + 1)).any fun j => decide (i < j) && Region.waitsFor md ops j i
def lexL (md : Region.Mode) (ops : Array Oper) (g n : Nat) : List Nat → Array Bool → Bool
  | [], listed => Region.seqB md ops g n listed
  | k :: ks, listed => (Region.ready md ops listed).contains k && Region.free md ops listed k && decide (k < n) && lexL md ops g n ks (listed.setIfInBounds k true)
def pick (l : List Oper) (hs : List Nat) : List Oper := hs.filterMap (l[·]?)

section
variable {P : Program} {ops : Array Oper} {md : Region.Mode} {C : World → Prop}

theorem wpAny_early {Q : Exit → Act → World → Prop} (hs : Region.noSelect ops = true) (hQ : ∀ c (a : Act) d v w, Q (.panic c) (Act.put a d v) w → Q (.panic c) a w) :
    ∀ (E : List Nat) (f : Nat) (listed : Array Bool) (a : Act) (w : World), earlyB md ops E listed = true → wpAny P md ops Q f (listE E listed) (early ops E a) w → wpAny P md ops Q (E.length + f) listed a w := by
  intro E
  induction E with
  | nil => intro f listed a w _ h; simpa [listE, early] using h
  | cons i is ih =>
    intro f listed a w hB h
    simp only [earlyB, Bool.and_eq_true] at hB
    obtain ⟨⟨⟨hm, hr⟩, hf⟩, hB'⟩ := hB
    unfold isMove at hm
    cases ho : ops[i]? with
    | none => rw [ho] at hm; cases hm
    | some o =>
      rw [ho] at hm
      simp only [Bool.and_eq_true] at hm
      obtain ⟨hg, hm⟩ := hm
      cases hop : o.op with
      | move x =>
        have he : early ops (i :: is) a = early ops is (a.put o.dst (a.eval x)) := by simp [early, ho, hop]
        rw [he] at h
        rw [show (i :: is).length + f = (is.length + f) + 1 by simp; omega]
        refine wpAny_take ho hs hf hr (fun c a w h => hQ c a _ _ w h) (v := a.eval x) (.inl ⟨?_, fun w => ?_⟩) (ih f _ _ w hB' h)
        · cases hgd : o.guard with
          | none => simp [Region.wanted, hgd]
          | some g => rw [hgd] at hg; cases hg
        · simp [execOp, hop]
      | _ => rw [hop] at hm; cases hm

theorem listE_true {j : Nat} : ∀ (E : List Nat) (listed : Array Bool), j < listed.size → (j ∈ E ∨ listed.getD j false = true) → (listE E listed).getD j false = true
  | [], listed, _, h => by rcases h with h | h; cases h; exact h
  | i :: is, listed, hj, h => by
    refine listE_true is _ (by simpa using hj) ?_
    rcases h with h | h
    · rcases List.mem_cons.1 h with rfl | h
      · right; simp [hj]
      · exact .inl h
    · right; exact getD_set_true h
theorem listE_size : ∀ (E : List Nat) (listed : Array Bool), (listE E listed).size = listed.size
  | [], _ => rfl
  | _ :: is, _ => by rw [listE, listE_size is]; simp

/-- what stays true while the head is worked off -/
structure InvE (md : Region.Mode) (ops : Array Oper) (E : List Nat) (n : Nat) (listed : Array Bool) : Prop where
  inv : HeadInv md ops n listed
  early : ∀ i ∈ E, i < ops.size → listed.getD i false = true
theorem InvE.set {E : List Nat} {n i : Nat} {listed : Array Bool} (h : InvE md ops E n listed) (hi : i ∈ Region.ready md ops listed) (hin : i < n) : InvE md ops E n (listed.setIfInBounds i true) :=
  ⟨h.inv.set hi hin, fun j hj hjs => getD_set_true (h.early j hj hjs)⟩

theorem tail_waitsE {E : List Nat} {n : Nat} {listed : Array Bool} (hs : sinkE md ops E n = true) (hc : Region.chainB md ops n = true) (hn : n < ops.size) (h : InvE md ops E n listed) :
    ∀ (d i : Nat), n - i = d → i < n → listed.getD i true = false → ∀ t, n ≤ t → t ∉ Region.ready md ops listed := by
  intro d
  induction d using Nat.strongRecOn with
  | _ d ih =>
    intro i hd hi hun t ht hr
    obtain ⟨_, ot, hot, hall⟩ := mem_ready.1 hr
    have htlt : t < ops.size := (Array.getElem?_eq_some_iff.1 hot).1
    by_cases htn : t = n
    · subst htn
      have h1 := List.all_eq_true.1 hs i (List.mem_range.2 hi)
      rw [Bool.or_eq_true] at h1
      rcases h1 with h1 | h1
      · have h2 := h.early i (by simpa using h1) (by omega)
        rw [getD_both hun] at h2
        cases h2
      · obtain ⟨j, hj, hj2⟩ := List.any_eq_true.1 h1
        simp only [Bool.and_eq_true, decide_eq_true_eq] at hj2
        obtain ⟨oj, hoj, e, he, hb, hon⟩ := Region.waitsFor_spec hj2.2
        have hjle : j ≤ t := by have := List.mem_range.1 hj; omega
        by_cases hjt : j = t
        · subst hjt
          obtain rfl : oj = ot := Option.some.inj (hoj.symm.trans hot)
          have h2 := hall e he hb
          rw [hon, getD_both hun] at h2
          cases h2
        · cases hl : listed.getD j false with
          | true =>
            have h2 := h.inv.closed j oj hoj hl e he hb
            rw [hon, getD_both hun] at h2
            cases h2
          | false =>
            have hjs : j < listed.size := by rw [h.inv.size]; omega
            exact ih (t - j) (by omega) j rfl (by omega) (getD_in hjs hl) t (Nat.le_refl _) hr
    · have h1 := List.all_eq_true.1 hc t (List.mem_range.2 htlt)
      simp only [Bool.or_eq_true, decide_eq_true_eq] at h1
      rcases h1 with h1 | h1
      · omega
      · obtain ⟨o', ho', e, he, hb, hon⟩ := Region.waitsFor_spec h1
        obtain rfl : o' = ot := Option.some.inj (ho'.symm.trans hot)
        have h2 := hall e he hb
        rw [hon, getD_both (h.inv.tail (t - 1) (by omega) (by omega))] at h2
        cases h2

theorem headE_first {E : List Nat} {n i : Nat} {oi : Oper} {v : Value} {L : Array Bool → Act → Prop} (hi : ops[i]? = some oi) (hsel : ∀ (j : Nat) (o : Oper) cs b, ops[j]? = some o → o.op ≠ .select cs b)
    (hs : sinkE md ops E n = true) (hc : Region.chainB md ops n = true) (hn : n < ops.size) (hin : i < n)
    (hdone : ∀ listed a, L listed a → ∀ j ∈ Region.ready md ops listed, n ≤ j) :
    ∀ (f : Nat) (listed : Array Bool) (a : Act), InvE md ops E n listed →
      (∀ j oj, ops[j]? = some oj → j ≠ i → listed.getD j true = false → (∀ e ∈ oj.after, Region.binds md e = true → e.on ≠ i) → oi.apart ops oj = true) →
      i ∈ Region.ready md ops listed → YieldsIn P ops C oi v a →
      headQ P md ops C n L f (listed.setIfInBounds i true) (a.put oi.dst v) → headQ P md ops C n L (f + 1) listed a := by
  intro f
  induction f with
  | zero =>
    intro listed a inv _ hr hy H
    have hun := (mem_ready.1 hr).1
    refine ⟨fun h => (by rw [h] at hr; cases hr), fun j hj => ?_⟩
    have hjn : j < n := Nat.lt_of_not_le fun h => tail_waitsE hs hc hn inv _ i rfl hin hun j h hj
    refine ⟨hjn, ?_⟩
    by_cases hji : j = i
    · subst hji; exact hy.qOp hi H
    · have := hdone _ _ H j (ready_mono hj hji)
      omega
  | succ f ih =>
    intro listed a inv hfree hr hy H
    have hun := (mem_ready.1 hr).1
    refine ⟨fun h => (by rw [h] at hr; cases hr), fun j hj => ?_⟩
    have hjn : j < n := Nat.lt_of_not_le fun h => tail_waitsE hs hc hn inv _ i rfl hin hun j h hj
    refine ⟨hjn, ?_⟩
    by_cases hji : j = i
    · subst hji; exact hy.qOp hi H
    · have h1 := (H.2 j (ready_mono hj hji)).2
      obtain ⟨hjun, oj, hoj, hall⟩ := mem_ready.1 hj
      have hnot : ∀ e ∈ oj.after, Region.binds md e = true → e.on ≠ i := fun e he hb heq => by
        have h2 := hall e he hb
        rw [heq, getD_both hun] at h2
        cases h2
      have h2 := qOp_put hoj (hfree j oj hoj hji hjun hnot) (fun cs b => hsel i oi cs b hi) (fun cs b => hsel j oj cs b hoj) hy h1
      have hfree' : ∀ k ok, ops[k]? = some ok → k ≠ i → (listed.setIfInBounds j true).getD k true = false →
          (∀ e ∈ ok.after, Region.binds md e = true → e.on ≠ i) → oi.apart ops ok = true := fun k ok hk hki hu hno => by
        refine hfree k ok hk hki ?_ hno
        by_cases hjk : j = k
        · subst hjk; exact hjun
        · rw [getD_set_ne true hjk] at hu; exact hu
      refine qOp_mono (fun a' h3 => ih (listed.setIfInBounds j true) a' (inv.set hj hjn) hfree' (ready_mono hr (Ne.symm hji)) h3.1 ?_) h2
      rw [Array.setIfInBounds_comm _ _ hji]
      exact h3.2

theorem headE_lex {E : List Nat} {n g : Nat} {l : List Oper} {Lq : Act → Prop} (hl : ops = l.toArray) (hsel : Region.noSelect ops = true) (hs : sinkE md ops E n = true) (hc : Region.chainB md ops n = true) (hn : n < ops.size) :
    ∀ (ks : List Nat) (listed : Array Bool) (a : Act), InvE md ops E n listed → lexL md ops g n ks listed = true → wpQuiet P ops C Lq (pick l ks) a →
    headQ P md ops C n (fun listed' a' => Region.seqB md ops g n listed' = true ∧ Lq a') ks.length listed a := by
  intro ks
  induction ks with
  | nil =>
    intro listed a _ hB h
    exact ⟨by simpa [lexL] using hB, h⟩
  | cons k ks ih =>
    intro listed a inv hB h
    simp only [lexL, Bool.and_eq_true, decide_eq_true_eq] at hB
    obtain ⟨⟨⟨hr, hf⟩, hkn⟩, hB'⟩ := hB
    have hr' : k ∈ Region.ready md ops listed := by simpa using hr
    obtain ⟨_, o, h0, _⟩ := mem_ready.1 hr'
    have hlk : l[k]? = some o := by rw [hl] at h0; simpa using h0
    have hp : pick l (k :: ks) = o :: pick l ks := by simp [pick, hlk]
    rw [hp] at h
    have hst : qOp P ops C k (wpQuiet P ops C Lq (pick l ks)) a := by unfold qOp; simp only [h0]; exact h
    obtain ⟨v, hy, hK⟩ := yieldsIn_of_qOp h0 hst
    exact headE_first h0 (Region.noSelect_spec hsel) hs hc hn hkn (fun listed' a' hL => seqB_ready hL.1) ks.length listed a inv (Region.free_spec h0 hf) hr' hy (ih _ _ (inv.set hr' hkn) hB' hK)

def closedB (md : Region.Mode) (ops : Array Oper) (listed : Array Bool) : Bool :=
  (List.range ops.size).all fun j => !listed.getD j false || match ops[j]? with
    | some oj => oj.after.all fun e => !Region.binds md e || listed.getD e.on false
    | none => true
def tailB (ops : Array Oper) (n : Nat) (listed : Array Bool) : Bool := (List.range ops.size).all fun t => decide (t < n) || !listed.getD t true
def lexTailE (md : Region.Mode) (ops : Array Oper) (E ks : List Nat) (n : Nat) : Bool :=
  Region.noSelect ops && decide (n < ops.size) && sinkE md ops E n && Region.chainB md ops n && earlyB md ops E (Array.replicate ops.size false) && closedB md ops (listE E (Array.replicate ops.size false)) &&
    tailB ops n (listE E (Array.replicate ops.size false)) && lexL md ops (ops.size - n) n ks (listE E (Array.replicate ops.size false)) && decide (E.length + ks.length = n)

theorem wp_region_early_tail {id : Nat} {Q : Exit → Act → World → Prop} {a : Act} {w : World} {l : List Oper} (E ks : List Nat) (n : Nat) (hm : P.follows .mixedOrders = true) (hB : lexTailE .any l.toArray E ks n = true)
    (hQ : ∀ c (a : Act) d v w, Q (.panic c) (Act.put a d v) w → Q (.panic c) a w)
    (hC : C { w with drawn := w.drawn + 1 }) (h : wpQuiet P l.toArray C (fun a' => ∀ w', C w' → wpList P l.toArray Q (l.drop n) a' w') (pick l ks) (early l.toArray E a)) : (Code.region id l.toArray true).wp P Q a w := by
  simp only [lexTailE, Bool.and_eq_true, decide_eq_true_eq] at hB
  obtain ⟨⟨⟨⟨⟨⟨⟨⟨hsel, hn⟩, hs⟩, hc⟩, he⟩, hcl⟩, htl⟩, hlex⟩, hlen⟩ := hB
  have hdl : (l.drop n).length = l.toArray.size - n := by simp
  have hinv : InvE .any l.toArray E n (listE E (Array.replicate l.toArray.size false)) := by
    refine ⟨⟨by rw [listE_size]; simp, fun j oj hj hlj e hee hb => ?_, fun t ht hts => ?_⟩, fun i hi his => listE_true E _ (by simpa using his) (.inl hi)⟩
    · have h1 := List.all_eq_true.1 hcl j (List.mem_range.2 (Array.getElem?_eq_some_iff.1 hj).1)
      rw [hlj, hj] at h1
      simp only [Bool.not_true, Bool.false_or, Array.all_eq_true'] at h1
      have h2 := h1 e hee
      rw [hb] at h2
      simpa using h2
    · have h1 := List.all_eq_true.1 htl t (List.mem_range.2 hts)
      have h2 : ¬ t < n := by omega
      simpa [h2] using h1
  have H := headE_lex (C := C) (md := .any) (g := l.toArray.size - n) rfl hsel hs hc hn ks _ _ hinv hlex h
  refine wp_region_any hm ?_
  have h3 := wpAny_of_headQ (Q' := Q) (g := l.toArray.size - n) (fun listed a' w' hw' hL => by
    have h4 := wpAny_of_seq (md := .any) (Q' := Q) (l.drop n) n listed a' w' (fun j => by simp [List.getElem?_drop]) (by rw [hdl]; exact hL.1) (hL.2 w' hw')
    rwa [hdl] at h4) _ _ _ _ hC H
  have h5 := wpAny_early hsel hQ E _ _ a _ he h3
  rw [show E.length + (ks.length + (l.toArray.size - n)) = l.toArray.size by omega] at h5
  exact h5
end

theorem wp_region_early_below {P : Program} {id : Nat} {Q : Exit → Act → World → Prop} {a : Act} {w : World} {l : List Oper} (E ks : List Nat) (n : Nat) (hm : P.follows .mixedOrders = true) (hB : lexTailE .any l.toArray E ks n = true)
    (hQ : ∀ c (a : Act) d v w, Q (.panic c) (Act.put a d v) w → Q (.panic c) a w)
    (h : wpQuiet P l.toArray (fun w' => ∃ p : Regrown, w' = grow (redrawn w p.d) p.os) (fun a' => ∀ w', (∃ p : Regrown, w' = grow (redrawn w p.d) p.os) → wpList P l.toArray Q (l.drop n) a' w') (pick l ks) (early l.toArray E a)) : (Code.region id l.toArray true).wp P Q a w :=
  wp_region_early_tail (C := fun w' => ∃ p : Regrown, w' = grow (redrawn w p.d) p.os) E ks n hm hB hQ ⟨⟨w.drawn + 1, #[]⟩, by rw [grow_empty]; rfl⟩ h

end Go.Proofs.YtkfhbnfoiicioaaGreatDoor
