import Derived.Test.YtfepmbpcdfdlhaaX11
set_option linter.unusedSimpArgs false
set_option linter.unusedVariables false
/- rows taken off one another without fractions (Bareiss): each quotient is a whole number, since all numbers are minors; tables up to factors -/
namespace Go.Proofs.Ytfepmbpcdfdlhaa

abbrev Row := Nat → Int
/-- a form's derivative by a row -/
def dl (x : Row) : (List Nat → Int) → List Nat → Int
  | _, [] => 0
  | F, c :: cs => x c * F cs - dl x (fun l => F (c :: l)) cs
theorem dl_add (x : Row) : ∀ (cs : List Nat) (F G : List Nat → Int), dl x (fun l => F l + G l) cs = dl x F cs + dl x G cs
  | [], _, _ => rfl
  | c :: cs, F, G => by
    simp only [dl]
    rw [dl_add x cs]
    grind
theorem dl_smul (x : Row) (a : Int) : ∀ (cs : List Nat) (F : List Nat → Int), dl x (fun l => a * F l) cs = a * dl x F cs
  | [], _ => by simp [dl]
  | c :: cs, F => by
    simp only [dl]
    rw [dl_smul x a cs]
    grind
theorem dl_sub (x : Row) (cs : List Nat) (F G : List Nat → Int) : dl x (fun l => F l - G l) cs = dl x F cs - dl x G cs := by
  have h := dl_add x cs (fun l => F l) (fun l => (-1) * G l)
  rw [dl_smul] at h
  have e : (fun l => F l + (-1) * G l) = (fun l => F l - G l) := by funext l; omega
  rw [e] at h
  rw [h]
  show dl x F cs + _ = _
  omega
theorem dl_radd (x y : Row) : ∀ (cs : List Nat) (F : List Nat → Int), dl (fun k => x k + y k) F cs = dl x F cs + dl y F cs
  | [], _ => rfl
  | c :: cs, F => by
    simp only [dl]
    rw [dl_radd x y cs]
    grind
theorem dl_rsmul (x : Row) (a : Int) : ∀ (cs : List Nat) (F : List Nat → Int), dl (fun k => a * x k) F cs = a * dl x F cs
  | [], _ => by simp [dl]
  | c :: cs, F => by
    simp only [dl]
    rw [dl_rsmul x a cs]
    grind
/-- two derivatives in the other order -/
theorem dl_anti (x y : Row) : ∀ (cs : List Nat) (F : List Nat → Int), dl x (dl y F) cs = - dl y (dl x F) cs
  | [], _ => rfl
  | c :: cs, F => by
    have e1 : ∀ z w : Row, dl z (fun l => dl w F (c :: l)) cs = w c * dl z F cs - dl z (dl w (fun l => F (c :: l))) cs := by
      intro z w
      have e : (fun l => dl w F (c :: l)) = (fun l => w c * F l - dl w (fun l => F (c :: l)) l) := rfl
      rw [e, dl_sub, dl_smul]
    have ih := dl_anti x y cs (fun l => F (c :: l))
    show x c * dl y F cs - dl x (fun l => dl y F (c :: l)) cs = - (y c * dl x F cs - dl y (fun l => dl x F (c :: l)) cs)
    rw [e1, e1, ih]
    omega
theorem dl_zero (x : Row) : ∀ (cs : List Nat) (F : List Nat → Int), (∀ c ∈ cs, x c = 0) → dl x F cs = 0
  | [], _, _ => rfl
  | c :: cs, F, h => by
    simp only [dl]
    rw [dl_zero x cs _ (fun d hd => h d (List.mem_cons_of_mem _ hd)), h c List.mem_cons_self]
    simp
theorem dl_F0 (x : Row) (cs : List Nat) : dl x (fun _ => 0) cs = 0 := by
  have h := dl_smul x 0 cs (fun _ => 0)
  simpa using h

/-- the minors of some rows (the last one first) -/
def mnr : List Row → List Nat → Int
  | [], cs => if cs = [] then 1 else 0
  | x :: P, cs => dl x (mnr P) cs

theorem mnr_swap (x y : Row) (P : List Row) (cs : List Nat) : mnr (x :: y :: P) cs = - mnr (y :: x :: P) cs := dl_anti x y cs (mnr P)
theorem mnr_mem : ∀ (P : List Row) (x : Row), x ∈ P → ∀ cs, mnr (x :: P) cs = 0
  | y :: P, x, h, cs => by
    rcases List.mem_cons.1 h with rfl | h
    · have := mnr_swap x x P cs; omega
    · rw [mnr_swap]
      have e : mnr (x :: P) = fun _ => 0 := by funext l; exact mnr_mem P x h l
      show - dl y (mnr (x :: P)) cs = 0
      rw [e, dl_F0]; rfl

inductive Span (P : List Row) : Row → Prop
  | zero : Span P (fun _ => 0)
  | mem {x : Row} : x ∈ P → Span P x
  | add {x y : Row} : Span P x → Span P y → Span P (fun k => x k + y k)
  | smul {x : Row} (a : Int) : Span P x → Span P (fun k => a * x k)
theorem Span.sub {P : List Row} {x y : Row} (hx : Span P x) (hy : Span P y) : Span P (fun k => x k - y k) := by
  have h := Span.add hx (Span.smul (-1) hy)
  have e : (fun k => x k + -1 * y k) = (fun k => x k - y k) := by funext k; omega
  rwa [e] at h
theorem Span.cons {P : List Row} {x y : Row} (h : Span P x) : Span (y :: P) x := by
  induction h with
  | zero => exact .zero
  | mem h => exact .mem (List.mem_cons_of_mem _ h)
  | add _ _ h1 h2 => exact .add h1 h2
  | smul a _ h => exact .smul a h
theorem mnr_span {P : List Row} {x : Row} (h : Span P x) (cs : List Nat) : mnr (x :: P) cs = 0 := by
  induction h with
  | zero => exact dl_zero _ _ _ (fun _ _ => rfl)
  | mem h => exact mnr_mem P _ h cs
  | add _ _ h1 h2 => show dl _ _ _ = 0; rw [dl_radd]; have h1 : dl _ _ _ = 0 := h1; have h2 : dl _ _ _ = 0 := h2; rw [h1, h2]; rfl
  | smul a _ h => show dl _ _ _ = 0; rw [dl_rsmul]; have h : dl _ _ _ = 0 := h; rw [h]; simp
theorem dl_span {P : List Row} (x : Row) : ∀ (cs : List Nat) (F : Nat → List Nat → Int), (∀ l, Span P (fun k => F k l)) → Span P (fun k => dl x (F k) cs)
  | [], _, _ => .zero
  | c :: cs, F, h => (Span.smul (x c) (h cs)).sub (dl_span x cs (fun k l => F k (c :: l)) (fun l => h (c :: l)))
theorem mnr_front : ∀ (P : List Row) (l : List Nat), Span P (fun k => mnr P (k :: l))
  | [], _ => by simpa [mnr] using Span.zero
  | x :: P, l => by
    have h1 : Span (x :: P) (fun k => mnr P l * x k) := .smul _ (.mem List.mem_cons_self)
    have h2 := (dl_span x l (fun k l => mnr P (k :: l)) (fun l => mnr_front P l)).cons (y := x)
    have e : (fun k => mnr (x :: P) (k :: l)) = fun k => mnr P l * x k - dl x (fun l => mnr P (k :: l)) l := by
      funext k
      show x k * mnr P l - _ = _
      rw [Int.mul_comm]
    rw [e]
    exact h1.sub h2

/-- columns change places -/
def Alt (F : List Nat → Int) : Prop := ∀ pre a b post, F (pre ++ a :: b :: post) = - F (pre ++ b :: a :: post)
theorem Alt.cons {F : List Nat → Int} (h : Alt F) (c : Nat) : Alt (fun l => F (c :: l)) := fun pre a b post => h (c :: pre) a b post
theorem dl_alt (x : Row) : ∀ (pre : List Nat) (F : List Nat → Int), Alt F → ∀ a b post, dl x F (pre ++ a :: b :: post) = - dl x F (pre ++ b :: a :: post)
  | [], F, h, a, b, post => by
    have e : (fun l => F (a :: b :: l)) = fun l => (-1) * F (b :: a :: l) := by
      funext l
      have := h [] a b l
      simp only [List.nil_append] at this
      omega
    simp only [List.nil_append, dl]
    rw [e, dl_smul]
    omega
  | c :: pre, F, h, a, b, post => by
    simp only [List.cons_append, dl]
    rw [h pre a b post, dl_alt x pre _ (h.cons c)]
    grind
theorem mnr_alt : ∀ P : List Row, Alt (mnr P)
  | [] => fun pre a b post => by simp [mnr]
  | x :: P => fun pre a b post => dl_alt x pre _ (mnr_alt P) a b post
theorem alt_dup : ∀ (pre : List Nat) (F : List Nat → Int), Alt F → ∀ k post, F (k :: (pre ++ k :: post)) = 0
  | [], F, h, k, post => by have := h [] k k post; simp only [List.nil_append] at this ⊢; omega
  | c :: pre, F, h, k, post => by
    have h1 := h [] k c (pre ++ k :: post)
    simp only [List.nil_append] at h1
    rw [List.cons_append, h1]
    have h2 := alt_dup pre _ (h.cons c) k post
    rw [h2]; rfl
theorem mnr_dup (P : List Row) {k : Nat} {J : List Nat} (h : k ∈ J) : mnr P (k :: J) = 0 := by
  obtain ⟨pre, post, rfl⟩ := List.append_of_mem h
  exact alt_dup pre _ (mnr_alt P) k post

/-- Sylvester's law, as Bareiss needs it -/
theorem sylvester (y z : Row) (P : List Row) (J : List Nat) (k c : Nat) :
    mnr P J * mnr (y :: z :: P) (k :: c :: J) = mnr (y :: P) (k :: J) * mnr (z :: P) (c :: J) - mnr (y :: P) (c :: J) * mnr (z :: P) (k :: J) := by
  have hw : Span P (fun k => dl y (fun l => mnr P (k :: l)) J) := dl_span y J (fun k l => mnr P (k :: l)) (fun l => mnr_front P l)
  have hy : (fun k => mnr (y :: P) (k :: J)) = fun k => mnr P J * y k + (-1) * dl y (fun l => mnr P (k :: l)) J := by
    funext k
    show y k * mnr P J - _ = _
    rw [Int.mul_comm]; omega
  have h1 : mnr ((fun k => mnr (y :: P) (k :: J)) :: z :: P) (k :: c :: J) = mnr P J * mnr (y :: z :: P) (k :: c :: J) := by
    rw [hy]
    show dl _ _ _ = _
    rw [dl_radd, dl_rsmul, dl_rsmul]
    have h2 := mnr_span hw.cons (P := z :: P) (k :: c :: J)
    have h2 : dl _ (mnr (z :: P)) (k :: c :: J) = 0 := h2
    rw [h2]
    show _ * mnr (y :: z :: P) _ + _ = _
    omega
  rw [← h1]
  show (mnr (y :: P) (k :: J)) * mnr (z :: P) (c :: J) - ((mnr (y :: P) (c :: J)) * mnr (z :: P) (k :: J) - dl (fun k => mnr (y :: P) (k :: J)) _ J) = _
  rw [dl_zero _ J _ (fun d hd => mnr_dup (y :: P) hd)]
  omega
def unitRow (j : Nat) : Row := fun k => if k = j then 1 else 0
/-- a table after some pivots (J: their columns, the last one first): its numbers are minors -/
structure Bar (T B : Nat → Row) (P : List Row) (J : List Nat) (d : Int) : Prop where
  det : d = mnr P J
  low : ∀ i, J.length ≤ i → ∀ k, T i k = mnr (B i :: P) (k :: J)
  top : ∀ i j, J.reverse[i]? = some j → ∀ k, T i k = d * unitRow j k - mnr (unitRow j :: P) (k :: J)
theorem Bar.start (T : Nat → Row) : Bar T T [] [] 1 := ⟨rfl, fun i _ k => by simp [mnr, dl], fun i j h => by simp at h⟩
theorem Bar.swap {T B : Nat → Row} {P : List Row} {J : List Nat} {d : Int} (h : Bar T B P J d) (s : Nat → Nat) (hs : ∀ i, J.length ≤ i → J.length ≤ s i) (hl : ∀ i, i < J.length → s i = i) : Bar (fun i => T (s i)) (fun i => B (s i)) P J d :=
  ⟨h.det, fun i hi k => h.low (s i) (hs i hi) k, fun i j hj k => by
    have hlt : i < J.length := by have := (List.getElem?_eq_some_iff.1 hj).1; simpa using this
    rw [hl i hlt]; exact h.top i j hj k⟩
theorem Bar.exact {T B : Nat → Row} {P : List Row} {J : List Nat} {d : Int} (h : Bar T B P J d) {c : Nat} (hc : c ∉ J) {i : Nat} (hi : i ≠ J.length) (k : Nat) :
    ∃ X, T i k * T J.length c - T i c * T J.length k = d * X ∧
      (J.length < i → X = mnr (B i :: B J.length :: P) (k :: c :: J)) ∧ (∀ j, J.reverse[i]? = some j → X = T J.length c * unitRow j k - mnr (unitRow j :: B J.length :: P) (k :: c :: J)) := by
  have hr := h.low J.length (Nat.le_refl _)
  by_cases hlt : J.length < i
  · have hs := sylvester (B i) (B J.length) P J k c
    rw [← h.det, ← h.low i (by omega), ← hr, ← h.low i (by omega), ← hr] at hs
    refine ⟨_, hs.symm, fun _ => rfl, fun j hj => ?_⟩
    have := (List.getElem?_eq_some_iff.1 hj).1
    simp at this
    omega
  · have hlen : i < J.reverse.length := by simp; omega
    obtain ⟨j, hj⟩ : ∃ j, J.reverse[i]? = some j := ⟨_, List.getElem?_eq_getElem hlen⟩
    have hmem : j ∈ J := by simpa using List.mem_of_getElem? hj
    have hcj : unitRow j c = 0 := by
      unfold unitRow
      exact if_neg (fun e : c = j => hc (e ▸ hmem))
    have hs := sylvester (unitRow j) (B J.length) P J k c
    rw [← h.det, ← hr, ← hr] at hs
    have h1 := h.top i j hj k
    have h2 := h.top i j hj c
    rw [hcj] at h2
    refine ⟨T J.length c * unitRow j k - mnr (unitRow j :: B J.length :: P) (k :: c :: J), ?_, fun h => absurd h hlt, fun j' hj' => by rw [hj] at hj'; injection hj' with hj'; rw [hj']⟩
    rw [h1, h2]
    grind
/-- one pivot more -/
theorem Bar.step {T B T' : Nat → Row} {P : List Row} {J : List Nat} {d : Int} (h : Bar T B P J d) {c : Nat} (hc : c ∉ J) (hd : d ≠ 0) (h1 : ∀ k, T' J.length k = T J.length k) (h2 : ∀ i, i ≠ J.length → ∀ k, T' i k = (T i k * T J.length c - T i c * T J.length k).tdiv d) :
    Bar T' B (B J.length :: P) (c :: J) (T J.length c) ∧ ∀ i, i ≠ J.length → ∀ k, d * T' i k = T i k * T J.length c - T i c * T J.length k := by
  have hr := h.low J.length (Nat.le_refl _)
  refine ⟨⟨hr c, fun i hi k => ?_, fun i j hj k => ?_⟩, fun i hi k => ?_⟩
  · simp only [List.length_cons] at hi
    obtain ⟨X, hX, ha, _⟩ := h.exact hc (i := i) (by omega) k
    rw [h2 i (by omega), hX, Int.mul_tdiv_cancel_left _ hd]
    exact ha (by omega)
  · rw [List.reverse_cons] at hj
    by_cases hi : i < J.length
    · rw [List.getElem?_append_left (by simpa using hi)] at hj
      obtain ⟨X, hX, _, hb⟩ := h.exact hc (i := i) (by omega) k
      rw [h2 i (by omega), hX, Int.mul_tdiv_cancel_left _ hd]
      exact hb j hj
    · rw [List.getElem?_append_right (by simpa using hi)] at hj
      have hi2 : i - J.reverse.length = 0 := by
        have := (List.getElem?_eq_some_iff.1 hj).1
        simp at this ⊢
        omega
      rw [hi2] at hj
      simp at hj
      subst hj
      simp at hi2
      obtain rfl : i = J.length := by omega
      rw [h1, hr k]
      have e : mnr (unitRow c :: B J.length :: P) (k :: c :: J) = unitRow c k * mnr (B J.length :: P) (c :: J) - (unitRow c c * mnr (B J.length :: P) (k :: J) - dl (unitRow c) (fun l => mnr (B J.length :: P) (k :: c :: l)) J) := rfl
      rw [dl_zero (unitRow c) J _ (fun e he => if_neg (fun e2 : e = c => hc (e2 ▸ he))), show unitRow c c = 1 by simp [unitRow], ← hr c] at e
      rw [e, ← hr k]
      grind
  · obtain ⟨X, hX, _, _⟩ := h.exact hc hi k
    rw [h2 i hi, hX, Int.mul_tdiv_cancel_left _ hd]
/-- a table of numbers as a function (0 outside) -/
def tf (T : List (List Int)) : Nat → Row := fun i k => (T.getD i []).getD k 0
def swapAt {α : Type} (T : List α) (a b : Nat) : List α := match T[a]?, T[b]? with
  | some x, some y => (T.set a y).set b x
  | _, _ => T
/-- one row off another one, as Bareiss does -/
def offRow (row by_ : List Int) (p f d : Int) : List Int := List.zipWith (fun a b => (a * p - f * b).tdiv d) row by_
def pivAt (T : List (List Int)) (r c : Nat) : Nat := r + (T.drop r).findIdx (fun row => row.getD c 0 != 0)
structure BSt where
  rows : List (List Int)
  piv : List Nat
  last : Int
def elim (T : List (List Int)) (r c : Nat) (d : Int) : List (List Int) :=
  T.mapIdx (fun i row => if i = r then row else offRow row (T.getD r []) ((T.getD r []).getD c 0) (row.getD c 0) d)
def bstep (s : BSt) (c : Nat) : BSt :=
  if pivAt s.rows s.piv.length c = s.rows.length then s else
    let T := swapAt s.rows s.piv.length (pivAt s.rows s.piv.length c)
    ⟨elim T s.piv.length c s.last, s.piv ++ [c], tf T s.piv.length c⟩
def brun (A : List (List Int)) (n : Nat) : BSt := (List.range n).foldl bstep ⟨A, [], 1⟩
theorem brun_succ (A : List (List Int)) (n : Nat) : brun A (n + 1) = bstep (brun A n) n := by
  unfold brun; rw [List.range_succ, List.foldl_append]; rfl

def rect (T : List (List Int)) (R C : Nat) : Prop := T.length = R ∧ ∀ row ∈ T, row.length = C
theorem rect.get {T : List (List Int)} {R C i : Nat} (h : rect T R C) (hi : i < R) : ∃ row, T[i]? = some row ∧ row.length = C :=
  ⟨_, List.getElem?_eq_getElem (by rw [h.1]; exact hi), h.2 _ (List.getElem_mem _)⟩
theorem tf_get {T : List (List Int)} {i : Nat} {row : List Int} (h : T[i]? = some row) (k : Nat) : tf T i k = row.getD k 0 := by
  unfold tf
  have e : T.getD i [] = row := by rw [List.getD_eq_getElem?_getD, h]; rfl
  rw [e]
theorem tf_out {T : List (List Int)} {i : Nat} (h : T[i]? = none) (k : Nat) : tf T i k = 0 := by
  unfold tf
  have e : T.getD i [] = [] := by rw [List.getD_eq_getElem?_getD, h]; rfl
  rw [e]; rfl
theorem swapAt_get {α : Type} (T : List α) {a b : Nat} (ha : a < T.length) (hb : b < T.length) (i : Nat) : (swapAt T a b)[i]? = T[if i = a then b else if i = b then a else i]? := by
  unfold swapAt
  rw [List.getElem?_eq_getElem ha, List.getElem?_eq_getElem hb]
  simp only
  by_cases h2 : i = b
  · subst h2
    rw [List.getElem?_set_self (by simpa using hb)]
    by_cases h1 : i = a
    · rw [if_pos h1, h1, List.getElem?_eq_getElem ha]
    · rw [if_neg h1, if_pos rfl, List.getElem?_eq_getElem ha]
  · rw [List.getElem?_set_ne (by omega)]
    by_cases h1 : i = a
    · subst h1
      rw [List.getElem?_set_self ha, if_pos rfl, List.getElem?_eq_getElem hb]
    · rw [List.getElem?_set_ne (by omega), if_neg h1, if_neg h2]
theorem swapAt_len {α : Type} (T : List α) (a b : Nat) : (swapAt T a b).length = T.length := by
  unfold swapAt; split <;> simp
theorem swapAt_rect {T : List (List Int)} {R C a b : Nat} (h : rect T R C) (ha : a < R) (hb : b < R) : rect (swapAt T a b) R C := by
  refine ⟨by rw [swapAt_len]; exact h.1, fun row hr => ?_⟩
  obtain ⟨i, hi⟩ := List.getElem?_of_mem hr
  rw [swapAt_get T (by rw [h.1]; exact ha) (by rw [h.1]; exact hb)] at hi
  exact h.2 row (List.mem_of_getElem? hi)
theorem tf_swap {T : List (List Int)} {R C a b : Nat} (h : rect T R C) (ha : a < R) (hb : b < R) (i k : Nat) : tf (swapAt T a b) i k = tf T (if i = a then b else if i = b then a else i) k := by
  unfold tf
  have e : (swapAt T a b).getD i [] = T.getD (if i = a then b else if i = b then a else i) [] := by
    rw [List.getD_eq_getElem?_getD, swapAt_get T (by rw [h.1]; exact ha) (by rw [h.1]; exact hb), ← List.getD_eq_getElem?_getD]
  rw [e]
theorem offRow_get {row by_ : List Int} {C : Nat} (h1 : row.length = C) (h2 : by_.length = C) (p f d : Int) (k : Nat) : (offRow row by_ p f d).getD k 0 = (row.getD k 0 * p - f * by_.getD k 0).tdiv d := by
  unfold offRow
  simp only [List.getD_eq_getElem?_getD, List.getElem?_zipWith]
  by_cases hk : k < C
  · rw [List.getElem?_eq_getElem (by omega), List.getElem?_eq_getElem (by omega)]; rfl
  · rw [List.getElem?_eq_none (by omega), List.getElem?_eq_none (by omega)]; simp
theorem elim_rect {T : List (List Int)} {R C r : Nat} (h : rect T R C) (hr : r < R) (c : Nat) (d : Int) : rect (elim T r c d) R C := by
  refine ⟨by unfold elim; simp [h.1], fun row hx => ?_⟩
  unfold elim at hx
  obtain ⟨i, hi, rfl⟩ := List.mem_mapIdx.1 hx
  obtain ⟨rr, hrr, hl⟩ := h.get hr
  have e : T.getD r [] = rr := by rw [List.getD_eq_getElem?_getD, hrr]; rfl
  split
  · exact h.2 _ (List.getElem_mem _)
  · unfold offRow
    rw [List.length_zipWith, e, hl, h.2 _ (List.getElem_mem _), Nat.min_self]
theorem tf_elim {T : List (List Int)} {R C r : Nat} (h : rect T R C) (hr : r < R) (c : Nat) (d : Int) (i k : Nat) :
    tf (elim T r c d) i k = if i = r then tf T i k else (tf T i k * tf T r c - tf T i c * tf T r k).tdiv d := by
  by_cases hi : i < R
  · obtain ⟨row, hrow, hl⟩ := h.get hi
    obtain ⟨rr, hrr, hl2⟩ := h.get hr
    have e : T.getD r [] = rr := by rw [List.getD_eq_getElem?_getD, hrr]; rfl
    have e1 : (elim T r c d)[i]? = some (if i = r then row else offRow row rr (rr.getD c 0) (row.getD c 0) d) := by
      unfold elim
      rw [List.getElem?_mapIdx, hrow, Option.map_some, e]
    rw [tf_get e1, tf_get hrow, tf_get hrow, tf_get hrr, tf_get hrr]
    split
    · rfl
    · exact offRow_get hl hl2 _ _ _ k
  · have e1 : (elim T r c d)[i]? = none := List.getElem?_eq_none (by rw [(elim_rect h hr c d).1]; omega)
    have e2 : T[i]? = none := List.getElem?_eq_none (by rw [h.1]; omega)
    rw [tf_out e1, tf_out e2, tf_out e2, if_neg (by omega)]
    simp
theorem pivAt_le (T : List (List Int)) {r c : Nat} (hr : r ≤ T.length) : pivAt T r c ≤ T.length := by
  unfold pivAt
  have := List.findIdx_le_length (xs := T.drop r) (p := fun row => row.getD c 0 != 0)
  rw [List.length_drop] at this
  omega
theorem pivAt_some {T : List (List Int)} {r c : Nat} (hr : r ≤ T.length) (h : pivAt T r c ≠ T.length) : r ≤ pivAt T r c ∧ pivAt T r c < T.length ∧ tf T (pivAt T r c) c ≠ 0 := by
  have h1 := pivAt_le T (c := c) hr
  have h2 : (T.drop r).findIdx (fun row => row.getD c 0 != 0) < (T.drop r).length := by
    rw [List.length_drop]; unfold pivAt at h h1; omega
  have h3 := List.findIdx_getElem (w := h2)
  have h4 : T[pivAt T r c]? = some ((T.drop r)[(T.drop r).findIdx (fun row => row.getD c 0 != 0)]'h2) := by
    unfold pivAt
    rw [← List.getElem?_drop, List.getElem?_eq_getElem h2]
  refine ⟨by unfold pivAt; omega, by omega, ?_⟩
  rw [tf_get h4]
  simpa using h3
theorem pivAt_none {T : List (List Int)} {r c : Nat} (h : pivAt T r c = T.length) {i : Nat} (hi : r ≤ i) : tf T i c = 0 := by
  by_cases hlt : i < T.length
  · have h1 : i - r < (T.drop r).findIdx (fun row => row.getD c 0 != 0) := by unfold pivAt at h; omega
    have h2 := List.not_of_lt_findIdx h1
    have h3 : T[i]? = some ((T.drop r)[i - r]'(by rw [List.length_drop]; omega)) := by
      rw [List.getElem_drop, List.getElem?_eq_getElem hlt]
      congr 2; omega
    rw [tf_get h3]
    simpa using h2
  · exact tf_out (List.getElem?_eq_none (by omega)) _

/-- what holds after n columns -/
structure BInv (A : List (List Int)) (R C n : Nat) (s : BSt) : Prop where
  rct : rect s.rows R C
  last : s.last ≠ 0
  le : s.piv.length ≤ R
  lt : ∀ j ∈ s.piv, j < n
  bar : ∃ B P, Bar (tf s.rows) B P s.piv.reverse s.last
theorem BInv.start {A : List (List Int)} {R C : Nat} (h : rect A R C) : BInv A R C 0 ⟨A, [], 1⟩ :=
  ⟨h, by simp, Nat.zero_le _, fun j hj => by simp at hj, ⟨_, _, Bar.start _⟩⟩
/-- a step that finds a pivot: the quotients are whole -/
theorem BInv.swapped {A : List (List Int)} {R C n : Nat} {s : BSt} (h : BInv A R C n s) (hp : pivAt s.rows s.piv.length n ≠ s.rows.length) :
    s.piv.length < R ∧ rect (swapAt s.rows s.piv.length (pivAt s.rows s.piv.length n)) R C ∧ tf (swapAt s.rows s.piv.length (pivAt s.rows s.piv.length n)) s.piv.length n ≠ 0 ∧
      ∃ B P, Bar (tf (swapAt s.rows s.piv.length (pivAt s.rows s.piv.length n))) B P s.piv.reverse s.last := by
  have hl := h.rct.1
  obtain ⟨h1, h2, h3⟩ := pivAt_some (by rw [hl]; exact h.le) hp
  have hr : s.piv.length < R := by omega
  have ha : pivAt s.rows s.piv.length n < R := by omega
  refine ⟨hr, swapAt_rect h.rct hr ha, ?_, ?_⟩
  · rw [tf_swap h.rct hr ha, if_pos rfl]; exact h3
  · obtain ⟨B, P, hb⟩ := h.bar
    have hs := hb.swap (fun i => if i = s.piv.length then pivAt s.rows s.piv.length n else if i = pivAt s.rows s.piv.length n then s.piv.length else i)
      (fun i hi => by simp only [List.length_reverse] at hi ⊢; split; omega; split <;> omega) (fun i hi => by simp only [List.length_reverse] at hi; rw [if_neg (by omega), if_neg (by omega)])
    have e : tf (swapAt s.rows s.piv.length (pivAt s.rows s.piv.length n)) = fun i => tf s.rows (if i = s.piv.length then pivAt s.rows s.piv.length n else if i = pivAt s.rows s.piv.length n then s.piv.length else i) := by
      funext i k; exact tf_swap h.rct hr ha i k
    exact ⟨_, P, by rw [e]; exact hs⟩
theorem BInv.step {A : List (List Int)} {R C n : Nat} {s : BSt} (h : BInv A R C n s) : BInv A R C (n + 1) (bstep s n) := by
  unfold bstep
  split
  · exact ⟨h.rct, h.last, h.le, fun j hj => by have := h.lt j hj; omega, h.bar⟩
  · rename_i hp
    obtain ⟨hr, hrect, hne, B, P, hb⟩ := h.swapped hp
    refine ⟨elim_rect hrect hr _ _, hne, by simp; omega, fun j hj => ?_, ?_⟩
    · rcases List.mem_append.1 hj with hj | hj
      · have := h.lt j hj; omega
      · simp at hj; omega
    · have hs := hb.step (c := n) (T' := tf (elim (swapAt s.rows s.piv.length (pivAt s.rows s.piv.length n)) s.piv.length n s.last)) (fun hm => by have := h.lt n (by simpa using hm); omega) h.last
        (fun k => by rw [List.length_reverse, tf_elim hrect hr, if_pos rfl]) (fun i hi k => by rw [List.length_reverse] at hi ⊢; rw [tf_elim hrect hr, if_neg hi])
      simp only [List.length_reverse] at hs
      exact ⟨B, _, by simp only [List.reverse_append, List.reverse_cons, List.reverse_nil, List.nil_append, List.singleton_append]; exact hs.1⟩
theorem brun_inv {A : List (List Int)} {R C : Nat} (h : rect A R C) : ∀ n, BInv A R C n (brun A n)
  | 0 => BInv.start h
  | n + 1 => by rw [brun_succ]; exact (brun_inv h n).step
end Go.Proofs.Ytfepmbpcdfdlhaa

/- Bareiss's numbers are small: minors -/
namespace Go.Proofs.Ytfepmbpcdfdlhaa
/-- with lists of at most L places -/
theorem dl_le' {M K L : Nat} (x : Row) (hx : ∀ k, (x k).natAbs ≤ M) : ∀ (cs : List Nat) (F : List Nat → Int), (∀ l, l.length + 1 ≤ cs.length → (F l).natAbs ≤ K) → (dl x F cs).natAbs ≤ cs.length * (M * K)
  | [], _, _ => by simp [dl]
  | c :: cs, F, h => by
    have h1 := dl_le' (L := L) x hx cs (fun l => F (c :: l)) (fun l hl => h _ (by simp; omega))
    have h2 : (x c * F cs).natAbs ≤ M * K := by
      rw [Int.natAbs_mul]
      exact Nat.mul_le_mul (hx c) (h cs (by simp))
    simp only [dl, List.length_cons]
    have h3 := Int.natAbs_sub_le (x c * F cs) (dl x (fun l => F (c :: l)) cs)
    rw [Nat.add_mul, Nat.one_mul]
    omega
theorem mnr_le {M L : Nat} : ∀ (P : List Row), (∀ x ∈ P, ∀ k, (x k).natAbs ≤ M) → ∀ cs : List Nat, cs.length ≤ L → (mnr P cs).natAbs ≤ (L * M) ^ P.length
  | [], _, cs, _ => by
    unfold mnr
    split <;> simp
  | x :: P, h, cs, hl => by
    have h1 := dl_le' (L := L) (K := (L * M) ^ P.length) x (h x List.mem_cons_self) cs (mnr P) (fun l hl2 => mnr_le P (fun y hy => h y (List.mem_cons_of_mem _ hy)) l (by omega))
    show (dl x (mnr P) cs).natAbs ≤ _
    refine Nat.le_trans h1 ?_
    rw [List.length_cons, Nat.pow_succ, Nat.mul_comm ((L * M) ^ P.length), Nat.mul_assoc]
    exact Nat.mul_le_mul_right _ hl

/-- what holds after n columns, with bounds -/
structure BM (R C M n : Nat) (s : BSt) : Prop where
  rct : rect s.rows R C
  last : s.last ≠ 0
  le : s.piv.length ≤ R
  lt : ∀ j ∈ s.piv, j < n
  bar : ∃ B P, Bar (tf s.rows) B P s.piv.reverse s.last ∧ (∀ i k, (B i k).natAbs ≤ M) ∧ (∀ x ∈ P, ∀ k, (x k).natAbs ≤ M) ∧ P.length = s.piv.length
theorem BM.start {A : List (List Int)} {R C M : Nat} (h : rect A R C) (hM : ∀ i k, (tf A i k).natAbs ≤ M) : BM R C M 0 ⟨A, [], 1⟩ :=
  ⟨h, by simp, Nat.zero_le _, fun j hj => by simp at hj, ⟨_, _, Bar.start _, hM, fun x hx => by simp at hx, rfl⟩⟩
theorem BM.swapped {R C M n : Nat} {s : BSt} (h : BM R C M n s) (hp : pivAt s.rows s.piv.length n ≠ s.rows.length) :
    s.piv.length < R ∧ rect (swapAt s.rows s.piv.length (pivAt s.rows s.piv.length n)) R C ∧ tf (swapAt s.rows s.piv.length (pivAt s.rows s.piv.length n)) s.piv.length n ≠ 0 ∧
      ∃ B P, Bar (tf (swapAt s.rows s.piv.length (pivAt s.rows s.piv.length n))) B P s.piv.reverse s.last ∧ (∀ i k, (B i k).natAbs ≤ M) ∧ (∀ x ∈ P, ∀ k, (x k).natAbs ≤ M) ∧ P.length = s.piv.length := by
  have hl := h.rct.1
  obtain ⟨h1, h2, h3⟩ := pivAt_some (by rw [hl]; exact h.le) hp
  have hr : s.piv.length < R := by omega
  have ha : pivAt s.rows s.piv.length n < R := by omega
  refine ⟨hr, swapAt_rect h.rct hr ha, ?_, ?_⟩
  · rw [tf_swap h.rct hr ha, if_pos rfl]; exact h3
  · obtain ⟨B, P, hb, k1, k2, k3⟩ := h.bar
    have hs := hb.swap (fun i => if i = s.piv.length then pivAt s.rows s.piv.length n else if i = pivAt s.rows s.piv.length n then s.piv.length else i)
      (fun i hi => by simp only [List.length_reverse] at hi ⊢; split; omega; split <;> omega) (fun i hi => by simp only [List.length_reverse] at hi; rw [if_neg (by omega), if_neg (by omega)])
    have e : tf (swapAt s.rows s.piv.length (pivAt s.rows s.piv.length n)) = fun i => tf s.rows (if i = s.piv.length then pivAt s.rows s.piv.length n else if i = pivAt s.rows s.piv.length n then s.piv.length else i) := by
      funext i k; exact tf_swap h.rct hr ha i k
    exact ⟨_, P, by rw [e]; exact hs, fun i k => k1 _ k, k2, k3⟩
theorem BM.step {R C M n : Nat} {s : BSt} (h : BM R C M n s) : BM R C M (n + 1) (bstep s n) := by
  unfold bstep
  split
  · exact ⟨h.rct, h.last, h.le, fun j hj => by have := h.lt j hj; omega, h.bar⟩
  · rename_i hp
    obtain ⟨hr, hrect, hne, B, P, hb, k1, k2, k3⟩ := h.swapped hp
    refine ⟨elim_rect hrect hr _ _, hne, by simp; omega, fun j hj => ?_, ?_⟩
    · rcases List.mem_append.1 hj with hj | hj
      · have := h.lt j hj; omega
      · simp at hj; omega
    · have hs := hb.step (c := n) (T' := tf (elim (swapAt s.rows s.piv.length (pivAt s.rows s.piv.length n)) s.piv.length n s.last)) (fun hm => by have := h.lt n (by simpa using hm); omega) h.last
        (fun k => by rw [List.length_reverse, tf_elim hrect hr, if_pos rfl]) (fun i hi k => by rw [List.length_reverse] at hi ⊢; rw [tf_elim hrect hr, if_neg hi])
      simp only [List.length_reverse] at hs
      refine ⟨B, B s.piv.length :: P, by simp only [List.reverse_append, List.reverse_cons, List.reverse_nil, List.nil_append, List.singleton_append]; exact hs.1, k1, fun x hx => ?_, by simp [k3]⟩
      rcases List.mem_cons.1 hx with rfl | hx
      · exact k1 _
      · exact k2 x hx
theorem brun_bm {A : List (List Int)} {R C M : Nat} (h : rect A R C) (hM : ∀ i k, (tf A i k).natAbs ≤ M) : ∀ n, BM R C M n (brun A n)
  | 0 => BM.start h hM
  | n + 1 => by rw [brun_succ]; exact (brun_bm h hM n).step
/-- how great a number of the table may be -/
def bigB (R M : Nat) : Nat := 2 * ((R + 1) * (M + 1)) ^ (R + 1)
/-- the numbers of a table after some pivots -/
theorem bar_le {T B : Nat → Row} {P : List Row} {J : List Nat} {d : Int} {R M : Nat} (h : Bar T B P J d) (k1 : ∀ i k, (B i k).natAbs ≤ M) (k2 : ∀ x ∈ P, ∀ k, (x k).natAbs ≤ M) (k3 : P.length = J.length) (hJ : J.length ≤ R) (i k : Nat) : (T i k).natAbs ≤ bigB R M := by
  have hP : ∀ x ∈ P, ∀ k, (x k).natAbs ≤ M + 1 := fun x hx k => Nat.le_trans (k2 x hx k) (Nat.le_succ _)
  have key : ∀ y : Row, (∀ k, (y k).natAbs ≤ M + 1) → (mnr (y :: P) (k :: J)).natAbs ≤ ((R + 1) * (M + 1)) ^ (R + 1) := fun y hy => by
    have h1 := mnr_le (M := M + 1) (L := R + 1) (y :: P) (fun x hx => by
      rcases List.mem_cons.1 hx with rfl | hx
      · exact hy
      · exact hP x hx) (k :: J) (by simp; omega)
    refine Nat.le_trans h1 (Nat.pow_le_pow_right (Nat.mul_pos (Nat.succ_pos _) (Nat.succ_pos _)) ?_)
    simp; omega
  unfold bigB
  by_cases hi : J.length ≤ i
  · rw [h.low i hi k]
    have := key (B i) (fun k => Nat.le_trans (k1 i k) (Nat.le_succ _))
    omega
  · have hlen : i < J.reverse.length := by simp; omega
    obtain ⟨j, hj⟩ : ∃ j, J.reverse[i]? = some j := ⟨_, List.getElem?_eq_getElem hlen⟩
    rw [h.top i j hj k]
    have h1 := key (unitRow j) (fun k => by unfold unitRow; split <;> simp)
    have h2 : d.natAbs ≤ ((R + 1) * (M + 1)) ^ (R + 1) := by
      rw [h.det]
      have := mnr_le (M := M + 1) (L := R + 1) P hP J (by omega)
      exact Nat.le_trans this (Nat.pow_le_pow_right (Nat.mul_pos (Nat.succ_pos _) (Nat.succ_pos _)) (by omega))
    have h3 : (d * unitRow j k).natAbs ≤ ((R + 1) * (M + 1)) ^ (R + 1) := by
      unfold unitRow
      split
      · rw [Int.mul_one]; exact h2
      · rw [Int.mul_zero]; exact Nat.zero_le _
    have h4 := Int.natAbs_sub_le (d * unitRow j k) (mnr (unitRow j :: P) (k :: J))
    omega
theorem BM.num {R C M n : Nat} {s : BSt} (h : BM R C M n s) (i k : Nat) : (tf s.rows i k).natAbs ≤ bigB R M := by
  obtain ⟨B, P, hb, k1, k2, k3⟩ := h.bar
  exact bar_le hb k1 k2 (by simp [k3]) (by simpa using h.le) i k
theorem BM.lastN {R C M n : Nat} {s : BSt} (h : BM R C M n s) : s.last.natAbs ≤ bigB R M := by
  obtain ⟨B, P, hb, k1, k2, k3⟩ := h.bar
  rw [hb.det]
  have hP : ∀ x ∈ P, ∀ k, (x k).natAbs ≤ M + 1 := fun x hx k => Nat.le_trans (k2 x hx k) (Nat.le_succ _)
  have := mnr_le (M := M + 1) (L := R + 1) P hP s.piv.reverse (by simp; have := h.le; omega)
  unfold bigB
  have h2 := Nat.pow_le_pow_right (n := (R + 1) * (M + 1)) (Nat.mul_pos (Nat.succ_pos _) (Nat.succ_pos _)) (show P.length ≤ R + 1 by have := h.le; omega)
  omega

end Go.Proofs.Ytfepmbpcdfdlhaa
