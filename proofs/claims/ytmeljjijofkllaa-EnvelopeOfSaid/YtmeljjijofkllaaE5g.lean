import Derived.Test.YtmeljjijofkllaaE5
namespace Go.Proofs.Ytmeljjijofkllaa
open Go.RowKit Go.Sort

/-- a range that bounds column k of all rows, and is met where it says, and nowhere ahead -/
def GoodR (L : List (List Spn)) (k : Nat) (r : Rng) : Prop :=
  ∃ (i1 i2 : Nat) (l1 l2 : List Spn) (s1 s2 : Spn), r.least.of_ = i1 ∧ r.most.of_ = i2 ∧ L[i1]? = some l1 ∧ L[i2]? = some l2 ∧ l1[k]? = some s1 ∧ l2[k]? = some s2 ∧ feq s1.lo r.least.at_ = true ∧ feq s2.hi r.most.at_ = true ∧
    ∀ (i : Nat) (l : List Spn) (s : Spn), L[i]? = some l → l[k]? = some s → flt s.lo r.least.at_ = false ∧ fgt s.hi r.most.at_ = false ∧ (i < i1 → feq s.lo r.least.at_ = false) ∧ (i < i2 → feq s.hi r.most.at_ = false)

end Go.Proofs.Ytmeljjijofkllaa
