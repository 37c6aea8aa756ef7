import Derived.Test.YtmeljjijofkllaaE3
import Derived.Test.YtmeljjijofkllaaOP
import Derived.Test.YtmeljjijofkllaaRows
/- what a list of lists of spans reads as, opened -/
namespace Go.Proofs.Ytmeljjijofkllaa
open Go.RowKit Go.Sort

theorem own : ownKnob Try.prog.godebug = none := by kernel_rfl
theorem laidOut : laidOutB Try.prog = true := by kernel_rfl
theorem opens_spn : Opens Try.prog 43 Spn.cells (fun _ _ => True) :=
  (opens_struct Try.underlying43 (by kernel_rfl) (opensF_cons (opens_float Try.underlying41) rfl (opensF_cons (opens_float Try.underlying41) (by kernel_rfl) opensF_nil))).map (fun x => ⟨x.1, x.2.1⟩) (fun _ => rfl) (fun _ _ _ => trivial)
theorem opens_spans : Opens Try.prog 31 (fun x : SlV Spn => [Value.slice x.A x.xs.length x.c]) (OkSl Try.prog 43 Spn.cells 2 fun _ _ => True) :=
  opens_slice Try.underlying31 (by kernel_rfl) (by omega) Spn.clen opens_spn
theorem opens_rows : Opens Try.prog 22 (fun x : SlV (SlV Spn) => [Value.slice x.A x.xs.length x.c]) (OkSl Try.prog 31 (fun x : SlV Spn => [Value.slice x.A x.xs.length x.c]) 1 (OkSl Try.prog 43 Spn.cells 2 fun _ _ => True)) :=
  opens_slice Try.underlying22 (by kernel_rfl) (by omega) (fun _ => rfl) opens_spans
theorem bytes_span : Try.prog.bytesOf 43 = 16 := by kernel_rfl
theorem bytes_row : Try.prog.bytesOf 31 = 24 := by kernel_rfl

theorem rows_of {W : World} {x : SlV (SlV Spn)} (h : OkSl Try.prog 31 (fun x : SlV Spn => [Value.slice x.A x.xs.length x.c]) 1 (OkSl Try.prog 43 Spn.cells 2 fun _ _ => True) W x) :
    RdRows Spn.cells 2 W (fun b => b < W.heap.size) x.A x.xs.length (x.xs.map (·.xs)) ∧ x.xs.length ≤ 100000000000000 ∧ x.xs.length ≤ x.c ∧ x.c ≤ maxLen ∧ (∀ (i : Nat) (l : List Spn), (x.xs.map (·.xs))[i]? = some l → l.length ≤ 8796093021952) := by
  obtain ⟨h1, h2, h3, h4, h5, _⟩ := h
  rw [bytes_row] at h5
  have hr : reachBytes = 140737488351232 := rfl
  refine ⟨⟨⟨_, h1.rd, fun i l hl => ?_⟩, by simp⟩, by omega, h3, h4, fun i l hl => ?_⟩
  · simp only [List.getElem?_map, Option.map_eq_some_iff] at hl
    obtain ⟨y, hy, rfl⟩ := hl
    have hm := h2 y (List.mem_of_getElem? hy)
    refine ⟨y.A, y.c, ?_, hm.2.2.1, hm.1⟩
    have h := flat_get (fun x : SlV Spn => [Value.slice x.A x.xs.length x.c]) 1 (fun _ => rfl) x.xs i 0 y _ hy rfl
    rw [Nat.mul_one, Nat.add_zero] at h
    exact h
  · simp only [List.getElem?_map, Option.map_eq_some_iff] at hl
    obtain ⟨y, hy, rfl⟩ := hl
    have hm := (h2 y (List.mem_of_getElem? hy)).2.2.2.2.1
    rw [bytes_span] at hm
    omega

theorem cells_slice (A : Option Addr) (n c : Nat) : (Value.slice A n c).cells.toList = [Value.slice A n c] := rfl

end Go.Proofs.Ytmeljjijofkllaa
