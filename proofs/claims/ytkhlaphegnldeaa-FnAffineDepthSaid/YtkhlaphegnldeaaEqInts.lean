/- The functions that compare two slices of ints element by element; condition: what the slices hold. -/
import Derived.Test.YtkhlaphegnldeaaOwnI
namespace Go.Proofs.Ytkhlaphegnldeaa
set_option linter.unusedVariables false
set_option linter.unusedSimpArgs false
open Go.RowKit

theorem take_eq_stepE {xs ys : List Int} {k : Nat} (hk : xs.take k = ys.take k) (h1 : k < xs.length) (h2 : k < ys.length) (h : xs.getD k 0 = ys.getD k 0) : xs.take (k+1) = ys.take (k+1) := by
  rw [List.take_succ_eq_append_getElem h1, List.take_succ_eq_append_getElem h2, hk]
  simp only [List.getD, List.getElem?_eq_getElem h1, List.getElem?_eq_getElem h2, Option.getD_some] at h
  rw [h]
theorem ne_of_getDE {xs ys : List Int} {k : Nat} (h : ¬ xs.getD k 0 = ys.getD k 0) : xs ≠ ys := fun e => h (by rw [e])
theorem decide_selfE (xs : List Int) : decide (xs = xs) = true := by simp



end Go.Proofs.Ytkhlaphegnldeaa
