/- Plain laws of affine expressions; no condition. -/
import Derived.Test.YtkhlaphegnldeaaDoorAffA
import Derived.Test.YtkhlaphegnldeaaDoorSame
import Derived.Test.YtkhlaphegnldeaaDoorAffE
namespace Go.Proofs.YtkhlaphegnldeaaDoor
set_option linter.unusedVariables false
set_option linter.unusedSimpArgs false
open Go.RowKit

theorem getD4 (a b c d : Int) (i : Nat) (hi : i < 4) : ([a, b, c, d] : List Int).getD i 0 = if i = 0 then a else if i = 1 then b else if i = 2 then c else d := by
  match i, hi with
  | 0, _ => rfl
  | 1, _ => rfl
  | 2, _ => rfl
  | 3, _ => rfl
theorem affSum_at (x y : Aff) (k : Int) (i : Nat) (hi : i < 4) : (affSum x k y).1.getD i 0 = x.1.getD i 0 + k * y.1.getD i 0 := by
  match i, hi with
  | 0, _ => rfl
  | 1, _ => rfl
  | 2, _ => rfl
  | 3, _ => rfl
theorem aff_ext {x y : Aff} (hx : x.1.length = 4) (hy : y.1.length = 4) (h : ∀ i, i < 4 → x.1.getD i 0 = y.1.getD i 0) (h2 : x.2 = y.2) : x = y := by
  refine Prod.ext ?_ h2
  rw [list4 hx, list4 hy, h 0 (by omega), h 1 (by omega), h 2 (by omega), h 3 (by omega)]
theorem affSum_comm (x y : Aff) : affSum y 1 x = affSum x 1 y := by
  refine aff_ext rfl rfl (fun i hi => ?_) ?_
  · rw [affSum_at _ _ _ i hi, affSum_at _ _ _ i hi]; omega
  · show y.2 + 1 * x.2 = x.2 + 1 * y.2; omega
theorem addOf_comm (x y : Aff) : addOf y x = addOf x y := by
  rw [addOf, addOf, affSum_comm, Bool.and_comm]
theorem chk_ok {b : Bool} {z : Aff} (h : (chkOf b z).2 = true) : b = true ∧ affV z = true ∧ (chkOf b z).1 = z := by
  unfold chkOf at *
  cases b
  · simp at h
  · cases hz : affV z
    · simp [hz] at h
    · simp
theorem evalTo_lin (co cx cy p : List Int) (k : Int) (h : ∀ i, i < 4 → co.getD i 0 = cx.getD i 0 + k * cy.getD i 0) : ∀ j, j ≤ 4 → evalTo co p j = evalTo cx p j + k * evalTo cy p j
  | 0, _ => by simp [evalTo]
  | j + 1, hj => by
    rw [evalTo, evalTo, evalTo, evalTo_lin co cx cy p k h j (by omega), h j (by omega), Int.mul_add, Int.add_mul, Int.mul_assoc]; omega
theorem evalOf_pt {x : Aff} {p : List Int} (hp : isPt p = false) : evalOf x p = 0 := by simp [evalOf, hp]
theorem evalOf_val {x : Aff} {p : List Int} (hx : affV x = true) (hp : isPt p = true) : evalOf x p = x.2 + evalTo x.1 p p.length := by simp [evalOf, hx, hp, affEval]
theorem evalOf_lin {x y z : Aff} (k : Int) (hx : affV x = true) (hy : affV y = true) (hz : affV z = true) (h : z = affSum x k y) (p : List Int) : evalOf z p = evalOf x p + k * evalOf y p := by
  cases hp : isPt p
  · rw [evalOf_pt hp, evalOf_pt hp, evalOf_pt hp]; omega
  · rw [evalOf_val hx hp, evalOf_val hy hp, evalOf_val hz hp, evalTo_lin z.1 x.1 y.1 p k (fun i hi => by rw [h]; exact affSum_at x y k i hi) _ (isPt_len hp), h]
    show x.2 + k * y.2 + _ = _
    rw [Int.mul_add]; omega
theorem isPt_at {p : List Int} (h : isPt p = true) (i : Nat) : -9999 ≤ p.getD i 0 ∧ p.getD i 0 ≤ 9999 := by
  rw [List.getD]
  cases e : p[i]? with
  | none => simp
  | some c =>
    simp [isPt, inB] at h
    exact h.2 c (List.mem_of_getElem? e)
theorem evalTo_pt {x : Aff} {p : List Int} (hx : affV x = true) (hp : isPt p = true) : ∀ j : Nat, -(89991 * (j : Int)) ≤ evalTo x.1 p j ∧ evalTo x.1 p j ≤ 89991 * (j : Int)
  | 0 => by simp [evalTo]
  | j + 1 => by
    rw [evalTo]
    have h1 := evalTo_pt hx hp j
    have h2 := mul_abs (M := 9) (N := 9999) (affV_getD hx j) (isPt_at hp j) (by omega) (by omega)
    omega
theorem evalOf_bd (x : Aff) (p : List Int) : -400000 ≤ evalOf x p ∧ evalOf x p ≤ 400000 := by
  cases hp : isPt p
  · rw [evalOf_pt hp]; omega
  · cases hx : affV x
    · simp [evalOf, hx]
    · rw [evalOf_val hx hp]
      have h1 := evalTo_pt hx hp p.length
      have h2 := isPt_len hp
      have h3 := affV_const hx
      omega
theorem add_ok {x y : Aff} (h : (addOf x y).2 = true) : affV x = true ∧ affV y = true ∧ affV (affSum x 1 y) = true ∧ (addOf x y).1 = affSum x 1 y := by
  obtain ⟨h1, h2, h3⟩ := chk_ok h
  simp at h1
  exact ⟨h1.1, h1.2, h2, h3⟩
theorem add_eval {x y z : Aff} (h : (addOf x y).2 = true) (hz : (addOf x y).1 = z) (p : List Int) : evalOf z p = evalOf x p + evalOf y p := by
  obtain ⟨h1, h2, h3, h4⟩ := add_ok h
  rw [h4] at hz
  subst hz
  rw [evalOf_lin 1 h1 h2 h3 rfl p]; omega
end Go.Proofs.YtkhlaphegnldeaaDoor
