/- Plain laws of affine expressions: negation; no condition. -/
import Derived.Test.YtkhlaphegnldeaaDoorAffPb
namespace Go.Proofs.YtkhlaphegnldeaaDoor
set_option linter.unusedVariables false
set_option linter.unusedSimpArgs false
open Go.RowKit

theorem affV_mk {x : Aff} (hl : x.1.length = 4) (hk : -99 ≤ x.2 ∧ x.2 ≤ 99) (hc : ∀ i, i < 4 → -9 ≤ x.1.getD i 0 ∧ x.1.getD i 0 ≤ 9) : affV x = true := by
  have hany : x.1.any (fun c => !inB c (-9) 9) = false := by
    rw [List.any_eq_false]
    intro c hm
    obtain ⟨i, hi⟩ := List.mem_iff_getElem?.1 hm
    have hlt : i < x.1.length := (List.getElem?_eq_some_iff.1 hi).1
    have h := hc i (by omega)
    rw [List.getD, hi] at h
    simp at h
    simp [inB, h.1, h.2]
  unfold affV
  rw [hany]
  simp [hl, inB, hk.1, hk.2]
theorem zero_at (i : Nat) : ([0, 0, 0, 0] : List Int).getD i 0 = 0 := by
  match i with
  | 0 => rfl
  | 1 => rfl
  | 2 => rfl
  | 3 => rfl
  | i + 4 => rfl
theorem scaleNeg_law {z : Aff} (hz : affV z = true) : (scaleOf z (-1)).2 = true ∧ addOf z (scaleOf z (-1)).1 = (([0, 0, 0, 0], 0), true) := by
  have hn : affV (affSum ([0, 0, 0, 0], 0) (-1) z) = true := by
    refine affV_mk rfl ?_ (fun i hi => ?_)
    · have := affV_const hz
      show -99 ≤ 0 + -1 * z.2 ∧ 0 + -1 * z.2 ≤ 99
      omega
    · rw [affSum_at _ _ _ i hi]
      have := affV_getD hz i
      have h0 : (([0, 0, 0, 0], 0) : Aff).1.getD i 0 = 0 := zero_at i
      rw [h0]; omega
  have e : scaleOf z (-1) = (affSum ([0, 0, 0, 0], 0) (-1) z, true) := by
    rw [scaleOf, hz]; simp [chkOf, hn, inB]
  rw [e]
  refine ⟨rfl, add_mk hz hn (by decide) (aff_ext rfl rfl (fun i hi => ?_) ?_)⟩
  · rw [affSum_at _ _ _ i hi, affSum_at _ _ _ i hi]
    have h0 : (([0, 0, 0, 0], 0) : Aff).1.getD i 0 = 0 := zero_at i
    rw [h0]; omega
  · show z.2 + 1 * (0 + -1 * z.2) = 0
    omega
theorem scale_eval {x z : Aff} {k : Int} (h : (scaleOf x k).2 = true) (hz : (scaleOf x k).1 = z) (p : List Int) : evalOf z p = k * evalOf x p := by
  obtain ⟨h1, h2, h3⟩ := scale_ok h
  rw [h3] at hz
  subst hz
  rw [evalOf_lin (x := ([0, 0, 0, 0], 0)) k (by decide) h1 h2 rfl p]
  have h0 : evalOf ([0, 0, 0, 0], 0) p = 0 := by
    cases hp : isPt p
    · exact evalOf_pt hp
    · rw [evalOf_val (by decide) hp]
      have key : ∀ j, evalTo [0, 0, 0, 0] p j = 0 := by
        intro j
        induction j with
        | zero => rfl
        | succ j ih => rw [evalTo, ih, zero_at]; simp
      show 0 + evalTo [0, 0, 0, 0] p _ = 0
      rw [key]; rfl
  omega
theorem scale_k {x : Aff} {k : Int} (h : (scaleOf x k).2 = true) : -99 ≤ k ∧ k ≤ 99 := by
  obtain ⟨h1, _, _⟩ := chk_ok h
  simp [inB] at h1
  exact h1.2
theorem scale_val {x z : Aff} {k : Int} (h : (scaleOf x k).2 = true) (hz : (scaleOf x k).1 = z) : affV z = true := by
  obtain ⟨_, h2, h3⟩ := scale_ok h
  rw [← hz, h3]; exact h2
end Go.Proofs.YtkhlaphegnldeaaDoor
