/- impl.within; no condition. -/
import Derived.Test.YtkhlaphegnldeaaDoorBase
namespace Go.Proofs.YtkhlaphegnldeaaDoor
set_option linter.unusedVariables false
set_option linter.unusedSimpArgs false
open Go.RowKit

def inB (n lo hi : Int) : Bool := decide (lo ≤ n ∧ n ≤ hi)
set_option maxHeartbeats 400000 in
theorem within_any (n lo hi : Int) (w : World) : Calls Tryd.prog 39 #[.int .i64 n, .int .i64 lo, .int .i64 hi] w fun e w' => e = .returned (.bool (inB n lo hi)) ∧ w = w' := by
  by_cases h1 : lo ≤ n
  · have h1' : decide (lo ≤ n) = true := by simpa using h1
    by_cases h2 : n ≤ hi
    · have h2' : decide (n ≤ hi) = true := by simpa using h2
      have hf : inB n lo hi = true := by simp [inB, h1, h2]
      rw [hf]
      clear hf
      go_enter Tryd.func39, Tryd.ntmps39
      go_wp2
      go_ret
      exact ⟨rfl, rfl⟩
    · have h2' : decide (n ≤ hi) = false := by simpa using h2
      have hf : inB n lo hi = false := by simp [inB, h2]
      rw [hf]
      clear hf
      go_enter Tryd.func39, Tryd.ntmps39
      go_wp2
      go_ret
      exact ⟨rfl, rfl⟩
  · have h1' : decide (lo ≤ n) = false := by simpa using h1
    have hf : inB n lo hi = false := by simp [inB, h1]
    rw [hf]
    clear hf
    go_enter Tryd.func39, Tryd.ntmps39
    go_wp2
    go_ret
    exact ⟨rfl, rfl⟩
end Go.Proofs.YtkhlaphegnldeaaDoor
