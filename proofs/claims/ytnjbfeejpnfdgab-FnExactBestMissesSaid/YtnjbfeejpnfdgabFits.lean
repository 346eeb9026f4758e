/- The small tests on traces and caches; no condition. -/
import Derived.Test.YtnjbfeejpnfdgabBase
namespace Go.Proofs.Ytnjbfeejpnfdgab
open Go.RowKit

theorem isTrace_any (a : Option Addr) (n c : Nat) (w : World) : Calls Try.prog 15 #[.slice a n c] w fun e w' => e = .returned (.bool (decide (n ≤ 600))) ∧ w = w' := by
  go_enter Try.func15, Try.ntmps15
  go_wp2
  go_ret
  exact ⟨ret_bool (by simp; omega), rfl⟩

def fitsB (n : Nat) (size : Int) : Bool := decide (n ≤ 600 ∧ 0 ≤ size ∧ size ≤ 40)
def inB (n lo hi : Int) : Bool := decide (lo ≤ n ∧ n ≤ hi)
set_option maxHeartbeats 400000 in
theorem within_any (n lo hi : Int) (w : World) : Calls Try.prog 16 #[.int .i64 n, .int .i64 lo, .int .i64 hi] w fun e w' => e = .returned (.bool (inB n lo hi)) ∧ w = w' := by
  by_cases h1 : lo ≤ n
  · have h1' : decide (lo ≤ n) = true := by simpa using h1
    by_cases h2 : n ≤ hi
    · have h2' : decide (n ≤ hi) = true := by simpa using h2
      have hf : inB n lo hi = true := by simp [inB, h1, h2]
      rw [hf]
      clear hf
      go_enter Try.func16, Try.ntmps16
      go_wp2
      go_ret
      exact ⟨rfl, rfl⟩
    · have h2' : decide (n ≤ hi) = false := by simpa using h2
      have hf : inB n lo hi = false := by simp [inB, h2]
      rw [hf]
      clear hf
      go_enter Try.func16, Try.ntmps16
      go_wp2
      go_ret
      exact ⟨rfl, rfl⟩
  · have h1' : decide (lo ≤ n) = false := by simpa using h1
    have hf : inB n lo hi = false := by simp [inB, h1]
    rw [hf]
    clear hf
    go_enter Try.func16, Try.ntmps16
    go_wp2
    go_ret
    exact ⟨rfl, rfl⟩
set_option maxHeartbeats 400000 in
theorem isCache_any (a : Option Addr) (n c : Nat) (size : Int) (w : World) : Calls Try.prog 11 #[.slice a n c, .int .i64 size] w fun e w' => e = .returned (.bool (fitsB n size)) ∧ w = w' := by
  by_cases h1 : n ≤ 600
  · have h1' : decide (n ≤ 600) = true := by simpa using h1
    have hf : fitsB n size = inB size 0 40 := by simp [fitsB, inB, h1]
    rw [hf]
    clear hf
    go_enter Try.func11, Try.ntmps11
    go_wp2_with (first
      | (go_at_call 15; refine (isTrace_any _ _ _ _).mono ?_; rintro e w' ⟨rfl, rfl⟩)
      | (go_at_call 16; refine (within_any _ _ _ _).mono ?_; rintro e w' ⟨rfl, rfl⟩))
    go_ret
    exact ⟨rfl, rfl⟩
  · have h1' : decide (n ≤ 600) = false := by simpa using h1
    have hf : fitsB n size = false := by simp [fitsB, h1]
    rw [hf]
    clear hf
    go_enter Try.func11, Try.ntmps11
    go_wp2_with (go_at_call 15; refine (isTrace_any _ _ _ _).mono ?_; rintro e w' ⟨rfl, rfl⟩)
    go_ret
    exact ⟨rfl, rfl⟩
set_option maxHeartbeats 400000 in
theorem l10Fits_any (a : Option Addr) (n c : Nat) (size : Int) (w : World) : Calls Try.prog 8 #[.slice a n c, .int .i64 size] w fun e w' => e = .returned (.bool (fitsB n size)) ∧ w = w' := by
  by_cases h1 : n ≤ 600
  · have h1' : decide ((n : Int) ≤ 600) = true := by simp; omega
    by_cases h2 : 0 ≤ size
    · have h2' : decide (0 ≤ size) = true := by simpa using h2
      have hf : fitsB n size = decide (size ≤ 40) := by simp [fitsB, h1, h2]
      rw [hf]
      clear hf
      go_enter Try.func8, Try.ntmps8
      go_wp2
      go_ret
      exact ⟨rfl, rfl⟩
    · have h2' : decide (0 ≤ size) = false := by simpa using h2
      have hf : fitsB n size = false := by simp [fitsB, h2]
      rw [hf]
      clear hf
      go_enter Try.func8, Try.ntmps8
      go_wp2
      go_ret
      exact ⟨rfl, rfl⟩
  · have h1' : decide ((n : Int) ≤ 600) = false := by simp; omega
    have hf : fitsB n size = false := by simp [fitsB, h1]
    rw [hf]
    clear hf
    go_enter Try.func8, Try.ntmps8
    go_wp2
    go_ret
    exact ⟨rfl, rfl⟩
end Go.Proofs.Ytnjbfeejpnfdgab
