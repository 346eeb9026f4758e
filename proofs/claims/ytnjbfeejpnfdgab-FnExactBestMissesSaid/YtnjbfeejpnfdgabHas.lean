/- spec.l6Has: whether a list has a number; condition: what the slice holds. -/
import Derived.Test.YtnjbfeejpnfdgabBase
namespace Go.Proofs.Ytnjbfeejpnfdgab
open Go.RowKit

theorem contains_step {xs : List Int} {k : Nat} {x : Int} (h : (xs.take k).contains x = false) (hk : k < xs.length) (hx : (xs[k]?.getD 0 == x) = false) : (xs.take (k + 1)).contains x = false := by
  rw [List.take_succ_eq_append_getElem hk]
  rw [List.getElem?_eq_getElem hk] at hx
  simp only [List.contains_eq_mem, List.mem_append, List.mem_singleton, decide_eq_false_iff_not, not_or] at h ⊢
  simp only [Option.getD_some, beq_eq_false_iff_ne] at hx
  exact ⟨h, fun e => hx e.symm⟩
theorem contains_at {xs : List Int} {k : Nat} {x : Int} (hk : k < xs.length) (hx : (xs[k]?.getD 0 == x) = true) : xs.contains x = true := by
  rw [List.getElem?_eq_getElem hk] at hx
  simp only [Option.getD_some, beq_iff_eq] at hx
  rw [List.contains_eq_mem, decide_eq_true_iff, ← hx]
  exact List.getElem_mem hk

set_option maxHeartbeats 400000 in
theorem l6Has_any (a : Option Addr) (n c : Nat) (x : Int) (xs : List Int) (w : World) (hx : IntsA w a n c xs) :
    Calls Try.prog 9 #[.slice a n c, .int .i64 x] w fun e w' => e = .returned (.bool (xs.contains x)) ∧ w = w' := by
  have hle := hx.le
  go_enter Try.func9, Try.ntmps9
  go_wp2
  go_loop [5] (fun i => ∃ k : Nat, k ≤ n ∧ i = .int .i64 k ∧ Hid ((xs.take k).contains x = false)) (fun i => n - (intOf i).toNat)
  case atStart => exact ⟨0, Nat.zero_le _, rfl, rfl⟩
  case round =>
    obtain ⟨k, hk, rfl, ht⟩ := hrel
    by_cases hlt : k < n
    · obtain ⟨ba, oa, ha, _, hca⟩ := hx.at (by omega)
      rw [ha]
      have h1 := hca k hlt
      clear hca ha
      go_wp2
      · have he := ‹(xs[k]?.getD 0 == x) = true›
        go_ret
        exact ⟨ret_bool (by simpa using (contains_at (by rw [hx.1]; omega) he).symm), rfl⟩
      · have he := ‹(xs[k]?.getD 0 == x) = false›
        exact ⟨⟨k + 1, by omega, rfl, contains_step ht (by rw [hx.1]; omega) he⟩, by simp [intOf]; omega⟩
    · have : k = n := by omega
      subst this
      go_wp2
      go_ret
      exact ⟨ret_bool (by have h := ht.out; rw [List.take_of_length_le (by rw [hx.1]; omega)] at h; simpa using h), rfl⟩
end Go.Proofs.Ytnjbfeejpnfdgab
