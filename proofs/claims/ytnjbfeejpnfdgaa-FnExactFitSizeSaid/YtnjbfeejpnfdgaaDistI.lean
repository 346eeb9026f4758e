/- impl.DistinctCells counts the different numbers; condition: what the slice holds. -/
import Derived.Test.YtnjbfeejpnfdgaaDistS
namespace Go.Proofs.Ytnjbfeejpnfdgaa
open Go.RowKit Go.Maps

theorem Try.lawInt : Keyed Try.prog 3 := int_keyed Try.underlying3
theorem isTrace_any (a : Option Addr) (n c : Nat) (w : World) : Calls Try.prog 31 #[.slice a n c] w fun e w' => e = .returned (.bool (decide (n ≤ 600))) ∧ w = w' := by
  go_enter Try.func31, Try.ntmps31
  go_wp2
  go_ret
  exact ⟨ret_bool (by simp; omega), rfl⟩

set_option maxHeartbeats 400000 in
theorem implDistinct_big (a : Option Addr) (n c : Nat) (w : World) (h : ¬ n ≤ 600) :
    Calls Try.prog 11 #[.slice a n c] w fun e w' => e = .returned (.int .i64 0) ∧ w = w' := by
  have h1 : decide (n ≤ 600) = false := by simp; omega
  go_enter Try.func11, Try.ntmps11
  go_wp2_with (go_at_call 31; refine (isTrace_any a n c _).mono ?_; rintro e w' ⟨rfl, rfl⟩)
  go_ret
  exact ⟨rfl, rfl⟩

set_option maxHeartbeats 800000 in
theorem implDistinct_small (a : Option Addr) (n c : Nat) (xs : List Int) (w : World) (hx : IntsA w a n c xs) (h6 : n ≤ 600) (hwf : ∀ x ∈ xs, (Lit.int .i64 x).wf = true) :
    Calls Try.prog 11 #[.slice a n c] w fun e w' => e = .returned (.int .i64 (uniq xs).length) ∧ Below w.heap.size w w' := by
  have h1 : decide (n ≤ 600) = true := by simp; omega
  have hmm := @run_makeMap Try.prog
  go_enter Try.func11, Try.ntmps11
  go_wp2_with (go_at_call 31; refine (isTrace_any a n c _).mono ?_; rintro e w' ⟨rfl, rfl⟩)
  go_loopw [12] (fun i wr => ∃ k : Nat, k ≤ n ∧ i = .int .i64 k ∧ wr.ownsMap Try.prog 3 (plainElem Try.prog 4) w.heap.size k (setI (xs.take k)) ∧ Below w.heap.size w wr) (fun i _ => n - (intOf i).toNat)
  case atStart => exact ⟨0, Nat.zero_le _, rfl, by rw [List.take_zero, setI_nil]; exact World.ownsMap_made _ _ _ _, (Below.refl _ _).alloc (Nat.le_refl _) _⟩
  case round =>
    obtain ⟨k, hk, rfl, hown, hb⟩ := hrel
    clear hmm
    by_cases hlt : k < n
    · obtain ⟨ba, oa, ha, hlb, hca⟩ := hx.at (by omega)
      have h2 : wr.cell? ⟨ba, oa + k, none⟩ = _ := (hb.cell hlb).trans (hca k hlt)
      subst ha
      have ht := take_snoc (xs := xs) (k := k) (by rw [hx.1]; exact hlt)
      have hkey : keyOf Try.prog 3 (.int .i64 (xs[k]?.getD 0)) = some (.int .i64 (xs[k]?.getD 0)) := keyOf_int_mk Try.underlying3 (hwf _ (by rw [List.getElem?_eq_getElem (by rw [hx.1]; exact hlt)]; exact List.getElem_mem _))
      have HT := hid ht; clear ht hca
      go_wp2_with (at_mapUpdate; refine wpList_mapUpdate_own _ rfl _ _ _ 36 rfl 3 4 Try.lawInt Try.underlying36 (plainElem (H := Unit) Try.prog 4) w.heap.size k _ rfl hown (by unfold maxLen; omega) _ _ _ rfl rfl hkey _ [] (plainElem_bool Try.underlying4 true) ?_; intro w1 hown1 hgrow1)
      exact ⟨⟨k + 1, by omega, rfl, by rw [HT.out, setI_snoc]; exact hown1, hb.grown hgrow1 hb.size (fun j hj => by cases hj; exact Nat.le_refl _)⟩, by simp [intOf]; omega⟩
    · have : k = n := by omega
      subst this
      go_wp2_with (at_len; refine wpList_len_own _ rfl _ 36 rfl 3 4 Try.underlying36 _ w.heap.size k _ rfl hown ?_)
      go_ret
      exact ⟨ret_int (by rw [size_setI, List.take_of_length_le (by rw [hx.1]; omega)]), hb⟩
theorem implDistinct_any (a : Option Addr) (n c : Nat) (xs : List Int) (w : World) (hx : IntsA w a n c xs) (hwf : ∀ x ∈ xs, (Lit.int .i64 x).wf = true) :
    Calls Try.prog 11 #[.slice a n c] w fun e w' => e = .returned (.int .i64 (dist xs)) ∧ Below w.heap.size w w' := by
  unfold dist
  rw [hx.1]
  by_cases h : n ≤ 600
  · rw [if_pos h]; exact implDistinct_small a n c xs w hx h hwf
  · rw [if_neg h]; exact (implDistinct_big a n c w h).mono fun e w' ⟨he, hw⟩ => ⟨he, hw ▸ Below.refl _ _⟩
end Go.Proofs.Ytnjbfeejpnfdgaa
