/- spec.DistinctCells counts the different numbers; condition: what the slice holds. -/
import Derived.Test.YtnjbfeejpnfdgaaHas
import Derived.Test.YtnjbfeejpnfdgaaUniq
namespace Go.Proofs.Ytnjbfeejpnfdgaa
open Go.RowKit

def dist (xs : List Int) : Int := if xs.length ≤ 600 then (uniq xs).length else 0

set_option maxHeartbeats 400000 in
theorem specDistinct_big (a : Option Addr) (n c : Nat) (w : World) (h : ¬ n ≤ 600) (hn : n ≤ 17592186044416) :
    Calls Try.prog 9 #[.slice a n c] w fun e w' => e = .returned (.int .i64 0) ∧ w = w' := by
  have h0 : decide ((0 : Int) < (n : Int)) = true := by simp; omega
  have h1 : decide ((n : Int) ≤ 600) = false := by simp; omega
  go_enter Try.func9, Try.ntmps9
  go_wp2
  refine wp_loop_rounds 1 ?_
  rw [rounds_succ]
  go_wp2
  go_ret
  exact ⟨rfl, rfl⟩

set_option maxHeartbeats 800000 in
theorem specDistinct_small (a : Option Addr) (n c : Nat) (xs : List Int) (w : World) (hx : IntsA w a n c xs) (h6 : n ≤ 600) :
    Calls Try.prog 9 #[.slice a n c] w fun e w' => e = .returned (.int .i64 (uniq xs).length) ∧ Quiet w w' := by
  have h1 : decide ((n : Int) ≤ 600) = true := by simp; omega
  have hcap := hx.2.1
  go_enter Try.func9, Try.ntmps9
  go_wp2
  go_loopw [3, 4] (fun t i wr => ∃ k : Nat, k ≤ n ∧ i = .int .i64 k ∧ t = .int .i64 ((uniq (xs.take k)).length : Int) ∧ Quiet w wr) (fun _ i _ => n - (intOf i).toNat)
  case atStart => exact ⟨0, Nat.zero_le _, rfl, by simp [uniq], Quiet.refl w⟩
  case round =>
    obtain ⟨k, hk, rfl, rfl, hq⟩ := hrel
    have hu := uniq_le (xs.take k)
    have hl : (xs.take k).length ≤ k := List.length_take_le _ _
    by_cases hlt : k < n
    · have hxk := (hx.quiet hq).take k (by omega)
      have ht := take_snoc (xs := xs) (k := k) (by rw [hx.1]; exact hlt)
      obtain ⟨ba, oa, ha, _, hca⟩ := hx.at (by omega)
      have h2 : wr.cell? _ = _ := (hq.cell _).trans (hca k hlt)
      subst ha
      clear hca
      have HT := hid ht; clear ht
      have hkc : k ≤ c := by omega
      have hkc' : (k : Int) ≤ (c : Int) := by omega
      have hkc'' : ¬ c < k := by omega
      have hk0 : (0 : Int) ≤ (k : Int) := by omega
      go_wp2_with fail
      go_quiet ((go_at_call 30; exact Calls.of_same (l6Has_any _ k c _ _ _ hxk.drewN)))
      go_wp2
      · have hc : (xs.take k).contains (xs[k]?.getD 0) = false := by have := ‹(!decide (xs[k]?.getD 0 ∈ List.take k xs)) = true›; simpa using this
        exact ⟨⟨k + 1, by omega, rfl, int_i64 (by rw [HT.out, uniq_fresh hc]; omega), hq.drewN⟩, by simp [intOf]; omega⟩
      · have hc : (xs.take k).contains (xs[k]?.getD 0) = true := by have := ‹(!decide (xs[k]?.getD 0 ∈ List.take k xs)) = false›; simpa using this
        exact ⟨⟨k + 1, by omega, rfl, int_i64 (by rw [HT.out, uniq_old hc]), hq.drewN⟩, by simp [intOf]; omega⟩
    · have : k = n := by omega
      subst this
      go_wp2
      go_ret
      exact ⟨ret_int (by rw [List.take_of_length_le (by rw [hx.1]; omega)]), hq⟩
theorem specDistinct_any (a : Option Addr) (n c : Nat) (xs : List Int) (w : World) (hx : IntsA w a n c xs) :
    Calls Try.prog 9 #[.slice a n c] w fun e w' => e = .returned (.int .i64 (dist xs)) ∧ Quiet w w' := by
  unfold dist
  rw [hx.1]
  by_cases h : n ≤ 600
  · rw [if_pos h]; exact specDistinct_small a n c xs w hx h
  · rw [if_neg h]; exact (specDistinct_big a n c w h hx.le).mono fun e w' ⟨he, hw⟩ => ⟨he, hw ▸ Quiet.refl w⟩
end Go.Proofs.Ytnjbfeejpnfdgaa
