/- The walk of FnExactBestMisses: it returns true and writes nothing that was there; condition: what the slice holds. -/
import Derived.Test.YtnjbfeejpnfdgabInts
import Derived.Test.YtnjbfeejpnfdgabBestI
namespace Go.Proofs.Ytnjbfeejpnfdgab
open Go.RowKit

theorem decide_selfB (xs : List Int) : decide (xs = xs) = true := by simp
set_option maxHeartbeats 800000 in
theorem lawBest (a : Option Addr) (n c : Nat) (size : Int) (xs : List Int) (w : World) (hx0 : n ≤ 1048576 → IntsA w a n c xs) :
    Calls Try.prog 3 #[.slice a n c, .int .i64 size] w fun e w' => e = .returned (.bool true) ∧ Below w.heap.size w w' := by
  by_cases hn : 1048576 < n
  · have h1 : decide ((1048576 : Int) < (n : Int)) = true := by simp; omega
    go_enter Try.func3, Try.ntmps3
    go_wp2_with fail
    go_ret
    exact ⟨rfl, Below.refl _ _⟩
  · have h1 : decide ((1048576 : Int) < (n : Int)) = false := by simp; omega
    have hx := hx0 (by omega)
    clear hx0
    go_enter Try.func3, Try.ntmps3
    go_wp2_with fail
    refine (toIntS_any a n c xs _ hx).mono ?_
    rintro e w1 ⟨rfl, o1, b1⟩
    go_wp2_with fail
    refine (specBest_any _ n n size xs _ (ints_sl (o1.ints hx.1) (fun e => by cases e))).mono ?_
    rintro e w2 ⟨rfl, c2⟩
    have b2 := b1.trans (c2.mono b1.size)
    go_wp2_with fail
    refine (toIntS_any a n c xs _ (hx.below b2)).mono ?_
    rintro e w3 ⟨rfl, o3, b3⟩
    have b3' := b2.trans (b3.mono b2.size)
    go_wp2_with fail
    refine (implBest_any _ n n size xs _ (ints_sl (o3.ints hx.1) (fun e => by cases e))).mono ?_
    rintro e w4 ⟨rfl, b4⟩
    have o4 := o3.below b4 o3.lt
    have b4' := b3'.trans (b4.mono b3'.size)
    go_wp2_with fail
    refine (toIntS_any a n c xs _ (hx.below b4')).mono ?_
    rintro e w5 ⟨rfl, o5, b5⟩
    have o5' := o4.below b5 o4.lt
    have b5' := b4'.trans (b5.mono b4'.size)
    go_wp2_with fail
    refine (eqIntS_any _ _ n n n n xs xs _ (o5'.ints hx.1) (o5.ints hx.1)).mono ?_
    rintro e w6 ⟨rfl, q6⟩
    have b6 := b5'.trans (q6.below _)
    rw [decide_selfB]
    go_wp2_with fail
    go_ret
    exact ⟨rfl, b6⟩
end Go.Proofs.Ytnjbfeejpnfdgab
