/- The walk of FnExactFitSize: it returns true and writes nothing that was there; condition: what the slice holds. -/
import Derived.Test.YtnjbfeejpnfdgaaInts
import Derived.Test.YtnjbfeejpnfdgaaFit
namespace Go.Proofs.Ytnjbfeejpnfdgaa
open Go.RowKit

theorem decide_selfF (xs : List Int) : decide (xs = xs) = true := by simp
set_option maxHeartbeats 800000 in
theorem lawFit (a : Option Addr) (n c : Nat) (xs : List Int) (w : World) (hx0 : n ≤ 1048576 → IntsA w a n c xs) (hwf : ∀ x ∈ xs, (Lit.int .i64 x).wf = true) :
    Calls Try.prog 5 #[.slice a n c] w fun e w' => e = .returned (.bool true) ∧ Below w.heap.size w w' := by
  by_cases hn : 1048576 < n
  · have h1 : decide ((1048576 : Int) < (n : Int)) = true := by simp; omega
    go_enter Try.func5, Try.ntmps5
    go_wp2_with fail
    go_ret
    exact ⟨rfl, Below.refl _ _⟩
  · have h1 : decide ((1048576 : Int) < (n : Int)) = false := by simp; omega
    have hx := hx0 (by omega)
    clear hx0
    have hwf' := hid hwf; clear hwf
    go_enter Try.func5, Try.ntmps5
    go_wp2_with fail
    refine (toIntS_any a n c xs _ hx).mono ?_
    rintro e w1 ⟨rfl, o1, b1⟩
    go_wp2_with fail
    refine (specFit_any _ n n xs _ (o1.ints hx.1)).mono ?_
    rintro e w2 ⟨rfl, c2⟩
    have b2 := b1.trans (c2.mono b1.size)
    go_wp2_with fail
    refine (toIntS_any a n c xs _ (hx.below b2)).mono ?_
    rintro e w3 ⟨rfl, o3, b3⟩
    have b3' := b2.trans (b3.mono b2.size)
    go_wp2_with fail
    refine (implFit_any _ n n xs _ (o3.ints hx.1) hwf'.out).mono ?_
    rintro e w4 ⟨rfl, b4⟩
    have o4 := o3.below b4 o3.lt
    have b4' := b3'.trans (b4.mono b3'.size)
    go_wp2_with fail
    refine (toIntS_any a n c xs _ (hx.below b4')).mono ?_
    rintro e w5 ⟨rfl, o5, b5⟩
    have o5' := o4.below b5 o4.lt
    have b5' := b4'.trans (b5.mono b4'.size)
    go_wp2_with fail
    refine (eqIntS_any _ _ n n n n xs xs _ (o5'.ints hx.1) (o5.ints hx.1)).mono ?_
    rintro e w6 ⟨rfl, q6⟩
    have b6 := b5'.trans (q6.below _)
    rw [decide_selfF]
    go_wp2_with fail
    go_ret
    exact ⟨rfl, b6⟩
end Go.Proofs.Ytnjbfeejpnfdgaa
