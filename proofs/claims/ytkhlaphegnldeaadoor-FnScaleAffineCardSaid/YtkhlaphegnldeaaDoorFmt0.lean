/- The text of the affine expression 0; condition: what the argument holds. -/
import Derived.Test.YtkhlaphegnldeaaDoorAffC
namespace Go.Proofs.YtkhlaphegnldeaaDoor
set_option linter.unusedVariables false
set_option linter.unusedSimpArgs false
open Go.RowKit

set_option maxHeartbeats 3200000 in
theorem affText0_any (P : Nat → Prop) (v : Value) (w : World) (h : AffR P w v ([0, 0, 0, 0], 0)) :
    Calls Tryd.prog 22 #[v] w fun e w' => e = .returned (.string ⟨#[48]⟩) ∧ Below w.heap.size w w' := by
  obtain ⟨a, c, rfl, _, _, hs⟩ := h.shape
  simp only [List.length_cons, List.length_nil, Nat.zero_add, Nat.reduceAdd] at hs ⊢
  go_enter Tryd.func22, Tryd.ntmps22
  go_wp2_with fail
  have hs' := hs.alloc (.cells #[.slice a 4 c, .int .i64 0] 25)
  obtain ⟨b, off, rfl, _, hb, hcell⟩ := hs.intAt (by decide)
  have Hcell := hid hcell
  have hbne : b ≠ w.heap.size := by omega
  have hbne2 : b ≠ w.heap.size + 1 := by omega
  clear hcell hs' hs h
  go_loop [5, 6, 12] (fun _ _ i => ∃ j : Nat, j ≤ 4 ∧ i = .int .i64 j) (fun _ _ i => 4 - (intOf i).toNat)
  case atStart => exact ⟨0, Nat.zero_le _, rfl⟩
  case round =>
    obtain ⟨j, hj, rfl⟩ := hrel
    by_cases hlt : j < 4
    · have q1 : w.cell? ⟨b, off + j, none⟩ = some (.int .i64 0) := by
        have := Hcell.out j hlt
        match j, hlt with
        | 0, _ => exact this
        | 1, _ => exact this
        | 2, _ => exact this
        | 3, _ => exact this
      have hj4 : (j : Int) < 4 := by omega
      go_wp2_with fail
      exact ⟨⟨j + 1, by omega, rfl⟩, by simp [intOf]; omega⟩
    · have hje : j = 4 := by omega
      subst hje
      go_wp2_with fail
      go_ret
      exact ⟨rfl, ((Below.refl _ _).alloc (Nat.le_refl _) _).alloc (by simp) _⟩
set_option maxHeartbeats 1600000 in
theorem fmt0_any (P : Nat → Prop) (v : Value) (w : World) (h : AffR P w v ([0, 0, 0, 0], 0)) :
    Calls Tryd.prog 8 #[v] w fun e w' => e = .returned (.string ⟨#[48]⟩) ∧ Below w.heap.size w w' := by
  obtain ⟨a, c, rfl, _, _, hs⟩ := h.shape
  simp only [List.length_cons, List.length_nil, Nat.zero_add, Nat.reduceAdd] at h hs ⊢
  have hb := (Below.refl w.heap.size w).alloc (Nat.le_refl _) (.cells #[.slice a 4 c, .int .i64 0] 25)
  have h1 := h.below hb
  have B := Box2.new w (.slice a 4 c) (.int .i64 0) 25
  have Hval := hid (show affV ([0, 0, 0, 0], 0) = true by decide)
  go_enter Tryd.func8, Tryd.ntmps8
  go_wp2_with fail
  generalize w.alloc (.cells #[.slice a 4 c, .int .i64 0] 25) = W at hb h1 B
  refine (implAffV_any P _ ([0, 0, 0, 0], 0) W h1).mono ?_
  rintro e w1 ⟨rfl, b1⟩
  rw [Hval.out]
  have h2 := h1.below b1
  obtain ⟨p0, p1, _, _, p4⟩ := B.below b1
  have hbb := hb.trans (b1.mono hb.size)
  clear h h1 hs B b1 hb
  go_wp2_with fail
  refine (affText0_any P _ w1 h2).mono ?_
  rintro e w2 ⟨rfl, b2⟩
  have hbc := hbb.trans (b2.mono hbb.size)
  clear b2 h2 hbb
  go_wp2_with fail
  go_ret
  exact ⟨rfl, hbc⟩
end Go.Proofs.YtkhlaphegnldeaaDoor
