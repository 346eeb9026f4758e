/- spec.l1Place draws a short list of numbers; condition: what the reader's block holds. -/
import Derived.Test.YtkhlaphegnldeaaDoorRd
namespace Go.Proofs.YtkhlaphegnldeaaDoor
set_option linter.unusedVariables false
set_option linter.unusedSimpArgs false
open Go.RowKit

/-- A list of at most m numbers, in memory of the call's own; the reader has been asked at most q times more. -/
def DrawnR (m q g p : Nat) (w : World) (e : Ending) (w' : World) : Prop :=
  ∃ v xs p', e = .returned v ∧ OwnI w.heap.size w' v xs ∧ xs.length ≤ m ∧ Rd w' g p' ∧ p' ≤ p + q ∧ w.grownBy w' (some g)
theorem below_grown {w w' : World} {g : Nat} (h : Below g w w') (hs : ∀ k, k < w.heap.size → k ≠ g → w'.heap[k]? = w.heap[k]?) : w.grownBy w' (some g) := ⟨h.os, h.tape, h.output, h.size, fun k hk e => hs k hk (fun h => e (by rw [h]))⟩
/-- What was there, but for the reader, is as it was: so it stays behind what turns new blocks alone. -/
theorem grown_below {w w1 w2 : World} {g D : Nat} (h : w.grownBy w1 (some g)) (hb : Below D w1 w2) (hD : w.heap.size ≤ D) : w.grownBy w2 (some g) :=
  ⟨hb.os.trans h.os, hb.tape.trans h.tape, hb.output.trans h.output, Nat.le_trans h.size hb.size, fun k hk e => (hb.block k (Nat.lt_of_lt_of_le hk hD)).trans (h.block k hk e)⟩
theorem Rd.belowLe {w w' : World} {g p D : Nat} (h : Rd w g p) (hb : Below D w w') (hD : g < D) : Rd w' g p := h.belowLt hb hD

set_option maxHeartbeats 1600000 in
theorem l1Place_any (g p : Nat) (w : World) (h : Rd w g p) (hp : p < 1000000) :
    Calls Tryd.prog 33 #[.pointer (some ⟨g, 0, none⟩)] w (DrawnR 6 7 g p w) := by
  have hg := h.lt
  go_enter Tryd.func33, Tryd.ntmps33
  go_wp2_with fail
  refine (num_lit g p _ _ [2, 4, 3, 1, 0] _ _ (h.alloc _) (by omega) ?_ rfl rfl (by decide) (by decide)).mono ?_
  · simp
  rintro e w2 ⟨k, rfl, hk, r2, g2⟩
  have hk6 : 0 ≤ k ∧ k ≤ 4 := by simp at hk; omega
  obtain ⟨m, rfl⟩ : ∃ m : Nat, k = m := ⟨k.toNat, by omega⟩
  have o2 : OwnI w.heap.size w2 (.slice (some ⟨w.heap.size, 0, none⟩) 0 0) [] := (OwnI.empty w (Nat.le_refl _)).grown g2 (fun q hq e => by cases hq; have := Option.some.inj e; simp at this; omega)
  have gg2 : w.grownBy w2 (some g) := grown_trans (World.grownBy_alloc w _ _) g2
  clear g2 hk
  go_wp2_with fail
  go_loopw [3, 4] (fun vo vi wr => ∃ (k p' : Nat) (xs : List Int), vi = .int .i64 k ∧ OwnI w.heap.size wr vo xs ∧ xs.length + k ≤ 4 ∧ Rd wr g p' ∧ p' + k ≤ p + 5 ∧ w.grownBy wr (some g)) (fun _ vi _ => (intOf vi).toNat)
  case atStart => exact ⟨m, p + 1, [], rfl, o2, by simp; omega, r2, by omega, gg2⟩
  case round =>
    obtain ⟨k, p', xs, rfl, ho, hl, hr, hpp, hgr⟩ := hrel
    have hs := hgr.size
    cases k with
    | zero =>
      have e0 : ((0 : Nat) : Int) = 0 := rfl
      rw [e0]
      go_wp2_with fail
      refine (pick_any g p' 30 _ hr (by omega)).mono ?_
      rintro e w3 ⟨y, rfl, _, _, _, r3, g3⟩
      have o3 := ho.grown g3 (fun q hq e => by cases hq; have := (ho.lt _ e).1; omega)
      have gg3 := grown_trans hgr g3
      have hs3 := gg3.size
      clear g3
      cases hy : (y == 0)
      · go_wp2_with fail
        go_ret
        exact ⟨_, xs, p' + 1, rfl, o3, by omega, r3, by omega, gg3⟩
      · go_wp2_with fail
        refine (num_lit g (p' + 1) _ _ [10000, -10000, 9223372036854775807] _ _ r3 (by omega) rfl rfl rfl (by decide) (by decide)).mono ?_
        rintro e w4 ⟨z, rfl, _, r4, g4⟩
        have o4 := o3.grown g4 (fun q hq e => by cases hq; have := (o3.lt _ e).1; omega)
        have gg4 := grown_trans gg3 g4
        have hs4 := gg4.size
        clear g4
        go_wp2_with (at_builtin; go_must (refine wpList_appVI _ rfl _ _ rfl w.heap.size _ xs rfl w4 [z, 0] _ _ _ rfl rfl o4 rfl ?_ ?d0 ?d1 ?d2 ?d3); intro v' w5 o5 g5 b5 _)
        case d0 => rfl
        case d1 => rfl
        case d2 => omega
        case d3 => omega
        go_ret
        exact ⟨_, _, p' + 2, rfl, o5, by simp; omega, (r4.alloc _).belowLt b5 hg, by omega, grown_below (grown_trans gg4 (World.grownBy_alloc _ _ _)) b5 (Nat.le_refl _)⟩
    | succ k =>
      have e1 : ((k + 1 : Nat) : Int) = (k : Int) + 1 := by omega
      rw [e1]
      go_wp2_with fail
      refine (num_lit g p' _ _ [0, 1, 2, -1, 3, 50, 9999] _ _ hr (by omega) rfl rfl rfl (by decide) (by decide)).mono ?_
      rintro e w3 ⟨y, rfl, hy, r3, g3⟩
      have o3 := ho.grown g3 (fun q hq e => by cases hq; have := (ho.lt _ e).1; omega)
      have gg3 := grown_trans hgr g3
      have hs3 := gg3.size
      clear g3 hy
      go_wp2_with (at_builtin; go_must (refine wpList_app1I _ rfl _ _ rfl w.heap.size _ xs rfl w3 y rfl o3 rfl ?_ ?c1 ?c2); intro v' w4 o4 g4 b4 _)
      case c1 => omega
      case c2 => omega
      exact ⟨⟨k, p' + 1, xs ++ [y], rfl, o4, by simp; omega, (r3.alloc _).belowLt b4 hg, by omega, grown_below (grown_trans gg3 (World.grownBy_alloc _ _ _)) b4 (Nat.le_refl _)⟩, by simp [intOf]⟩
end Go.Proofs.YtkhlaphegnldeaaDoor
