/- spec.DrawCarryLevel draws a short list of small numbers; condition: what the slice of bytes holds. -/
import Derived.Test.YtnjbfeejpnfdgaaDir
namespace Go.Proofs.Ytnjbfeejpnfdgaa
open Go.RowKit

def DrawnInts (m : Nat) (w : World) (e : Ending) (w' : World) : Prop :=
  ∃ v xs, e = .returned v ∧ OwnI w.heap.size w' v xs ∧ xs.length ≤ m ∧ Below w.heap.size w w'
set_option maxHeartbeats 1600000 in
theorem drawCarry_any (a : Option Addr) (n c : Nat) (bs : List Int) (w : World) (hx : Sl Sh.byte (fun b => b < w.heap.size) w (.slice a n c) bs) (hbs : ∀ x ∈ bs, 0 ≤ x ∧ x ≤ 255) :
    Calls Try.prog 32 #[.slice a n c] w (DrawnInts 6 w) := by
  have Hbs := hid hbs; clear hbs
  go_enter Try.func32, Try.ntmps32
  go_wp2_with fail
  refine (l16Open_any a n c bs w hx Hbs.out).mono ?_
  rintro e w1 ⟨rfl, r1, b1⟩
  go_wp2_with fail
  have hg1 := r1.lt
  refine (num_lit w.heap.size 0 _ _ [2, 3, 1, 0, 4, 6] _ _ (r1.alloc _) (by omega) ?_ rfl rfl (by decide) (by decide)).mono ?_
  · simp
  rintro e w2 ⟨k, rfl, hk, r2, g2⟩
  have hk6 : 0 ≤ k ∧ k ≤ 6 := by simp at hk; omega
  obtain ⟨m, rfl⟩ : ∃ m : Nat, k = m := ⟨k.toNat, by omega⟩
  have o2 : OwnI w1.heap.size w2 (.slice (some ⟨w1.heap.size, 0, none⟩) 0 0) [] := (OwnI.empty w1 (Nat.le_refl _)).grown g2 (fun q hq e => by cases hq; have := Option.some.inj e; simp at this; omega)
  have hb1 := b1.size
  have b2 : Below w.heap.size w w2 := (b1.alloc hb1 _).grown g2 (by rw [World.size_alloc]; omega) (fun q hq => by cases hq; exact Nat.le_refl _)
  have s2 : w1.heap.size ≤ w2.heap.size := Nat.le_trans (by rw [World.size_alloc]; omega) g2.size
  clear g2 hk
  go_wp2_with fail
  go_loopw [4, 5] (fun vo vi wr => ∃ (k p : Nat) (xs : List Int), vi = .int .i64 k ∧ OwnI w1.heap.size wr vo xs ∧ xs.length + k ≤ 6 ∧ Rd wr w.heap.size p ∧ p + k ≤ 7 ∧ Below w.heap.size w wr ∧ w1.heap.size ≤ wr.heap.size) (fun _ vi _ => (intOf vi).toNat)
  case atStart => exact ⟨m, 1, [], rfl, o2, by simp; omega, r2, by omega, b2, s2⟩
  case round =>
    obtain ⟨k, p, xs, rfl, ho, hl, hr, hp, hb, hs⟩ := hrel
    cases k with
    | zero =>
      have e0 : ((0 : Nat) : Int) = 0 := rfl
      rw [e0]
      go_wp2_with fail
      go_ret
      exact ⟨_, xs, rfl, ho.base hb1, by omega, hb⟩
    | succ k =>
      have e1 : ((k + 1 : Nat) : Int) = (k : Int) + 1 := by omega
      rw [e1]
      go_wp2_with fail
      refine (num_lit w.heap.size p _ _ [0, 0, 1, -1, 0, 2] _ _ hr (by omega) rfl rfl rfl (by decide) (by decide)).mono ?_
      rintro e w3 ⟨y, rfl, hy, r3, g3⟩
      have o3 := ho.grown g3 (fun q hq e => by cases hq; have := (ho.lt _ e).1; omega)
      have b3 := hb.grown g3 hb.size (fun q hq => by cases hq; exact Nat.le_refl _)
      have s3 := Nat.le_trans hs g3.size
      clear g3 hy
      go_wp2_with (at_builtin; go_must (refine wpList_app1I _ rfl _ _ rfl w1.heap.size _ xs rfl w3 y rfl o3 rfl ?_ ?c1 ?c2); intro v' w4 o4 g4 b4 _)
      case c1 => omega
      case c2 => omega
      exact ⟨⟨k, p + 1, xs ++ [y], rfl, o4, by simp; omega, (r3.alloc _).belowLt b4 hg1, by omega, (b3.alloc b3.size _).trans (b4.mono hb1), Nat.le_trans s3 (Nat.le_trans (by simp) b4.size)⟩, by simp [intOf]⟩

set_option maxHeartbeats 400000 in
theorem drawDir_any (a : Option Addr) (n c : Nat) (bs : List Int) (w : World) (hx : Sl Sh.byte (fun b => b < w.heap.size) w (.slice a n c) bs) (hbs : ∀ x ∈ bs, 0 ≤ x ∧ x ≤ 255) :
    Calls Try.prog 19 #[.slice a n c] w (DrawnInts 6 w) := by
  have Hbs := hid hbs; clear hbs
  go_enter Try.func19, Try.ntmps19
  go_wp2_with fail
  refine (drawCarry_any a n c bs w hx Hbs.out).mono ?_
  rintro e w1 ⟨v, xs, rfl, o, hl, b⟩
  go_wp2_with fail
  go_ret
  exact ⟨v, xs, rfl, o, hl, b⟩
end Go.Proofs.Ytnjbfeejpnfdgaa
