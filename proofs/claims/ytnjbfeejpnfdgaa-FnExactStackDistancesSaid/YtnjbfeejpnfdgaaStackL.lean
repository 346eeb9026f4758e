/- The walk of FnExactStackDistances; condition: what the slice holds. -/
import Derived.Test.YtnjbfeejpnfdgaaStackI
namespace Go.Proofs.Ytnjbfeejpnfdgaa
open Go.RowKit

theorem OwnS.shape2 {w : World} {B : Nat} {v : Value} {xs : List Int} (h : OwnS w B v xs) : ∃ a cap, v = .slice a xs.length cap := by
  rcases h.2 with ⟨rfl, h0⟩ | ⟨g, cap, cur, rfl, _⟩
  · exact ⟨none, 0, by rw [h0]⟩
  · exact ⟨_, cap, rfl⟩
theorem Dis.lo {w : World} {B g n c : Nat} {v : Value} {xs : List Int} (h : OwnS w B v xs) (hg : g < B) : Dis v (.slice (some ⟨g, 0, none⟩) n c) := by
  intro k hk e
  have := (h.lt k hk).1
  simp [Value.ownBlock] at e
  omega
theorem Dis.hi {w : World} {B g n c : Nat} {v : Value} {xs : List Int} (h : OwnS w B v xs) (hg : w.heap.size ≤ g) : Dis v (.slice (some ⟨g, 0, none⟩) n c) := by
  intro k hk e
  have := (h.lt k hk).2
  simp [Value.ownBlock] at e
  omega
theorem toInts_size {w w' : World} {n : Nat} {xs : List Int} (_ : Below w.heap.size w w') (h : OwnInts w' w.heap.size n xs) : w.heap.size < w'.heap.size := h.lt
theorem marked_len {w : World} {B n c : Nat} {a : Option Addr} {k : Int} (h : OwnS w B (.slice a n c) (marks k n)) : OwnS w B (.slice a n c) (marks k n) := h
theorem decide_self' (xs : List Int) : decide (xs = xs) = true := by simp
set_option maxHeartbeats 800000 in
theorem lawStack (a : Option Addr) (n c : Nat) (xs : List Int) (w : World) (hx0 : n ≤ 1048576 → IntsA w a n c xs) (hwf : ∀ x ∈ xs, (Lit.int .i64 x).wf = true) :
    Calls Try.prog 4 #[.slice a n c] w fun e w' => e = .returned (.bool true) ∧ Below w.heap.size w w' := by
  by_cases hn : 1048576 < n
  · have h1 : decide ((1048576 : Int) < (n : Int)) = true := by simp; omega
    go_enter Try.func4, Try.ntmps4
    go_wp2_with fail
    go_ret
    exact ⟨rfl, Below.refl _ _⟩
  · have h1 : decide ((1048576 : Int) < (n : Int)) = false := by simp; omega
    have hx := hx0 (by omega)
    clear hx0
    have hwf' := hid hwf; clear hwf
    have hdl := dists_length xs
    go_enter Try.func4, Try.ntmps4
    go_wp2_with fail
    refine (toIntS_any a n c xs _ hx).mono ?_
    rintro e w1 ⟨rfl, o1, b1⟩
    go_wp2_with fail
    refine (specStack_any _ n n xs _ (o1.ints hx.1)).mono ?_
    rintro e w2 ⟨⟨v2, rfl, o2⟩, b2⟩
    obtain ⟨a2, c2, rfl⟩ := o2.shape2
    have b2' := b1.trans (b2.mono b1.size)
    go_wp2_with fail
    refine (toIntS_any a n c xs _ (hx.below b2')).mono ?_
    rintro e w3 ⟨rfl, o3, b3⟩
    have b3' := b2'.trans (b3.mono b2'.size)
    have o2_3 := o2.below' b3
    go_wp2_with fail
    refine (implStack_any _ n n xs _ (o3.ints hx.1) hwf'.out).mono ?_
    rintro e w4 ⟨⟨v4, rfl, o4⟩, b4⟩
    obtain ⟨a4, c4, rfl⟩ := o4.shape2
    have b4' := b3'.trans (b4.mono b3'.size)
    have o2_4 := o2_3.below' b4
    have o3_4 := o3.below b4 o3.lt
    go_wp2_with fail
    refine (eqIntS_any _ _ _ _ _ _ (dists xs) (dists xs) _ (o4.intsA (by omega)) (o2_4.intsA (by omega))).mono ?_
    rintro e w5 ⟨rfl, q5⟩
    rw [decide_self']
    have b5' := b4'.trans (q5.below _)
    have o4_5 := o4.below' (q5.below _)
    have o2_5 := o2_4.below' (q5.below _)
    have o3_5 := o3_4.below (q5.below _) o3_4.lt
    go_wp2_with fail
    refine (toIntS_any a n c xs _ (hx.below b5')).mono ?_
    rintro e w6 ⟨rfl, o6, b6⟩
    have b6' := b5'.trans (b6.mono b5'.size)
    have o4_6 := o4_5.below' b6
    have o2_6 := o2_5.below' b6
    have o3_6 := o3_5.below b6 o3_5.lt
    go_wp2_with fail
    refine (eqIntS_any _ _ n n n n xs xs _ (o3_6.ints hx.1) (o6.ints hx.1)).mono ?_
    rintro e w7 ⟨rfl, q7⟩
    rw [decide_self']
    have b7' := b6'.trans (q7.below _)
    have o4_7 := o4_6.below' (q7.below _)
    have o2_7 := o2_6.below' (q7.below _)
    have o3_7 : OwnS w7 w2.heap.size (.slice (some ⟨w2.heap.size, 0, none⟩) n n) xs := by
      have := (o3_6.below (q7.below _) o3_6.lt).own (B := w2.heap.size) (Nat.le_refl _)
      rw [hx.1] at this
      exact this
    go_wp2_with fail
    refine (markIntS_any _ n n _ 1 xs _ o3_7 (by omega) (by omega) (by omega)).mono ?_
    rintro e w8 ⟨rfl, o3_8, g8⟩
    have b8' := b7'.grown g8 b7'.size (fun k hk => by cases hk; exact b2'.size)
    have o4_8 := o4_7.kept g8 (Dis.lo o4_7 (by have := toInts_size b3 o3; omega))
    have o2_8 := o2_7.kept g8 (Dis.hi o2 (Nat.le_refl _))
    have h2 : decide ((1 : Int) + (n : Int) < 0) = false := by simp; omega
    go_wp2_with fail
    refine (eqIntS_any _ _ _ _ _ _ (dists xs) (dists xs) _ (o4_8.intsA (by omega)) (o2_8.intsA (by omega))).mono ?_
    rintro e w9 ⟨rfl, q9⟩
    rw [decide_self']
    have b9' := b8'.trans (q9.below _)
    have o4_9 := o4_8.below' (q9.below _)
    have o2_9 := o2_8.below' (q9.below _)
    go_wp2_with fail
    refine (markIntS_any _ _ _ _ 1 _ _ o4_9 (by omega) (by omega) (by omega)).mono ?_
    rintro e w10 ⟨rfl, o4_10, g10⟩
    have b10' := b9'.grown g10 b9'.size (fun k hk => Nat.le_trans b3'.size (o4_9.lt k hk).1)
    have o2_10 := o2_9.kept g10 (fun k hk e => by have := (o2_3.lt k hk).2; have := (o4_9.lt k e).1; omega)
    go_wp2_with fail
    refine (heldIntS_any _ _ _ 1 _ (o4_10.intsA (by omega)) (by omega) (by omega)).mono ?_
    rintro e w11 ⟨rfl, q11⟩
    have b11' := b10'.trans (q11.below _)
    have o4_11 := o4_10.below' (q11.below _)
    have o2_11 := o2_10.below' (q11.below _)
    have h3 : decide ((1 : Int) + ((dists xs).length : Int) < 0) = false := by simp; omega
    go_wp2_with fail
    refine (toIntS_any a n c xs _ (hx.below b11')).mono ?_
    rintro e w12 ⟨rfl, o12, b12⟩
    have b12' := b11'.trans (b12.mono b11'.size)
    have o4_12 := o4_11.below' b12
    have o2_12 := o2_11.below' b12
    go_wp2_with fail
    refine (implStack_any _ n n xs _ (o12.ints hx.1) hwf'.out).mono ?_
    rintro e w13 ⟨⟨v13, rfl, o13⟩, b13⟩
    obtain ⟨a13, c13, rfl⟩ := o13.shape2
    have b13' := b12'.trans (b13.mono b12'.size)
    have o4_13 := o4_12.below' b13
    have o2_13 := o2_12.below' b13
    go_wp2_with fail
    refine (eqIntS_any _ _ _ _ _ _ (dists xs) (dists xs) _ (o13.intsA (by omega)) (o2_13.intsA (by omega))).mono ?_
    rintro e w14 ⟨rfl, q14⟩
    rw [decide_self']
    have b14' := b13'.trans (q14.below _)
    have o4_14 := o4_13.below' (q14.below _)
    go_wp2_with fail
    refine (heldIntS_any _ _ _ 1 _ (o4_14.intsA (by omega)) (by omega) (by omega)).mono ?_
    rintro e w15 ⟨rfl, q15⟩
    have b15' := b14'.trans (q15.below _)
    go_wp2_with fail
    go_ret
    exact ⟨rfl, b15'⟩
end Go.Proofs.Ytnjbfeejpnfdgaa
