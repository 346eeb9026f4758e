/- Sums of multiples of affine expressions, substitution in the program; condition: what the arguments hold. -/
import Derived.Test.YtkhlaphegnldeaaDoorAffC
namespace Go.Proofs.YtkhlaphegnldeaaDoor
set_option linter.unusedVariables false
set_option linter.unusedSimpArgs false
open Go.RowKit

theorem grownBy_transK {w w' w'' : World} {r : Option Nat} (h : w.grownBy w' r) (h' : w'.grownBy w'' r) : w.grownBy w'' r :=
  ⟨h'.os.trans h.os, h'.tape.trans h.tape, h'.output.trans h.output, Nat.le_trans h.size h'.size, fun k hk hr => (h'.block k (Nat.lt_of_lt_of_le hk h.size) hr).trans (h.block k hk hr)⟩
theorem mul_abs {c x M N : Int} (h : -M ≤ c ∧ c ≤ M) (hx : -N ≤ x ∧ x ≤ N) (hM : 0 ≤ M) (hN : 0 ≤ N) : -(M * N) ≤ c * x ∧ c * x ≤ M * N := by
  have h1 : c.natAbs ≤ M.toNat := by omega
  have h2 : x.natAbs ≤ N.toNat := by omega
  have h3 : (c * x).natAbs ≤ M.toNat * N.toNat := by rw [Int.natAbs_mul]; exact Nat.mul_le_mul h1 h2
  have h4 : ((M.toNat * N.toNat : Nat) : Int) = M * N := by rw [Int.natCast_mul, Int.toNat_of_nonneg hM, Int.toNat_of_nonneg hN]
  omega
def affSum (a : Aff) (k : Int) (b : Aff) : Aff := ([a.1.getD 0 0 + k * b.1.getD 0 0, a.1.getD 1 0 + k * b.1.getD 1 0, a.1.getD 2 0 + k * b.1.getD 2 0, a.1.getD 3 0 + k * b.1.getD 3 0], a.2 + k * b.2)
def sumTo (a : List Int) (k : Int) (b : List Int) (j : Nat) : List Int := (List.range 4).map fun i => if i < j then a.getD i 0 + k * b.getD i 0 else a.getD i 0
theorem sumTo_four (a : List Int) (k : Int) (b : List Int) (j : Nat) : sumTo a k b j = [if 0 < j then a.getD 0 0 + k * b.getD 0 0 else a.getD 0 0, if 1 < j then a.getD 1 0 + k * b.getD 1 0 else a.getD 1 0, if 2 < j then a.getD 2 0 + k * b.getD 2 0 else a.getD 2 0, if 3 < j then a.getD 3 0 + k * b.getD 3 0 else a.getD 3 0] := rfl
theorem list4 {a : List Int} (h : a.length = 4) : a = [a.getD 0 0, a.getD 1 0, a.getD 2 0, a.getD 3 0] := by
  match a, h with
  | [_, _, _, _], _ => rfl
theorem sumTo_zero {a : List Int} (h : a.length = 4) (k : Int) (b : List Int) : sumTo a k b 0 = a := by
  rw [sumTo_four]
  simp only [Nat.not_lt_zero, if_false]
  exact (list4 h).symm
theorem sumTo_end (a : List Int) (k : Int) (b : List Int) : sumTo a k b 4 = [a.getD 0 0 + k * b.getD 0 0, a.getD 1 0 + k * b.getD 1 0, a.getD 2 0 + k * b.getD 2 0, a.getD 3 0 + k * b.getD 3 0] := by
  rw [sumTo_four]
  simp
theorem sumTo_at (a : List Int) (k : Int) (b : List Int) (j : Nat) (hj : j < 4) : (sumTo a k b j).getD j 0 = a.getD j 0 := by
  rw [sumTo_four]
  match j, hj with
  | 0, _ => rfl
  | 1, _ => rfl
  | 2, _ => rfl
  | 3, _ => rfl
theorem sumTo_set (a : List Int) (k : Int) (b : List Int) (j : Nat) (hj : j < 4) : (sumTo a k b j).set j (a.getD j 0 + k * b.getD j 0) = sumTo a k b (j + 1) := by
  rw [sumTo_four, sumTo_four]
  match j, hj with
  | 0, _ => rfl
  | 1, _ => rfl
  | 2, _ => rfl
  | 3, _ => rfl
theorem sumTo_len (a : List Int) (k : Int) (b : List Int) (j : Nat) : (sumTo a k b j).length = 4 := rfl

/-- Four coefficients and a constant that are not great. -/
def affM (x : Aff) : Prop := x.1.length = 4 ∧ (∀ i, -99 ≤ x.1.getD i 0 ∧ x.1.getD i 0 ≤ 99) ∧ -99 ≤ x.2 ∧ x.2 ≤ 99
theorem affM_of {x : Aff} (h : affV x = true) : affM x := ⟨affV_len h, fun i => by have := affV_getD h i; omega, affV_const h⟩
theorem affM_const {n : Int} (h : -99 ≤ n ∧ n ≤ 99) : affM ([0, 0, 0, 0], n) := by
  refine ⟨rfl, fun i => ?_, h⟩
  match i with
  | 0 => simp
  | 1 => simp
  | 2 => simp
  | 3 => simp
  | i + 4 => simp
theorem affM_set {x : Aff} (h : affM x) (v : Nat) : affM (x.1.set v 0, x.2) := by
  refine ⟨by rw [List.length_set]; exact h.1, fun i => ?_, h.2.2⟩
  rw [List.getD, List.getElem?_set]
  by_cases e : v = i
  · subst e
    rw [if_pos rfl]
    split <;> simp
  · rw [if_neg e]
    exact h.2.1 i
theorem Box2.grown {w w' : World} {g : Nat} {u0 u1 : Value} {r : Option Nat} (h : Box2 w g u0 u1) (hg : w.grownBy w' r) (hr : r ≠ some g) : Box2 w' g u0 u1 := by
  have hb : w'.heap[g]? = w.heap[g]? := hg.block g h.lt (fun e => hr e.symm)
  exact ⟨(World.cell?_of_block (a := ⟨g, 0, none⟩) hb).trans h.c0, (World.cell?_of_block (a := ⟨g, 1, none⟩) hb).trans h.c1, (World.frozen?_of_block (a := ⟨g, 0, none⟩) hb).trans h.f0, (World.frozen?_of_block (a := ⟨g, 1, none⟩) hb).trans h.f1, Nat.lt_of_lt_of_le h.lt hg.size⟩

theorem box2_set0 {w : World} {g : Nat} {u0 u1 : Value} (h : Box2 w g u0 u1) (u : Value) : Box2 (w.setCell ⟨g, 0, none⟩ u) g u u1 :=
  ⟨World.cell?_setCell_same _ _ _ h.c0, (World.cell?_setCell_other _ _ _ _ (by simp)).trans h.c1, (World.frozen?_setCell _ _ _ _).trans h.f0, (World.frozen?_setCell _ _ _ _).trans h.f1, by simp; exact h.lt⟩
theorem box2_sets {w : World} {g : Nat} {u0 u1 : Value} (h : Box2 w g u0 u1) (v0 v1 : Value) : Box2 ((w.setCell ⟨g, 0, none⟩ v0).setCell ⟨g, 1, none⟩ v1) g v0 v1 := by
  have h0 := box2_set0 h v0
  exact ⟨(World.cell?_setCell_other _ _ _ _ (by simp)).trans h0.c0, World.cell?_setCell_same _ _ _ h0.c1, (World.frozen?_setCell _ _ _ _).trans h0.f0, (World.frozen?_setCell _ _ _ _).trans h0.f1, by simp; exact h.lt⟩

set_option maxHeartbeats 3200000 in
theorem sum_any (P Q : Nat → Prop) (v u : Value) (x y : Aff) (k : Int) (w : World) (hx : AffR P w v x) (hy : AffR Q w u y) (mx : affM x) (my : affM y) (hk : -99 ≤ k ∧ k ≤ 99) :
    Calls Tryd.prog 26 #[v, .int .i64 k, u] w (RetAff (affSum x k y) w) := by
  obtain ⟨a, c, rfl, _, _, hs⟩ := hx.shape
  obtain ⟨b, d, rfl, _, _, ht⟩ := hy.shape
  obtain ⟨co, xk⟩ := x
  obtain ⟨cp, yk⟩ := y
  obtain ⟨lx, bx, kx⟩ := mx
  obtain ⟨ly, by', ky⟩ := my
  simp only at hs ht lx bx kx ly by' ky ⊢
  rw [lx] at hs hx ⊢
  rw [ly] at ht hy ⊢
  have hb0 := (Below.refl w.heap.size w).alloc (Nat.le_refl _) (.cells #[.slice a 4 c, .int .i64 xk] 25)
  have hb1 := hb0.alloc (by simp) (.cells #[.slice b 4 d, .int .i64 yk] 25)
  have hb := hb1.alloc (by simp; omega) (.cells #[.slice none 0 0, .int .i64 0] 25)
  have B1 := ((Box2.new w (.slice a 4 c) (.int .i64 xk) 25).alloc (.cells #[.slice b 4 d, .int .i64 yk] 25)).alloc (.cells #[.slice none 0 0, .int .i64 0] 25)
  have B2 := (Box2.new (w.alloc (.cells #[.slice a 4 c, .int .i64 xk] 25)) (.slice b 4 d) (.int .i64 yk) 25).alloc (.cells #[.slice none 0 0, .int .i64 0] 25)
  have B3 := Box2.new ((w.alloc (.cells #[.slice a 4 c, .int .i64 xk] 25)).alloc (.cells #[.slice b 4 d, .int .i64 yk] 25)) (.slice none 0 0) (.int .i64 0) 25
  rw [World.size_alloc] at B2
  rw [World.size_alloc, World.size_alloc] at B3
  have Lx := hid lx; have Ly := hid ly; have Bx := hid bx; have By := hid by'
  clear lx ly bx by'
  go_enter Tryd.func26, Tryd.ntmps26
  go_wp2_with fail
  generalize ((w.alloc (.cells #[.slice a 4 c, .int .i64 xk] 25)).alloc (.cells #[.slice b 4 d, .int .i64 yk] 25)).alloc (.cells #[.slice none 0 0, .int .i64 0] 25) = w3 at B1 B2 B3 hb
  have hx3 : AffR P w3 _ (co, xk) := hx.below hb
  have ht3 := ht.below hb
  have l3 := B3.lt
  refine (ownAff_any P _ (co, xk) w3 hx3 (by rw [Lx.out]; omega)).mono ?_
  rintro e w4 ⟨v4, rfl, ⟨va4, rfl, o4⟩, b4⟩
  simp only at o4
  obtain ⟨g, off, c4, rfl, hgB, hgl⟩ : ∃ g off c4, va4 = .slice (some ⟨g, off, none⟩) 4 c4 ∧ w3.heap.size ≤ g ∧ g < w4.heap.size := by
    obtain ⟨a4, c4, rfl, _⟩ := o4.shape
    rw [Lx.out] at o4 ⊢
    obtain ⟨g, off, rfl, h1, h2, _⟩ := o4.at (by omega)
    exact ⟨g, off, c4, rfl, h1, h2⟩
  have hbb := hb.trans (b4.mono hb.size)
  have hB2 := (B2.below b4).alloc (.cells #[.slice (some ⟨g, off, none⟩) 4 c4, .int .i64 xk] 25)
  have hB3 := (B3.below b4).alloc (.cells #[.slice (some ⟨g, off, none⟩) 4 c4, .int .i64 xk] 25)
  have hB5 := Box2.new w4 (.slice (some ⟨g, off, none⟩) 4 c4) (.int .i64 xk) 25
  have ht5 := ((ht3.mono (Q := fun q => q < w3.heap.size) (fun q _ h => h)).below b4).alloc (.cells #[.slice (some ⟨g, off, none⟩) 4 c4, .int .i64 xk] 25)
  have o5 : OwnI w3.heap.size (w4.alloc (.cells #[.slice (some ⟨g, off, none⟩) 4 c4, .int .i64 xk] 25)) (.slice (some ⟨g, off, none⟩) 4 c4) (sumTo co k cp 0) := by rw [sumTo_zero Lx.out]; exact o4.alloc _
  have hb5 := hbb.alloc hbb.size (.cells #[.slice (some ⟨g, off, none⟩) 4 c4, .int .i64 xk] 25)
  have hs5 : (w4.alloc (.cells #[.slice (some ⟨g, off, none⟩) 4 c4, .int .i64 xk] 25)).heap.size = w4.heap.size + 1 := World.size_alloc _ _
  have Hs5 := hid hs5
  have l5 := b4.size
  have hbs3 := hb.size
  obtain ⟨p0, _, _, _, _⟩ := hB2
  have HB2 : Hid (Box2 (w4.alloc (.cells #[.slice (some ⟨g, off, none⟩) 4 c4, .int .i64 xk] 25)) (w.heap.size + 1) (.slice b 4 d) (.int .i64 yk)) := hid ⟨by assumption, by assumption, by assumption, by assumption, by assumption⟩
  clear hs5 B1 B2 B3 hx3 ht3 o4 b4 hbb hb hx hy hs ht hb0 hb1
  go_wp2_with fail
  generalize w4.alloc (.cells #[.slice (some ⟨g, off, none⟩) 4 c4, .int .i64 xk] 25) = w5 at hB3 hB5 HB2 ht5 o5 hb5 Hs5
  have HB3 := hid hB3; have HB5 := hid hB5
  clear hB3 hB5 p0
  go_loopw [15] (fun i wr => ∃ j : Nat, j ≤ 4 ∧ i = .int .i64 j ∧ OwnI w3.heap.size wr (.slice (some ⟨g, off, none⟩) 4 c4) (sumTo co k cp j) ∧ w5.grownBy wr (some g)) (fun i _ => 4 - (intOf i).toNat)
  case atStart => exact ⟨0, by omega, rfl, o5, World.grownBy.refl _ _⟩
  case round =>
    obtain ⟨j, hj, rfl, ho, hg⟩ := hrel
    have hne5 : some g ≠ some w4.heap.size := fun e => by cases e; omega
    have hne2 : some g ≠ some (w.heap.size + 1) := fun e => by cases e; have := HB2.out.lt; omega
    have hne3 : some g ≠ some (w.heap.size + 1 + 1) := fun e => by cases e; omega
    obtain ⟨e0, e1, e2, e3, e4⟩ := HB5.out.grown hg hne5
    obtain ⟨d0, d1, _, _, d4⟩ := HB2.out.grown hg hne2
    obtain ⟨q0, q1, q2, q3, q4⟩ := HB3.out.grown hg hne3
    by_cases hlt : j < 4
    · obtain ⟨g', off', e, _, _, _, hcell, hfr⟩ := ho.at (by omega)
      cases e
      have r1 := hcell j hlt
      rw [sumTo_at co k cp j hlt] at r1
      have r2 := hfr (off + j)
      obtain ⟨bb, ob, hbb, _, _, hcb⟩ := (ht5.grown hg (fun q hq e => by cases e; omega)).intAt (by omega)
      subst hbb
      have r3 := hcb j hlt
      have m1 := Bx.out j
      have m2 := By.out j
      have m3 := mul_abs (M := 99) (N := 99) hk m2 (by omega) (by omega)
      have hset := ho.set j (co.getD j 0 + k * cp.getD j 0)
      rw [sumTo_set co k cp j hlt] at hset
      generalize co.getD j 0 = s at r1 m1 hset m3
      generalize cp.getD j 0 = t at r3 m2 hset m3
      have Hset := hid hset
      have hg2 := hid (grownBy_transK hg (setCell_grown wr ⟨g, off + j, none⟩ (.int .i64 (s + k * t))))
      clear hcell hfr hcb hset
      go_wp2
      exact ⟨⟨j + 1, by omega, rfl, Hset.out, hg2.out⟩, by simp [intOf]; omega⟩
    · have hje : j = 4 := by omega
      subst hje
      have m3 := mul_abs (M := 99) (N := 99) hk ky (by omega) (by omega)
      have hgs := hg.size
      have hl4 := Hs5.out
      have hn5 : (Value.slice (some ⟨g, off, none⟩) 4 c4).ownBlock ≠ some w4.heap.size := fun e => hne5 e
      have hn3 : (Value.slice (some ⟨g, off, none⟩) 4 c4).ownBlock ≠ some (w.heap.size + 1 + 1) := fun e => hne3 e
      have Ho := hid (((ho.store (p := ⟨w4.heap.size, 1, none⟩) (u := .int .i64 (xk + k * yk)) hn5).store (p := ⟨w.heap.size + 1 + 1, 0, none⟩) (u := .slice (some ⟨g, off, none⟩) 4 c4) hn3).store (p := ⟨w.heap.size + 1 + 1, 1, none⟩) (u := .int .i64 (xk + k * yk)) hn3)
      have Hb := hid ((((hb5.grown hg hb5.size (fun q hq => by cases hq; omega)).setCell (p := ⟨w4.heap.size, 1, none⟩) (by show _ ≤ w4.heap.size; omega) (.int .i64 (xk + k * yk))).setCell (p := ⟨w.heap.size + 1 + 1, 0, none⟩) (by show _ ≤ w.heap.size + 1 + 1; omega) (.slice (some ⟨g, off, none⟩) 4 c4)).setCell (p := ⟨w.heap.size + 1 + 1, 1, none⟩) (by show _ ≤ w.heap.size + 1 + 1; omega) (.int .i64 (xk + k * yk)))
      have hne43 : w4.heap.size ≠ w.heap.size + 1 + 1 := by omega
      have hne34 : w.heap.size + 1 + 1 ≠ w4.heap.size := by omega
      clear ho hg hb5 ht5 o5 hn5 hn3 hl4
      go_wp2_with fail
      refine bodyPost_ret (v := .agg #[.slice (some ⟨g, off, none⟩) 4 c4, .int .i64 (xk + k * yk)]) (by simp [results, Tryd.results26, go_sem, q0, q1, q4, hne43, hne34]) rfl ?_
      exact ⟨_, rfl, ⟨_, rfl, by have := Ho.out.base hbs3; rw [sumTo_end] at this; exact this⟩, Hb.out⟩

def affSubst (a : Aff) (v : Nat) (b : Aff) : Aff := affSum (a.1.set v 0, a.2) (a.1.getD v 0) b
end Go.Proofs.YtkhlaphegnldeaaDoor
