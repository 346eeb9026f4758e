/- Combinations of affine expressions in the reference; condition: what the arguments hold. -/
import Derived.Test.YtkhlaphegnldeaaDoorAffK
import Derived.IntWalk
import Derived.Deep.DeepCutAuto
namespace Go.Proofs.YtkhlaphegnldeaaDoor
set_option linter.unusedVariables false
set_option linter.unusedSimpArgs false
open Go.RowKit

def combTo (a : List Int) (x : Int) (b : List Int) (y : Int) (j : Nat) : List Int := (List.range j).map fun i => x * a.getD i 0 + y * b.getD i 0
theorem combTo_succ (a : List Int) (x : Int) (b : List Int) (y : Int) (j : Nat) : combTo a x b y (j + 1) = combTo a x b y j ++ [x * a.getD j 0 + y * b.getD j 0] := by simp [combTo, List.range_succ]
theorem combTo_len (a : List Int) (x : Int) (b : List Int) (y : Int) (j : Nat) : (combTo a x b y j).length = j := by simp [combTo]
def affComb (a : Aff) (x : Int) (b : Aff) (y : Int) : Aff := (combTo a.1 x b.1 y 4, x * a.2 + y * b.2)

theorem grown_alloc_drew {w w' : World} {r : Option Nat} (h : w.grownBy w' r) (o : Obj) : w.grownBy (w'.alloc o).drew r := by
  have h' := grownBy_transK h (World.grownBy_alloc w' o r)
  exact ⟨h'.os, h'.tape, h'.output, h'.size, h'.block⟩
theorem below_grown' {w w1 w2 : World} {r : Option Nat} (h : w.grownBy w1 r) (hb : Below w.heap.size w1 w2) : w.grownBy w2 r :=
  ⟨hb.os.trans h.os, hb.tape.trans h.tape, hb.output.trans h.output, Nat.le_trans h.size hb.size, fun k hk e => (hb.block k hk).trans (h.block k hk e)⟩
set_option maxHeartbeats 12800000 in
set_option maxRecDepth 100000 in
theorem l1Combine_any (P Q : Nat → Prop) (v u : Value) (p q : Aff) (x y : Int) (w : World) (hp : AffR P w v p) (hq : AffR Q w u q) (mp : affM p) (mq : affM q) (hx : -99 ≤ x ∧ x ≤ 99) (hy : -99 ≤ y ∧ y ≤ 99) :
    Calls Tryd.prog 31 #[v, .int .i64 x, u, .int .i64 y] w (RetAff (affComb p x q y) w) := by
  obtain ⟨a, c, rfl, _, _, hs⟩ := hp.shape
  obtain ⟨b, d, rfl, _, _, ht⟩ := hq.shape
  obtain ⟨co, xk⟩ := p
  obtain ⟨cp, yk⟩ := q
  obtain ⟨lx, bx, kx⟩ := mp
  obtain ⟨ly, by', ky⟩ := mq
  simp only at hs ht lx bx kx ly by' ky ⊢
  rw [lx] at hs hp ⊢
  rw [ly] at ht hq ⊢
  have hb0 := (Below.refl w.heap.size w).alloc (Nat.le_refl _) (.cells #[.slice a 4 c, .int .i64 xk] 25)
  have hb1 := hb0.alloc (by simp) (.cells #[.slice b 4 d, .int .i64 yk] 25)
  have hb := hb1.alloc (by simp; omega) (.cells #[.slice none 0 0, .int .i64 0] 25)
  have B1 := ((Box2.new w (.slice a 4 c) (.int .i64 xk) 25).alloc (.cells #[.slice b 4 d, .int .i64 yk] 25)).alloc (.cells #[.slice none 0 0, .int .i64 0] 25)
  have B2 := (Box2.new (w.alloc (.cells #[.slice a 4 c, .int .i64 xk] 25)) (.slice b 4 d) (.int .i64 yk) 25).alloc (.cells #[.slice none 0 0, .int .i64 0] 25)
  have B3 := Box2.new ((w.alloc (.cells #[.slice a 4 c, .int .i64 xk] 25)).alloc (.cells #[.slice b 4 d, .int .i64 yk] 25)) (.slice none 0 0) (.int .i64 0) 25
  rw [World.size_alloc] at B2
  rw [World.size_alloc, World.size_alloc] at B3
  have Lx := hid lx; have Ly := hid ly; have Bx := hid bx; have By := hid by'
  clear lx ly bx by'
  have m1 := mul_abs (M := 99) (N := 99) hx kx (by omega) (by omega)
  have m2 := mul_abs (M := 99) (N := 99) hy ky (by omega) (by omega)
  go_enter Tryd.func31, Tryd.ntmps31
  go_wp2_with fail
  generalize hw3 : ((w.alloc (.cells #[.slice a 4 c, .int .i64 xk] 25)).alloc (.cells #[.slice b 4 d, .int .i64 yk] 25)).alloc (.cells #[.slice none 0 0, .int .i64 0] 25) = w3 at B1 B2 B3 hb
  have hsz3 : w3.heap.size = w.heap.size + 1 + 1 + 1 := by rw [← hw3]; simp
  clear hw3
  have B4 := Box2.new w3 (.slice none 0 0) (.int .i64 (x * xk + y * yk)) 25
  rw [hsz3] at B4
  have hb4 := hb.alloc hb.size (.cells #[.slice none 0 0, .int .i64 (x * xk + y * yk)] 25)
  have hB1 := B1.alloc (.cells #[.slice none 0 0, .int .i64 (x * xk + y * yk)] 25)
  have hB2 := B2.alloc (.cells #[.slice none 0 0, .int .i64 (x * xk + y * yk)] 25)
  have hB3 := B3.alloc (.cells #[.slice none 0 0, .int .i64 (x * xk + y * yk)] 25)
  have hs4 := ((hs.mono (Q := fun q => q < w.heap.size) (fun q _ h => h)).below hb).alloc (.cells #[.slice none 0 0, .int .i64 (x * xk + y * yk)] 25)
  have ht4 := ((ht.mono (Q := fun q => q < w.heap.size) (fun q _ h => h)).below hb).alloc (.cells #[.slice none 0 0, .int .i64 (x * xk + y * yk)] 25)
  generalize hw4 : w3.alloc (.cells #[.slice none 0 0, .int .i64 (x * xk + y * yk)] 25) = w4 at B4 hb4 hB1 hB2 hB3 hs4 ht4
  have hsz4 : w4.heap.size = w.heap.size + 1 + 1 + 1 + 1 := by rw [← hw4, World.size_alloc, hsz3]
  have Hsz := hid hsz4
  clear hw4 hsz3 hsz4 B1 B2 B3 hb hs ht hp hq hb0 hb1
  have HB1 := hid hB1; have HB2 := hid hB2; have HB3 := hid hB3
  generalize hck : x * xk + y * yk = ck at B4
  have Hck := hid hck
  clear hck hB1 hB2 hB3 m1 m2
  go_loopw [10] (fun i wr => ∃ j : Nat, ∃ vo : Value, j ≤ 4 ∧ i = .int .i64 j ∧ Box2 wr (w.heap.size + 1 + 1 + 1) vo (.int .i64 ck) ∧ OwnI w4.heap.size wr vo (combTo co x cp y j) ∧ w4.grownBy wr (some (w.heap.size + 1 + 1 + 1))) (fun i _ => 4 - (intOf i).toNat)
  case atStart => exact ⟨0, _, by omega, rfl, B4, OwnI.nil _ _, World.grownBy.refl _ _⟩
  case round =>
    obtain ⟨j, vo, hj, rfl, hbo, ho, hg⟩ := hrel
    obtain ⟨ao, c5, rfl, hc5⟩ := ho.shape
    rw [combTo_len] at hbo ho hc5
    have hgs := hg.size
    have hl4 := Hsz.out
    have n1 : some (w.heap.size + 1 + 1 + 1) ≠ some w.heap.size := fun e => by have := Option.some.inj e; omega
    have n2 : some (w.heap.size + 1 + 1 + 1) ≠ some (w.heap.size + 1) := fun e => by have := Option.some.inj e; omega
    have n3 : some (w.heap.size + 1 + 1 + 1) ≠ some (w.heap.size + 1 + 1) := fun e => by have := Option.some.inj e; omega
    obtain ⟨r0, r1, r2, r3, r4⟩ := hbo
    have Hbo : Hid (Box2 wr (w.heap.size + 1 + 1 + 1) (.slice ao j c5) (.int .i64 ck)) := hid ⟨r0, r1, r2, r3, r4⟩
    obtain ⟨a0, a1, _, _, _⟩ := HB1.out.grown hg n1
    obtain ⟨b0, b1, _, _, _⟩ := HB2.out.grown hg n2
    obtain ⟨t0, t1, t2, t3, t4⟩ := HB3.out.grown hg n3
    by_cases hlt : j < 4
    · obtain ⟨ba, oa, ha, _, _, hca⟩ := (hs4.grown hg (fun q hq e => by have := Option.some.inj e; omega)).intAt (by omega)
      obtain ⟨bb, ob, hbb, _, _, hcb⟩ := (ht4.grown hg (fun q hq e => by have := Option.some.inj e; omega)).intAt (by omega)
      subst ha hbb
      have q1 := hca j hlt
      have q2 := hcb j hlt
      have m1 := Bx.out j
      have m2 := By.out j
      have hsc := combTo_succ co x cp y j
      generalize co.getD j 0 = s at q1 m1 hsc
      generalize cp.getD j 0 = t at q2 m2 hsc
      have m3 := mul_abs (M := 99) (N := 99) hx m1 (by omega) (by omega)
      have m4 := mul_abs (M := 99) (N := 99) hy m2 (by omega) (by omega)
      have k1 : IntKind.i64.wrap (x * s) = x * s := IntWalk.i64_in _ (by omega)
      have k2 : IntKind.i64.wrap (y * t) = y * t := IntWalk.i64_in _ (by omega)
      have k3 : IntKind.i64.wrap (x * s + y * t) = x * s + y * t := IntWalk.i64_in _ (by omega)
      have Hsc := hid hsc
      have hj4 : (j : Int) < 4 := by omega
      have O1 : Hid (OwnI w4.heap.size (wr.alloc (.cells #[.int .i64 (x * s + y * t)] 3)).drew (.slice ao j c5) (combTo co x cp y j)) := hid (ho.alloc _).drew
      have S1 : Hid (Sl Sh.int (fun b => (Value.slice (some ⟨wr.heap.size, 0, none⟩) 1 1).ownBlock = some b) (wr.alloc (.cells #[.int .i64 (x * s + y * t)] 3)).drew (.slice (some ⟨wr.heap.size, 0, none⟩) 1 1) [x * s + y * t]) := hid (((OwnI.one (B := wr.heap.size) wr (Nat.le_refl _) (x * s + y * t)).drew).sl (by simp))
      have N1 : Hid (∀ b, (Value.slice (some ⟨wr.heap.size, 0, none⟩) 1 1).ownBlock = some b → b < (wr.alloc (.cells #[.int .i64 (x * s + y * t)] 3)).drew.heap.size → (Value.slice ao j c5).ownBlock ≠ some b) := hid (fun b hb _ e => by have h1 := (ho.lt b e).2; have h2 := Option.some.inj hb; simp at h2; omega)
      have L1 : Hid (w4.heap.size ≤ (wr.alloc (.cells #[.int .i64 (x * s + y * t)] 3)).drew.heap.size) := hid (by show w4.heap.size ≤ (wr.alloc _).heap.size; rw [World.size_alloc]; omega)
      have Bx4 : Hid (Box2 (wr.alloc (.cells #[.int .i64 (x * s + y * t)] 3)).drew (w.heap.size + 1 + 1 + 1) (.slice ao j c5) (.int .i64 ck)) := hid (Hbo.out.alloc _).drew
      have Z4 : Hid (w.heap.size + 1 + 1 + 1 < w4.heap.size) := hid (by omega)
      have hlc : Hid ((combTo co x cp y j).length = j) := hid (combTo_len _ _ _ _ _)
      clear hca hcb hsc n1 n2 n3 hl4
      go_wp2_with fail
      go_region_law (refine step_appSI rfl (.tmp 26) (.tmp 42) rfl w4.heap.size (.slice ao j c5) (combTo co x cp y j) (by simp [Act.eval, Act.put]) O1.out _ _ _ _ _ (by simp [Act.eval, Act.put]) S1.out N1.out (by rw [hlc.out]; omega) L1.out ?_; intro v6 w6 o6 g6 b6 _; obtain ⟨a6, c6, rfl, hc6⟩ := o6.shape; obtain ⟨z0, z1, z2, z3, z4⟩ := Bx4.out.belowLt b6 Z4.out)
      all_goals
        have o7 : OwnI w4.heap.size w6 (.slice a6 ((combTo co x cp y j) ++ [x * s + y * t]).length c6) (combTo co x cp y (j + 1)) := by rw [Hsc.out]; exact o6
        have o8 := o7.store (p := ⟨w.heap.size + 1 + 1 + 1, 0, none⟩) (u := .slice a6 ((combTo co x cp y j) ++ [x * s + y * t]).length c6) (fun e => by have := (o7.lt _ e).1; have h5 := Z4.out; have h7 : w4.heap.size ≤ w.heap.size + 1 + 1 + 1 := this; omega)
        have g8 := below_grown' ((grown_alloc_drew hg (.cells #[.int .i64 (x * s + y * t)] 3))) b6
        have g9 := grownBy_transK g8 (setCell_grown w6 ⟨w.heap.size + 1 + 1 + 1, 0, none⟩ (.slice a6 ((combTo co x cp y j) ++ [x * s + y * t]).length c6))
        have bx9 : Box2 (w6.setCell ⟨w.heap.size + 1 + 1 + 1, 0, none⟩ (.slice a6 ((combTo co x cp y j) ++ [x * s + y * t]).length c6)) (w.heap.size + 1 + 1 + 1) (.slice a6 ((combTo co x cp y j) ++ [x * s + y * t]).length c6) (.int .i64 ck) := box2_set0 ⟨z0, z1, z2, z3, z4⟩ _
        rw [List.length_append] at o8 g9 bx9
        have O8 := hid o8; have G9 := hid g9; have BX := hid bx9
        clear o8 g9 bx9 O1 S1 N1 L1 Bx4 k1 k2 k3 o6 o7 g6 b6 g8 Bx By HB1 HB2 HB3 Hbo B4 hs4 ht4 m1 m2 m3 m4 Hsc Hck a0 a1 b0 b1 t0 t1 t2 t3 r0 r1 r2 r3 z0 z1 z2 z3 q1 q2
        go_wp2
        exact ⟨⟨j + 1, _, by omega, rfl, BX.out, O8.out, G9.out⟩, by simp [intOf]; omega⟩
    · have hje : j = 4 := by omega
      subst hje
      have o9 := (ho.store (p := ⟨w.heap.size + 1 + 1, 0, none⟩) (u := .slice ao 4 c5) (fun e => by have h7 : w4.heap.size ≤ w.heap.size + 1 + 1 := (ho.lt _ e).1; omega)).store (p := ⟨w.heap.size + 1 + 1, 1, none⟩) (u := .int .i64 ck) (fun e => by have h7 : w4.heap.size ≤ w.heap.size + 1 + 1 := (ho.lt _ e).1; omega)
      have b9 := (((hb4.grown hg hb4.size (fun q hq => by cases hq; omega)).setCell (p := ⟨w.heap.size + 1 + 1, 0, none⟩) (by show _ ≤ w.heap.size + 1 + 1; omega) (.slice ao 4 c5)).setCell (p := ⟨w.heap.size + 1 + 1, 1, none⟩) (by show _ ≤ w.heap.size + 1 + 1; omega) (.int .i64 ck))
      have O9 := hid o9; have B9 := hid b9
      have hs9 := hb4.size
      clear o9 b9 ho hg n1 n2 n3 hgs
      go_wp2
      refine bodyPost_ret (v := .agg #[.slice ao 4 c5, .int .i64 ck]) (by simp [results, Tryd.results31, go_sem, t0, t1, t4]) rfl ?_
      exact ⟨_, rfl, ⟨_, by show _ = Value.agg #[_, .int .i64 (x * xk + y * yk)]; rw [Hck.out], O9.out.base hs9⟩, B9.out⟩
end Go.Proofs.YtkhlaphegnldeaaDoor
