/- Plain laws of affine expressions: scaling, substitution, values, depths; no condition. -/
import Derived.Test.YtkhlaphegnldeaaDoorAffP
namespace Go.Proofs.YtkhlaphegnldeaaDoor
set_option linter.unusedVariables false
set_option linter.unusedSimpArgs false
open Go.RowKit

theorem scale_ok {x : Aff} {k : Int} (h : (scaleOf x k).2 = true) : affV x = true ∧ affV (affSum ([0, 0, 0, 0], 0) k x) = true ∧ (scaleOf x k).1 = affSum ([0, 0, 0, 0], 0) k x := by
  obtain ⟨h1, h2, h3⟩ := chk_ok h
  simp at h1
  exact ⟨h1.1, h2, h3⟩
theorem subst_ok {x y : Aff} {j : Int} (h : (substOf x j y).2 = true) : affV x = true ∧ affV y = true ∧ inB j 0 3 = true ∧ affV (affSubst x j.toNat y) = true ∧ (substOf x j y).1 = affSubst x j.toNat y := by
  obtain ⟨h1, h2, h3⟩ := chk_ok h
  simp at h1
  exact ⟨h1.1.1, h1.1.2, h1.2, h2, h3⟩
theorem add_mk {x y z : Aff} (hx : affV x = true) (hy : affV y = true) (hz : affV z = true) (h : affSum x 1 y = z) : addOf x y = (z, true) := by
  rw [addOf, hx, hy, h]; simp [chkOf, hz]
theorem scaleAdd_law {x y z : Aff} {k : Int} (h : (addOf x y).2 = true) (hz : (addOf x y).1 = z) (h1 : (scaleOf z k).2 = true) (h2 : (scaleOf x k).2 = true) (h3 : (scaleOf y k).2 = true) :
    addOf (scaleOf x k).1 (scaleOf y k).1 = ((scaleOf z k).1, true) := by
  obtain ⟨_, _, _, a4⟩ := add_ok h
  obtain ⟨_, b2, b3⟩ := scale_ok h1
  obtain ⟨_, c2, c3⟩ := scale_ok h2
  obtain ⟨_, d2, d3⟩ := scale_ok h3
  rw [b3, c3, d3]
  rw [a4] at hz
  refine add_mk c2 d2 b2 (aff_ext rfl rfl (fun i hi => ?_) ?_)
  · rw [affSum_at _ _ _ i hi, affSum_at _ _ _ i hi, affSum_at _ _ _ i hi, affSum_at _ _ _ i hi, ← hz, affSum_at _ _ _ i hi]
    simp only [Int.mul_add, Int.one_mul]
    have : ([0, 0, 0, 0] : List Int).getD i 0 = 0 := by
      match i, hi with
      | 0, _ => rfl
      | 1, _ => rfl
      | 2, _ => rfl
      | 3, _ => rfl
    omega
  · rw [← hz]
    show 0 + k * x.2 + 1 * (0 + k * y.2) = 0 + k * (x.2 + 1 * y.2)
    rw [Int.one_mul, Int.one_mul, Int.mul_add]; omega
theorem affSubst_at {x : Aff} (hx : x.1.length = 4) (j : Nat) (y : Aff) (i : Nat) (hi : i < 4) : (affSubst x j y).1.getD i 0 = (if j = i then 0 else x.1.getD i 0) + x.1.getD j 0 * y.1.getD i 0 := by
  rw [affSubst, affSum_at _ _ _ i hi]
  congr 1
  show (x.1.set j 0).getD i 0 = _
  rw [List.getD, List.getElem?_set]
  by_cases e : j = i
  · rw [if_pos e, if_pos e, if_pos (by omega)]; rfl
  · rw [if_neg e, if_neg e]; rfl
theorem substAdd_law {x y c : Aff} {j : Int} (h1 : (substOf x j c).2 = true) (h2 : (substOf y j c).2 = true) (h3 : (addOf x y).2 = true) (h4 : (substOf (addOf x y).1 j c).2 = true) :
    addOf (substOf x j c).1 (substOf y j c).1 = ((substOf (addOf x y).1 j c).1, true) := by
  obtain ⟨a1, _, _, a4, a5⟩ := subst_ok h1
  obtain ⟨b1, _, _, b4, b5⟩ := subst_ok h2
  obtain ⟨_, _, c3, c4⟩ := add_ok h3
  obtain ⟨d1, _, _, d4, d5⟩ := subst_ok h4
  rw [a5, b5, d5]
  rw [c4] at d1 d4 ⊢
  refine add_mk a4 b4 d4 (aff_ext rfl rfl (fun i hi => ?_) ?_)
  · rw [affSum_at _ _ _ i hi, affSubst_at (affV_len a1) _ _ i hi, affSubst_at (affV_len b1) _ _ i hi, affSubst_at rfl _ _ i hi, affSum_at _ _ _ i hi]
    obtain ⟨_, _, hj, _⟩ := subst_ok h1
    have hj : j.toNat < 4 := by simp [inB] at hj; omega
    rw [affSum_at _ _ _ _ hj, Int.add_mul, Int.one_mul, Int.one_mul, Int.one_mul]
    split <;> omega
  · obtain ⟨_, _, hj, _⟩ := subst_ok h1
    have hj : j.toNat < 4 := by simp [inB] at hj; omega
    show x.2 + x.1.getD j.toNat 0 * c.2 + 1 * (y.2 + y.1.getD j.toNat 0 * c.2) = x.2 + 1 * y.2 + (affSum x 1 y).1.getD j.toNat 0 * c.2
    rw [affSum_at _ _ _ _ hj, Int.add_mul, Int.one_mul, Int.one_mul, Int.one_mul]; omega
theorem varOf_ok {j : Int} (h : (varOf j).2 = true) : inB j 0 3 = true ∧ (varOf j).1 = ([0, 0, 0, 0].set j.toNat 1, 0) := by
  unfold varOf at *
  cases hj : inB j 0 3
  · simp [hj] at h
  · simp
theorem affV_var {j : Nat} (hj : j < 4) : affV ([0, 0, 0, 0].set j 1, 0) = true := by
  match j, hj with
  | 0, _ => decide
  | 1, _ => decide
  | 2, _ => decide
  | 3, _ => decide
theorem var_at {j : Nat} (hj : j < 4) (i : Nat) (hi : i < 4) : (([0, 0, 0, 0].set j 1 : List Int)).getD i 0 = if j = i then 1 else 0 := by
  match j, hj, i, hi with
  | 0, _, 0, _ => rfl
  | 0, _, 1, _ => rfl
  | 0, _, 2, _ => rfl
  | 0, _, 3, _ => rfl
  | 1, _, 0, _ => rfl
  | 1, _, 1, _ => rfl
  | 1, _, 2, _ => rfl
  | 1, _, 3, _ => rfl
  | 2, _, 0, _ => rfl
  | 2, _, 1, _ => rfl
  | 2, _, 2, _ => rfl
  | 2, _, 3, _ => rfl
  | 3, _, 0, _ => rfl
  | 3, _, 1, _ => rfl
  | 3, _, 2, _ => rfl
  | 3, _, 3, _ => rfl
theorem subst_mk {x y z : Aff} {j : Int} (hx : affV x = true) (hy : affV y = true) (hj : inB j 0 3 = true) (hz : affV z = true) (h : affSubst x j.toNat y = z) : substOf x j y = (z, true) := by
  rw [substOf, hx, hy, hj, h]; simp [chkOf, hz]
theorem substIdent_law {x y : Aff} {j : Int} (h : (varOf j).2 = true) (hy : (varOf j).1 = y) (hx : affV x = true) : substOf x j y = (x, true) := by
  obtain ⟨h1, h2⟩ := varOf_ok h
  have hj : j.toNat < 4 := by simp [inB] at h1; omega
  rw [h2] at hy
  subst hy
  refine subst_mk hx (affV_var hj) h1 hx (aff_ext rfl (affV_len hx) (fun i hi => ?_) ?_)
  · rw [affSubst_at (affV_len hx) _ _ i hi]
    show _ + _ * (([0, 0, 0, 0].set j.toNat 1 : List Int)).getD i 0 = _
    rw [var_at hj i hi]
    split
    · rename_i e; rw [e]; omega
    · omega
  · show x.2 + x.1.getD j.toNat 0 * 0 = x.2
    omega
theorem substZero_law {x y : Aff} {j : Int} (hj : inB j 0 3 = true) (hx : affV x = true) (h0 : x.1.getD j.toNat 0 = 0) : substOf x j y = if affV y then (x, true) else (([], 0), false) := by
  cases hy : affV y
  · simp [substOf, hx, hy, chkOf]
  · rw [if_pos rfl]
    refine subst_mk hx hy hj hx (aff_ext rfl (affV_len hx) (fun i hi => ?_) ?_)
    · rw [affSubst_at (affV_len hx) _ _ i hi, h0]
      split
      · rename_i e; rw [← e, h0]; omega
      · omega
    · show x.2 + x.1.getD j.toNat 0 * y.2 = x.2
      rw [h0]; omega
theorem evalTo_set (co p : List Int) (j : Nat) (v : Int) (hc : co.length = 4) (hp : p.length = 4) (hj : j < 4) : evalTo co (p.set j v) 4 = evalTo (co.set j 0) p 4 + co.getD j 0 * v := by
  rw [list4 hc, list4 hp]
  match j, hj with
  | 0, _ => simp [evalTo]; omega
  | 1, _ => simp [evalTo]; omega
  | 2, _ => simp [evalTo]; omega
  | 3, _ => simp [evalTo]
theorem isPt_mk {p : List Int} (h : p.length ≤ 4) (hb : ∀ x ∈ p, -9999 ≤ x ∧ x ≤ 9999) : isPt p = true := by
  simp only [isPt, h, decide_true, Bool.true_and, Bool.not_eq_true', List.any_eq_false]
  intro x hx
  have := hb x hx
  simp [inB, this.1, this.2]
theorem substEval_law {x y z : Aff} {j : Int} (h : (substOf x j y).2 = true) (hz : (substOf x j y).1 = z) (p : List Int) (hp : isPt p = true) (hl : p.length = 4) (hq : isPt (p.set j.toNat (evalOf y p)) = true) :
    evalOf z p = evalOf x (p.set j.toNat (evalOf y p)) := by
  obtain ⟨a1, a2, a3, a4, a5⟩ := subst_ok h
  have hj : j.toNat < 4 := by simp [inB] at a3; omega
  rw [a5] at hz
  subst hz
  rw [evalOf_val a4 hp, evalOf_val a1 hq, List.length_set, hl, evalTo_set _ _ _ _ (affV_len a1) hl hj, evalOf_val a2 hp, hl]
  rw [evalTo_lin (affSubst x j.toNat y).1 (x.1.set j.toNat 0) y.1 p (x.1.getD j.toNat 0) (fun i hi => affSum_at _ _ _ i hi) 4 (Nat.le_refl _), Int.mul_add]
  show x.2 + x.1.getD j.toNat 0 * y.2 + _ = _
  omega
theorem evalOf_small {x : Aff} {p : List Int} (hx : ∀ i, -10 ≤ p.getD i 0 ∧ p.getD i 0 ≤ 10) (hp : isPt p = true) (hv : affV x = true) : -1000 ≤ evalOf x p ∧ evalOf x p ≤ 1000 := by
  have key : ∀ j : Nat, -(90 * (j : Int)) ≤ evalTo x.1 p j ∧ evalTo x.1 p j ≤ 90 * (j : Int) := by
    intro j
    induction j with
    | zero => simp [evalTo]
    | succ j ih =>
      rw [evalTo]
      have h2 := mul_abs (M := 9) (N := 10) (affV_getD hv j) (hx j) (by omega) (by omega)
      omega
  rw [evalOf_val hv hp]
  have h1 := key p.length
  have h2 := isPt_len hp
  have h3 := affV_const hv
  omega
theorem AffR.sl {P : Nat → Prop} {w : World} {a : Option Addr} {n c : Nat} {k : Int} {x : Aff} (h : AffR P w (.agg #[.slice a n c, .int .i64 k]) x) : Sl Sh.int P w (.slice a n c) x.1 := by
  obtain ⟨va, e, hs⟩ := h
  have : va = .slice a n c := by simp at e; exact e.1.symm
  rw [← this]; exact hs
theorem evalTo_congr {co p q : List Int} : ∀ j, (∀ i, i < j → co.getD i 0 = 0 ∨ p.getD i 0 = q.getD i 0) → evalTo co p j = evalTo co q j
  | 0, _ => rfl
  | j + 1, h => by
    rw [evalTo, evalTo, evalTo_congr j (fun i hi => h i (by omega))]
    rcases h j (by omega) with e | e
    · rw [e]; simp
    · rw [e]
theorem set_getD_ne {p : List Int} {m i : Nat} {v : Int} (h : i ≠ m) : (p.set m v).getD i 0 = p.getD i 0 := by
  rw [List.getD, List.getD, List.getElem?_set, if_neg (fun e => h e.symm)]
theorem isPt_set {p : List Int} (h : isPt p = true) (m : Nat) : isPt (p.set m 0) = true := by
  refine isPt_mk (by rw [List.length_set]; exact isPt_len h) (fun z hz => ?_)
  rcases List.mem_or_eq_of_mem_set hz with h1 | h1
  · simp [isPt, inB] at h
    exact h.2 z h1
  · omega
theorem eval_last {x : Aff} {p : List Int} {m : Nat} (hx : affV x = true) (hp : isPt p = true) (hl : p.length = m + 1) : evalOf x p = evalOf x (p.set m 0) + x.1.getD m 0 * p.getD m 0 := by
  rw [evalOf_val hx hp, evalOf_val hx (isPt_set hp m), List.length_set, hl, evalTo, evalTo]
  have h1 : evalTo x.1 (p.set m 0) m = evalTo x.1 p m := evalTo_congr m (fun i hi => .inr (set_getD_ne (by omega)))
  have h2 : (p.set m 0).getD m 0 = 0 := by
    rw [List.getD, List.getElem?_set, if_pos rfl]
    split <;> rfl
  rw [h1, h2]; omega
theorem eval_nil {x : Aff} (hx : affV x = true) : evalOf x [] = x.2 := by
  rw [evalOf_val hx (by decide)]; show x.2 + 0 = x.2; omega
theorem notPt {p : List Int} {j : Nat} (hj : j < p.length) (h : inB (p.getD j 0) (-9999) 9999 = false) : isPt p = false := by
  have hany : p.any (fun n => !inB n (-9999) 9999) = true := List.any_eq_true.2 ⟨p.getD j 0, by rw [List.getD, List.getElem?_eq_getElem hj]; exact List.getElem_mem _, by rw [h]; rfl⟩
  rw [isPt, hany]; simp
theorem depthTo_zero (co : List Int) : ∀ k i, depthTo co k ≤ i → i < k → co.getD i 0 = 0
  | 0, i, _, h => by omega
  | k + 1, i, h1, h2 => by
    rw [depthTo] at h1
    split at h1
    · by_cases e : i = k
      · subst e; assumption
      · exact depthTo_zero co k i h1 (by omega)
    · omega
theorem depthTo_last (co : List Int) : ∀ k, depthTo co k = 0 ∨ co.getD (depthTo co k - 1) 0 ≠ 0
  | 0 => .inl rfl
  | k + 1 => by
    rw [depthTo]
    split
    · exact depthTo_last co k
    · rename_i h; exact .inr h
theorem depth_eval {x : Aff} {d : Nat} {qs : List Int} (hx : affV x = true) (hd : affDepth x = d) (hl : qs.length = 4) (hq : isPt qs = true) (h : ∀ i, i < d → qs.getD i 0 = ([1, 2, 3, 4] : List Int).getD i 0) : evalOf x qs = evalOf x [1, 2, 3, 4] := by
  rw [evalOf_val hx hq, evalOf_val hx (by decide), hl]
  have e : evalTo x.1 qs 4 = evalTo x.1 [1, 2, 3, 4] 4 := evalTo_congr 4 fun i hi => by
    by_cases hid : i < d
    · exact .inr (h i hid)
    · refine .inl (depthTo_zero x.1 x.1.length i ?_ (by rw [affV_len hx]; omega))
      have : depthTo x.1 x.1.length = d := hd
      omega
  rw [e]; rfl
theorem allPt {p : List Int} {n : Nat} (hn : p.length = n) (h4 : n ≤ 4) (h : ∀ z ∈ p.take n, (!inB z (-9999) 9999) = false) : isPt p = true := by
  rw [List.take_of_length_le (by omega)] at h
  have hany : p.any (fun n => !inB n (-9999) 9999) = false := by
    rw [List.any_eq_false]; intro z hz; rw [h z hz]; simp
  rw [isPt, hany, hn, decide_eq_true h4]; rfl
end Go.Proofs.YtkhlaphegnldeaaDoor
