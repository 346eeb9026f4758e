/- Affine expressions: validity in the reference, depths, values, points; condition: what the arguments hold. -/
import Derived.Test.YtkhlaphegnldeaaDoorAff
namespace Go.Proofs.YtkhlaphegnldeaaDoor
set_option linter.unusedVariables false
set_option linter.unusedSimpArgs false
open Go.RowKit

set_option maxHeartbeats 400000 in
theorem l1Within_any (n m : Int) (w : World) (h0 : 0 ≤ m) (h1 : m ≤ 1000000) : Calls Tryd.prog 29 #[.int .i64 n, .int .i64 m] w fun e w' => e = .returned (.bool (inB n (-m) m)) ∧ w = w' := by
  by_cases h1 : -m ≤ n
  · have h1' : decide (-m ≤ n) = true := by simpa using h1
    by_cases h2 : n ≤ m
    · have h2' : decide (n ≤ m) = true := by simpa using h2
      have hf := hid (show inB n (-m) m = true by simp [inB, h1, h2])
      go_enter Tryd.func29, Tryd.ntmps29
      go_wp2
      go_ret
      exact ⟨ret_bool hf.out.symm, rfl⟩
    · have h2' : decide (n ≤ m) = false := by simpa using h2
      have hf := hid (show inB n (-m) m = false by simp [inB, h2])
      go_enter Tryd.func29, Tryd.ntmps29
      go_wp2
      go_ret
      exact ⟨ret_bool hf.out.symm, rfl⟩
  · have h1' : decide (-m ≤ n) = false := by simpa using h1
    have hf := hid (show inB n (-m) m = false by simp [inB]; omega)
    go_enter Tryd.func29, Tryd.ntmps29
    go_wp2
    go_ret
    exact ⟨ret_bool hf.out.symm, rfl⟩

set_option maxHeartbeats 1600000 in
theorem specAffV_any (P : Nat → Prop) (v : Value) (x : Aff) (w : World) (h : AffR P w v x) :
    Calls Tryd.prog 28 #[v] w fun e w' => e = .returned (.bool (affV x)) ∧ Below w.heap.size w w' := by
  obtain ⟨a, c, rfl, h1, h2, hs⟩ := h.shape
  obtain ⟨co, k⟩ := x
  simp only at hs h1 h2 ⊢
  have haf : affV (co, k) = (decide (co.length = 4) && inB k (-99) 99 && !co.any (fun c => !inB c (-9) 9)) := rfl
  have Haf := hid haf; clear haf
  have hs' := hs.alloc (.cells #[.slice a co.length c, .int .i64 k] 25)
  go_enter Tryd.func28, Tryd.ntmps28
  go_wp2
  go_loop [3] (fun i => ∃ j : Nat, j ≤ co.length ∧ i = .int .i64 j ∧ Hid (∀ x ∈ co.take j, (!inB x (-9) 9) = false)) (fun i => co.length - (intOf i).toNat)
  case atStart => exact ⟨0, Nat.zero_le _, rfl, hid (by simp)⟩
  case round =>
    obtain ⟨j, hj, rfl, ht⟩ := hrel
    by_cases hlt : j < co.length
    · obtain ⟨ba, oa, ha, _, _, hca⟩ := hs'.intAt (by omega)
      subst ha
      have q1 := hca j hlt
      generalize hy : co.getD j 0 = y at q1
      have Hy := hid hy; clear hy hca
      cases hq : inB y (-9) 9
      · have Hq : Hid (inB y (-9) 9 = false) := hid hq
        have hany : Hid (co.any (fun c => !inB c (-9) 9) = true) := hid (List.any_eq_true.2 ⟨y, by rw [← Hy.out, List.getD, List.getElem?_eq_getElem hlt]; exact List.getElem_mem _, by rw [Hq.out]; rfl⟩)
        go_wp2_with (go_at_call 29; refine (l1Within_any _ _ _ (by omega) (by omega)).mono ?_; rintro e w' ⟨rfl, rfl⟩; rw [Hq.out])
        go_ret
        exact ⟨ret_bool (by rw [Haf.out, hany.out]; simp), (Below.refl _ _).alloc (Nat.le_refl _) _⟩
      · have Hq : Hid (inB y (-9) 9 = true) := hid hq
        have Ht := hid (take_step (p := fun c => !inB c (-9) 9) ht.out hlt (by rw [Hy.out, Hq.out]; rfl))
        go_wp2_with (go_at_call 29; refine (l1Within_any _ _ _ (by omega) (by omega)).mono ?_; rintro e w' ⟨rfl, rfl⟩; rw [Hq.out])
        exact ⟨⟨j + 1, by omega, rfl, Ht⟩, by simp [intOf]; omega⟩
    · have hje : j = co.length := by omega
      subst hje
      have hany : Hid (co.any (fun c => !inB c (-9) 9) = false) := hid (by
        have := ht.out
        rw [List.take_length] at this
        rw [List.any_eq_false]
        intro x hx
        rw [this x hx]; simp)
      by_cases h4 : co.length = 4
      · have h4' : (((co.length : Nat) : Int) == 4) = true := by simp; omega
        have H4 := hid h4
        clear h4
        go_wp2_with (go_at_call 29; refine (l1Within_any _ _ _ (by omega) (by omega)).mono ?_; rintro e w' ⟨rfl, rfl⟩)
        go_ret
        exact ⟨ret_bool (by rw [Haf.out, hany.out, decide_eq_true H4.out]; simp), (Below.refl _ _).alloc (Nat.le_refl _) _⟩
      · have h4' : (((co.length : Nat) : Int) == 4) = false := by simp; omega
        have H4 := hid h4
        clear h4
        go_wp2
        go_ret
        exact ⟨ret_bool (by rw [Haf.out, hany.out, decide_eq_false H4.out]; simp), (Below.refl _ _).alloc (Nat.le_refl _) _⟩

/-- One more than the place of the last coefficient among the first k that is not zero. -/
def depthTo (co : List Int) : Nat → Nat
  | 0 => 0
  | k + 1 => if co.getD k 0 = 0 then depthTo co k else k + 1
def affDepth (x : Aff) : Nat := depthTo x.1 x.1.length
theorem depthTo_le (co : List Int) : ∀ k, depthTo co k ≤ k
  | 0 => Nat.le_refl _
  | k + 1 => by
    rw [depthTo]
    have := depthTo_le co k
    split <;> omega

/-- The value of the first k terms. -/
def evalTo (co p : List Int) : Nat → Int
  | 0 => 0
  | k + 1 => evalTo co p k + co.getD k 0 * p.getD k 0
def affEval (x : Aff) (p : List Int) : Int := x.2 + evalTo x.1 p p.length
def Small (p : List Int) : Prop := ∀ n ∈ p, -1099511627776 ≤ n ∧ n ≤ 1099511627776
theorem Small.getD {p : List Int} (h : Small p) (i : Nat) : -1099511627776 ≤ p.getD i 0 ∧ p.getD i 0 ≤ 1099511627776 := by
  rw [List.getD]
  cases e : p[i]? with
  | none => simp
  | some c => exact h c (List.mem_of_getElem? e)
theorem mul_bd {c x : Int} (h : -9 ≤ c ∧ c ≤ 9) (hx : -1099511627776 ≤ x ∧ x ≤ 1099511627776) : -9895604649984 ≤ c * x ∧ c * x ≤ 9895604649984 := by
  obtain ⟨h1, h2⟩ := h
  have : c = -9 ∨ c = -8 ∨ c = -7 ∨ c = -6 ∨ c = -5 ∨ c = -4 ∨ c = -3 ∨ c = -2 ∨ c = -1 ∨ c = 0 ∨ c = 1 ∨ c = 2 ∨ c = 3 ∨ c = 4 ∨ c = 5 ∨ c = 6 ∨ c = 7 ∨ c = 8 ∨ c = 9 := by omega
  rcases this with h | h | h | h | h | h | h | h | h | h | h | h | h | h | h | h | h | h | h <;> subst h <;> omega
theorem evalTo_bd {co p : List Int} (hc : ∀ i, -9 ≤ co.getD i 0 ∧ co.getD i 0 ≤ 9) (hp : Small p) : ∀ k : Nat, -9895604649984 * (k : Int) ≤ evalTo co p k ∧ evalTo co p k ≤ 9895604649984 * (k : Int)
  | 0 => by simp [evalTo]
  | k + 1 => by
    rw [evalTo]
    have h1 := evalTo_bd hc hp k
    have h2 := mul_bd (hc k) (hp.getD k)
    omega

def coB (x : Aff) : Prop := ∀ i, -9 ≤ x.1.getD i 0 ∧ x.1.getD i 0 ≤ 9
set_option maxHeartbeats 1600000 in
theorem eval_any (P Q : Nat → Prop) (v : Value) (x : Aff) (a2 : Option Addr) (n c2 : Nat) (p : List Int) (w : World) (h : AffR P w v x) (hp : Sl Sh.int Q w (.slice a2 n c2) p) (hV : affV x = true) (hS : Small p) (hn : n ≤ 4) :
    Calls Tryd.prog 35 #[v, .slice a2 n c2] w fun e w' => e = .returned (.int .i64 (affEval x p)) ∧ Below w.heap.size w w' := by
  have hco := affV_getD hV
  have hk := affV_const hV
  have hlen := affV_len hV
  obtain ⟨a, c, rfl, h1, h2, hs⟩ := h.shape
  obtain ⟨co, k⟩ := x
  simp only at hs h1 h2 hco hk hlen ⊢
  rw [hlen] at hs
  have hs' := hs.alloc (.cells #[.slice a 4 c, .int .i64 k] 25)
  have hp' := hp.alloc (.cells #[.slice a 4 c, .int .i64 k] 25)
  have hbd := evalTo_bd hco hS
  have hpl := hid hp.len
  have Hlen := hid hlen; have Hco := hid hco; have HS := hid hS; have Hbd := hid hbd
  have hax : Hid (affEval (co, k) p = k + evalTo co p n) := hid (by rw [affEval, hpl.out])
  clear hlen hco hS hbd hV h1
  obtain ⟨ba, oa, ha, _, _, hca⟩ := hs'.intAt (by omega)
  subst ha
  have Hca := hid hca; clear hca
  go_enter Tryd.func35, Tryd.ntmps35
  rw [Hlen.out]
  go_wp2
  go_loop [5, 12] (fun q i => ∃ j : Nat, j ≤ n ∧ i = .int .i64 j ∧ q = .int .i64 (k + evalTo co p j)) (fun _ i => n - (intOf i).toNat)
  case atStart => exact ⟨0, Nat.zero_le _, rfl, by simp [evalTo]⟩
  case round =>
    obtain ⟨j, hj, rfl, rfl⟩ := hrel
    by_cases hlt : j < n
    · obtain ⟨bb, ob, hb, _, _, hcb⟩ := hp'.intAt (by omega)
      subst hb
      have q1 := Hca.out j (by omega)
      have q2 := hcb j hlt
      have b0 := Hbd.out j
      have b1 := Hco.out j
      have b2 := HS.out.getD j
      have b3 := mul_bd b1 b2
      have he : evalTo co p (j + 1) = evalTo co p j + co.getD j 0 * p.getD j 0 := rfl
      generalize co.getD j 0 = y at q1 b3 he
      generalize p.getD j 0 = z at q2 b3 he
      generalize evalTo co p j = f at b0 he
      have He := hid he
      clear he hcb b1 b2
      go_wp2
      exact ⟨⟨j + 1, by omega, rfl, int_i64 (by rw [He.out]; omega)⟩, by simp [intOf]; omega⟩
    · have hje : j = n := by omega
      subst hje
      go_wp2
      go_ret
      exact ⟨ret_int hax.out.symm, (Below.refl _ _).alloc (Nat.le_refl _) _⟩
end Go.Proofs.YtkhlaphegnldeaaDoor
