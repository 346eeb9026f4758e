/- Part 5 of 6 of the proof: laws on memory and data, then what the functions compute, in the order in which they build on each other; conditions: those that each theorem names. -/
import Derived.Test.YtgcpdpbapgkdjaaP4

/- The points of a nest, their enumeration within limits by the program and by the reference; condition: none. -/
namespace Go.Proofs.Ytgcpdpbapgkdjaa
set_option linter.unusedVariables false
set_option linter.unusedSimpArgs false
open Go.RowKit

abbrev Pts := List (List Int)
def rIs (p : List Int) : List D := [dIs p]
def dPs (o : Pts) : D := .list 1 (o.map rIs)
def lenR (l : Lp) (p : List Int) : Nat := (hiF p l.2 - loF p l.1).toNat
def fromP (g : Int → Pts) : Nat → Int → Pts
  | 0, _ => []
  | k + 1, v => g v ++ fromP g k (v + 1)
def sumW (g : Int → Nat) : Nat → Int → Nat
  | 0, _ => 0
  | k + 1, v => g v + sumW g k (v + 1)
/-- The points of the loops ms behind the coordinates p. -/
def ptsG : List Lp → List Int → Pts
  | [], p => [p]
  | l :: ms, p => fromP (fun v => ptsG ms (p ++ [v])) (lenR l p) (loF p l.1)
/-- One more than the iterations of these loops. -/
def nodesG : List Lp → List Int → Nat
  | [], _ => 1
  | l :: ms, p => 1 + sumW (fun v => nodesG ms (p ++ [v])) (lenR l p) (loF p l.1)
theorem nodesG_pos : ∀ (ms : List Lp) (p : List Int), 1 ≤ nodesG ms p
  | [], _ => Nat.le_refl _
  | _ :: _, _ => by rw [nodesG]; omega

/-! ### The program's way -/
def iterW (f : Int → Nat → Pts → Bool × Nat × Pts) : Nat → Int → Nat → Pts → Bool × Nat × Pts
  | 0, _, s, o => (true, s, o)
  | k + 1, v, s, o => if (f v s o).1 = true then iterW f k (v + 1) (f v s o).2.1 (f v s o).2.2 else f v s o
def walkF : List Lp → List Int → Nat → Pts → Bool × Nat × Pts
  | [], p, s, o => (decide (o.length + 1 ≤ 120), s, o ++ [p])
  | l :: ms, p, s, o => iterW (fun v s o => if 1199 ≤ s then (false, s + 1, o) else walkF ms (p ++ [v]) (s + 1) o) (lenR l p) (loF p l.1) s o
def stepW (ms : List Lp) (p : List Int) (v : Int) (s : Nat) (o : Pts) : Bool × Nat × Pts := if 1199 ≤ s then (false, s + 1, o) else walkF ms (p ++ [v]) (s + 1) o
theorem walkF_cons (l : Lp) (ms : List Lp) (p : List Int) (s : Nat) (o : Pts) : walkF (l :: ms) p s o = iterW (stepW ms p) (lenR l p) (loF p l.1) s o := rfl
/-- What a step in the enumeration says: g iterations, the points q. -/
structure Stp (r : Bool × Nat × Pts) (s : Nat) (o : Pts) (g : Nat) (q : Pts) : Prop where
  ok : r.1 = true ↔ s + g ≤ 1199 ∧ o.length + q.length ≤ 120
  st : r.1 = true → r.2.1 = s + g ∧ r.2.2 = o ++ q
  grow : ∃ z, r.2.2 = o ++ z
  bs : r.2.1 ≤ 1200
  bo : r.2.2.length ≤ 121
theorem iterW_stp {f : Int → Nat → Pts → Bool × Nat × Pts} {g : Int → Nat} {q : Int → Pts} (hf : ∀ v s o, s ≤ 1199 → o.length ≤ 120 → Stp (f v s o) s o (g v) (q v)) :
    ∀ (k : Nat) (v : Int) (s : Nat) (o : Pts), s ≤ 1199 → o.length ≤ 120 → Stp (iterW f k v s o) s o (sumW g k v) (fromP q k v)
  | 0, v, s, o, hs, ho => ⟨⟨fun _ => ⟨by simpa [sumW] using hs, by simpa [fromP] using ho⟩, fun _ => rfl⟩, fun _ => ⟨rfl, by simp [iterW, fromP]⟩, ⟨[], by simp [iterW]⟩, by simp [iterW]; omega, by simp [iterW]; omega⟩
  | k + 1, v, s, o, hs, ho => by
    have h := hf v s o hs ho
    rw [iterW]
    by_cases hb : (f v s o).1 = true
    · rw [if_pos hb]
      obtain ⟨h1, h2⟩ := h.ok.1 hb
      obtain ⟨h3, h4⟩ := h.st hb
      rw [h3, h4]
      have ih := iterW_stp hf k (v + 1) (s + g v) (o ++ q v) h1 (by rw [List.length_append]; exact h2)
      refine ⟨?_, fun e => ?_, ?_, ih.bs, ih.bo⟩
      · rw [ih.ok, sumW, fromP, List.length_append, List.length_append]
        omega
      · obtain ⟨e1, e2⟩ := ih.st e
        rw [e1, e2, sumW, fromP, List.append_assoc]
        exact ⟨by omega, rfl⟩
      · obtain ⟨z, hz⟩ := ih.grow
        exact ⟨q v ++ z, by rw [hz, List.append_assoc]⟩
    · rw [if_neg hb]
      refine ⟨⟨fun e => absurd e hb, fun e => ?_⟩, fun e => absurd e hb, h.grow, h.bs, h.bo⟩
      rw [sumW, fromP, List.length_append] at e
      exact absurd (h.ok.2 ⟨by omega, by omega⟩) hb
theorem walkF_stp : ∀ (ms : List Lp) (p : List Int) (s : Nat) (o : Pts), s ≤ 1199 → o.length ≤ 120 → ∃ g, nodesG ms p = g + 1 ∧ Stp (walkF ms p s o) s o g (ptsG ms p)
  | [], p, s, o, hs, ho => ⟨0, rfl, ⟨by simp [walkF, ptsG]; omega, fun _ => ⟨rfl, rfl⟩, ⟨[p], rfl⟩, by simp [walkF]; omega, by simp [walkF]; omega⟩⟩
  | l :: ms, p, s, o, hs, ho => by
    refine ⟨_, by rw [nodesG, Nat.add_comm], ?_⟩
    rw [walkF_cons, ptsG]
    refine iterW_stp (fun v s o hs ho => ?_) _ _ s o hs ho
    rw [stepW]
    obtain ⟨g0, hg0⟩ : ∃ g0, nodesG ms (p ++ [v]) = g0 + 1 := ⟨nodesG ms (p ++ [v]) - 1, by have := nodesG_pos ms (p ++ [v]); omega⟩
    by_cases h9 : 1199 ≤ s
    · rw [if_pos h9]
      refine ⟨⟨fun e => (by cases e), fun e => ?_⟩, fun e => (by cases e), ⟨[], by simp⟩, by show s + 1 ≤ 1200; omega, by show o.length ≤ 121; omega⟩
      omega
    · rw [if_neg h9]
      obtain ⟨g, hg, h⟩ := walkF_stp ms (p ++ [v]) (s + 1) o (by omega) ho
      refine ⟨?_, fun e => ?_, h.grow, h.bs, h.bo⟩
      · rw [h.ok]; omega
      · obtain ⟨e1, e2⟩ := h.st e
        exact ⟨by rw [e1]; omega, e2⟩

/-! ### The reference's way -/
def iterN (f : Int → Int → Int) (most : Int) : Nat → Int → Int → Int
  | 0, _, n => n
  | k + 1, v, n => if n ≤ most then iterN f most k (v + 1) (f v n) else n
def workF : List Lp → List Int → Int → Int
  | [], _, _ => 1
  | l :: ms, p, most => iterN (fun v n => n + workF ms (p ++ [v]) (most - n)) most (lenR l p) (loF p l.1) 1
def iterP (f : Int → Pts → Pts) : Nat → Int → Pts → Pts
  | 0, _, o => o
  | k + 1, v, o => if o.length ≤ 120 then iterP f k (v + 1) (f v o) else o
def ptsF : List Lp → List Int → Pts → Pts
  | [], p, o => o ++ [p]
  | l :: ms, p, o => iterP (fun v o => ptsF ms (p ++ [v]) o) (lenR l p) (loF p l.1) o
theorem iterN_stop {f : Int → Int → Int} {most : Int} : ∀ {k : Nat} {v n : Int}, most < n → iterN f most k v n = n
  | 0, _, _, _ => rfl
  | k + 1, v, n, h => by rw [iterN, if_neg (by omega)]
theorem iterN_spec {f : Int → Int → Int} {most : Int} {g : Int → Nat} (hf : ∀ v n, n ≤ most → (n + g v ≤ most → f v n = n + g v) ∧ (most < n + g v → f v n = most + 1)) :
    ∀ (k : Nat) (v n : Int), n ≤ most → (n + sumW g k v ≤ most → iterN f most k v n = n + sumW g k v) ∧ (most < n + sumW g k v → iterN f most k v n = most + 1)
  | 0, v, n, h => ⟨fun _ => by simp [iterN, sumW], fun e => by simp [sumW] at e; omega⟩
  | k + 1, v, n, h => by
    obtain ⟨h1, h2⟩ := hf v n h
    rw [iterN, if_pos h, sumW]
    by_cases hg : n + g v ≤ most
    · rw [h1 hg]
      obtain ⟨h3, h4⟩ := iterN_spec hf k (v + 1) (n + g v) hg
      exact ⟨fun e => by rw [h3 (by omega)]; omega, fun e => h4 (by omega)⟩
    · rw [h2 (by omega), iterN_stop (by omega)]
      exact ⟨fun e => by omega, fun _ => rfl⟩
theorem workF_spec : ∀ (ms : List Lp) (p : List Int) (most : Int), 0 ≤ most → ((nodesG ms p : Int) ≤ most → workF ms p most = nodesG ms p) ∧ (most < nodesG ms p → workF ms p most = most + 1)
  | [], p, most, h => ⟨fun _ => rfl, fun e => by rw [nodesG] at e; rw [workF]; omega⟩
  | l :: ms, p, most, h => by
    rw [workF, nodesG]
    by_cases h1 : 1 ≤ most
    · have key := iterN_spec (f := fun v n => n + workF ms (p ++ [v]) (most - n)) (most := most) (g := fun v => nodesG ms (p ++ [v])) (fun v n hn => by
        obtain ⟨a, b⟩ := workF_spec ms (p ++ [v]) (most - n) (by omega)
        exact ⟨fun e => by show n + workF ms (p ++ [v]) (most - n) = _; rw [a (by omega)], fun e => by show n + workF ms (p ++ [v]) (most - n) = _; rw [b (by omega)]; omega⟩) (lenR l p) (loF p l.1) 1 h1
      exact ⟨fun e => by rw [key.1 (by omega)]; omega, fun e => key.2 (by omega)⟩
    · rw [iterN_stop (by omega)]
      exact ⟨fun e => by omega, fun e => by omega⟩
theorem iterP_stop {f : Int → Pts → Pts} : ∀ {k : Nat} {v : Int} {o : Pts}, 120 < o.length → iterP f k v o = o
  | 0, _, _, _ => rfl
  | k + 1, v, o, h => by rw [iterP, if_neg (by omega)]
/-- What the points of the reference say: all of them, or too many. -/
structure Ptp (r : Pts) (o q : Pts) : Prop where
  all : o.length + q.length ≤ 120 → r = o ++ q
  many : 120 < o.length + q.length → r.length = 121
theorem iterP_spec {f : Int → Pts → Pts} {q : Int → Pts} (hf : ∀ v o, o.length ≤ 120 → Ptp (f v o) o (q v)) : ∀ (k : Nat) (v : Int) (o : Pts), o.length ≤ 120 → Ptp (iterP f k v o) o (fromP q k v)
  | 0, v, o, h => ⟨fun _ => by simp [iterP, fromP], fun e => by simp [fromP] at e; omega⟩
  | k + 1, v, o, h => by
    have h1 := hf v o h
    rw [iterP, if_pos h, fromP]
    by_cases hg : o.length + (q v).length ≤ 120
    · rw [h1.all hg]
      have h2 := iterP_spec hf k (v + 1) (o ++ q v) (by rw [List.length_append]; exact hg)
      exact ⟨fun e => by rw [h2.all (by simp at e ⊢; omega), List.append_assoc], fun e => h2.many (by simp at e ⊢; omega)⟩
    · have h3 := h1.many (by omega)
      rw [iterP_stop (by omega)]
      exact ⟨fun e => by simp at e; omega, fun _ => h3⟩
theorem ptsF_spec : ∀ (ms : List Lp) (p : List Int) (o : Pts), o.length ≤ 120 → Ptp (ptsF ms p o) o (ptsG ms p)
  | [], p, o, h => ⟨fun _ => rfl, fun e => by simp [ptsG] at e; simp [ptsF]; omega⟩
  | l :: ms, p, o, h => by
    rw [ptsF, ptsG]
    exact iterP_spec (fun v o ho => ptsF_spec ms (p ++ [v]) o ho) _ _ _ h
theorem Ptp.len {r o q : Pts} (h : Ptp r o q) : r.length ≤ 121 := by
  by_cases hg : o.length + q.length ≤ 120
  · rw [h.all hg, List.length_append]; omega
  · rw [h.many (by omega)]; exact Nat.le_refl _
theorem Ptp.leq {r o q : Pts} (h : Ptp r o q) : r.length ≤ 120 ↔ o.length + q.length ≤ 120 := by
  by_cases hg : o.length + q.length ≤ 120
  · rw [h.all hg, List.length_append]
  · rw [h.many (by omega)]; omega
/-- Whether NestPoints answers; what it answers. -/
def okP (ns : List Lp) : Bool := nsV ns && (decide (nodesG ns [] ≤ 1200) && decide ((ptsG ns []).length ≤ 120))
def npR (ns : List Lp) : Pts := if okP ns = true then ptsG ns [] else []
theorem okP_iff {ns : List Lp} : okP ns = true ↔ nsV ns = true ∧ nodesG ns [] ≤ 1200 ∧ (ptsG ns []).length ≤ 120 := by simp [okP]

/-! ### Coordinates are small -/
def PB (p : List Int) : Prop := ∀ (i : Nat) x, p[i]? = some x → -(99 * 10 ^ i) ≤ x ∧ x ≤ 99 * 10 ^ i
theorem PB.nil : PB [] := fun i x h => by simp at h
theorem PB.getD {p : List Int} (h : PB p) (i : Nat) : -(99 * 10 ^ i) ≤ p.getD i 0 ∧ p.getD i 0 ≤ 99 * 10 ^ i := by
  rw [List.getD]
  cases e : p[i]? with
  | none => have : (0 : Int) < 10 ^ i := Int.pow_pos (by omega); simp; omega
  | some x => exact h i x e
theorem mul_bd9 {c z b : Int} (hc : -9 ≤ c ∧ c ≤ 9) (hz : -b ≤ z ∧ z ≤ b) : -(9 * b) ≤ c * z ∧ c * z ≤ 9 * b := by
  have h1 : 0 ≤ (9 - c) * (b + z) := Int.mul_nonneg (by omega) (by omega)
  have h2 : 0 ≤ (9 + c) * (b - z) := Int.mul_nonneg (by omega) (by omega)
  have h3 : 0 ≤ (9 - c) * (b - z) := Int.mul_nonneg (by omega) (by omega)
  have h4 : 0 ≤ (9 + c) * (b + z) := Int.mul_nonneg (by omega) (by omega)
  simp only [Int.sub_mul, Int.add_mul, Int.mul_sub, Int.mul_add] at h1 h2 h3 h4
  omega
theorem evalTo_bd9 {x : Aff} (hx : affV x = true) {p : List Int} (hp : PB p) : ∀ k : Nat, -(99 * 10 ^ k) + 99 ≤ evalTo x.1 p k ∧ evalTo x.1 p k ≤ 99 * 10 ^ k - 99
  | 0 => by simp [evalTo]
  | k + 1 => by
    have h1 := evalTo_bd9 hx hp k
    have h2 := mul_bd9 (affV_getD hx k) (hp.getD k)
    rw [evalTo, Int.pow_succ]
    omega
theorem affEval_bd {x : Aff} (hx : affV x = true) {p : List Int} (hp : PB p) : -(99 * 10 ^ p.length) ≤ affEval x p ∧ affEval x p ≤ 99 * 10 ^ p.length := by
  have h1 := evalTo_bd9 hx hp p.length
  have h2 := affV_const hx
  rw [affEval]; omega
theorem mxF_ge (p : List Int) : ∀ (l : List Aff) (m : Int), m ≤ mxF p m l
  | [], m => Int.le_refl _
  | x :: l, m => by have := mxF_ge p l (max m (affEval x p)); rw [mxF]; omega
theorem mxF_le {p : List Int} {b : Int} : ∀ (l : List Aff) (m : Int), m ≤ b → (∀ x ∈ l, affEval x p ≤ b) → mxF p m l ≤ b
  | [], m, h, _ => h
  | x :: l, m, h, h2 => by
    rw [mxF]
    exact mxF_le l _ (by have := h2 x (by simp); omega) (fun y hy => h2 y (by simp [hy]))
theorem mnF_le (p : List Int) : ∀ (l : List Aff) (m : Int), mnF p m l ≤ m
  | [], m => Int.le_refl _
  | x :: l, m => by have := mnF_le p l (min m (affEval x p)); rw [mnF]; omega
theorem mnF_ge {p : List Int} {b : Int} : ∀ (l : List Aff) (m : Int), b ≤ m → (∀ x ∈ l, b ≤ affEval x p) → b ≤ mnF p m l
  | [], m, h, _ => h
  | x :: l, m, h, h2 => by
    rw [mnF]
    exact mnF_ge l _ (by have := h2 x (by simp); omega) (fun y hy => h2 y (by simp [hy]))
theorem loF_bd {p : List Int} (hp : PB p) : ∀ {l : List Aff}, l ≠ [] → (∀ a ∈ l, affV a = true) → -(99 * 10 ^ p.length) ≤ loF p l ∧ loF p l ≤ 99 * 10 ^ p.length
  | [], h, _ => absurd rfl h
  | x :: l, _, h => by
    have h1 := affEval_bd (h x (by simp)) hp
    have h2 := mxF_ge p l (affEval x p)
    have h3 := mxF_le (p := p) l (affEval x p) h1.2 (fun y hy => (affEval_bd (h y (by simp [hy])) hp).2)
    rw [loF]; omega
theorem hiF_bd {p : List Int} (hp : PB p) : ∀ {l : List Aff}, l ≠ [] → (∀ a ∈ l, affV a = true) → -(99 * 10 ^ p.length) ≤ hiF p l ∧ hiF p l ≤ 99 * 10 ^ p.length
  | [], h, _ => absurd rfl h
  | x :: l, _, h => by
    have h1 := affEval_bd (h x (by simp)) hp
    have h2 := mnF_le p l (affEval x p)
    have h3 := mnF_ge (p := p) l (affEval x p) h1.1 (fun y hy => (affEval_bd (h y (by simp [hy])) hp).1)
    rw [hiF]; omega
theorem pow_le4 {k : Nat} (hk : k ≤ 4) : (10 : Int) ^ k ≤ 10000 := by
  match k, hk with
  | 0, _ => decide
  | 1, _ => decide
  | 2, _ => decide
  | 3, _ => decide
  | 4, _ => decide
theorem PB.small {p : List Int} (h : PB p) (hl : p.length ≤ 4) : Small p := by
  intro n hn
  obtain ⟨i, hi⟩ := List.mem_iff_getElem?.1 hn
  have h1 := h i n hi
  have h2 := pow_le4 (k := i) (by have := (List.getElem?_eq_some_iff.1 hi).1; omega)
  omega
theorem PB.snoc {p : List Int} (h : PB p) {v : Int} (hv : -(99 * 10 ^ p.length) ≤ v ∧ v ≤ 99 * 10 ^ p.length) : PB (p ++ [v]) := by
  intro i x hx
  rw [List.getElem?_append] at hx
  split at hx
  · exact h i x hx
  · rename_i hi
    have h1 : i = p.length := by
      have := (List.getElem?_eq_some_iff.1 hx).1
      simp at this; omega
    subst h1
    simp at hx; subst hx; exact hv
end Go.Proofs.Ytgcpdpbapgkdjaa

/- Plain law: the lexicographic order of lists of numbers is a strict total order; no condition. -/
namespace Go.Proofs.Ytgcpdpbapgkdjaa
set_option linter.unusedVariables false
set_option linter.unusedSimpArgs false

def cmpL : List Int → List Int → Int
  | [], [] => 0
  | [], _ :: _ => -1
  | _ :: _, [] => 1
  | x :: xs, y :: ys => if x < y then -1 else if y < x then 1 else cmpL xs ys
def lexB (xs ys : List Int) : Bool := decide (cmpL xs ys < 0)
theorem cmpL_self : ∀ xs, cmpL xs xs = 0
  | [] => rfl
  | x :: xs => by rw [cmpL, if_neg (by omega), if_neg (by omega), cmpL_self xs]
theorem cmpL_anti : ∀ xs ys, cmpL ys xs = - cmpL xs ys
  | [], [] => rfl
  | [], _ :: _ => rfl
  | _ :: _, [] => rfl
  | x :: xs, y :: ys => by
    rw [cmpL, cmpL, cmpL_anti xs ys]
    by_cases h1 : x < y
    · rw [if_neg (by omega), if_pos h1, if_pos h1]; rfl
    · by_cases h2 : y < x
      · rw [if_pos h2, if_neg h1, if_pos h2]
      · rw [if_neg h2, if_neg h1, if_neg h1, if_neg h2]
theorem cmpL_zero : ∀ xs ys, cmpL xs ys = 0 → xs = ys
  | [], [], _ => rfl
  | [], _ :: _, h => by simp [cmpL] at h
  | _ :: _, [], h => by simp [cmpL] at h
  | x :: xs, y :: ys, h => by
    rw [cmpL] at h
    by_cases h1 : x < y
    · rw [if_pos h1] at h; omega
    · by_cases h2 : y < x
      · rw [if_neg h1, if_pos h2] at h; omega
      · rw [if_neg h1, if_neg h2] at h
        rw [cmpL_zero xs ys h, show x = y by omega]
theorem cmpL_trans : ∀ xs ys zs, cmpL xs ys < 0 → cmpL ys zs < 0 → cmpL xs zs < 0
  | [], [], [], h1, _ => by simp [cmpL] at h1
  | [], _ :: _, [], _, h2 => by simp [cmpL] at h2
  | [], _, _ :: _, _, _ => by simp [cmpL]
  | _ :: _, [], _, h1, _ => by simp [cmpL] at h1
  | _ :: _, _ :: _, [], _, h2 => by simp [cmpL] at h2
  | x :: xs, y :: ys, z :: zs, h1, h2 => by
    rw [cmpL] at h1 h2 ⊢
    by_cases a1 : x < y
    · by_cases b1 : y < z
      · rw [if_pos (by omega)]; omega
      · by_cases b2 : z < y
        · rw [if_neg b1, if_pos b2] at h2; omega
        · rw [if_pos (by omega)]; omega
    · by_cases a2 : y < x
      · rw [if_neg a1, if_pos a2] at h1; omega
      · rw [if_neg a1, if_neg a2] at h1
        by_cases b1 : y < z
        · rw [if_pos (by omega)]; omega
        · by_cases b2 : z < y
          · rw [if_neg b1, if_pos b2] at h2; omega
          · rw [if_neg b1, if_neg b2] at h2
            rw [if_neg (by omega), if_neg (by omega)]
            exact cmpL_trans xs ys zs h1 h2
/-- Behind a common beginning. -/
theorem cmpL_drop {xs ys : List Int} : ∀ {k : Nat}, xs.take k = ys.take k → k ≤ xs.length → k ≤ ys.length → cmpL xs ys = cmpL (xs.drop k) (ys.drop k) := by
  intro k
  induction k generalizing xs ys with
  | zero => intros; simp
  | succ k ih =>
    intro h h1 h2
    cases xs with
    | nil => simp at h1
    | cons x xs =>
      cases ys with
      | nil => simp at h2
      | cons y ys =>
        simp only [List.take_succ_cons, List.cons.injEq] at h
        obtain ⟨rfl, h⟩ := h
        rw [List.drop_succ_cons, List.drop_succ_cons, cmpL, if_neg (by omega), if_neg (by omega)]
        exact ih h (by simpa using h1) (by simpa using h2)
theorem cmpL_at {xs ys : List Int} {k : Nat} (h : xs.take k = ys.take k) (h1 : k < xs.length) (h2 : k < ys.length) (hne : xs.getD k 0 ≠ ys.getD k 0) : cmpL xs ys = if xs.getD k 0 < ys.getD k 0 then -1 else 1 := by
  rw [cmpL_drop h (by omega) (by omega), List.drop_eq_getElem_cons h1, List.drop_eq_getElem_cons h2, cmpL]
  simp only [List.getD, List.getElem?_eq_getElem h1, List.getElem?_eq_getElem h2, Option.getD_some] at hne ⊢
  by_cases a : xs[k] < ys[k]
  · rw [if_pos a, if_pos a]
  · rw [if_neg a, if_neg a, if_pos (by omega)]
theorem cmpL_endL {xs ys : List Int} (h : xs.take xs.length = ys.take xs.length) (h2 : xs.length < ys.length) : cmpL xs ys = -1 := by
  rw [cmpL_drop h (Nat.le_refl _) (by omega), List.drop_length, List.drop_eq_getElem_cons h2]; rfl
theorem cmpL_endR {xs ys : List Int} (h : xs.take ys.length = ys.take ys.length) (h2 : ys.length < xs.length) : cmpL xs ys = 1 := by
  rw [cmpL_drop h (by omega) (Nat.le_refl _), List.drop_length, List.drop_eq_getElem_cons h2]; rfl
theorem cmpL_endE {xs ys : List Int} (h : xs.take xs.length = ys.take xs.length) (h2 : xs.length = ys.length) : cmpL xs ys = 0 := by
  rw [List.take_length, h2, List.take_length] at h
  rw [h, cmpL_self]
end Go.Proofs.Ytgcpdpbapgkdjaa

/- The points of a nest: which they are, their order, their coordinates; condition: none. -/
namespace Go.Proofs.Ytgcpdpbapgkdjaa
set_option linter.unusedVariables false
set_option linter.unusedSimpArgs false
open Go.RowKit

theorem mem_fromP {g : Int → Pts} {x : List Int} : ∀ {k : Nat} {v : Int}, x ∈ fromP g k v ↔ ∃ u, v ≤ u ∧ u < v + k ∧ x ∈ g u
  | 0, v => by
    simp only [fromP, List.not_mem_nil, false_iff]
    rintro ⟨u, h1, h2, _⟩; omega
  | k + 1, v => by
    rw [fromP, List.mem_append, mem_fromP (k := k)]
    refine ⟨fun h => ?_, fun ⟨u, h1, h2, h3⟩ => ?_⟩
    · rcases h with h | ⟨u, h1, h2, h3⟩
      · exact ⟨v, by omega, by omega, h⟩
      · exact ⟨u, by omega, by omega, h3⟩
    · by_cases e : u = v
      · subst e; exact .inl h3
      · exact .inr ⟨u, by omega, by omega, h3⟩
theorem take_snocP {x p : List Int} {v : Int} : x.take (p.length + 1) = p ++ [v] ↔ x.take p.length = p ∧ x[p.length]? = some v := by
  refine ⟨fun h => ?_, fun ⟨h1, h2⟩ => ?_⟩
  · have h1 : x.take p.length = p := by
      have := congrArg (List.take p.length) h
      rw [List.take_take, Nat.min_eq_left (by omega)] at this
      rw [this]; simp
    refine ⟨h1, ?_⟩
    have := congrArg (·[p.length]?) h
    simpa [List.getElem?_take] using this
  · rw [List.take_add_one, h1, h2]; rfl
theorem mem_ptsG : ∀ {ms : List Lp} {p x : List Int}, x ∈ ptsG ms p ↔ x.length = p.length + ms.length ∧ x.take p.length = p ∧ inG x p.length ms = true
  | [], p, x => by
    simp only [ptsG, List.mem_singleton, inG, List.length_nil, Nat.add_zero, and_true]
    refine ⟨fun e => by subst e; simp, fun ⟨h1, h2⟩ => by rw [← h1, List.take_length] at h2; exact h2⟩
  | l :: ms, p, x => by
    rw [ptsG, mem_fromP, inG, Bool.and_eq_true, Bool.and_eq_true, decide_eq_true_eq, decide_eq_true_eq]
    refine ⟨fun ⟨u, h1, h2, h3⟩ => ?_, fun ⟨h1, h2, ⟨h3, h4⟩, h5⟩ => ?_⟩
    · rw [mem_ptsG, snoc_len'] at h3
      obtain ⟨a, b, c⟩ := h3
      obtain ⟨b1, b2⟩ := take_snocP.1 b
      have hg : x.getD p.length 0 = u := getD_some b2
      rw [b1, hg]
      refine ⟨by simp at a ⊢; omega, rfl, ⟨h1, ?_⟩, c⟩
      rw [lenR] at h2; omega
    · rw [h2] at h3 h4
      have hx : x[p.length]? = some (x.getD p.length 0) := by
        rw [List.getD, List.getElem?_eq_getElem (by simp at h1; omega)]; rfl
      refine ⟨x.getD p.length 0, h3, by rw [lenR]; omega, ?_⟩
      rw [mem_ptsG, snoc_len']
      exact ⟨by simp at h1 ⊢; omega, take_snocP.2 ⟨h2, hx⟩, h5⟩
where
  snoc_len' {p : List Int} {v : Int} : (p ++ [v]).length = p.length + 1 := by simp
theorem mem_pts {ns : List Lp} {x : List Int} : x ∈ ptsG ns [] ↔ x.length = ns.length ∧ inG x 0 ns = true := by
  rw [mem_ptsG]; simp

/-! ### Coordinates -/
theorem inG_at {x : List Int} : ∀ {ms : List Lp} {i : Nat}, inG x i ms = true → ∀ (j : Nat) l, ms[j]? = some l → loF (x.take (i + j)) l.1 ≤ x.getD (i + j) 0 ∧ x.getD (i + j) 0 < hiF (x.take (i + j)) l.2
  | [], i, h, j, l, hl => by simp at hl
  | m :: ms, i, h, j, l, hl => by
    rw [inG, Bool.and_eq_true, Bool.and_eq_true, decide_eq_true_eq, decide_eq_true_eq] at h
    cases j with
    | zero => simp at hl; subst hl; exact h.1
    | succ j =>
      have := inG_at h.2 j l (by simpa using hl)
      rwa [show i + 1 + j = i + (j + 1) by omega] at this
theorem inG_of {x : List Int} : ∀ {ms : List Lp} {i : Nat}, (∀ (j : Nat) l, ms[j]? = some l → loF (x.take (i + j)) l.1 ≤ x.getD (i + j) 0 ∧ x.getD (i + j) 0 < hiF (x.take (i + j)) l.2) → inG x i ms = true
  | [], i, h => rfl
  | m :: ms, i, h => by
    rw [inG, Bool.and_eq_true, Bool.and_eq_true, decide_eq_true_eq, decide_eq_true_eq]
    refine ⟨h 0 m rfl, inG_of fun j l hl => ?_⟩
    have := h (j + 1) l (by simpa using hl)
    rwa [show i + 1 + j = i + (j + 1) by omega]
theorem inG_iff {x : List Int} {ns : List Lp} : inG x 0 ns = true ↔ ∀ (j : Nat) l, ns[j]? = some l → loF (x.take j) l.1 ≤ x.getD j 0 ∧ x.getD j 0 < hiF (x.take j) l.2 :=
  ⟨fun h j l hl => by have := inG_at h j l hl; rwa [Nat.zero_add] at this, fun h => inG_of fun j l hl => by rw [Nat.zero_add]; exact h j l hl⟩
theorem getD_take {x : List Int} {i j : Nat} (h : j < i) : (x.take i).getD j 0 = x.getD j 0 := by
  rw [List.getD, List.getD, List.getElem?_take, if_pos h]
/-- Coordinates that lie in the ranges are small. -/
theorem PB_of_in {ns : List Lp} (hv : nsV ns = true) {x : List Int} (hl : x.length = ns.length) (h : inG x 0 ns = true) : ∀ k, k ≤ ns.length → PB (x.take k)
  | 0, _ => by rw [List.take_zero]; exact PB.nil
  | k + 1, hk => by
    have ih := PB_of_in hv hl h k (by omega)
    have hx : x[k]? = some (x.getD k 0) := by rw [List.getD, List.getElem?_eq_getElem (by omega)]; rfl
    obtain ⟨l, hl2⟩ : ∃ l, ns[k]? = some l := ⟨_, List.getElem?_eq_getElem (by omega)⟩
    have h1 := inG_iff.1 h k l hl2
    have hk4 := (nsV_at hv).1
    have hlen : (x.take k).length = k := by rw [List.length_take]; omega
    have hR := okR_of hv hl2 (ih.small (by omega)) (by omega)
    have h2 := loF_bd ih hR.n1 hR.v1
    have h3 := hiF_bd ih hR.n2 hR.v2
    rw [hlen] at h2 h3
    rw [List.take_add_one, hx]
    exact ih.snoc (by rw [hlen]; omega)
theorem isPt_of {ns : List Lp} (hv : nsV ns = true) (h3 : ns.length ≤ 3) {x : List Int} (hl : x.length = ns.length) (h : inG x 0 ns = true) : isPt x = true := by
  have hp := PB_of_in hv hl h ns.length (Nat.le_refl _)
  rw [← hl, List.take_length] at hp
  rw [isPt, Bool.and_eq_true, decide_eq_true_eq]
  refine ⟨by omega, ?_⟩
  rw [Bool.not_eq_true', List.any_eq_false]
  intro n hn
  obtain ⟨i, hi⟩ := List.mem_iff_getElem?.1 hn
  have h1 := hp i n hi
  have hi3 : i < 3 := by have := (List.getElem?_eq_some_iff.1 hi).1; omega
  have h10 : (10 : Int) ^ i ≤ 100 := by
    match i, hi3 with
    | 0, _ => decide
    | 1, _ => decide
    | 2, _ => decide
  simp only [Bool.not_eq_true', inB, Bool.not_eq_false, decide_eq_true_eq]
  omega
theorem isPt_take {p : List Int} (h : isPt p = true) (i : Nat) : isPt (p.take i) = true := by
  rw [isPt, Bool.and_eq_true, decide_eq_true_eq, Bool.not_eq_true', List.any_eq_false] at h ⊢
  exact ⟨by rw [List.length_take]; omega, fun n hn => h.2 n (List.mem_of_mem_take hn)⟩
/-- A point of a nest with at most three loops is in it. -/
theorem inV_of {ns : List Lp} (hv : nsV ns = true) (h3 : ns.length ≤ 3) {x : List Int} (h : x ∈ ptsG ns []) : inV ns x = true := by
  obtain ⟨h1, h2⟩ := mem_pts.1 h
  rw [inV, hv, isPt_of hv h3 h1 h2, decide_eq_true h1, h2]; rfl
theorem mem_of_inV {ns : List Lp} {x : List Int} (h : inV ns x = true) : x ∈ ptsG ns [] := by
  rw [inV, Bool.and_eq_true, Bool.and_eq_true, Bool.and_eq_true, decide_eq_true_eq] at h
  exact mem_pts.2 ⟨h.1.2, h.2⟩
theorem inV_iff {ns : List Lp} (hv : nsV ns = true) (h3 : ns.length ≤ 3) {x : List Int} : inV ns x = decide (x ∈ ptsG ns []) := by
  rw [Bool.eq_iff_iff, decide_eq_true_eq]
  exact ⟨mem_of_inV, inV_of hv h3⟩
/-- Outer loops. -/
theorem nsV_take {ns : List Lp} (hv : nsV ns = true) (k : Nat) : nsV (ns.take k) = true := by
  have key : ∀ (ms : List Lp) (i k : Nat), nestG i ms = true → nestG i (ms.take k) = true := by
    intro ms
    induction ms with
    | nil => intro i k _; simp [nestG]
    | cons m ms ih =>
      intro i k h
      cases k with
      | zero => rfl
      | succ k =>
        rw [List.take_succ_cons]
        rw [nestG, Bool.and_eq_true] at h ⊢
        exact ⟨h.1, ih _ _ h.2⟩
  rw [nsV, Bool.and_eq_true, decide_eq_true_eq] at hv ⊢
  exact ⟨by rw [List.length_take]; omega, key _ _ _ hv.2⟩
theorem inV_take {ns : List Lp} (hv : nsV ns = true) (h3 : ns.length ≤ 3) {x : List Int} (h : x ∈ ptsG ns []) {k : Nat} (hk : k ≤ ns.length) : inV (ns.take k) (x.take k) = true := by
  obtain ⟨h1, h2⟩ := mem_pts.1 h
  have hg : inG (x.take k) 0 (ns.take k) = true := inG_iff.2 fun j l hl => by
    rw [List.getElem?_take] at hl
    split at hl
    · rename_i hj
      have := inG_iff.1 h2 j l hl
      rw [getD_take hj, List.take_take, Nat.min_eq_left (by omega)]
      exact this
    · cases hl
  have hlen : (x.take k).length = (ns.take k).length := by rw [List.length_take, List.length_take]; omega
  rw [inV, nsV_take hv, isPt_take (isPt_of hv h3 h1 h2), decide_eq_true hlen, hg]; rfl

/-! ### Order -/
theorem lex_at : ∀ {p x y : List Int} {u v : Int}, x.take p.length = p → y.take p.length = p → x[p.length]? = some u → y[p.length]? = some v → u < v → lexB x y = true
  | [], x :: xs, y :: ys, u, v, _, _, hu, hv, h => by
    simp at hu hv; subst hu hv
    rw [lexB, cmpL, if_pos h]; rfl
  | a :: p, x :: xs, y :: ys, u, v, hx, hy, hu, hv, h => by
    rw [List.length_cons, List.take_succ_cons, List.cons.injEq] at hx hy
    obtain ⟨rfl, hx⟩ := hx
    obtain ⟨rfl, hy⟩ := hy
    have := lex_at hx hy (by simpa using hu) (by simpa using hv) h
    rw [lexB] at this ⊢
    rw [cmpL, if_neg (by omega), if_neg (by omega)]; exact this
  | [], [], _, _, _, _, _, hu, _, _ => by simp at hu
  | [], _ :: _, [], _, _, _, _, _, hv, _ => by simp at hv
  | _ :: _, [], _, _, _, hx, _, _, _, _ => by simp at hx
  | _ :: _, _ :: _, [], _, _, _, hy, _, _, _ => by simp at hy
theorem pairwise_fromP {R : List Int → List Int → Prop} {g : Int → Pts} (hin : ∀ u, (g u).Pairwise R) (hout : ∀ u v x y, u < v → x ∈ g u → y ∈ g v → R x y) : ∀ (k : Nat) (v : Int), (fromP g k v).Pairwise R
  | 0, v => List.Pairwise.nil
  | k + 1, v => by
    rw [fromP, List.pairwise_append]
    refine ⟨hin v, pairwise_fromP hin hout k (v + 1), fun x hx y hy => ?_⟩
    obtain ⟨u, h1, h2, h3⟩ := mem_fromP.1 hy
    exact hout v u x y (by omega) hx h3
theorem pts_asc : ∀ (ms : List Lp) (p : List Int), (ptsG ms p).Pairwise fun x y => lexB x y = true
  | [], p => List.pairwise_singleton _ _
  | l :: ms, p => by
    rw [ptsG]
    refine pairwise_fromP (fun u => pts_asc ms (p ++ [u])) (fun u v x y huv hx hy => ?_) _ _
    have h1 := (mem_ptsG.1 hx).2.1
    have h2 := (mem_ptsG.1 hy).2.1
    rw [show (p ++ [u]).length = p.length + 1 by simp] at h1
    rw [show (p ++ [v]).length = p.length + 1 by simp] at h2
    obtain ⟨a1, a2⟩ := take_snocP.1 h1
    obtain ⟨b1, b2⟩ := take_snocP.1 h2
    exact lex_at a1 b1 a2 b2 huv
theorem asc_next {o : Pts} (h : o.Pairwise fun x y => lexB x y = true) {i : Nat} {x y : List Int} (hx : o[i]? = some x) (hy : o[i + 1]? = some y) : lexB x y = true := by
  obtain ⟨h1, rfl⟩ := List.getElem?_eq_some_iff.1 hx
  obtain ⟨h2, rfl⟩ := List.getElem?_eq_some_iff.1 hy
  exact List.pairwise_iff_getElem.1 h i (i + 1) h1 h2 (by omega)
theorem lex_lt {p q : List Int} : lexB p q = true ↔ cmpL p q < 0 := by simp [lexB]
end Go.Proofs.Ytgcpdpbapgkdjaa

/- Comparing slices with nil; what the enumeration of points holds in memory; condition: none. -/
namespace Go.Proofs.Ytgcpdpbapgkdjaa
set_option linter.unusedVariables false
set_option linter.unusedSimpArgs false
open Go.RowKit

section
variable {P : Program} {n : Nat} {ops : Array Oper} {o : Oper} {σ : St} {d : Nat} {t t2 e : TypeId} {x : Operand}
theorem St1.eqNilF (e : TypeId) {sz : Nat} {rows : List (List D)} (ho : o.op = .binOp .eql t x (.const (.slice none 0 0)) t2) (hg : o.guard = none) (hd : o.dst = some d) (hn : Nat.blt d n = true) (hx : ev σ x = some (.o (.c (.d (.list sz rows))))) (h0 : 0 < rows.length) (ht : P.underlying t = some (.slice e) := by kernel_rfl) :
    St1 P n ops o σ (rd x) [.t d] ((.t d, .v (.o (bo1 false))) :: σ) :=
  St1.value hg hd hn fun E bx τ a w hR hs => by
    obtain ⟨ad, cap, e1, _, _, _, h4⟩ := (ev_list hx hR hs).slice
    obtain ⟨b, off, rfl, _⟩ := h4 h0
    have hv : a.eval (.const (.slice none 0 0)) = .slice none 0 0 := rfl
    refine ⟨⟨.bool false, ?_, .val _ rfl⟩, fun k hk => by cases hk⟩
    simp only [execOp, ho, e1, hv]
    rw [Sem.run_bind]
    simp [eqGuard, Lib.run_eql_slice_nil w t e _ _ _ 0 0 ht]
theorem St1.eqNilT (e : TypeId) (ho : o.op = .binOp .eql t x (.const (.slice none 0 0)) t2) (hg : o.guard = none) (hd : o.dst = some d) (hn : Nat.blt d n = true) (hx : ev σ x = some (.o (.c (.d (.val (.slice none 0 0)))))) (ht : P.underlying t = some (.slice e) := by kernel_rfl) :
    St1 P n ops o σ (rd x) [.t d] ((.t d, .v (.o (bo1 true))) :: σ) :=
  St1.value hg hd hn fun E bx τ a w hR hs => by
    have hv : a.eval (.const (.slice none 0 0)) = .slice none 0 0 := rfl
    refine ⟨⟨.bool true, ?_, .val _ rfl⟩, fun k hk => by cases hk⟩
    simp only [execOp, ho, ev_val hx hR hs, hv]
    rw [Sem.run_bind]
    simp [eqGuard, Lib.run_eql_slice_nil w t e _ _ _ 0 0 ht]
end
/-- What holds of an empty list holds of nil. -/
theorem dr_nil {B : Nat → Prop} {w : World} {v : Value} (sz : Nat) (h : Dr B w (.val (.slice none 0 0)) v) : Dr B w (.list sz []) v := by
  cases h
  exact Dr.list sz [] none 0 0 0 0 (fun _ _ => undef) rfl (Nat.le_refl _) (by omega) (fun _ => rfl) (fun h => by simp at h) (fun i r h => by simp at h) (fun i r j x h => by simp at h) (fun i r j x h => by simp at h)
abbrev vN : V1 := vD (.val (.slice none 0 0))
theorem Fn.nilArg {P : Program} {f : FuncId} {hb hb' : St} {pre post : List V1} {sz : Nat} {y : V} (F : Fn P f hb (pre ++ vD (.list sz []) :: post) y hb') : Fn P f hb (pre ++ vN :: post) y hb' := by
  intro B bx w vs hh hv
  refine F B bx w vs hh ⟨by simpa using hv.1, fun i x v hx hv' => ?_⟩
  by_cases hi : i = pre.length
  · subst hi
    simp at hx
    subst hx
    exact dr_nil sz (hv.2 pre.length vN v (by simp) hv')
  · refine hv.2 i x v ?_ hv'
    rw [List.getElem?_append] at hx ⊢
    split at hx
    · rename_i h1; rw [if_pos h1]; exact hx
    · rename_i h1
      rw [if_neg h1]
      obtain ⟨j, hj⟩ : ∃ j, i - pre.length = j + 1 := ⟨i - pre.length - 1, by omega⟩
      rw [hj] at hx ⊢
      exact hx
theorem iterW_lt {f : Int → Nat → Pts → Bool × Nat × Pts} {hi v : Int} {s : Nat} {o : Pts} (h : v < hi) : iterW f (hi - v).toNat v s o = if (f v s o).1 = true then iterW f (hi - (v + 1)).toNat (v + 1) (f v s o).2.1 (f v s o).2.2 else f v s o := by
  obtain ⟨k, hk⟩ : ∃ k, (hi - v).toNat = k + 1 := ⟨(hi - v).toNat - 1, by omega⟩
  rw [hk, iterW, show (hi - (v + 1)).toNat = k by omega]
theorem iterW_ge {f : Int → Nat → Pts → Bool × Nat × Pts} {hi v : Int} {s : Nat} {o : Pts} (h : ¬ v < hi) : iterW f (hi - v).toNat v s o = (true, s, o) := by
  rw [show (hi - v).toNat = 0 by omega]; rfl
theorem iterW_grow {f : Int → Nat → Pts → Bool × Nat × Pts} (hf : ∀ v s o, ∃ z, (f v s o).2.2 = o ++ z) : ∀ (k : Nat) (v : Int) (s : Nat) (o : Pts), ∃ z, (iterW f k v s o).2.2 = o ++ z
  | 0, v, s, o => ⟨[], by simp [iterW]⟩
  | k + 1, v, s, o => by
    rw [iterW]
    obtain ⟨z, hz⟩ := hf v s o
    split
    · obtain ⟨z2, h2⟩ := iterW_grow hf k (v + 1) (f v s o).2.1 (f v s o).2.2
      exact ⟨z ++ z2, by rw [h2, hz, List.append_assoc]⟩
    · exact ⟨z, hz⟩
theorem walkF_grow : ∀ (ms : List Lp) (p : List Int) (s : Nat) (o : Pts), ∃ z, (walkF ms p s o).2.2 = o ++ z
  | [], p, s, o => ⟨[p], rfl⟩
  | l :: ms, p, s, o => by
    rw [walkF_cons]
    refine iterW_grow (fun v s o => ?_) _ _ _ _
    rw [stepW]
    split
    · exact ⟨[], by simp⟩
    · exact walkF_grow ms (p ++ [v]) (s + 1) o
theorem stepW_grow (ms : List Lp) (p : List Int) (v : Int) (s : Nat) (o : Pts) : ∃ z, (stepW ms p v s o).2.2 = o ++ z := by
  rw [stepW]
  split
  · exact ⟨[], by simp⟩
  · exact walkF_grow ms (p ++ [v]) (s + 1) o
theorem dIs_snoc (p : List Int) (v : Int) : dIs (p ++ [v]) = .list 1 (p.map rI ++ [rI v]) := by rw [dIs, List.map_append]; rfl

/-! ### The walking struct -/
def rWk (ns : List Lp) (s : Nat) : List D := [dLs ns, dI (s : Nat), .val (.slice none 0 0)]
def hbN (ns : List Lp) (s : Nat) : St := [(.b 0, .b 79 3 (dR [rWk ns s])), (.u 0, .u)]
def hbO (k : Nat) (ns : List Lp) (s : Nat) (o : Pts) : St := [(.b 0, .b 79 3 [[.d (dLs ns), .d (dI (s : Nat)), .own k 1 o.length]]), (.u 0, .u), (.b k, .b 28 1 (dR (o.map rIs))), (.u k, .u)]
theorem hbN_HB (ns : List Lp) (s : Nat) : HB (hbN ns s) := HB.nil.data
theorem hbN_flat (ns : List Lp) (s : Nat) : flatS (hbN ns s) := flatS.nil.cons rfl
theorem hbO_HB (k : Nat) (ns : List Lp) (s : Nat) (o : Pts) : HB (hbO k ns s o) := HB.cons HB.nil.data (by
  intro r hr c hc l hl
  rw [List.mem_singleton.1 hr] at hc
  have : l = k := by
    rcases List.mem_cons.1 hc with rfl | hc
    · cases hl
    · rcases List.mem_cons.1 hc with rfl | hc
      · cases hl
      · rcases List.mem_cons.1 hc with rfl | hc
        · simpa [C.refs] using hl
        · cases hc
  subst this
  rw [lk_cons]
  by_cases e : l = 0
  · subst e; rw [upd_same]; exact fun e => by cases e
  · rw [upd_other _ _ (by simpa using e), lk_cons, upd_other _ _ (by simp), lk_cons, upd_same]; exact fun e => by cases e)
theorem hbO_flat1 (ns : List Lp) (s : Nat) (o : Pts) : flatS (hbO 1 ns s o) := (flatS.nil.cons rfl).cons rfl
theorem hbO_flat3 (ns : List Lp) (s : Nat) (o : Pts) : flatS (hbO 1000 ns s o) := (flatS.nil.cons rfl).cons rfl
theorem al_N {ns : List Lp} {s k : Nat} (h : Al (lk (hbN ns s)) k) : k = 0 := by
  obtain ⟨e, sz, rows, h⟩ := h
  have hm := lk_mem h (by simp)
  simp only [hbN, List.mem_cons, List.not_mem_nil, or_false] at hm
  rcases hm with hm | hm
  · cases hm; rfl
  · cases hm
theorem al_O {k0 : Nat} {ns : List Lp} {s : Nat} {o : Pts} {k : Nat} (h : Al (lk (hbO k0 ns s o)) k) : k = 0 ∨ k = k0 := by
  obtain ⟨e, sz, rows, h⟩ := h
  have hm := lk_mem h (by simp)
  simp only [hbO, List.mem_cons, List.not_mem_nil, or_false] at hm
  rcases hm with hm | hm | hm | hm
  · cases hm; exact .inl rfl
  · cases hm
  · cases hm; exact .inr rfl
  · cases hm
theorem num_NN (ns : List Lp) (s s' : Nat) : ∀ k, k < 100 → Al (lk (hbN ns s')) k → Al (lk (hbN ns s)) k := fun k _ h => by rw [al_N h]; exact ⟨_, _, _, rfl⟩
theorem num_NO (ns : List Lp) (s s' : Nat) (o : Pts) : ∀ k, k < 100 → Al (lk (hbO 1000 ns s' o)) k → Al (lk (hbN ns s)) k := fun k hk h => by
  rcases al_O h with rfl | rfl
  · exact ⟨_, _, _, rfl⟩
  · omega
theorem num_OO (ns : List Lp) (s s' : Nat) (o o' : Pts) : ∀ k, k < 100 → Al (lk (hbO 1000 ns s' o')) k → Al (lk (hbO 1 ns s o)) k := fun k hk h => by
  rcases al_O h with rfl | rfl
  · exact ⟨_, _, _, rfl⟩
  · omega
theorem outS_O {inv : Inv} {k : Nat} {ns : List Lp} {s : Nat} {o : Pts} : outS inv (hbO k ns s o) = [(.b (asc inv 0), .b 79 3 [[.d (dLs ns), .d (dI (s : Nat)), .own (asc inv k) 1 o.length]]), (.u (asc inv 0), .u), (.b (asc inv k), .b 28 1 (dR (o.map rIs))), (.u (asc inv k), .u)] := by
  show [(Res.b (asc inv 0), RC.b _ 3 [[C.d (dLs ns), C.d (dI (s : Nat)), C.own (asc inv k) 1 o.length]]), (.u (asc inv 0), .u), (.b (asc inv k), .b _ 1 (renR (asc inv) (dR (o.map rIs)))), (.u (asc inv k), .u)] = _
  rw [renR_dR]
/-- What walk does behind the coordinates p (handed in as the content x). -/
structure WOk (ns : List Lp) (ms : List Lp) (p : List Int) (x : D) (s : Nat) (o : Pts) : Prop where
  nn : o = [] → (walkF ms p s o).2.2 = [] → Fn Try.prog 59 (hbN ns s) [.c (.box 0 3 0 0), vD x] (.o (bo1 (walkF ms p s o).1)) (hbN ns (walkF ms p s o).2.1)
  no : o = [] → (walkF ms p s o).2.2 ≠ [] → Fn Try.prog 59 (hbN ns s) [.c (.box 0 3 0 0), vD x] (.o (bo1 (walkF ms p s o).1)) (hbO 1000 ns (walkF ms p s o).2.1 (walkF ms p s o).2.2)
  oo : o ≠ [] → Fn Try.prog 59 (hbO 1 ns s o) [.c (.box 0 3 0 0), vD x] (.o (bo1 (walkF ms p s o).1)) (hbO 1000 ns (walkF ms p s o).2.1 (walkF ms p s o).2.2)
end Go.Proofs.Ytgcpdpbapgkdjaa

/- Copies of slices of numbers; condition: none. -/
namespace Go.Proofs.Ytgcpdpbapgkdjaa
set_option linter.unusedVariables false
set_option linter.unusedSimpArgs false
open Go.RowKit

set_option maxRecDepth 100000 in
set_option maxHeartbeats 1600000 in
theorem clone_own {p : List Int} (hp : 0 < p.length) (hp2 : p.length ≤ 4294967296) : Fn Try.prog 95 [] [vD (dIs p)] (.o (.c (.own 100 1 p.length))) [(.b 100, .b 3 1 (dR (p.map rI))), (.u 100, .u)] := by
  refine Fn.of_code Try.func95 rfl rfl HB.nil rfl rfl HB.nil.data rfl (one_num rfl) ?_
  refine ACode.seq ?_
  refine ACode.region ?_
  refine .cons (.asg rfl rfl) ?_
  refine .nil ?_
  refine ks_n ?_
  refine ACode.seq ?_
  refine ACode.seq ?_
  refine ACode.region ?_
  refine .cons (.mv rfl rfl) ?_
  refine .cons (.eqNilF 3 rfl rfl rfl rfl rfl (by simp; exact hp)) ?_
  refine .nil ?_
  refine ks_n ?_
  refine ACode.condT rfl (fun h => by first | (cases h; done) | (simp [*] at h; done) | (exfalso; simp_all; done)) (fun _ => ?_)
  refine ACode.skip ?_
  refine ks_n ?_
  refine ACode.seq ?_
  refine ACode.region ?_
  refine .cons (St1.lit0 (k' := 105) (e := 3) (sz := 1) (b := true) rfl rfl rfl rfl (by kernel_rfl) rfl rfl) ?_
  refine .cons (.mv rfl rfl) ?_
  refine .cons (St1.appB (k' := 107) (e := 3) (sz := 0) (by' := 8) rfl rfl rfl rfl rfl (by kernel_rfl) rfl rfl rfl rfl rfl (by simp; omega) rfl rfl rfl) ?_
  refine .cons (.asg rfl rfl) ?_
  refine .nil ?_
  refine ks_n ?_
  refine ACode.ret ?_
  refine kf_wret [(.t 2, .v (.o (.c (.own 100 1 (p.length))))), (.b 100, .b 3 1 (dR (p.map rI))), (.u 100, .u)] (Wk.keep [(100, 107)] rfl rfl ⟨ks rfl (.c .ow), kb 107 rfl (.dt rfl (by first | rfl | (simp [dR]; done))), trivial⟩) rfl ?_ (one_box rfl)
  rfl

set_option maxRecDepth 100000 in
set_option maxHeartbeats 1600000 in
theorem clone_dat {p : List Int} (hp : 0 < p.length) (hp2 : p.length ≤ 4294967296) : Fn Try.prog 95 [] [vD (dIs p)] (.o (vD (dIs p))) [] := by
  refine Fn.code0 Try.func95 rfl rfl rfl rfl ?_
  refine ACode.seq ?_
  refine ACode.region ?_
  refine .cons (.asg rfl rfl) ?_
  refine .nil ?_
  refine ks_n ?_
  refine ACode.seq ?_
  refine ACode.seq ?_
  refine ACode.region ?_
  refine .cons (.mv rfl rfl) ?_
  refine .cons (.eqNilF 3 rfl rfl rfl rfl rfl (by simp; exact hp)) ?_
  refine .nil ?_
  refine ks_n ?_
  refine ACode.condT rfl (fun h => by first | (cases h; done) | (simp [*] at h; done) | (exfalso; simp_all; done)) (fun _ => ?_)
  refine ACode.skip ?_
  refine ks_n ?_
  refine ACode.seq ?_
  refine ACode.region ?_
  refine .cons (St1.lit0 (k' := 105) (e := 3) (sz := 1) (b := true) rfl rfl rfl rfl (by kernel_rfl) rfl rfl) ?_
  refine .cons (.mv rfl rfl) ?_
  refine .cons (St1.appB (k' := 107) (e := 3) (sz := 0) (by' := 8) rfl rfl rfl rfl rfl (by kernel_rfl) rfl rfl rfl rfl rfl (by simp; omega) rfl rfl rfl) ?_
  refine .cons (.asg rfl rfl) ?_
  refine .nil ?_
  refine ks_n ?_
  refine ACode.ret ?_
  refine kf_wret [(.t 2, .v (.o (vD (dIs p))))] (Wk.keep [] rfl rfl ⟨ks rfl (.c (.fz rfl)), trivial⟩) rfl ?_ nobox
  rfl

set_option maxRecDepth 100000 in
set_option maxHeartbeats 1600000 in
theorem clone_nilN  : Fn Try.prog 95 [] [vN] (.o vN) [] := by
  refine Fn.code0 Try.func95 rfl rfl rfl rfl ?_
  refine ACode.seq ?_
  refine ACode.region ?_
  refine .cons (.asg rfl rfl) ?_
  refine .nil ?_
  refine ks_n ?_
  refine ACode.seq ?_
  refine ACode.seq ?_
  refine ACode.region ?_
  refine .cons (.mv rfl rfl) ?_
  refine .cons (.eqNilT 3 rfl rfl rfl rfl rfl) ?_
  refine .nil ?_
  refine ks_n ?_
  refine ACode.condT rfl (fun _ => ?_) (fun h => by first | (cases h; done) | (simp [*] at h; done) | (exfalso; simp_all; done))
  refine ACode.seq ?_
  refine ACode.region ?_
  refine .cons (.asg rfl rfl) ?_
  refine .nil ?_
  refine ks_n ?_
  refine ACode.ret ?_
  refine ks_r ?_
  refine kf_ret rfl ?_ nobox
  rfl

set_option maxRecDepth 100000 in
set_option maxHeartbeats 1600000 in
theorem clone_nilD  : Fn Try.prog 95 [] [vN] (.o (vD (dIs []))) [] := by
  refine Fn.code0 Try.func95 rfl rfl rfl rfl ?_
  refine ACode.seq ?_
  refine ACode.region ?_
  refine .cons (.asg rfl rfl) ?_
  refine .nil ?_
  refine ks_n ?_
  refine ACode.seq ?_
  refine ACode.seq ?_
  refine ACode.region ?_
  refine .cons (.mv rfl rfl) ?_
  refine .cons (.eqNilT 3 rfl rfl rfl rfl rfl) ?_
  refine .nil ?_
  refine ks_n ?_
  refine ACode.condT rfl (fun _ => ?_) (fun h => by first | (cases h; done) | (simp [*] at h; done) | (exfalso; simp_all; done))
  refine ACode.seq ?_
  refine ACode.region ?_
  refine .cons (.asg rfl rfl) ?_
  refine .nil ?_
  refine ks_n ?_
  refine ACode.ret ?_
  refine ks_r ?_
  refine kf_wret [(.t 2, .v (.o (vD (dIs []))))] (Wk.keep [] rfl rfl ⟨ks rfl (.c (.nil _)), trivial⟩) rfl ?_ nobox
  rfl

end Go.Proofs.Ytgcpdpbapgkdjaa

/- Ranges of loops and points in nests; condition: small nests. -/
namespace Go.Proofs.Ytgcpdpbapgkdjaa
set_option linter.unusedVariables false
set_option linter.unusedSimpArgs false
open Go.RowKit

set_option maxRecDepth 100000 in
set_option maxHeartbeats 1600000 in
theorem span_fn {l : Lp} {p : List Int} (h : okR l p) : Fn Try.prog 68 [] [ad (rL l), vD (dIs p)] (.tup [nat1 (loF p l.1), nat1 (hiF p l.2)]) [] := by
  obtain ⟨x0, hx0⟩ := ne_at h.n1
  obtain ⟨y0, hy0⟩ := ne_at h.n2
  have hb1 := h.b1
  have hb2 := h.b2
  refine Fn.code0 Try.func68 rfl rfl rfl rfl ?_
  refine ACode.seq ?_
  refine ACode.region ?_
  refine .cons (St1.boxP rfl rfl rfl rfl rfl rfl) ?_
  refine .cons (.asg rfl rfl) ?_
  refine .cons (.asg rfl rfl) ?_
  refine .nil ?_
  refine ks_n ?_
  refine ACode.seq ?_
  refine ACode.drawK (by kernel_rfl) (by kernel_rfl) ?_
  refine .cons (.fP 0 0 false rfl rfl) ?_
  refine .cons (.l1 1 rfl rfl) ?_
  refine .cons (.xL 51 2 32 (i := 0) rfl rfl rfl rfl rfl (map_at hx0)) ?_
  refine .cons (.lN 2 rfl rfl rfl) ?_
  refine .cons (.mv rfl rfl) ?_
  refine .cons (.cP [.tmp 15, .tmp 16] rfl rfl rfl rfl (eval_fn (h.v1 _ (List.mem_of_getElem? hx0)) h.sm h.ln) rfl) ?_
  refine .cons (.fP 1 0 false rfl rfl) ?_
  refine .cons (.l1 1 rfl rfl) ?_
  refine .cons (.xL 51 2 32 (i := 0) rfl rfl rfl rfl rfl (map_at hy0)) ?_
  refine .cons (.lN 2 rfl rfl rfl) ?_
  refine .cons (.mv rfl rfl) ?_
  refine .cons (.cP [.tmp 21, .tmp 22] rfl rfl rfl rfl (eval_fn (h.v2 _ (List.mem_of_getElem? hy0)) h.sm h.ln) rfl) ?_
  refine .cons (.asg rfl rfl) ?_
  refine .cons (.asg rfl rfl) ?_
  refine .nil ⟨by kernel_rfl, ?_⟩
  refine ks_n ?_
  refine ACode.seq ?_
  refine ACode.seq ?_
  refine ACode.region ?_
  refine .cons (.fP 0 0 false rfl rfl) ?_
  refine .cons (.l1 1 rfl rfl) ?_
  refine .cons (.ln 51 2 32 rfl rfl rfl) ?_
  refine .cons (.mv rfl rfl) ?_
  refine .nil ?_
  refine ks_n ?_
  refine ACode.block ?_
  refine .loopK (fun m σ => (∃ (i : Nat) (c : Int), m = l.1.length - i ∧ (i ≤ l.1.length) ∧ (loF p l.1 = mxF p c (l.1.drop i)) ∧ σ = [(.t 1, .v (.o (vD (dIs p)))), (.t 2, .v (.o (.c (.ptr (rL l))))), (.t 6, .v (.o (nat1 c))), (.t 7, .v (.o (nat1 (affEval y0 p)))), (.t 25, .v (.o (vD (dAs l.1)))), (.t 26, .v (.o (nat1 (l.1.length : Nat)))), (.t 27, .v (.o (nat1 (i : Nat))))])) [] ⟨0, affEval x0 p, rfl, (by omega), (loF_zero hx0), rfl⟩ ⟨ks rfl .dt, ks rfl .dt, ks rfl .dt, ks rfl .dt, ks rfl .dt, ks rfl .dt, ks rfl .dt, trivial⟩ ?_
  rintro m σ ⟨i, c, hm0, hi, hF, rfl⟩
  refine ACode.seq ?_
  refine ACode.region ?_
  refine .cons (.ls rfl rfl rfl) ?_
  refine .nil ?_
  refine ks_n ?_
  refine ACode.seq ?_
  refine .cD rfl (fun h28 => ?_) (fun h28 => ?_)
  · skip
    obtain ⟨x, hx1⟩ : ∃ x, l.1[i]? = some x := ⟨_, List.getElem?_eq_getElem (by omega)⟩
    refine ACode.skip ?_
    refine ks_n ?_
    refine ACode.seq ?_
    refine ACode.block ?_
    refine ACode.seq ?_
    refine ACode.region ?_
    refine .cons (.xL 51 2 32 rfl rfl rfl rfl rfl) ?_
    refine .cons (.lN 2 rfl rfl rfl) ?_
    refine .cons (.al 109 [.slice none 0 0, .int .i64 0] rfl rfl rfl) ?_
    refine .cons (.sT 2 true rfl rfl rfl rfl rfl rfl rfl) ?_
    refine .nil ?_
    refine ks_n ?_
    refine ACode.region ?_
    refine .cons (.mv rfl rfl) ?_
    refine .cons (.bN 2 rfl rfl rfl rfl rfl rfl) ?_
    refine .cons (.mv rfl rfl) ?_
    refine .cons (.cP [.tmp 32, .tmp 33] rfl rfl rfl rfl (eval_fn (h.v1 _ (List.mem_of_getElem? hx1)) h.sm h.ln) rfl) ?_
    refine .cons (St1.max2 rfl rfl rfl rfl rfl rfl) ?_
    refine .cons (.asg rfl rfl) ?_
    refine .nil ?_
    refine kb_n ?_
    refine ks_n ?_
    refine ACode.region ?_
    refine .cons (.pl rfl rfl rfl) ?_
    refine .cons (.mv rfl rfl) ?_
    refine .nil ?_
    refine kl_k [] ⟨i + 1, max c (affEval x p), rfl, by omega, by rw [hF, mxF_drop hx1], rfl⟩ ⟨ks rfl .dt, ks rfl .dt, ks rfl .dt, ks rfl .dt, ks rfl .dt, ks rfl .dt, ks rfl .dt, trivial⟩
  · skip
    have hlo : V.o (nat1 c) = .o (nat1 (loF p l.1)) := by rw [hF, mxF_end (by omega)]
    refine ACode.exit ?_
    refine ks_e ?_
    refine kl_e ?_
    refine kb_hit ?_
    refine ks_n ?_
    refine ACode.seq ?_
    refine ACode.seq ?_
    refine ACode.region ?_
    refine .cons (.fP 1 0 false rfl rfl) ?_
    refine .cons (.l1 1 rfl rfl) ?_
    refine .cons (.ln 51 2 32 rfl rfl rfl) ?_
    refine .cons (.mv rfl rfl) ?_
    refine .nil ?_
    refine ks_n ?_
    refine ACode.block ?_
    refine .loopK (fun m σ => (∃ (i : Nat) (c : Int), m = l.2.length - i ∧ (i ≤ l.2.length) ∧ (hiF p l.2 = mnF p c (l.2.drop i)) ∧ σ = [(.t 1, .v (.o (vD (dIs p)))), (.t 2, .v (.o (.c (.ptr (rL l))))), (.t 6, .v (.o (nat1 (loF p l.1)))), (.t 7, .v (.o (nat1 c))), (.t 38, .v (.o (vD (dAs l.2)))), (.t 39, .v (.o (nat1 (l.2.length : Nat)))), (.t 40, .v (.o (nat1 (i : Nat))))])) [] ⟨0, affEval y0 p, rfl, (by omega), (hiF_zero hy0), rfl⟩ ⟨ks rfl .dt, ks rfl .dt, ks rfl (.dt (by first | rfl | exact hlo)), ks rfl .dt, ks rfl .dt, ks rfl .dt, ks rfl .dt, trivial⟩ ?_
    rintro m σ ⟨i, c, hm0, hi, hF, rfl⟩
    refine ACode.seq ?_
    refine ACode.region ?_
    refine .cons (.ls rfl rfl rfl) ?_
    refine .nil ?_
    refine ks_n ?_
    refine ACode.seq ?_
    refine .cD rfl (fun h41 => ?_) (fun h41 => ?_)
    · skip
      obtain ⟨x, hx1⟩ : ∃ x, l.2[i]? = some x := ⟨_, List.getElem?_eq_getElem (by omega)⟩
      refine ACode.skip ?_
      refine ks_n ?_
      refine ACode.seq ?_
      refine ACode.block ?_
      refine ACode.seq ?_
      refine ACode.region ?_
      refine .cons (.xL 51 2 32 rfl rfl rfl rfl rfl) ?_
      refine .cons (.lN 2 rfl rfl rfl) ?_
      refine .cons (.al 111 [.slice none 0 0, .int .i64 0] rfl rfl rfl) ?_
      refine .cons (.sT 2 true rfl rfl rfl rfl rfl rfl rfl) ?_
      refine .nil ?_
      refine ks_n ?_
      refine ACode.region ?_
      refine .cons (.mv rfl rfl) ?_
      refine .cons (.bN 2 rfl rfl rfl rfl rfl rfl) ?_
      refine .cons (.mv rfl rfl) ?_
      refine .cons (.cP [.tmp 45, .tmp 46] rfl rfl rfl rfl (eval_fn (h.v2 _ (List.mem_of_getElem? hx1)) h.sm h.ln) rfl) ?_
      refine .cons (St1.min2 rfl rfl rfl rfl rfl rfl) ?_
      refine .cons (.asg rfl rfl) ?_
      refine .nil ?_
      refine kb_n ?_
      refine ks_n ?_
      refine ACode.region ?_
      refine .cons (.pl rfl rfl rfl) ?_
      refine .cons (.mv rfl rfl) ?_
      refine .nil ?_
      refine kl_k [] ⟨i + 1, min c (affEval x p), rfl, by omega, by rw [hF, mnF_drop hx1], rfl⟩ ⟨ks rfl .dt, ks rfl .dt, ks rfl (.dt (by first | rfl | exact hlo)), ks rfl .dt, ks rfl .dt, ks rfl .dt, ks rfl .dt, trivial⟩
    · skip
      have hhi : c = hiF p l.2 := by rw [hF, mnF_end (by omega)]
      refine ACode.exit ?_
      refine ks_e ?_
      refine kl_e ?_
      refine kb_hit ?_
      refine ks_n ?_
      refine ACode.seq ?_
      refine ACode.region ?_
      refine .cons (.mv rfl rfl) ?_
      refine .cons (.mv rfl rfl) ?_
      refine .cons (.asg rfl rfl) ?_
      refine .cons (.asg rfl rfl) ?_
      refine .nil ?_
      refine ks_n ?_
      refine ACode.ret ?_
      refine kf_ret rfl ?_ nobox
      rw [hhi]; rfl

set_option maxRecDepth 100000 in
set_option maxHeartbeats 1600000 in
theorem l2Range_fn {l : Lp} {p : List Int} (h : okR l p) : Fn Try.prog 71 [] [ad (rL l), vD (dIs p)] (.tup [nat1 (loF p l.1), nat1 (hiF p l.2)]) [] := by
  obtain ⟨x0, hx0⟩ := ne_at h.n1
  obtain ⟨y0, hy0⟩ := ne_at h.n2
  have hb1 := h.b1
  have hb2 := h.b2
  refine Fn.code0 Try.func71 rfl rfl rfl rfl ?_
  refine ACode.seq ?_
  refine ACode.region ?_
  refine .cons (St1.boxP rfl rfl rfl rfl rfl rfl) ?_
  refine .cons (.asg rfl rfl) ?_
  refine .cons (.asg rfl rfl) ?_
  refine .nil ?_
  refine ks_n ?_
  refine ACode.seq ?_
  refine ACode.region ?_
  refine .cons (.fP 0 0 false rfl rfl) ?_
  refine .cons (.l1 1 rfl rfl) ?_
  refine .cons (.xL 51 2 32 (i := 0) rfl rfl rfl rfl rfl (map_at hx0)) ?_
  refine .cons (.lN 2 rfl rfl rfl) ?_
  refine .cons (.mv rfl rfl) ?_
  refine .cons (.cP [.tmp 15, .tmp 16] rfl rfl rfl rfl (l1Eval_fn (h.v1 _ (List.mem_of_getElem? hx0)) h.sm h.ln) rfl) ?_
  refine .cons (.asg rfl rfl) ?_
  refine .nil ?_
  refine ks_n ?_
  refine ACode.seq ?_
  refine ACode.region ?_
  refine .cons (.fP 1 0 false rfl rfl) ?_
  refine .cons (.l1 1 rfl rfl) ?_
  refine .cons (.xL 51 2 32 (i := 0) rfl rfl rfl rfl rfl (map_at hy0)) ?_
  refine .cons (.lN 2 rfl rfl rfl) ?_
  refine .cons (.mv rfl rfl) ?_
  refine .cons (.cP [.tmp 21, .tmp 22] rfl rfl rfl rfl (l1Eval_fn (h.v2 _ (List.mem_of_getElem? hy0)) h.sm h.ln) rfl) ?_
  refine .cons (.asg rfl rfl) ?_
  refine .nil ?_
  refine ks_n ?_
  refine ACode.seq ?_
  refine ACode.seq ?_
  refine ACode.region ?_
  refine .cons (.asg rfl rfl) ?_
  refine .nil ?_
  refine ks_n ?_
  refine ACode.block ?_
  refine .loopK (fun m σ => (∃ (i : Nat) (c : Int), m = l.1.length - i ∧ (i ≤ l.1.length) ∧ (loF p l.1 = mxF p c (l.1.drop i)) ∧ σ = [(.t 1, .v (.o (vD (dIs p)))), (.t 2, .v (.o (.c (.ptr (rL l))))), (.t 6, .v (.o (nat1 c))), (.t 7, .v (.o (nat1 (affEval y0 p)))), (.t 8, .v (.o (nat1 (i : Nat))))])) [] ⟨1, affEval x0 p, rfl, (by have := (List.getElem?_eq_some_iff.1 hx0).1; omega), (loF_one hx0), rfl⟩ ⟨ks rfl .dt, ks rfl .dt, ks rfl (.dt (by first | rfl | exact congrArg (fun z => V.o (nat1 z)) (mx_le h40).symm | exact congrArg (fun z => V.o (nat1 z)) (mx_lt h40).symm)), ks rfl .dt, ks rfl .dt, trivial⟩ ?_
  rintro m σ ⟨i, c, hm0, hi, hF, rfl⟩
  refine ACode.seq ?_
  refine ACode.seq ?_
  refine ACode.region ?_
  refine .cons (.mv rfl rfl) ?_
  refine .cons (.fP 0 0 false rfl rfl) ?_
  refine .cons (.l1 1 rfl rfl) ?_
  refine .cons (.ln 51 2 32 rfl rfl rfl) ?_
  refine .cons (.ls rfl rfl rfl) ?_
  refine .nil ?_
  refine ks_n ?_
  refine .cD rfl (fun h28 => ?_) (fun h28 => ?_)
  · skip
    obtain ⟨x, hx1⟩ : ∃ x, l.1[i]? = some x := ⟨_, List.getElem?_eq_getElem (by omega)⟩
    refine ACode.skip ?_
    refine ks_n ?_
    refine ACode.seq ?_
    refine ACode.block ?_
    refine ACode.seq ?_
    refine ACode.region ?_
    refine .cons (.fP 0 0 false rfl rfl) ?_
    refine .cons (.l1 1 rfl rfl) ?_
    refine .cons (.mv rfl rfl) ?_
    refine .cons (.xL 51 2 32 rfl rfl rfl rfl rfl) ?_
    refine .cons (.lN 2 rfl rfl rfl) ?_
    refine .cons (.mv rfl rfl) ?_
    refine .cons (.cP [.tmp 35, .tmp 36] rfl rfl rfl rfl (l1Eval_fn (h.v1 _ (List.mem_of_getElem? hx1)) h.sm h.ln) rfl) ?_
    refine .cons (.asg rfl rfl) ?_
    refine .nil ?_
    refine ks_n ?_
    refine ACode.seq ?_
    refine ACode.region ?_
    refine .cons (.mv rfl rfl) ?_
    refine .cons (.mv rfl rfl) ?_
    refine .cons (.gt rfl rfl rfl) ?_
    refine .nil ?_
    refine ks_n ?_
    refine .cD rfl (fun h40 => ?_) (fun h40 => ?_)
    · skip
      refine ACode.region ?_
      refine .cons (.mv rfl rfl) ?_
      refine .cons (.asg rfl rfl) ?_
      refine .nil ?_
      refine kb_n ?_
      refine ks_n ?_
      refine ACode.region ?_
      refine .cons (.mv rfl rfl) ?_
      refine .cons (.pl rfl rfl rfl) ?_
      refine .cons (.asg rfl rfl) ?_
      refine .nil ?_
      refine kl_k [] ⟨i + 1, max c (affEval x p), rfl, by omega, by rw [hF, mxF_drop hx1], rfl⟩ ⟨ks rfl .dt, ks rfl .dt, ks rfl (.dt (by first | rfl | exact congrArg (fun z => V.o (nat1 z)) (mx_le h40).symm | exact congrArg (fun z => V.o (nat1 z)) (mx_lt h40).symm)), ks rfl .dt, ks rfl .dt, trivial⟩
    · skip
      refine ACode.skip ?_
      refine kb_n ?_
      refine ks_n ?_
      refine ACode.region ?_
      refine .cons (.mv rfl rfl) ?_
      refine .cons (.pl rfl rfl rfl) ?_
      refine .cons (.asg rfl rfl) ?_
      refine .nil ?_
      refine kl_k [] ⟨i + 1, max c (affEval x p), rfl, by omega, by rw [hF, mxF_drop hx1], rfl⟩ ⟨ks rfl .dt, ks rfl .dt, ks rfl (.dt (by first | rfl | exact congrArg (fun z => V.o (nat1 z)) (mx_le h40).symm | exact congrArg (fun z => V.o (nat1 z)) (mx_lt h40).symm)), ks rfl .dt, ks rfl .dt, trivial⟩
  · skip
    have hlo : V.o (nat1 c) = .o (nat1 (loF p l.1)) := by rw [hF, mxF_end (by omega)]
    refine ACode.exit ?_
    refine ks_e ?_
    refine kl_e ?_
    refine kb_hit ?_
    refine ks_n ?_
    refine ACode.seq ?_
    refine ACode.seq ?_
    refine ACode.region ?_
    refine .cons (.asg rfl rfl) ?_
    refine .nil ?_
    refine ks_n ?_
    refine ACode.block ?_
    refine .loopK (fun m σ => (∃ (i : Nat) (c : Int), m = l.2.length - i ∧ (i ≤ l.2.length) ∧ (hiF p l.2 = mnF p c (l.2.drop i)) ∧ σ = [(.t 1, .v (.o (vD (dIs p)))), (.t 2, .v (.o (.c (.ptr (rL l))))), (.t 6, .v (.o (nat1 (loF p l.1)))), (.t 7, .v (.o (nat1 c))), (.t 10, .v (.o (nat1 (i : Nat))))])) [] ⟨1, affEval y0 p, rfl, (by have := (List.getElem?_eq_some_iff.1 hy0).1; omega), (hiF_one hy0), rfl⟩ ⟨ks rfl .dt, ks rfl .dt, ks rfl (.dt (by first | rfl | exact hlo)), ks rfl (.dt (by first | rfl | exact congrArg (fun z => V.o (nat1 z)) (mn_le h58).symm | exact congrArg (fun z => V.o (nat1 z)) (mn_lt h58).symm)), ks rfl .dt, trivial⟩ ?_
    rintro m σ ⟨i, c, hm0, hi, hF, rfl⟩
    refine ACode.seq ?_
    refine ACode.seq ?_
    refine ACode.region ?_
    refine .cons (.mv rfl rfl) ?_
    refine .cons (.fP 1 0 false rfl rfl) ?_
    refine .cons (.l1 1 rfl rfl) ?_
    refine .cons (.ln 51 2 32 rfl rfl rfl) ?_
    refine .cons (.ls rfl rfl rfl) ?_
    refine .nil ?_
    refine ks_n ?_
    refine .cD rfl (fun h46 => ?_) (fun h46 => ?_)
    · skip
      obtain ⟨x, hx1⟩ : ∃ x, l.2[i]? = some x := ⟨_, List.getElem?_eq_getElem (by omega)⟩
      refine ACode.skip ?_
      refine ks_n ?_
      refine ACode.seq ?_
      refine ACode.block ?_
      refine ACode.seq ?_
      refine ACode.region ?_
      refine .cons (.fP 1 0 false rfl rfl) ?_
      refine .cons (.l1 1 rfl rfl) ?_
      refine .cons (.mv rfl rfl) ?_
      refine .cons (.xL 51 2 32 rfl rfl rfl rfl rfl) ?_
      refine .cons (.lN 2 rfl rfl rfl) ?_
      refine .cons (.mv rfl rfl) ?_
      refine .cons (.cP [.tmp 53, .tmp 54] rfl rfl rfl rfl (l1Eval_fn (h.v2 _ (List.mem_of_getElem? hx1)) h.sm h.ln) rfl) ?_
      refine .cons (.asg rfl rfl) ?_
      refine .nil ?_
      refine ks_n ?_
      refine ACode.seq ?_
      refine ACode.region ?_
      refine .cons (.mv rfl rfl) ?_
      refine .cons (.mv rfl rfl) ?_
      refine .cons (.ls rfl rfl rfl) ?_
      refine .nil ?_
      refine ks_n ?_
      refine .cD rfl (fun h58 => ?_) (fun h58 => ?_)
      · skip
        refine ACode.region ?_
        refine .cons (.mv rfl rfl) ?_
        refine .cons (.asg rfl rfl) ?_
        refine .nil ?_
        refine kb_n ?_
        refine ks_n ?_
        refine ACode.region ?_
        refine .cons (.mv rfl rfl) ?_
        refine .cons (.pl rfl rfl rfl) ?_
        refine .cons (.asg rfl rfl) ?_
        refine .nil ?_
        refine kl_k [] ⟨i + 1, min c (affEval x p), rfl, by omega, by rw [hF, mnF_drop hx1], rfl⟩ ⟨ks rfl .dt, ks rfl .dt, ks rfl (.dt (by first | rfl | exact hlo)), ks rfl (.dt (by first | rfl | exact congrArg (fun z => V.o (nat1 z)) (mn_le h58).symm | exact congrArg (fun z => V.o (nat1 z)) (mn_lt h58).symm)), ks rfl .dt, trivial⟩
      · skip
        refine ACode.skip ?_
        refine kb_n ?_
        refine ks_n ?_
        refine ACode.region ?_
        refine .cons (.mv rfl rfl) ?_
        refine .cons (.pl rfl rfl rfl) ?_
        refine .cons (.asg rfl rfl) ?_
        refine .nil ?_
        refine kl_k [] ⟨i + 1, min c (affEval x p), rfl, by omega, by rw [hF, mnF_drop hx1], rfl⟩ ⟨ks rfl .dt, ks rfl .dt, ks rfl (.dt (by first | rfl | exact hlo)), ks rfl (.dt (by first | rfl | exact congrArg (fun z => V.o (nat1 z)) (mn_le h58).symm | exact congrArg (fun z => V.o (nat1 z)) (mn_lt h58).symm)), ks rfl .dt, trivial⟩
    · skip
      have hhi : c = hiF p l.2 := by rw [hF, mnF_end (by omega)]
      refine ACode.exit ?_
      refine ks_e ?_
      refine kl_e ?_
      refine kb_hit ?_
      refine ks_n ?_
      refine ACode.seq ?_
      refine ACode.region ?_
      refine .cons (.mv rfl rfl) ?_
      refine .cons (.mv rfl rfl) ?_
      refine .cons (.asg rfl rfl) ?_
      refine .cons (.asg rfl rfl) ?_
      refine .nil ?_
      refine ks_n ?_
      refine ACode.ret ?_
      refine kf_ret rfl ?_ nobox
      rw [hhi]; rfl

set_option maxRecDepth 100000 in
set_option maxHeartbeats 1600000 in
theorem loopRange_fn (ns : List Lp) (hs : smN ns) (p : List Int) (hp : p.length ≤ 1099511627776) : Fn Try.prog 24 [] [vD (dLs ns), vD (dIs p)] (.tup [nat1 (lrV ns p).1, nat1 (lrV ns p).2.1, bo1 (lrV ns p).2.2]) [] := by
  have hn := hs.1
  refine Fn.code0 Try.func24 rfl rfl rfl rfl ?_
  refine ACode.seq ?_
  refine ACode.region ?_
  refine .cons (.asg rfl rfl) ?_
  refine .cons (.asg rfl rfl) ?_
  refine .cons (.asg rfl rfl) ?_
  refine .nil ?_
  refine ks_n ?_
  refine ACode.seq ?_
  refine ACode.seq ?_
  refine ACode.region ?_
  refine .cons (.mv rfl rfl) ?_
  refine .cons (.cP [.tmp 9] rfl rfl rfl rfl (implNestV_fn ns hs) rfl) ?_
  refine .cons (.nt rfl rfl) ?_
  refine .cons (.mv rfl rfl) ?_
  refine AOps.cases 12 _ rfl (fun g12 => ?_) (fun g12 => ?_)
  · try simp only [List.length_map, decide_eq_true_eq, decide_eq_false_iff_not, Bool.not_eq_true', Bool.not_eq_false', Bool.not_eq_true, Bool.not_eq_false] at g12
    refine .cons (.gF rfl rfl rfl) ?_
    refine .cons (.gF rfl rfl rfl) ?_
    refine .cons (.gF rfl rfl rfl) ?_
    refine .cons (.pT rfl rfl rfl) ?_
    refine .cons (.mv rfl rfl) ?_
    refine .cons (.gF rfl rfl rfl) ?_
    refine .cons (.gF rfl rfl rfl) ?_
    refine .cons (.gF rfl rfl rfl) ?_
    refine .cons (.gF rfl rfl rfl) ?_
    refine .cons (.gF rfl rfl rfl) ?_
    refine .cons (.pT rfl rfl rfl) ?_
    refine .nil ?_
    refine ks_n ?_
    refine ACode.condT rfl (fun _ => ?_) (fun h => by first | (cases h; done) | (simp [*] at h; done) | (exfalso; simp_all; done))
    refine ACode.seq ?_
    refine ACode.region ?_
    refine .cons (.asg rfl rfl) ?_
    refine .cons (.asg rfl rfl) ?_
    refine .cons (.asg rfl rfl) ?_
    refine .nil ?_
    refine ks_n ?_
    refine ACode.ret ?_
    refine ks_r ?_
    refine kf_ret rfl ?_ nobox
    have e : lrV ns p = (0, 0, false) := if_neg (fun hh => by first | (rw [hh.1] at g12; cases g12; done) | (rw [hh.2.1] at g17; cases g17; done) | (have := hh.2.2; omega)); rw [e]; rfl
  · try simp only [List.length_map, decide_eq_true_eq, decide_eq_false_iff_not, Bool.not_eq_true', Bool.not_eq_false', Bool.not_eq_true, Bool.not_eq_false] at g12
    refine .cons (.gT rfl rfl rfl (.mv rfl rfl)) ?_
    refine .cons (.gT rfl rfl rfl (.cP [.tmp 13] rfl rfl rfl rfl (isPoint_fn p) rfl)) ?_
    refine .cons (.gT rfl rfl rfl (.nt rfl rfl)) ?_
    refine .cons (.pF rfl rfl rfl) ?_
    refine .cons (.mv rfl rfl) ?_
    refine AOps.cases 17 _ rfl (fun g17 => ?_) (fun g17 => ?_)
    · try simp only [List.length_map, decide_eq_true_eq, decide_eq_false_iff_not, Bool.not_eq_true', Bool.not_eq_false', Bool.not_eq_true, Bool.not_eq_false] at g17
      refine .cons (.gF rfl rfl rfl) ?_
      refine .cons (.gF rfl rfl rfl) ?_
      refine .cons (.gF rfl rfl rfl) ?_
      refine .cons (.gF rfl rfl rfl) ?_
      refine .cons (.gF rfl rfl rfl) ?_
      refine .cons (.pT rfl rfl rfl) ?_
      refine .nil ?_
      refine ks_n ?_
      refine ACode.condT rfl (fun _ => ?_) (fun h => by first | (cases h; done) | (simp [*] at h; done) | (exfalso; simp_all; done))
      refine ACode.seq ?_
      refine ACode.region ?_
      refine .cons (.asg rfl rfl) ?_
      refine .cons (.asg rfl rfl) ?_
      refine .cons (.asg rfl rfl) ?_
      refine .nil ?_
      refine ks_n ?_
      refine ACode.ret ?_
      refine ks_r ?_
      refine kf_ret rfl ?_ nobox
      have e : lrV ns p = (0, 0, false) := if_neg (fun hh => by first | (rw [hh.1] at g12; cases g12; done) | (rw [hh.2.1] at g17; cases g17; done) | (have := hh.2.2; omega)); rw [e]; rfl
    · try simp only [List.length_map, decide_eq_true_eq, decide_eq_false_iff_not, Bool.not_eq_true', Bool.not_eq_false', Bool.not_eq_true, Bool.not_eq_false] at g17
      refine .cons (.gT rfl rfl rfl (.mv rfl rfl)) ?_
      refine .cons (.gT rfl rfl rfl (.ln 3 1 8 rfl rfl rfl)) ?_
      refine .cons (.gT rfl rfl rfl (.mv rfl rfl)) ?_
      refine .cons (.gT rfl rfl rfl (.ln 67 2 48 rfl rfl rfl)) ?_
      refine .cons (.gT rfl rfl rfl (.ge rfl rfl rfl)) ?_
      refine .cons (.pF rfl rfl rfl) ?_
      refine .nil ?_
      refine ks_n ?_
      refine ACode.condT rfl (fun h23 => ?_) (fun h23 => ?_)
      · try simp only [List.length_map, decide_eq_true_eq, decide_eq_false_iff_not, Bool.not_eq_true', Bool.not_eq_false', Bool.not_eq_true, Bool.not_eq_false] at h23
        refine ACode.seq ?_
        refine ACode.region ?_
        refine .cons (.asg rfl rfl) ?_
        refine .cons (.asg rfl rfl) ?_
        refine .cons (.asg rfl rfl) ?_
        refine .nil ?_
        refine ks_n ?_
        refine ACode.ret ?_
        refine ks_r ?_
        refine kf_ret rfl ?_ nobox
        have e : lrV ns p = (0, 0, false) := if_neg (fun hh => by first | (rw [hh.1] at g12; cases g12; done) | (rw [hh.2.1] at g17; cases g17; done) | (have := hh.2.2; omega)); rw [e]; rfl
      · try simp only [List.length_map, decide_eq_true_eq, decide_eq_false_iff_not, Bool.not_eq_true', Bool.not_eq_false', Bool.not_eq_true, Bool.not_eq_false] at h23
        obtain ⟨l, hl⟩ : ∃ l, ns[p.length]? = some l := ⟨_, List.getElem?_eq_getElem (by omega)⟩
        refine ACode.skip ?_
        refine ks_n ?_
        refine ACode.seq ?_
        refine ACode.region ?_
        refine .cons (.mv rfl rfl) ?_
        refine .cons (.mv rfl rfl) ?_
        refine .cons (.ln 3 1 8 rfl rfl rfl) ?_
        refine .cons (.xL 67 2 48 rfl rfl rfl rfl rfl) ?_
        refine .cons (.lN 2 rfl rfl rfl) ?_
        refine .cons (.mv rfl rfl) ?_
        refine .cons (.cP [.tmp 29, .tmp 30] rfl rfl rfl rfl (span_fn (okR_of g12 hl (isPt_small g17) (isPt_len g17))) rfl) ?_
        refine .cons (.mv rfl rfl) ?_
        refine .cons (.ex rfl rfl rfl) ?_
        refine .cons (.ex rfl rfl rfl) ?_
        refine .cons (.asg rfl rfl) ?_
        refine .cons (.asg rfl rfl) ?_
        refine .nil ?_
        refine ks_n ?_
        refine ACode.seq ?_
        refine ACode.region ?_
        refine .cons (.mv rfl rfl) ?_
        refine .cons (.mv rfl rfl) ?_
        refine .cons (.asg rfl rfl) ?_
        refine .cons (.asg rfl rfl) ?_
        refine .cons (.asg rfl rfl) ?_
        refine .nil ?_
        refine ks_n ?_
        refine ACode.ret ?_
        refine kf_ret rfl ?_ nobox
        have e : lrV ns p = (loF p l.1, hiF p l.2, true) := by rw [lrV, if_pos ⟨g12, g17, by omega⟩, getD_some hl]
        rw [e]; rfl

set_option maxRecDepth 100000 in
set_option maxHeartbeats 1600000 in
theorem specPointIn_fn (ns : List Lp) (hs : smN ns) (p : List Int) (hp : p.length ≤ 1099511627776) : Fn Try.prog 27 [] [vD (dLs ns), vD (dIs p)] (.o (bo1 (inV ns p))) [] := by
  have hn := hs.1
  refine Fn.code0 Try.func27 rfl rfl rfl rfl ?_
  refine ACode.seq ?_
  refine ACode.region ?_
  refine .cons (.asg rfl rfl) ?_
  refine .nil ?_
  refine ks_n ?_
  refine ACode.seq ?_
  refine ACode.seq ?_
  refine ACode.region ?_
  refine .cons (.mv rfl rfl) ?_
  refine .cons (.cP [.tmp 8] rfl rfl rfl rfl (specNestV_fn ns hs) rfl) ?_
  refine .cons (.nt rfl rfl) ?_
  refine .cons (.mv rfl rfl) ?_
  refine AOps.cases 11 _ rfl (fun g11 => ?_) (fun g11 => ?_)
  · try simp only [List.length_map, decide_eq_true_eq, decide_eq_false_iff_not, Bool.not_eq_true', Bool.not_eq_false', Bool.not_eq_true, Bool.not_eq_false] at g11
    refine .cons (.gF rfl rfl rfl) ?_
    refine .cons (.gF rfl rfl rfl) ?_
    refine .cons (.gF rfl rfl rfl) ?_
    refine .cons (.pT rfl rfl rfl) ?_
    refine .cons (.mv rfl rfl) ?_
    refine .cons (.gF rfl rfl rfl) ?_
    refine .cons (.gF rfl rfl rfl) ?_
    refine .cons (.gF rfl rfl rfl) ?_
    refine .cons (.gF rfl rfl rfl) ?_
    refine .cons (.gF rfl rfl rfl) ?_
    refine .cons (.pT rfl rfl rfl) ?_
    refine .nil ?_
    refine ks_n ?_
    refine ACode.condT rfl (fun _ => ?_) (fun h => by first | (cases h; done) | (simp [*] at h; done) | (exfalso; simp_all; done))
    refine ACode.seq ?_
    refine ACode.region ?_
    refine .cons (.asg rfl rfl) ?_
    refine .nil ?_
    refine ks_n ?_
    refine ACode.ret ?_
    refine ks_r ?_
    refine kf_ret rfl ?_ nobox
    exact leafB (by unfold inV; first | (simp [g11]; done) | (simp [g16]; done) | (simp [show ¬ p.length = ns.length by omega]; done))
  · try simp only [List.length_map, decide_eq_true_eq, decide_eq_false_iff_not, Bool.not_eq_true', Bool.not_eq_false', Bool.not_eq_true, Bool.not_eq_false] at g11
    refine .cons (.gT rfl rfl rfl (.mv rfl rfl)) ?_
    refine .cons (.gT rfl rfl rfl (.cP [.tmp 12] rfl rfl rfl rfl (l1Point_fn p) rfl)) ?_
    refine .cons (.gT rfl rfl rfl (.nt rfl rfl)) ?_
    refine .cons (.pF rfl rfl rfl) ?_
    refine .cons (.mv rfl rfl) ?_
    refine AOps.cases 16 _ rfl (fun g16 => ?_) (fun g16 => ?_)
    · try simp only [List.length_map, decide_eq_true_eq, decide_eq_false_iff_not, Bool.not_eq_true', Bool.not_eq_false', Bool.not_eq_true, Bool.not_eq_false] at g16
      refine .cons (.gF rfl rfl rfl) ?_
      refine .cons (.gF rfl rfl rfl) ?_
      refine .cons (.gF rfl rfl rfl) ?_
      refine .cons (.gF rfl rfl rfl) ?_
      refine .cons (.gF rfl rfl rfl) ?_
      refine .cons (.pT rfl rfl rfl) ?_
      refine .nil ?_
      refine ks_n ?_
      refine ACode.condT rfl (fun _ => ?_) (fun h => by first | (cases h; done) | (simp [*] at h; done) | (exfalso; simp_all; done))
      refine ACode.seq ?_
      refine ACode.region ?_
      refine .cons (.asg rfl rfl) ?_
      refine .nil ?_
      refine ks_n ?_
      refine ACode.ret ?_
      refine ks_r ?_
      refine kf_ret rfl ?_ nobox
      exact leafB (by unfold inV; first | (simp [g11]; done) | (simp [g16]; done) | (simp [show ¬ p.length = ns.length by omega]; done))
    · try simp only [List.length_map, decide_eq_true_eq, decide_eq_false_iff_not, Bool.not_eq_true', Bool.not_eq_false', Bool.not_eq_true, Bool.not_eq_false] at g16
      refine .cons (.gT rfl rfl rfl (.mv rfl rfl)) ?_
      refine .cons (.gT rfl rfl rfl (.ln 3 1 8 rfl rfl rfl)) ?_
      refine .cons (.gT rfl rfl rfl (.mv rfl rfl)) ?_
      refine .cons (.gT rfl rfl rfl (.ln 67 2 48 rfl rfl rfl)) ?_
      refine .cons (.gT rfl rfl rfl (.ne rfl rfl rfl)) ?_
      refine .cons (.pF rfl rfl rfl) ?_
      refine .nil ?_
      refine ks_n ?_
      refine ACode.condT rfl (fun h22 => ?_) (fun h22 => ?_)
      · try simp only [List.length_map, decide_eq_true_eq, decide_eq_false_iff_not, Bool.not_eq_true', Bool.not_eq_false', Bool.not_eq_true, Bool.not_eq_false] at h22
        refine ACode.seq ?_
        refine ACode.region ?_
        refine .cons (.asg rfl rfl) ?_
        refine .nil ?_
        refine ks_n ?_
        refine ACode.ret ?_
        refine ks_r ?_
        refine kf_ret rfl ?_ nobox
        exact leafB (by unfold inV; first | (simp [g11]; done) | (simp [g16]; done) | (simp [show ¬ p.length = ns.length by omega]; done))
      · try simp only [List.length_map, decide_eq_true_eq, decide_eq_false_iff_not, Bool.not_eq_true', Bool.not_eq_false', Bool.not_eq_true, Bool.not_eq_false] at h22
        have hpl : p.length = ns.length := by omega
        have hp4 := isPt_len g16
        refine ACode.skip ?_
        refine ks_n ?_
        refine ACode.seq ?_
        refine ACode.seq ?_
        refine ACode.region ?_
        refine .cons (.asg rfl rfl) ?_
        refine .nil ?_
        refine ks_n ?_
        refine ACode.block ?_
        refine .loopK (fun m σ => (∃ i : Nat, m = ns.length - i ∧ (i ≤ ns.length) ∧ (inG p 0 ns = inG p i (ns.drop i)) ∧ σ = [(.t 0, .v (.o (vD (dLs ns)))), (.t 1, .v (.o (vD (dIs p)))), (.t 5, .v (.o (nat1 (i : Nat))))])) [] ⟨0, rfl, by omega, by simp, rfl⟩ ⟨ks rfl .dt, ks rfl .dt, ks rfl .dt, trivial⟩ ?_
        rintro m σ ⟨i, hm0, hi, hF, rfl⟩
        refine ACode.seq ?_
        refine ACode.seq ?_
        refine ACode.region ?_
        refine .cons (.mv rfl rfl) ?_
        refine .cons (.mv rfl rfl) ?_
        refine .cons (.ln 3 1 8 rfl rfl rfl) ?_
        refine .cons (.ls rfl rfl rfl) ?_
        refine .nil ?_
        refine ks_n ?_
        refine .cD rfl (fun h26 => ?_) (fun h26 => ?_)
        · skip
          obtain ⟨x, hx1⟩ : ∃ x, ns[i]? = some x := ⟨_, List.getElem?_eq_getElem (by omega)⟩
          obtain ⟨z, hz⟩ : ∃ z, p[i]? = some z := ⟨_, List.getElem?_eq_getElem (by omega)⟩
          have hzD : p.getD i 0 = z := getD_some hz
          refine ACode.skip ?_
          refine ks_n ?_
          refine ACode.seq ?_
          refine ACode.block ?_
          refine ACode.seq ?_
          refine ACode.drawK (by kernel_rfl) (by kernel_rfl) ?_
          refine .cons (.mv rfl rfl) ?_
          refine .cons (.mv rfl rfl) ?_
          refine .cons (.xL 67 2 48 rfl rfl rfl rfl rfl) ?_
          refine .cons (.lN 2 rfl rfl rfl) ?_
          refine .cons (.mv rfl rfl) ?_
          refine .cons (.mv rfl rfl) ?_
          refine .cons (St1.sliceTo (e := 3) (sz := 1) (by' := 8) (k := i) rfl rfl rfl rfl (by kernel_rfl) rfl rfl rfl (by first | rfl | omega) (by first | (simp; done) | (simp; omega) | omega)) ?_
          refine .cons (.cP [.tmp 33, .tmp 36] rfl rfl rfl rfl (Fn.arg2 (dIs_take p i) (l2Range_fn (okR_of g11 hx1 ((isPt_small g16).take i) (by rw [List.length_take]; omega)))) rfl) ?_
          refine .cons (.mv rfl rfl) ?_
          refine .cons (.ex rfl rfl rfl) ?_
          refine .cons (.ex rfl rfl rfl) ?_
          refine .cons (.asg rfl rfl) ?_
          refine .cons (.asg rfl rfl) ?_
          refine .nil ⟨by kernel_rfl, ?_⟩
          refine ks_n ?_
          refine ACode.seq ?_
          refine ACode.region ?_
          refine .cons (.mv rfl rfl) ?_
          refine .cons (.mv rfl rfl) ?_
          refine .cons (.xL 3 1 8 rfl rfl rfl rfl rfl (map_at hz)) ?_
          refine .cons (.l1 1 rfl rfl) ?_
          refine .cons (.mv rfl rfl) ?_
          refine .cons (.ls rfl rfl rfl) ?_
          refine .cons (.mv rfl rfl) ?_
          refine .cD 46 rfl (fun g46 => ?_) (fun g46 => ?_)
          · skip
            refine .cons (.gF rfl rfl rfl) ?_
            refine .cons (.gF rfl rfl rfl) ?_
            refine .cons (.gF rfl rfl rfl) ?_
            refine .cons (.gF rfl rfl rfl) ?_
            refine .cons (.gF rfl rfl rfl) ?_
            refine .cons (.gF rfl rfl rfl) ?_
            refine .cons (.pT rfl rfl rfl) ?_
            refine .nil ?_
            refine ks_n ?_
            refine ACode.condT rfl (fun _ => ?_) (fun h => by first | (cases h; done) | (simp [*] at h; done) | (exfalso; simp_all; done))
            refine ACode.seq ?_
            have gg : (decide (loF (p.take i) x.1 ≤ p.getD i 0) && decide (p.getD i 0 < hiF (p.take i) x.2)) = false := by rw [hzD, Bool.and_eq_false_iff]; first | exact .inl (decide_eq_false (by omega)) | exact .inr (decide_eq_false (by omega))
            refine ACode.region ?_
            refine .cons (.asg rfl rfl) ?_
            refine .nil ?_
            refine ks_n ?_
            refine ACode.ret ?_
            refine kb_r ?_
            refine ks_r ?_
            refine kl_r ?_
            refine kb_r ?_
            refine ks_r ?_
            refine kf_ret rfl ?_ nobox
            exact leafB (by unfold inV; rw [hF, inG_drop hx1, gg]; simp)
          · skip
            refine .cons (.gT rfl rfl rfl (.mv rfl rfl)) ?_
            refine .cons (.gT rfl rfl rfl (.mv rfl rfl)) ?_
            refine .cons (.gT rfl rfl rfl (.xL 3 1 8 rfl rfl rfl rfl rfl (map_at hz))) ?_
            refine .cons (.gT rfl rfl rfl (.l1 1 rfl rfl)) ?_
            refine .cons (.gT rfl rfl rfl (.mv rfl rfl)) ?_
            refine .cons (.gT rfl rfl rfl (.ge rfl rfl rfl)) ?_
            refine .cons (.pF rfl rfl rfl) ?_
            refine .nil ?_
            refine ks_n ?_
            refine ACode.condT rfl (fun h53 => ?_) (fun h53 => ?_)
            · try simp only [List.length_map, decide_eq_true_eq, decide_eq_false_iff_not, Bool.not_eq_true', Bool.not_eq_false', Bool.not_eq_true, Bool.not_eq_false] at h53
              refine ACode.seq ?_
              have gg : (decide (loF (p.take i) x.1 ≤ p.getD i 0) && decide (p.getD i 0 < hiF (p.take i) x.2)) = false := by rw [hzD, Bool.and_eq_false_iff]; first | exact .inl (decide_eq_false (by omega)) | exact .inr (decide_eq_false (by omega))
              refine ACode.region ?_
              refine .cons (.asg rfl rfl) ?_
              refine .nil ?_
              refine ks_n ?_
              refine ACode.ret ?_
              refine kb_r ?_
              refine ks_r ?_
              refine kl_r ?_
              refine kb_r ?_
              refine ks_r ?_
              refine kf_ret rfl ?_ nobox
              exact leafB (by unfold inV; rw [hF, inG_drop hx1, gg]; simp)
            · try simp only [List.length_map, decide_eq_true_eq, decide_eq_false_iff_not, Bool.not_eq_true', Bool.not_eq_false', Bool.not_eq_true, Bool.not_eq_false] at h53
              refine ACode.skip ?_
              refine kb_n ?_
              refine ks_n ?_
              have gg : (decide (loF (p.take i) x.1 ≤ p.getD i 0) && decide (p.getD i 0 < hiF (p.take i) x.2)) = true := by rw [hzD, Bool.and_eq_true]; exact ⟨decide_eq_true (by omega), decide_eq_true (by omega)⟩
              refine ACode.region ?_
              refine .cons (.mv rfl rfl) ?_
              refine .cons (.pl rfl rfl rfl) ?_
              refine .cons (.asg rfl rfl) ?_
              refine .nil ?_
              refine kl_k [] ⟨i + 1, rfl, by omega, by rw [hF, inG_drop hx1, gg, Bool.true_and], rfl⟩ ⟨ks rfl .dt, ks rfl .dt, ks rfl .dt, trivial⟩
        · skip
          refine ACode.exit ?_
          refine ks_e ?_
          refine kl_e ?_
          refine kb_hit ?_
          refine ks_n ?_
          refine ACode.seq ?_
          refine ACode.region ?_
          refine .cons (.asg rfl rfl) ?_
          refine .nil ?_
          refine ks_n ?_
          refine ACode.ret ?_
          refine kf_ret rfl ?_ nobox
          exact leafB (by unfold inV; rw [hF, List.drop_of_length_le (by omega), g11, g16, decide_eq_true hpl]; rfl)

set_option maxRecDepth 100000 in
set_option maxHeartbeats 1600000 in
theorem implPointIn_fn (ns : List Lp) (hs : smN ns) (p : List Int) (hp : p.length ≤ 1099511627776) : Fn Try.prog 26 [] [vD (dLs ns), vD (dIs p)] (.o (bo1 (inV ns p))) [] := by
  have hn := hs.1
  refine Fn.code0 Try.func26 rfl rfl rfl rfl ?_
  refine ACode.seq ?_
  refine ACode.region ?_
  refine .cons (.asg rfl rfl) ?_
  refine .nil ?_
  refine ks_n ?_
  refine ACode.seq ?_
  refine ACode.seq ?_
  refine ACode.region ?_
  refine .cons (.mv rfl rfl) ?_
  refine .cons (.cP [.tmp 9] rfl rfl rfl rfl (implNestV_fn ns hs) rfl) ?_
  refine .cons (.nt rfl rfl) ?_
  refine .cons (.mv rfl rfl) ?_
  refine AOps.cases 12 _ rfl (fun g12 => ?_) (fun g12 => ?_)
  · try simp only [List.length_map, decide_eq_true_eq, decide_eq_false_iff_not, Bool.not_eq_true', Bool.not_eq_false', Bool.not_eq_true, Bool.not_eq_false] at g12
    refine .cons (.gF rfl rfl rfl) ?_
    refine .cons (.gF rfl rfl rfl) ?_
    refine .cons (.gF rfl rfl rfl) ?_
    refine .cons (.pT rfl rfl rfl) ?_
    refine .cons (.mv rfl rfl) ?_
    refine .cons (.gF rfl rfl rfl) ?_
    refine .cons (.gF rfl rfl rfl) ?_
    refine .cons (.gF rfl rfl rfl) ?_
    refine .cons (.gF rfl rfl rfl) ?_
    refine .cons (.gF rfl rfl rfl) ?_
    refine .cons (.pT rfl rfl rfl) ?_
    refine .nil ?_
    refine ks_n ?_
    refine ACode.condT rfl (fun _ => ?_) (fun h => by first | (cases h; done) | (simp [*] at h; done) | (exfalso; simp_all; done))
    refine ACode.seq ?_
    refine ACode.region ?_
    refine .cons (.asg rfl rfl) ?_
    refine .nil ?_
    refine ks_n ?_
    refine ACode.ret ?_
    refine ks_r ?_
    refine kf_ret rfl ?_ nobox
    exact leafB (by unfold inV; first | (simp [g12]; done) | (simp [g17]; done) | (simp [show ¬ p.length = ns.length by omega]; done))
  · try simp only [List.length_map, decide_eq_true_eq, decide_eq_false_iff_not, Bool.not_eq_true', Bool.not_eq_false', Bool.not_eq_true, Bool.not_eq_false] at g12
    refine .cons (.gT rfl rfl rfl (.mv rfl rfl)) ?_
    refine .cons (.gT rfl rfl rfl (.cP [.tmp 13] rfl rfl rfl rfl (isPoint_fn p) rfl)) ?_
    refine .cons (.gT rfl rfl rfl (.nt rfl rfl)) ?_
    refine .cons (.pF rfl rfl rfl) ?_
    refine .cons (.mv rfl rfl) ?_
    refine AOps.cases 17 _ rfl (fun g17 => ?_) (fun g17 => ?_)
    · try simp only [List.length_map, decide_eq_true_eq, decide_eq_false_iff_not, Bool.not_eq_true', Bool.not_eq_false', Bool.not_eq_true, Bool.not_eq_false] at g17
      refine .cons (.gF rfl rfl rfl) ?_
      refine .cons (.gF rfl rfl rfl) ?_
      refine .cons (.gF rfl rfl rfl) ?_
      refine .cons (.gF rfl rfl rfl) ?_
      refine .cons (.gF rfl rfl rfl) ?_
      refine .cons (.pT rfl rfl rfl) ?_
      refine .nil ?_
      refine ks_n ?_
      refine ACode.condT rfl (fun _ => ?_) (fun h => by first | (cases h; done) | (simp [*] at h; done) | (exfalso; simp_all; done))
      refine ACode.seq ?_
      refine ACode.region ?_
      refine .cons (.asg rfl rfl) ?_
      refine .nil ?_
      refine ks_n ?_
      refine ACode.ret ?_
      refine ks_r ?_
      refine kf_ret rfl ?_ nobox
      exact leafB (by unfold inV; first | (simp [g12]; done) | (simp [g17]; done) | (simp [show ¬ p.length = ns.length by omega]; done))
    · try simp only [List.length_map, decide_eq_true_eq, decide_eq_false_iff_not, Bool.not_eq_true', Bool.not_eq_false', Bool.not_eq_true, Bool.not_eq_false] at g17
      refine .cons (.gT rfl rfl rfl (.mv rfl rfl)) ?_
      refine .cons (.gT rfl rfl rfl (.ln 3 1 8 rfl rfl rfl)) ?_
      refine .cons (.gT rfl rfl rfl (.mv rfl rfl)) ?_
      refine .cons (.gT rfl rfl rfl (.ln 67 2 48 rfl rfl rfl)) ?_
      refine .cons (.gT rfl rfl rfl (.ne rfl rfl rfl)) ?_
      refine .cons (.pF rfl rfl rfl) ?_
      refine .nil ?_
      refine ks_n ?_
      refine ACode.condT rfl (fun h23 => ?_) (fun h23 => ?_)
      · try simp only [List.length_map, decide_eq_true_eq, decide_eq_false_iff_not, Bool.not_eq_true', Bool.not_eq_false', Bool.not_eq_true, Bool.not_eq_false] at h23
        refine ACode.seq ?_
        refine ACode.region ?_
        refine .cons (.asg rfl rfl) ?_
        refine .nil ?_
        refine ks_n ?_
        refine ACode.ret ?_
        refine ks_r ?_
        refine kf_ret rfl ?_ nobox
        exact leafB (by unfold inV; first | (simp [g12]; done) | (simp [g17]; done) | (simp [show ¬ p.length = ns.length by omega]; done))
      · try simp only [List.length_map, decide_eq_true_eq, decide_eq_false_iff_not, Bool.not_eq_true', Bool.not_eq_false', Bool.not_eq_true, Bool.not_eq_false] at h23
        have hpl : p.length = ns.length := by omega
        have hp4 := isPt_len g17
        refine ACode.skip ?_
        refine ks_n ?_
        refine ACode.seq ?_
        refine ACode.seq ?_
        refine ACode.region ?_
        refine .cons (.mv rfl rfl) ?_
        refine .cons (.ln 67 2 48 rfl rfl rfl) ?_
        refine .cons (.mv rfl rfl) ?_
        refine .nil ?_
        refine ks_n ?_
        refine ACode.block ?_
        refine .loopK (fun m σ => (∃ i : Nat, m = ns.length - i ∧ (i ≤ ns.length) ∧ (inG p 0 ns = inG p i (ns.drop i)) ∧ σ = [(.t 1, .v (.o (vD (dIs p)))), (.t 24, .v (.o (vD (dLs ns)))), (.t 25, .v (.o (nat1 (ns.length : Nat)))), (.t 26, .v (.o (nat1 (i : Nat))))])) [] ⟨0, rfl, by omega, by simp, rfl⟩ ⟨ks rfl .dt, ks rfl .dt, ks rfl .dt, ks rfl .dt, trivial⟩ ?_
        rintro m σ ⟨i, hm0, hi, hF, rfl⟩
        refine ACode.seq ?_
        refine ACode.region ?_
        refine .cons (.ls rfl rfl rfl) ?_
        refine .nil ?_
        refine ks_n ?_
        refine ACode.seq ?_
        refine .cD rfl (fun h27 => ?_) (fun h27 => ?_)
        · skip
          obtain ⟨x, hx1⟩ : ∃ x, ns[i]? = some x := ⟨_, List.getElem?_eq_getElem (by omega)⟩
          obtain ⟨z, hz⟩ : ∃ z, p[i]? = some z := ⟨_, List.getElem?_eq_getElem (by omega)⟩
          have hzD : p.getD i 0 = z := getD_some hz
          refine ACode.skip ?_
          refine ks_n ?_
          refine ACode.seq ?_
          refine ACode.block ?_
          refine ACode.seq ?_
          refine ACode.region ?_
          refine .cons (.mv rfl rfl) ?_
          refine .cons (.xL 67 2 48 rfl rfl rfl rfl rfl) ?_
          refine .cons (.lN 2 rfl rfl rfl) ?_
          refine .cons (.al 106 [.slice none 0 0, .slice none 0 0] rfl rfl rfl) ?_
          refine .cons (.asg rfl rfl) ?_
          refine .cons (.sT 2 true rfl rfl rfl rfl rfl rfl rfl) ?_
          refine .nil ?_
          refine ks_n ?_
          refine ACode.seq ?_
          refine ACode.drawK (by kernel_rfl) (by kernel_rfl) ?_
          refine .cons (.bN 2 rfl rfl rfl rfl rfl rfl) ?_
          refine .cons (.mv rfl rfl) ?_
          refine .cons (.mv rfl rfl) ?_
          refine .cons (St1.sliceTo (e := 3) (sz := 1) (by' := 8) (k := i) rfl rfl rfl rfl (by kernel_rfl) rfl rfl rfl (by first | rfl | omega) (by first | (simp; done) | (simp; omega) | omega)) ?_
          refine .cons (.cP [.tmp 32, .tmp 35] rfl rfl rfl rfl (Fn.arg2 (dIs_take p i) (span_fn (okR_of g12 hx1 ((isPt_small g17).take i) (by rw [List.length_take]; omega)))) rfl) ?_
          refine .cons (.mv rfl rfl) ?_
          refine .cons (.ex rfl rfl rfl) ?_
          refine .cons (.ex rfl rfl rfl) ?_
          refine .cons (.asg rfl rfl) ?_
          refine .cons (.asg rfl rfl) ?_
          refine .nil ⟨by kernel_rfl, ?_⟩
          refine ks_n ?_
          refine ACode.seq ?_
          refine ACode.region ?_
          refine .cons (.mv rfl rfl) ?_
          refine .cons (.mv rfl rfl) ?_
          refine .cons (.xL 3 1 8 rfl rfl rfl rfl rfl (map_at hz)) ?_
          refine .cons (.l1 1 rfl rfl) ?_
          refine .cons (.mv rfl rfl) ?_
          refine .cons (.ls rfl rfl rfl) ?_
          refine .cons (.mv rfl rfl) ?_
          refine .cD 45 rfl (fun g45 => ?_) (fun g45 => ?_)
          · skip
            refine .cons (.gF rfl rfl rfl) ?_
            refine .cons (.gF rfl rfl rfl) ?_
            refine .cons (.gF rfl rfl rfl) ?_
            refine .cons (.gF rfl rfl rfl) ?_
            refine .cons (.gF rfl rfl rfl) ?_
            refine .cons (.gF rfl rfl rfl) ?_
            refine .cons (.pT rfl rfl rfl) ?_
            refine .nil ?_
            refine ks_n ?_
            refine ACode.condT rfl (fun _ => ?_) (fun h => by first | (cases h; done) | (simp [*] at h; done) | (exfalso; simp_all; done))
            refine ACode.seq ?_
            have gg : (decide (loF (p.take i) x.1 ≤ p.getD i 0) && decide (p.getD i 0 < hiF (p.take i) x.2)) = false := by rw [hzD, Bool.and_eq_false_iff]; first | exact .inl (decide_eq_false (by omega)) | exact .inr (decide_eq_false (by omega))
            refine ACode.region ?_
            refine .cons (.asg rfl rfl) ?_
            refine .nil ?_
            refine ks_n ?_
            refine ACode.ret ?_
            refine kb_r ?_
            refine ks_r ?_
            refine kl_r ?_
            refine kb_r ?_
            refine ks_r ?_
            refine kf_ret rfl ?_ nobox
            exact leafB (by unfold inV; rw [hF, inG_drop hx1, gg]; simp)
          · skip
            refine .cons (.gT rfl rfl rfl (.mv rfl rfl)) ?_
            refine .cons (.gT rfl rfl rfl (.mv rfl rfl)) ?_
            refine .cons (.gT rfl rfl rfl (.xL 3 1 8 rfl rfl rfl rfl rfl (map_at hz))) ?_
            refine .cons (.gT rfl rfl rfl (.l1 1 rfl rfl)) ?_
            refine .cons (.gT rfl rfl rfl (.mv rfl rfl)) ?_
            refine .cons (.gT rfl rfl rfl (.ge rfl rfl rfl)) ?_
            refine .cons (.pF rfl rfl rfl) ?_
            refine .nil ?_
            refine ks_n ?_
            refine ACode.condT rfl (fun h52 => ?_) (fun h52 => ?_)
            · try simp only [List.length_map, decide_eq_true_eq, decide_eq_false_iff_not, Bool.not_eq_true', Bool.not_eq_false', Bool.not_eq_true, Bool.not_eq_false] at h52
              refine ACode.seq ?_
              have gg : (decide (loF (p.take i) x.1 ≤ p.getD i 0) && decide (p.getD i 0 < hiF (p.take i) x.2)) = false := by rw [hzD, Bool.and_eq_false_iff]; first | exact .inl (decide_eq_false (by omega)) | exact .inr (decide_eq_false (by omega))
              refine ACode.region ?_
              refine .cons (.asg rfl rfl) ?_
              refine .nil ?_
              refine ks_n ?_
              refine ACode.ret ?_
              refine kb_r ?_
              refine ks_r ?_
              refine kl_r ?_
              refine kb_r ?_
              refine ks_r ?_
              refine kf_ret rfl ?_ nobox
              exact leafB (by unfold inV; rw [hF, inG_drop hx1, gg]; simp)
            · try simp only [List.length_map, decide_eq_true_eq, decide_eq_false_iff_not, Bool.not_eq_true', Bool.not_eq_false', Bool.not_eq_true, Bool.not_eq_false] at h52
              refine ACode.skip ?_
              refine kb_n ?_
              refine ks_n ?_
              have gg : (decide (loF (p.take i) x.1 ≤ p.getD i 0) && decide (p.getD i 0 < hiF (p.take i) x.2)) = true := by rw [hzD, Bool.and_eq_true]; exact ⟨decide_eq_true (by omega), decide_eq_true (by omega)⟩
              refine ACode.region ?_
              refine .cons (.pl rfl rfl rfl) ?_
              refine .cons (.mv rfl rfl) ?_
              refine .nil ?_
              refine kl_k [] ⟨i + 1, rfl, by omega, by rw [hF, inG_drop hx1, gg, Bool.true_and], rfl⟩ ⟨ks rfl .dt, ks rfl .dt, ks rfl .dt, ks rfl .dt, trivial⟩
        · skip
          refine ACode.exit ?_
          refine ks_e ?_
          refine kl_e ?_
          refine kb_hit ?_
          refine ks_n ?_
          refine ACode.seq ?_
          refine ACode.region ?_
          refine .cons (.asg rfl rfl) ?_
          refine .nil ?_
          refine ks_n ?_
          refine ACode.ret ?_
          refine kf_ret rfl ?_ nobox
          exact leafB (by unfold inV; rw [hF, List.drop_of_length_le (by omega), g12, g17, decide_eq_true hpl]; rfl)

end Go.Proofs.Ytgcpdpbapgkdjaa

/- The points of the reference; condition: valid nests. -/
namespace Go.Proofs.Ytgcpdpbapgkdjaa
set_option linter.unusedVariables false
set_option linter.unusedSimpArgs false
open Go.RowKit

theorem iterN_lt {f : Int → Int → Int} {most hi v n : Int} (h : v < hi) (hn : n ≤ most) : iterN f most (hi - v).toNat v n = iterN f most (hi - (v + 1)).toNat (v + 1) (f v n) := by
  obtain ⟨k, hk⟩ : ∃ k, (hi - v).toNat = k + 1 := ⟨(hi - v).toNat - 1, by omega⟩
  rw [hk, iterN, if_pos hn, show (hi - (v + 1)).toNat = k by omega]
theorem iterN_ge {f : Int → Int → Int} {most hi v n : Int} (h : ¬ v < hi) : iterN f most (hi - v).toNat v n = n := by
  rw [show (hi - v).toNat = 0 by omega]; rfl
theorem iterP_lt {f : Int → Pts → Pts} {hi v : Int} {o : Pts} (h : v < hi) (hn : o.length ≤ 120) : iterP f (hi - v).toNat v o = iterP f (hi - (v + 1)).toNat (v + 1) (f v o) := by
  obtain ⟨k, hk⟩ : ∃ k, (hi - v).toNat = k + 1 := ⟨(hi - v).toNat - 1, by omega⟩
  rw [hk, iterP, if_pos hn, show (hi - (v + 1)).toNat = k by omega]
theorem iterP_ge {f : Int → Pts → Pts} {hi v : Int} {o : Pts} (h : ¬ v < hi) : iterP f (hi - v).toNat v o = o := by
  rw [show (hi - v).toNat = 0 by omega]; rfl
theorem workF_bd (ms : List Lp) (p : List Int) {m : Int} (h : 0 ≤ m) : 1 ≤ workF ms p m ∧ workF ms p m ≤ m + 1 := by
  obtain ⟨h1, h2⟩ := workF_spec ms p m h
  have := nodesG_pos ms p
  by_cases hc : (nodesG ms p : Int) ≤ m
  · rw [h1 hc]; omega
  · rw [h2 (by omega)]; omega
theorem Fn.arg2c {P : Program} {f : FuncId} {hb hb' : St} {x z : V1} {d1 d2 : D} {y : V} (h : d1 = d2) (F : Fn P f hb [x, vD d1, z] y hb') : Fn P f hb [x, vD d2, z] y hb' := h ▸ F
theorem Fn.arg3 {P : Program} {f : FuncId} {hb hb' : St} {x z : V1} {d1 d2 : D} {y : V} (h : d1 = d2) (F : Fn P f hb [x, z, vD d1] y hb') : Fn P f hb [x, z, vD d2] y hb' := h ▸ F

set_option maxRecDepth 100000 in
set_option maxHeartbeats 1600000 in
theorem work_leaf {ns : List Lp} {p : List Int} {most : Int} (hp : p.length = ns.length) : Fn Try.prog 72 [] [vD (dLs ns), vD (dIs p), nat1 most] (.o (nat1 1)) [] := by
  refine Fn.code0 Try.func72 rfl rfl rfl rfl ?_
  refine ACode.seq ?_
  refine ACode.region ?_
  refine .cons (.asg rfl rfl) ?_
  refine .nil ?_
  refine ks_n ?_
  refine ACode.seq ?_
  refine ACode.region ?_
  refine .cons (.asg rfl rfl) ?_
  refine .nil ?_
  refine ks_n ?_
  refine ACode.seq ?_
  refine ACode.seq ?_
  refine ACode.region ?_
  refine .cons (.mv rfl rfl) ?_
  refine .cons (.ln 3 1 8 rfl rfl rfl) ?_
  refine .cons (.mv rfl rfl) ?_
  refine .cons (.ln 67 2 48 rfl rfl rfl) ?_
  refine .cons (.eq rfl rfl rfl) ?_
  refine .nil ?_
  refine ks_n ?_
  refine .cD rfl (fun h15 => ?_) (fun h15 => ?_)
  · skip
    refine ACode.seq ?_
    refine ACode.region ?_
    refine .cons (.mv rfl rfl) ?_
    refine .cons (.asg rfl rfl) ?_
    refine .nil ?_
    refine ks_n ?_
    refine ACode.ret ?_
    refine ks_r ?_
    refine kf_ret rfl ?_ nobox
    rfl
  · skip
    omega

set_option maxRecDepth 100000 in
set_option maxHeartbeats 1600000 in
theorem work_node {ns : List Lp} (hn : ns.length ≤ 4) {l : Lp} {ms : List Lp} {p : List Int} (hl : ns[p.length]? = some l) (hR : okR l p) (hlo : -100000000 ≤ loF p l.1 ∧ loF p l.1 ≤ 100000000) (hhi : -100000000 ≤ hiF p l.2 ∧ hiF p l.2 ≤ 100000000) {most : Int} (hm : 0 ≤ most ∧ most ≤ 1200) (ih : ∀ v m, loF p l.1 ≤ v → v < hiF p l.2 → 0 ≤ m → m ≤ 1200 → Fn Try.prog 72 [] [vD (dLs ns), vD (dIs (p ++ [v])), nat1 m] (.o (nat1 (workF ms (p ++ [v]) m))) []) : Fn Try.prog 72 [] [vD (dLs ns), vD (dIs p), nat1 most] (.o (nat1 (workF (l :: ms) p most))) [] := by
  refine Fn.code0 Try.func72 rfl rfl rfl rfl ?_
  refine ACode.seq ?_
  refine ACode.region ?_
  refine .cons (.asg rfl rfl) ?_
  refine .nil ?_
  refine ks_n ?_
  refine ACode.seq ?_
  refine ACode.region ?_
  refine .cons (.asg rfl rfl) ?_
  refine .nil ?_
  refine ks_n ?_
  refine ACode.seq ?_
  refine ACode.seq ?_
  refine ACode.region ?_
  refine .cons (.mv rfl rfl) ?_
  refine .cons (.ln 3 1 8 rfl rfl rfl) ?_
  refine .cons (.mv rfl rfl) ?_
  refine .cons (.ln 67 2 48 rfl rfl rfl) ?_
  refine .cons (.eq rfl rfl rfl) ?_
  refine .nil ?_
  refine ks_n ?_
  refine .cD rfl (fun h15 => ?_) (fun h15 => ?_)
  · skip
    have := (List.getElem?_eq_some_iff.1 hl).1; omega
  · skip
    refine ACode.skip ?_
    refine ks_n ?_
    refine ACode.seq ?_
    refine ACode.region ?_
    refine .cons (.mv rfl rfl) ?_
    refine .cons (.mv rfl rfl) ?_
    refine .cons (.ln 3 1 8 rfl rfl rfl) ?_
    refine .cons (.xL 67 2 48 rfl rfl rfl rfl rfl (map_at hl)) ?_
    refine .cons (.lN 2 rfl rfl rfl) ?_
    refine .cons (.mv rfl rfl) ?_
    refine .cons (.cP [.tmp 22, .tmp 23] rfl rfl rfl rfl (l2Range_fn hR) rfl) ?_
    refine .cons (.mv rfl rfl) ?_
    refine .cons (.ex rfl rfl rfl) ?_
    refine .cons (.ex rfl rfl rfl) ?_
    refine .cons (.asg rfl rfl) ?_
    refine .cons (.asg rfl rfl) ?_
    refine .nil ?_
    refine ks_n ?_
    refine ACode.seq ?_
    refine ACode.seq ?_
    refine ACode.region ?_
    refine .cons (.mv rfl rfl) ?_
    refine .cons (.asg rfl rfl) ?_
    refine .nil ?_
    refine ks_n ?_
    refine ACode.block ?_
    refine .loopK (fun m σ => (∃ (v n : Int), m = (hiF p l.2 - v).toNat ∧ (loF p l.1 ≤ v) ∧ (1 ≤ n ∧ n ≤ most + 1) ∧ (iterN (fun v n => n + workF ms (p ++ [v]) (most - n)) most (hiF p l.2 - v).toNat v n = workF (l :: ms) p most) ∧ σ = [(.t 0, .v (.o (vD (dLs ns)))), (.t 1, .v (.o (vD (dIs p)))), (.t 2, .v (.o (nat1 most))), (.t 7, .v (.o (nat1 n))), (.t 9, .v (.o (nat1 (hiF p l.2)))), (.t 10, .v (.o (nat1 v)))])) [] ⟨loF p l.1, 1, rfl, (by omega), (by omega), rfl, rfl⟩ ⟨ks rfl .dt, ks rfl .dt, ks rfl .dt, ks rfl .dt, ks rfl .dt, ks rfl .dt, trivial⟩ ?_
    rintro m σ ⟨v, n, hm0, h1, h2, hE, rfl⟩
    refine ACode.seq ?_
    refine ACode.seq ?_
    refine ACode.region ?_
    refine .cons (.mv rfl rfl) ?_
    refine .cons (.mv rfl rfl) ?_
    refine .cons (.ls rfl rfl rfl) ?_
    refine .cons (.mv rfl rfl) ?_
    refine .cD 31 rfl (fun g31 => ?_) (fun g31 => ?_)
    · skip
      refine .cons (.gT rfl rfl rfl (.mv rfl rfl)) ?_
      refine .cons (.gT rfl rfl rfl (.mv rfl rfl)) ?_
      refine .cons (.gT rfl rfl rfl (.le rfl rfl rfl)) ?_
      refine .cons (.pT rfl rfl rfl) ?_
      refine .nil ?_
      refine ks_n ?_
      refine ACode.condT rfl (fun h35 => ?_) (fun h35 => ?_)
      · try simp only [List.length_map, decide_eq_true_eq, decide_eq_false_iff_not, Bool.not_eq_true', Bool.not_eq_false', Bool.not_eq_true, Bool.not_eq_false] at h35
        have hw := workF_bd ms (p ++ [v]) (m := most - n) (by omega)
        refine ACode.skip ?_
        refine ks_n ?_
        refine ACode.seq ?_
        refine ACode.block ?_
        refine ACode.region ?_
        refine .cons (.mv rfl rfl) ?_
        refine .cons (.mv rfl rfl) ?_
        refine .cons (St1.lit0 (k' := 140) (e := 3) (sz := 1) (b := true) rfl rfl rfl rfl (by kernel_rfl) rfl rfl) ?_
        refine .cons (.mv rfl rfl) ?_
        refine .cons (St1.appB (k' := 142) (e := 3) (sz := 0) (by' := 8) rfl rfl rfl rfl rfl (by kernel_rfl) rfl rfl rfl rfl rfl (by simp; have := hR.ln; omega) rfl rfl rfl) ?_
        refine .cons (.mv rfl rfl) ?_
        refine .cons (.li 3 0 0 [.tmp 43] rfl rfl rfl rfl rfl rfl) ?_
        refine .cons (St1.appD (rows := p.map rI) (e := 3) (sz := 0) (by' := 8) rfl rfl rfl rfl rfl (by kernel_rfl) rfl rfl rfl rfl (by simp) (by simp; have := hR.ln; omega) rfl) ?_
        refine .cons (.mv rfl rfl) ?_
        refine .cons (.mv rfl rfl) ?_
        refine .cons (.sb rfl rfl rfl) ?_
        refine .cons (.cP [.tmp 39, .tmp 45, .tmp 48] rfl rfl rfl rfl (Fn.arg2c (dIs_snoc p v) (ih v (most - n) h1 g31 (by omega) (by omega))) rfl) ?_
        refine .cons (.pl rfl rfl rfl) ?_
        refine .cons (.asg rfl rfl) ?_
        refine .nil ?_
        refine kb_n ?_
        refine ks_n ?_
        refine ACode.region ?_
        refine .cons (.mv rfl rfl) ?_
        refine .cons (.pl rfl rfl rfl) ?_
        refine .cons (.asg rfl rfl) ?_
        refine .nil ?_
        refine kl_k [] ⟨v + 1, n + workF ms (p ++ [v]) (most - n), rfl, by omega, by omega, by rw [← hE, iterN_lt g31 (by omega)], rfl⟩ ⟨ks rfl .dt, ks rfl .dt, ks rfl .dt, ks rfl .dt, ks rfl .dt, ks rfl .dt, trivial⟩
      · try simp only [List.length_map, decide_eq_true_eq, decide_eq_false_iff_not, Bool.not_eq_true', Bool.not_eq_false', Bool.not_eq_true, Bool.not_eq_false] at h35
        refine ACode.exit ?_
        refine ks_e ?_
        refine kl_e ?_
        refine kb_hit ?_
        refine ks_n ?_
        refine ACode.seq ?_
        refine ACode.region ?_
        refine .cons (.mv rfl rfl) ?_
        refine .cons (.asg rfl rfl) ?_
        refine .nil ?_
        refine ks_n ?_
        refine ACode.ret ?_
        refine kf_ret rfl ?_ nobox
        first | exact leafI (by rw [← hE, iterN_ge g31]) | exact leafI (by rw [← hE, iterN_stop (by omega)])
    · skip
      refine .cons (.gF rfl rfl rfl) ?_
      refine .cons (.gF rfl rfl rfl) ?_
      refine .cons (.gF rfl rfl rfl) ?_
      refine .cons (.pF rfl rfl rfl) ?_
      refine .nil ?_
      refine ks_n ?_
      refine ACode.condT rfl (fun h => by first | (cases h; done) | (simp [*] at h; done) | (exfalso; simp_all; done)) (fun _ => ?_)
      refine ACode.exit ?_
      refine ks_e ?_
      refine kl_e ?_
      refine kb_hit ?_
      refine ks_n ?_
      refine ACode.seq ?_
      refine ACode.region ?_
      refine .cons (.mv rfl rfl) ?_
      refine .cons (.asg rfl rfl) ?_
      refine .nil ?_
      refine ks_n ?_
      refine ACode.ret ?_
      refine kf_ret rfl ?_ nobox
      first | exact leafI (by rw [← hE, iterN_ge g31]) | exact leafI (by rw [← hE, iterN_stop (by omega)])

theorem drop_tail {ns : List Lp} {k : Nat} {l : Lp} {ms : List Lp} (h : ns.drop k = l :: ms) : ns[k]? = some l ∧ ns.drop (k + 1) = ms := by
  have h1 : ns[k]? = some l := by
    have := congrArg (·[0]?) h
    simpa [List.getElem?_drop] using this
  refine ⟨h1, ?_⟩
  have := drop_at h1
  rw [h] at this
  exact (List.cons.inj this).2.symm
theorem node_facts {ns : List Lp} (hv : nsV ns = true) {p : List Int} (hp : PB p) (hl4 : p.length ≤ 4) {l : Lp} (hl : ns[p.length]? = some l) : okR l p ∧ (-(99 * 10 ^ p.length) ≤ loF p l.1 ∧ loF p l.1 ≤ 99 * 10 ^ p.length) ∧ (-(99 * 10 ^ p.length) ≤ hiF p l.2 ∧ hiF p l.2 ≤ 99 * 10 ^ p.length) ∧ (10 : Int) ^ p.length ≤ 10000 := by
  have hR := okR_of hv hl (hp.small hl4) hl4
  exact ⟨hR, loF_bd hp hR.n1 hR.v1, hiF_bd hp hR.n2 hR.v2, pow_le4 hl4⟩
theorem snoc_len (p : List Int) (v : Int) : (p ++ [v]).length = p.length + 1 := by simp
theorem l2Work_fn {ns : List Lp} (hv : nsV ns = true) : ∀ (ms : List Lp) (p : List Int) (most : Int), ns.drop p.length = ms → p.length ≤ ns.length → PB p → 0 ≤ most → most ≤ 1200 → Fn Try.prog 72 [] [vD (dLs ns), vD (dIs p), nat1 most] (.o (nat1 (workF ms p most))) []
  | [], p, most, hd, hle, hp, h0, h1 => work_leaf (by have := congrArg List.length hd; rw [List.length_drop] at this; simp at this; omega)
  | l :: ms, p, most, hd, hle, hp, h0, h1 => by
    obtain ⟨hl, hd2⟩ := drop_tail hd
    have hlt := (List.getElem?_eq_some_iff.1 hl).1
    have h4 := (nsV_at hv).1
    obtain ⟨hR, hlo, hhi, h10⟩ := node_facts hv hp (by omega) hl
    exact work_node h4 hl hR (by omega) (by omega) ⟨h0, h1⟩ (fun v m a b c d => l2Work_fn hv ms (p ++ [v]) m (by rw [snoc_len]; exact hd2) (by rw [snoc_len]; omega) (hp.snoc (by omega)) c d)
def hbPt (k : Nat) (o : Pts) : St := [(.b k, .b 28 1 (dR (o.map rIs))), (.u k, .u)]
theorem hbIn_one {σ : St} {inv : Inv} {k : Nat} {e : TypeId} {sz : Nat} {rows : List (List D)} (h : lk σ (.b (asc inv k)) = .b e sz (dR rows)) : hbIn σ inv [(.b k, .b e sz (dR rows)), (.u k, .u)] := ⟨by rw [renR_dR]; exact h, trivial⟩
theorem hbPt_HB (k : Nat) (o : Pts) : HB (hbPt k o) := HB.nil.data
theorem hbPt_flat (k : Nat) (o : Pts) : flatS (hbPt k o) := flatS.nil.cons rfl

set_option maxRecDepth 100000 in
set_option maxHeartbeats 1600000 in
theorem pts_leaf {ns : List Lp} {p : List Int} (hp : p.length = ns.length) (hp4 : p.length ≤ 4) {o0 : Pts} (ho : o0.length ≤ 120) : Fn Try.prog 73 (hbPt 0 o0) [.c (.own 0 1 o0.length), vD (dLs ns), vD (dIs p)] (.o (.c (.own 1000 1 (o0 ++ [p]).length))) (hbPt 1000 (o0 ++ [p])) := by
  refine Fn.of_code Try.func73 rfl rfl (hbPt_HB _ _) rfl rfl (hbPt_HB _ _) rfl (one_num rfl) ?_
  refine ACode.seq ?_
  refine ACode.region ?_
  refine .cons (.asg rfl rfl) ?_
  refine .nil ?_
  refine ks_n ?_
  refine ACode.seq ?_
  refine ACode.seq ?_
  refine ACode.region ?_
  refine .cons (.mv rfl rfl) ?_
  refine .cons (.ln 3 1 8 rfl rfl rfl) ?_
  refine .cons (.mv rfl rfl) ?_
  refine .cons (.ln 67 2 48 rfl rfl rfl) ?_
  refine .cons (.eq rfl rfl rfl) ?_
  refine .nil ?_
  refine ks_n ?_
  refine .cD rfl (fun h14 => ?_) (fun h14 => ?_)
  · skip
    refine ACode.seq ?_
    refine ACode.region ?_
    refine .cons (.mv rfl rfl) ?_
    refine .cons (St1.lit0 (k' := 116) (e := 3) (sz := 1) (b := true) rfl rfl rfl rfl (by kernel_rfl) rfl rfl) ?_
    refine .cons (.mv rfl rfl) ?_
    refine .cons (St1.appD (rows := []) (e := 3) (sz := 0) (by' := 8) rfl rfl rfl rfl rfl (by kernel_rfl) rfl rfl rfl rfl rfl (by simp; omega) rfl) ?_
    refine .cons (.li 28 0 0 [.tmp 18] rfl rfl rfl rfl rfl rfl) ?_
    refine .cons (St1.appB (k' := 1020) (e := 28) (sz := 0) (by' := 24) rfl rfl rfl rfl rfl (by kernel_rfl) rfl rfl rfl rfl (by simp [dR]) (by simp [dR]; omega) rfl rfl rfl) ?_
    refine .cons (.asg rfl rfl) ?_
    refine .nil ?_
    refine ks_n ?_
    refine ACode.ret ?_
    refine ks_r ?_
    refine kf_wret [(.t 6, .v (.o (.c (.own 1000 1 ((o0 ++ [p]).length))))), (.b 1000, .b 28 1 (dR ((o0 ++ [p]).map rIs))), (.u 1000, .u)] (Wk.keep [(1000, 1020)] rfl rfl ⟨ks rfl (.c .ow), kb 1020 rfl (.dt rfl (by simp [dR, rIs]; rfl)), trivial⟩) rfl ?_ (one_box rfl)
    rfl
  · skip
    omega

set_option maxRecDepth 100000 in
set_option maxHeartbeats 1600000 in
theorem pts_node {ns : List Lp} (hn : ns.length ≤ 4) {l : Lp} {ms : List Lp} {p : List Int} (hl : ns[p.length]? = some l) (hR : okR l p) (hlo : -100000000 ≤ loF p l.1 ∧ loF p l.1 ≤ 100000000) (hhi : -100000000 ≤ hiF p l.2 ∧ hiF p l.2 ≤ 100000000) {o0 : Pts} (ho : o0.length ≤ 120) (ih : ∀ v o, loF p l.1 ≤ v → v < hiF p l.2 → o.length ≤ 120 → Fn Try.prog 73 (hbPt 0 o) [.c (.own 0 1 o.length), vD (dLs ns), vD (dIs (p ++ [v]))] (.o (.c (.own 1000 1 (ptsF ms (p ++ [v]) o).length))) (hbPt 1000 (ptsF ms (p ++ [v]) o))) : Fn Try.prog 73 (hbPt 0 o0) [.c (.own 0 1 o0.length), vD (dLs ns), vD (dIs p)] (.o (.c (.own 1000 1 (ptsF (l :: ms) p o0).length))) (hbPt 1000 (ptsF (l :: ms) p o0)) := by
  refine Fn.of_code Try.func73 rfl rfl (hbPt_HB _ _) rfl rfl (hbPt_HB _ _) rfl (one_num rfl) ?_
  refine ACode.seq ?_
  refine ACode.region ?_
  refine .cons (.asg rfl rfl) ?_
  refine .nil ?_
  refine ks_n ?_
  refine ACode.seq ?_
  refine ACode.seq ?_
  refine ACode.region ?_
  refine .cons (.mv rfl rfl) ?_
  refine .cons (.ln 3 1 8 rfl rfl rfl) ?_
  refine .cons (.mv rfl rfl) ?_
  refine .cons (.ln 67 2 48 rfl rfl rfl) ?_
  refine .cons (.eq rfl rfl rfl) ?_
  refine .nil ?_
  refine ks_n ?_
  refine .cD rfl (fun h14 => ?_) (fun h14 => ?_)
  · skip
    have := (List.getElem?_eq_some_iff.1 hl).1; omega
  · skip
    refine ACode.skip ?_
    refine ks_n ?_
    refine ACode.seq ?_
    refine ACode.region ?_
    refine .cons (.mv rfl rfl) ?_
    refine .cons (.mv rfl rfl) ?_
    refine .cons (.ln 3 1 8 rfl rfl rfl) ?_
    refine .cons (.xL 67 2 48 rfl rfl rfl rfl rfl (map_at hl)) ?_
    refine .cons (.lN 2 rfl rfl rfl) ?_
    refine .cons (.mv rfl rfl) ?_
    refine .cons (.cP [.tmp 26, .tmp 27] rfl rfl rfl rfl (l2Range_fn hR) rfl) ?_
    refine .cons (.mv rfl rfl) ?_
    refine .cons (.ex rfl rfl rfl) ?_
    refine .cons (.ex rfl rfl rfl) ?_
    refine .cons (.asg rfl rfl) ?_
    refine .cons (.asg rfl rfl) ?_
    refine .nil ?_
    refine ks_n ?_
    refine ACode.seq ?_
    refine ACode.seq ?_
    refine ACode.region ?_
    refine .cons (.mv rfl rfl) ?_
    refine .cons (.asg rfl rfl) ?_
    refine .nil ?_
    refine ks_n ?_
    refine ACode.block ?_
    refine .loopK (fun m σ => (∃ (v : Int) (o : Pts), m = (hiF p l.2 - v).toNat ∧ (loF p l.1 ≤ v) ∧ (o.length ≤ 121) ∧ (iterP (fun v o => ptsF ms (p ++ [v]) o) (hiF p l.2 - v).toNat v o = ptsF (l :: ms) p o0) ∧ σ = [(.t 0, .v (.o (.c (.own 1010 1 (o.length))))), (.t 1, .v (.o (vD (dLs ns)))), (.t 2, .v (.o (vD (dIs p)))), (.t 8, .v (.o (nat1 (hiF p l.2)))), (.t 9, .v (.o (nat1 v))), (.b 1010, .b 28 1 (dR (o.map rIs))), (.u 1010, .u)])) [(1010, 0)] ⟨loF p l.1, o0, rfl, (by omega), (by omega), rfl, rfl⟩ ⟨ks rfl (.c .ow), ks rfl .dt, ks rfl .dt, ks rfl .dt, ks rfl .dt, kb 0 rfl (.dt rfl), trivial⟩ ?_
    rintro m σ ⟨v, o, hm0, h1, h2, hE, rfl⟩
    refine ACode.seq ?_
    refine ACode.seq ?_
    refine ACode.region ?_
    refine .cons (.mv rfl rfl) ?_
    refine .cons (.mv rfl rfl) ?_
    refine .cons (.ls rfl rfl rfl) ?_
    refine .cons (.mv rfl rfl) ?_
    refine .cD 35 rfl (fun g35 => ?_) (fun g35 => ?_)
    · skip
      refine .cons (.gT rfl rfl rfl (.mv rfl rfl)) ?_
      refine .cons (.gT rfl rfl rfl (.lB 28 1 24 rfl rfl rfl rfl)) ?_
      refine .cons (.gT rfl rfl rfl (.le rfl rfl rfl)) ?_
      refine .cons (.pT rfl rfl rfl) ?_
      refine .nil ?_
      refine ks_n ?_
      refine ACode.condT rfl (fun h39 => ?_) (fun h39 => ?_)
      · try simp only [List.length_map, decide_eq_true_eq, decide_eq_false_iff_not, Bool.not_eq_true', Bool.not_eq_false', Bool.not_eq_true, Bool.not_eq_false] at h39
        have hw := ptsF_spec ms (p ++ [v]) o (by omega)
        refine ACode.skip ?_
        refine ks_n ?_
        refine ACode.seq ?_
        refine ACode.block ?_
        refine ACode.region ?_
        refine .cons (.mv rfl rfl) ?_
        refine .cons (.mv rfl rfl) ?_
        refine .cons (St1.lit0 (k' := 144) (e := 3) (sz := 1) (b := true) rfl rfl rfl rfl (by kernel_rfl) rfl rfl) ?_
        refine .cons (.mv rfl rfl) ?_
        refine .cons (St1.appB (k' := 146) (e := 3) (sz := 0) (by' := 8) rfl rfl rfl rfl rfl (by kernel_rfl) rfl rfl rfl rfl rfl (by simp; have := hR.ln; omega) rfl rfl rfl) ?_
        refine .cons (.mv rfl rfl) ?_
        refine .cons (.li 3 0 0 [.tmp 47] rfl rfl rfl rfl rfl rfl) ?_
        refine .cons (St1.appD (rows := p.map rI) (e := 3) (sz := 0) (by' := 8) rfl rfl rfl rfl rfl (by kernel_rfl) rfl rfl rfl rfl (by simp) (by simp; have := hR.ln; omega) rfl) ?_
        refine .cons (.cO [.tmp 42, .tmp 43, .tmp 49] [(0, 1010), (1000, 1050)] rfl rfl rfl rfl (Fn.arg3 (dIs_snoc p v) (ih v o h1 g35 (by omega))) rfl (hbIn_one rfl) (hbPt_flat _ _) (hbPt_flat _ _) (hbPt_HB _ _) outS_one) ?_
        refine .cons (.asg rfl rfl) ?_
        refine .nil ?_
        refine kb_n ?_
        refine ks_n ?_
        refine ACode.region ?_
        refine .cons (.mv rfl rfl) ?_
        refine .cons (.pl rfl rfl rfl) ?_
        refine .cons (.asg rfl rfl) ?_
        refine .nil ?_
        refine kl_k [(1010, 1050)] ⟨v + 1, ptsF ms (p ++ [v]) o, rfl, by omega, hw.len, by rw [← hE, iterP_lt g35 (by omega)], rfl⟩ ⟨ks rfl (.c .ow), ks rfl .dt, ks rfl .dt, ks rfl .dt, ks rfl .dt, kb 1050 rfl (.dt rfl), trivial⟩
      · try simp only [List.length_map, decide_eq_true_eq, decide_eq_false_iff_not, Bool.not_eq_true', Bool.not_eq_false', Bool.not_eq_true, Bool.not_eq_false] at h39
        obtain rfl : o = ptsF (l :: ms) p o0 := by rw [← hE, iterP_stop (by omega)]
        refine ACode.exit ?_
        refine ks_e ?_
        refine kl_e ?_
        refine kb_hit ?_
        refine ks_n ?_
        refine ACode.seq ?_
        refine ACode.region ?_
        refine .cons (.mv rfl rfl) ?_
        refine .cons (.asg rfl rfl) ?_
        refine .nil ?_
        refine ks_n ?_
        refine ACode.ret ?_
        refine kf_wret [(.t 6, .v (.o (.c (.own 1000 1 ((ptsF (l :: ms) p o0).length))))), (.b 1000, .b 28 1 (dR ((ptsF (l :: ms) p o0).map rIs))), (.u 1000, .u)] (Wk.keep [(1000, 1010)] rfl rfl ⟨ks rfl (.c .ow), kb 1010 rfl (.dt rfl), trivial⟩) rfl ?_ (one_box rfl)
        rfl
    · skip
      obtain rfl : o = ptsF (l :: ms) p o0 := by rw [← hE, iterP_ge g35]
      refine .cons (.gF rfl rfl rfl) ?_
      refine .cons (.gF rfl rfl rfl) ?_
      refine .cons (.gF rfl rfl rfl) ?_
      refine .cons (.pF rfl rfl rfl) ?_
      refine .nil ?_
      refine ks_n ?_
      refine ACode.condT rfl (fun h => by first | (cases h; done) | (simp [*] at h; done) | (exfalso; simp_all; done)) (fun _ => ?_)
      refine ACode.exit ?_
      refine ks_e ?_
      refine kl_e ?_
      refine kb_hit ?_
      refine ks_n ?_
      refine ACode.seq ?_
      refine ACode.region ?_
      refine .cons (.mv rfl rfl) ?_
      refine .cons (.asg rfl rfl) ?_
      refine .nil ?_
      refine ks_n ?_
      refine ACode.ret ?_
      refine kf_wret [(.t 6, .v (.o (.c (.own 1000 1 ((ptsF (l :: ms) p o0).length))))), (.b 1000, .b 28 1 (dR ((ptsF (l :: ms) p o0).map rIs))), (.u 1000, .u)] (Wk.keep [(1000, 1010)] rfl rfl ⟨ks rfl (.c .ow), kb 1010 rfl (.dt rfl), trivial⟩) rfl ?_ (one_box rfl)
      rfl

theorem l2Points_fn {ns : List Lp} (hv : nsV ns = true) : ∀ (ms : List Lp) (p : List Int) (o : Pts), ns.drop p.length = ms → p.length ≤ ns.length → PB p → o.length ≤ 120 → Fn Try.prog 73 (hbPt 0 o) [.c (.own 0 1 o.length), vD (dLs ns), vD (dIs p)] (.o (.c (.own 1000 1 (ptsF ms p o).length))) (hbPt 1000 (ptsF ms p o))
  | [], p, o, hd, hle, hp, ho => pts_leaf (by have := congrArg List.length hd; rw [List.length_drop] at this; simp at this; omega) (by have := (nsV_at hv).1; omega) ho
  | l :: ms, p, o, hd, hle, hp, ho => by
    obtain ⟨hl, hd2⟩ := drop_tail hd
    have hlt := (List.getElem?_eq_some_iff.1 hl).1
    have h4 := (nsV_at hv).1
    obtain ⟨hR, hlo, hhi, h10⟩ := node_facts hv hp (by omega) hl
    exact pts_node h4 hl hR (by omega) (by omega) ho (fun v o a b c => l2Points_fn hv ms (p ++ [v]) o (by rw [snoc_len]; exact hd2) (by rw [snoc_len]; omega) (hp.snoc (by omega)) c)

end Go.Proofs.Ytgcpdpbapgkdjaa

/- The walk of the program through a nest; condition: what its parts do. -/
namespace Go.Proofs.Ytgcpdpbapgkdjaa
set_option linter.unusedVariables false
set_option linter.unusedSimpArgs false
open Go.RowKit

theorem first_nil {f : Int → Nat → Pts → Bool × Nat × Pts} (hf : ∀ v s o, ∃ z, (f v s o).2.2 = o ++ z) {hi v : Int} {s : Nat} (h : v < hi) (hR : (iterW f (hi - v).toNat v s []).2.2 = []) : (f v s []).2.2 = [] := by
  rw [iterW_lt h] at hR
  by_cases hb : (f v s []).1 = true
  · rw [if_pos hb] at hR
    obtain ⟨z, hz⟩ := iterW_grow hf (hi - (v + 1)).toNat (v + 1) (f v s []).2.1 (f v s []).2.2
    rw [hz] at hR
    exact (List.append_eq_nil_iff.1 hR).1
  · rwa [if_neg hb] at hR
theorem iterW_no {f : Int → Nat → Pts → Bool × Nat × Pts} {hi v : Int} {s : Nat} {o : Pts} {r : Bool × Nat × Pts} (h : v < hi) (hs : f v s o = r) (hb : r.1 = false) : iterW f (hi - v).toNat v s o = r := by
  rw [iterW_lt h, hs, if_neg (by rw [hb]; simp)]
theorem iterW_yes {f : Int → Nat → Pts → Bool × Nat × Pts} {hi v : Int} {s : Nat} {o : Pts} {r : Bool × Nat × Pts} (h : v < hi) (hs : f v s o = r) (hb : r.1 = true) : iterW f (hi - v).toNat v s o = iterW f (hi - (v + 1)).toNat (v + 1) r.2.1 r.2.2 := by
  rw [iterW_lt h, hs, if_pos hb]
theorem hbIn_O {σ : St} {inv : Inv} {k : Nat} {ns : List Lp} {s : Nat} {o : Pts} (h : lk σ (.b (asc inv 0)) = .b 79 3 [[.d (dLs ns), .d (dI (s : Nat)), .own (asc inv k) 1 o.length]]) (h2 : lk σ (.b (asc inv k)) = .b 28 1 (dR (o.map rIs))) : hbIn σ inv (hbO k ns s o) := ⟨h, by rw [renR_dR]; exact h2, trivial⟩

set_option maxRecDepth 100000 in
set_option maxHeartbeats 1600000 in
theorem walk_leaf_no {ns : List Lp} {s0 : Nat} {p : List Int} (hp : p.length = ns.length) (hp0 : 0 < p.length) (hp4 : p.length ≤ 4)  : Fn Try.prog 59 (hbN ns s0) [.c (.box 0 3 0 0), vD (dIs p)] (.o (bo1 (decide ((([] : Pts)).length + 1 ≤ 120)))) (hbO 1000 ns s0 (([] : Pts) ++ [p])) := by
  refine Fn.of_code Try.func59 rfl rfl (hbN_HB _ _) rfl rfl (hbO_HB _ _ _ _) rfl (num_NO _ _ _ _) ?_
  refine ACode.seq ?_
  refine ACode.region ?_
  refine .cons (.asg rfl rfl) ?_
  refine .nil ?_
  refine ks_n ?_
  refine ACode.seq ?_
  refine ACode.seq ?_
  refine ACode.region ?_
  refine .cons (.mv rfl rfl) ?_
  refine .cons (.ln 3 1 8 rfl rfl rfl) ?_
  refine .cons (.mv rfl rfl) ?_
  refine .cons (.nB rfl rfl rfl) ?_
  refine .cons (.fB 0 0 false rfl rfl rfl) ?_
  refine .cons (.b1 1 rfl rfl rfl rfl rfl rfl) ?_
  refine .cons (.ln 67 2 48 rfl rfl rfl) ?_
  refine .cons (.eq rfl rfl rfl) ?_
  refine .nil ?_
  refine ks_n ?_
  refine .cD rfl (fun h15 => ?_) (fun h15 => ?_)
  · skip
    refine ACode.seq ?_
    refine ACode.drawK (by kernel_rfl) (by kernel_rfl) ?_
    refine .cons (.mv rfl rfl) ?_
    refine .cons (.mv rfl rfl) ?_
    refine .cons (.nB rfl rfl rfl) ?_
    refine .cons (.fB 2 0 false rfl rfl rfl) ?_
    refine .cons (.b1 1 rfl rfl rfl rfl rfl rfl) ?_
    refine .cons (.mv rfl rfl) ?_
    refine .cons (.cP [.tmp 21] rfl rfl rfl rfl (clone_dat hp0 (by omega)) rfl) ?_
    refine .cons (.li 28 0 0 [.tmp 22] rfl rfl rfl rfl rfl rfl) ?_
    refine .cons (St1.appN (k' := 124) (e := 28) (sz := 0) (by' := 24) rfl rfl rfl rfl rfl (by kernel_rfl) rfl rfl rfl (by simp) (by simp [dR] <;> omega) rfl rfl) ?_
    refine .cons (.nB rfl rfl rfl) ?_
    refine .cons (.fB 2 0 false rfl rfl rfl) ?_
    refine .cons (.sT 1 false rfl rfl rfl rfl rfl rfl rfl) ?_
    refine .nil ⟨by kernel_rfl, ?_⟩
    refine ks_n ?_
    refine ACode.seq ?_
    refine ACode.region ?_
    refine .cons (.mv rfl rfl) ?_
    refine .cons (.nB rfl rfl rfl) ?_
    refine .cons (.fB 2 0 false rfl rfl rfl) ?_
    refine .cons (.b1 1 rfl rfl rfl rfl rfl rfl) ?_
    refine .cons (.lB 28 1 24 rfl rfl rfl rfl) ?_
    refine .cons (.le rfl rfl rfl) ?_
    refine .cons (.asg rfl rfl) ?_
    refine .nil ?_
    refine ks_n ?_
    refine ACode.ret ?_
    refine ks_r ?_
    refine kf_wret [(.t 4, .v (.o (bo1 (decide ((([] : Pts)).length + 1 ≤ 120))))), (.b 0, .b 79 3 ([[.d (dLs ns), .d (dI (s0 : Nat)), .own 1000 1 (([] : Pts) ++ [p]).length]])), (.u 0, .u), (.b 1000, .b 28 1 (dR ((([] : Pts) ++ [p]).map rIs))), (.u 1000, .u)] (Wk.keep [(0, 0), (1000, 124)] rfl rfl ⟨ks rfl (.dt (congrArg (fun b => V.o (bo1 b)) (by rw [Bool.eq_iff_iff]; simp <;> omega))), kb 0 rfl (.cons (.cons .dt (.cons .dt (.cons .ow .nil))) .nil), kb 124 rfl (.dt rfl (by simp [dR, rIs]; try rfl)), trivial⟩) rfl ?_ (two_box rfl rfl)
    rfl
  · skip
    exact absurd h15 (by simp; omega)

set_option maxRecDepth 100000 in
set_option maxHeartbeats 1600000 in
theorem walk_leaf_oo {ns : List Lp} {s0 : Nat} {p : List Int} (hp : p.length = ns.length) (hp0 : 0 < p.length) (hp4 : p.length ≤ 4) {o0 : Pts} (ho : o0.length ≤ 120) : Fn Try.prog 59 (hbO 1 ns s0 o0) [.c (.box 0 3 0 0), vD (dIs p)] (.o (bo1 (decide ((o0).length + 1 ≤ 120)))) (hbO 1000 ns s0 (o0 ++ [p])) := by
  refine Fn.of_code Try.func59 rfl rfl (hbO_HB _ _ _ _) rfl rfl (hbO_HB _ _ _ _) rfl (num_OO _ _ _ _ _) ?_
  refine ACode.seq ?_
  refine ACode.region ?_
  refine .cons (.asg rfl rfl) ?_
  refine .nil ?_
  refine ks_n ?_
  refine ACode.seq ?_
  refine ACode.seq ?_
  refine ACode.region ?_
  refine .cons (.mv rfl rfl) ?_
  refine .cons (.ln 3 1 8 rfl rfl rfl) ?_
  refine .cons (.mv rfl rfl) ?_
  refine .cons (.nB rfl rfl rfl) ?_
  refine .cons (.fB 0 0 false rfl rfl rfl) ?_
  refine .cons (.b1 1 rfl rfl rfl rfl rfl rfl) ?_
  refine .cons (.ln 67 2 48 rfl rfl rfl) ?_
  refine .cons (.eq rfl rfl rfl) ?_
  refine .nil ?_
  refine ks_n ?_
  refine .cD rfl (fun h15 => ?_) (fun h15 => ?_)
  · skip
    refine ACode.seq ?_
    refine ACode.drawK (by kernel_rfl) (by kernel_rfl) ?_
    refine .cons (.mv rfl rfl) ?_
    refine .cons (.mv rfl rfl) ?_
    refine .cons (.nB rfl rfl rfl) ?_
    refine .cons (.fB 2 0 false rfl rfl rfl) ?_
    refine .cons (.b1 1 rfl rfl rfl rfl rfl rfl) ?_
    refine .cons (.mv rfl rfl) ?_
    refine .cons (.cP [.tmp 21] rfl rfl rfl rfl (clone_dat hp0 (by omega)) rfl) ?_
    refine .cons (.li 28 0 0 [.tmp 22] rfl rfl rfl rfl rfl rfl) ?_
    refine .cons (St1.appB (k' := 1024) (e := 28) (sz := 0) (by' := 24) rfl rfl rfl rfl rfl (by kernel_rfl) rfl rfl rfl rfl (by simp [dR]) (by simp [dR] <;> omega) rfl rfl rfl) ?_
    refine .cons (.nB rfl rfl rfl) ?_
    refine .cons (.fB 2 0 false rfl rfl rfl) ?_
    refine .cons (.sT 1 false rfl rfl rfl rfl rfl rfl rfl) ?_
    refine .nil ⟨by kernel_rfl, ?_⟩
    refine ks_n ?_
    refine ACode.seq ?_
    refine ACode.region ?_
    refine .cons (.mv rfl rfl) ?_
    refine .cons (.nB rfl rfl rfl) ?_
    refine .cons (.fB 2 0 false rfl rfl rfl) ?_
    refine .cons (.b1 1 rfl rfl rfl rfl rfl rfl) ?_
    refine .cons (.lB 28 1 24 rfl rfl rfl rfl) ?_
    refine .cons (.le rfl rfl rfl) ?_
    refine .cons (.asg rfl rfl) ?_
    refine .nil ?_
    refine ks_n ?_
    refine ACode.ret ?_
    refine ks_r ?_
    refine kf_wret [(.t 4, .v (.o (bo1 (decide ((o0).length + 1 ≤ 120))))), (.b 0, .b 79 3 ([[.d (dLs ns), .d (dI (s0 : Nat)), .own 1000 1 (o0 ++ [p]).length]])), (.u 0, .u), (.b 1000, .b 28 1 (dR ((o0 ++ [p]).map rIs))), (.u 1000, .u)] (Wk.keep [(0, 0), (1000, 1024)] rfl rfl ⟨ks rfl (.dt (congrArg (fun b => V.o (bo1 b)) (by rw [Bool.eq_iff_iff]; simp <;> omega))), kb 0 rfl (.cons (.cons .dt (.cons .dt (.cons .ow .nil))) .nil), kb 1024 rfl (.dt rfl (by simp [dR, rIs]; try rfl)), trivial⟩) rfl ?_ (two_box rfl rfl)
    rfl
  · skip
    exact absurd h15 (by simp; omega)

set_option maxRecDepth 100000 in
set_option maxHeartbeats 1600000 in
theorem walk_leaf_noR {ns : List Lp} {s0 : Nat} (hp : 0 = ns.length)  : Fn Try.prog 59 (hbN ns s0) [.c (.box 0 3 0 0), vN] (.o (bo1 (decide ((([] : Pts)).length + 1 ≤ 120)))) (hbO 1000 ns s0 (([] : Pts) ++ [([] : List Int)])) := by
  refine Fn.of_code Try.func59 rfl rfl (hbN_HB _ _) rfl rfl (hbO_HB _ _ _ _) rfl (num_NO _ _ _ _) ?_
  refine ACode.seq ?_
  refine ACode.region ?_
  refine .cons (.asg rfl rfl) ?_
  refine .nil ?_
  refine ks_n ?_
  refine ACode.seq ?_
  refine ACode.seq ?_
  refine ACode.region ?_
  refine .cons (.mv rfl rfl) ?_
  refine .cons (St1.lenN (e := 3) (m := 1) (by' := 8) rfl rfl rfl rfl rfl (by kernel_rfl) rfl) ?_
  refine .cons (.mv rfl rfl) ?_
  refine .cons (.nB rfl rfl rfl) ?_
  refine .cons (.fB 0 0 false rfl rfl rfl) ?_
  refine .cons (.b1 1 rfl rfl rfl rfl rfl rfl) ?_
  refine .cons (.ln 67 2 48 rfl rfl rfl) ?_
  refine .cons (.eq rfl rfl rfl) ?_
  refine .nil ?_
  refine ks_n ?_
  refine .cD rfl (fun h15 => ?_) (fun h15 => ?_)
  · skip
    refine ACode.seq ?_
    refine ACode.drawK (by kernel_rfl) (by kernel_rfl) ?_
    refine .cons (.mv rfl rfl) ?_
    refine .cons (.mv rfl rfl) ?_
    refine .cons (.nB rfl rfl rfl) ?_
    refine .cons (.fB 2 0 false rfl rfl rfl) ?_
    refine .cons (.b1 1 rfl rfl rfl rfl rfl rfl) ?_
    refine .cons (.mv rfl rfl) ?_
    refine .cons (.cP [.tmp 21] rfl rfl rfl rfl (clone_nilD) rfl) ?_
    refine .cons (.li 28 0 0 [.tmp 22] rfl rfl rfl rfl rfl rfl) ?_
    refine .cons (St1.appN (k' := 124) (e := 28) (sz := 0) (by' := 24) rfl rfl rfl rfl rfl (by kernel_rfl) rfl rfl rfl (by simp) (by simp [dR] <;> omega) rfl rfl) ?_
    refine .cons (.nB rfl rfl rfl) ?_
    refine .cons (.fB 2 0 false rfl rfl rfl) ?_
    refine .cons (.sT 1 false rfl rfl rfl rfl rfl rfl rfl) ?_
    refine .nil ⟨by kernel_rfl, ?_⟩
    refine ks_n ?_
    refine ACode.seq ?_
    refine ACode.region ?_
    refine .cons (.mv rfl rfl) ?_
    refine .cons (.nB rfl rfl rfl) ?_
    refine .cons (.fB 2 0 false rfl rfl rfl) ?_
    refine .cons (.b1 1 rfl rfl rfl rfl rfl rfl) ?_
    refine .cons (.lB 28 1 24 rfl rfl rfl rfl) ?_
    refine .cons (.le rfl rfl rfl) ?_
    refine .cons (.asg rfl rfl) ?_
    refine .nil ?_
    refine ks_n ?_
    refine ACode.ret ?_
    refine ks_r ?_
    refine kf_wret [(.t 4, .v (.o (bo1 (decide ((([] : Pts)).length + 1 ≤ 120))))), (.b 0, .b 79 3 ([[.d (dLs ns), .d (dI (s0 : Nat)), .own 1000 1 (([] : Pts) ++ [([] : List Int)]).length]])), (.u 0, .u), (.b 1000, .b 28 1 (dR ((([] : Pts) ++ [([] : List Int)]).map rIs))), (.u 1000, .u)] (Wk.keep [(0, 0), (1000, 124)] rfl rfl ⟨ks rfl (.dt (congrArg (fun b => V.o (bo1 b)) (by rw [Bool.eq_iff_iff]; simp <;> omega))), kb 0 rfl (.cons (.cons .dt (.cons .dt (.cons .ow .nil))) .nil), kb 124 rfl (.dt rfl (by simp [dR, rIs]; try rfl)), trivial⟩) rfl ?_ (two_box rfl rfl)
    rfl
  · skip
    exact absurd h15 (by simp; omega)

set_option maxRecDepth 100000 in
set_option maxHeartbeats 1600000 in
theorem walk_nn {ns : List Lp} (hn : ns.length ≤ 4) {l : Lp} {ms : List Lp} {p : List Int} (hl : ns[p.length]? = some l) (hR : okR l p) (hlo : -100000000 ≤ loF p l.1 ∧ loF p l.1 ≤ 100000000) (hhi : -100000000 ≤ hiF p l.2 ∧ hiF p l.2 ≤ 100000000) (hp0 : 0 < p.length) {s0 : Nat} (hs0 : s0 ≤ 1199) (ih : ∀ v s o, loF p l.1 ≤ v → v < hiF p l.2 → s ≤ 1199 → o.length ≤ 120 → WOk ns ms (p ++ [v]) (dIs (p ++ [v])) s o) (hz : (walkF (l :: ms) p s0 ([] : Pts)).2.2 = []) : Fn Try.prog 59 (hbN ns s0) [.c (.box 0 3 0 0), vD (dIs p)] (.o (bo1 (walkF (l :: ms) p s0 ([] : Pts)).1)) (hbN ns (walkF (l :: ms) p s0 ([] : Pts)).2.1) := by
  obtain ⟨R, hRd⟩ : ∃ R, R = walkF (l :: ms) p s0 ([] : Pts) := ⟨_, rfl⟩
  rw [← hRd] at hz ⊢
  refine Fn.of_code Try.func59 rfl rfl (hbN_HB _ _) rfl rfl (hbN_HB _ _) rfl (num_NN _ _ _) ?_
  refine ACode.seq ?_
  refine ACode.region ?_
  refine .cons (.asg rfl rfl) ?_
  refine .nil ?_
  refine ks_n ?_
  refine ACode.seq ?_
  refine ACode.seq ?_
  refine ACode.region ?_
  refine .cons (.mv rfl rfl) ?_
  refine .cons (.ln 3 1 8 rfl rfl rfl) ?_
  refine .cons (.mv rfl rfl) ?_
  refine .cons (.nB rfl rfl rfl) ?_
  refine .cons (.fB 0 0 false rfl rfl rfl) ?_
  refine .cons (.b1 1 rfl rfl rfl rfl rfl rfl) ?_
  refine .cons (.ln 67 2 48 rfl rfl rfl) ?_
  refine .cons (.eq rfl rfl rfl) ?_
  refine .nil ?_
  refine ks_n ?_
  refine .cD rfl (fun h15 => ?_) (fun h15 => ?_)
  · skip
    exact absurd h15 (by have := (List.getElem?_eq_some_iff.1 hl).1; simp at this ⊢; omega)
  · skip
    refine ACode.skip ?_
    refine ks_n ?_
    refine ACode.seq ?_
    refine ACode.region ?_
    refine .cons (.mv rfl rfl) ?_
    refine .cons (.nB rfl rfl rfl) ?_
    refine .cons (.fB 0 0 false rfl rfl rfl) ?_
    refine .cons (.b1 1 rfl rfl rfl rfl rfl rfl) ?_
    refine .cons (.mv rfl rfl) ?_
    refine .cons (.ln 3 1 8 rfl rfl rfl) ?_
    refine .cons (.xL 67 2 48 rfl rfl rfl rfl rfl (map_at hl)) ?_
    refine .cons (.lN 2 rfl rfl rfl) ?_
    refine .cons (.mv rfl rfl) ?_
    refine .cons (.cP [.tmp 41, .tmp 42] rfl rfl rfl rfl (span_fn hR) rfl) ?_
    refine .cons (.mv rfl rfl) ?_
    refine .cons (.ex rfl rfl rfl) ?_
    refine .cons (.ex rfl rfl rfl) ?_
    refine .cons (.asg rfl rfl) ?_
    refine .cons (.asg rfl rfl) ?_
    refine .nil ?_
    refine ks_n ?_
    refine ACode.seq ?_
    refine ACode.seq ?_
    refine ACode.region ?_
    refine .cons (.mv rfl rfl) ?_
    refine .cons (.asg rfl rfl) ?_
    refine .nil ?_
    refine ks_n ?_
    refine ACode.block ?_
    refine .loopK (fun m σ => (∃ (v : Int) (s : Nat), m = (hiF p l.2 - v).toNat ∧ (loF p l.1 ≤ v) ∧ (s ≤ 1199) ∧ (iterW (stepW ms p) (hiF p l.2 - v).toNat v s [] = R) ∧ σ = [(.t 0, .v (.o (.c (.box 0 3 0 0)))), (.t 1, .v (.o (vD (dIs p)))), (.t 6, .v (.o (nat1 (hiF p l.2)))), (.t 7, .v (.o (nat1 v))), (.b 0, .b 79 3 [[.d (dLs ns), .d (dI (s : Nat)), .d (.val (.slice none 0 0))]]), (.u 0, .u)])) [(0, 0)] ⟨loF p l.1, s0, rfl, (by omega), hs0, (by rw [hRd]; rfl), rfl⟩ ⟨ks rfl (.c .bx), ks rfl .dt, ks rfl .dt, ks rfl .dt, kb 0 rfl (.cons (.cons .dt (.cons .dt (.cons .dt Ctos.nil))) .nil), trivial⟩ ?_
    rintro m σ ⟨v, s, hm0, h1, hs, hE, rfl⟩
    refine ACode.seq ?_
    refine ACode.seq ?_
    refine ACode.region ?_
    refine .cons (.mv rfl rfl) ?_
    refine .cons (.mv rfl rfl) ?_
    refine .cons (.ls rfl rfl rfl) ?_
    refine .nil ?_
    refine ks_n ?_
    refine .cD rfl (fun h49 => ?_) (fun h49 => ?_)
    · skip
      refine ACode.skip ?_
      refine ks_n ?_
      refine ACode.seq ?_
      refine ACode.block ?_
      refine ACode.seq ?_
      refine ACode.region ?_
      refine .cons (.mv rfl rfl) ?_
      refine .cons (.nB rfl rfl rfl) ?_
      refine .cons (.fB 1 0 false rfl rfl rfl) ?_
      refine .cons (.b1 1 rfl rfl rfl rfl rfl rfl) ?_
      refine .cons (.pl rfl rfl rfl) ?_
      refine .cons (.nB rfl rfl rfl) ?_
      refine .cons (.fB 1 0 false rfl rfl rfl) ?_
      refine .cons (.sT 1 false rfl rfl rfl rfl rfl rfl rfl) ?_
      refine .nil ?_
      refine ks_n ?_
      refine ACode.seq ?_
      refine .keep [(.t 0, .v (.o (.c (.box 0 3 0 0)))), (.t 1, .v (.o (vD (dIs p)))), (.t 6, .v (.o (nat1 (hiF p l.2)))), (.t 7, .v (.o (nat1 v))), (.b 0, .b 79 3 [[.d (dLs ns), .d (dI ((s + 1) : Nat)), .d (.val (.slice none 0 0))]]), (.u 0, .u)] [(0, 0)] ⟨ks rfl (.c .bx), ks rfl .dt, ks rfl .dt, ks rfl .dt, kb 0 rfl (.cons (.cons .dt (.cons .dt (.cons .dt Ctos.nil))) .nil), trivial⟩ ?_
      refine ACode.region ?_
      refine .cons (.mv rfl rfl) ?_
      refine .cons (.nB rfl rfl rfl) ?_
      refine .cons (.fB 1 0 false rfl rfl rfl) ?_
      refine .cons (.b1 1 rfl rfl rfl rfl rfl rfl) ?_
      refine .cons (.pl rfl rfl rfl) ?_
      refine .cons (.gt rfl rfl rfl) ?_
      refine .cons (.mv rfl rfl) ?_
      refine .cD 65 rfl (fun g65 => ?_) (fun g65 => ?_)
      · skip
        have hstep : stepW ms p v s [] = (false, s + 1, []) := if_pos (by omega)
        obtain rfl : R = (false, s + 1, []) := by rw [← hE, iterW_no h49 hstep rfl]
        refine .cons (.gF rfl rfl rfl) ?_
        refine .cons (.gF rfl rfl rfl) ?_
        refine .cons (.gF rfl rfl rfl) ?_
        refine .cons (.gF rfl rfl rfl) ?_
        refine .cons (.gF rfl rfl rfl) ?_
        refine .cons (.gF rfl rfl rfl) ?_
        refine .cons (.gF rfl rfl rfl) ?_
        refine .cons (.gF rfl rfl rfl) ?_
        refine .cons (.pT rfl rfl rfl) ?_
        refine .nil ?_
        refine ks_n ?_
        refine ACode.condT rfl (fun _ => ?_) (fun h => by first | (cases h; done) | (simp [*] at h; done) | (exfalso; simp_all; done))
        refine ACode.seq ?_
        refine ACode.region ?_
        refine .cons (.asg rfl rfl) ?_
        refine .nil ?_
        refine ks_n ?_
        refine ACode.ret ?_
        refine kb_r ?_
        refine ks_r ?_
        refine kl_r ?_
        refine kb_r ?_
        refine ks_r ?_
        refine kf_wret [(.t 4, .v (.o (bo1 ((false, s + 1, []) : Bool × Nat × Pts).1))), (.b 0, .b 79 3 (dR ([rWk ns ((false, s + 1, []) : Bool × Nat × Pts).2.1]))), (.u 0, .u)] (Wk.keep [(0, 0)] rfl rfl ⟨ks rfl (.dt (by first | rfl | exact congrArg (fun b => V.o (bo1 b)) h74.symm)), kb 0 rfl (.dt rfl), trivial⟩) rfl ?_ (one_box rfl)
        rfl
      · skip
        have hstep : stepW ms p v s [] = walkF ms (p ++ [v]) (s + 1) [] := if_neg (by omega)
        have ihv := ih v (s + 1) [] h1 h49 (by omega) (by simp)
        have hzz : (walkF ms (p ++ [v]) (s + 1) []).2.2 = [] := by rw [← hE] at hz; have h5 := first_nil (fun v s o => stepW_grow ms p v s o) h49 hz; rwa [hstep] at h5
        refine .cons (.gT rfl rfl rfl (.mv rfl rfl)) ?_
        refine .cons (.gT rfl rfl rfl (.mv rfl rfl)) ?_
        refine .cons (.gT rfl rfl rfl (.cO [.tmp 67] [(100, 168)] rfl rfl rfl rfl (clone_own hp0 (by have := hR.ln; omega)) rfl trivial flatS.nil (flatS.nil.cons rfl) HB.nil.data outS_one)) ?_
        refine .cons (.gT rfl rfl rfl (.mv rfl rfl)) ?_
        refine .cons (.gT rfl rfl rfl (.li 3 0 0 [.tmp 69] rfl rfl rfl rfl rfl rfl)) ?_
        refine .cons (.gT rfl rfl rfl (St1.appD (rows := p.map rI) (e := 3) (sz := 0) (by' := 8) rfl rfl rfl rfl rfl (by kernel_rfl) rfl rfl rfl rfl (by simp) (by simp; have := hR.ln; omega) rfl)) ?_
        refine .cons (.gT rfl rfl rfl (.cO [.tmp 66, .tmp 71] [(0, 0)] rfl rfl rfl rfl (Fn.arg2 (dIs_snoc p v) (ihv.nn rfl hzz)) rfl ⟨rfl, trivial⟩ (hbN_flat _ _) (hbN_flat _ _) (hbN_HB _ _) outS_one)) ?_
        refine .cons (.gT rfl rfl rfl (.nt rfl rfl)) ?_
        refine .cons (.pF rfl rfl rfl) ?_
        refine .nil ?_
        refine ks_n ?_
        refine ACode.condT rfl (fun h74 => ?_) (fun h74 => ?_)
        · try simp only [List.length_map, decide_eq_true_eq, decide_eq_false_iff_not, Bool.not_eq_true', Bool.not_eq_false', Bool.not_eq_true, Bool.not_eq_false] at h74
          obtain rfl : R = walkF ms (p ++ [v]) (s + 1) [] := by rw [← hE, iterW_no h49 hstep h74]
          refine ACode.seq ?_
          refine ACode.region ?_
          refine .cons (.asg rfl rfl) ?_
          refine .nil ?_
          refine ks_n ?_
          refine ACode.ret ?_
          refine kb_r ?_
          refine ks_r ?_
          refine kl_r ?_
          refine kb_r ?_
          refine ks_r ?_
          refine kf_wret [(.t 4, .v (.o (bo1 (walkF ms (p ++ [v]) (s + 1) []).1))), (.b 0, .b 79 3 (dR ([rWk ns (walkF ms (p ++ [v]) (s + 1) []).2.1]))), (.u 0, .u)] (Wk.keep [(0, 0)] rfl rfl ⟨ks rfl (.dt (by first | rfl | exact congrArg (fun b => V.o (bo1 b)) h74.symm)), kb 0 rfl (.dt rfl), trivial⟩) rfl ?_ (one_box rfl)
          rfl
        · try simp only [List.length_map, decide_eq_true_eq, decide_eq_false_iff_not, Bool.not_eq_true', Bool.not_eq_false', Bool.not_eq_true, Bool.not_eq_false] at h74
          obtain ⟨g, hg, hst⟩ := walkF_stp ms (p ++ [v]) (s + 1) [] (by omega) (by simp)
          obtain ⟨q1, q2⟩ := hst.ok.1 h74
          obtain ⟨q3, q4⟩ := hst.st h74
          have q5 := congrArg List.length q4
          rw [List.length_append] at q5
          simp only [List.length_nil] at q5 q2
          refine ACode.skip ?_
          refine kb_n ?_
          refine ks_n ?_
          refine ACode.region ?_
          refine .cons (.mv rfl rfl) ?_
          refine .cons (.pl rfl rfl rfl) ?_
          refine .cons (.asg rfl rfl) ?_
          refine .nil ?_
          refine kl_k [(0, 0)] ⟨v + 1, (walkF ms (p ++ [v]) (s + 1) []).2.1, rfl, by omega, by omega, by rw [← hE, iterW_yes h49 hstep h74, hzz], rfl⟩ ⟨ks rfl (.c .bx), ks rfl .dt, ks rfl .dt, ks rfl .dt, kb 0 rfl (.cons (.cons .dt (.cons .dt (.cons .dt Ctos.nil))) .nil), trivial⟩
    · skip
      obtain rfl : R = (true, s, []) := by rw [← hE, iterW_ge h49]
      refine ACode.exit ?_
      refine ks_e ?_
      refine kl_e ?_
      refine kb_hit ?_
      refine ks_n ?_
      refine ACode.seq ?_
      refine ACode.region ?_
      refine .cons (.asg rfl rfl) ?_
      refine .nil ?_
      refine ks_n ?_
      refine ACode.ret ?_
      refine kf_wret [(.t 4, .v (.o (bo1 ((true, s, []) : Bool × Nat × Pts).1))), (.b 0, .b 79 3 (dR ([rWk ns ((true, s, []) : Bool × Nat × Pts).2.1]))), (.u 0, .u)] (Wk.keep [(0, 0)] rfl rfl ⟨ks rfl (.dt (by first | rfl | exact congrArg (fun b => V.o (bo1 b)) h74.symm)), kb 0 rfl (.dt rfl), trivial⟩) rfl ?_ (one_box rfl)
      rfl

set_option maxRecDepth 100000 in
set_option maxHeartbeats 1600000 in
theorem walk_no {ns : List Lp} (hn : ns.length ≤ 4) {l : Lp} {ms : List Lp} {p : List Int} (hl : ns[p.length]? = some l) (hR : okR l p) (hlo : -100000000 ≤ loF p l.1 ∧ loF p l.1 ≤ 100000000) (hhi : -100000000 ≤ hiF p l.2 ∧ hiF p l.2 ≤ 100000000) (hp0 : 0 < p.length) {s0 : Nat} (hs0 : s0 ≤ 1199) (ih : ∀ v s o, loF p l.1 ≤ v → v < hiF p l.2 → s ≤ 1199 → o.length ≤ 120 → WOk ns ms (p ++ [v]) (dIs (p ++ [v])) s o) (hz : (walkF (l :: ms) p s0 ([] : Pts)).2.2 ≠ []) : Fn Try.prog 59 (hbN ns s0) [.c (.box 0 3 0 0), vD (dIs p)] (.o (bo1 (walkF (l :: ms) p s0 ([] : Pts)).1)) (hbO 1000 ns (walkF (l :: ms) p s0 ([] : Pts)).2.1 (walkF (l :: ms) p s0 ([] : Pts)).2.2) := by
  obtain ⟨R, hRd⟩ : ∃ R, R = walkF (l :: ms) p s0 ([] : Pts) := ⟨_, rfl⟩
  rw [← hRd] at hz ⊢
  refine Fn.of_code Try.func59 rfl rfl (hbN_HB _ _) rfl rfl (hbO_HB _ _ _ _) rfl (num_NO _ _ _ _) ?_
  refine ACode.seq ?_
  refine ACode.region ?_
  refine .cons (.asg rfl rfl) ?_
  refine .nil ?_
  refine ks_n ?_
  refine ACode.seq ?_
  refine ACode.seq ?_
  refine ACode.region ?_
  refine .cons (.mv rfl rfl) ?_
  refine .cons (.ln 3 1 8 rfl rfl rfl) ?_
  refine .cons (.mv rfl rfl) ?_
  refine .cons (.nB rfl rfl rfl) ?_
  refine .cons (.fB 0 0 false rfl rfl rfl) ?_
  refine .cons (.b1 1 rfl rfl rfl rfl rfl rfl) ?_
  refine .cons (.ln 67 2 48 rfl rfl rfl) ?_
  refine .cons (.eq rfl rfl rfl) ?_
  refine .nil ?_
  refine ks_n ?_
  refine .cD rfl (fun h15 => ?_) (fun h15 => ?_)
  · skip
    exact absurd h15 (by have := (List.getElem?_eq_some_iff.1 hl).1; simp at this ⊢; omega)
  · skip
    refine ACode.skip ?_
    refine ks_n ?_
    refine ACode.seq ?_
    refine ACode.region ?_
    refine .cons (.mv rfl rfl) ?_
    refine .cons (.nB rfl rfl rfl) ?_
    refine .cons (.fB 0 0 false rfl rfl rfl) ?_
    refine .cons (.b1 1 rfl rfl rfl rfl rfl rfl) ?_
    refine .cons (.mv rfl rfl) ?_
    refine .cons (.ln 3 1 8 rfl rfl rfl) ?_
    refine .cons (.xL 67 2 48 rfl rfl rfl rfl rfl (map_at hl)) ?_
    refine .cons (.lN 2 rfl rfl rfl) ?_
    refine .cons (.mv rfl rfl) ?_
    refine .cons (.cP [.tmp 41, .tmp 42] rfl rfl rfl rfl (span_fn hR) rfl) ?_
    refine .cons (.mv rfl rfl) ?_
    refine .cons (.ex rfl rfl rfl) ?_
    refine .cons (.ex rfl rfl rfl) ?_
    refine .cons (.asg rfl rfl) ?_
    refine .cons (.asg rfl rfl) ?_
    refine .nil ?_
    refine ks_n ?_
    refine ACode.seq ?_
    refine ACode.seq ?_
    refine ACode.region ?_
    refine .cons (.mv rfl rfl) ?_
    refine .cons (.asg rfl rfl) ?_
    refine .nil ?_
    refine ks_n ?_
    refine ACode.block ?_
    refine .loopK (fun m σ => (∃ (v : Int) (s : Nat), m = (hiF p l.2 - v).toNat ∧ (loF p l.1 ≤ v) ∧ (s ≤ 1199) ∧ (iterW (stepW ms p) (hiF p l.2 - v).toNat v s [] = R) ∧ σ = [(.t 0, .v (.o (.c (.box 0 3 0 0)))), (.t 1, .v (.o (vD (dIs p)))), (.t 6, .v (.o (nat1 (hiF p l.2)))), (.t 7, .v (.o (nat1 v))), (.b 0, .b 79 3 [[.d (dLs ns), .d (dI (s : Nat)), .d (.val (.slice none 0 0))]]), (.u 0, .u)]) ∨ (∃ (v : Int) (s : Nat) (o : Pts), m = (hiF p l.2 - v).toNat ∧ (loF p l.1 ≤ v) ∧ (s ≤ 1199) ∧ (o.length ≤ 120) ∧ (o ≠ []) ∧ (iterW (stepW ms p) (hiF p l.2 - v).toNat v s o = R) ∧ σ = [(.t 0, .v (.o (.c (.box 0 3 0 0)))), (.t 1, .v (.o (vD (dIs p)))), (.t 6, .v (.o (nat1 (hiF p l.2)))), (.t 7, .v (.o (nat1 v))), (.b 1010, .b 28 1 (dR (o.map rIs))), (.u 1010, .u), (.b 0, .b 79 3 [[.d (dLs ns), .d (dI (s : Nat)), .own 1010 1 (o.length)]]), (.u 0, .u)])) [(0, 0)] (.inl ⟨loF p l.1, s0, rfl, (by omega), hs0, (by rw [hRd]; rfl), rfl⟩) ⟨ks rfl (.c .bx), ks rfl .dt, ks rfl .dt, ks rfl .dt, kb 0 rfl (.cons (.cons .dt (.cons .dt (.cons .dt Ctos.nil))) .nil), trivial⟩ ?_
    rintro m σ (⟨v, s, hm0, h1, hs, hE, rfl⟩ | ⟨v, s, o, hm0, h1, hs, ho, hno, hE, rfl⟩)
    · skip
      refine ACode.seq ?_
      refine ACode.seq ?_
      refine ACode.region ?_
      refine .cons (.mv rfl rfl) ?_
      refine .cons (.mv rfl rfl) ?_
      refine .cons (.ls rfl rfl rfl) ?_
      refine .nil ?_
      refine ks_n ?_
      refine .cD rfl (fun h49 => ?_) (fun h49 => ?_)
      · skip
        refine ACode.skip ?_
        refine ks_n ?_
        refine ACode.seq ?_
        refine ACode.block ?_
        refine ACode.seq ?_
        refine ACode.region ?_
        refine .cons (.mv rfl rfl) ?_
        refine .cons (.nB rfl rfl rfl) ?_
        refine .cons (.fB 1 0 false rfl rfl rfl) ?_
        refine .cons (.b1 1 rfl rfl rfl rfl rfl rfl) ?_
        refine .cons (.pl rfl rfl rfl) ?_
        refine .cons (.nB rfl rfl rfl) ?_
        refine .cons (.fB 1 0 false rfl rfl rfl) ?_
        refine .cons (.sT 1 false rfl rfl rfl rfl rfl rfl rfl) ?_
        refine .nil ?_
        refine ks_n ?_
        refine ACode.seq ?_
        by_cases hsp : (walkF ms (p ++ [v]) (s + 1) []).2.2 = []
        · skip
          have hzz := hsp
          refine .keep [(.t 0, .v (.o (.c (.box 0 3 0 0)))), (.t 1, .v (.o (vD (dIs p)))), (.t 6, .v (.o (nat1 (hiF p l.2)))), (.t 7, .v (.o (nat1 v))), (.b 0, .b 79 3 [[.d (dLs ns), .d (dI ((s + 1) : Nat)), .d (.val (.slice none 0 0))]]), (.u 0, .u)] [(0, 0)] ⟨ks rfl (.c .bx), ks rfl .dt, ks rfl .dt, ks rfl .dt, kb 0 rfl (.cons (.cons .dt (.cons .dt (.cons .dt Ctos.nil))) .nil), trivial⟩ ?_
          refine ACode.region ?_
          refine .cons (.mv rfl rfl) ?_
          refine .cons (.nB rfl rfl rfl) ?_
          refine .cons (.fB 1 0 false rfl rfl rfl) ?_
          refine .cons (.b1 1 rfl rfl rfl rfl rfl rfl) ?_
          refine .cons (.pl rfl rfl rfl) ?_
          refine .cons (.gt rfl rfl rfl) ?_
          refine .cons (.mv rfl rfl) ?_
          refine .cD 65 rfl (fun g65 => ?_) (fun g65 => ?_)
          · skip
            exact absurd (by rw [← hE, iterW_no h49 (r := (false, s + 1, [])) (if_pos (by omega)) rfl]) hz
          · skip
            have hstep : stepW ms p v s [] = walkF ms (p ++ [v]) (s + 1) [] := if_neg (by omega)
            have ihv := ih v (s + 1) [] h1 h49 (by omega) (by simp)
            refine .cons (.gT rfl rfl rfl (.mv rfl rfl)) ?_
            refine .cons (.gT rfl rfl rfl (.mv rfl rfl)) ?_
            refine .cons (.gT rfl rfl rfl (.cO [.tmp 67] [(100, 168)] rfl rfl rfl rfl (clone_own hp0 (by have := hR.ln; omega)) rfl trivial flatS.nil (flatS.nil.cons rfl) HB.nil.data outS_one)) ?_
            refine .cons (.gT rfl rfl rfl (.mv rfl rfl)) ?_
            refine .cons (.gT rfl rfl rfl (.li 3 0 0 [.tmp 69] rfl rfl rfl rfl rfl rfl)) ?_
            refine .cons (.gT rfl rfl rfl (St1.appD (rows := p.map rI) (e := 3) (sz := 0) (by' := 8) rfl rfl rfl rfl rfl (by kernel_rfl) rfl rfl rfl rfl (by simp) (by simp; have := hR.ln; omega) rfl)) ?_
            refine .cons (.gT rfl rfl rfl (.cO [.tmp 66, .tmp 71] [(0, 0)] rfl rfl rfl rfl (Fn.arg2 (dIs_snoc p v) (ihv.nn rfl hzz)) rfl ⟨rfl, trivial⟩ (hbN_flat _ _) (hbN_flat _ _) (hbN_HB _ _) outS_one)) ?_
            refine .cons (.gT rfl rfl rfl (.nt rfl rfl)) ?_
            refine .cons (.pF rfl rfl rfl) ?_
            refine .nil ?_
            refine ks_n ?_
            refine ACode.condT rfl (fun h74 => ?_) (fun h74 => ?_)
            · try simp only [List.length_map, decide_eq_true_eq, decide_eq_false_iff_not, Bool.not_eq_true', Bool.not_eq_false', Bool.not_eq_true, Bool.not_eq_false] at h74
              exact absurd (by rw [← hE, iterW_no h49 hstep h74]; exact hzz) hz
            · try simp only [List.length_map, decide_eq_true_eq, decide_eq_false_iff_not, Bool.not_eq_true', Bool.not_eq_false', Bool.not_eq_true, Bool.not_eq_false] at h74
              obtain ⟨g, hg, hst⟩ := walkF_stp ms (p ++ [v]) (s + 1) [] (by omega) (by simp)
              obtain ⟨q1, q2⟩ := hst.ok.1 h74
              obtain ⟨q3, q4⟩ := hst.st h74
              have q5 := congrArg List.length q4
              rw [List.length_append] at q5
              simp only [List.length_nil] at q5 q2
              refine ACode.skip ?_
              refine kb_n ?_
              refine ks_n ?_
              refine ACode.region ?_
              refine .cons (.mv rfl rfl) ?_
              refine .cons (.pl rfl rfl rfl) ?_
              refine .cons (.asg rfl rfl) ?_
              refine .nil ?_
              refine kl_k [(0, 0)] (.inl ⟨v + 1, (walkF ms (p ++ [v]) (s + 1) []).2.1, rfl, by omega, by omega, by rw [← hE, iterW_yes h49 hstep h74, hzz], rfl⟩) ⟨ks rfl (.c .bx), ks rfl .dt, ks rfl .dt, ks rfl .dt, kb 0 rfl (.cons (.cons .dt (.cons .dt (.cons .dt Ctos.nil))) .nil), trivial⟩
        · skip
          have hzz := hsp
          refine .keep [(.t 0, .v (.o (.c (.box 0 3 0 0)))), (.t 1, .v (.o (vD (dIs p)))), (.t 6, .v (.o (nat1 (hiF p l.2)))), (.t 7, .v (.o (nat1 v))), (.b 0, .b 79 3 [[.d (dLs ns), .d (dI ((s + 1) : Nat)), .d (.val (.slice none 0 0))]]), (.u 0, .u)] [(0, 0)] ⟨ks rfl (.c .bx), ks rfl .dt, ks rfl .dt, ks rfl .dt, kb 0 rfl (.cons (.cons .dt (.cons .dt (.cons .dt Ctos.nil))) .nil), trivial⟩ ?_
          refine ACode.region ?_
          refine .cons (.mv rfl rfl) ?_
          refine .cons (.nB rfl rfl rfl) ?_
          refine .cons (.fB 1 0 false rfl rfl rfl) ?_
          refine .cons (.b1 1 rfl rfl rfl rfl rfl rfl) ?_
          refine .cons (.pl rfl rfl rfl) ?_
          refine .cons (.gt rfl rfl rfl) ?_
          refine .cons (.mv rfl rfl) ?_
          refine .cD 65 rfl (fun g65 => ?_) (fun g65 => ?_)
          · skip
            exact absurd (by rw [← hE, iterW_no h49 (r := (false, s + 1, [])) (if_pos (by omega)) rfl]) hz
          · skip
            have hstep : stepW ms p v s [] = walkF ms (p ++ [v]) (s + 1) [] := if_neg (by omega)
            have ihv := ih v (s + 1) [] h1 h49 (by omega) (by simp)
            refine .cons (.gT rfl rfl rfl (.mv rfl rfl)) ?_
            refine .cons (.gT rfl rfl rfl (.mv rfl rfl)) ?_
            refine .cons (.gT rfl rfl rfl (.cO [.tmp 67] [(100, 168)] rfl rfl rfl rfl (clone_own hp0 (by have := hR.ln; omega)) rfl trivial flatS.nil (flatS.nil.cons rfl) HB.nil.data outS_one)) ?_
            refine .cons (.gT rfl rfl rfl (.mv rfl rfl)) ?_
            refine .cons (.gT rfl rfl rfl (.li 3 0 0 [.tmp 69] rfl rfl rfl rfl rfl rfl)) ?_
            refine .cons (.gT rfl rfl rfl (St1.appD (rows := p.map rI) (e := 3) (sz := 0) (by' := 8) rfl rfl rfl rfl rfl (by kernel_rfl) rfl rfl rfl rfl (by simp) (by simp; have := hR.ln; omega) rfl)) ?_
            refine .cons (.gT rfl rfl rfl (.cO [.tmp 66, .tmp 71] [(0, 0), (1000, 1072)] rfl rfl rfl rfl (Fn.arg2 (dIs_snoc p v) (ihv.no rfl hzz)) rfl ⟨rfl, trivial⟩ (hbN_flat _ _) (hbO_flat3 _ _ _) (hbO_HB _ _ _ _) outS_O)) ?_
            refine .cons (.gT rfl rfl rfl (.nt rfl rfl)) ?_
            refine .cons (.pF rfl rfl rfl) ?_
            refine .nil ?_
            refine ks_n ?_
            refine ACode.condT rfl (fun h74 => ?_) (fun h74 => ?_)
            · try simp only [List.length_map, decide_eq_true_eq, decide_eq_false_iff_not, Bool.not_eq_true', Bool.not_eq_false', Bool.not_eq_true, Bool.not_eq_false] at h74
              obtain rfl : R = walkF ms (p ++ [v]) (s + 1) [] := by rw [← hE, iterW_no h49 hstep h74]
              refine ACode.seq ?_
              refine ACode.region ?_
              refine .cons (.asg rfl rfl) ?_
              refine .nil ?_
              refine ks_n ?_
              refine ACode.ret ?_
              refine kb_r ?_
              refine ks_r ?_
              refine kl_r ?_
              refine kb_r ?_
              refine ks_r ?_
              refine kf_wret [(.t 4, .v (.o (bo1 (walkF ms (p ++ [v]) (s + 1) []).1))), (.b 0, .b 79 3 ([[.d (dLs ns), .d (dI ((walkF ms (p ++ [v]) (s + 1) []).2.1 : Nat)), .own 1000 1 ((walkF ms (p ++ [v]) (s + 1) []).2.2).length]])), (.u 0, .u), (.b 1000, .b 28 1 (dR (((walkF ms (p ++ [v]) (s + 1) []).2.2).map rIs))), (.u 1000, .u)] (Wk.keep [(0, 0), (1000, 1072)] rfl rfl ⟨ks rfl (.dt (by first | rfl | exact congrArg (fun b => V.o (bo1 b)) h74.symm)), kb 0 rfl (.cons (.cons .dt (.cons .dt (.cons .ow .nil))) .nil), kb 1072 rfl (.dt rfl), trivial⟩) rfl ?_ (two_box rfl rfl)
              rfl
            · try simp only [List.length_map, decide_eq_true_eq, decide_eq_false_iff_not, Bool.not_eq_true', Bool.not_eq_false', Bool.not_eq_true, Bool.not_eq_false] at h74
              obtain ⟨g, hg, hst⟩ := walkF_stp ms (p ++ [v]) (s + 1) [] (by omega) (by simp)
              obtain ⟨q1, q2⟩ := hst.ok.1 h74
              obtain ⟨q3, q4⟩ := hst.st h74
              have q5 := congrArg List.length q4
              rw [List.length_append] at q5
              simp only [List.length_nil] at q5 q2
              refine ACode.skip ?_
              refine kb_n ?_
              refine ks_n ?_
              refine ACode.region ?_
              refine .cons (.mv rfl rfl) ?_
              refine .cons (.pl rfl rfl rfl) ?_
              refine .cons (.asg rfl rfl) ?_
              refine .nil ?_
              refine kl_k [(0, 0), (1010, 1072)] (.inr ⟨v + 1, (walkF ms (p ++ [v]) (s + 1) []).2.1, (walkF ms (p ++ [v]) (s + 1) []).2.2, rfl, by omega, by omega, by omega, hzz, by rw [← hE, iterW_yes h49 hstep h74], rfl⟩) ⟨ks rfl (.c .bx), ks rfl .dt, ks rfl .dt, ks rfl .dt, kb 1072 rfl (.dt rfl), kb 0 rfl (.cons (.cons .dt (.cons .dt (.cons .ow Ctos.nil))) .nil), trivial⟩
      · skip
        exact absurd (by rw [← hE, iterW_ge h49]) hz
    · skip
      refine ACode.seq ?_
      refine ACode.seq ?_
      refine ACode.region ?_
      refine .cons (.mv rfl rfl) ?_
      refine .cons (.mv rfl rfl) ?_
      refine .cons (.ls rfl rfl rfl) ?_
      refine .nil ?_
      refine ks_n ?_
      refine .cD rfl (fun h49 => ?_) (fun h49 => ?_)
      · skip
        refine ACode.skip ?_
        refine ks_n ?_
        refine ACode.seq ?_
        refine ACode.block ?_
        refine ACode.seq ?_
        refine ACode.region ?_
        refine .cons (.mv rfl rfl) ?_
        refine .cons (.nB rfl rfl rfl) ?_
        refine .cons (.fB 1 0 false rfl rfl rfl) ?_
        refine .cons (.b1 1 rfl rfl rfl rfl rfl rfl) ?_
        refine .cons (.pl rfl rfl rfl) ?_
        refine .cons (.nB rfl rfl rfl) ?_
        refine .cons (.fB 1 0 false rfl rfl rfl) ?_
        refine .cons (.sT 1 false rfl rfl rfl rfl rfl rfl rfl) ?_
        refine .nil ?_
        refine ks_n ?_
        refine ACode.seq ?_
        refine .keep [(.t 0, .v (.o (.c (.box 0 3 0 0)))), (.t 1, .v (.o (vD (dIs p)))), (.t 6, .v (.o (nat1 (hiF p l.2)))), (.t 7, .v (.o (nat1 v))), (.b 1690, .b 28 1 (dR (o.map rIs))), (.u 1690, .u), (.b 0, .b 79 3 [[.d (dLs ns), .d (dI ((s + 1) : Nat)), .own 1690 1 (o.length)]]), (.u 0, .u)] [(0, 0), (1690, 1010)] ⟨ks rfl (.c .bx), ks rfl .dt, ks rfl .dt, ks rfl .dt, kb 1010 rfl (.dt rfl), kb 0 rfl (.cons (.cons .dt (.cons .dt (.cons .ow Ctos.nil))) .nil), trivial⟩ ?_
        refine ACode.region ?_
        refine .cons (.mv rfl rfl) ?_
        refine .cons (.nB rfl rfl rfl) ?_
        refine .cons (.fB 1 0 false rfl rfl rfl) ?_
        refine .cons (.b1 1 rfl rfl rfl rfl rfl rfl) ?_
        refine .cons (.pl rfl rfl rfl) ?_
        refine .cons (.gt rfl rfl rfl) ?_
        refine .cons (.mv rfl rfl) ?_
        refine .cD 65 rfl (fun g65 => ?_) (fun g65 => ?_)
        · skip
          have hstep : stepW ms p v s o = (false, s + 1, o) := if_pos (by omega)
          obtain rfl : R = (false, s + 1, o) := by rw [← hE, iterW_no h49 hstep rfl]
          refine .cons (.gF rfl rfl rfl) ?_
          refine .cons (.gF rfl rfl rfl) ?_
          refine .cons (.gF rfl rfl rfl) ?_
          refine .cons (.gF rfl rfl rfl) ?_
          refine .cons (.gF rfl rfl rfl) ?_
          refine .cons (.gF rfl rfl rfl) ?_
          refine .cons (.gF rfl rfl rfl) ?_
          refine .cons (.gF rfl rfl rfl) ?_
          refine .cons (.pT rfl rfl rfl) ?_
          refine .nil ?_
          refine ks_n ?_
          refine ACode.condT rfl (fun _ => ?_) (fun h => by first | (cases h; done) | (simp [*] at h; done) | (exfalso; simp_all; done))
          refine ACode.seq ?_
          refine ACode.region ?_
          refine .cons (.asg rfl rfl) ?_
          refine .nil ?_
          refine ks_n ?_
          refine ACode.ret ?_
          refine kb_r ?_
          refine ks_r ?_
          refine kl_r ?_
          refine kb_r ?_
          refine ks_r ?_
          refine kf_wret [(.t 4, .v (.o (bo1 ((false, s + 1, o) : Bool × Nat × Pts).1))), (.b 0, .b 79 3 ([[.d (dLs ns), .d (dI (((false, s + 1, o) : Bool × Nat × Pts).2.1 : Nat)), .own 1000 1 (((false, s + 1, o) : Bool × Nat × Pts).2.2).length]])), (.u 0, .u), (.b 1000, .b 28 1 (dR ((((false, s + 1, o) : Bool × Nat × Pts).2.2).map rIs))), (.u 1000, .u)] (Wk.keep [(0, 0), (1000, 1690)] rfl rfl ⟨ks rfl (.dt (by first | rfl | exact congrArg (fun b => V.o (bo1 b)) h74.symm)), kb 0 rfl (.cons (.cons .dt (.cons .dt (.cons .ow .nil))) .nil), kb 1690 rfl (.dt rfl), trivial⟩) rfl ?_ (two_box rfl rfl)
          rfl
        · skip
          have hstep : stepW ms p v s o = walkF ms (p ++ [v]) (s + 1) o := if_neg (by omega)
          have ihv := ih v (s + 1) o h1 h49 (by omega) (by omega)
          refine .cons (.gT rfl rfl rfl (.mv rfl rfl)) ?_
          refine .cons (.gT rfl rfl rfl (.mv rfl rfl)) ?_
          refine .cons (.gT rfl rfl rfl (.cO [.tmp 67] [(100, 168)] rfl rfl rfl rfl (clone_own hp0 (by have := hR.ln; omega)) rfl trivial flatS.nil (flatS.nil.cons rfl) HB.nil.data outS_one)) ?_
          refine .cons (.gT rfl rfl rfl (.mv rfl rfl)) ?_
          refine .cons (.gT rfl rfl rfl (.li 3 0 0 [.tmp 69] rfl rfl rfl rfl rfl rfl)) ?_
          refine .cons (.gT rfl rfl rfl (St1.appD (rows := p.map rI) (e := 3) (sz := 0) (by' := 8) rfl rfl rfl rfl rfl (by kernel_rfl) rfl rfl rfl rfl (by simp) (by simp; have := hR.ln; omega) rfl)) ?_
          refine .cons (.gT rfl rfl rfl (.cO [.tmp 66, .tmp 71] [(0, 0), (1, 1690), (1000, 1072)] rfl rfl rfl rfl (Fn.arg2 (dIs_snoc p v) (ihv.oo hno)) rfl (hbIn_O rfl rfl) (hbO_flat1 _ _ _) (hbO_flat3 _ _ _) (hbO_HB _ _ _ _) outS_O)) ?_
          refine .cons (.gT rfl rfl rfl (.nt rfl rfl)) ?_
          refine .cons (.pF rfl rfl rfl) ?_
          refine .nil ?_
          refine ks_n ?_
          refine ACode.condT rfl (fun h74 => ?_) (fun h74 => ?_)
          · try simp only [List.length_map, decide_eq_true_eq, decide_eq_false_iff_not, Bool.not_eq_true', Bool.not_eq_false', Bool.not_eq_true, Bool.not_eq_false] at h74
            obtain rfl : R = walkF ms (p ++ [v]) (s + 1) o := by rw [← hE, iterW_no h49 hstep h74]
            refine ACode.seq ?_
            refine ACode.region ?_
            refine .cons (.asg rfl rfl) ?_
            refine .nil ?_
            refine ks_n ?_
            refine ACode.ret ?_
            refine kb_r ?_
            refine ks_r ?_
            refine kl_r ?_
            refine kb_r ?_
            refine ks_r ?_
            refine kf_wret [(.t 4, .v (.o (bo1 (walkF ms (p ++ [v]) (s + 1) o).1))), (.b 0, .b 79 3 ([[.d (dLs ns), .d (dI ((walkF ms (p ++ [v]) (s + 1) o).2.1 : Nat)), .own 1000 1 ((walkF ms (p ++ [v]) (s + 1) o).2.2).length]])), (.u 0, .u), (.b 1000, .b 28 1 (dR (((walkF ms (p ++ [v]) (s + 1) o).2.2).map rIs))), (.u 1000, .u)] (Wk.keep [(0, 0), (1000, 1072)] rfl rfl ⟨ks rfl (.dt (by first | rfl | exact congrArg (fun b => V.o (bo1 b)) h74.symm)), kb 0 rfl (.cons (.cons .dt (.cons .dt (.cons .ow .nil))) .nil), kb 1072 rfl (.dt rfl), trivial⟩) rfl ?_ (two_box rfl rfl)
            rfl
          · try simp only [List.length_map, decide_eq_true_eq, decide_eq_false_iff_not, Bool.not_eq_true', Bool.not_eq_false', Bool.not_eq_true, Bool.not_eq_false] at h74
            obtain ⟨g, hg, hst⟩ := walkF_stp ms (p ++ [v]) (s + 1) o (by omega) (by omega)
            obtain ⟨q1, q2⟩ := hst.ok.1 h74
            obtain ⟨q3, q4⟩ := hst.st h74
            have q5 := congrArg List.length q4
            rw [List.length_append] at q5
            skip
            refine ACode.skip ?_
            refine kb_n ?_
            refine ks_n ?_
            refine ACode.region ?_
            refine .cons (.mv rfl rfl) ?_
            refine .cons (.pl rfl rfl rfl) ?_
            refine .cons (.asg rfl rfl) ?_
            refine .nil ?_
            refine kl_k [(0, 0), (1010, 1072)] (.inr ⟨v + 1, (walkF ms (p ++ [v]) (s + 1) o).2.1, (walkF ms (p ++ [v]) (s + 1) o).2.2, rfl, by omega, by omega, by omega, by obtain ⟨z, hz2⟩ := walkF_grow ms (p ++ [v]) (s + 1) o; rw [hz2]; exact fun e => hno (List.append_eq_nil_iff.1 e).1, by rw [← hE, iterW_yes h49 hstep h74], rfl⟩) ⟨ks rfl (.c .bx), ks rfl .dt, ks rfl .dt, ks rfl .dt, kb 1072 rfl (.dt rfl), kb 0 rfl (.cons (.cons .dt (.cons .dt (.cons .ow Ctos.nil))) .nil), trivial⟩
      · skip
        obtain rfl : R = (true, s, o) := by rw [← hE, iterW_ge h49]
        refine ACode.exit ?_
        refine ks_e ?_
        refine kl_e ?_
        refine kb_hit ?_
        refine ks_n ?_
        refine ACode.seq ?_
        refine ACode.region ?_
        refine .cons (.asg rfl rfl) ?_
        refine .nil ?_
        refine ks_n ?_
        refine ACode.ret ?_
        refine kf_wret [(.t 4, .v (.o (bo1 ((true, s, o) : Bool × Nat × Pts).1))), (.b 0, .b 79 3 ([[.d (dLs ns), .d (dI (((true, s, o) : Bool × Nat × Pts).2.1 : Nat)), .own 1000 1 (((true, s, o) : Bool × Nat × Pts).2.2).length]])), (.u 0, .u), (.b 1000, .b 28 1 (dR ((((true, s, o) : Bool × Nat × Pts).2.2).map rIs))), (.u 1000, .u)] (Wk.keep [(0, 0), (1000, 1010)] rfl rfl ⟨ks rfl (.dt (by first | rfl | exact congrArg (fun b => V.o (bo1 b)) h74.symm)), kb 0 rfl (.cons (.cons .dt (.cons .dt (.cons .ow .nil))) .nil), kb 1010 rfl (.dt rfl), trivial⟩) rfl ?_ (two_box rfl rfl)
        rfl

set_option maxRecDepth 100000 in
set_option maxHeartbeats 1600000 in
theorem walk_oo {ns : List Lp} (hn : ns.length ≤ 4) {l : Lp} {ms : List Lp} {p : List Int} (hl : ns[p.length]? = some l) (hR : okR l p) (hlo : -100000000 ≤ loF p l.1 ∧ loF p l.1 ≤ 100000000) (hhi : -100000000 ≤ hiF p l.2 ∧ hiF p l.2 ≤ 100000000) (hp0 : 0 < p.length) {s0 : Nat} (hs0 : s0 ≤ 1199) {o0 : Pts} (ho0 : o0.length ≤ 120) (hne : o0 ≠ []) (ih : ∀ v s o, loF p l.1 ≤ v → v < hiF p l.2 → s ≤ 1199 → o.length ≤ 120 → WOk ns ms (p ++ [v]) (dIs (p ++ [v])) s o)  : Fn Try.prog 59 (hbO 1 ns s0 o0) [.c (.box 0 3 0 0), vD (dIs p)] (.o (bo1 (walkF (l :: ms) p s0 o0).1)) (hbO 1000 ns (walkF (l :: ms) p s0 o0).2.1 (walkF (l :: ms) p s0 o0).2.2) := by
  obtain ⟨R, hRd⟩ : ∃ R, R = walkF (l :: ms) p s0 o0 := ⟨_, rfl⟩
  rw [← hRd]
  refine Fn.of_code Try.func59 rfl rfl (hbO_HB _ _ _ _) rfl rfl (hbO_HB _ _ _ _) rfl (num_OO _ _ _ _ _) ?_
  refine ACode.seq ?_
  refine ACode.region ?_
  refine .cons (.asg rfl rfl) ?_
  refine .nil ?_
  refine ks_n ?_
  refine ACode.seq ?_
  refine ACode.seq ?_
  refine ACode.region ?_
  refine .cons (.mv rfl rfl) ?_
  refine .cons (.ln 3 1 8 rfl rfl rfl) ?_
  refine .cons (.mv rfl rfl) ?_
  refine .cons (.nB rfl rfl rfl) ?_
  refine .cons (.fB 0 0 false rfl rfl rfl) ?_
  refine .cons (.b1 1 rfl rfl rfl rfl rfl rfl) ?_
  refine .cons (.ln 67 2 48 rfl rfl rfl) ?_
  refine .cons (.eq rfl rfl rfl) ?_
  refine .nil ?_
  refine ks_n ?_
  refine .cD rfl (fun h15 => ?_) (fun h15 => ?_)
  · skip
    exact absurd h15 (by have := (List.getElem?_eq_some_iff.1 hl).1; simp at this ⊢; omega)
  · skip
    refine ACode.skip ?_
    refine ks_n ?_
    refine ACode.seq ?_
    refine ACode.region ?_
    refine .cons (.mv rfl rfl) ?_
    refine .cons (.nB rfl rfl rfl) ?_
    refine .cons (.fB 0 0 false rfl rfl rfl) ?_
    refine .cons (.b1 1 rfl rfl rfl rfl rfl rfl) ?_
    refine .cons (.mv rfl rfl) ?_
    refine .cons (.ln 3 1 8 rfl rfl rfl) ?_
    refine .cons (.xL 67 2 48 rfl rfl rfl rfl rfl (map_at hl)) ?_
    refine .cons (.lN 2 rfl rfl rfl) ?_
    refine .cons (.mv rfl rfl) ?_
    refine .cons (.cP [.tmp 41, .tmp 42] rfl rfl rfl rfl (span_fn hR) rfl) ?_
    refine .cons (.mv rfl rfl) ?_
    refine .cons (.ex rfl rfl rfl) ?_
    refine .cons (.ex rfl rfl rfl) ?_
    refine .cons (.asg rfl rfl) ?_
    refine .cons (.asg rfl rfl) ?_
    refine .nil ?_
    refine ks_n ?_
    refine ACode.seq ?_
    refine ACode.seq ?_
    refine ACode.region ?_
    refine .cons (.mv rfl rfl) ?_
    refine .cons (.asg rfl rfl) ?_
    refine .nil ?_
    refine ks_n ?_
    refine ACode.block ?_
    refine .loopK (fun m σ => (∃ (v : Int) (s : Nat) (o : Pts), m = (hiF p l.2 - v).toNat ∧ (loF p l.1 ≤ v) ∧ (s ≤ 1199) ∧ (o.length ≤ 120) ∧ (o ≠ []) ∧ (iterW (stepW ms p) (hiF p l.2 - v).toNat v s o = R) ∧ σ = [(.t 0, .v (.o (.c (.box 0 3 0 0)))), (.t 1, .v (.o (vD (dIs p)))), (.t 6, .v (.o (nat1 (hiF p l.2)))), (.t 7, .v (.o (nat1 v))), (.b 1010, .b 28 1 (dR (o.map rIs))), (.u 1010, .u), (.b 0, .b 79 3 [[.d (dLs ns), .d (dI (s : Nat)), .own 1010 1 (o.length)]]), (.u 0, .u)])) [(0, 0), (1010, 1)] ⟨loF p l.1, s0, o0, rfl, (by omega), hs0, ho0, hne, (by rw [hRd]; rfl), rfl⟩ ⟨ks rfl (.c .bx), ks rfl .dt, ks rfl .dt, ks rfl .dt, kb 1 rfl (.dt rfl), kb 0 rfl (.cons (.cons .dt (.cons .dt (.cons .ow Ctos.nil))) .nil), trivial⟩ ?_
    rintro m σ ⟨v, s, o, hm0, h1, hs, ho, hno, hE, rfl⟩
    refine ACode.seq ?_
    refine ACode.seq ?_
    refine ACode.region ?_
    refine .cons (.mv rfl rfl) ?_
    refine .cons (.mv rfl rfl) ?_
    refine .cons (.ls rfl rfl rfl) ?_
    refine .nil ?_
    refine ks_n ?_
    refine .cD rfl (fun h49 => ?_) (fun h49 => ?_)
    · skip
      refine ACode.skip ?_
      refine ks_n ?_
      refine ACode.seq ?_
      refine ACode.block ?_
      refine ACode.seq ?_
      refine ACode.region ?_
      refine .cons (.mv rfl rfl) ?_
      refine .cons (.nB rfl rfl rfl) ?_
      refine .cons (.fB 1 0 false rfl rfl rfl) ?_
      refine .cons (.b1 1 rfl rfl rfl rfl rfl rfl) ?_
      refine .cons (.pl rfl rfl rfl) ?_
      refine .cons (.nB rfl rfl rfl) ?_
      refine .cons (.fB 1 0 false rfl rfl rfl) ?_
      refine .cons (.sT 1 false rfl rfl rfl rfl rfl rfl rfl) ?_
      refine .nil ?_
      refine ks_n ?_
      refine ACode.seq ?_
      refine .keep [(.t 0, .v (.o (.c (.box 0 3 0 0)))), (.t 1, .v (.o (vD (dIs p)))), (.t 6, .v (.o (nat1 (hiF p l.2)))), (.t 7, .v (.o (nat1 v))), (.b 1690, .b 28 1 (dR (o.map rIs))), (.u 1690, .u), (.b 0, .b 79 3 [[.d (dLs ns), .d (dI ((s + 1) : Nat)), .own 1690 1 (o.length)]]), (.u 0, .u)] [(0, 0), (1690, 1010)] ⟨ks rfl (.c .bx), ks rfl .dt, ks rfl .dt, ks rfl .dt, kb 1010 rfl (.dt rfl), kb 0 rfl (.cons (.cons .dt (.cons .dt (.cons .ow Ctos.nil))) .nil), trivial⟩ ?_
      refine ACode.region ?_
      refine .cons (.mv rfl rfl) ?_
      refine .cons (.nB rfl rfl rfl) ?_
      refine .cons (.fB 1 0 false rfl rfl rfl) ?_
      refine .cons (.b1 1 rfl rfl rfl rfl rfl rfl) ?_
      refine .cons (.pl rfl rfl rfl) ?_
      refine .cons (.gt rfl rfl rfl) ?_
      refine .cons (.mv rfl rfl) ?_
      refine .cD 65 rfl (fun g65 => ?_) (fun g65 => ?_)
      · skip
        have hstep : stepW ms p v s o = (false, s + 1, o) := if_pos (by omega)
        obtain rfl : R = (false, s + 1, o) := by rw [← hE, iterW_no h49 hstep rfl]
        refine .cons (.gF rfl rfl rfl) ?_
        refine .cons (.gF rfl rfl rfl) ?_
        refine .cons (.gF rfl rfl rfl) ?_
        refine .cons (.gF rfl rfl rfl) ?_
        refine .cons (.gF rfl rfl rfl) ?_
        refine .cons (.gF rfl rfl rfl) ?_
        refine .cons (.gF rfl rfl rfl) ?_
        refine .cons (.gF rfl rfl rfl) ?_
        refine .cons (.pT rfl rfl rfl) ?_
        refine .nil ?_
        refine ks_n ?_
        refine ACode.condT rfl (fun _ => ?_) (fun h => by first | (cases h; done) | (simp [*] at h; done) | (exfalso; simp_all; done))
        refine ACode.seq ?_
        refine ACode.region ?_
        refine .cons (.asg rfl rfl) ?_
        refine .nil ?_
        refine ks_n ?_
        refine ACode.ret ?_
        refine kb_r ?_
        refine ks_r ?_
        refine kl_r ?_
        refine kb_r ?_
        refine ks_r ?_
        refine kf_wret [(.t 4, .v (.o (bo1 ((false, s + 1, o) : Bool × Nat × Pts).1))), (.b 0, .b 79 3 ([[.d (dLs ns), .d (dI (((false, s + 1, o) : Bool × Nat × Pts).2.1 : Nat)), .own 1000 1 (((false, s + 1, o) : Bool × Nat × Pts).2.2).length]])), (.u 0, .u), (.b 1000, .b 28 1 (dR ((((false, s + 1, o) : Bool × Nat × Pts).2.2).map rIs))), (.u 1000, .u)] (Wk.keep [(0, 0), (1000, 1690)] rfl rfl ⟨ks rfl (.dt (by first | rfl | exact congrArg (fun b => V.o (bo1 b)) h74.symm)), kb 0 rfl (.cons (.cons .dt (.cons .dt (.cons .ow .nil))) .nil), kb 1690 rfl (.dt rfl), trivial⟩) rfl ?_ (two_box rfl rfl)
        rfl
      · skip
        have hstep : stepW ms p v s o = walkF ms (p ++ [v]) (s + 1) o := if_neg (by omega)
        have ihv := ih v (s + 1) o h1 h49 (by omega) (by omega)
        refine .cons (.gT rfl rfl rfl (.mv rfl rfl)) ?_
        refine .cons (.gT rfl rfl rfl (.mv rfl rfl)) ?_
        refine .cons (.gT rfl rfl rfl (.cO [.tmp 67] [(100, 168)] rfl rfl rfl rfl (clone_own hp0 (by have := hR.ln; omega)) rfl trivial flatS.nil (flatS.nil.cons rfl) HB.nil.data outS_one)) ?_
        refine .cons (.gT rfl rfl rfl (.mv rfl rfl)) ?_
        refine .cons (.gT rfl rfl rfl (.li 3 0 0 [.tmp 69] rfl rfl rfl rfl rfl rfl)) ?_
        refine .cons (.gT rfl rfl rfl (St1.appD (rows := p.map rI) (e := 3) (sz := 0) (by' := 8) rfl rfl rfl rfl rfl (by kernel_rfl) rfl rfl rfl rfl (by simp) (by simp; have := hR.ln; omega) rfl)) ?_
        refine .cons (.gT rfl rfl rfl (.cO [.tmp 66, .tmp 71] [(0, 0), (1, 1690), (1000, 1072)] rfl rfl rfl rfl (Fn.arg2 (dIs_snoc p v) (ihv.oo hno)) rfl (hbIn_O rfl rfl) (hbO_flat1 _ _ _) (hbO_flat3 _ _ _) (hbO_HB _ _ _ _) outS_O)) ?_
        refine .cons (.gT rfl rfl rfl (.nt rfl rfl)) ?_
        refine .cons (.pF rfl rfl rfl) ?_
        refine .nil ?_
        refine ks_n ?_
        refine ACode.condT rfl (fun h74 => ?_) (fun h74 => ?_)
        · try simp only [List.length_map, decide_eq_true_eq, decide_eq_false_iff_not, Bool.not_eq_true', Bool.not_eq_false', Bool.not_eq_true, Bool.not_eq_false] at h74
          obtain rfl : R = walkF ms (p ++ [v]) (s + 1) o := by rw [← hE, iterW_no h49 hstep h74]
          refine ACode.seq ?_
          refine ACode.region ?_
          refine .cons (.asg rfl rfl) ?_
          refine .nil ?_
          refine ks_n ?_
          refine ACode.ret ?_
          refine kb_r ?_
          refine ks_r ?_
          refine kl_r ?_
          refine kb_r ?_
          refine ks_r ?_
          refine kf_wret [(.t 4, .v (.o (bo1 (walkF ms (p ++ [v]) (s + 1) o).1))), (.b 0, .b 79 3 ([[.d (dLs ns), .d (dI ((walkF ms (p ++ [v]) (s + 1) o).2.1 : Nat)), .own 1000 1 ((walkF ms (p ++ [v]) (s + 1) o).2.2).length]])), (.u 0, .u), (.b 1000, .b 28 1 (dR (((walkF ms (p ++ [v]) (s + 1) o).2.2).map rIs))), (.u 1000, .u)] (Wk.keep [(0, 0), (1000, 1072)] rfl rfl ⟨ks rfl (.dt (by first | rfl | exact congrArg (fun b => V.o (bo1 b)) h74.symm)), kb 0 rfl (.cons (.cons .dt (.cons .dt (.cons .ow .nil))) .nil), kb 1072 rfl (.dt rfl), trivial⟩) rfl ?_ (two_box rfl rfl)
          rfl
        · try simp only [List.length_map, decide_eq_true_eq, decide_eq_false_iff_not, Bool.not_eq_true', Bool.not_eq_false', Bool.not_eq_true, Bool.not_eq_false] at h74
          obtain ⟨g, hg, hst⟩ := walkF_stp ms (p ++ [v]) (s + 1) o (by omega) (by omega)
          obtain ⟨q1, q2⟩ := hst.ok.1 h74
          obtain ⟨q3, q4⟩ := hst.st h74
          have q5 := congrArg List.length q4
          rw [List.length_append] at q5
          skip
          refine ACode.skip ?_
          refine kb_n ?_
          refine ks_n ?_
          refine ACode.region ?_
          refine .cons (.mv rfl rfl) ?_
          refine .cons (.pl rfl rfl rfl) ?_
          refine .cons (.asg rfl rfl) ?_
          refine .nil ?_
          refine kl_k [(0, 0), (1010, 1072)] ⟨v + 1, (walkF ms (p ++ [v]) (s + 1) o).2.1, (walkF ms (p ++ [v]) (s + 1) o).2.2, rfl, by omega, by omega, by omega, by obtain ⟨z, hz2⟩ := walkF_grow ms (p ++ [v]) (s + 1) o; rw [hz2]; exact fun e => hno (List.append_eq_nil_iff.1 e).1, by rw [← hE, iterW_yes h49 hstep h74], rfl⟩ ⟨ks rfl (.c .bx), ks rfl .dt, ks rfl .dt, ks rfl .dt, kb 1072 rfl (.dt rfl), kb 0 rfl (.cons (.cons .dt (.cons .dt (.cons .ow Ctos.nil))) .nil), trivial⟩
    · skip
      obtain rfl : R = (true, s, o) := by rw [← hE, iterW_ge h49]
      refine ACode.exit ?_
      refine ks_e ?_
      refine kl_e ?_
      refine kb_hit ?_
      refine ks_n ?_
      refine ACode.seq ?_
      refine ACode.region ?_
      refine .cons (.asg rfl rfl) ?_
      refine .nil ?_
      refine ks_n ?_
      refine ACode.ret ?_
      refine kf_wret [(.t 4, .v (.o (bo1 ((true, s, o) : Bool × Nat × Pts).1))), (.b 0, .b 79 3 ([[.d (dLs ns), .d (dI (((true, s, o) : Bool × Nat × Pts).2.1 : Nat)), .own 1000 1 (((true, s, o) : Bool × Nat × Pts).2.2).length]])), (.u 0, .u), (.b 1000, .b 28 1 (dR ((((true, s, o) : Bool × Nat × Pts).2.2).map rIs))), (.u 1000, .u)] (Wk.keep [(0, 0), (1000, 1010)] rfl rfl ⟨ks rfl (.dt (by first | rfl | exact congrArg (fun b => V.o (bo1 b)) h74.symm)), kb 0 rfl (.cons (.cons .dt (.cons .dt (.cons .ow .nil))) .nil), kb 1010 rfl (.dt rfl), trivial⟩) rfl ?_ (two_box rfl rfl)
      rfl

set_option maxRecDepth 100000 in
set_option maxHeartbeats 1600000 in
theorem walk_nnR {ns : List Lp} (hn : ns.length ≤ 4) {l : Lp} {ms : List Lp} (hl : ns[([] : List Int).length]? = some l) (hR : okR l ([] : List Int)) (hlo : -100000000 ≤ loF ([] : List Int) l.1 ∧ loF ([] : List Int) l.1 ≤ 100000000) (hhi : -100000000 ≤ hiF ([] : List Int) l.2 ∧ hiF ([] : List Int) l.2 ≤ 100000000) {s0 : Nat} (hs0 : s0 ≤ 1199) (ih : ∀ v s o, loF ([] : List Int) l.1 ≤ v → v < hiF ([] : List Int) l.2 → s ≤ 1199 → o.length ≤ 120 → WOk ns ms (([] : List Int) ++ [v]) (dIs (([] : List Int) ++ [v])) s o) (hz : (walkF (l :: ms) ([] : List Int) s0 ([] : Pts)).2.2 = []) : Fn Try.prog 59 (hbN ns s0) [.c (.box 0 3 0 0), vN] (.o (bo1 (walkF (l :: ms) ([] : List Int) s0 ([] : Pts)).1)) (hbN ns (walkF (l :: ms) ([] : List Int) s0 ([] : Pts)).2.1) := by
  obtain ⟨R, hRd⟩ : ∃ R, R = walkF (l :: ms) ([] : List Int) s0 ([] : Pts) := ⟨_, rfl⟩
  rw [← hRd] at hz ⊢
  refine Fn.of_code Try.func59 rfl rfl (hbN_HB _ _) rfl rfl (hbN_HB _ _) rfl (num_NN _ _ _) ?_
  refine ACode.seq ?_
  refine ACode.region ?_
  refine .cons (.asg rfl rfl) ?_
  refine .nil ?_
  refine ks_n ?_
  refine ACode.seq ?_
  refine ACode.seq ?_
  refine ACode.region ?_
  refine .cons (.mv rfl rfl) ?_
  refine .cons (St1.lenN (e := 3) (m := 1) (by' := 8) rfl rfl rfl rfl rfl (by kernel_rfl) rfl) ?_
  refine .cons (.mv rfl rfl) ?_
  refine .cons (.nB rfl rfl rfl) ?_
  refine .cons (.fB 0 0 false rfl rfl rfl) ?_
  refine .cons (.b1 1 rfl rfl rfl rfl rfl rfl) ?_
  refine .cons (.ln 67 2 48 rfl rfl rfl) ?_
  refine .cons (.eq rfl rfl rfl) ?_
  refine .nil ?_
  refine ks_n ?_
  refine .cD rfl (fun h15 => ?_) (fun h15 => ?_)
  · skip
    exact absurd h15 (by have := (List.getElem?_eq_some_iff.1 hl).1; simp at this ⊢; omega)
  · skip
    refine ACode.skip ?_
    refine ks_n ?_
    refine ACode.seq ?_
    refine ACode.region ?_
    refine .cons (.mv rfl rfl) ?_
    refine .cons (.nB rfl rfl rfl) ?_
    refine .cons (.fB 0 0 false rfl rfl rfl) ?_
    refine .cons (.b1 1 rfl rfl rfl rfl rfl rfl) ?_
    refine .cons (.mv rfl rfl) ?_
    refine .cons (St1.lenN (e := 3) (m := 1) (by' := 8) rfl rfl rfl rfl rfl (by kernel_rfl) rfl) ?_
    refine .cons (.xL 67 2 48 rfl rfl rfl rfl rfl (map_at hl)) ?_
    refine .cons (.lN 2 rfl rfl rfl) ?_
    refine .cons (.mv rfl rfl) ?_
    refine .cons (.cP [.tmp 41, .tmp 42] rfl rfl rfl rfl (Fn.nilArg (pre := [ad (rL l)]) (post := []) (sz := 1) (span_fn hR)) rfl) ?_
    refine .cons (.mv rfl rfl) ?_
    refine .cons (.ex rfl rfl rfl) ?_
    refine .cons (.ex rfl rfl rfl) ?_
    refine .cons (.asg rfl rfl) ?_
    refine .cons (.asg rfl rfl) ?_
    refine .nil ?_
    refine ks_n ?_
    refine ACode.seq ?_
    refine ACode.seq ?_
    refine ACode.region ?_
    refine .cons (.mv rfl rfl) ?_
    refine .cons (.asg rfl rfl) ?_
    refine .nil ?_
    refine ks_n ?_
    refine ACode.block ?_
    refine .loopK (fun m σ => (∃ (v : Int) (s : Nat), m = (hiF ([] : List Int) l.2 - v).toNat ∧ (loF ([] : List Int) l.1 ≤ v) ∧ (s ≤ 1199) ∧ (iterW (stepW ms ([] : List Int)) (hiF ([] : List Int) l.2 - v).toNat v s [] = R) ∧ σ = [(.t 0, .v (.o (.c (.box 0 3 0 0)))), (.t 1, .v (.o vN)), (.t 6, .v (.o (nat1 (hiF ([] : List Int) l.2)))), (.t 7, .v (.o (nat1 v))), (.b 0, .b 79 3 [[.d (dLs ns), .d (dI (s : Nat)), .d (.val (.slice none 0 0))]]), (.u 0, .u)])) [(0, 0)] ⟨loF ([] : List Int) l.1, s0, rfl, (by omega), hs0, (by rw [hRd]; rfl), rfl⟩ ⟨ks rfl (.c .bx), ks rfl .dt, ks rfl .dt, ks rfl .dt, kb 0 rfl (.cons (.cons .dt (.cons .dt (.cons .dt Ctos.nil))) .nil), trivial⟩ ?_
    rintro m σ ⟨v, s, hm0, h1, hs, hE, rfl⟩
    refine ACode.seq ?_
    refine ACode.seq ?_
    refine ACode.region ?_
    refine .cons (.mv rfl rfl) ?_
    refine .cons (.mv rfl rfl) ?_
    refine .cons (.ls rfl rfl rfl) ?_
    refine .nil ?_
    refine ks_n ?_
    refine .cD rfl (fun h49 => ?_) (fun h49 => ?_)
    · skip
      refine ACode.skip ?_
      refine ks_n ?_
      refine ACode.seq ?_
      refine ACode.block ?_
      refine ACode.seq ?_
      refine ACode.region ?_
      refine .cons (.mv rfl rfl) ?_
      refine .cons (.nB rfl rfl rfl) ?_
      refine .cons (.fB 1 0 false rfl rfl rfl) ?_
      refine .cons (.b1 1 rfl rfl rfl rfl rfl rfl) ?_
      refine .cons (.pl rfl rfl rfl) ?_
      refine .cons (.nB rfl rfl rfl) ?_
      refine .cons (.fB 1 0 false rfl rfl rfl) ?_
      refine .cons (.sT 1 false rfl rfl rfl rfl rfl rfl rfl) ?_
      refine .nil ?_
      refine ks_n ?_
      refine ACode.seq ?_
      refine .keep [(.t 0, .v (.o (.c (.box 0 3 0 0)))), (.t 1, .v (.o vN)), (.t 6, .v (.o (nat1 (hiF ([] : List Int) l.2)))), (.t 7, .v (.o (nat1 v))), (.b 0, .b 79 3 [[.d (dLs ns), .d (dI ((s + 1) : Nat)), .d (.val (.slice none 0 0))]]), (.u 0, .u)] [(0, 0)] ⟨ks rfl (.c .bx), ks rfl .dt, ks rfl .dt, ks rfl .dt, kb 0 rfl (.cons (.cons .dt (.cons .dt (.cons .dt Ctos.nil))) .nil), trivial⟩ ?_
      refine ACode.region ?_
      refine .cons (.mv rfl rfl) ?_
      refine .cons (.nB rfl rfl rfl) ?_
      refine .cons (.fB 1 0 false rfl rfl rfl) ?_
      refine .cons (.b1 1 rfl rfl rfl rfl rfl rfl) ?_
      refine .cons (.pl rfl rfl rfl) ?_
      refine .cons (.gt rfl rfl rfl) ?_
      refine .cons (.mv rfl rfl) ?_
      refine .cD 65 rfl (fun g65 => ?_) (fun g65 => ?_)
      · skip
        have hstep : stepW ms ([] : List Int) v s [] = (false, s + 1, []) := if_pos (by omega)
        obtain rfl : R = (false, s + 1, []) := by rw [← hE, iterW_no h49 hstep rfl]
        refine .cons (.gF rfl rfl rfl) ?_
        refine .cons (.gF rfl rfl rfl) ?_
        refine .cons (.gF rfl rfl rfl) ?_
        refine .cons (.gF rfl rfl rfl) ?_
        refine .cons (.gF rfl rfl rfl) ?_
        refine .cons (.gF rfl rfl rfl) ?_
        refine .cons (.gF rfl rfl rfl) ?_
        refine .cons (.gF rfl rfl rfl) ?_
        refine .cons (.pT rfl rfl rfl) ?_
        refine .nil ?_
        refine ks_n ?_
        refine ACode.condT rfl (fun _ => ?_) (fun h => by first | (cases h; done) | (simp [*] at h; done) | (exfalso; simp_all; done))
        refine ACode.seq ?_
        refine ACode.region ?_
        refine .cons (.asg rfl rfl) ?_
        refine .nil ?_
        refine ks_n ?_
        refine ACode.ret ?_
        refine kb_r ?_
        refine ks_r ?_
        refine kl_r ?_
        refine kb_r ?_
        refine ks_r ?_
        refine kf_wret [(.t 4, .v (.o (bo1 ((false, s + 1, []) : Bool × Nat × Pts).1))), (.b 0, .b 79 3 (dR ([rWk ns ((false, s + 1, []) : Bool × Nat × Pts).2.1]))), (.u 0, .u)] (Wk.keep [(0, 0)] rfl rfl ⟨ks rfl (.dt (by first | rfl | exact congrArg (fun b => V.o (bo1 b)) h74.symm)), kb 0 rfl (.dt rfl), trivial⟩) rfl ?_ (one_box rfl)
        rfl
      · skip
        have hstep : stepW ms ([] : List Int) v s [] = walkF ms (([] : List Int) ++ [v]) (s + 1) [] := if_neg (by omega)
        have ihv := ih v (s + 1) [] h1 h49 (by omega) (by simp)
        have hzz : (walkF ms (([] : List Int) ++ [v]) (s + 1) []).2.2 = [] := by rw [← hE] at hz; have h5 := first_nil (fun v s o => stepW_grow ms ([] : List Int) v s o) h49 hz; rwa [hstep] at h5
        refine .cons (.gT rfl rfl rfl (.mv rfl rfl)) ?_
        refine .cons (.gT rfl rfl rfl (.mv rfl rfl)) ?_
        refine .cons (.gT rfl rfl rfl (.cP [.tmp 67] rfl rfl rfl rfl (clone_nilN) rfl)) ?_
        refine .cons (.gT rfl rfl rfl (.mv rfl rfl)) ?_
        refine .cons (.gT rfl rfl rfl (.li 3 0 0 [.tmp 69] rfl rfl rfl rfl rfl rfl)) ?_
        refine .cons (.gT rfl rfl rfl (St1.appND (e := 3) (sz := 0) (by' := 8) rfl rfl rfl rfl rfl (by kernel_rfl) rfl rfl rfl (by simp))) ?_
        refine .cons (.gT rfl rfl rfl (.cO [.tmp 66, .tmp 71] [(0, 0)] rfl rfl rfl rfl (ihv.nn rfl hzz) rfl ⟨rfl, trivial⟩ (hbN_flat _ _) (hbN_flat _ _) (hbN_HB _ _) outS_one)) ?_
        refine .cons (.gT rfl rfl rfl (.nt rfl rfl)) ?_
        refine .cons (.pF rfl rfl rfl) ?_
        refine .nil ?_
        refine ks_n ?_
        refine ACode.condT rfl (fun h74 => ?_) (fun h74 => ?_)
        · try simp only [List.length_map, decide_eq_true_eq, decide_eq_false_iff_not, Bool.not_eq_true', Bool.not_eq_false', Bool.not_eq_true, Bool.not_eq_false] at h74
          obtain rfl : R = walkF ms (([] : List Int) ++ [v]) (s + 1) [] := by rw [← hE, iterW_no h49 hstep h74]
          refine ACode.seq ?_
          refine ACode.region ?_
          refine .cons (.asg rfl rfl) ?_
          refine .nil ?_
          refine ks_n ?_
          refine ACode.ret ?_
          refine kb_r ?_
          refine ks_r ?_
          refine kl_r ?_
          refine kb_r ?_
          refine ks_r ?_
          refine kf_wret [(.t 4, .v (.o (bo1 (walkF ms (([] : List Int) ++ [v]) (s + 1) []).1))), (.b 0, .b 79 3 (dR ([rWk ns (walkF ms (([] : List Int) ++ [v]) (s + 1) []).2.1]))), (.u 0, .u)] (Wk.keep [(0, 0)] rfl rfl ⟨ks rfl (.dt (by first | rfl | exact congrArg (fun b => V.o (bo1 b)) h74.symm)), kb 0 rfl (.dt rfl), trivial⟩) rfl ?_ (one_box rfl)
          rfl
        · try simp only [List.length_map, decide_eq_true_eq, decide_eq_false_iff_not, Bool.not_eq_true', Bool.not_eq_false', Bool.not_eq_true, Bool.not_eq_false] at h74
          obtain ⟨g, hg, hst⟩ := walkF_stp ms (([] : List Int) ++ [v]) (s + 1) [] (by omega) (by simp)
          obtain ⟨q1, q2⟩ := hst.ok.1 h74
          obtain ⟨q3, q4⟩ := hst.st h74
          have q5 := congrArg List.length q4
          rw [List.length_append] at q5
          simp only [List.length_nil] at q5 q2
          refine ACode.skip ?_
          refine kb_n ?_
          refine ks_n ?_
          refine ACode.region ?_
          refine .cons (.mv rfl rfl) ?_
          refine .cons (.pl rfl rfl rfl) ?_
          refine .cons (.asg rfl rfl) ?_
          refine .nil ?_
          refine kl_k [(0, 0)] ⟨v + 1, (walkF ms (([] : List Int) ++ [v]) (s + 1) []).2.1, rfl, by omega, by omega, by rw [← hE, iterW_yes h49 hstep h74, hzz], rfl⟩ ⟨ks rfl (.c .bx), ks rfl .dt, ks rfl .dt, ks rfl .dt, kb 0 rfl (.cons (.cons .dt (.cons .dt (.cons .dt Ctos.nil))) .nil), trivial⟩
    · skip
      obtain rfl : R = (true, s, []) := by rw [← hE, iterW_ge h49]
      refine ACode.exit ?_
      refine ks_e ?_
      refine kl_e ?_
      refine kb_hit ?_
      refine ks_n ?_
      refine ACode.seq ?_
      refine ACode.region ?_
      refine .cons (.asg rfl rfl) ?_
      refine .nil ?_
      refine ks_n ?_
      refine ACode.ret ?_
      refine kf_wret [(.t 4, .v (.o (bo1 ((true, s, []) : Bool × Nat × Pts).1))), (.b 0, .b 79 3 (dR ([rWk ns ((true, s, []) : Bool × Nat × Pts).2.1]))), (.u 0, .u)] (Wk.keep [(0, 0)] rfl rfl ⟨ks rfl (.dt (by first | rfl | exact congrArg (fun b => V.o (bo1 b)) h74.symm)), kb 0 rfl (.dt rfl), trivial⟩) rfl ?_ (one_box rfl)
      rfl

set_option maxRecDepth 100000 in
set_option maxHeartbeats 1600000 in
theorem walk_noR {ns : List Lp} (hn : ns.length ≤ 4) {l : Lp} {ms : List Lp} (hl : ns[([] : List Int).length]? = some l) (hR : okR l ([] : List Int)) (hlo : -100000000 ≤ loF ([] : List Int) l.1 ∧ loF ([] : List Int) l.1 ≤ 100000000) (hhi : -100000000 ≤ hiF ([] : List Int) l.2 ∧ hiF ([] : List Int) l.2 ≤ 100000000) {s0 : Nat} (hs0 : s0 ≤ 1199) (ih : ∀ v s o, loF ([] : List Int) l.1 ≤ v → v < hiF ([] : List Int) l.2 → s ≤ 1199 → o.length ≤ 120 → WOk ns ms (([] : List Int) ++ [v]) (dIs (([] : List Int) ++ [v])) s o) (hz : (walkF (l :: ms) ([] : List Int) s0 ([] : Pts)).2.2 ≠ []) : Fn Try.prog 59 (hbN ns s0) [.c (.box 0 3 0 0), vN] (.o (bo1 (walkF (l :: ms) ([] : List Int) s0 ([] : Pts)).1)) (hbO 1000 ns (walkF (l :: ms) ([] : List Int) s0 ([] : Pts)).2.1 (walkF (l :: ms) ([] : List Int) s0 ([] : Pts)).2.2) := by
  obtain ⟨R, hRd⟩ : ∃ R, R = walkF (l :: ms) ([] : List Int) s0 ([] : Pts) := ⟨_, rfl⟩
  rw [← hRd] at hz ⊢
  refine Fn.of_code Try.func59 rfl rfl (hbN_HB _ _) rfl rfl (hbO_HB _ _ _ _) rfl (num_NO _ _ _ _) ?_
  refine ACode.seq ?_
  refine ACode.region ?_
  refine .cons (.asg rfl rfl) ?_
  refine .nil ?_
  refine ks_n ?_
  refine ACode.seq ?_
  refine ACode.seq ?_
  refine ACode.region ?_
  refine .cons (.mv rfl rfl) ?_
  refine .cons (St1.lenN (e := 3) (m := 1) (by' := 8) rfl rfl rfl rfl rfl (by kernel_rfl) rfl) ?_
  refine .cons (.mv rfl rfl) ?_
  refine .cons (.nB rfl rfl rfl) ?_
  refine .cons (.fB 0 0 false rfl rfl rfl) ?_
  refine .cons (.b1 1 rfl rfl rfl rfl rfl rfl) ?_
  refine .cons (.ln 67 2 48 rfl rfl rfl) ?_
  refine .cons (.eq rfl rfl rfl) ?_
  refine .nil ?_
  refine ks_n ?_
  refine .cD rfl (fun h15 => ?_) (fun h15 => ?_)
  · skip
    exact absurd h15 (by have := (List.getElem?_eq_some_iff.1 hl).1; simp at this ⊢; omega)
  · skip
    refine ACode.skip ?_
    refine ks_n ?_
    refine ACode.seq ?_
    refine ACode.region ?_
    refine .cons (.mv rfl rfl) ?_
    refine .cons (.nB rfl rfl rfl) ?_
    refine .cons (.fB 0 0 false rfl rfl rfl) ?_
    refine .cons (.b1 1 rfl rfl rfl rfl rfl rfl) ?_
    refine .cons (.mv rfl rfl) ?_
    refine .cons (St1.lenN (e := 3) (m := 1) (by' := 8) rfl rfl rfl rfl rfl (by kernel_rfl) rfl) ?_
    refine .cons (.xL 67 2 48 rfl rfl rfl rfl rfl (map_at hl)) ?_
    refine .cons (.lN 2 rfl rfl rfl) ?_
    refine .cons (.mv rfl rfl) ?_
    refine .cons (.cP [.tmp 41, .tmp 42] rfl rfl rfl rfl (Fn.nilArg (pre := [ad (rL l)]) (post := []) (sz := 1) (span_fn hR)) rfl) ?_
    refine .cons (.mv rfl rfl) ?_
    refine .cons (.ex rfl rfl rfl) ?_
    refine .cons (.ex rfl rfl rfl) ?_
    refine .cons (.asg rfl rfl) ?_
    refine .cons (.asg rfl rfl) ?_
    refine .nil ?_
    refine ks_n ?_
    refine ACode.seq ?_
    refine ACode.seq ?_
    refine ACode.region ?_
    refine .cons (.mv rfl rfl) ?_
    refine .cons (.asg rfl rfl) ?_
    refine .nil ?_
    refine ks_n ?_
    refine ACode.block ?_
    refine .loopK (fun m σ => (∃ (v : Int) (s : Nat), m = (hiF ([] : List Int) l.2 - v).toNat ∧ (loF ([] : List Int) l.1 ≤ v) ∧ (s ≤ 1199) ∧ (iterW (stepW ms ([] : List Int)) (hiF ([] : List Int) l.2 - v).toNat v s [] = R) ∧ σ = [(.t 0, .v (.o (.c (.box 0 3 0 0)))), (.t 1, .v (.o vN)), (.t 6, .v (.o (nat1 (hiF ([] : List Int) l.2)))), (.t 7, .v (.o (nat1 v))), (.b 0, .b 79 3 [[.d (dLs ns), .d (dI (s : Nat)), .d (.val (.slice none 0 0))]]), (.u 0, .u)]) ∨ (∃ (v : Int) (s : Nat) (o : Pts), m = (hiF ([] : List Int) l.2 - v).toNat ∧ (loF ([] : List Int) l.1 ≤ v) ∧ (s ≤ 1199) ∧ (o.length ≤ 120) ∧ (o ≠ []) ∧ (iterW (stepW ms ([] : List Int)) (hiF ([] : List Int) l.2 - v).toNat v s o = R) ∧ σ = [(.t 0, .v (.o (.c (.box 0 3 0 0)))), (.t 1, .v (.o vN)), (.t 6, .v (.o (nat1 (hiF ([] : List Int) l.2)))), (.t 7, .v (.o (nat1 v))), (.b 1010, .b 28 1 (dR (o.map rIs))), (.u 1010, .u), (.b 0, .b 79 3 [[.d (dLs ns), .d (dI (s : Nat)), .own 1010 1 (o.length)]]), (.u 0, .u)])) [(0, 0)] (.inl ⟨loF ([] : List Int) l.1, s0, rfl, (by omega), hs0, (by rw [hRd]; rfl), rfl⟩) ⟨ks rfl (.c .bx), ks rfl .dt, ks rfl .dt, ks rfl .dt, kb 0 rfl (.cons (.cons .dt (.cons .dt (.cons .dt Ctos.nil))) .nil), trivial⟩ ?_
    rintro m σ (⟨v, s, hm0, h1, hs, hE, rfl⟩ | ⟨v, s, o, hm0, h1, hs, ho, hno, hE, rfl⟩)
    · skip
      refine ACode.seq ?_
      refine ACode.seq ?_
      refine ACode.region ?_
      refine .cons (.mv rfl rfl) ?_
      refine .cons (.mv rfl rfl) ?_
      refine .cons (.ls rfl rfl rfl) ?_
      refine .nil ?_
      refine ks_n ?_
      refine .cD rfl (fun h49 => ?_) (fun h49 => ?_)
      · skip
        refine ACode.skip ?_
        refine ks_n ?_
        refine ACode.seq ?_
        refine ACode.block ?_
        refine ACode.seq ?_
        refine ACode.region ?_
        refine .cons (.mv rfl rfl) ?_
        refine .cons (.nB rfl rfl rfl) ?_
        refine .cons (.fB 1 0 false rfl rfl rfl) ?_
        refine .cons (.b1 1 rfl rfl rfl rfl rfl rfl) ?_
        refine .cons (.pl rfl rfl rfl) ?_
        refine .cons (.nB rfl rfl rfl) ?_
        refine .cons (.fB 1 0 false rfl rfl rfl) ?_
        refine .cons (.sT 1 false rfl rfl rfl rfl rfl rfl rfl) ?_
        refine .nil ?_
        refine ks_n ?_
        refine ACode.seq ?_
        by_cases hsp : (walkF ms (([] : List Int) ++ [v]) (s + 1) []).2.2 = []
        · skip
          have hzz := hsp
          refine .keep [(.t 0, .v (.o (.c (.box 0 3 0 0)))), (.t 1, .v (.o vN)), (.t 6, .v (.o (nat1 (hiF ([] : List Int) l.2)))), (.t 7, .v (.o (nat1 v))), (.b 0, .b 79 3 [[.d (dLs ns), .d (dI ((s + 1) : Nat)), .d (.val (.slice none 0 0))]]), (.u 0, .u)] [(0, 0)] ⟨ks rfl (.c .bx), ks rfl .dt, ks rfl .dt, ks rfl .dt, kb 0 rfl (.cons (.cons .dt (.cons .dt (.cons .dt Ctos.nil))) .nil), trivial⟩ ?_
          refine ACode.region ?_
          refine .cons (.mv rfl rfl) ?_
          refine .cons (.nB rfl rfl rfl) ?_
          refine .cons (.fB 1 0 false rfl rfl rfl) ?_
          refine .cons (.b1 1 rfl rfl rfl rfl rfl rfl) ?_
          refine .cons (.pl rfl rfl rfl) ?_
          refine .cons (.gt rfl rfl rfl) ?_
          refine .cons (.mv rfl rfl) ?_
          refine .cD 65 rfl (fun g65 => ?_) (fun g65 => ?_)
          · skip
            exact absurd (by rw [← hE, iterW_no h49 (r := (false, s + 1, [])) (if_pos (by omega)) rfl]) hz
          · skip
            have hstep : stepW ms ([] : List Int) v s [] = walkF ms (([] : List Int) ++ [v]) (s + 1) [] := if_neg (by omega)
            have ihv := ih v (s + 1) [] h1 h49 (by omega) (by simp)
            refine .cons (.gT rfl rfl rfl (.mv rfl rfl)) ?_
            refine .cons (.gT rfl rfl rfl (.mv rfl rfl)) ?_
            refine .cons (.gT rfl rfl rfl (.cP [.tmp 67] rfl rfl rfl rfl (clone_nilN) rfl)) ?_
            refine .cons (.gT rfl rfl rfl (.mv rfl rfl)) ?_
            refine .cons (.gT rfl rfl rfl (.li 3 0 0 [.tmp 69] rfl rfl rfl rfl rfl rfl)) ?_
            refine .cons (.gT rfl rfl rfl (St1.appND (e := 3) (sz := 0) (by' := 8) rfl rfl rfl rfl rfl (by kernel_rfl) rfl rfl rfl (by simp))) ?_
            refine .cons (.gT rfl rfl rfl (.cO [.tmp 66, .tmp 71] [(0, 0)] rfl rfl rfl rfl (ihv.nn rfl hzz) rfl ⟨rfl, trivial⟩ (hbN_flat _ _) (hbN_flat _ _) (hbN_HB _ _) outS_one)) ?_
            refine .cons (.gT rfl rfl rfl (.nt rfl rfl)) ?_
            refine .cons (.pF rfl rfl rfl) ?_
            refine .nil ?_
            refine ks_n ?_
            refine ACode.condT rfl (fun h74 => ?_) (fun h74 => ?_)
            · try simp only [List.length_map, decide_eq_true_eq, decide_eq_false_iff_not, Bool.not_eq_true', Bool.not_eq_false', Bool.not_eq_true, Bool.not_eq_false] at h74
              exact absurd (by rw [← hE, iterW_no h49 hstep h74]; exact hzz) hz
            · try simp only [List.length_map, decide_eq_true_eq, decide_eq_false_iff_not, Bool.not_eq_true', Bool.not_eq_false', Bool.not_eq_true, Bool.not_eq_false] at h74
              obtain ⟨g, hg, hst⟩ := walkF_stp ms (([] : List Int) ++ [v]) (s + 1) [] (by omega) (by simp)
              obtain ⟨q1, q2⟩ := hst.ok.1 h74
              obtain ⟨q3, q4⟩ := hst.st h74
              have q5 := congrArg List.length q4
              rw [List.length_append] at q5
              simp only [List.length_nil] at q5 q2
              refine ACode.skip ?_
              refine kb_n ?_
              refine ks_n ?_
              refine ACode.region ?_
              refine .cons (.mv rfl rfl) ?_
              refine .cons (.pl rfl rfl rfl) ?_
              refine .cons (.asg rfl rfl) ?_
              refine .nil ?_
              refine kl_k [(0, 0)] (.inl ⟨v + 1, (walkF ms (([] : List Int) ++ [v]) (s + 1) []).2.1, rfl, by omega, by omega, by rw [← hE, iterW_yes h49 hstep h74, hzz], rfl⟩) ⟨ks rfl (.c .bx), ks rfl .dt, ks rfl .dt, ks rfl .dt, kb 0 rfl (.cons (.cons .dt (.cons .dt (.cons .dt Ctos.nil))) .nil), trivial⟩
        · skip
          have hzz := hsp
          refine .keep [(.t 0, .v (.o (.c (.box 0 3 0 0)))), (.t 1, .v (.o vN)), (.t 6, .v (.o (nat1 (hiF ([] : List Int) l.2)))), (.t 7, .v (.o (nat1 v))), (.b 0, .b 79 3 [[.d (dLs ns), .d (dI ((s + 1) : Nat)), .d (.val (.slice none 0 0))]]), (.u 0, .u)] [(0, 0)] ⟨ks rfl (.c .bx), ks rfl .dt, ks rfl .dt, ks rfl .dt, kb 0 rfl (.cons (.cons .dt (.cons .dt (.cons .dt Ctos.nil))) .nil), trivial⟩ ?_
          refine ACode.region ?_
          refine .cons (.mv rfl rfl) ?_
          refine .cons (.nB rfl rfl rfl) ?_
          refine .cons (.fB 1 0 false rfl rfl rfl) ?_
          refine .cons (.b1 1 rfl rfl rfl rfl rfl rfl) ?_
          refine .cons (.pl rfl rfl rfl) ?_
          refine .cons (.gt rfl rfl rfl) ?_
          refine .cons (.mv rfl rfl) ?_
          refine .cD 65 rfl (fun g65 => ?_) (fun g65 => ?_)
          · skip
            exact absurd (by rw [← hE, iterW_no h49 (r := (false, s + 1, [])) (if_pos (by omega)) rfl]) hz
          · skip
            have hstep : stepW ms ([] : List Int) v s [] = walkF ms (([] : List Int) ++ [v]) (s + 1) [] := if_neg (by omega)
            have ihv := ih v (s + 1) [] h1 h49 (by omega) (by simp)
            refine .cons (.gT rfl rfl rfl (.mv rfl rfl)) ?_
            refine .cons (.gT rfl rfl rfl (.mv rfl rfl)) ?_
            refine .cons (.gT rfl rfl rfl (.cP [.tmp 67] rfl rfl rfl rfl (clone_nilN) rfl)) ?_
            refine .cons (.gT rfl rfl rfl (.mv rfl rfl)) ?_
            refine .cons (.gT rfl rfl rfl (.li 3 0 0 [.tmp 69] rfl rfl rfl rfl rfl rfl)) ?_
            refine .cons (.gT rfl rfl rfl (St1.appND (e := 3) (sz := 0) (by' := 8) rfl rfl rfl rfl rfl (by kernel_rfl) rfl rfl rfl (by simp))) ?_
            refine .cons (.gT rfl rfl rfl (.cO [.tmp 66, .tmp 71] [(0, 0), (1000, 1072)] rfl rfl rfl rfl (ihv.no rfl hzz) rfl ⟨rfl, trivial⟩ (hbN_flat _ _) (hbO_flat3 _ _ _) (hbO_HB _ _ _ _) outS_O)) ?_
            refine .cons (.gT rfl rfl rfl (.nt rfl rfl)) ?_
            refine .cons (.pF rfl rfl rfl) ?_
            refine .nil ?_
            refine ks_n ?_
            refine ACode.condT rfl (fun h74 => ?_) (fun h74 => ?_)
            · try simp only [List.length_map, decide_eq_true_eq, decide_eq_false_iff_not, Bool.not_eq_true', Bool.not_eq_false', Bool.not_eq_true, Bool.not_eq_false] at h74
              obtain rfl : R = walkF ms (([] : List Int) ++ [v]) (s + 1) [] := by rw [← hE, iterW_no h49 hstep h74]
              refine ACode.seq ?_
              refine ACode.region ?_
              refine .cons (.asg rfl rfl) ?_
              refine .nil ?_
              refine ks_n ?_
              refine ACode.ret ?_
              refine kb_r ?_
              refine ks_r ?_
              refine kl_r ?_
              refine kb_r ?_
              refine ks_r ?_
              refine kf_wret [(.t 4, .v (.o (bo1 (walkF ms (([] : List Int) ++ [v]) (s + 1) []).1))), (.b 0, .b 79 3 ([[.d (dLs ns), .d (dI ((walkF ms (([] : List Int) ++ [v]) (s + 1) []).2.1 : Nat)), .own 1000 1 ((walkF ms (([] : List Int) ++ [v]) (s + 1) []).2.2).length]])), (.u 0, .u), (.b 1000, .b 28 1 (dR (((walkF ms (([] : List Int) ++ [v]) (s + 1) []).2.2).map rIs))), (.u 1000, .u)] (Wk.keep [(0, 0), (1000, 1072)] rfl rfl ⟨ks rfl (.dt (by first | rfl | exact congrArg (fun b => V.o (bo1 b)) h74.symm)), kb 0 rfl (.cons (.cons .dt (.cons .dt (.cons .ow .nil))) .nil), kb 1072 rfl (.dt rfl), trivial⟩) rfl ?_ (two_box rfl rfl)
              rfl
            · try simp only [List.length_map, decide_eq_true_eq, decide_eq_false_iff_not, Bool.not_eq_true', Bool.not_eq_false', Bool.not_eq_true, Bool.not_eq_false] at h74
              obtain ⟨g, hg, hst⟩ := walkF_stp ms (([] : List Int) ++ [v]) (s + 1) [] (by omega) (by simp)
              obtain ⟨q1, q2⟩ := hst.ok.1 h74
              obtain ⟨q3, q4⟩ := hst.st h74
              have q5 := congrArg List.length q4
              rw [List.length_append] at q5
              simp only [List.length_nil] at q5 q2
              refine ACode.skip ?_
              refine kb_n ?_
              refine ks_n ?_
              refine ACode.region ?_
              refine .cons (.mv rfl rfl) ?_
              refine .cons (.pl rfl rfl rfl) ?_
              refine .cons (.asg rfl rfl) ?_
              refine .nil ?_
              refine kl_k [(0, 0), (1010, 1072)] (.inr ⟨v + 1, (walkF ms (([] : List Int) ++ [v]) (s + 1) []).2.1, (walkF ms (([] : List Int) ++ [v]) (s + 1) []).2.2, rfl, by omega, by omega, by omega, hzz, by rw [← hE, iterW_yes h49 hstep h74], rfl⟩) ⟨ks rfl (.c .bx), ks rfl .dt, ks rfl .dt, ks rfl .dt, kb 1072 rfl (.dt rfl), kb 0 rfl (.cons (.cons .dt (.cons .dt (.cons .ow Ctos.nil))) .nil), trivial⟩
      · skip
        exact absurd (by rw [← hE, iterW_ge h49]) hz
    · skip
      refine ACode.seq ?_
      refine ACode.seq ?_
      refine ACode.region ?_
      refine .cons (.mv rfl rfl) ?_
      refine .cons (.mv rfl rfl) ?_
      refine .cons (.ls rfl rfl rfl) ?_
      refine .nil ?_
      refine ks_n ?_
      refine .cD rfl (fun h49 => ?_) (fun h49 => ?_)
      · skip
        refine ACode.skip ?_
        refine ks_n ?_
        refine ACode.seq ?_
        refine ACode.block ?_
        refine ACode.seq ?_
        refine ACode.region ?_
        refine .cons (.mv rfl rfl) ?_
        refine .cons (.nB rfl rfl rfl) ?_
        refine .cons (.fB 1 0 false rfl rfl rfl) ?_
        refine .cons (.b1 1 rfl rfl rfl rfl rfl rfl) ?_
        refine .cons (.pl rfl rfl rfl) ?_
        refine .cons (.nB rfl rfl rfl) ?_
        refine .cons (.fB 1 0 false rfl rfl rfl) ?_
        refine .cons (.sT 1 false rfl rfl rfl rfl rfl rfl rfl) ?_
        refine .nil ?_
        refine ks_n ?_
        refine ACode.seq ?_
        refine .keep [(.t 0, .v (.o (.c (.box 0 3 0 0)))), (.t 1, .v (.o vN)), (.t 6, .v (.o (nat1 (hiF ([] : List Int) l.2)))), (.t 7, .v (.o (nat1 v))), (.b 1690, .b 28 1 (dR (o.map rIs))), (.u 1690, .u), (.b 0, .b 79 3 [[.d (dLs ns), .d (dI ((s + 1) : Nat)), .own 1690 1 (o.length)]]), (.u 0, .u)] [(0, 0), (1690, 1010)] ⟨ks rfl (.c .bx), ks rfl .dt, ks rfl .dt, ks rfl .dt, kb 1010 rfl (.dt rfl), kb 0 rfl (.cons (.cons .dt (.cons .dt (.cons .ow Ctos.nil))) .nil), trivial⟩ ?_
        refine ACode.region ?_
        refine .cons (.mv rfl rfl) ?_
        refine .cons (.nB rfl rfl rfl) ?_
        refine .cons (.fB 1 0 false rfl rfl rfl) ?_
        refine .cons (.b1 1 rfl rfl rfl rfl rfl rfl) ?_
        refine .cons (.pl rfl rfl rfl) ?_
        refine .cons (.gt rfl rfl rfl) ?_
        refine .cons (.mv rfl rfl) ?_
        refine .cD 65 rfl (fun g65 => ?_) (fun g65 => ?_)
        · skip
          have hstep : stepW ms ([] : List Int) v s o = (false, s + 1, o) := if_pos (by omega)
          obtain rfl : R = (false, s + 1, o) := by rw [← hE, iterW_no h49 hstep rfl]
          refine .cons (.gF rfl rfl rfl) ?_
          refine .cons (.gF rfl rfl rfl) ?_
          refine .cons (.gF rfl rfl rfl) ?_
          refine .cons (.gF rfl rfl rfl) ?_
          refine .cons (.gF rfl rfl rfl) ?_
          refine .cons (.gF rfl rfl rfl) ?_
          refine .cons (.gF rfl rfl rfl) ?_
          refine .cons (.gF rfl rfl rfl) ?_
          refine .cons (.pT rfl rfl rfl) ?_
          refine .nil ?_
          refine ks_n ?_
          refine ACode.condT rfl (fun _ => ?_) (fun h => by first | (cases h; done) | (simp [*] at h; done) | (exfalso; simp_all; done))
          refine ACode.seq ?_
          refine ACode.region ?_
          refine .cons (.asg rfl rfl) ?_
          refine .nil ?_
          refine ks_n ?_
          refine ACode.ret ?_
          refine kb_r ?_
          refine ks_r ?_
          refine kl_r ?_
          refine kb_r ?_
          refine ks_r ?_
          refine kf_wret [(.t 4, .v (.o (bo1 ((false, s + 1, o) : Bool × Nat × Pts).1))), (.b 0, .b 79 3 ([[.d (dLs ns), .d (dI (((false, s + 1, o) : Bool × Nat × Pts).2.1 : Nat)), .own 1000 1 (((false, s + 1, o) : Bool × Nat × Pts).2.2).length]])), (.u 0, .u), (.b 1000, .b 28 1 (dR ((((false, s + 1, o) : Bool × Nat × Pts).2.2).map rIs))), (.u 1000, .u)] (Wk.keep [(0, 0), (1000, 1690)] rfl rfl ⟨ks rfl (.dt (by first | rfl | exact congrArg (fun b => V.o (bo1 b)) h74.symm)), kb 0 rfl (.cons (.cons .dt (.cons .dt (.cons .ow .nil))) .nil), kb 1690 rfl (.dt rfl), trivial⟩) rfl ?_ (two_box rfl rfl)
          rfl
        · skip
          have hstep : stepW ms ([] : List Int) v s o = walkF ms (([] : List Int) ++ [v]) (s + 1) o := if_neg (by omega)
          have ihv := ih v (s + 1) o h1 h49 (by omega) (by omega)
          refine .cons (.gT rfl rfl rfl (.mv rfl rfl)) ?_
          refine .cons (.gT rfl rfl rfl (.mv rfl rfl)) ?_
          refine .cons (.gT rfl rfl rfl (.cP [.tmp 67] rfl rfl rfl rfl (clone_nilN) rfl)) ?_
          refine .cons (.gT rfl rfl rfl (.mv rfl rfl)) ?_
          refine .cons (.gT rfl rfl rfl (.li 3 0 0 [.tmp 69] rfl rfl rfl rfl rfl rfl)) ?_
          refine .cons (.gT rfl rfl rfl (St1.appND (e := 3) (sz := 0) (by' := 8) rfl rfl rfl rfl rfl (by kernel_rfl) rfl rfl rfl (by simp))) ?_
          refine .cons (.gT rfl rfl rfl (.cO [.tmp 66, .tmp 71] [(0, 0), (1, 1690), (1000, 1072)] rfl rfl rfl rfl (ihv.oo hno) rfl (hbIn_O rfl rfl) (hbO_flat1 _ _ _) (hbO_flat3 _ _ _) (hbO_HB _ _ _ _) outS_O)) ?_
          refine .cons (.gT rfl rfl rfl (.nt rfl rfl)) ?_
          refine .cons (.pF rfl rfl rfl) ?_
          refine .nil ?_
          refine ks_n ?_
          refine ACode.condT rfl (fun h74 => ?_) (fun h74 => ?_)
          · try simp only [List.length_map, decide_eq_true_eq, decide_eq_false_iff_not, Bool.not_eq_true', Bool.not_eq_false', Bool.not_eq_true, Bool.not_eq_false] at h74
            obtain rfl : R = walkF ms (([] : List Int) ++ [v]) (s + 1) o := by rw [← hE, iterW_no h49 hstep h74]
            refine ACode.seq ?_
            refine ACode.region ?_
            refine .cons (.asg rfl rfl) ?_
            refine .nil ?_
            refine ks_n ?_
            refine ACode.ret ?_
            refine kb_r ?_
            refine ks_r ?_
            refine kl_r ?_
            refine kb_r ?_
            refine ks_r ?_
            refine kf_wret [(.t 4, .v (.o (bo1 (walkF ms (([] : List Int) ++ [v]) (s + 1) o).1))), (.b 0, .b 79 3 ([[.d (dLs ns), .d (dI ((walkF ms (([] : List Int) ++ [v]) (s + 1) o).2.1 : Nat)), .own 1000 1 ((walkF ms (([] : List Int) ++ [v]) (s + 1) o).2.2).length]])), (.u 0, .u), (.b 1000, .b 28 1 (dR (((walkF ms (([] : List Int) ++ [v]) (s + 1) o).2.2).map rIs))), (.u 1000, .u)] (Wk.keep [(0, 0), (1000, 1072)] rfl rfl ⟨ks rfl (.dt (by first | rfl | exact congrArg (fun b => V.o (bo1 b)) h74.symm)), kb 0 rfl (.cons (.cons .dt (.cons .dt (.cons .ow .nil))) .nil), kb 1072 rfl (.dt rfl), trivial⟩) rfl ?_ (two_box rfl rfl)
            rfl
          · try simp only [List.length_map, decide_eq_true_eq, decide_eq_false_iff_not, Bool.not_eq_true', Bool.not_eq_false', Bool.not_eq_true, Bool.not_eq_false] at h74
            obtain ⟨g, hg, hst⟩ := walkF_stp ms (([] : List Int) ++ [v]) (s + 1) o (by omega) (by omega)
            obtain ⟨q1, q2⟩ := hst.ok.1 h74
            obtain ⟨q3, q4⟩ := hst.st h74
            have q5 := congrArg List.length q4
            rw [List.length_append] at q5
            skip
            refine ACode.skip ?_
            refine kb_n ?_
            refine ks_n ?_
            refine ACode.region ?_
            refine .cons (.mv rfl rfl) ?_
            refine .cons (.pl rfl rfl rfl) ?_
            refine .cons (.asg rfl rfl) ?_
            refine .nil ?_
            refine kl_k [(0, 0), (1010, 1072)] (.inr ⟨v + 1, (walkF ms (([] : List Int) ++ [v]) (s + 1) o).2.1, (walkF ms (([] : List Int) ++ [v]) (s + 1) o).2.2, rfl, by omega, by omega, by omega, by obtain ⟨z, hz2⟩ := walkF_grow ms (([] : List Int) ++ [v]) (s + 1) o; rw [hz2]; exact fun e => hno (List.append_eq_nil_iff.1 e).1, by rw [← hE, iterW_yes h49 hstep h74], rfl⟩) ⟨ks rfl (.c .bx), ks rfl .dt, ks rfl .dt, ks rfl .dt, kb 1072 rfl (.dt rfl), kb 0 rfl (.cons (.cons .dt (.cons .dt (.cons .ow Ctos.nil))) .nil), trivial⟩
      · skip
        obtain rfl : R = (true, s, o) := by rw [← hE, iterW_ge h49]
        refine ACode.exit ?_
        refine ks_e ?_
        refine kl_e ?_
        refine kb_hit ?_
        refine ks_n ?_
        refine ACode.seq ?_
        refine ACode.region ?_
        refine .cons (.asg rfl rfl) ?_
        refine .nil ?_
        refine ks_n ?_
        refine ACode.ret ?_
        refine kf_wret [(.t 4, .v (.o (bo1 ((true, s, o) : Bool × Nat × Pts).1))), (.b 0, .b 79 3 ([[.d (dLs ns), .d (dI (((true, s, o) : Bool × Nat × Pts).2.1 : Nat)), .own 1000 1 (((true, s, o) : Bool × Nat × Pts).2.2).length]])), (.u 0, .u), (.b 1000, .b 28 1 (dR ((((true, s, o) : Bool × Nat × Pts).2.2).map rIs))), (.u 1000, .u)] (Wk.keep [(0, 0), (1000, 1010)] rfl rfl ⟨ks rfl (.dt (by first | rfl | exact congrArg (fun b => V.o (bo1 b)) h74.symm)), kb 0 rfl (.cons (.cons .dt (.cons .dt (.cons .ow .nil))) .nil), kb 1010 rfl (.dt rfl), trivial⟩) rfl ?_ (two_box rfl rfl)
        rfl

end Go.Proofs.Ytgcpdpbapgkdjaa

/- NestPoints of the reference; condition: small nests. -/
namespace Go.Proofs.Ytgcpdpbapgkdjaa
set_option linter.unusedVariables false
set_option linter.unusedSimpArgs false
open Go.RowKit

theorem npR_no {ns : List Lp} (h : okP ns = false) : npR ns = [] := if_neg (by rw [h]; simp)
theorem np_no1 {ns : List Lp} (h : 1200 < workF ns [] 1200) : okP ns = false := by
  have h1 := workF_spec ns [] 1200 (by omega)
  have h2 : ¬ nodesG ns [] ≤ 1200 := fun hc => by rw [h1.1 (by omega)] at h; omega
  rw [okP, decide_eq_false h2, Bool.false_and, Bool.and_false]
theorem np_no2 {ns : List Lp} (h : 120 < (ptsF ns [] []).length) : okP ns = false := by
  have h1 := (ptsF_spec ns [] [] (by simp)).leq
  have h2 : ¬ (ptsG ns []).length ≤ 120 := fun hc => by have := h1.2 (by simpa using hc); omega
  rw [okP, decide_eq_false h2, Bool.and_false, Bool.and_false]
theorem np_yes {ns : List Lp} (hv : nsV ns = true) (hw : ¬ 1200 < workF ns [] 1200) (hp : ¬ 120 < (ptsF ns [] []).length) : okP ns = true ∧ npR ns = ptsF ns [] [] := by
  have h1 := workF_spec ns [] 1200 (by omega)
  have h2 := ptsF_spec ns [] [] (by simp)
  have h3 : (ptsG ns []).length ≤ 120 := by have := h2.leq.1 (by omega); simpa using this
  have h4 : nodesG ns [] ≤ 1200 := by
    by_cases hc : nodesG ns [] ≤ 1200
    · exact hc
    · exact absurd (by rw [h1.2 (by omega)]; omega) hw
  have h5 : okP ns = true := okP_iff.2 ⟨hv, h4, h3⟩
  exact ⟨h5, by rw [npR, if_pos h5, h2.all (by simpa using h3)]; simp⟩

set_option maxRecDepth 100000 in
set_option maxHeartbeats 1600000 in
theorem specNestPts_fn (ns : List Lp) (hs : smN ns) : Fn Try.prog 29 [] [vD (dLs ns)] (.tup [vD (dPs (npR ns)), bo1 (okP ns)]) [] := by
  refine Fn.code0 Try.func29 rfl rfl rfl rfl ?_
  refine ACode.seq ?_
  refine ACode.region ?_
  refine .cons (.asg rfl rfl) ?_
  refine .cons (.asg rfl rfl) ?_
  refine .nil ?_
  refine ks_n ?_
  refine ACode.seq ?_
  refine ACode.seq ?_
  refine ACode.region ?_
  refine .cons (.mv rfl rfl) ?_
  refine .cons (.cP [.tmp 5] rfl rfl rfl rfl (specNestV_fn ns hs) rfl) ?_
  refine .cons (.nt rfl rfl) ?_
  refine .cons (.mv rfl rfl) ?_
  refine AOps.cases 8 _ rfl (fun g8 => ?_) (fun g8 => ?_)
  · try simp only [List.length_map, decide_eq_true_eq, decide_eq_false_iff_not, Bool.not_eq_true', Bool.not_eq_false', Bool.not_eq_true, Bool.not_eq_false] at g8
    refine .cons (.gF rfl rfl rfl) ?_
    refine .cons (.gF rfl rfl rfl) ?_
    refine .cons (.gF rfl rfl rfl) ?_
    refine .cons (.pT rfl rfl rfl) ?_
    refine .nil ?_
    refine ks_n ?_
    refine ACode.condT rfl (fun _ => ?_) (fun h => by first | (cases h; done) | (simp [*] at h; done) | (exfalso; simp_all; done))
    refine ACode.seq ?_
    have hO : okP ns = false := by first | (rw [okP, g8]; rfl) | exact np_no1 h12
    have hN := npR_no hO
    refine ACode.region ?_
    refine .cons (St1.lit0 (k' := 113) (e := 28) (sz := 1) (b := true) rfl rfl rfl rfl (by kernel_rfl) rfl rfl) ?_
    refine .cons (.asg rfl rfl) ?_
    refine .cons (.asg rfl rfl) ?_
    refine .nil ?_
    refine ks_n ?_
    refine ACode.ret ?_
    refine ks_r ?_
    refine kf_wret [(.t 2, .v (.o (vD (dPs (npR ns))))), (.t 3, .v (.o (bo1 (okP ns))))] (Wk.keep [] rfl rfl ⟨ks rfl (.c (.fz rfl (by first | (rw [hN]; done) | (rw [hN]; rfl)) (by rw [hN]; simp) (by first | (simp; done) | omega))), ks rfl (.dt (by rw [hO])), trivial⟩) rfl ?_ nobox
    rfl
  · try simp only [List.length_map, decide_eq_true_eq, decide_eq_false_iff_not, Bool.not_eq_true', Bool.not_eq_false', Bool.not_eq_true, Bool.not_eq_false] at g8
    refine .cons (.gT rfl rfl rfl (.mv rfl rfl)) ?_
    refine .cons (.gT rfl rfl rfl (.cP [.tmp 9, .const (.slice none 0 0), .const (.int .i64 (1200))] rfl rfl rfl rfl (Fn.nilArg (pre := [vD (dLs ns)]) (post := [nat1 1200]) (sz := 1) (l2Work_fn g8 ns [] 1200 rfl (by simp) PB.nil (by omega) (by omega))) rfl)) ?_
    refine .cons (.gT rfl rfl rfl (.gt rfl rfl rfl)) ?_
    refine .cons (.pF rfl rfl rfl) ?_
    refine .nil ?_
    refine ks_n ?_
    refine ACode.condT rfl (fun h12 => ?_) (fun h12 => ?_)
    · try simp only [List.length_map, decide_eq_true_eq, decide_eq_false_iff_not, Bool.not_eq_true', Bool.not_eq_false', Bool.not_eq_true, Bool.not_eq_false] at h12
      refine ACode.seq ?_
      have hO : okP ns = false := by first | (rw [okP, g8]; rfl) | exact np_no1 h12
      have hN := npR_no hO
      refine ACode.region ?_
      refine .cons (St1.lit0 (k' := 113) (e := 28) (sz := 1) (b := true) rfl rfl rfl rfl (by kernel_rfl) rfl rfl) ?_
      refine .cons (.asg rfl rfl) ?_
      refine .cons (.asg rfl rfl) ?_
      refine .nil ?_
      refine ks_n ?_
      refine ACode.ret ?_
      refine ks_r ?_
      refine kf_wret [(.t 2, .v (.o (vD (dPs (npR ns))))), (.t 3, .v (.o (bo1 (okP ns))))] (Wk.keep [] rfl rfl ⟨ks rfl (.c (.fz rfl (by first | (rw [hN]; done) | (rw [hN]; rfl)) (by rw [hN]; simp) (by first | (simp; done) | omega))), ks rfl (.dt (by rw [hO])), trivial⟩) rfl ?_ nobox
      rfl
    · try simp only [List.length_map, decide_eq_true_eq, decide_eq_false_iff_not, Bool.not_eq_true', Bool.not_eq_false', Bool.not_eq_true, Bool.not_eq_false] at h12
      refine ACode.skip ?_
      refine ks_n ?_
      refine ACode.seq ?_
      refine ACode.region ?_
      refine .cons (St1.lit0 (k' := 114) (e := 28) (sz := 1) (b := true) rfl rfl rfl rfl (by kernel_rfl) rfl rfl) ?_
      refine .cons (.mv rfl rfl) ?_
      refine .cons (.cO [.tmp 14, .tmp 15, .const (.slice none 0 0)] [(0, 114), (1000, 116)] rfl rfl rfl rfl (Fn.nilArg (pre := [.c (.own 0 1 0), vD (dLs ns)]) (post := []) (sz := 1) (l2Points_fn g8 ns [] [] rfl (by simp) PB.nil (by simp))) rfl (hbIn_one rfl) (hbPt_flat _ _) (hbPt_flat _ _) (hbPt_HB _ _) outS_one) ?_
      refine .cons (.asg rfl rfl) ?_
      refine .nil ?_
      refine ks_n ?_
      refine ACode.seq ?_
      refine ACode.seq ?_
      refine ACode.region ?_
      refine .cons (.mv rfl rfl) ?_
      refine .cons (.lB 28 1 24 rfl rfl rfl rfl) ?_
      refine .cons (.gt rfl rfl rfl) ?_
      refine .nil ?_
      refine ks_n ?_
      refine .cD rfl (fun h19 => ?_) (fun h19 => ?_)
      · skip
        refine ACode.seq ?_
        have hO : okP ns = false := np_no2 (by omega)
        have hN := npR_no hO
        refine ACode.region ?_
        refine .cons (St1.lit0 (k' := 120) (e := 28) (sz := 1) (b := true) rfl rfl rfl rfl (by kernel_rfl) rfl rfl) ?_
        refine .cons (.asg rfl rfl) ?_
        refine .cons (.asg rfl rfl) ?_
        refine .nil ?_
        refine ks_n ?_
        refine ACode.ret ?_
        refine ks_r ?_
        refine kf_wret [(.t 2, .v (.o (vD (dPs (npR ns))))), (.t 3, .v (.o (bo1 (okP ns))))] (Wk.keep [] rfl rfl ⟨ks rfl (.c (.fz rfl (by first | (rw [hN]; done) | (rw [hN]; rfl)) (by rw [hN]; simp) (by first | (simp; done) | omega))), ks rfl (.dt (by rw [hO])), trivial⟩) rfl ?_ nobox
        rfl
      · skip
        refine ACode.skip ?_
        refine ks_n ?_
        refine ACode.seq ?_
        obtain ⟨hO, hN⟩ := np_yes g8 (by omega) (by omega)
        refine ACode.region ?_
        refine .cons (.mv rfl rfl) ?_
        refine .cons (.asg rfl rfl) ?_
        refine .cons (.asg rfl rfl) ?_
        refine .nil ?_
        refine ks_n ?_
        refine ACode.ret ?_
        refine kf_wret [(.t 2, .v (.o (vD (dPs (npR ns))))), (.t 3, .v (.o (bo1 (okP ns))))] (Wk.keep [] rfl rfl ⟨ks rfl (.c (.fz rfl (by first | (rw [hN]; done) | (rw [hN]; rfl)) (by rw [hN]; simp) (by first | (simp; done) | omega))), ks rfl (.dt (by rw [hO])), trivial⟩) rfl ?_ nobox
        rfl

end Go.Proofs.Ytgcpdpbapgkdjaa

/- NestPoints of the program; condition: small nests. -/
namespace Go.Proofs.Ytgcpdpbapgkdjaa
set_option linter.unusedVariables false
set_option linter.unusedSimpArgs false
open Go.RowKit

theorem walk_ok {ns : List Lp} (hv : nsV ns = true) : ∀ (ms : List Lp) (p : List Int) (s : Nat) (o : Pts), ns.drop p.length = ms → p.length ≤ ns.length → PB p → 0 < p.length → s ≤ 1199 → o.length ≤ 120 → WOk ns ms p (dIs p) s o
  | [], p, s, o, hd, hle, hp, h0, hs, ho => by
    have hl : p.length = ns.length := by have := congrArg List.length hd; rw [List.length_drop] at this; simp at this; omega
    have h4 := (nsV_at hv).1
    refine ⟨fun e h => absurd h (by simp [walkF]), fun e _ => ?_, fun hne => walk_leaf_oo hl h0 (by omega) ho⟩
    subst e
    exact walk_leaf_no hl h0 (by omega)
  | l :: ms, p, s, o, hd, hle, hp, h0, hs, ho => by
    obtain ⟨hl, hd2⟩ := drop_tail hd
    have hlt := (List.getElem?_eq_some_iff.1 hl).1
    have h4 := (nsV_at hv).1
    obtain ⟨hR, hlo, hhi, h10⟩ := node_facts hv hp (by omega) hl
    have ih : ∀ v s o, loF p l.1 ≤ v → v < hiF p l.2 → s ≤ 1199 → o.length ≤ 120 → WOk ns ms (p ++ [v]) (dIs (p ++ [v])) s o := fun v s o a b c d =>
      walk_ok hv ms (p ++ [v]) s o (by rw [snoc_len]; exact hd2) (by rw [snoc_len]; omega) (hp.snoc (by omega)) (by rw [snoc_len]; omega) c d
    refine ⟨fun e h => ?_, fun e h => ?_, fun hne => walk_oo h4 hl hR (by omega) (by omega) h0 hs ho hne ih⟩
    · subst e; exact walk_nn h4 hl hR (by omega) (by omega) h0 hs ih h
    · subst e; exact walk_no h4 hl hR (by omega) (by omega) h0 hs ih h
theorem walk_root {ns : List Lp} (hv : nsV ns = true) : ((walkF ns [] 0 []).2.2 = [] → Fn Try.prog 59 (hbN ns 0) [.c (.box 0 3 0 0), vN] (.o (bo1 (walkF ns [] 0 []).1)) (hbN ns (walkF ns [] 0 []).2.1)) ∧
    ((walkF ns [] 0 []).2.2 ≠ [] → Fn Try.prog 59 (hbN ns 0) [.c (.box 0 3 0 0), vN] (.o (bo1 (walkF ns [] 0 []).1)) (hbO 1000 ns (walkF ns [] 0 []).2.1 (walkF ns [] 0 []).2.2)) := by
  cases ns with
  | nil => exact ⟨fun h => absurd h (by simp [walkF]), fun _ => walk_leaf_noR rfl⟩
  | cons l ms =>
    have h4 := (nsV_at hv).1
    have hl : (l :: ms)[([] : List Int).length]? = some l := rfl
    obtain ⟨hR, hlo, hhi, h10⟩ := node_facts hv PB.nil (by simp) hl
    have ih : ∀ v s o, loF [] l.1 ≤ v → v < hiF [] l.2 → s ≤ 1199 → o.length ≤ 120 → WOk (l :: ms) ms ([] ++ [v]) (dIs ([] ++ [v])) s o := fun v s o a b c d =>
      walk_ok hv ms ([] ++ [v]) s o rfl (by simp) (PB.nil.snoc (by simp at hlo hhi ⊢; omega)) (by simp) c d
    simp only [List.length_nil, Int.pow_zero, Int.mul_one] at hlo hhi
    exact ⟨fun h => walk_nnR h4 hl hR (by omega) (by omega) (by omega) ih h, fun h => walk_noR h4 hl hR (by omega) (by omega) (by omega) ih h⟩
theorem np_walk {ns : List Lp} (hv : nsV ns = true) : okP ns = (walkF ns [] 0 []).1 ∧ ((walkF ns [] 0 []).1 = true → npR ns = (walkF ns [] 0 []).2.2 ∧ npR ns = ptsG ns [] ∧ (npR ns).length ≤ 120) := by
  obtain ⟨g, hg, h⟩ := walkF_stp ns [] 0 [] (by omega) (by simp)
  have hok : okP ns = (walkF ns [] 0 []).1 := by
    rw [Bool.eq_iff_iff, okP_iff, h.ok]
    simp only [hv, true_and, List.length_nil, Nat.zero_add]
    omega
  refine ⟨hok, fun e => ?_⟩
  have h1 := (h.st e).2
  have h2 : npR ns = ptsG ns [] := if_pos (by rw [hok]; exact e)
  exact ⟨by rw [h1, h2]; simp, h2, by rw [h2]; exact (okP_iff.1 (hok.trans e)).2.2⟩

set_option maxRecDepth 100000 in
set_option maxHeartbeats 1600000 in
theorem implNestPts_nn (ns : List Lp) (hs : smN ns) (hW : nsV ns = true → Fn Try.prog 59 (hbN ns 0) [.c (.box 0 3 0 0), vN] (.o (bo1 (walkF ns [] 0 []).1)) (hbN ns (walkF ns [] 0 []).2.1)) (hz : (walkF ns [] 0 []).2.2 = []) : Fn Try.prog 19 [] [vD (dLs ns)] (.tup [vD (dPs (npR ns)), bo1 (okP ns)]) [] := by
  refine Fn.code0 Try.func19 rfl rfl rfl rfl ?_
  refine ACode.seq ?_
  refine ACode.region ?_
  refine .cons (.asg rfl rfl) ?_
  refine .cons (.asg rfl rfl) ?_
  refine .nil ?_
  refine ks_n ?_
  refine ACode.seq ?_
  refine ACode.seq ?_
  refine ACode.region ?_
  refine .cons (.mv rfl rfl) ?_
  refine .cons (.cP [.tmp 5] rfl rfl rfl rfl (implNestV_fn ns hs) rfl) ?_
  refine .cons (.nt rfl rfl) ?_
  refine .nil ?_
  refine ks_n ?_
  refine ACode.condT rfl (fun h7 => ?_) (fun h7 => ?_)
  · try simp only [List.length_map, decide_eq_true_eq, decide_eq_false_iff_not, Bool.not_eq_true', Bool.not_eq_false', Bool.not_eq_true, Bool.not_eq_false] at h7
    refine ACode.seq ?_
    have hO : okP ns = false := by rw [okP, h7]; rfl
    have hN := npR_no hO
    refine ACode.region ?_
    refine .cons (.asg rfl rfl) ?_
    refine .cons (.asg rfl rfl) ?_
    refine .nil ?_
    refine ks_n ?_
    refine ACode.ret ?_
    refine ks_r ?_
    refine kf_wret [(.t 2, .v (.o (vD (dPs (npR ns))))), (.t 3, .v (.o (bo1 (okP ns))))] (Wk.keep [] rfl rfl ⟨ks rfl (.c (Cto.nilE 1 (by rw [hN]; rfl))), ks rfl (.dt (by rw [hO])), trivial⟩) rfl ?_ nobox
    rfl
  · try simp only [List.length_map, decide_eq_true_eq, decide_eq_false_iff_not, Bool.not_eq_true', Bool.not_eq_false', Bool.not_eq_true, Bool.not_eq_false] at h7
    refine ACode.skip ?_
    refine ks_n ?_
    refine ACode.seq ?_
    refine ACode.region ?_
    refine .cons (.mv rfl rfl) ?_
    refine .cons (.bu [(0, .tmp 8)] [(0, 1), (1, 1), (2, 1)] [.slice none 0 0, .int .i64 0, .slice none 0 0] rfl rfl rfl rfl rfl) ?_
    refine .cons (St1.boxB (k' := 110) rfl rfl rfl rfl rfl rfl rfl) ?_
    refine .cons (.asg rfl rfl) ?_
    refine .nil ?_
    refine ks_n ?_
    refine ACode.seq ?_
    refine ACode.seq ?_
    refine ACode.region ?_
    refine .cons (.mv rfl rfl) ?_
    refine .cons (.cO [.tmp 11, .const (.slice none 0 0)] [(0, 110)] rfl rfl rfl rfl (hW h7) rfl ⟨rfl, trivial⟩ (hbN_flat _ _) (hbN_flat _ _) (hbN_HB _ _) outS_one) ?_
    refine .cons (.nt rfl rfl) ?_
    refine .nil ?_
    refine ks_n ?_
    refine ACode.condT rfl (fun h13 => ?_) (fun h13 => ?_)
    · try simp only [List.length_map, decide_eq_true_eq, decide_eq_false_iff_not, Bool.not_eq_true', Bool.not_eq_false', Bool.not_eq_true, Bool.not_eq_false] at h13
      refine ACode.seq ?_
      have hO : okP ns = false := (np_walk h7).1.trans h13
      have hN := npR_no hO
      refine ACode.region ?_
      refine .cons (.asg rfl rfl) ?_
      refine .cons (.asg rfl rfl) ?_
      refine .nil ?_
      refine ks_n ?_
      refine ACode.ret ?_
      refine ks_r ?_
      refine kf_wret [(.t 2, .v (.o (vD (dPs (npR ns))))), (.t 3, .v (.o (bo1 (okP ns))))] (Wk.keep [] rfl rfl ⟨ks rfl (.c (Cto.nilE 1 (by rw [hN]; rfl))), ks rfl (.dt (by rw [hO])), trivial⟩) rfl ?_ nobox
      rfl
    · try simp only [List.length_map, decide_eq_true_eq, decide_eq_false_iff_not, Bool.not_eq_true', Bool.not_eq_false', Bool.not_eq_true, Bool.not_eq_false] at h13
      refine ACode.skip ?_
      refine ks_n ?_
      refine ACode.seq ?_
      have hO : okP ns = true := (np_walk h7).1.trans h13
      obtain ⟨hN, _, hN3⟩ := (np_walk h7).2 h13
      rw [hz] at hN
      refine ACode.region ?_
      refine .cons (.mv rfl rfl) ?_
      refine .cons (.nB rfl rfl rfl) ?_
      refine .cons (.fB 2 0 false rfl rfl rfl) ?_
      refine .cons (.b1 1 rfl rfl rfl rfl rfl rfl) ?_
      refine .cons (.asg rfl rfl) ?_
      refine .cons (.asg rfl rfl) ?_
      refine .nil ?_
      refine ks_n ?_
      refine ACode.ret ?_
      refine kf_wret [(.t 2, .v (.o (vD (dPs (npR ns))))), (.t 3, .v (.o (bo1 (okP ns))))] (Wk.keep [] rfl rfl ⟨ks rfl (.c (Cto.nilE 1 (by rw [hN]; rfl))), ks rfl (.dt (by rw [hO])), trivial⟩) rfl ?_ nobox
      rfl

set_option maxRecDepth 100000 in
set_option maxHeartbeats 1600000 in
theorem implNestPts_no (ns : List Lp) (hs : smN ns) (hW : nsV ns = true → Fn Try.prog 59 (hbN ns 0) [.c (.box 0 3 0 0), vN] (.o (bo1 (walkF ns [] 0 []).1)) (hbO 1000 ns (walkF ns [] 0 []).2.1 (walkF ns [] 0 []).2.2)) : Fn Try.prog 19 [] [vD (dLs ns)] (.tup [vD (dPs (npR ns)), bo1 (okP ns)]) [] := by
  refine Fn.code0 Try.func19 rfl rfl rfl rfl ?_
  refine ACode.seq ?_
  refine ACode.region ?_
  refine .cons (.asg rfl rfl) ?_
  refine .cons (.asg rfl rfl) ?_
  refine .nil ?_
  refine ks_n ?_
  refine ACode.seq ?_
  refine ACode.seq ?_
  refine ACode.region ?_
  refine .cons (.mv rfl rfl) ?_
  refine .cons (.cP [.tmp 5] rfl rfl rfl rfl (implNestV_fn ns hs) rfl) ?_
  refine .cons (.nt rfl rfl) ?_
  refine .nil ?_
  refine ks_n ?_
  refine ACode.condT rfl (fun h7 => ?_) (fun h7 => ?_)
  · try simp only [List.length_map, decide_eq_true_eq, decide_eq_false_iff_not, Bool.not_eq_true', Bool.not_eq_false', Bool.not_eq_true, Bool.not_eq_false] at h7
    refine ACode.seq ?_
    have hO : okP ns = false := by rw [okP, h7]; rfl
    have hN := npR_no hO
    refine ACode.region ?_
    refine .cons (.asg rfl rfl) ?_
    refine .cons (.asg rfl rfl) ?_
    refine .nil ?_
    refine ks_n ?_
    refine ACode.ret ?_
    refine ks_r ?_
    refine kf_wret [(.t 2, .v (.o (vD (dPs (npR ns))))), (.t 3, .v (.o (bo1 (okP ns))))] (Wk.keep [] rfl rfl ⟨ks rfl (.c (Cto.nilE 1 (by rw [hN]; rfl))), ks rfl (.dt (by rw [hO])), trivial⟩) rfl ?_ nobox
    rfl
  · try simp only [List.length_map, decide_eq_true_eq, decide_eq_false_iff_not, Bool.not_eq_true', Bool.not_eq_false', Bool.not_eq_true, Bool.not_eq_false] at h7
    refine ACode.skip ?_
    refine ks_n ?_
    refine ACode.seq ?_
    refine ACode.region ?_
    refine .cons (.mv rfl rfl) ?_
    refine .cons (.bu [(0, .tmp 8)] [(0, 1), (1, 1), (2, 1)] [.slice none 0 0, .int .i64 0, .slice none 0 0] rfl rfl rfl rfl rfl) ?_
    refine .cons (St1.boxB (k' := 110) rfl rfl rfl rfl rfl rfl rfl) ?_
    refine .cons (.asg rfl rfl) ?_
    refine .nil ?_
    refine ks_n ?_
    refine ACode.seq ?_
    refine ACode.seq ?_
    refine ACode.region ?_
    refine .cons (.mv rfl rfl) ?_
    refine .cons (.cO [.tmp 11, .const (.slice none 0 0)] [(0, 110), (1000, 112)] rfl rfl rfl rfl (hW h7) rfl ⟨rfl, trivial⟩ (hbN_flat _ _) (hbO_flat3 _ _ _) (hbO_HB _ _ _ _) outS_O) ?_
    refine .cons (.nt rfl rfl) ?_
    refine .nil ?_
    refine ks_n ?_
    refine ACode.condT rfl (fun h13 => ?_) (fun h13 => ?_)
    · try simp only [List.length_map, decide_eq_true_eq, decide_eq_false_iff_not, Bool.not_eq_true', Bool.not_eq_false', Bool.not_eq_true, Bool.not_eq_false] at h13
      refine ACode.seq ?_
      have hO : okP ns = false := (np_walk h7).1.trans h13
      have hN := npR_no hO
      refine ACode.region ?_
      refine .cons (.asg rfl rfl) ?_
      refine .cons (.asg rfl rfl) ?_
      refine .nil ?_
      refine ks_n ?_
      refine ACode.ret ?_
      refine ks_r ?_
      refine kf_wret [(.t 2, .v (.o (vD (dPs (npR ns))))), (.t 3, .v (.o (bo1 (okP ns))))] (Wk.keep [] rfl rfl ⟨ks rfl (.c (Cto.nilE 1 (by rw [hN]; rfl))), ks rfl (.dt (by rw [hO])), trivial⟩) rfl ?_ nobox
      rfl
    · try simp only [List.length_map, decide_eq_true_eq, decide_eq_false_iff_not, Bool.not_eq_true', Bool.not_eq_false', Bool.not_eq_true, Bool.not_eq_false] at h13
      refine ACode.skip ?_
      refine ks_n ?_
      refine ACode.seq ?_
      have hO : okP ns = true := (np_walk h7).1.trans h13
      obtain ⟨hN, _, hN3⟩ := (np_walk h7).2 h13
      have hN4 : (walkF ns [] 0 []).2.2.length ≤ 120 := by rw [← hN]; exact hN3
      refine ACode.region ?_
      refine .cons (.mv rfl rfl) ?_
      refine .cons (.nB rfl rfl rfl) ?_
      refine .cons (.fB 2 0 false rfl rfl rfl) ?_
      refine .cons (.b1 1 rfl rfl rfl rfl rfl rfl) ?_
      refine .cons (.asg rfl rfl) ?_
      refine .cons (.asg rfl rfl) ?_
      refine .nil ?_
      refine ks_n ?_
      refine ACode.ret ?_
      refine kf_wret [(.t 2, .v (.o (vD (dPs (npR ns))))), (.t 3, .v (.o (bo1 (okP ns))))] (Wk.keep [] rfl rfl ⟨ks rfl (.c (.fz rfl (by rw [hN]) (by rw [hN]; simp) (by omega))), ks rfl (.dt (by rw [hO])), trivial⟩) rfl ?_ nobox
      rfl

theorem implNestPts_fn (ns : List Lp) (hs : smN ns) : Fn Try.prog 19 [] [vD (dLs ns)] (.tup [vD (dPs (npR ns)), bo1 (okP ns)]) [] := by
  by_cases h : (walkF ns [] 0 []).2.2 = []
  · exact implNestPts_nn ns hs (fun hv => (walk_root hv).1 h) h
  · exact implNestPts_no ns hs (fun hv => (walk_root hv).2 h)

end Go.Proofs.Ytgcpdpbapgkdjaa

/- The reader: open; no condition. -/
namespace Go.Proofs.Ytgcpdpbapgkdjaa
set_option linter.unusedVariables false
set_option linter.unusedSimpArgs false
open Go.RowKit

set_option maxRecDepth 100000 in
set_option maxHeartbeats 1600000 in
theorem l16Open_fn (bs : List Int) : Fn Try.prog 43 [] [vD (dYs bs)] (.o (.c (.box 100 2 0 0))) [(.b 100, .b 105 2 (dR [rRd (bs.take 2000) 0])), (.u 100, .u)] := by
  refine Fn.of_code Try.func43 rfl rfl HB.nil rfl rfl HB.nil.data rfl (one_num rfl) ?_
  refine ACode.seq ?_
  refine ACode.region ?_
  refine .cons (.asg rfl rfl) ?_
  refine .nil ?_
  refine ks_n ?_
  refine ACode.seq ?_
  refine ACode.seq ?_
  refine ACode.region ?_
  refine .cons (.mv rfl rfl) ?_
  refine .cons (.ln 5 1 1 rfl rfl rfl) ?_
  refine .cons (.gt rfl rfl rfl) ?_
  refine .nil ?_
  refine ks_n ?_
  refine .cD rfl (fun h5 => ?_) (fun h5 => ?_)
  · skip
    refine ACode.region ?_
    refine .cons (.mv rfl rfl) ?_
    refine .cons (St1.sliceTo (e := 5) (sz := 1) (by' := 1) (k := 2000) rfl rfl rfl rfl (by kernel_rfl) rfl rfl rfl (by first | rfl | omega) (by simp only [List.length_map]; omega)) ?_
    refine .cons (.asg rfl rfl) ?_
    refine .nil ?_
    refine ks_n ?_
    refine ACode.seq ?_
    refine ACode.region ?_
    refine .cons (.mv rfl rfl) ?_
    refine .cons (.bu [(0, .tmp 8)] [(0, 1), (1, 1)] [.slice none 0 0, .int .i64 0] rfl rfl rfl rfl rfl) ?_
    refine .cons (St1.boxB (k' := 110) rfl rfl rfl rfl rfl rfl rfl) ?_
    refine .cons (.asg rfl rfl) ?_
    refine .nil ?_
    refine ks_n ?_
    refine ACode.ret ?_
    refine kf_wret [(.t 2, .v (.o (.c (.box 100 2 0 0)))), (.b 100, .b 105 2 [[.d (dYs (bs.take 2000)), .d (dI 0)]]), (.u 100, .u)] (Wk.keep [(100, 110)] rfl rfl ⟨ks rfl (.c .bx), kb 110 rfl (.cons (.cons (.dt (by first | (simp only [dYs, List.map_take]; done) | rw [List.take_of_length_le (by omega)])) (.cons .dt Ctos.nil)) .nil), trivial⟩) rfl ?_ (one_box rfl)
    rfl
  · skip
    refine ACode.skip ?_
    refine ks_n ?_
    refine ACode.seq ?_
    refine ACode.region ?_
    refine .cons (.mv rfl rfl) ?_
    refine .cons (.bu [(0, .tmp 8)] [(0, 1), (1, 1)] [.slice none 0 0, .int .i64 0] rfl rfl rfl rfl rfl) ?_
    refine .cons (St1.boxB (k' := 110) rfl rfl rfl rfl rfl rfl rfl) ?_
    refine .cons (.asg rfl rfl) ?_
    refine .nil ?_
    refine ks_n ?_
    refine ACode.ret ?_
    refine kf_wret [(.t 2, .v (.o (.c (.box 100 2 0 0)))), (.b 100, .b 105 2 [[.d (dYs (bs.take 2000)), .d (dI 0)]]), (.u 100, .u)] (Wk.keep [(100, 110)] rfl rfl ⟨ks rfl (.c .bx), kb 110 rfl (.cons (.cons (.dt (by first | (simp only [dYs, List.map_take]; done) | rw [List.take_of_length_le (by omega)])) (.cons .dt Ctos.nil)) .nil), trivial⟩) rfl ?_ (one_box rfl)
    rfl

end Go.Proofs.Ytgcpdpbapgkdjaa

/- Draws of nests; condition: bytes. -/
namespace Go.Proofs.Ytgcpdpbapgkdjaa
set_option linter.unusedVariables false
set_option linter.unusedSimpArgs false
open Go.RowKit

theorem okN.mono {k m : Nat} {ns : List Lp} (h : okN k ns) (hm : k ≤ m) : okN m ns := ⟨Nat.le_trans h.1 hm, fun l hl => (h.2 l hl).mono hm⟩

set_option maxRecDepth 100000 in
set_option maxHeartbeats 1600000 in
theorem drawNV_core {bs : List Int} (hb : Bytes (bs.take 2000)) {ms : List Lp} {q2 : Nat} (hF : Fn Try.prog 46 (hbR (bs.take 2000) (nestD (bs.take 2000) 0).2) [vR, vD (dLs (nestD (bs.take 2000) 0).1)] (.o (vD (dLs ms))) (hbR (bs.take 2000) q2)) : Fn Try.prog 64 [] [vD (dYs bs)] (.o (vD (dLs ms))) [] := by
  refine Fn.code0 Try.func64 rfl rfl rfl rfl ?_
  refine ACode.seq ?_
  refine ACode.region ?_
  refine .cons (.asg rfl rfl) ?_
  refine .nil ?_
  refine ks_n ?_
  refine ACode.seq ?_
  refine ACode.region ?_
  refine .cons (.mv rfl rfl) ?_
  refine .cons (.cO [.tmp 4] [(100, 105)] rfl rfl rfl rfl (l16Open_fn bs) rfl trivial flatS.nil (flatS.nil.cons rfl) HB.nil.data outS_one) ?_
  refine .cons (.asg rfl rfl) ?_
  refine .nil ?_
  refine ks_n ?_
  refine ACode.seq ?_
  refine ACode.region ?_
  refine .cons (.mv rfl rfl) ?_
  refine .cons (.mv rfl rfl) ?_
  refine .cons (.cR [.tmp 7] 105 rfl rfl rfl rfl (l2Nest_own hb (by omega)) rfl ⟨rfl, trivial⟩) ?_
  refine .cons (.cR [.tmp 6, .tmp 8] 105 rfl rfl rfl rfl (hF) rfl ⟨rfl, trivial⟩) ?_
  refine .cons (.asg rfl rfl) ?_
  refine .nil ?_
  refine ks_n ?_
  refine ACode.ret ?_
  refine kf_ret rfl ?_ nobox
  rfl

theorem drawNV_fn {bs : List Int} (hb : Bytes (bs.take 2000)) : ∃ ns, okN 8 ns ∧ (ns.length ≤ 3 ∨ 4 < ns.length) ∧ Fn Try.prog 64 [] [vD (dYs bs)] (.o (vD (dLs ns))) [] := by
  obtain ⟨h1, h2⟩ := nestD_ok hb (p := 0) (by omega)
  obtain ⟨ms, q, h3, h4, h6, h5⟩ := l2Mutate_fn hb (p := (nestD (bs.take 2000) 0).2) (by omega) h1 (by omega)
  have := h1.1
  exact ⟨ms, h3, by omega, drawNV_core hb h5⟩

set_option maxRecDepth 100000 in
set_option maxHeartbeats 1600000 in
theorem drawNS_one {bs : List Int} (hb : Bytes (bs.take 2000)) (hk : pickV (bs.take 2000) (nestD (bs.take 2000) 0).2 2 = 0) : Fn Try.prog 13 [] [vD (dYs bs)] (.tup [vD (dLs (nestD (bs.take 2000) 0).1), vD (dLs (nestD (bs.take 2000) ((nestD (bs.take 2000) 0).2 + 1)).1)]) [] := by
  have hq := (nestD_ok hb (p := 0) (by omega)).2
  refine Fn.code0 Try.func13 rfl rfl rfl rfl ?_
  refine ACode.seq ?_
  refine ACode.region ?_
  refine .cons (.asg rfl rfl) ?_
  refine .cons (.asg rfl rfl) ?_
  refine .nil ?_
  refine ks_n ?_
  refine ACode.seq ?_
  refine ACode.region ?_
  refine .cons (.mv rfl rfl) ?_
  refine .cons (.cO [.tmp 6] [(100, 107)] rfl rfl rfl rfl (l16Open_fn bs) rfl trivial flatS.nil (flatS.nil.cons rfl) HB.nil.data outS_one) ?_
  refine .cons (.asg rfl rfl) ?_
  refine .nil ?_
  refine ks_n ?_
  refine ACode.seq ?_
  refine ACode.region ?_
  refine .cons (.mv rfl rfl) ?_
  refine .cons (.cR [.tmp 8] 107 rfl rfl rfl rfl (l2Nest_own hb (by omega)) rfl ⟨rfl, trivial⟩) ?_
  refine .cons (.asg rfl rfl) ?_
  refine .nil ?_
  refine ks_n ?_
  refine ACode.seq ?_
  refine ACode.seq ?_
  refine ACode.region ?_
  refine .cons (.mv rfl rfl) ?_
  refine .cons (.cR [.tmp 10, .const (.int .i64 (2))] 107 rfl rfl rfl rfl (pick_fn hb (by omega) 2) rfl ⟨rfl, trivial⟩) ?_
  refine .cons (.eq rfl rfl rfl) ?_
  refine .nil ?_
  refine ks_n ?_
  refine .cD rfl (fun h12 => ?_) (fun h12 => ?_)
  · skip
    refine ACode.seq ?_
    refine ACode.region ?_
    refine .cons (.mv rfl rfl) ?_
    refine .cons (.mv rfl rfl) ?_
    refine .cons (.cR [.tmp 14] 107 rfl rfl rfl rfl (l2Nest_own hb (by omega)) rfl ⟨rfl, trivial⟩) ?_
    refine .cons (.asg rfl rfl) ?_
    refine .cons (.asg rfl rfl) ?_
    refine .nil ?_
    refine ks_n ?_
    refine ACode.ret ?_
    refine ks_r ?_
    refine kf_ret rfl ?_ nobox
    rfl
  · skip
    omega

set_option maxRecDepth 100000 in
set_option maxHeartbeats 1600000 in
theorem drawNS_two {bs : List Int} (hb : Bytes (bs.take 2000)) (hk : pickV (bs.take 2000) (nestD (bs.take 2000) 0).2 2 ≠ 0) {ms ms2 : List Lp} {q2 q3 : Nat} (hF : Fn Try.prog 46 (hbR (bs.take 2000) ((nestD (bs.take 2000) 0).2 + 1)) [vR, vD (dLs (nestD (bs.take 2000) 0).1)] (.o (vD (dLs ms))) (hbR (bs.take 2000) q2)) (hF2 : Fn Try.prog 46 (hbR (bs.take 2000) q2) [vR, vD (dLs ms)] (.o (vD (dLs ms2))) (hbR (bs.take 2000) q3)) : Fn Try.prog 13 [] [vD (dYs bs)] (.tup [vD (dLs (nestD (bs.take 2000) 0).1), vD (dLs ms2)]) [] := by
  have hq := (nestD_ok hb (p := 0) (by omega)).2
  refine Fn.code0 Try.func13 rfl rfl rfl rfl ?_
  refine ACode.seq ?_
  refine ACode.region ?_
  refine .cons (.asg rfl rfl) ?_
  refine .cons (.asg rfl rfl) ?_
  refine .nil ?_
  refine ks_n ?_
  refine ACode.seq ?_
  refine ACode.region ?_
  refine .cons (.mv rfl rfl) ?_
  refine .cons (.cO [.tmp 6] [(100, 107)] rfl rfl rfl rfl (l16Open_fn bs) rfl trivial flatS.nil (flatS.nil.cons rfl) HB.nil.data outS_one) ?_
  refine .cons (.asg rfl rfl) ?_
  refine .nil ?_
  refine ks_n ?_
  refine ACode.seq ?_
  refine ACode.region ?_
  refine .cons (.mv rfl rfl) ?_
  refine .cons (.cR [.tmp 8] 107 rfl rfl rfl rfl (l2Nest_own hb (by omega)) rfl ⟨rfl, trivial⟩) ?_
  refine .cons (.asg rfl rfl) ?_
  refine .nil ?_
  refine ks_n ?_
  refine ACode.seq ?_
  refine ACode.seq ?_
  refine ACode.region ?_
  refine .cons (.mv rfl rfl) ?_
  refine .cons (.cR [.tmp 10, .const (.int .i64 (2))] 107 rfl rfl rfl rfl (pick_fn hb (by omega) 2) rfl ⟨rfl, trivial⟩) ?_
  refine .cons (.eq rfl rfl rfl) ?_
  refine .nil ?_
  refine ks_n ?_
  refine .cD rfl (fun h12 => ?_) (fun h12 => ?_)
  · skip
    omega
  · skip
    refine ACode.skip ?_
    refine ks_n ?_
    refine ACode.seq ?_
    refine ACode.region ?_
    refine .cons (.mv rfl rfl) ?_
    refine .cons (.mv rfl rfl) ?_
    refine .cons (.mv rfl rfl) ?_
    refine .cons (.mv rfl rfl) ?_
    refine .cons (.cR [.tmp 18, .tmp 19] 107 rfl rfl rfl rfl (hF) rfl ⟨rfl, trivial⟩) ?_
    refine .cons (.cR [.tmp 17, .tmp 20] 107 rfl rfl rfl rfl (hF2) rfl ⟨rfl, trivial⟩) ?_
    refine .cons (.asg rfl rfl) ?_
    refine .cons (.asg rfl rfl) ?_
    refine .nil ?_
    refine ks_n ?_
    refine ACode.ret ?_
    refine kf_ret rfl ?_ nobox
    rfl

theorem drawNS_fn {bs : List Int} (hb : Bytes (bs.take 2000)) : ∃ ns ms, okN 13 ns ∧ okN 13 ms ∧ Fn Try.prog 13 [] [vD (dYs bs)] (.tup [vD (dLs ns), vD (dLs ms)]) [] := by
  obtain ⟨h1, h2⟩ := nestD_ok hb (p := 0) (by omega)
  by_cases hk : pickV (bs.take 2000) (nestD (bs.take 2000) 0).2 2 = 0
  · exact ⟨_, _, h1.mono (by omega), (nestD_ok hb (by omega)).1.mono (by omega), drawNS_one hb hk⟩
  · obtain ⟨ms, q, h3, h4, _, h5⟩ := l2Mutate_fn hb (p := (nestD (bs.take 2000) 0).2 + 1) (by omega) h1 (by omega)
    obtain ⟨ms2, q2, h6, h7, _, h8⟩ := l2Mutate_fn hb (p := q) (by omega) h3 (by omega)
    exact ⟨_, _, h1.mono (by omega), h6, drawNS_two hb hk h5 h8⟩

end Go.Proofs.Ytgcpdpbapgkdjaa

/- slices.Compare, impl.LexLess, spec.LexLess: the lexicographic order; condition: what the slices hold. -/
namespace Go.Proofs.Ytgcpdpbapgkdjaa
set_option linter.unusedVariables false
set_option linter.unusedSimpArgs false
open Go.RowKit

def cmpI (x y : Int) : Int := if x < y then -1 else if y < x then 1 else 0
theorem cmpI_ne {x y : Int} (h : ¬ x = y) : (cmpI x y != 0) = true := by
  rw [bne_iff_ne, cmpI]
  split
  · omega
  · split <;> omega
set_option maxHeartbeats 400000 in
theorem isNaN_any (x : Int) (w : World) : Calls Try.prog 112 #[.int .i64 x] w fun e w' => e = .returned (.bool false) ∧ w = w' := by
  have h : (x != x) = false := by simp
  go_enter Try.func112, Try.ntmps112
  go_wp2
  go_ret
  exact ⟨rfl, rfl⟩
set_option maxHeartbeats 800000 in
theorem compare_any (x y : Int) (w : World) : Calls Try.prog 108 #[.int .i64 x, .int .i64 y] w fun e w' => e = .returned (.int .i64 (cmpI x y)) ∧ w = w' := by
  by_cases h1 : x < y
  · have h1' : decide (x < y) = true := by simpa using h1
    have hc := hid (show cmpI x y = -1 from if_pos h1)
    rw [hc.out]
    go_enter Try.func108, Try.ntmps108
    go_wp2_with (go_at_call 112; refine (isNaN_any _ _).mono ?_; rintro e w' ⟨rfl, rfl⟩)
    go_ret
    exact ⟨rfl, rfl⟩
  · have h1' : decide (x < y) = false := by simpa using h1
    by_cases h2 : y < x
    · have h2' : decide (y < x) = true := by simpa using h2
      have hc := hid (show cmpI x y = 1 from by rw [cmpI, if_neg h1, if_pos h2])
      rw [hc.out]
      go_enter Try.func108, Try.ntmps108
      go_wp2_with (go_at_call 112; refine (isNaN_any _ _).mono ?_; rintro e w' ⟨rfl, rfl⟩)
      go_ret
      exact ⟨rfl, rfl⟩
    · have h2' : decide (y < x) = false := by simpa using h2
      have hc := hid (show cmpI x y = 0 from by rw [cmpI, if_neg h1, if_neg h2])
      rw [hc.out]
      go_enter Try.func108, Try.ntmps108
      go_wp2_with (go_at_call 112; refine (isNaN_any _ _).mono ?_; rintro e w' ⟨rfl, rfl⟩)
      go_ret
      exact ⟨rfl, rfl⟩
theorem ret_intL {a b : Int} (h : a = b) : Ending.returned (.int .i64 a) = .returned (.int .i64 b) := by rw [h]

set_option maxHeartbeats 1600000 in
theorem slCompare_any (P Q : Nat → Prop) (a b : Option Addr) (m n c1 c2 : Nat) (xs ys : List Int) (w : World) (hx : Sl Sh.int P w (.slice a m c1) xs) (hy : Sl Sh.int Q w (.slice b n c2) ys) :
    Calls Try.prog 88 #[.slice a m c1, .slice b n c2] w fun e w' => e = .returned (.int .i64 (cmpL xs ys)) ∧ w = w' := by
  have hxl := hid hx.len
  have hyl := hid hy.len
  have hle := hx.le
  have hle2 := hy.le
  go_enter Try.func88, Try.ntmps88
  go_wp2
  go_loop [11] (fun i => ∃ k : Nat, k ≤ m ∧ k ≤ n ∧ i = .int .i64 k ∧ Hid (xs.take k = ys.take k)) (fun i => m - (intOf i).toNat)
  case atStart => exact ⟨0, Nat.zero_le _, Nat.zero_le _, rfl, hid (by simp)⟩
  case round =>
    obtain ⟨k, hk, hk2, rfl, Ht⟩ := hrel
    by_cases hlt : k < m
    · obtain ⟨ba, oa, ha, _, _, hca⟩ := hx.intAt (by omega)
      subst ha
      have h1 := hca k hlt
      clear hca
      by_cases hlt2 : k < n
      · obtain ⟨bb, ob, hb, _, _, hcb⟩ := hy.intAt (by omega)
        subst hb
        have h2 := hcb k hlt2
        clear hcb
        generalize hu : xs.getD k 0 = u at h1
        generalize hv : ys.getD k 0 = v at h2
        have Hu := hid hu; have Hv := hid hv
        clear hu hv
        by_cases huv : u = v
        · have Hst := hid (take_eq_stepE Ht.out (by rw [hxl.out]; exact hlt) (by rw [hyl.out]; exact hlt2) (by rw [Hu.out, Hv.out, huv]))
          have hc : cmpI u v = 0 := by rw [cmpI, if_neg (by omega), if_neg (by omega)]
          have Hc := hid hc
          clear huv hc
          go_wp2_with (go_at_call 108; refine (compare_any _ _ _).mono ?_; rintro e w' ⟨rfl, rfl⟩; rw [Hc.out])
          exact ⟨⟨k + 1, by omega, by omega, rfl, Hst⟩, by simp [intOf]; omega⟩
        · have hc : cmpI u v = cmpL xs ys := by
            have hne : xs.getD k 0 ≠ ys.getD k 0 := by rw [Hu.out, Hv.out]; exact huv
            rw [cmpL_at Ht.out (by rw [hxl.out]; exact hlt) (by rw [hyl.out]; exact hlt2) hne, Hu.out, Hv.out, cmpI]
            by_cases h : u < v
            · rw [if_pos h, if_pos h]
            · rw [if_neg h, if_neg h, if_pos (by omega)]
          have hnz : (cmpI u v != 0) = true := cmpI_ne huv
          have Hc := hid hc
          clear huv hc
          go_wp2_with (go_at_call 108; refine (compare_any _ _ _).mono ?_; rintro e w' ⟨rfl, rfl⟩)
          go_ret
          exact ⟨ret_intL Hc.out, rfl⟩
      · have hkn : k = n := by omega
        subst hkn
        have Hc : Hid (cmpL xs ys = 1) := hid (cmpL_endR (by rw [hyl.out]; exact Ht.out) (by rw [hxl.out, hyl.out]; exact hlt))
        go_wp2
        go_ret
        exact ⟨ret_intL Hc.out.symm, rfl⟩
    · have : k = m := by omega
      subst this
      by_cases hkn : k < n
      · have Hc : Hid (cmpL xs ys = -1) := hid (cmpL_endL (by rw [hxl.out]; exact Ht.out) (by rw [hxl.out, hyl.out]; exact hkn))
        go_wp2
        go_ret
        exact ⟨ret_intL Hc.out.symm, rfl⟩
      · have Hc : Hid (cmpL xs ys = 0) := hid (cmpL_endE (by rw [hxl.out]; exact Ht.out) (by rw [hxl.out, hyl.out]; omega))
        go_wp2
        go_ret
        exact ⟨ret_intL Hc.out.symm, rfl⟩
set_option maxHeartbeats 400000 in
theorem implLex_any (P Q : Nat → Prop) (a b : Option Addr) (m n c1 c2 : Nat) (xs ys : List Int) (w : World) (hx : Sl Sh.int P w (.slice a m c1) xs) (hy : Sl Sh.int Q w (.slice b n c2) ys) :
    Calls Try.prog 42 #[.slice a m c1, .slice b n c2] w fun e w' => e = .returned (.bool (lexB xs ys)) ∧ w = w' := by
  go_enter Try.func42, Try.ntmps42
  go_wp2_with (go_at_call 88; refine (slCompare_any P Q _ _ _ _ _ _ xs ys _ hx hy).mono ?_; rintro e w' ⟨rfl, rfl⟩)
  go_ret
  exact ⟨rfl, rfl⟩
end Go.Proofs.Ytgcpdpbapgkdjaa
