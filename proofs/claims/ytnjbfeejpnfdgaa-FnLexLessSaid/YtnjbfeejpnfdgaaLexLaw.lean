/- Plain law: the lexicographic order of lists of numbers is a strict total order; no condition. -/
import Derived.Test.YtnjbfeejpnfdgaaBase
namespace Go.Proofs.Ytnjbfeejpnfdgaa

def cmpL : List Int → List Int → Int
  | [], [] => 0
  | [], _ :: _ => -1
  | _ :: _, [] => 1
  | x :: xs, y :: ys => if x < y then -1 else if y < x then 1 else cmpL xs ys
def lexB (xs ys : List Int) : Bool := decide (cmpL xs ys < 0)
theorem cmpL_self : ∀ xs, cmpL xs xs = 0
  | [] => rfl
  | x :: xs => by rw [cmpL, if_neg (by omega), if_neg (by omega), cmpL_self xs]
theorem cmpL_anti : ∀ xs ys, cmpL ys xs = - cmpL xs ys
  | [], [] => rfl
  | [], _ :: _ => rfl
  | _ :: _, [] => rfl
  | x :: xs, y :: ys => by
    rw [cmpL, cmpL, cmpL_anti xs ys]
    by_cases h1 : x < y
    · rw [if_neg (by omega), if_pos h1, if_pos h1]; rfl
    · by_cases h2 : y < x
      · rw [if_pos h2, if_neg h1, if_pos h2]
      · rw [if_neg h2, if_neg h1, if_neg h1, if_neg h2]
theorem cmpL_zero : ∀ xs ys, cmpL xs ys = 0 → xs = ys
  | [], [], _ => rfl
  | [], _ :: _, h => by simp [cmpL] at h
  | _ :: _, [], h => by simp [cmpL] at h
  | x :: xs, y :: ys, h => by
    rw [cmpL] at h
    by_cases h1 : x < y
    · rw [if_pos h1] at h; omega
    · by_cases h2 : y < x
      · rw [if_neg h1, if_pos h2] at h; omega
      · rw [if_neg h1, if_neg h2] at h
        rw [cmpL_zero xs ys h, show x = y by omega]
theorem cmpL_trans : ∀ xs ys zs, cmpL xs ys < 0 → cmpL ys zs < 0 → cmpL xs zs < 0
  | [], [], [], h1, _ => by simp [cmpL] at h1
  | [], _ :: _, [], _, h2 => by simp [cmpL] at h2
  | [], _, _ :: _, _, _ => by simp [cmpL]
  | _ :: _, [], _, h1, _ => by simp [cmpL] at h1
  | _ :: _, _ :: _, [], _, h2 => by simp [cmpL] at h2
  | x :: xs, y :: ys, z :: zs, h1, h2 => by
    rw [cmpL] at h1 h2 ⊢
    by_cases a1 : x < y
    · by_cases b1 : y < z
      · rw [if_pos (by omega)]; omega
      · by_cases b2 : z < y
        · rw [if_neg b1, if_pos b2] at h2; omega
        · rw [if_pos (by omega)]; omega
    · by_cases a2 : y < x
      · rw [if_neg a1, if_pos a2] at h1; omega
      · rw [if_neg a1, if_neg a2] at h1
        by_cases b1 : y < z
        · rw [if_pos (by omega)]; omega
        · by_cases b2 : z < y
          · rw [if_neg b1, if_pos b2] at h2; omega
          · rw [if_neg b1, if_neg b2] at h2
            rw [if_neg (by omega), if_neg (by omega)]
            exact cmpL_trans xs ys zs h1 h2
/-- Behind a common beginning. -/
theorem cmpL_drop {xs ys : List Int} : ∀ {k : Nat}, xs.take k = ys.take k → k ≤ xs.length → k ≤ ys.length → cmpL xs ys = cmpL (xs.drop k) (ys.drop k) := by
  intro k
  induction k generalizing xs ys with
  | zero => intros; simp
  | succ k ih =>
    intro h h1 h2
    cases xs with
    | nil => simp at h1
    | cons x xs =>
      cases ys with
      | nil => simp at h2
      | cons y ys =>
        simp only [List.take_succ_cons, List.cons.injEq] at h
        obtain ⟨rfl, h⟩ := h
        rw [List.drop_succ_cons, List.drop_succ_cons, cmpL, if_neg (by omega), if_neg (by omega)]
        exact ih h (by simpa using h1) (by simpa using h2)
theorem cmpL_at {xs ys : List Int} {k : Nat} (h : xs.take k = ys.take k) (h1 : k < xs.length) (h2 : k < ys.length) (hne : xs.getD k 0 ≠ ys.getD k 0) : cmpL xs ys = if xs.getD k 0 < ys.getD k 0 then -1 else 1 := by
  rw [cmpL_drop h (by omega) (by omega), List.drop_eq_getElem_cons h1, List.drop_eq_getElem_cons h2, cmpL]
  simp only [List.getD, List.getElem?_eq_getElem h1, List.getElem?_eq_getElem h2, Option.getD_some] at hne ⊢
  by_cases a : xs[k] < ys[k]
  · rw [if_pos a, if_pos a]
  · rw [if_neg a, if_neg a, if_pos (by omega)]
theorem cmpL_endL {xs ys : List Int} (h : xs.take xs.length = ys.take xs.length) (h2 : xs.length < ys.length) : cmpL xs ys = -1 := by
  rw [cmpL_drop h (Nat.le_refl _) (by omega), List.drop_length, List.drop_eq_getElem_cons h2]; rfl
theorem cmpL_endR {xs ys : List Int} (h : xs.take ys.length = ys.take ys.length) (h2 : ys.length < xs.length) : cmpL xs ys = 1 := by
  rw [cmpL_drop h (by omega) (Nat.le_refl _), List.drop_length, List.drop_eq_getElem_cons h2]; rfl
theorem cmpL_endE {xs ys : List Int} (h : xs.take xs.length = ys.take xs.length) (h2 : xs.length = ys.length) : cmpL xs ys = 0 := by
  rw [List.take_length, h2, List.take_length] at h
  rw [h, cmpL_self]
end Go.Proofs.Ytnjbfeejpnfdgaa
