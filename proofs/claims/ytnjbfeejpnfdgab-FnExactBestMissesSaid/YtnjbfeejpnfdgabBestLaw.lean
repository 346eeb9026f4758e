/- Plain law: the first of the greatest; no condition. -/
import Derived.Test.YtnjbfeejpnfdgabSlInt
namespace Go.Proofs.Ytnjbfeejpnfdgab

/-- When c is next used in ts; behind all of ts if it is not used. -/
def nextIn (ts : List Int) (c : Int) : Int := if idx ts c < 0 then (ts.length : Int) else idx ts c
theorem idx_bd (ts : List Int) (c : Int) : (idx ts c = -1 ∧ c ∉ ts) ∨ (0 ≤ idx ts c ∧ idx ts c < ts.length) := by
  unfold idx
  split
  · rename_i h
    have := List.idxOf_lt_length_of_mem h
    right; omega
  · rename_i h
    exact .inl ⟨rfl, h⟩
theorem nextIn_bd (ts : List Int) (c : Int) : 0 ≤ nextIn ts c ∧ nextIn ts c ≤ ts.length := by
  unfold nextIn
  rcases idx_bd ts c with ⟨h, _⟩ | h
  · rw [if_pos (by omega)]; omega
  · rw [if_neg (by omega)]; omega
/-- The first of the greatest among the first k. -/
def bestOf (f : Nat → Int) : Nat → Nat
  | 0 => 0
  | k + 1 => if k = 0 then 0 else if f k > f (bestOf f k) then k else bestOf f k
theorem bestOf_lt (f : Nat → Int) : ∀ k, 0 < k → bestOf f k < k
  | 0, h => absurd h (by omega)
  | k + 1, _ => by
    rw [bestOf]
    by_cases h : k = 0
    · rw [if_pos h]; omega
    · rw [if_neg h]
      have := bestOf_lt f k (by omega)
      split <;> omega
theorem bestOf_ge (f : Nat → Int) : ∀ k j, j < k → f j ≤ f (bestOf f k)
  | 0, _, h => absurd h (by omega)
  | k + 1, j, h => by
    rw [bestOf]
    by_cases hk : k = 0
    · rw [if_pos hk]
      have : j = 0 := by omega
      rw [this]; exact Int.le_refl _
    · rw [if_neg hk]
      by_cases hjk : j = k
      · subst hjk
        split
        · exact Int.le_refl _
        · omega
      · have := bestOf_ge f k j (by omega)
        split
        · omega
        · exact this
theorem bestOf_first (f : Nat → Int) : ∀ k j, j < bestOf f k → f j < f (bestOf f k)
  | 0, _, h => absurd h (by simp [bestOf])
  | k + 1, j, h => by
    rw [bestOf] at h ⊢
    by_cases hk : k = 0
    · rw [if_pos hk] at h; omega
    · rw [if_neg hk] at h ⊢
      by_cases hgt : f k > f (bestOf f k)
      · rw [if_pos hgt] at h ⊢
        have := bestOf_ge f k j h
        omega
      · rw [if_neg hgt] at h ⊢
        exact bestOf_first f k j h
/-- Nothing passes the first that reaches the top. -/
theorem bestOf_top (f : Nat → Int) (n d : Nat) (hd : d < n) (h1 : ∀ j, j < n → f j ≤ f d) (h2 : ∀ j, j < d → f j < f d) : bestOf f n = d := by
  have a1 := bestOf_lt f n (by omega)
  have a2 := bestOf_ge f n d hd
  have a3 := h1 _ a1
  rcases Nat.lt_trichotomy (bestOf f n) d with h | h | h
  · have := h2 _ h; omega
  · exact h
  · have := bestOf_first f n d h; omega
/-- What a cache of a size holds behind the use of cell i of xs; the miss counts. -/
def bmDrop (xs : List Int) (i : Nat) (h : List Int) : Nat := bestOf (fun j => nextIn (xs.drop (i + 1)) (h.getD j 0)) h.length
def bmStep (xs : List Int) (size : Int) (s : List Int × Int) (i : Nat) : List Int × Int :=
  if xs.getD i 0 ∈ s.1 then s
  else if (s.1.length : Int) + 1 ≤ size then (s.1 ++ [xs.getD i 0], s.2 + 1)
  else ((s.1 ++ [xs.getD i 0]).eraseIdx (bmDrop xs i (s.1 ++ [xs.getD i 0])), s.2 + 1)
def bm (xs : List Int) (size : Int) : Nat → List Int × Int
  | 0 => ([], 0)
  | i + 1 => bmStep xs size (bm xs size i) i
theorem bm_bd (xs : List Int) (size : Int) : ∀ i, (bm xs size i).1.length ≤ i ∧ 0 ≤ (bm xs size i).2 ∧ (bm xs size i).2 ≤ i
  | 0 => by simp [bm]
  | i + 1 => by
    have h := bm_bd xs size i
    rw [bm, bmStep]
    split
    · omega
    · split
      · simp; omega
      · have := List.length_eraseIdx_le ((bm xs size i).1 ++ [xs.getD i 0]) (bmDrop xs i ((bm xs size i).1 ++ [xs.getD i 0]))
        simp at this ⊢; omega
theorem bmDrop_lt (xs : List Int) (i : Nat) {h : List Int} (hh : 0 < h.length) : bmDrop xs i h < h.length := bestOf_lt _ _ hh
end Go.Proofs.Ytnjbfeejpnfdgab
