/- Plain law: a cache that keeps the cells used last holds the top of their stack; no condition. -/
import Derived.Test.YtnjbfeejpnfdgaaStackLaw
namespace Go.Proofs.Ytnjbfeejpnfdgaa

/-- What a cache of a size holds behind the use of a cell, the cell used last at the end. -/
def lruStep (size : Nat) (h : List Int) (x : Int) : List Int :=
  let h1 := (if x ∈ h then h.eraseIdx (h.idxOf x) else h) ++ [x]
  if size < h1.length then h1.drop 1 else h1
def lruTop (size : Nat) (st : List Int) : List Int := (st.take size).reverse
theorem nodup_sub {l m : List Int} (h : l.Nodup) (s : m.Sublist l) : m.Nodup := List.Nodup.sublist s h
theorem erase_others {t : List Int} (hn : t.Nodup) (x : Int) : (if x ∈ t.reverse then t.reverse.eraseIdx (t.reverse.idxOf x) else t.reverse) = (others t x).reverse := by
  have hr : t.reverse.Nodup := by unfold List.Nodup at hn ⊢; rw [List.pairwise_reverse]; exact hn.imp (fun h e => h e.symm)
  have e : t.reverse.erase x = (others t x).reverse := by
    rw [hr.erase_eq_filter, others, ← List.filter_reverse]
    apply List.filter_congr
    intro y _
    by_cases h : y = x <;> simp [h]
  split
  · rename_i h
    rw [← e, List.erase_eq_eraseIdx_of_idxOf rfl]
  · rename_i h
    rw [← e, List.erase_of_not_mem h]
theorem others_append (a b : List Int) (x : Int) : others (a ++ b) x = others a x ++ others b x := by simp [others]
theorem others_not {t : List Int} {x : Int} (h : x ∉ t) : others t x = t := by
  rw [others, List.filter_eq_self]
  intro y hy
  simp
  exact fun e => h (e ▸ hy)
theorem others_mem_len {t : List Int} (hn : t.Nodup) {x : Int} (h : x ∈ t) : (others t x).length + 1 = t.length := by
  have e : t.erase x = others t x := by
    rw [hn.erase_eq_filter, others]
    apply List.filter_congr
    intro y _
    by_cases h : y = x <;> simp [h]
  have hp := List.length_pos_of_mem h
  rw [← e, List.length_erase_of_mem h]; omega
theorem lru_step (size : Nat) {st : List Int} (hn : st.Nodup) (x : Int) : lruStep size (lruTop size st) x = lruTop size (x :: others st x) := by
  have hT : (st.take size).Nodup := nodup_sub hn (List.take_sublist _ _)
  have hlT : (st.take size).length ≤ size := List.length_take_le _ _
  have hO : others st x = others (st.take size) x ++ others (st.drop size) x := by rw [← others_append, List.take_append_drop]
  have hR : (st.take size).length = size ∨ st.drop size = [] := by
    rw [List.length_take, List.drop_eq_nil_iff]; omega
  unfold lruStep lruTop
  rw [erase_others hT, hO]
  generalize hTT : st.take size = T at *
  generalize st.drop size = R at *
  have e1 : (others T x).reverse ++ [x] = (x :: others T x).reverse := by rw [List.reverse_cons]
  have hk : (others T x).length ≤ T.length := others_le T x
  simp only [e1]
  rw [List.length_reverse, List.length_cons]
  by_cases hgt : size < (others T x).length + 1
  · rw [if_pos hgt]
    have hks : (others T x).length = size := by omega
    rw [← List.reverse_reverse (List.drop 1 _)]
    congr 1
    rw [List.reverse_drop, List.reverse_reverse, List.length_reverse, List.length_cons, hks, Nat.add_sub_cancel]
    rw [← List.cons_append, List.take_append_of_le_length (by rw [List.length_cons]; omega)]
  · rw [if_neg hgt]
    congr 1
    rcases hR with h | h
    · by_cases hm : x ∈ T
      · have := others_mem_len hT hm
        rw [← List.cons_append, List.take_append_of_le_length (by rw [List.length_cons]; omega), List.take_of_length_le (by rw [List.length_cons]; omega)]
      · rw [others_not hm] at hgt; omega
    · subst h
      rw [show others [] x = [] from rfl, List.append_nil, List.take_of_length_le (by rw [List.length_cons]; omega)]

/-- Is an access at this distance a miss? -/
def isMiss (size d : Int) : Bool := decide (d < 0) || decide (size ≤ d)
theorem miss_iff {st : List Int} (_ : st.Nodup) (size : Nat) (x : Int) : isMiss size (posIn st x) = !decide (x ∈ lruTop size st) := by
  have hm : x ∈ lruTop size st ↔ x ∈ st ∧ st.idxOf x < size := by
    rw [lruTop, List.mem_reverse]
    constructor
    · intro h
      refine ⟨List.mem_of_mem_take h, ?_⟩
      have := List.idxOf_lt_length_of_mem h
      have e : st.idxOf x = (st.take size).idxOf x := by
        conv => lhs; rw [← List.take_append_drop size st]
        rw [List.idxOf_append, if_pos h]
      rw [e]
      exact Nat.lt_of_lt_of_le this (List.length_take_le _ _)
    · rintro ⟨h1, h2⟩
      rw [List.mem_take_iff_getElem]
      exact ⟨st.idxOf x, by have := List.idxOf_lt_length_of_mem h1; omega, List.getElem_idxOf _⟩
  unfold isMiss posIn
  by_cases h : x ∈ st
  · rw [if_pos h]
    by_cases h2 : st.idxOf x < size
    · have : x ∈ lruTop size st := hm.2 ⟨h, h2⟩
      simp [this]; omega
    · have : x ∉ lruTop size st := fun hc => h2 (hm.1 hc).2
      simp [this]; omega
  · rw [if_neg h]
    have : x ∉ lruTop size st := fun hc => h (hm.1 hc).1
    simp [this]
def misses (size : Int) (ds : List Int) : Nat := (ds.filter (isMiss size)).length
theorem misses_snoc (size : Int) (ds : List Int) (d : Int) : misses size (ds ++ [d]) = misses size ds + (isMiss size d).toNat := by
  unfold misses
  rw [List.filter_append, List.length_append]
  cases h : isMiss size d <;> simp [List.filter_cons, h]
theorem misses_le (size : Int) (ds : List Int) : misses size ds ≤ ds.length := List.length_filter_le _ _
end Go.Proofs.Ytnjbfeejpnfdgaa
