/- Plain law: positions in a stack of the cells used last are the numbers of different cells since; no condition. -/
import Derived.Test.YtnjbfeejpnfdgaaUniq
namespace Go.Proofs.Ytnjbfeejpnfdgaa

theorem nodup_len : ∀ {l m : List Int}, l.Nodup → (∀ x ∈ l, x ∈ m) → l.length ≤ m.length
  | [], _, _, _ => Nat.zero_le _
  | a :: l, m, hn, hs => by
    have ha : a ∈ m := hs a (List.mem_cons_self ..)
    have hn' := List.nodup_cons.1 hn
    have := nodup_len (l := l) (m := m.erase a) hn'.2 (fun x hx => (List.mem_erase_of_ne (fun e : x = a => hn'.1 (e ▸ hx))).2 (hs x (List.mem_cons_of_mem _ hx)))
    rw [List.length_erase_of_mem ha] at this
    have hp : 0 < m.length := List.length_pos_of_mem ha
    rw [List.length_cons]
    omega
theorem nodup_len_eq {l m : List Int} (hl : l.Nodup) (hm : m.Nodup) (h : ∀ x, x ∈ l ↔ x ∈ m) : l.length = m.length :=
  Nat.le_antisymm (nodup_len hl fun x hx => (h x).1 hx) (nodup_len hm fun x hx => (h x).2 hx)

theorem nodup_addI {acc : List Int} {x : Int} (h : acc.Nodup) : (addI acc x).Nodup := by
  unfold addI
  split
  · exact h
  · rename_i hc
    rw [List.contains_eq_mem, decide_eq_true_iff] at hc
    rw [List.nodup_append]
    refine ⟨h, by simp, fun a ha b hb => ?_⟩
    rw [List.mem_singleton] at hb
    subst hb
    exact fun e => hc (e ▸ ha)
theorem nodup_uniq (xs : List Int) : (uniq xs).Nodup := by
  suffices h : ∀ acc : List Int, acc.Nodup → (xs.foldl addI acc).Nodup from h [] List.nodup_nil
  induction xs with
  | nil => exact fun _ h => h
  | cons x xs ih => exact fun acc h => ih _ (nodup_addI h)

/-- The cells of xs, the one used last first. -/
def stk (xs : List Int) : List Int := xs.foldl (fun st x => x :: st.filter (fun y => decide (y ≠ x))) []
theorem stk_snoc (xs : List Int) (x : Int) : stk (xs ++ [x]) = x :: (stk xs).filter (fun y => decide (y ≠ x)) := by simp [stk, List.foldl_append]
theorem stk_nil : stk [] = [] := rfl
theorem snoc_ind {P : List Int → Prop} (h0 : P []) (h1 : ∀ xs x, P xs → P (xs ++ [x])) (xs : List Int) : P xs := by
  have : ∀ ys : List Int, P ys.reverse := by
    intro ys
    induction ys with
    | nil => exact h0
    | cons y ys ih => rw [List.reverse_cons]; exact h1 _ _ ih
  have h := this xs.reverse
  rwa [List.reverse_reverse] at h
theorem mem_stk (xs : List Int) : ∀ y, y ∈ stk xs ↔ y ∈ xs := by
  induction xs using snoc_ind with
  | h0 => simp [stk]
  | h1 xs x ih =>
    intro y
    rw [stk_snoc, List.mem_cons, List.mem_filter, ih, List.mem_append, List.mem_singleton]
    by_cases e : y = x <;> simp [e]
theorem nodup_stk (xs : List Int) : (stk xs).Nodup := by
  induction xs using snoc_ind with
  | h0 => exact List.nodup_nil
  | h1 xs x ih =>
    rw [stk_snoc, List.nodup_cons]
    exact ⟨by simp, ih.filter _⟩
theorem stk_append (xs : List Int) (zs : List Int) : stk (xs ++ zs) = stk zs ++ (stk xs).filter (fun y => decide (y ∉ zs)) := by
  induction zs using snoc_ind with
  | h0 => rw [List.append_nil, stk_nil, List.nil_append, List.filter_eq_self.2 (by simp)]
  | h1 zs z ih =>
    rw [← List.append_assoc, stk_snoc, stk_snoc, ih, List.filter_append, List.filter_filter, List.cons_append]
    congr 2
    apply List.filter_congr
    intro y _
    by_cases h1 : y ∈ zs <;> by_cases h2 : y = z <;> simp [h1, h2]
theorem stk_len (zs : List Int) : (stk zs).length = (uniq zs).length :=
  nodup_len_eq (nodup_stk zs) (nodup_uniq zs) fun x => by rw [mem_stk, mem_uniq]
theorem stk_le (zs : List Int) : (stk zs).length ≤ zs.length := by rw [stk_len]; exact uniq_le zs
theorem uniq_reverse (zs : List Int) : (uniq zs.reverse).length = (uniq zs).length :=
  nodup_len_eq (nodup_uniq _) (nodup_uniq _) fun x => by rw [mem_uniq, mem_uniq, List.mem_reverse]

/-- The position of x in the stack, -1 if it is not there. -/
def posIn (st : List Int) (x : Int) : Int := if x ∈ st then (st.idxOf x : Int) else -1
/-- The i-th stack distance of xs. -/
def sd (xs : List Int) (i : Nat) : Int := posIn (stk (xs.take i)) (xs[i]?.getD 0)
def sds (xs : List Int) (n : Nat) : List Int := (List.range n).map (sd xs)
theorem sds_succ (xs : List Int) (n : Nat) : sds xs (n + 1) = sds xs n ++ [sd xs n] := by simp [sds, List.range_succ]
theorem sds_length (xs : List Int) (n : Nat) : (sds xs n).length = n := by simp [sds]

theorem posIn_none {st : List Int} {x : Int} (h : x ∉ st) : posIn st x = -1 := if_neg h
theorem posIn_at {st : List Int} {x : Int} {p : Nat} (hn : st.Nodup) (hp : p < st.length) (h : st[p]?.getD 0 = x) : posIn st x = p := by
  rw [List.getElem?_eq_getElem hp] at h
  simp only [Option.getD_some] at h
  have hm : x ∈ st := h ▸ List.getElem_mem hp
  rw [posIn, if_pos hm]
  congr 1
  subst h
  exact hn.idxOf_getElem p hp
theorem sd_fresh {ys : List Int} {x : Int} (h : x ∉ ys) : posIn (stk ys) x = -1 := posIn_none (fun hm => h ((mem_stk ys x).1 hm))
theorem idxOf_app (x : Int) (m : List Int) : ∀ l : List Int, x ∉ l → (l ++ x :: m).idxOf x = l.length
  | [], _ => by simp
  | a :: l, h => by
    rw [List.cons_append, List.idxOf_cons, idxOf_app x m l (fun hm => h (List.mem_cons_of_mem _ hm)), List.length_cons]
    have : (a == x) = false := by simp; exact fun e => h (e ▸ List.mem_cons_self ..)
    rw [this]; rfl
theorem sd_old {ys zs : List Int} {x : Int} (h : x ∉ zs) : posIn (stk (ys ++ x :: zs)) x = (uniq zs.reverse).length := by
  rw [show ys ++ x :: zs = (ys ++ [x]) ++ zs by simp, stk_append, stk_snoc, uniq_reverse, ← stk_len]
  rw [List.filter_cons, if_pos (by simpa using h)]
  rw [posIn, if_pos (by simp), idxOf_app _ _ _ (fun hm => h ((mem_stk zs x).1 hm))]
theorem posIn_nil (x : Int) : posIn [] x = -1 := posIn_none (by simp)
theorem posIn_hit {st : List Int} {x : Int} {j : Nat} (hn : st.Nodup) (hj : j < st.length) (h : (st[j]?.getD 0 == x) = true) : posIn (st.take (j + 1)) x = j :=
  posIn_at (List.Nodup.sublist (List.take_sublist _ _) hn) (by rw [List.length_take]; omega) (by rw [List.getElem?_take, if_pos (by omega)]; exact beq_iff_eq.1 h)
theorem posIn_miss {st : List Int} {x : Int} {j : Nat} (hj : j < st.length) (h : (st[j]?.getD 0 == x) = false) : posIn (st.take (j + 1)) x = posIn (st.take j) x := by
  rw [take_snoc hj]
  have hne : x ≠ st[j]?.getD 0 := fun e => by rw [← e] at h; simp at h
  unfold posIn
  by_cases hm : x ∈ st.take j
  · rw [if_pos hm, if_pos (by simp [hm]), List.idxOf_append, if_pos hm]
  · rw [if_neg hm, if_neg (by simp [hm]; exact hne)]
def others (st : List Int) (x : Int) : List Int := st.filter (fun y => decide (y ≠ x))
theorem others_hit {st : List Int} {x : Int} {j : Nat} (hj : j < st.length) (h : (st[j]?.getD 0 == x) = true) : others (st.take (j + 1)) x = others (st.take j) x := by
  rw [take_snoc hj, others, List.filter_append, List.filter_cons, if_neg (by simpa using h)]; simp [others]
theorem others_miss {st : List Int} {x : Int} {j : Nat} (hj : j < st.length) (h : (st[j]?.getD 0 == x) = false) : others (st.take (j + 1)) x = others (st.take j) x ++ [st[j]?.getD 0] := by
  rw [take_snoc hj, others, List.filter_append, List.filter_cons, if_pos (by simpa using h)]; simp [others]
theorem others_le (st : List Int) (x : Int) : (others st x).length ≤ st.length := List.length_filter_le _ _
end Go.Proofs.Ytnjbfeejpnfdgaa
