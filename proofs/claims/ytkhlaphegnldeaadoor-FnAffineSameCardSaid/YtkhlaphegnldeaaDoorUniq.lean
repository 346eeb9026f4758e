/- Plain law: the different numbers of a list, counted; no condition. -/
import Derived.Test.YtkhlaphegnldeaaDoorBase
import Derived.Maps.OwnSet
namespace Go.Proofs.YtkhlaphegnldeaaDoor
set_option linter.unusedVariables false
set_option linter.unusedSimpArgs false
open Go.RowKit Go.Maps

def addI (acc : List Int) (x : Int) : List Int := if acc.contains x then acc else acc ++ [x]
/-- The different numbers of xs, in the order of their first occurrence. -/
def uniq (xs : List Int) : List Int := xs.foldl addI []
theorem uniq_snoc (xs : List Int) (x : Int) : uniq (xs ++ [x]) = addI (uniq xs) x := by simp [uniq, List.foldl_append]
theorem mem_addI {acc : List Int} {x y : Int} : y ∈ addI acc x ↔ y ∈ acc ∨ y = x := by
  unfold addI
  split
  · rename_i h
    rw [List.contains_eq_mem, decide_eq_true_iff] at h
    constructor
    · exact .inl
    · rintro (h' | rfl)
      · exact h'
      · exact h
  · simp
theorem mem_foldl_addI (xs : List Int) : ∀ (acc : List Int) (y : Int), y ∈ xs.foldl addI acc ↔ y ∈ acc ∨ y ∈ xs := by
  induction xs with
  | nil => simp
  | cons x xs ih => intro acc y; rw [List.foldl_cons, ih, mem_addI]; simp [or_assoc]
theorem mem_uniq {xs : List Int} {y : Int} : y ∈ uniq xs ↔ y ∈ xs := by simp [uniq, mem_foldl_addI]
theorem contains_uniq (xs : List Int) (y : Int) : (uniq xs).contains y = xs.contains y := by simp only [List.contains_eq_mem, mem_uniq]
theorem uniq_old {xs : List Int} {x : Int} (h : xs.contains x = true) : (uniq (xs ++ [x])).length = (uniq xs).length := by
  rw [uniq_snoc, addI, contains_uniq, h, if_pos rfl]
theorem uniq_fresh {xs : List Int} {x : Int} (h : xs.contains x = false) : (uniq (xs ++ [x])).length = (uniq xs).length + 1 := by
  rw [uniq_snoc, addI, contains_uniq, h, if_neg (by simp), List.length_append, List.length_singleton]
theorem uniq_le (xs : List Int) : (uniq xs).length ≤ xs.length := by
  suffices h : ∀ acc : List Int, (xs.foldl addI acc).length ≤ acc.length + xs.length by simpa [uniq] using h []
  induction xs with
  | nil => simp
  | cons x xs ih =>
    intro acc
    rw [List.foldl_cons, List.length_cons]
    have := ih (addI acc x)
    have h2 : (addI acc x).length ≤ acc.length + 1 := by unfold addI; split <;> simp
    omega
theorem take_snoc {xs : List Int} {k : Nat} (h : k < xs.length) : xs.take (k + 1) = xs.take k ++ [xs[k]?.getD 0] := by
  rw [List.take_succ_eq_append_getElem h, List.getElem?_eq_getElem h]; rfl

/-- The set of a map[int]bool that holds true at each of xs. -/
def setI (xs : List Int) : DataW Unit := setOf (.lit (.bool true)) (xs.map (Lit.int .i64))
theorem setI_nil : setI [] = .map [] := by simp [setI, setOf]
theorem setI_snoc (xs : List Int) (x : Int) : setI (xs ++ [x]) = (setI xs).put (.int .i64 x) (.lit (.bool true)) := by
  unfold setI
  rw [List.map_append, List.map_singleton, setOf_snoc]
theorem sameKey_int (x y : Int) : (Lit.int .i64 y).sameKey (.int .i64 x) = (x == y) := by
  show decide (IntKind.i64 = IntKind.i64 ∧ y = x) = (x == y)
  by_cases e : y = x
  · subst e; simp
  · have e' : ¬ x = y := fun h => e h.symm
    simp [e, e']
theorem any_sameKey (x : Int) : ∀ l : List Int, (l.map (Lit.int .i64)).any (fun y => y.sameKey (.int .i64 x)) = l.contains x
  | [] => rfl
  | a :: r => by rw [List.map_cons, List.any_cons, List.contains_cons, any_sameKey x r, sameKey_int]
theorem foldl_addKey (xs : List Int) : ∀ acc : List Int, (xs.map (Lit.int .i64)).foldl addKey (acc.map (Lit.int .i64)) = (xs.foldl addI acc).map (Lit.int .i64) := by
  induction xs with
  | nil => simp
  | cons x xs ih =>
    intro acc
    rw [List.map_cons, List.foldl_cons, List.foldl_cons, ← ih]
    congr 1
    unfold addKey addI
    rw [any_sameKey]
    split <;> simp
theorem size_setI (xs : List Int) : Maps.size (setI xs) = (uniq xs).length := by
  unfold setI
  rw [size_setOf _ _ (fun x hx => by obtain ⟨_, _, rfl⟩ := List.mem_map.1 hx; trivial)]
  have := foldl_addKey xs []
  rw [List.map_nil] at this
  rw [this, List.length_map]; rfl
end Go.Proofs.YtkhlaphegnldeaaDoor
