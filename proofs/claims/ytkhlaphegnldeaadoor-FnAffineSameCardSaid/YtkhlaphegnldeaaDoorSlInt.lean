/- Functions of the library over slices of ints: Index, Delete of one element; condition: what the slices hold. -/
import Derived.Test.YtkhlaphegnldeaaDoorOwnI
import Derived.Test.YtkhlaphegnldeaaDoorUniq
import Derived.Deep.RegionLaw
import Derived.Lib.SliceRun
import Derived.Shelf.Abstract
namespace Go.Proofs.YtkhlaphegnldeaaDoor
set_option linter.unusedVariables false
set_option linter.unusedSimpArgs false
open Go.RowKit

/-- The place of the first element that p holds of, or -1. -/
def findI (p : Int → Bool) (xs : List Int) : Int := if xs.any p then (xs.findIdx p : Int) else -1
theorem findI_none {p : Int → Bool} {xs : List Int} (h : ∀ x ∈ xs, p x = false) : findI p xs = -1 := by
  rw [findI, if_neg]
  rw [List.any_eq_true]
  rintro ⟨x, hx, hp⟩
  rw [h x hx] at hp
  cases hp
theorem findI_hit {p : Int → Bool} {xs : List Int} {k : Nat} (h : ∀ x ∈ xs.take k, p x = false) (hk : k < xs.length) (hp : p (xs.getD k 0) = true) : findI p xs = k := by
  rw [List.getD, List.getElem?_eq_getElem hk] at hp
  simp only [Option.getD_some] at hp
  rw [findI, if_pos (List.any_eq_true.2 ⟨_, List.getElem_mem hk, hp⟩)]
  congr 1
  rw [List.findIdx_eq hk]
  refine ⟨hp, fun j hj => h _ ?_⟩
  rw [List.mem_take_iff_getElem]
  exact ⟨j, by omega, rfl⟩
theorem take_step {p : Int → Bool} {xs : List Int} {k : Nat} (h : ∀ x ∈ xs.take k, p x = false) (hk : k < xs.length) (hp : p (xs.getD k 0) = false) : ∀ x ∈ xs.take (k + 1), p x = false := by
  intro x hx
  rw [List.take_succ_eq_append_getElem hk, List.mem_append, List.mem_singleton] at hx
  rcases hx with hx | rfl
  · exact h x hx
  · rw [List.getD, List.getElem?_eq_getElem hk] at hp
    exact hp

set_option maxHeartbeats 400000 in
theorem indexFunc_any (P : Nat → Prop) (g : Nat) (lb : Array Value) (eg : ∀ args w, (callFunc g args).run Tryd.prog w = .ok (.enter g args) w) (p : Int → Bool) (a : Option Addr) (n c : Nat) (xs : List Int) (w : World) (hx : Sl Sh.int P w (.slice a n c) xs)
    (hp : ∀ x, Calls Tryd.prog g (#[.int .i64 x] ++ lb) w fun e w' => e = .returned (.bool (p x)) ∧ w = w') :
    Calls Tryd.prog 44 #[.slice a n c, .func (.func g) #[] lb] w fun e w' => e = .returned (.int .i64 (findI p xs)) ∧ w = w' := by
  have hle := hx.le
  have hlen := hx.len
  have Hp := hid hp; clear hp
  have Hlen := hid hlen; clear hlen
  go_enter Tryd.func44, Tryd.ntmps44
  go_wp2
  go_loop [5, 8] (fun _ i => ∃ k : Nat, k ≤ n ∧ i = .int .i64 k ∧ Hid (∀ x ∈ xs.take k, p x = false)) (fun _ i => n - (intOf i).toNat)
  case atStart => exact ⟨0, Nat.zero_le _, rfl, hid (by simp)⟩
  case round =>
    obtain ⟨k, hk, rfl, ht⟩ := hrel
    by_cases hlt : k < n
    · obtain ⟨ba, oa, ha, _, _, hca⟩ := hx.intAt (by omega)
      subst ha
      have h1 := hca k hlt
      generalize hy : xs.getD k 0 = y at h1
      have Hy := hid hy; clear hy hca
      have hcall := Hp.out y
      have hltz : (k : Int) < (n : Int) := by omega
      cases hq : p y with
      | true =>
        rw [hq] at hcall
        have Hq := hid hq; clear hq
        have Hc := hid hcall; clear hcall
        go_wp2_with (go_at_fn g; refine Hc.out.mono ?_; rintro e w' ⟨rfl, rfl⟩)
        go_ret
        exact ⟨ret_int (findI_hit ht.out (by rw [Hlen.out]; exact hlt) (by rw [Hy.out]; exact Hq.out)).symm, rfl⟩
      | false =>
        rw [hq] at hcall
        have Hq := hid hq; clear hq
        have Hc := hid hcall; clear hcall
        go_wp2_with (go_at_fn g; refine Hc.out.mono ?_; rintro e w' ⟨rfl, rfl⟩)
        exact ⟨⟨k + 1, by omega, rfl, hid (take_step ht.out (by rw [Hlen.out]; exact hlt) (by rw [Hy.out]; exact Hq.out))⟩, by simp [intOf]; omega⟩
    · have : k = n := by omega
      subst this
      go_wp2
      go_ret
      exact ⟨ret_int (findI_none (by have h := ht.out; rw [List.take_of_length_le (by rw [Hlen.out]; omega)] at h; exact h)).symm, rfl⟩


end Go.Proofs.YtkhlaphegnldeaaDoor
