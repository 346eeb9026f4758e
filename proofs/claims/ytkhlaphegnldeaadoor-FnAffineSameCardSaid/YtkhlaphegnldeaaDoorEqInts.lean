/- The functions that compare two slices of ints element by element; condition: what the slices hold. -/
import Derived.Test.YtkhlaphegnldeaaDoorOwnI
namespace Go.Proofs.YtkhlaphegnldeaaDoor
set_option linter.unusedVariables false
set_option linter.unusedSimpArgs false
open Go.RowKit

theorem take_eq_stepE {xs ys : List Int} {k : Nat} (hk : xs.take k = ys.take k) (h1 : k < xs.length) (h2 : k < ys.length) (h : xs.getD k 0 = ys.getD k 0) : xs.take (k+1) = ys.take (k+1) := by
  rw [List.take_succ_eq_append_getElem h1, List.take_succ_eq_append_getElem h2, hk]
  simp only [List.getD, List.getElem?_eq_getElem h1, List.getElem?_eq_getElem h2, Option.getD_some] at h
  rw [h]
theorem ne_of_getDE {xs ys : List Int} {k : Nat} (h : ¬ xs.getD k 0 = ys.getD k 0) : xs ≠ ys := fun e => h (by rw [e])
theorem decide_selfE (xs : List Int) : decide (xs = xs) = true := by simp



set_option maxHeartbeats 800000 in
theorem l1Ints_any (P Q : Nat → Prop) (a b : Option Addr) (m n c1 c2 : Nat) (xs ys : List Int) (w : World) (hx : Sl Sh.int P w (.slice a m c1) xs) (hy : Sl Sh.int Q w (.slice b n c2) ys) :
    Calls Tryd.prog 20 #[.slice a m c1, .slice b n c2] w fun e w' => e = .returned (.bool (decide (xs = ys))) ∧ Quiet w w' := by
  have hxl := hid hx.len
  have hyl := hid hy.len
  by_cases hmn : m = n
  · subst hmn
    have hle := hx.le
    go_enter Tryd.func20, Tryd.ntmps20
    go_wp2
    go_loopw [5] (fun i wr => ∃ k : Nat, k ≤ m ∧ i = .int .i64 k ∧ Hid (xs.take k = ys.take k) ∧ Quiet w wr) (fun i _ => m - (intOf i).toNat)
    case atStart => exact ⟨0, Nat.zero_le _, rfl, hid (by simp), Quiet.refl w⟩
    case round =>
      obtain ⟨k, hk, rfl, Ht, hq⟩ := hrel
      by_cases hlt : k < m
      · obtain ⟨ba, oa, ha, _, _, hca⟩ := (hx.quiet hq).intAt (by omega)
        obtain ⟨bb, ob, hb, _, _, hcb⟩ := (hy.quiet hq).intAt (by omega)
        subst ha hb
        have h1 := hca k hlt
        have h2 := hcb k hlt
        clear hca hcb
        generalize hu : xs.getD k 0 = u at h1
        generalize hv : ys.getD k 0 = v at h2
        have Hu := hid hu; have Hv := hid hv
        clear hu hv
        cases he : (u != v)
        · have hee : u = v := by simpa using he
          have Hst := hid (take_eq_stepE Ht.out (by rw [hxl.out]; exact hlt) (by rw [hyl.out]; exact hlt) (by rw [Hu.out, Hv.out, hee]))
          clear hee
          go_wp2
          go_quiet (fail)
          go_wp2
          exact ⟨⟨k + 1, by omega, rfl, Hst, hq.drewN⟩, by simp [intOf]; omega⟩
        · have hne : u ≠ v := by simpa using he
          have Hne := hid (ne_of_getDE (xs := xs) (ys := ys) (k := k) (by rw [Hu.out, Hv.out]; exact hne))
          clear hne
          go_wp2
          go_quiet (fail)
          go_wp2
          go_ret
          exact ⟨ret_bool (decide_eq_false Hne.out).symm, hq.drewN⟩
      · have : k = m := by omega
        subst this
        go_wp2
        go_ret
        exact ⟨ret_bool (by have h := Ht.out; rw [List.take_of_length_le (by rw [hxl.out]; omega), List.take_of_length_le (by rw [hyl.out]; omega)] at h; exact (decide_eq_true h).symm), hq⟩
  · have hne : (((m : Int) != (n : Int)) = true) := by simp; omega
    go_enter Tryd.func20, Tryd.ntmps20
    go_wp2
    go_ret
    exact ⟨ret_bool (decide_eq_false (fun e => hmn (by rw [← hxl.out, ← hyl.out, e]))).symm, Quiet.refl _⟩
end Go.Proofs.YtkhlaphegnldeaaDoor
