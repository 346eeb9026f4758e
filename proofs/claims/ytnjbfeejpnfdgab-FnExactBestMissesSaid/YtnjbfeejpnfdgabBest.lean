/- spec.BestMisses and impl.BestMisses; condition: what the slice holds. -/
import Derived.Test.YtnjbfeejpnfdgabBestLaw
import Derived.Test.YtnjbfeejpnfdgabHas
import Derived.Test.YtnjbfeejpnfdgabFits
namespace Go.Proofs.Ytnjbfeejpnfdgab
open Go.RowKit

set_option maxHeartbeats 400000 in
theorem contains_any (P : Nat → Prop) (a : Option Addr) (n c : Nat) (x : Int) (xs : List Int) (w : World) (hx : Sl Sh.int P w (.slice a n c) xs) :
    Calls Try.prog 12 #[.slice a n c, .int .i64 x] w fun e w' => e = .returned (.bool (decide (x ∈ xs))) ∧ w = w' := by
  have hd : decide (0 ≤ idx xs x) = decide (x ∈ xs) := by
    unfold idx
    by_cases h : x ∈ xs
    · simp [h]
    · simp [h]
  have Hd := hid hd; clear hd
  go_enter Try.func12, Try.ntmps12
  go_wp2_with (go_at_call 13; refine (index_any P _ _ _ x xs _ hx).mono ?_; rintro e w' ⟨rfl, rfl⟩)
  go_ret
  exact ⟨ret_bool Hd.out, rfl⟩

set_option maxHeartbeats 800000 in
theorem l10Next_any (P : Nat → Prop) (a : Option Addr) (n c k : Nat) (x fr : Int) (xs : List Int) (w : World) (hx : Sl Sh.int P w (.slice a n c) xs) (hk : k ≤ n) (hfr : fr = k) :
    Calls Try.prog 10 #[.slice a n c, .int .i64 fr, .int .i64 x] w fun e w' => e = .returned (.int .i64 ((k : Int) + nextIn (xs.drop k) x)) ∧ w = w' := by
  subst hfr
  have hle := hx.le
  have hlen := hid hx.len
  have hdl : (xs.drop k).length = n - k := by rw [List.length_drop, hlen.out]
  have Hdl := hid hdl; clear hdl
  go_enter Try.func10, Try.ntmps10
  go_wp2
  go_loop [7] (fun i => ∃ j : Nat, k ≤ j ∧ j ≤ n ∧ i = .int .i64 j ∧ Hid (idx ((xs.drop k).take (j - k)) x = -1)) (fun i => n - (intOf i).toNat)
  case atStart => exact ⟨k, Nat.le_refl _, hk, rfl, hid (by rw [Nat.sub_self, List.take_zero, idx, if_neg (by simp)])⟩
  case round =>
    obtain ⟨j, hkj, hm, rfl, ht⟩ := hrel
    by_cases hlt : j < n
    · obtain ⟨ba, oa, ha, _, _, hca⟩ := hx.intAt (by omega)
      subst ha
      have h1 := hca j hlt
      have hxm : xs.getD j 0 = (xs.drop k).getD (j - k) 0 := by rw [List.getD, List.getD, List.getElem?_drop, show k + (j - k) = j by omega]
      rw [hxm] at h1
      clear hca hxm
      generalize hy : (xs.drop k).getD (j - k) 0 = y at h1
      have Hy := hid hy; clear hy
      cases he : (y == x)
      · have he' : (x == y) = false := by simp at he ⊢; exact fun h => he h.symm
        have hmm : idx ((xs.drop k).take (j - k + 1)) x = -1 := idx_take_miss ht.out (by rw [Hdl.out]; omega) (by rw [Hy.out]; exact he')
        rw [show j - k + 1 = j + 1 - k by omega] at hmm
        have Hm := hid hmm; clear hmm he'
        go_wp2
        exact ⟨⟨j + 1, by omega, by omega, rfl, Hm⟩, by simp [intOf]; omega⟩
      · have he' : (x == y) = true := by simp at he ⊢; exact he.symm
        have hmm : idx (xs.drop k) x = ((j - k : Nat) : Int) := idx_take_hit ht.out (by rw [Hdl.out]; omega) (by rw [Hy.out]; exact he')
        have Hm := hid hmm; clear hmm he'
        go_wp2
        go_ret
        exact ⟨ret_int (by rw [nextIn, Hm.out, if_neg (by omega)]; omega), rfl⟩
    · have hjn : j = n := by omega
      subst hjn
      have Hres := hid (show ((j : Nat) : Int) = (k : Int) + nextIn (xs.drop k) x by
        have h := ht.out
        rw [List.take_of_length_le (by rw [Hdl.out]; omega)] at h
        rw [nextIn, h, if_pos (by omega), Hdl.out]; omega)
      go_wp2
      go_ret
      exact ⟨ret_int Hres.out, rfl⟩
end Go.Proofs.Ytnjbfeejpnfdgab
