/- The laws' own small functions over slices of ints: eqIntS, toIntS; conditions: what the slices hold. -/
import Derived.Test.YtnjbfeejpnfdgabBase
namespace Go.Proofs.Ytnjbfeejpnfdgab
open Go.RowKit

theorem take_eq_step {xs ys : List Int} {k : Nat} (hk : xs.take k = ys.take k) (h1 : k < xs.length) (h2 : k < ys.length) (h : xs.getD k 0 = ys.getD k 0) : xs.take (k+1) = ys.take (k+1) := by
  rw [List.take_succ_eq_append_getElem h1, List.take_succ_eq_append_getElem h2, hk]
  simp only [List.getD, List.getElem?_eq_getElem h1, List.getElem?_eq_getElem h2, Option.getD_some] at h
  rw [h]
theorem ne_of_getD {xs ys : List Int} {k : Nat} (h : ¬ xs.getD k 0 = ys.getD k 0) : xs ≠ ys := fun e => h (by rw [e])

set_option maxHeartbeats 400000 in
theorem eqIntS_len (a b : Option Addr) (m c1 n c2 : Nat) (w : World) (h : m ≠ n) :
    Calls Try.prog 7 #[.slice a m c1, .slice b n c2] w fun e w' => e = .returned (.bool false) ∧ w = w' := by
  have hne : (((m : Int) != (n : Int)) = true) := by simp; omega
  go_enter Try.func7, Try.ntmps7
  go_wp2
  go_ret
  exact ⟨rfl, rfl⟩

set_option maxHeartbeats 400000 in
theorem eqIntS_same (a b : Option Addr) (n c1 c2 : Nat) (xs ys : List Int) (w : World) (hx : IntsA w a n c1 xs) (hy : IntsA w b n c2 ys) :
    Calls Try.prog 7 #[.slice a n c1, .slice b n c2] w fun e w' => e = .returned (.bool (decide (xs = ys))) ∧ Quiet w w' := by
  have hle := hx.le
  go_enter Try.func7, Try.ntmps7
  go_wp2
  go_loopw [5] (fun i wr => ∃ k : Nat, k ≤ n ∧ i = .int .i64 k ∧ xs.take k = ys.take k ∧ Quiet w wr) (fun i _ => n - (intOf i).toNat)
  case atStart => exact ⟨0, Nat.zero_le _, rfl, by simp, Quiet.refl w⟩
  case round =>
    obtain ⟨k, hk, rfl, ht, hq⟩ := hrel
    have Ht := hid ht; clear ht
    by_cases hlt : k < n
    · obtain ⟨ba, oa, ha, _, hca⟩ := hx.at (by omega)
      obtain ⟨bb, ob, hb, _, hcb⟩ := hy.at (by omega)
      rw [ha, hb]
      have h1 : wr.cell? _ = _ := (hq.cell _).trans (hca k hlt)
      have h2 : wr.cell? _ = _ := (hq.cell _).trans (hcb k hlt)
      clear hca hcb ha hb
      go_wp2
      go_quiet (fail)
      go_wp2
      · have hne := ‹(xs[k]?.getD 0 != ys[k]?.getD 0) = true›
        go_ret
        exact ⟨ret_bool (by rw [bne_iff_ne] at hne; exact (decide_eq_false (ne_of_getD hne)).symm), hq.drewN⟩
      · have he := ‹(xs[k]?.getD 0 != ys[k]?.getD 0) = false›
        exact ⟨⟨k + 1, by omega, rfl, take_eq_step Ht.out (by rw [hx.1]; omega) (by rw [hy.1]; omega) (by simpa [bne_eq_false_iff_eq] using he), hq.drewN⟩, by simp [intOf]; omega⟩
    · have : k = n := by omega
      subst this
      go_wp2
      go_ret
      exact ⟨ret_bool (by have h := Ht.out; rw [List.take_of_length_le (by rw [hx.1]; omega), List.take_of_length_le (by rw [hy.1]; omega)] at h; exact (decide_eq_true h).symm), hq⟩

/-- Whatever the lengths. -/
theorem eqIntS_any (a b : Option Addr) (m n c1 c2 : Nat) (xs ys : List Int) (w : World) (hx : IntsA w a m c1 xs) (hy : IntsA w b n c2 ys) :
    Calls Try.prog 7 #[.slice a m c1, .slice b n c2] w fun e w' => e = .returned (.bool (decide (xs = ys))) ∧ Quiet w w' := by
  by_cases h : m = n
  · subst h; exact eqIntS_same a b m c1 c2 xs ys w hx hy
  · refine (eqIntS_len a b m c1 n c2 w h).mono ?_
    rintro e w' ⟨rfl, rfl⟩
    exact ⟨ret_bool (decide_eq_false (fun e => h (by rw [← hx.1, ← hy.1, e]))).symm, Quiet.refl _⟩

theorem toInts_step {xs : List Int} {k n : Nat} (h : k < n) (hx : k < xs.length) : (xs.take k ++ List.replicate (n - k) 0).set k (xs[k]?.getD 0) = xs.take (k + 1) ++ List.replicate (n - (k + 1)) 0 := by
  have e : n - k = (n - (k + 1)) + 1 := by omega
  have l : (xs.take k).length = k := by rw [List.length_take]; omega
  rw [List.set_append, if_neg (by omega), List.take_succ_eq_append_getElem hx, e, List.replicate_succ, l, Nat.sub_self, List.set_cons_zero, List.getElem?_eq_getElem hx, List.append_assoc]
  rfl

set_option maxHeartbeats 400000 in
theorem toIntS_any (a : Option Addr) (n c : Nat) (xs : List Int) (w : World) (hx : IntsA w a n c xs) :
    Calls Try.prog 5 #[.slice a n c] w fun e w' => e = .returned (.slice (some ⟨w.heap.size, 0, none⟩) n n) ∧ OwnInts w' w.heap.size n xs ∧ Below w.heap.size w w' := by
  have hle := hx.le
  have hmk := run_make_ints n hle
  go_enter Try.func5, Try.ntmps5
  go_wp2
  go_loopw [4] (fun i wr => ∃ k : Nat, k ≤ n ∧ i = .int .i64 k ∧ OwnInts wr w.heap.size n (xs.take k ++ List.replicate (n - k) 0) ∧ Below w.heap.size w wr) (fun i _ => n - (intOf i).toNat)
  case atStart => exact ⟨0, Nat.zero_le _, rfl, by simpa using OwnInts.new w n hle, (Below.refl _ _).alloc (Nat.le_refl _) _⟩
  case round =>
    obtain ⟨k, hk, rfl, ho, hb⟩ := hrel
    clear hmk
    by_cases hlt : k < n
    · obtain ⟨ba, oa, ha, hlb, hca⟩ := hx.at (by omega)
      rw [ha]
      have h1 := hca k hlt
      have h2 : wr.cell? ⟨ba, oa + k, none⟩ = _ := (hb.cell hlb).trans h1
      have h3 : wr.cell? ⟨w.heap.size, k, none⟩ = some _ := ho.cell k (by rw [List.length_append, List.length_take, List.length_replicate, hx.1]; omega)
      have h4 := ho.frozen k
      clear hca ha h1
      go_wp2
      exact ⟨⟨k + 1, by omega, rfl, toInts_step hlt (by rw [hx.1]; exact hlt) ▸ ho.set k _, hb.setCell (Nat.le_refl _) _⟩, by simp [intOf]; omega⟩
    · have : k = n := by omega
      subst this
      go_wp2
      go_ret
      exact ⟨rfl, by have h := ho; rw [List.take_of_length_le (by rw [hx.1]; omega)] at h; simpa using h, hb⟩
end Go.Proofs.Ytnjbfeejpnfdgab
