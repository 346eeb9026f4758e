/- spec.FitSize and impl.FitSize: the greatest stack distance, plus one; condition: what the slice holds. -/
import Derived.Test.YtnjbfeejpnfdgaaStackI
namespace Go.Proofs.Ytnjbfeejpnfdgaa
open Go.RowKit

def fit (ds : List Int) : Int := ds.foldl (fun n d => if d + 1 > n then d + 1 else n) 0
theorem fit_snoc (ds : List Int) (d : Int) : fit (ds ++ [d]) = if d + 1 > fit ds then d + 1 else fit ds := by simp [fit, List.foldl_append]
theorem posIn_bd (st : List Int) (x : Int) : -1 ≤ posIn st x ∧ posIn st x < st.length + 1 := by
  unfold posIn
  split
  · rename_i h
    have := List.idxOf_lt_length_of_mem h
    omega
  · omega
theorem dists_bd (xs : List Int) : ∀ d ∈ dists xs, -1 ≤ d ∧ d ≤ 600 := by
  intro d hd
  unfold dists at hd
  split at hd
  · obtain ⟨i, hi, rfl⟩ := List.mem_map.1 hd
    rw [List.mem_range] at hi
    have h := posIn_bd (stk (xs.take i)) (xs[i]?.getD 0)
    have h2 := stk_le (xs.take i)
    have h3 : (xs.take i).length ≤ i := List.length_take_le _ _
    unfold sd
    omega
  · simp at hd
theorem fit_bd {ds : List Int} (h : ∀ d ∈ ds, -1 ≤ d ∧ d ≤ 600) : 0 ≤ fit ds ∧ fit ds ≤ 601 := by
  induction ds using snoc_ind with
  | h0 => simp [fit]
  | h1 ds d ih =>
    rw [fit_snoc]
    have h1 := ih (fun e he => h e (by simp [he]))
    have h2 := h d (by simp)
    split <;> omega

set_option maxHeartbeats 800000 in
theorem specFit_any (a : Option Addr) (n c : Nat) (xs : List Int) (w : World) (hx : IntsA w a n c xs) :
    Calls Try.prog 17 #[.slice a n c] w fun e w' => e = .returned (.int .i64 (fit (dists xs))) ∧ Below w.heap.size w w' := by
  have hdl := dists_length xs
  have hbd := dists_bd xs
  go_enter Try.func17, Try.ntmps17
  go_wp2_with (go_at_call 13; refine (specStack_any _ _ _ xs _ hx).mono ?_; rintro e w' ⟨⟨v, rfl, o⟩, hb⟩; obtain ⟨a1, c1, rfl⟩ := o.shape2)
  have hI := o.intsA (by omega)
  generalize hds : dists xs = ds at hI hdl hbd
  have Hds := hid hds; clear hds
  have Hbd := hid hbd; clear hbd
  go_loopw [3, 5] (fun q i wr => ∃ k : Nat, k ≤ ds.length ∧ i = .int .i64 k ∧ q = .int .i64 (fit (ds.take k)) ∧ Quiet w' wr) (fun _ i _ => ds.length - (intOf i).toNat)
  case atStart => exact ⟨0, Nat.zero_le _, rfl, rfl, Quiet.refl _⟩
  case round =>
    obtain ⟨k, hk, rfl, rfl, hq⟩ := hrel
    have hf := fit_bd (fun d (hd : d ∈ ds.take k) => Hbd.out d (List.mem_of_mem_take hd))
    by_cases hlt : k < ds.length
    · obtain ⟨ba, oa, ha, _, hca⟩ := (hI.quiet hq).at (by omega)
      subst ha
      have h1 := hca k hlt
      have hs : ds.take (k + 1) = ds.take k ++ [ds.getD k 0] := take_snoc hlt
      have hd := Hbd.out (ds.getD k 0) (by rw [List.getD, List.getElem?_eq_getElem hlt]; exact List.getElem_mem _)
      generalize ds.getD k 0 = d at h1 hs hd
      have hms := fit_snoc (ds.take k) d
      rw [← hs] at hms
      generalize fit (ds.take k) = f at hms hf
      clear hs hca
      cases hdd : decide (f < d + 1)
      · have hz : ¬ d + 1 > f := by simpa using hdd
        rw [if_neg hz] at hms
        have Hms := hid hms; clear hms hz
        go_wp2
        exact ⟨⟨k + 1, by omega, rfl, int_i64 (by rw [Hms.out]), hq⟩, by simp [intOf]; omega⟩
      · have hz : d + 1 > f := by simpa using hdd
        rw [if_pos hz] at hms
        have Hms := hid hms; clear hms hz
        go_wp2
        exact ⟨⟨k + 1, by omega, rfl, int_i64 (by rw [Hms.out]), hq⟩, by simp [intOf]; omega⟩
    · have hke : k = ds.length := by omega
      subst hke
      go_wp2
      go_ret
      exact ⟨ret_int (by rw [List.take_length, Hds.out]), hb.trans (hq.below _)⟩

set_option maxHeartbeats 800000 in
theorem implFit_any (a : Option Addr) (n c : Nat) (xs : List Int) (w : World) (hx : IntsA w a n c xs) (hwf : ∀ x ∈ xs, (Lit.int .i64 x).wf = true) :
    Calls Try.prog 18 #[.slice a n c] w fun e w' => e = .returned (.int .i64 (fit (dists xs))) ∧ Below w.heap.size w w' := by
  have hdl := dists_length xs
  have hbd := dists_bd xs
  have Hwf := hid hwf; clear hwf
  go_enter Try.func18, Try.ntmps18
  go_wp2_with (go_at_call 14; refine (implStack_any _ _ _ xs _ hx Hwf.out).mono ?_; rintro e w' ⟨⟨v, rfl, o⟩, hb⟩; obtain ⟨a1, c1, rfl⟩ := o.shape2)
  have hI := o.intsA (by omega)
  generalize hds : dists xs = ds at hI hdl hbd
  have Hds := hid hds; clear hds
  have Hbd := hid hbd; clear hbd
  go_loopw [3, 9] (fun q i wr => ∃ k : Nat, k ≤ ds.length ∧ i = .int .i64 k ∧ q = .int .i64 (fit (ds.take k)) ∧ Quiet w' wr) (fun _ i _ => ds.length - (intOf i).toNat)
  case atStart => exact ⟨0, Nat.zero_le _, rfl, rfl, Quiet.refl _⟩
  case round =>
    obtain ⟨k, hk, rfl, rfl, hq⟩ := hrel
    have hf := fit_bd (fun d (hd : d ∈ ds.take k) => Hbd.out d (List.mem_of_mem_take hd))
    by_cases hlt : k < ds.length
    · obtain ⟨ba, oa, ha, _, hca⟩ := (hI.quiet hq).at (by omega)
      subst ha
      have h1 := hca k hlt
      have hs : ds.take (k + 1) = ds.take k ++ [ds.getD k 0] := take_snoc hlt
      have hd := Hbd.out (ds.getD k 0) (by rw [List.getD, List.getElem?_eq_getElem hlt]; exact List.getElem_mem _)
      generalize ds.getD k 0 = d at h1 hs hd
      have hms := fit_snoc (ds.take k) d
      rw [← hs] at hms
      generalize fit (ds.take k) = f at hms hf
      have Hms := hid hms
      clear hs hca hms
      go_wp2
      exact ⟨⟨k + 1, by omega, rfl, int_i64 Hms.out.symm, hq⟩, by simp [intOf]; omega⟩
    · have hke : k = ds.length := by omega
      subst hke
      go_wp2
      go_ret
      exact ⟨ret_int (by rw [List.take_length, Hds.out]), hb.trans (hq.below _)⟩
end Go.Proofs.Ytnjbfeejpnfdgaa
