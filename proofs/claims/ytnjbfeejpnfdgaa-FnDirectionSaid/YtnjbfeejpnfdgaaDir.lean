/- Directions and carry levels; condition: what the slice holds. -/
import Derived.Test.YtnjbfeejpnfdgaaRd
import Derived.Test.YtnjbfeejpnfdgaaSlInt
namespace Go.Proofs.Ytnjbfeejpnfdgaa
open Go.RowKit

set_option maxHeartbeats 400000 in
theorem nonzero_any (x : Int) (w : World) : Calls Try.prog 34 #[.int .i64 x] w fun e w' => e = .returned (.bool (x != 0)) ∧ w = w' := by
  go_enter Try.func34, Try.ntmps34
  go_wp2
  go_ret
  exact ⟨rfl, rfl⟩
theorem Try.egCarry : ∀ args w, (callFunc 34 args).run Try.prog w = .ok (.enter 34 args) w := fun _ _ => by kernel_rfl
def carry (xs : List Int) : Int := findI (fun x => x != 0) xs
set_option maxHeartbeats 400000 in
theorem implCarry_any (P : Nat → Prop) (a : Option Addr) (n c : Nat) (xs : List Int) (w : World) (hx : Sl Sh.int P w (.slice a n c) xs) :
    Calls Try.prog 21 #[.slice a n c] w fun e w' => e = .returned (.int .i64 (carry xs)) ∧ w = w' := by
  go_enter Try.func21, Try.ntmps21
  go_wp2_with (go_at_call 33; refine (indexFunc_any P 34 #[] Try.egCarry (fun x => x != 0) _ _ _ xs _ hx (fun x => nonzero_any x _)).mono ?_; rintro e w' ⟨rfl, rfl⟩)
  go_ret
  exact ⟨rfl, rfl⟩
set_option maxHeartbeats 400000 in
theorem specCarry_any (P : Nat → Prop) (a : Option Addr) (n c : Nat) (xs : List Int) (w : World) (hx : Sl Sh.int P w (.slice a n c) xs) :
    Calls Try.prog 23 #[.slice a n c] w fun e w' => e = .returned (.int .i64 (carry xs)) ∧ w = w' := by
  have hle := hx.le
  have hlen := hx.len
  have Hlen := hid hlen; clear hlen
  go_enter Try.func23, Try.ntmps23
  go_wp2
  go_loop [3] (fun i => ∃ k : Nat, k ≤ n ∧ i = .int .i64 k ∧ Hid (∀ x ∈ xs.take k, (x != 0) = false)) (fun i => n - (intOf i).toNat)
  case atStart => exact ⟨0, Nat.zero_le _, rfl, hid (by simp)⟩
  case round =>
    obtain ⟨k, hk, rfl, ht⟩ := hrel
    by_cases hlt : k < n
    · obtain ⟨ba, oa, ha, _, _, hca⟩ := hx.intAt (by omega)
      subst ha
      have h1 := hca k hlt
      generalize hy : xs.getD k 0 = y at h1
      have Hy := hid hy; clear hy hca
      cases hq : (y != 0) with
      | true =>
        have Hq : Hid ((y != 0) = true) := hid hq
        go_wp2
        go_ret
        exact ⟨ret_int (findI_hit (p := fun x => x != 0) ht.out (by rw [Hlen.out]; exact hlt) (by rw [Hy.out]; exact Hq.out)).symm, rfl⟩
      | false =>
        have Hq : Hid ((y != 0) = false) := hid hq
        go_wp2
        exact ⟨⟨k + 1, by omega, rfl, hid (take_step (p := fun x => x != 0) ht.out (by rw [Hlen.out]; exact hlt) (by rw [Hy.out]; exact Hq.out))⟩, by simp [intOf]; omega⟩
    · have : k = n := by omega
      subst this
      go_wp2
      go_ret
      exact ⟨ret_int (findI_none (p := fun x => x != 0) (by have h := ht.out; rw [List.take_of_length_le (by rw [Hlen.out]; omega)] at h; exact h)).symm, rfl⟩

/-- The sign of a number, as a byte. -/
def sgn (x : Int) : ByteArray := if 0 < x then ⟨#[60]⟩ else if x < 0 then ⟨#[62]⟩ else ⟨#[61]⟩
def sgns (xs : List Int) : ByteArray := xs.foldl (fun s x => s ++ sgn x) ⟨#[]⟩
theorem sgns_snoc (xs : List Int) (x : Int) : sgns (xs ++ [x]) = sgns xs ++ sgn x := by simp [sgns, List.foldl_append]
theorem sgn_size (x : Int) : (sgn x).size = 1 := by
  unfold sgn
  split
  · rfl
  · split <;> rfl
theorem sgns_size (xs : List Int) : (sgns xs).size = xs.length := by
  have key : ∀ (xs : List Int) (s : ByteArray), (xs.foldl (fun s x => s ++ sgn x) s).size = s.size + xs.length := by
    intro xs
    induction xs with
    | nil => intro s; rfl
    | cons x xs ih => intro s; rw [List.foldl_cons, ih, ByteArray.size_append, sgn_size, List.length_cons]; omega
  have := key xs ⟨#[]⟩
  rw [sgns, this]
  show 0 + xs.length = xs.length
  omega
theorem sgn_cases (y : Int) : (decide (0 < y) = true ∧ sgn y = ⟨#[60]⟩) ∨ (decide (0 < y) = false ∧ decide (y < 0) = true ∧ sgn y = ⟨#[62]⟩) ∨ (decide (0 < y) = false ∧ decide (y < 0) = false ∧ sgn y = ⟨#[61]⟩) := by
  unfold sgn
  by_cases h1 : 0 < y
  · exact .inl ⟨by simpa using h1, by rw [if_pos h1]⟩
  · by_cases h2 : y < 0
    · exact .inr (.inl ⟨by simpa using h1, by simpa using h2, by rw [if_neg h1, if_pos h2]⟩)
    · exact .inr (.inr ⟨by simpa using h1, by simpa using h2, by rw [if_neg h1, if_neg h2]⟩)
theorem ret_str {a b : ByteArray} (h : a = b) : Ending.returned (.string a) = .returned (.string b) := by rw [h]
theorem str_eq {a b : ByteArray} (h : a = b) : Value.string a = .string b := by rw [h]
def dirOf (xs : List Int) : ByteArray := if xs.length ≤ 4 then sgns xs else ⟨#[]⟩
set_option maxHeartbeats 800000 in
theorem specDir_small (P : Nat → Prop) (a : Option Addr) (n c : Nat) (xs : List Int) (w : World) (hx : Sl Sh.int P w (.slice a n c) xs) (h4 : n ≤ 4) :
    Calls Try.prog 22 #[.slice a n c] w fun e w' => e = .returned (.string (sgns xs)) ∧ w = w' := by
  have hd : decide ((n : Int) ≤ 4) = true := by simp; omega
  have hlen := hx.len
  have Hlen := hid hlen; clear hlen
  go_enter Try.func22, Try.ntmps22
  go_wp2
  go_loop [3, 4] (fun s i => ∃ k : Nat, k ≤ n ∧ i = .int .i64 k ∧ s = .string (sgns (xs.take k))) (fun _ i => n - (intOf i).toNat)
  case atStart => exact ⟨0, Nat.zero_le _, rfl, rfl⟩
  case round =>
    obtain ⟨k, hk, rfl, rfl⟩ := hrel
    by_cases hlt : k < n
    · obtain ⟨ba, oa, ha, _, _, hca⟩ := hx.intAt (by omega)
      subst ha
      have h1 := hca k hlt
      have hs := sgns_snoc (xs.take k) (xs.getD k 0)
      have ht : xs.take (k + 1) = xs.take k ++ [xs.getD k 0] := take_snoc (by rw [Hlen.out]; exact hlt)
      have hsz := sgns_size (xs.take k)
      have hsl : (xs.take k).length ≤ k := List.length_take_le _ _
      rw [← ht] at hs
      generalize xs.getD k 0 = y at h1 hs
      clear hca ht
      generalize sgns (xs.take k) = s at hs hsz
      have hs4 : s.size ≤ 4 := by omega
      clear hsz hsl
      rcases sgn_cases y with ⟨g1, e⟩ | ⟨g1, g2, e⟩ | ⟨g1, g2, e⟩
      all_goals
        rw [e] at hs
        have Hs := hid hs; clear hs e
        go_wp2
        exact ⟨⟨k + 1, by omega, rfl, str_eq Hs.out.symm⟩, by simp [intOf]; omega⟩
    · have : k = n := by omega
      subst this
      go_wp2
      go_ret
      exact ⟨ret_str (by rw [List.take_of_length_le (by rw [Hlen.out]; omega)]), rfl⟩
set_option maxHeartbeats 400000 in
theorem specDir_any (P : Nat → Prop) (a : Option Addr) (n c : Nat) (xs : List Int) (w : World) (hx : Sl Sh.int P w (.slice a n c) xs) :
    Calls Try.prog 22 #[.slice a n c] w fun e w' => e = .returned (.string (dirOf xs)) ∧ w = w' := by
  unfold dirOf
  rw [hx.len]
  by_cases h : n ≤ 4
  · rw [if_pos h]; exact specDir_small P a n c xs w hx h
  · rw [if_neg h]
    have h0 : decide ((0 : Int) < (n : Int)) = true := by simp; omega
    have h1 : decide ((n : Int) ≤ 4) = false := by simp; omega
    go_enter Try.func22, Try.ntmps22
    go_wp2
    refine wp_loop_rounds 1 ?_
    rw [rounds_succ]
    go_wp2
    go_ret
    exact ⟨rfl, rfl⟩
set_option maxHeartbeats 800000 in
theorem implDir_any (P : Nat → Prop) (a : Option Addr) (n c : Nat) (xs : List Int) (w : World) (hx : Sl Sh.int P w (.slice a n c) xs) :
    Calls Try.prog 20 #[.slice a n c] w fun e w' => e = .returned (.string (dirOf xs)) ∧ w = w' := by
  unfold dirOf
  rw [hx.len]
  by_cases h4 : n ≤ 4
  · rw [if_pos h4]
    have hd : decide ((4 : Int) < (n : Int)) = false := by simp; omega
    have hlen := hx.len
    have Hlen := hid hlen; clear hlen
    go_enter Try.func20, Try.ntmps20
    go_wp2
    go_loop [3, 11] (fun s i => ∃ k : Nat, k ≤ n ∧ i = .int .i64 k ∧ s = .string (sgns (xs.take k))) (fun _ i => n - (intOf i).toNat)
    case atStart => exact ⟨0, Nat.zero_le _, rfl, rfl⟩
    case round =>
      obtain ⟨k, hk, rfl, rfl⟩ := hrel
      by_cases hlt : k < n
      · obtain ⟨ba, oa, ha, _, _, hca⟩ := hx.intAt (by omega)
        subst ha
        have h1 := hca k hlt
        have hs := sgns_snoc (xs.take k) (xs.getD k 0)
        have ht : xs.take (k + 1) = xs.take k ++ [xs.getD k 0] := take_snoc (by rw [Hlen.out]; exact hlt)
        have hsz := sgns_size (xs.take k)
        have hsl : (xs.take k).length ≤ k := List.length_take_le _ _
        rw [← ht] at hs
        generalize xs.getD k 0 = y at h1 hs
        clear hca ht
        generalize sgns (xs.take k) = s at hs hsz
        have hs4 : s.size ≤ 4 := by omega
        clear hsz hsl
        rcases sgn_cases y with ⟨g1, e⟩ | ⟨g1, g2, e⟩ | ⟨g1, g2, e⟩
        all_goals
          rw [e] at hs
          have Hs := hid hs; clear hs e
          go_wp2
          exact ⟨⟨k + 1, by omega, rfl, str_eq Hs.out.symm⟩, by simp [intOf]; omega⟩
      · have : k = n := by omega
        subst this
        go_wp2
        go_ret
        exact ⟨ret_str (by rw [List.take_of_length_le (by rw [Hlen.out]; omega)]), rfl⟩
  · rw [if_neg h4]
    have h1 : decide ((4 : Int) < (n : Int)) = true := by simp; omega
    go_enter Try.func20, Try.ntmps20
    go_wp2
    go_ret
    exact ⟨rfl, rfl⟩
end Go.Proofs.Ytnjbfeejpnfdgaa
