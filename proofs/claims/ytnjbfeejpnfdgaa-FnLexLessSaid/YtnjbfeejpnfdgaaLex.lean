/- slices.Compare, impl.LexLess, spec.LexLess: the lexicographic order; condition: what the slices hold. -/
import Derived.Test.YtnjbfeejpnfdgaaLexLaw
import Derived.Test.YtnjbfeejpnfdgaaEqInts
namespace Go.Proofs.Ytnjbfeejpnfdgaa
open Go.RowKit

def cmpI (x y : Int) : Int := if x < y then -1 else if y < x then 1 else 0
theorem cmpI_ne {x y : Int} (h : ¬ x = y) : (cmpI x y != 0) = true := by
  rw [bne_iff_ne, cmpI]
  split
  · omega
  · split <;> omega
set_option maxHeartbeats 400000 in
theorem isNaN_any (x : Int) (w : World) : Calls Try.prog 46 #[.int .i64 x] w fun e w' => e = .returned (.bool false) ∧ w = w' := by
  have h : (x != x) = false := by simp
  go_enter Try.func46, Try.ntmps46
  go_wp2
  go_ret
  exact ⟨rfl, rfl⟩
set_option maxHeartbeats 800000 in
theorem compare_any (x y : Int) (w : World) : Calls Try.prog 45 #[.int .i64 x, .int .i64 y] w fun e w' => e = .returned (.int .i64 (cmpI x y)) ∧ w = w' := by
  by_cases h1 : x < y
  · have h1' : decide (x < y) = true := by simpa using h1
    have hc := hid (show cmpI x y = -1 from if_pos h1)
    rw [hc.out]
    go_enter Try.func45, Try.ntmps45
    go_wp2_with (go_at_call 46; refine (isNaN_any _ _).mono ?_; rintro e w' ⟨rfl, rfl⟩)
    go_ret
    exact ⟨rfl, rfl⟩
  · have h1' : decide (x < y) = false := by simpa using h1
    by_cases h2 : y < x
    · have h2' : decide (y < x) = true := by simpa using h2
      have hc := hid (show cmpI x y = 1 from by rw [cmpI, if_neg h1, if_pos h2])
      rw [hc.out]
      go_enter Try.func45, Try.ntmps45
      go_wp2_with (go_at_call 46; refine (isNaN_any _ _).mono ?_; rintro e w' ⟨rfl, rfl⟩)
      go_ret
      exact ⟨rfl, rfl⟩
    · have h2' : decide (y < x) = false := by simpa using h2
      have hc := hid (show cmpI x y = 0 from by rw [cmpI, if_neg h1, if_neg h2])
      rw [hc.out]
      go_enter Try.func45, Try.ntmps45
      go_wp2_with (go_at_call 46; refine (isNaN_any _ _).mono ?_; rintro e w' ⟨rfl, rfl⟩)
      go_ret
      exact ⟨rfl, rfl⟩
theorem ret_intL {a b : Int} (h : a = b) : Ending.returned (.int .i64 a) = .returned (.int .i64 b) := by rw [h]

set_option maxHeartbeats 1600000 in
theorem slCompare_any (P Q : Nat → Prop) (a b : Option Addr) (m n c1 c2 : Nat) (xs ys : List Int) (w : World) (hx : Sl Sh.int P w (.slice a m c1) xs) (hy : Sl Sh.int Q w (.slice b n c2) ys) :
    Calls Try.prog 43 #[.slice a m c1, .slice b n c2] w fun e w' => e = .returned (.int .i64 (cmpL xs ys)) ∧ w = w' := by
  have hxl := hid hx.len
  have hyl := hid hy.len
  have hle := hx.le
  have hle2 := hy.le
  go_enter Try.func43, Try.ntmps43
  go_wp2
  go_loop [11] (fun i => ∃ k : Nat, k ≤ m ∧ k ≤ n ∧ i = .int .i64 k ∧ Hid (xs.take k = ys.take k)) (fun i => m - (intOf i).toNat)
  case atStart => exact ⟨0, Nat.zero_le _, Nat.zero_le _, rfl, hid (by simp)⟩
  case round =>
    obtain ⟨k, hk, hk2, rfl, Ht⟩ := hrel
    by_cases hlt : k < m
    · obtain ⟨ba, oa, ha, _, _, hca⟩ := hx.intAt (by omega)
      subst ha
      have h1 := hca k hlt
      clear hca
      by_cases hlt2 : k < n
      · obtain ⟨bb, ob, hb, _, _, hcb⟩ := hy.intAt (by omega)
        subst hb
        have h2 := hcb k hlt2
        clear hcb
        generalize hu : xs.getD k 0 = u at h1
        generalize hv : ys.getD k 0 = v at h2
        have Hu := hid hu; have Hv := hid hv
        clear hu hv
        by_cases huv : u = v
        · have Hst := hid (take_eq_stepE Ht.out (by rw [hxl.out]; exact hlt) (by rw [hyl.out]; exact hlt2) (by rw [Hu.out, Hv.out, huv]))
          have hc : cmpI u v = 0 := by rw [cmpI, if_neg (by omega), if_neg (by omega)]
          have Hc := hid hc
          clear huv hc
          go_wp2_with (go_at_call 45; refine (compare_any _ _ _).mono ?_; rintro e w' ⟨rfl, rfl⟩; rw [Hc.out])
          exact ⟨⟨k + 1, by omega, by omega, rfl, Hst⟩, by simp [intOf]; omega⟩
        · have hc : cmpI u v = cmpL xs ys := by
            have hne : xs.getD k 0 ≠ ys.getD k 0 := by rw [Hu.out, Hv.out]; exact huv
            rw [cmpL_at Ht.out (by rw [hxl.out]; exact hlt) (by rw [hyl.out]; exact hlt2) hne, Hu.out, Hv.out, cmpI]
            by_cases h : u < v
            · rw [if_pos h, if_pos h]
            · rw [if_neg h, if_neg h, if_pos (by omega)]
          have hnz : (cmpI u v != 0) = true := cmpI_ne huv
          have Hc := hid hc
          clear huv hc
          go_wp2_with (go_at_call 45; refine (compare_any _ _ _).mono ?_; rintro e w' ⟨rfl, rfl⟩)
          go_ret
          exact ⟨ret_intL Hc.out, rfl⟩
      · have hkn : k = n := by omega
        subst hkn
        have Hc : Hid (cmpL xs ys = 1) := hid (cmpL_endR (by rw [hyl.out]; exact Ht.out) (by rw [hxl.out, hyl.out]; exact hlt))
        go_wp2
        go_ret
        exact ⟨ret_intL Hc.out.symm, rfl⟩
    · have : k = m := by omega
      subst this
      by_cases hkn : k < n
      · have Hc : Hid (cmpL xs ys = -1) := hid (cmpL_endL (by rw [hxl.out]; exact Ht.out) (by rw [hxl.out, hyl.out]; exact hkn))
        go_wp2
        go_ret
        exact ⟨ret_intL Hc.out.symm, rfl⟩
      · have Hc : Hid (cmpL xs ys = 0) := hid (cmpL_endE (by rw [hxl.out]; exact Ht.out) (by rw [hxl.out, hyl.out]; omega))
        go_wp2
        go_ret
        exact ⟨ret_intL Hc.out.symm, rfl⟩
set_option maxHeartbeats 400000 in
theorem implLex_any (P Q : Nat → Prop) (a b : Option Addr) (m n c1 c2 : Nat) (xs ys : List Int) (w : World) (hx : Sl Sh.int P w (.slice a m c1) xs) (hy : Sl Sh.int Q w (.slice b n c2) ys) :
    Calls Try.prog 27 #[.slice a m c1, .slice b n c2] w fun e w' => e = .returned (.bool (lexB xs ys)) ∧ w = w' := by
  go_enter Try.func27, Try.ntmps27
  go_wp2_with (go_at_call 43; refine (slCompare_any P Q _ _ _ _ _ _ xs ys _ hx hy).mono ?_; rintro e w' ⟨rfl, rfl⟩)
  go_ret
  exact ⟨rfl, rfl⟩
set_option maxHeartbeats 1600000 in
theorem specLex_any (P Q : Nat → Prop) (a b : Option Addr) (m n c1 c2 : Nat) (xs ys : List Int) (w : World) (hx : Sl Sh.int P w (.slice a m c1) xs) (hy : Sl Sh.int Q w (.slice b n c2) ys) :
    Calls Try.prog 28 #[.slice a m c1, .slice b n c2] w fun e w' => e = .returned (.bool (lexB xs ys)) ∧ Quiet w w' := by
  have hxl := hid hx.len
  have hyl := hid hy.len
  have hle := hx.le
  have hle2 := hy.le
  go_enter Try.func28, Try.ntmps28
  go_wp2
  go_loopw [5] (fun i wr => ∃ k : Nat, k ≤ m ∧ k ≤ n ∧ i = .int .i64 k ∧ Hid (xs.take k = ys.take k) ∧ Quiet w wr) (fun i _ => m - (intOf i).toNat)
  case atStart => exact ⟨0, Nat.zero_le _, Nat.zero_le _, rfl, hid (by simp), Quiet.refl w⟩
  case round =>
    obtain ⟨k, hk, hk2, rfl, Ht, hq⟩ := hrel
    by_cases hlt : k < m
    · obtain ⟨ba, oa, ha, _, _, hca⟩ := (hx.quiet hq).intAt (by omega)
      subst ha
      have h1 := hca k hlt
      clear hca
      by_cases hlt2 : k < n
      · obtain ⟨bb, ob, hb, _, _, hcb⟩ := (hy.quiet hq).intAt (by omega)
        subst hb
        have h2 := hcb k hlt2
        clear hcb
        generalize hu : xs.getD k 0 = u at h1
        generalize hv : ys.getD k 0 = v at h2
        have Hu := hid hu; have Hv := hid hv
        clear hu hv
        cases huv : (u != v)
        · have he : u = v := by simpa using huv
          have Hst := hid (take_eq_stepE Ht.out (by rw [hxl.out]; exact hlt) (by rw [hyl.out]; exact hlt2) (by rw [Hu.out, Hv.out, he]))
          clear he
          go_wp2
          go_quiet (fail)
          go_wp2
          exact ⟨⟨k + 1, by omega, by omega, rfl, Hst, hq.drewN⟩, by simp [intOf]; omega⟩
        · have hn : u ≠ v := by simpa using huv
          have hc : lexB xs ys = decide (u < v) := by
            have hne : xs.getD k 0 ≠ ys.getD k 0 := by rw [Hu.out, Hv.out]; exact hn
            rw [lexB, cmpL_at Ht.out (by rw [hxl.out]; exact hlt) (by rw [hyl.out]; exact hlt2) hne, Hu.out, Hv.out]
            by_cases h : u < v <;> simp [h]
          have Hc := hid hc
          clear hn hc
          go_wp2
          go_quiet (fail)
          go_wp2
          go_quiet (fail)
          go_wp2
          go_ret
          exact ⟨ret_bool Hc.out.symm, hq.drewN.drewN⟩
      · have hkn : k = n := by omega
        subst hkn
        have Hc : Hid (lexB xs ys = false) := hid (by rw [lexB, cmpL_endR (by rw [hyl.out]; exact Ht.out) (by rw [hxl.out, hyl.out]; exact hlt)]; rfl)
        have hd : decide ((m : Int) < (k : Int)) = false := by simp; omega
        go_wp2
        go_ret
        exact ⟨ret_bool (by rw [Hc.out]; try (first | rfl | (simp; done) | (simp; omega))), hq⟩
    · have : k = m := by omega
      subst this
      by_cases hkn : k < n
      · have Hc : Hid (lexB xs ys = true) := hid (by rw [lexB, cmpL_endL (by rw [hxl.out]; exact Ht.out) (by rw [hxl.out, hyl.out]; exact hkn)]; rfl)
        have hd : decide ((k : Int) < (n : Int)) = true := by simp; omega
        go_wp2
        go_ret
        exact ⟨ret_bool (by rw [Hc.out]; try (first | rfl | (simp; done) | (simp; omega))), hq⟩
      · have Hc : Hid (lexB xs ys = false) := hid (by rw [lexB, cmpL_endE (by rw [hxl.out]; exact Ht.out) (by rw [hxl.out, hyl.out]; omega)]; rfl)
        have hd : decide ((k : Int) < (n : Int)) = false := by simp; omega
        go_wp2
        go_ret
        exact ⟨ret_bool (by rw [Hc.out]; try (first | rfl | (simp; done) | (simp; omega))), hq⟩
end Go.Proofs.Ytnjbfeejpnfdgaa
