/- Equality of slices of ints and of affine expressions; condition: what the arguments hold. -/
import Derived.Test.YtkhlaphegnldeaaDoorEqInts
import Derived.Test.YtkhlaphegnldeaaDoorAffV
namespace Go.Proofs.YtkhlaphegnldeaaDoor
set_option linter.unusedVariables false
set_option linter.unusedSimpArgs false
open Go.RowKit

set_option maxHeartbeats 800000 in
theorem slEq_any (P Q : Nat → Prop) (a b : Option Addr) (m n c1 c2 : Nat) (xs ys : List Int) (w : World) (hx : Sl Sh.int P w (.slice a m c1) xs) (hy : Sl Sh.int Q w (.slice b n c2) ys) :
    Calls Tryd.prog 19 #[.slice a m c1, .slice b n c2] w fun e w' => e = .returned (.bool (decide (xs = ys))) ∧ Quiet w w' := by
  have hxl := hid hx.len
  have hyl := hid hy.len
  by_cases hmn : m = n
  · subst hmn
    have hle := hx.le
    go_enter Tryd.func19, Tryd.ntmps19
    go_wp2
    go_loopw [5, 13] (fun _ i wr => ∃ k : Nat, k ≤ m ∧ i = .int .i64 k ∧ Hid (xs.take k = ys.take k) ∧ Quiet w wr) (fun _ i _ => m - (intOf i).toNat)
    case atStart => exact ⟨0, Nat.zero_le _, rfl, hid (by simp), Quiet.refl w⟩
    case round =>
      obtain ⟨k, hk, rfl, Ht, hq⟩ := hrel
      by_cases hlt : k < m
      · obtain ⟨ba, oa, ha, _, _, hca⟩ := (hx.quiet hq).intAt (by omega)
        obtain ⟨bb, ob, hb, _, _, hcb⟩ := (hy.quiet hq).intAt (by omega)
        subst ha hb
        have h1 := hca k hlt
        have h2 := hcb k hlt
        clear hca hcb
        generalize hu : xs.getD k 0 = u at h1
        generalize hv : ys.getD k 0 = v at h2
        have Hu := hid hu; have Hv := hid hv
        clear hu hv
        cases he : (u != v)
        · have hee : u = v := by simpa using he
          have Hst := hid (take_eq_stepE Ht.out (by rw [hxl.out]; exact hlt) (by rw [hyl.out]; exact hlt) (by rw [Hu.out, Hv.out, hee]))
          clear hee
          go_wp2
          go_quiet (fail)
          go_wp2
          exact ⟨⟨k + 1, by omega, rfl, Hst, hq.drewN⟩, by simp [intOf]; omega⟩
        · have hne : u ≠ v := by simpa using he
          have Hne := hid (ne_of_getDE (xs := xs) (ys := ys) (k := k) (by rw [Hu.out, Hv.out]; exact hne))
          clear hne
          go_wp2
          go_quiet (fail)
          go_wp2
          go_ret
          exact ⟨ret_bool (decide_eq_false Hne.out).symm, hq.drewN⟩
      · have : k = m := by omega
        subst this
        go_wp2
        go_ret
        exact ⟨ret_bool (by have h := Ht.out; rw [List.take_of_length_le (by rw [hxl.out]; omega), List.take_of_length_le (by rw [hyl.out]; omega)] at h; exact (decide_eq_true h).symm), hq⟩
  · have hne : (((m : Int) != (n : Int)) = true) := by simp; omega
    go_enter Tryd.func19, Tryd.ntmps19
    go_wp2
    go_ret
    exact ⟨ret_bool (decide_eq_false (fun e => hmn (by rw [← hxl.out, ← hyl.out, e]))).symm, Quiet.refl _⟩
set_option maxHeartbeats 1600000 in
theorem implSame_any (P Q : Nat → Prop) (v u : Value) (x y : Aff) (w : World) (hx : AffR P w v x) (hy : AffR Q w u y) :
    Calls Tryd.prog 6 #[v, u] w fun e w' => e = .returned (.bool (sameOf x y)) ∧ Below w.heap.size w w' := by
  obtain ⟨a, c, rfl, _, _, hs⟩ := hx.shape
  obtain ⟨b, d, rfl, _, _, ht⟩ := hy.shape
  have hs' := (hs.alloc (.cells #[.slice a x.1.length c, .int .i64 x.2] 25)).alloc (.cells #[.slice b y.1.length d, .int .i64 y.2] 25)
  have ht' := (ht.alloc (.cells #[.slice a x.1.length c, .int .i64 x.2] 25)).alloc (.cells #[.slice b y.1.length d, .int .i64 y.2] 25)
  have hb0 := (Below.refl w.heap.size w).alloc (Nat.le_refl _) (.cells #[.slice a x.1.length c, .int .i64 x.2] 25)
  have hb := hb0.alloc (by simp) (.cells #[.slice b y.1.length d, .int .i64 y.2] 25)
  have B1 := (Box2.new w (.slice a x.1.length c) (.int .i64 x.2) 25).alloc (.cells #[.slice b y.1.length d, .int .i64 y.2] 25)
  have B2 := Box2.new (w.alloc (.cells #[.slice a x.1.length c, .int .i64 x.2] 25)) (.slice b y.1.length d) (.int .i64 y.2) 25
  rw [World.size_alloc] at B2
  have Hdef := hid (show sameOf x y = (decide (x.1 = y.1) && (x.2 == y.2)) from rfl)
  go_enter Tryd.func6, Tryd.ntmps6
  go_wp2_with fail
  generalize (w.alloc (.cells #[.slice a x.1.length c, .int .i64 x.2] 25)).alloc (.cells #[.slice b y.1.length d, .int .i64 y.2] 25) = W at hs' ht' hb B1 B2
  have HB1 := hid B1; have HB2 := hid B2
  clear B1 B2 hb0
  refine (slEq_any P Q _ _ _ _ _ _ x.1 y.1 W hs' ht').mono ?_
  rintro e w1 ⟨rfl, q⟩
  obtain ⟨p0, p1, _, _, _⟩ := HB1.out.quiet q
  obtain ⟨r0, r1, _, _, _⟩ := HB2.out.quiet q
  generalize hdd : decide (x.1 = y.1) = dd
  have Hdd := hid hdd; clear hdd
  have Hb := hid (hb.trans (q.below _))
  clear hb q hs' ht' hs ht hx hy
  cases dd
  · go_wp2_with fail
    go_ret
    exact ⟨ret_bool (by rw [Hdef.out, Hdd.out]; rfl), Hb.out⟩
  · go_wp2_with fail
    go_ret
    exact ⟨ret_bool (by rw [Hdef.out, Hdd.out]; simp), Hb.out⟩
set_option maxHeartbeats 1600000 in
theorem specSame_any (P Q : Nat → Prop) (v u : Value) (x y : Aff) (w : World) (hx : AffR P w v x) (hy : AffR Q w u y) :
    Calls Tryd.prog 7 #[v, u] w fun e w' => e = .returned (.bool (sameOf x y)) ∧ Below w.heap.size w w' := by
  obtain ⟨a, c, rfl, _, _, hs⟩ := hx.shape
  obtain ⟨b, d, rfl, _, _, ht⟩ := hy.shape
  have hs' := (hs.alloc (.cells #[.slice a x.1.length c, .int .i64 x.2] 25)).alloc (.cells #[.slice b y.1.length d, .int .i64 y.2] 25)
  have ht' := (ht.alloc (.cells #[.slice a x.1.length c, .int .i64 x.2] 25)).alloc (.cells #[.slice b y.1.length d, .int .i64 y.2] 25)
  have hb0 := (Below.refl w.heap.size w).alloc (Nat.le_refl _) (.cells #[.slice a x.1.length c, .int .i64 x.2] 25)
  have hb := hb0.alloc (by simp) (.cells #[.slice b y.1.length d, .int .i64 y.2] 25)
  have B1 := (Box2.new w (.slice a x.1.length c) (.int .i64 x.2) 25).alloc (.cells #[.slice b y.1.length d, .int .i64 y.2] 25)
  have B2 := Box2.new (w.alloc (.cells #[.slice a x.1.length c, .int .i64 x.2] 25)) (.slice b y.1.length d) (.int .i64 y.2) 25
  rw [World.size_alloc] at B2
  have Hdef := hid (show sameOf x y = (decide (x.1 = y.1) && (x.2 == y.2)) from rfl)
  cases hk : (x.2 == y.2)
  · have Hk := hid hk
    go_enter Tryd.func7, Tryd.ntmps7
    go_wp2_with fail
    go_ret
    exact ⟨ret_bool (by rw [Hdef.out, Hk.out]; simp), hb⟩
  · have Hk := hid hk
    go_enter Tryd.func7, Tryd.ntmps7
    go_wp2_with fail
    refine (l1Ints_any P Q _ _ _ _ _ _ x.1 y.1 _ hs' ht').mono ?_
    rintro e w1 ⟨rfl, q⟩
    have Hb := hid (hb.trans (q.below _))
    clear hb q hs' ht' hs ht hx hy
    go_wp2_with fail
    go_ret
    exact ⟨ret_bool (by rw [Hdef.out, Hk.out]; simp), Hb.out⟩
end Go.Proofs.YtkhlaphegnldeaaDoor
