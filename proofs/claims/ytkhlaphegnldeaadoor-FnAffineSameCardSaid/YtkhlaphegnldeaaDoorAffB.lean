/- Sums, multiples and substitutions of affine expressions in the reference, checked; condition: what the arguments hold. -/
import Derived.Test.YtkhlaphegnldeaaDoorAffZ
import Derived.Test.YtkhlaphegnldeaaDoorAffA
namespace Go.Proofs.YtkhlaphegnldeaaDoor
set_option linter.unusedVariables false
set_option linter.unusedSimpArgs false
open Go.RowKit

theorem comb_sum (x y : Aff) (k : Int) : affComb x 1 y k = affSum x k y := by
  simp [affComb, combTo, affSum, List.range_succ]
theorem comb_scale (x : Aff) (k : Int) : affComb x k ([0, 0, 0, 0], 0) 0 = affSum ([0, 0, 0, 0], 0) k x := by
  simp [affComb, combTo, affSum, List.range_succ]
theorem comb_subst (x y : Aff) (v : Nat) : affComb (x.1.set v 0, x.2) 1 y (x.1.getD v 0) = affSubst x v y := comb_sum _ _ _

set_option maxHeartbeats 1600000 in
theorem l1Checked_any (P : Nat → Prop) (v : Value) (x : Aff) (w : World) (h : AffR P w v x) : Calls Tryd.prog 30 #[v] w (RetChk P x w) := by
  obtain ⟨a, c, rfl, h1, h2, hs⟩ := h.shape
  obtain ⟨co, k⟩ := x
  simp only at hs h1 h2 ⊢
  have hb0 := (Below.refl w.heap.size w).alloc (Nat.le_refl _) (.cells #[.slice a co.length c, .int .i64 k] 25)
  have hb := hb0.alloc (by simp) (.cells #[.slice none 0 0, .int .i64 0] 25)
  have B1 := (Box2.new w (.slice a co.length c) (.int .i64 k) 25).alloc (.cells #[.slice none 0 0, .int .i64 0] 25)
  have B2 := Box2.new (w.alloc (.cells #[.slice a co.length c, .int .i64 k] 25)) (.slice none 0 0) (.int .i64 0) 25
  rw [World.size_alloc] at B2
  go_enter Tryd.func30, Tryd.ntmps30
  go_wp2_with fail
  generalize (w.alloc (.cells #[.slice a co.length c, .int .i64 k] 25)).alloc (.cells #[.slice none 0 0, .int .i64 0] 25) = w2 at B1 B2 hb
  have h3 : AffR P w2 _ (co, k) := h.below hb
  refine (specAffV_any P _ (co, k) w2 h3).mono ?_
  rintro e w3 ⟨rfl, b3⟩
  have hbb := hb.trans (b3.mono hb.size)
  obtain ⟨s0, s1, _, _, m1⟩ := B1.below b3
  obtain ⟨t0, t1, t2, t3, m2⟩ := B2.below b3
  have H3 := hid (h3.below b3)
  clear B1 B2 h3 b3
  cases hV : affV (co, k)
  · have HV := hid hV; clear hV
    have Hb := hid ((hbb.setCell (p := ⟨w.heap.size + 1, 0, none⟩) (Nat.le_succ _) (.slice none 0 0)).setCell (p := ⟨w.heap.size + 1, 1, none⟩) (Nat.le_succ _) (.int .i64 0))
    clear hbb hb
    go_wp2_with fail
    refine bodyPost_ret (v := .tuple #[.agg #[.slice none 0 0, .int .i64 0], .bool false]) (by simp [results, Tryd.results30, go_sem, t0, t1, m2]) rfl ?_
    exact ⟨_, by rw [HV.out], by rw [HV.out]; exact ⟨_, rfl, Sl.nil _ _ _⟩, Hb.out⟩
  · have HV := hid hV; clear hV
    have Hb := hid ((hbb.setCell (p := ⟨w.heap.size + 1, 0, none⟩) (Nat.le_succ _) (.slice a co.length c)).setCell (p := ⟨w.heap.size + 1, 1, none⟩) (Nat.le_succ _) (.int .i64 k))
    clear hbb hb
    go_wp2_with fail
    refine bodyPost_ret (v := .tuple #[.agg #[.slice a co.length c, .int .i64 k], .bool true]) (by simp [results, Tryd.results30, go_sem, t0, t1, m2]) rfl ?_
    exact ⟨_, by rw [HV.out], by rw [HV.out]; exact h.below Hb.out, Hb.out⟩


set_option maxHeartbeats 3200000 in
theorem specScale_any (Px : Nat → Prop) (v : Value) (x : Aff) (k : Int) (w : World) (hx : AffR Px w v x) :
    Calls Tryd.prog 11 #[v, .int .i64 k] w (RetA2 (fun b => w.heap.size ≤ b) (scaleOf x k).1 (scaleOf x k).2 w) := by
  obtain ⟨a0, c0, rfl, _, _, hs0⟩ := hx.shape
  have hb0 := (Below.refl w.heap.size w).alloc (by simp) (.cells #[.slice a0 x.1.length c0, .int .i64 x.2] 25)
  have hb1 := hb0.alloc (by simp) (.cells #[.slice none 0 0, .int .i64 0] 25)
  have B0 := ((Box2.new w (.slice a0 x.1.length c0) (.int .i64 x.2) 25).alloc (.cells #[.slice none 0 0, .int .i64 0] 25))
  have B1 := (Box2.new (w.alloc (.cells #[.slice a0 x.1.length c0, .int .i64 x.2] 25)) (.slice none 0 0) (.int .i64 0) 25)
  rw [World.size_alloc] at B1
  go_enter Tryd.func11, Tryd.ntmps11
  go_wp2_with fail
  generalize ((w.alloc (.cells #[.slice a0 x.1.length c0, .int .i64 x.2] 25)).alloc (.cells #[.slice none 0 0, .int .i64 0] 25)) = W at B0 B1 hb1
  have Hb := hid hb1
  have HB0 := hid B0
  have HB1 := hid B1
  have Hx := hid (hx.below hb1)
  have hk : Below W.heap.size W W := Below.refl _ _
  clear hb0 hb1 B0 B1 hs0
  obtain ⟨p00, p01, _, _, p04⟩ := HB0.out.below hk
  obtain ⟨p10, p11, _, _, p14⟩ := HB1.out.below hk
  refine (specAffV_any _ _ x _ (Hx.out.below hk)).mono ?_
  rintro e w1 ⟨rfl, b1⟩
  replace hk := hk.trans (b1.mono hk.size)
  clear p00 p01 p04 p10 p11 p14
  obtain ⟨p00, p01, _, _, p04⟩ := HB0.out.below hk
  obtain ⟨p10, p11, _, _, p14⟩ := HB1.out.below hk
  cases c0 : affV x
  · have Cc0 := hid c0; clear c0
    have hsz := Hb.out.size
    have Hr := hid (((Hb.out.trans (hk.mono hsz)).setCell (p := ⟨w.heap.size + 1, 0, none⟩) (by show _ ≤ w.heap.size + 1; omega) (.slice none 0 0)).setCell (p := ⟨w.heap.size + 1, 1, none⟩) (by show _ ≤ w.heap.size + 1; omega) (.int .i64 0))
    clear hk hsz
    go_wp2_with fail
    refine bodyPost_ret (v := .tuple #[.agg #[.slice none 0 0, .int .i64 0], .bool false]) (by simp [results, Tryd.results11, go_sem, p10, p11, p14]) rfl ?_
    exact ⟨_, by rw [show scaleOf x k = (([], 0), false) from by rw [scaleOf, Cc0.out]; simp [chkOf]], by rw [show scaleOf x k = (([], 0), false) from by rw [scaleOf, Cc0.out]; simp [chkOf]]; exact ⟨_, rfl, Sl.nil _ _ _⟩, Hr.out⟩
  · have Cc0 := hid c0; clear c0
    go_wp2_with fail
    refine (l1Within_any k 99 _ (by omega) (by omega)).mono ?_
    rintro e w' ⟨rfl, rfl⟩
    cases c1 : inB k (-99) 99
    · have Cc1 := hid c1; clear c1
      have hsz := Hb.out.size
      have Hr := hid (((Hb.out.trans (hk.mono hsz)).setCell (p := ⟨w.heap.size + 1, 0, none⟩) (by show _ ≤ w.heap.size + 1; omega) (.slice none 0 0)).setCell (p := ⟨w.heap.size + 1, 1, none⟩) (by show _ ≤ w.heap.size + 1; omega) (.int .i64 0))
      clear hk hsz
      go_wp2_with fail
      refine bodyPost_ret (v := .tuple #[.agg #[.slice none 0 0, .int .i64 0], .bool false]) (by simp [results, Tryd.results11, go_sem, p10, p11, p14]) rfl ?_
      exact ⟨_, by rw [show scaleOf x k = (([], 0), false) from by rw [scaleOf, Cc0.out, Cc1.out]; simp [chkOf]], by rw [show scaleOf x k = (([], 0), false) from by rw [scaleOf, Cc0.out, Cc1.out]; simp [chkOf]]; exact ⟨_, rfl, Sl.nil _ _ _⟩, Hr.out⟩
    · have Cc1 := hid c1; clear c1
      go_wp2_with fail
      go_region_with (first
        | (go_at_call 32; refine (l1Zero_any _).mono ?_; rintro e y0 ⟨z0, rfl, hz0, b0⟩; have Hz0 := hid ((hz0.r (by simp [affSum])).mono (Q := fun b => W.heap.size ≤ b) fun b h _ => Nat.le_trans (Below.size hk.drew) h); have hk0 := hid (Below.trans hk.drew (b0.mono (Below.size hk.drew))); clear p00 p01 p04 p10 p11 p14; obtain ⟨p00, p01, _, _, p04⟩ := HB0.out.below hk0.out; obtain ⟨p10, p11, _, _, p14⟩ := HB1.out.below hk0.out; obtain ⟨az0, cz0, rfl, _, _, _⟩ := Hz0.out.shape; clear hz0 b0)
        | (go_at_call 31; refine (l1Combine_any _ _ _ _ x ([0, 0, 0, 0], 0) k 0 _ (Hx.out.below hk0.out) Hz0.out (affM_of Cc0.out) (affM_const (by omega)) (by have := Cc1.out; simp [inB] at this; omega) (by omega)).mono ?_; rintro e y1 ⟨z1, rfl, hz1, b1⟩; rw [comb_scale] at hz1; have Hz1 := hid ((hz1.r (by simp [affSum])).mono (Q := fun b => W.heap.size ≤ b) fun b h _ => Nat.le_trans (Below.size hk0.out) h); have hk1 := hid (Below.trans hk0.out (b1.mono (Below.size hk0.out))); clear p00 p01 p04 p10 p11 p14; obtain ⟨p00, p01, _, _, p04⟩ := HB0.out.below hk1.out; obtain ⟨p10, p11, _, _, p14⟩ := HB1.out.below hk1.out; obtain ⟨az1, cz1, rfl, _, _, _⟩ := Hz1.out.shape; clear hz1 b1)
        | (go_at_call 30; refine (l1Checked_any _ _ _ _ Hz1.out).mono ?_; rintro e wc ⟨vc, rfl, hc, bc⟩; have hk2 := hid (Below.trans hk1.out (bc.mono (Below.size hk1.out))); clear p00 p01 p04 p10 p11 p14; obtain ⟨p00, p01, _, _, p04⟩ := HB0.out.below hk2.out; obtain ⟨p10, p11, _, _, p14⟩ := HB1.out.below hk2.out; generalize hzz : (if affV (affSum ([0, 0, 0, 0], 0) k x) then (affSum ([0, 0, 0, 0], 0) k x) else (([], 0) : Aff)) = zz at hc; have Hzz := hid hzz; clear hzz; obtain ⟨ac, cc, rfl, _, _, hsc⟩ := hc.shape))
      all_goals
        replace hk := hk2.out
        have hsz := Hb.out.size
        have Hr := hid (((Hb.out.trans (hk.mono hsz)).setCell (p := ⟨w.heap.size + 1, 0, none⟩) (by show _ ≤ w.heap.size + 1; omega) (.slice ac zz.1.length cc)).setCell (p := ⟨w.heap.size + 1, 1, none⟩) (by show _ ≤ w.heap.size + 1; omega) (.int .i64 zz.2))
        have Hs := hid ((hsc.store (p := ⟨w.heap.size + 1, 0, none⟩) (u := .slice ac zz.1.length cc) (fun h => by have h5 : W.heap.size ≤ w.heap.size + 1 := h; have h6 := HB1.out.lt; omega)).store (p := ⟨w.heap.size + 1, 1, none⟩) (u := .int .i64 zz.2) (fun h => by have h5 : W.heap.size ≤ w.heap.size + 1 := h; have h6 := HB1.out.lt; omega))
        clear hk hc hsc bc
        have Hsz := hid hsz; clear hsz
        go_wp2_with fail
        refine bodyPost_ret (v := .tuple #[.agg #[.slice ac zz.1.length cc, .int .i64 zz.2], .bool (affV (affSum ([0, 0, 0, 0], 0) k x))]) (by simp [results, Tryd.results11, go_sem, p10, p11, p14]) rfl ?_
        have hp : scaleOf x k = (zz, affV (affSum ([0, 0, 0, 0], 0) k x)) := by rw [scaleOf, Cc0.out, Cc1.out]; exact (chkOf_true _).trans (by (try simp only [Int.toNat_natCast]); rw [Hzz.out])
        exact ⟨_, by rw [hp], by rw [hp]; exact ⟨_, rfl, Hs.out.mono fun b (h : W.heap.size ≤ b) _ => Nat.le_trans Hsz.out h⟩, Hr.out⟩


end Go.Proofs.YtkhlaphegnldeaaDoor
