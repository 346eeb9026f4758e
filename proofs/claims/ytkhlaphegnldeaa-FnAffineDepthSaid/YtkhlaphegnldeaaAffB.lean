/- Sums, multiples and substitutions of affine expressions in the reference, checked; condition: what the arguments hold. -/
import Derived.Test.YtkhlaphegnldeaaAffZ
import Derived.Test.YtkhlaphegnldeaaAffA
namespace Go.Proofs.Ytkhlaphegnldeaa
set_option linter.unusedVariables false
set_option linter.unusedSimpArgs false
open Go.RowKit

theorem comb_sum (x y : Aff) (k : Int) : affComb x 1 y k = affSum x k y := by
  simp [affComb, combTo, affSum, List.range_succ]
theorem comb_scale (x : Aff) (k : Int) : affComb x k ([0, 0, 0, 0], 0) 0 = affSum ([0, 0, 0, 0], 0) k x := by
  simp [affComb, combTo, affSum, List.range_succ]
theorem comb_subst (x y : Aff) (v : Nat) : affComb (x.1.set v 0, x.2) 1 y (x.1.getD v 0) = affSubst x v y := comb_sum _ _ _

set_option maxHeartbeats 1600000 in
theorem l1Checked_any (P : Nat → Prop) (v : Value) (x : Aff) (w : World) (h : AffR P w v x) : Calls Try.prog 52 #[v] w (RetChk P x w) := by
  obtain ⟨a, c, rfl, h1, h2, hs⟩ := h.shape
  obtain ⟨co, k⟩ := x
  simp only at hs h1 h2 ⊢
  have hb0 := (Below.refl w.heap.size w).alloc (Nat.le_refl _) (.cells #[.slice a co.length c, .int .i64 k] 25)
  have hb := hb0.alloc (by simp) (.cells #[.slice none 0 0, .int .i64 0] 25)
  have B1 := (Box2.new w (.slice a co.length c) (.int .i64 k) 25).alloc (.cells #[.slice none 0 0, .int .i64 0] 25)
  have B2 := Box2.new (w.alloc (.cells #[.slice a co.length c, .int .i64 k] 25)) (.slice none 0 0) (.int .i64 0) 25
  rw [World.size_alloc] at B2
  go_enter Try.func52, Try.ntmps52
  go_wp2_with fail
  generalize (w.alloc (.cells #[.slice a co.length c, .int .i64 k] 25)).alloc (.cells #[.slice none 0 0, .int .i64 0] 25) = w2 at B1 B2 hb
  have h3 : AffR P w2 _ (co, k) := h.below hb
  refine (specAffV_any P _ (co, k) w2 h3).mono ?_
  rintro e w3 ⟨rfl, b3⟩
  have hbb := hb.trans (b3.mono hb.size)
  obtain ⟨s0, s1, _, _, m1⟩ := B1.below b3
  obtain ⟨t0, t1, t2, t3, m2⟩ := B2.below b3
  have H3 := hid (h3.below b3)
  clear B1 B2 h3 b3
  cases hV : affV (co, k)
  · have HV := hid hV; clear hV
    have Hb := hid ((hbb.setCell (p := ⟨w.heap.size + 1, 0, none⟩) (Nat.le_succ _) (.slice none 0 0)).setCell (p := ⟨w.heap.size + 1, 1, none⟩) (Nat.le_succ _) (.int .i64 0))
    clear hbb hb
    go_wp2_with fail
    refine bodyPost_ret (v := .tuple #[.agg #[.slice none 0 0, .int .i64 0], .bool false]) (by simp [results, Try.results52, go_sem, t0, t1, m2]) rfl ?_
    exact ⟨_, by rw [HV.out], by rw [HV.out]; exact ⟨_, rfl, Sl.nil _ _ _⟩, Hb.out⟩
  · have HV := hid hV; clear hV
    have Hb := hid ((hbb.setCell (p := ⟨w.heap.size + 1, 0, none⟩) (Nat.le_succ _) (.slice a co.length c)).setCell (p := ⟨w.heap.size + 1, 1, none⟩) (Nat.le_succ _) (.int .i64 k))
    clear hbb hb
    go_wp2_with fail
    refine bodyPost_ret (v := .tuple #[.agg #[.slice a co.length c, .int .i64 k], .bool true]) (by simp [results, Try.results52, go_sem, t0, t1, m2]) rfl ?_
    exact ⟨_, by rw [HV.out], by rw [HV.out]; exact h.below Hb.out, Hb.out⟩

set_option maxHeartbeats 3200000 in
theorem specAdd_any (Px : Nat → Prop) (Py : Nat → Prop) (v : Value) (x : Aff) (u : Value) (y : Aff) (w : World) (hx : AffR Px w v x) (hy : AffR Py w u y) :
    Calls Try.prog 24 #[v, u] w (RetA2 (fun b => w.heap.size ≤ b) (addOf x y).1 (addOf x y).2 w) := by
  obtain ⟨a0, c0, rfl, _, _, hs0⟩ := hx.shape
  obtain ⟨a1, c1, rfl, _, _, hs1⟩ := hy.shape
  have hb0 := (Below.refl w.heap.size w).alloc (by simp) (.cells #[.slice a0 x.1.length c0, .int .i64 x.2] 25)
  have hb1 := hb0.alloc (by simp) (.cells #[.slice a1 y.1.length c1, .int .i64 y.2] 25)
  have hb2 := hb1.alloc (by simp; omega) (.cells #[.slice none 0 0, .int .i64 0] 25)
  have B0 := (((Box2.new w (.slice a0 x.1.length c0) (.int .i64 x.2) 25).alloc (.cells #[.slice a1 y.1.length c1, .int .i64 y.2] 25)).alloc (.cells #[.slice none 0 0, .int .i64 0] 25))
  have B1 := ((Box2.new (w.alloc (.cells #[.slice a0 x.1.length c0, .int .i64 x.2] 25)) (.slice a1 y.1.length c1) (.int .i64 y.2) 25).alloc (.cells #[.slice none 0 0, .int .i64 0] 25))
  rw [World.size_alloc] at B1
  have B2 := (Box2.new ((w.alloc (.cells #[.slice a0 x.1.length c0, .int .i64 x.2] 25)).alloc (.cells #[.slice a1 y.1.length c1, .int .i64 y.2] 25)) (.slice none 0 0) (.int .i64 0) 25)
  rw [World.size_alloc, World.size_alloc] at B2
  go_enter Try.func24, Try.ntmps24
  go_wp2_with fail
  generalize (((w.alloc (.cells #[.slice a0 x.1.length c0, .int .i64 x.2] 25)).alloc (.cells #[.slice a1 y.1.length c1, .int .i64 y.2] 25)).alloc (.cells #[.slice none 0 0, .int .i64 0] 25)) = W at B0 B1 B2 hb2
  have Hb := hid hb2
  have HB0 := hid B0
  have HB1 := hid B1
  have HB2 := hid B2
  have Hx := hid (hx.below hb2)
  have Hy := hid (hy.below hb2)
  have hk : Below W.heap.size W W := Below.refl _ _
  clear hb0 hb1 hb2 B0 B1 B2 hs0 hs1
  obtain ⟨p00, p01, _, _, p04⟩ := HB0.out.below hk
  obtain ⟨p10, p11, _, _, p14⟩ := HB1.out.below hk
  obtain ⟨p20, p21, _, _, p24⟩ := HB2.out.below hk
  refine (specAffV_any _ _ x _ (Hx.out.below hk)).mono ?_
  rintro e w1 ⟨rfl, b1⟩
  replace hk := hk.trans (b1.mono hk.size)
  clear p00 p01 p04 p10 p11 p14 p20 p21 p24
  obtain ⟨p00, p01, _, _, p04⟩ := HB0.out.below hk
  obtain ⟨p10, p11, _, _, p14⟩ := HB1.out.below hk
  obtain ⟨p20, p21, _, _, p24⟩ := HB2.out.below hk
  cases c0 : affV x
  · have Cc0 := hid c0; clear c0
    have hsz := Hb.out.size
    have Hr := hid (((Hb.out.trans (hk.mono hsz)).setCell (p := ⟨w.heap.size + 1 + 1, 0, none⟩) (by show _ ≤ w.heap.size + 1 + 1; omega) (.slice none 0 0)).setCell (p := ⟨w.heap.size + 1 + 1, 1, none⟩) (by show _ ≤ w.heap.size + 1 + 1; omega) (.int .i64 0))
    clear hk hsz
    go_wp2_with fail
    refine bodyPost_ret (v := .tuple #[.agg #[.slice none 0 0, .int .i64 0], .bool false]) (by simp [results, Try.results24, go_sem, p20, p21, p24]) rfl ?_
    exact ⟨_, by rw [show addOf x y = (([], 0), false) from by rw [addOf, Cc0.out]; simp [chkOf]], by rw [show addOf x y = (([], 0), false) from by rw [addOf, Cc0.out]; simp [chkOf]]; exact ⟨_, rfl, Sl.nil _ _ _⟩, Hr.out⟩
  · have Cc0 := hid c0; clear c0
    go_wp2_with fail
    refine (specAffV_any _ _ y _ (Hy.out.below hk)).mono ?_
    rintro e w2 ⟨rfl, b2⟩
    replace hk := hk.trans (b2.mono hk.size)
    clear p00 p01 p04 p10 p11 p14 p20 p21 p24
    obtain ⟨p00, p01, _, _, p04⟩ := HB0.out.below hk
    obtain ⟨p10, p11, _, _, p14⟩ := HB1.out.below hk
    obtain ⟨p20, p21, _, _, p24⟩ := HB2.out.below hk
    cases c1 : affV y
    · have Cc1 := hid c1; clear c1
      have hsz := Hb.out.size
      have Hr := hid (((Hb.out.trans (hk.mono hsz)).setCell (p := ⟨w.heap.size + 1 + 1, 0, none⟩) (by show _ ≤ w.heap.size + 1 + 1; omega) (.slice none 0 0)).setCell (p := ⟨w.heap.size + 1 + 1, 1, none⟩) (by show _ ≤ w.heap.size + 1 + 1; omega) (.int .i64 0))
      clear hk hsz
      go_wp2_with fail
      refine bodyPost_ret (v := .tuple #[.agg #[.slice none 0 0, .int .i64 0], .bool false]) (by simp [results, Try.results24, go_sem, p20, p21, p24]) rfl ?_
      exact ⟨_, by rw [show addOf x y = (([], 0), false) from by rw [addOf, Cc0.out, Cc1.out]; simp [chkOf]], by rw [show addOf x y = (([], 0), false) from by rw [addOf, Cc0.out, Cc1.out]; simp [chkOf]]; exact ⟨_, rfl, Sl.nil _ _ _⟩, Hr.out⟩
    · have Cc1 := hid c1; clear c1
      go_wp2_with fail
      refine (l1Combine_any _ _ _ _ x y 1 1 _ (Hx.out.below hk) (Hy.out.below hk) (affM_of Cc0.out) (affM_of Cc1.out) (by omega) (by omega)).mono ?_
      rintro e wz ⟨vz, rfl, hz, bz⟩
      rw [comb_sum] at hz
      have Hz : Hid (AffR (fun b => W.heap.size ≤ b) wz vz _) := hid ((hz.r (by simp [affSum])).mono fun b h _ => Nat.le_trans hk.size h)
      replace hk := hk.trans (bz.mono hk.size)
      clear p00 p01 p04 p10 p11 p14 p20 p21 p24
      obtain ⟨p00, p01, _, _, p04⟩ := HB0.out.below hk; obtain ⟨p10, p11, _, _, p14⟩ := HB1.out.below hk; obtain ⟨p20, p21, _, _, p24⟩ := HB2.out.below hk
      obtain ⟨az, cz, rfl, _, _, _⟩ := Hz.out.shape
      clear hz bz
      go_wp2_with fail
      refine (l1Checked_any _ _ _ _ Hz.out).mono ?_
      rintro e wc ⟨vc, rfl, hc, bc⟩
      replace hk := hk.trans (bc.mono hk.size)
      clear p00 p01 p04 p10 p11 p14 p20 p21 p24
      obtain ⟨p00, p01, _, _, p04⟩ := HB0.out.below hk
      obtain ⟨p10, p11, _, _, p14⟩ := HB1.out.below hk
      obtain ⟨p20, p21, _, _, p24⟩ := HB2.out.below hk
      generalize hzz : (if affV (affSum x 1 y) then (affSum x 1 y) else (([], 0) : Aff)) = zz at hc
      have Hzz := hid hzz; clear hzz
      obtain ⟨ac, cc, rfl, _, _, hsc⟩ := hc.shape
      have hsz := Hb.out.size
      have Hr := hid (((Hb.out.trans (hk.mono hsz)).setCell (p := ⟨w.heap.size + 1 + 1, 0, none⟩) (by show _ ≤ w.heap.size + 1 + 1; omega) (.slice ac zz.1.length cc)).setCell (p := ⟨w.heap.size + 1 + 1, 1, none⟩) (by show _ ≤ w.heap.size + 1 + 1; omega) (.int .i64 zz.2))
      have Hs := hid ((hsc.store (p := ⟨w.heap.size + 1 + 1, 0, none⟩) (u := .slice ac zz.1.length cc) (fun h => by have h5 : W.heap.size ≤ w.heap.size + 1 + 1 := h; have h6 := HB2.out.lt; omega)).store (p := ⟨w.heap.size + 1 + 1, 1, none⟩) (u := .int .i64 zz.2) (fun h => by have h5 : W.heap.size ≤ w.heap.size + 1 + 1 := h; have h6 := HB2.out.lt; omega))
      clear hk hc hsc bc
      have Hsz := hid hsz; clear hsz
      go_wp2_with fail
      refine bodyPost_ret (v := .tuple #[.agg #[.slice ac zz.1.length cc, .int .i64 zz.2], .bool (affV (affSum x 1 y))]) (by simp [results, Try.results24, go_sem, p20, p21, p24]) rfl ?_
      have hp : addOf x y = (zz, affV (affSum x 1 y)) := by rw [addOf, Cc0.out, Cc1.out]; exact (chkOf_true _).trans (by (try simp only [Int.toNat_natCast]); rw [Hzz.out])
      exact ⟨_, by rw [hp], by rw [hp]; exact ⟨_, rfl, Hs.out.mono fun b (h : W.heap.size ≤ b) _ => Nat.le_trans Hsz.out h⟩, Hr.out⟩


set_option maxHeartbeats 3200000 in
theorem specSubst_any (Px : Nat → Prop) (Py : Nat → Prop) (v : Value) (x : Aff) (u : Value) (y : Aff) (j : Int) (w : World) (hx : AffR Px w v x) (hy : AffR Py w u y) :
    Calls Try.prog 26 #[v, .int .i64 j, u] w (RetA2 (fun b => w.heap.size ≤ b) (substOf x j y).1 (substOf x j y).2 w) := by
  obtain ⟨a0, c0, rfl, _, _, hs0⟩ := hx.shape
  obtain ⟨a1, c1, rfl, _, _, hs1⟩ := hy.shape
  have hb0 := (Below.refl w.heap.size w).alloc (by simp) (.cells #[.slice a0 x.1.length c0, .int .i64 x.2] 25)
  have hb1 := hb0.alloc (by simp) (.cells #[.slice a1 y.1.length c1, .int .i64 y.2] 25)
  have hb2 := hb1.alloc (by simp; omega) (.cells #[.slice none 0 0, .int .i64 0] 25)
  have B0 := (((Box2.new w (.slice a0 x.1.length c0) (.int .i64 x.2) 25).alloc (.cells #[.slice a1 y.1.length c1, .int .i64 y.2] 25)).alloc (.cells #[.slice none 0 0, .int .i64 0] 25))
  have B1 := ((Box2.new (w.alloc (.cells #[.slice a0 x.1.length c0, .int .i64 x.2] 25)) (.slice a1 y.1.length c1) (.int .i64 y.2) 25).alloc (.cells #[.slice none 0 0, .int .i64 0] 25))
  rw [World.size_alloc] at B1
  have B2 := (Box2.new ((w.alloc (.cells #[.slice a0 x.1.length c0, .int .i64 x.2] 25)).alloc (.cells #[.slice a1 y.1.length c1, .int .i64 y.2] 25)) (.slice none 0 0) (.int .i64 0) 25)
  rw [World.size_alloc, World.size_alloc] at B2
  go_enter Try.func26, Try.ntmps26
  go_wp2_with fail
  generalize (((w.alloc (.cells #[.slice a0 x.1.length c0, .int .i64 x.2] 25)).alloc (.cells #[.slice a1 y.1.length c1, .int .i64 y.2] 25)).alloc (.cells #[.slice none 0 0, .int .i64 0] 25)) = W at B0 B1 B2 hb2
  have Hb := hid hb2
  have HB0 := hid B0
  have HB1 := hid B1
  have HB2 := hid B2
  have Hx := hid (hx.below hb2)
  have Hy := hid (hy.below hb2)
  have hk : Below W.heap.size W W := Below.refl _ _
  clear hb0 hb1 hb2 B0 B1 B2 hs0 hs1
  obtain ⟨p00, p01, _, _, p04⟩ := HB0.out.below hk
  obtain ⟨p10, p11, _, _, p14⟩ := HB1.out.below hk
  obtain ⟨p20, p21, _, _, p24⟩ := HB2.out.below hk
  refine (specAffV_any _ _ x _ (Hx.out.below hk)).mono ?_
  rintro e w1 ⟨rfl, b1⟩
  replace hk := hk.trans (b1.mono hk.size)
  clear p00 p01 p04 p10 p11 p14 p20 p21 p24
  obtain ⟨p00, p01, _, _, p04⟩ := HB0.out.below hk
  obtain ⟨p10, p11, _, _, p14⟩ := HB1.out.below hk
  obtain ⟨p20, p21, _, _, p24⟩ := HB2.out.below hk
  cases c0 : affV x
  · have Cc0 := hid c0; clear c0
    have hsz := Hb.out.size
    have Hr := hid (((Hb.out.trans (hk.mono hsz)).setCell (p := ⟨w.heap.size + 1 + 1, 0, none⟩) (by show _ ≤ w.heap.size + 1 + 1; omega) (.slice none 0 0)).setCell (p := ⟨w.heap.size + 1 + 1, 1, none⟩) (by show _ ≤ w.heap.size + 1 + 1; omega) (.int .i64 0))
    clear hk hsz
    go_wp2_with fail
    refine bodyPost_ret (v := .tuple #[.agg #[.slice none 0 0, .int .i64 0], .bool false]) (by simp [results, Try.results26, go_sem, p20, p21, p24]) rfl ?_
    exact ⟨_, by rw [show substOf x j y = (([], 0), false) from by rw [substOf, Cc0.out]; simp [chkOf]], by rw [show substOf x j y = (([], 0), false) from by rw [substOf, Cc0.out]; simp [chkOf]]; exact ⟨_, rfl, Sl.nil _ _ _⟩, Hr.out⟩
  · have Cc0 := hid c0; clear c0
    go_wp2_with fail
    refine (specAffV_any _ _ y _ (Hy.out.below hk)).mono ?_
    rintro e w2 ⟨rfl, b2⟩
    replace hk := hk.trans (b2.mono hk.size)
    clear p00 p01 p04 p10 p11 p14 p20 p21 p24
    obtain ⟨p00, p01, _, _, p04⟩ := HB0.out.below hk
    obtain ⟨p10, p11, _, _, p14⟩ := HB1.out.below hk
    obtain ⟨p20, p21, _, _, p24⟩ := HB2.out.below hk
    cases c1 : affV y
    · have Cc1 := hid c1; clear c1
      have hsz := Hb.out.size
      have Hr := hid (((Hb.out.trans (hk.mono hsz)).setCell (p := ⟨w.heap.size + 1 + 1, 0, none⟩) (by show _ ≤ w.heap.size + 1 + 1; omega) (.slice none 0 0)).setCell (p := ⟨w.heap.size + 1 + 1, 1, none⟩) (by show _ ≤ w.heap.size + 1 + 1; omega) (.int .i64 0))
      clear hk hsz
      go_wp2_with fail
      refine bodyPost_ret (v := .tuple #[.agg #[.slice none 0 0, .int .i64 0], .bool false]) (by simp [results, Try.results26, go_sem, p20, p21, p24]) rfl ?_
      exact ⟨_, by rw [show substOf x j y = (([], 0), false) from by rw [substOf, Cc0.out, Cc1.out]; simp [chkOf]], by rw [show substOf x j y = (([], 0), false) from by rw [substOf, Cc0.out, Cc1.out]; simp [chkOf]]; exact ⟨_, rfl, Sl.nil _ _ _⟩, Hr.out⟩
    · have Cc1 := hid c1; clear c1
      by_cases j0 : j < 0
      · have dj0 : decide (j < 0) = true := decide_eq_true j0
        have Cci := hid (show inB j 0 3 = false by simp [inB]; omega); clear j0
        have hsz := Hb.out.size
        have Hr := hid (((Hb.out.trans (hk.mono hsz)).setCell (p := ⟨w.heap.size + 1 + 1, 0, none⟩) (by show _ ≤ w.heap.size + 1 + 1; omega) (.slice none 0 0)).setCell (p := ⟨w.heap.size + 1 + 1, 1, none⟩) (by show _ ≤ w.heap.size + 1 + 1; omega) (.int .i64 0))
        clear hk hsz
        go_wp2_with fail
        refine bodyPost_ret (v := .tuple #[.agg #[.slice none 0 0, .int .i64 0], .bool false]) (by simp [results, Try.results26, go_sem, p20, p21, p24]) rfl ?_
        exact ⟨_, by rw [show substOf x j y = (([], 0), false) from by rw [substOf, Cc0.out, Cc1.out, Cci.out]; simp [chkOf]], by rw [show substOf x j y = (([], 0), false) from by rw [substOf, Cc0.out, Cc1.out, Cci.out]; simp [chkOf]]; exact ⟨_, rfl, Sl.nil _ _ _⟩, Hr.out⟩
      · have dj0 : decide (j < 0) = false := decide_eq_false j0
        by_cases j4 : 4 ≤ j
        · have dj4 : decide (4 ≤ j) = true := decide_eq_true j4
          have Cci := hid (show inB j 0 3 = false by simp [inB]; omega); clear j4
          have hsz := Hb.out.size
          have Hr := hid (((Hb.out.trans (hk.mono hsz)).setCell (p := ⟨w.heap.size + 1 + 1, 0, none⟩) (by show _ ≤ w.heap.size + 1 + 1; omega) (.slice none 0 0)).setCell (p := ⟨w.heap.size + 1 + 1, 1, none⟩) (by show _ ≤ w.heap.size + 1 + 1; omega) (.int .i64 0))
          clear hk hsz
          go_wp2_with fail
          refine bodyPost_ret (v := .tuple #[.agg #[.slice none 0 0, .int .i64 0], .bool false]) (by simp [results, Try.results26, go_sem, p20, p21, p24]) rfl ?_
          exact ⟨_, by rw [show substOf x j y = (([], 0), false) from by rw [substOf, Cc0.out, Cc1.out, Cci.out]; simp [chkOf]], by rw [show substOf x j y = (([], 0), false) from by rw [substOf, Cc0.out, Cc1.out, Cci.out]; simp [chkOf]]; exact ⟨_, rfl, Sl.nil _ _ _⟩, Hr.out⟩
        · have dj4 : decide (4 ≤ j) = false := decide_eq_false j4
          have Cc2 := hid (show inB j 0 3 = true by simp [inB]; omega)
          obtain ⟨jn, rfl⟩ : ∃ jn : Nat, j = jn := ⟨j.toNat, by omega⟩
          have jn4 : jn < 4 := by omega
          clear j0 j4
          go_wp2_with fail
          refine (l1Subst_any _ _ _ _ x y jn _ (Hx.out.below hk) (Hy.out.below hk) (affM_of Cc0.out) (affM_of Cc1.out) jn4).mono ?_
          rintro e wz ⟨vz, rfl, hz, bz⟩
          have Hz : Hid (AffR (fun b => W.heap.size ≤ b) wz vz _) := hid ((hz.r (by simp [affSubst, affSum])).mono fun b h _ => Nat.le_trans hk.size h)
          replace hk := hk.trans (bz.mono hk.size)
          clear p00 p01 p04 p10 p11 p14 p20 p21 p24
          obtain ⟨p00, p01, _, _, p04⟩ := HB0.out.below hk; obtain ⟨p10, p11, _, _, p14⟩ := HB1.out.below hk; obtain ⟨p20, p21, _, _, p24⟩ := HB2.out.below hk
          obtain ⟨az, cz, rfl, _, _, _⟩ := Hz.out.shape
          clear hz bz
          go_wp2_with fail
          refine (l1Checked_any _ _ _ _ Hz.out).mono ?_
          rintro e wc ⟨vc, rfl, hc, bc⟩
          replace hk := hk.trans (bc.mono hk.size)
          clear p00 p01 p04 p10 p11 p14 p20 p21 p24
          obtain ⟨p00, p01, _, _, p04⟩ := HB0.out.below hk
          obtain ⟨p10, p11, _, _, p14⟩ := HB1.out.below hk
          obtain ⟨p20, p21, _, _, p24⟩ := HB2.out.below hk
          generalize hzz : (if affV (affSubst x jn y) then (affSubst x jn y) else (([], 0) : Aff)) = zz at hc
          have Hzz := hid hzz; clear hzz
          obtain ⟨ac, cc, rfl, _, _, hsc⟩ := hc.shape
          have hsz := Hb.out.size
          have Hr := hid (((Hb.out.trans (hk.mono hsz)).setCell (p := ⟨w.heap.size + 1 + 1, 0, none⟩) (by show _ ≤ w.heap.size + 1 + 1; omega) (.slice ac zz.1.length cc)).setCell (p := ⟨w.heap.size + 1 + 1, 1, none⟩) (by show _ ≤ w.heap.size + 1 + 1; omega) (.int .i64 zz.2))
          have Hs := hid ((hsc.store (p := ⟨w.heap.size + 1 + 1, 0, none⟩) (u := .slice ac zz.1.length cc) (fun h => by have h5 : W.heap.size ≤ w.heap.size + 1 + 1 := h; have h6 := HB2.out.lt; omega)).store (p := ⟨w.heap.size + 1 + 1, 1, none⟩) (u := .int .i64 zz.2) (fun h => by have h5 : W.heap.size ≤ w.heap.size + 1 + 1 := h; have h6 := HB2.out.lt; omega))
          clear hk hc hsc bc
          have Hsz := hid hsz; clear hsz
          go_wp2_with fail
          refine bodyPost_ret (v := .tuple #[.agg #[.slice ac zz.1.length cc, .int .i64 zz.2], .bool (affV (affSubst x jn y))]) (by simp [results, Try.results26, go_sem, p20, p21, p24]) rfl ?_
          have hp : substOf x (jn : Int) y = (zz, affV (affSubst x jn y)) := by rw [substOf, Cc0.out, Cc1.out, Cc2.out]; exact (chkOf_true _).trans (by (try simp only [Int.toNat_natCast]); rw [Hzz.out])
          exact ⟨_, by rw [hp], by rw [hp]; exact ⟨_, rfl, Hs.out.mono fun b (h : W.heap.size ≤ b) _ => Nat.le_trans Hsz.out h⟩, Hr.out⟩

end Go.Proofs.Ytkhlaphegnldeaa
