/- Sums, multiples and substitutions of affine expressions that are checked; condition: what the arguments hold. -/
import Derived.Test.YtkhlaphegnldeaaDoorAffK
namespace Go.Proofs.YtkhlaphegnldeaaDoor
set_option linter.unusedVariables false
set_option linter.unusedSimpArgs false
open Go.RowKit

/-- The call hands back an expression and whether there is one. -/
def RetA2 (P : Nat → Prop) (x : Aff) (ok : Bool) (w : World) (e : Ending) (w' : World) : Prop :=
  ∃ v, e = .returned (.tuple #[v, .bool ok]) ∧ AffR P w' v x ∧ Below w.heap.size w w'
def chkOf (ok : Bool) (z : Aff) : Aff × Bool := if ok && affV z then (z, true) else (([], 0), false)
theorem chkOf_false (z : Aff) : chkOf false z = (([], 0), false) := rfl
theorem chkOf_true (z : Aff) : chkOf true z = (if affV z then z else ([], 0), affV z) := by
  unfold chkOf
  cases affV z <;> rfl
def addOf (x y : Aff) : Aff × Bool := chkOf (affV x && affV y) (affSum x 1 y)
def scaleOf (x : Aff) (k : Int) : Aff × Bool := chkOf (affV x && inB k (-99) 99) (affSum ([0, 0, 0, 0], 0) k x)
def substOf (x : Aff) (j : Int) (y : Aff) : Aff × Bool := chkOf (affV x && affV y && inB j 0 3) (affSubst x j.toNat y)
def varOf (j : Int) : Aff × Bool := if inB j 0 3 then (([0, 0, 0, 0].set j.toNat 1, 0), true) else (([], 0), false)

set_option maxHeartbeats 3200000 in
theorem implAdd_any (Px : Nat → Prop) (Py : Nat → Prop) (v : Value) (x : Aff) (u : Value) (y : Aff) (w : World) (hx : AffR Px w v x) (hy : AffR Py w u y) :
    Calls Tryd.prog 13 #[v, u] w (RetA2 (fun b => w.heap.size ≤ b) (addOf x y).1 (addOf x y).2 w) := by
  obtain ⟨a0, c0, rfl, _, _, hs0⟩ := hx.shape
  obtain ⟨a1, c1, rfl, _, _, hs1⟩ := hy.shape
  have hb0 := (Below.refl w.heap.size w).alloc (by simp) (.cells #[.slice a0 x.1.length c0, .int .i64 x.2] 25)
  have hb1 := hb0.alloc (by simp) (.cells #[.slice a1 y.1.length c1, .int .i64 y.2] 25)
  have hb2 := hb1.alloc (by simp; omega) (.cells #[.slice none 0 0, .int .i64 0] 25)
  have B0 := (((Box2.new w (.slice a0 x.1.length c0) (.int .i64 x.2) 25).alloc (.cells #[.slice a1 y.1.length c1, .int .i64 y.2] 25)).alloc (.cells #[.slice none 0 0, .int .i64 0] 25))
  have B1 := ((Box2.new (w.alloc (.cells #[.slice a0 x.1.length c0, .int .i64 x.2] 25)) (.slice a1 y.1.length c1) (.int .i64 y.2) 25).alloc (.cells #[.slice none 0 0, .int .i64 0] 25))
  rw [World.size_alloc] at B1
  have B2 := (Box2.new ((w.alloc (.cells #[.slice a0 x.1.length c0, .int .i64 x.2] 25)).alloc (.cells #[.slice a1 y.1.length c1, .int .i64 y.2] 25)) (.slice none 0 0) (.int .i64 0) 25)
  rw [World.size_alloc, World.size_alloc] at B2
  go_enter Tryd.func13, Tryd.ntmps13
  go_wp2_with fail
  generalize (((w.alloc (.cells #[.slice a0 x.1.length c0, .int .i64 x.2] 25)).alloc (.cells #[.slice a1 y.1.length c1, .int .i64 y.2] 25)).alloc (.cells #[.slice none 0 0, .int .i64 0] 25)) = W at B0 B1 B2 hb2
  have Hb := hid hb2
  have HB0 := hid B0
  have HB1 := hid B1
  have HB2 := hid B2
  have Hx := hid (hx.below hb2)
  have Hy := hid (hy.below hb2)
  have hk : Below W.heap.size W W := Below.refl _ _
  clear hb0 hb1 hb2 B0 B1 B2 hs0 hs1
  obtain ⟨p00, p01, _, _, p04⟩ := HB0.out.below hk
  obtain ⟨p10, p11, _, _, p14⟩ := HB1.out.below hk
  obtain ⟨p20, p21, _, _, p24⟩ := HB2.out.below hk
  refine (implAffV_any _ _ x _ (Hx.out.below hk)).mono ?_
  rintro e w1 ⟨rfl, b1⟩
  replace hk := hk.trans (b1.mono hk.size)
  clear p00 p01 p04 p10 p11 p14 p20 p21 p24
  obtain ⟨p00, p01, _, _, p04⟩ := HB0.out.below hk
  obtain ⟨p10, p11, _, _, p14⟩ := HB1.out.below hk
  obtain ⟨p20, p21, _, _, p24⟩ := HB2.out.below hk
  cases c0 : affV x
  · have Cc0 := hid c0; clear c0
    have hsz := Hb.out.size
    have Hr := hid (((Hb.out.trans (hk.mono hsz)).setCell (p := ⟨w.heap.size + 1 + 1, 0, none⟩) (by show _ ≤ w.heap.size + 1 + 1; omega) (.slice none 0 0)).setCell (p := ⟨w.heap.size + 1 + 1, 1, none⟩) (by show _ ≤ w.heap.size + 1 + 1; omega) (.int .i64 0))
    clear hk hsz
    go_wp2_with fail
    refine bodyPost_ret (v := .tuple #[.agg #[.slice none 0 0, .int .i64 0], .bool false]) (by simp [results, Tryd.results13, go_sem, p20, p21, p24]) rfl ?_
    exact ⟨_, by rw [show addOf x y = (([], 0), false) from by rw [addOf, Cc0.out]; simp [chkOf]], by rw [show addOf x y = (([], 0), false) from by rw [addOf, Cc0.out]; simp [chkOf]]; exact ⟨_, rfl, Sl.nil _ _ _⟩, Hr.out⟩
  · have Cc0 := hid c0; clear c0
    go_wp2_with fail
    refine (implAffV_any _ _ y _ (Hy.out.below hk)).mono ?_
    rintro e w2 ⟨rfl, b2⟩
    replace hk := hk.trans (b2.mono hk.size)
    clear p00 p01 p04 p10 p11 p14 p20 p21 p24
    obtain ⟨p00, p01, _, _, p04⟩ := HB0.out.below hk
    obtain ⟨p10, p11, _, _, p14⟩ := HB1.out.below hk
    obtain ⟨p20, p21, _, _, p24⟩ := HB2.out.below hk
    cases c1 : affV y
    · have Cc1 := hid c1; clear c1
      have hsz := Hb.out.size
      have Hr := hid (((Hb.out.trans (hk.mono hsz)).setCell (p := ⟨w.heap.size + 1 + 1, 0, none⟩) (by show _ ≤ w.heap.size + 1 + 1; omega) (.slice none 0 0)).setCell (p := ⟨w.heap.size + 1 + 1, 1, none⟩) (by show _ ≤ w.heap.size + 1 + 1; omega) (.int .i64 0))
      clear hk hsz
      go_wp2_with fail
      refine bodyPost_ret (v := .tuple #[.agg #[.slice none 0 0, .int .i64 0], .bool false]) (by simp [results, Tryd.results13, go_sem, p20, p21, p24]) rfl ?_
      exact ⟨_, by rw [show addOf x y = (([], 0), false) from by rw [addOf, Cc0.out, Cc1.out]; simp [chkOf]], by rw [show addOf x y = (([], 0), false) from by rw [addOf, Cc0.out, Cc1.out]; simp [chkOf]]; exact ⟨_, rfl, Sl.nil _ _ _⟩, Hr.out⟩
    · have Cc1 := hid c1; clear c1
      go_wp2_with fail
      refine (sum_any _ _ _ _ x y 1 _ (Hx.out.below hk) (Hy.out.below hk) (affM_of Cc0.out) (affM_of Cc1.out) (by omega)).mono ?_
      rintro e wz ⟨vz, rfl, hz, bz⟩
      have Hz : Hid (AffR (fun b => W.heap.size ≤ b) wz vz _) := hid ((hz.r (by simp [affSum])).mono fun b h _ => Nat.le_trans hk.size h)
      replace hk := hk.trans (bz.mono hk.size)
      clear p00 p01 p04 p10 p11 p14 p20 p21 p24
      obtain ⟨p00, p01, _, _, p04⟩ := HB0.out.below hk; obtain ⟨p10, p11, _, _, p14⟩ := HB1.out.below hk; obtain ⟨p20, p21, _, _, p24⟩ := HB2.out.below hk
      obtain ⟨az, cz, rfl, _, _, _⟩ := Hz.out.shape
      clear hz bz
      go_wp2_with fail
      refine (checked_any _ _ _ _ Hz.out).mono ?_
      rintro e wc ⟨vc, rfl, hc, bc⟩
      replace hk := hk.trans (bc.mono hk.size)
      clear p00 p01 p04 p10 p11 p14 p20 p21 p24
      obtain ⟨p00, p01, _, _, p04⟩ := HB0.out.below hk
      obtain ⟨p10, p11, _, _, p14⟩ := HB1.out.below hk
      obtain ⟨p20, p21, _, _, p24⟩ := HB2.out.below hk
      generalize hzz : (if affV (affSum x 1 y) then (affSum x 1 y) else (([], 0) : Aff)) = zz at hc
      have Hzz := hid hzz; clear hzz
      obtain ⟨ac, cc, rfl, _, _, hsc⟩ := hc.shape
      have hsz := Hb.out.size
      have Hr := hid (((Hb.out.trans (hk.mono hsz)).setCell (p := ⟨w.heap.size + 1 + 1, 0, none⟩) (by show _ ≤ w.heap.size + 1 + 1; omega) (.slice ac zz.1.length cc)).setCell (p := ⟨w.heap.size + 1 + 1, 1, none⟩) (by show _ ≤ w.heap.size + 1 + 1; omega) (.int .i64 zz.2))
      have Hs := hid ((hsc.store (p := ⟨w.heap.size + 1 + 1, 0, none⟩) (u := .slice ac zz.1.length cc) (fun h => by have h5 : W.heap.size ≤ w.heap.size + 1 + 1 := h; have h6 := HB2.out.lt; omega)).store (p := ⟨w.heap.size + 1 + 1, 1, none⟩) (u := .int .i64 zz.2) (fun h => by have h5 : W.heap.size ≤ w.heap.size + 1 + 1 := h; have h6 := HB2.out.lt; omega))
      clear hk hc hsc bc
      have Hsz := hid hsz; clear hsz
      go_wp2_with fail
      refine bodyPost_ret (v := .tuple #[.agg #[.slice ac zz.1.length cc, .int .i64 zz.2], .bool (affV (affSum x 1 y))]) (by simp [results, Tryd.results13, go_sem, p20, p21, p24]) rfl ?_
      have hp : addOf x y = (zz, affV (affSum x 1 y)) := by rw [addOf, Cc0.out, Cc1.out]; exact (chkOf_true _).trans (by (try simp only [Int.toNat_natCast]); rw [Hzz.out])
      exact ⟨_, by rw [hp], by rw [hp]; exact ⟨_, rfl, Hs.out.mono fun b (h : W.heap.size ≤ b) _ => Nat.le_trans Hsz.out h⟩, Hr.out⟩

set_option maxHeartbeats 3200000 in
theorem implScale_any (Px : Nat → Prop) (v : Value) (x : Aff) (k : Int) (w : World) (hx : AffR Px w v x) :
    Calls Tryd.prog 10 #[v, .int .i64 k] w (RetA2 (fun b => w.heap.size ≤ b) (scaleOf x k).1 (scaleOf x k).2 w) := by
  obtain ⟨a0, c0, rfl, _, _, hs0⟩ := hx.shape
  have hb0 := (Below.refl w.heap.size w).alloc (by simp) (.cells #[.slice a0 x.1.length c0, .int .i64 x.2] 25)
  have hb1 := hb0.alloc (by simp) (.cells #[.slice none 0 0, .int .i64 0] 25)
  have B0 := ((Box2.new w (.slice a0 x.1.length c0) (.int .i64 x.2) 25).alloc (.cells #[.slice none 0 0, .int .i64 0] 25))
  have B1 := (Box2.new (w.alloc (.cells #[.slice a0 x.1.length c0, .int .i64 x.2] 25)) (.slice none 0 0) (.int .i64 0) 25)
  rw [World.size_alloc] at B1
  go_enter Tryd.func10, Tryd.ntmps10
  go_wp2_with fail
  generalize ((w.alloc (.cells #[.slice a0 x.1.length c0, .int .i64 x.2] 25)).alloc (.cells #[.slice none 0 0, .int .i64 0] 25)) = W at B0 B1 hb1
  have Hb := hid hb1
  have HB0 := hid B0
  have HB1 := hid B1
  have Hx := hid (hx.below hb1)
  have hk : Below W.heap.size W W := Below.refl _ _
  clear hb0 hb1 B0 B1 hs0
  obtain ⟨p00, p01, _, _, p04⟩ := HB0.out.below hk
  obtain ⟨p10, p11, _, _, p14⟩ := HB1.out.below hk
  refine (implAffV_any _ _ x _ (Hx.out.below hk)).mono ?_
  rintro e w1 ⟨rfl, b1⟩
  replace hk := hk.trans (b1.mono hk.size)
  clear p00 p01 p04 p10 p11 p14
  obtain ⟨p00, p01, _, _, p04⟩ := HB0.out.below hk
  obtain ⟨p10, p11, _, _, p14⟩ := HB1.out.below hk
  cases c0 : affV x
  · have Cc0 := hid c0; clear c0
    have hsz := Hb.out.size
    have Hr := hid (((Hb.out.trans (hk.mono hsz)).setCell (p := ⟨w.heap.size + 1, 0, none⟩) (by show _ ≤ w.heap.size + 1; omega) (.slice none 0 0)).setCell (p := ⟨w.heap.size + 1, 1, none⟩) (by show _ ≤ w.heap.size + 1; omega) (.int .i64 0))
    clear hk hsz
    go_wp2_with fail
    refine bodyPost_ret (v := .tuple #[.agg #[.slice none 0 0, .int .i64 0], .bool false]) (by simp [results, Tryd.results10, go_sem, p10, p11, p14]) rfl ?_
    exact ⟨_, by rw [show scaleOf x k = (([], 0), false) from by rw [scaleOf, Cc0.out]; simp [chkOf]], by rw [show scaleOf x k = (([], 0), false) from by rw [scaleOf, Cc0.out]; simp [chkOf]]; exact ⟨_, rfl, Sl.nil _ _ _⟩, Hr.out⟩
  · have Cc0 := hid c0; clear c0
    go_wp2_with fail
    refine (isConst_any k _).mono ?_
    rintro e w' ⟨rfl, rfl⟩
    cases c1 : inB k (-99) 99
    · have Cc1 := hid c1; clear c1
      have hsz := Hb.out.size
      have Hr := hid (((Hb.out.trans (hk.mono hsz)).setCell (p := ⟨w.heap.size + 1, 0, none⟩) (by show _ ≤ w.heap.size + 1; omega) (.slice none 0 0)).setCell (p := ⟨w.heap.size + 1, 1, none⟩) (by show _ ≤ w.heap.size + 1; omega) (.int .i64 0))
      clear hk hsz
      go_wp2_with fail
      refine bodyPost_ret (v := .tuple #[.agg #[.slice none 0 0, .int .i64 0], .bool false]) (by simp [results, Tryd.results10, go_sem, p10, p11, p14]) rfl ?_
      exact ⟨_, by rw [show scaleOf x k = (([], 0), false) from by rw [scaleOf, Cc0.out, Cc1.out]; simp [chkOf]], by rw [show scaleOf x k = (([], 0), false) from by rw [scaleOf, Cc0.out, Cc1.out]; simp [chkOf]]; exact ⟨_, rfl, Sl.nil _ _ _⟩, Hr.out⟩
    · have Cc1 := hid c1; clear c1
      go_wp2_with fail
      go_region_with (first
        | (go_at_call 27; refine (constant_any 0 _).mono ?_; rintro e y0 ⟨z0, rfl, hz0, b0⟩; have Hz0 := hid ((hz0.r (by simp [affSum])).mono (Q := fun b => W.heap.size ≤ b) fun b h _ => Nat.le_trans (Below.size hk.drew) h); have hk0 := hid (Below.trans hk.drew (b0.mono (Below.size hk.drew))); clear p00 p01 p04 p10 p11 p14; obtain ⟨p00, p01, _, _, p04⟩ := HB0.out.below hk0.out; obtain ⟨p10, p11, _, _, p14⟩ := HB1.out.below hk0.out; obtain ⟨az0, cz0, rfl, _, _, _⟩ := Hz0.out.shape; clear hz0 b0)
        | (go_at_call 26; refine (sum_any _ _ _ _ ([0, 0, 0, 0], 0) x k _ Hz0.out (Hx.out.below hk0.out) (affM_const (by omega)) (affM_of Cc0.out) (by have := Cc1.out; simp [inB] at this; omega)).mono ?_; rintro e y1 ⟨z1, rfl, hz1, b1⟩; have Hz1 := hid ((hz1.r (by simp [affSum])).mono (Q := fun b => W.heap.size ≤ b) fun b h _ => Nat.le_trans (Below.size hk0.out) h); have hk1 := hid (Below.trans hk0.out (b1.mono (Below.size hk0.out))); clear p00 p01 p04 p10 p11 p14; obtain ⟨p00, p01, _, _, p04⟩ := HB0.out.below hk1.out; obtain ⟨p10, p11, _, _, p14⟩ := HB1.out.below hk1.out; obtain ⟨az1, cz1, rfl, _, _, _⟩ := Hz1.out.shape; clear hz1 b1)
        | (go_at_call 25; refine (checked_any _ _ _ _ Hz1.out).mono ?_; rintro e wc ⟨vc, rfl, hc, bc⟩; have hk2 := hid (Below.trans hk1.out (bc.mono (Below.size hk1.out))); clear p00 p01 p04 p10 p11 p14; obtain ⟨p00, p01, _, _, p04⟩ := HB0.out.below hk2.out; obtain ⟨p10, p11, _, _, p14⟩ := HB1.out.below hk2.out; generalize hzz : (if affV (affSum ([0, 0, 0, 0], 0) k x) then (affSum ([0, 0, 0, 0], 0) k x) else (([], 0) : Aff)) = zz at hc; have Hzz := hid hzz; clear hzz; obtain ⟨ac, cc, rfl, _, _, hsc⟩ := hc.shape))
      all_goals
        replace hk := hk2.out
        have hsz := Hb.out.size
        have Hr := hid (((Hb.out.trans (hk.mono hsz)).setCell (p := ⟨w.heap.size + 1, 0, none⟩) (by show _ ≤ w.heap.size + 1; omega) (.slice ac zz.1.length cc)).setCell (p := ⟨w.heap.size + 1, 1, none⟩) (by show _ ≤ w.heap.size + 1; omega) (.int .i64 zz.2))
        have Hs := hid ((hsc.store (p := ⟨w.heap.size + 1, 0, none⟩) (u := .slice ac zz.1.length cc) (fun h => by have h5 : W.heap.size ≤ w.heap.size + 1 := h; have h6 := HB1.out.lt; omega)).store (p := ⟨w.heap.size + 1, 1, none⟩) (u := .int .i64 zz.2) (fun h => by have h5 : W.heap.size ≤ w.heap.size + 1 := h; have h6 := HB1.out.lt; omega))
        clear hk hc hsc bc
        have Hsz := hid hsz; clear hsz
        go_wp2_with fail
        refine bodyPost_ret (v := .tuple #[.agg #[.slice ac zz.1.length cc, .int .i64 zz.2], .bool (affV (affSum ([0, 0, 0, 0], 0) k x))]) (by simp [results, Tryd.results10, go_sem, p10, p11, p14]) rfl ?_
        have hp : scaleOf x k = (zz, affV (affSum ([0, 0, 0, 0], 0) k x)) := by rw [scaleOf, Cc0.out, Cc1.out]; exact (chkOf_true _).trans (by (try simp only [Int.toNat_natCast]); rw [Hzz.out])
        exact ⟨_, by rw [hp], by rw [hp]; exact ⟨_, rfl, Hs.out.mono fun b (h : W.heap.size ≤ b) _ => Nat.le_trans Hsz.out h⟩, Hr.out⟩



end Go.Proofs.YtkhlaphegnldeaaDoor
