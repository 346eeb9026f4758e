/- The walk of FnSubstIdentity; condition: what the slices of bytes hold. -/
import Derived.Test.YtkhlaphegnldeaaAffX
import Derived.Test.YtkhlaphegnldeaaAffW
import Derived.Test.YtkhlaphegnldeaaAffB
import Derived.Test.YtkhlaphegnldeaaAffE
import Derived.Test.YtkhlaphegnldeaaSame
import Derived.Test.YtkhlaphegnldeaaAffP
import Derived.Test.YtkhlaphegnldeaaAffPb
namespace Go.Proofs.Ytkhlaphegnldeaa
set_option linter.unusedVariables false
set_option linter.unusedSimpArgs false
open Go.RowKit

set_option maxHeartbeats 12800000 in
theorem lawSubstId (a : Option Addr) (n c : Nat) (bs : List Int) (w : World) (hx0 : n ≤ 1048576 → Sl Sh.byte (fun b => b < w.heap.size) w (.slice a n c) bs) (hbs : ∀ x ∈ bs, 0 ≤ x ∧ x ≤ 255) :
    Calls Try.prog 5 #[.slice a n c] w fun e w' => e = .returned (.bool true) ∧ Below w.heap.size w w' := by
  by_cases hn : 1048576 < n
  · have h1 : decide ((1048576 : Int) < (n : Int)) = true := by simp; omega
    go_enter Try.func5, Try.ntmps5
    go_wp2_with fail
    go_ret
    exact ⟨rfl, Below.refl _ _⟩
  have h1 : decide ((1048576 : Int) < (n : Int)) = false := by simp; omega
  have hx := hx0 (by omega)
  have Hbs := hid hbs
  clear hx0 hbs
  go_enter Try.func5, Try.ntmps5
  go_wp2_with fail
  refine (drawSubst_any a n c bs w hx Hbs.out).mono ?_
  rintro e w1 ⟨v, u, x, y, j, rfl, hv, hu, lx, ly, hk⟩
  obtain ⟨ax, cx, rfl, _, _, _⟩ := hv.shape
  obtain ⟨ay, cy, rfl, _, _, _⟩ := hu.shape
  have hal := (((Below.refl w1.heap.size w1).alloc (Nat.le_refl _) (.cells #[(.slice ax x.1.length cx), (.int .i64 x.2)] 25)).alloc (by simp <;> omega) (.cells #[(.slice ay y.1.length cy), (.int .i64 y.2)] 25))
  replace hv := hv.below hal
  replace hu := hu.below hal
  have Ba := ((Box2.new w1 (.slice ax x.1.length cx) (.int .i64 x.2) 25).alloc (.cells #[(.slice ay y.1.length cy), (.int .i64 y.2)] 25))
  have Bb := (Box2.new (w1.alloc (.cells #[(.slice ax x.1.length cx), (.int .i64 x.2)] 25)) (.slice ay y.1.length cy) (.int .i64 y.2) 25)
  rw [World.size_alloc] at Bb
  replace hk := hk.trans (hal.mono hk.size)
  go_wp2_with fail
  generalize ((w1.alloc (.cells #[(.slice ax x.1.length cx), (.int .i64 x.2)] 25)).alloc (.cells #[(.slice ay y.1.length cy), (.int .i64 y.2)] 25)) = W1 at hv hu Ba Bb hal hk
  clear hal
  have Bac0 := Ba.c0; have Bac1 := Ba.c1; have Balt := Ba.lt
  have Bbc0 := Bb.c0; have Bbc1 := Bb.c1; have Bblt := Bb.lt
  refine (implVar_any j _).mono ?_
  rintro e W2 ⟨vc, rfl, hc, bb⟩
  replace hv := hv.below bb
  replace hu := hu.below bb
  replace Ba := Ba.below bb
  replace Bb := Bb.below bb
  replace hk := hk.trans (bb.mono hk.size)
  clear bb
  generalize hok : (varOf j).2 = ok
  generalize hz : (varOf j).1 = z at hc
  have Hok := hid hok; have Hz := hid hz; clear hok hz
  obtain ⟨ac, cc, rfl, _, _, _⟩ := hc.shape
  clear Bac0 Bac1 Balt Bbc0 Bbc1 Bblt
  have Bac0 := Ba.c0; have Bac1 := Ba.c1; have Balt := Ba.lt
  have Bbc0 := Bb.c0; have Bbc1 := Bb.c1; have Bblt := Bb.lt
  have hal := ((Below.refl W2.heap.size W2).alloc (Nat.le_refl _) (.cells #[(.slice ac z.1.length cc), (.int .i64 z.2)] 25))
  replace hv := hv.below hal
  replace hu := hu.below hal
  replace hc := hc.below hal
  replace Ba := Ba.below hal
  replace Bb := Bb.below hal
  have Bc := (Box2.new W2 (.slice ac z.1.length cc) (.int .i64 z.2) 25)
  replace hk := hk.trans (hal.mono hk.size)
  go_wp2_with fail
  generalize (W2.alloc (.cells #[(.slice ac z.1.length cc), (.int .i64 z.2)] 25)) = W3 at hv hu hc Ba Bb Bc hal hk
  clear hal
  clear Bac0 Bac1 Balt Bbc0 Bbc1 Bblt
  have Bac0 := Ba.c0; have Bac1 := Ba.c1; have Balt := Ba.lt
  have Bbc0 := Bb.c0; have Bbc1 := Bb.c1; have Bblt := Bb.lt
  have Bcc0 := Bc.c0; have Bcc1 := Bc.c1; have Bclt := Bc.lt
  refine (specVar_any j _).mono ?_
  rintro e W4 ⟨vw, rfl, hw, bb⟩
  replace hv := hv.below bb
  replace hu := hu.below bb
  replace hc := hc.below bb
  replace Ba := Ba.below bb
  replace Bb := Bb.below bb
  replace Bc := Bc.below bb
  replace hk := hk.trans (bb.mono hk.size)
  clear bb
  rw [Hok.out]
  rw [Hz.out] at hw
  obtain ⟨aw, cw, rfl, _, _, _⟩ := hw.shape
  clear Bac0 Bac1 Balt Bbc0 Bbc1 Bblt Bcc0 Bcc1 Bclt
  have Bac0 := Ba.c0; have Bac1 := Ba.c1; have Balt := Ba.lt
  have Bbc0 := Bb.c0; have Bbc1 := Bb.c1; have Bblt := Bb.lt
  have Bcc0 := Bc.c0; have Bcc1 := Bc.c1; have Bclt := Bc.lt
  have hal := ((Below.refl W4.heap.size W4).alloc (Nat.le_refl _) (.cells #[(.slice aw z.1.length cw), (.int .i64 z.2)] 25))
  replace hv := hv.below hal
  replace hu := hu.below hal
  replace hc := hc.below hal
  replace hw := hw.below hal
  replace Ba := Ba.below hal
  replace Bb := Bb.below hal
  replace Bc := Bc.below hal
  have Bw := (Box2.new W4 (.slice aw z.1.length cw) (.int .i64 z.2) 25)
  replace hk := hk.trans (hal.mono hk.size)
  go_wp2_with fail
  generalize (W4.alloc (.cells #[(.slice aw z.1.length cw), (.int .i64 z.2)] 25)) = W5 at hv hu hc hw Ba Bb Bc Bw hal hk
  clear hal
  clear Bac0 Bac1 Balt Bbc0 Bbc1 Bblt Bcc0 Bcc1 Bclt
  have Bac0 := Ba.c0; have Bac1 := Ba.c1; have Balt := Ba.lt
  have Bbc0 := Bb.c0; have Bbc1 := Bb.c1; have Bblt := Bb.lt
  have Bcc0 := Bc.c0; have Bcc1 := Bc.c1; have Bclt := Bc.lt
  have Bwc0 := Bw.c0; have Bwc1 := Bw.c1; have Bwlt := Bw.lt
  refine (implSame_any _ _ _ _ z z _ hc hw).mono ?_
  rintro e W6 ⟨rfl, bb⟩
  replace hv := hv.below bb
  replace hu := hu.below bb
  replace hc := hc.below bb
  replace hw := hw.below bb
  replace Ba := Ba.below bb
  replace Bb := Bb.below bb
  replace Bc := Bc.below bb
  replace Bw := Bw.below bb
  replace hk := hk.trans (bb.mono hk.size)
  clear bb
  rw [(sameOf_iff z z).2 rfl]
  clear Bac0 Bac1 Balt Bbc0 Bbc1 Bblt Bcc0 Bcc1 Bclt Bwc0 Bwc1 Bwlt
  have Bac0 := Ba.c0; have Bac1 := Ba.c1; have Balt := Ba.lt
  have Bbc0 := Bb.c0; have Bbc1 := Bb.c1; have Bblt := Bb.lt
  have Bcc0 := Bc.c0; have Bcc1 := Bc.c1; have Bclt := Bc.lt
  have Bwc0 := Bw.c0; have Bwc1 := Bw.c1; have Bwlt := Bw.lt
  cases ok
  · go_wp2_with fail
    refine (implSame_any _ _ _ _ z z _ hc hw).mono ?_
    rintro e W7 ⟨rfl, bb⟩
    replace hv := hv.below bb
    replace hu := hu.below bb
    replace hc := hc.below bb
    replace hw := hw.below bb
    replace Ba := Ba.below bb
    replace Bb := Bb.below bb
    replace Bc := Bc.below bb
    replace Bw := Bw.below bb
    replace hk := hk.trans (bb.mono hk.size)
    clear bb
    rw [(sameOf_iff z z).2 rfl]
    clear Bac0 Bac1 Balt Bbc0 Bbc1 Bblt Bcc0 Bcc1 Bclt Bwc0 Bwc1 Bwlt
    have Bac0 := Ba.c0; have Bac1 := Ba.c1; have Balt := Ba.lt
    have Bbc0 := Bb.c0; have Bbc1 := Bb.c1; have Bblt := Bb.lt
    have Bcc0 := Bc.c0; have Bcc1 := Bc.c1; have Bclt := Bc.lt
    have Bwc0 := Bw.c0; have Bwc1 := Bw.c1; have Bwlt := Bw.lt
    go_wp2_with fail
    go_ret
    exact ⟨rfl, hk⟩
  · go_wp2_with fail
    refine (implAffV_any _ _ x _ hv).mono ?_
    rintro e W7 ⟨rfl, bb⟩
    replace hv := hv.below bb
    replace hu := hu.below bb
    replace hc := hc.below bb
    replace hw := hw.below bb
    replace Ba := Ba.below bb
    replace Bb := Bb.below bb
    replace Bc := Bc.below bb
    replace Bw := Bw.below bb
    replace hk := hk.trans (bb.mono hk.size)
    clear bb
    clear Bac0 Bac1 Balt Bbc0 Bbc1 Bblt Bcc0 Bcc1 Bclt Bwc0 Bwc1 Bwlt
    have Bac0 := Ba.c0; have Bac1 := Ba.c1; have Balt := Ba.lt
    have Bbc0 := Bb.c0; have Bbc1 := Bb.c1; have Bblt := Bb.lt
    have Bcc0 := Bc.c0; have Bcc1 := Bc.c1; have Bclt := Bc.lt
    have Bwc0 := Bw.c0; have Bwc1 := Bw.c1; have Bwlt := Bw.lt
    cases hV : affV x
    · have HV := hid hV; clear hV
      go_wp2_with fail
      refine (implSame_any _ _ _ _ z z _ hc hw).mono ?_
      rintro e W8 ⟨rfl, bb⟩
      replace hv := hv.below bb
      replace hu := hu.below bb
      replace hc := hc.below bb
      replace hw := hw.below bb
      replace Ba := Ba.below bb
      replace Bb := Bb.below bb
      replace Bc := Bc.below bb
      replace Bw := Bw.below bb
      replace hk := hk.trans (bb.mono hk.size)
      clear bb
      rw [(sameOf_iff z z).2 rfl]
      clear Bac0 Bac1 Balt Bbc0 Bbc1 Bblt Bcc0 Bcc1 Bclt Bwc0 Bwc1 Bwlt
      have Bac0 := Ba.c0; have Bac1 := Ba.c1; have Balt := Ba.lt
      have Bbc0 := Bb.c0; have Bbc1 := Bb.c1; have Bblt := Bb.lt
      have Bcc0 := Bc.c0; have Bcc1 := Bc.c1; have Bclt := Bc.lt
      have Bwc0 := Bw.c0; have Bwc1 := Bw.c1; have Bwlt := Bw.lt
      go_wp2_with fail
      go_ret
      exact ⟨rfl, hk⟩
    · have HV := hid hV; clear hV
      go_wp2_with fail
      refine (implSubst_any _ _ _ x _ z j _ hv hc).mono ?_
      rintro e W8 ⟨vd, rfl, hd, bb⟩
      replace hv := hv.below bb
      replace hu := hu.below bb
      replace hc := hc.below bb
      replace hw := hw.below bb
      replace Ba := Ba.below bb
      replace Bb := Bb.below bb
      replace Bc := Bc.below bb
      replace Bw := Bw.below bb
      replace hk := hk.trans (bb.mono hk.size)
      clear bb
      rw [substIdent_law Hok.out Hz.out HV.out]
      rw [substIdent_law Hok.out Hz.out HV.out] at hd
      obtain ⟨ad, cd, rfl, _, _, _⟩ := hd.shape
      clear Bac0 Bac1 Balt Bbc0 Bbc1 Bblt Bcc0 Bcc1 Bclt Bwc0 Bwc1 Bwlt
      have Bac0 := Ba.c0; have Bac1 := Ba.c1; have Balt := Ba.lt
      have Bbc0 := Bb.c0; have Bbc1 := Bb.c1; have Bblt := Bb.lt
      have Bcc0 := Bc.c0; have Bcc1 := Bc.c1; have Bclt := Bc.lt
      have Bwc0 := Bw.c0; have Bwc1 := Bw.c1; have Bwlt := Bw.lt
      have hal := ((Below.refl W8.heap.size W8).alloc (Nat.le_refl _) (.cells #[(.slice ad x.1.length cd), (.int .i64 x.2)] 25))
      replace hv := hv.below hal
      replace hu := hu.below hal
      replace hc := hc.below hal
      replace hw := hw.below hal
      replace hd := hd.below hal
      replace Ba := Ba.below hal
      replace Bb := Bb.below hal
      replace Bc := Bc.below hal
      replace Bw := Bw.below hal
      have Bd := (Box2.new W8 (.slice ad x.1.length cd) (.int .i64 x.2) 25)
      replace hk := hk.trans (hal.mono hk.size)
      go_wp2_with fail
      generalize (W8.alloc (.cells #[(.slice ad x.1.length cd), (.int .i64 x.2)] 25)) = W9 at hv hu hc hw hd Ba Bb Bc Bw Bd hal hk
      clear hal
      clear Bac0 Bac1 Balt Bbc0 Bbc1 Bblt Bcc0 Bcc1 Bclt Bwc0 Bwc1 Bwlt
      have Bac0 := Ba.c0; have Bac1 := Ba.c1; have Balt := Ba.lt
      have Bbc0 := Bb.c0; have Bbc1 := Bb.c1; have Bblt := Bb.lt
      have Bcc0 := Bc.c0; have Bcc1 := Bc.c1; have Bclt := Bc.lt
      have Bwc0 := Bw.c0; have Bwc1 := Bw.c1; have Bwlt := Bw.lt
      have Bdc0 := Bd.c0; have Bdc1 := Bd.c1; have Bdlt := Bd.lt
      obtain ⟨jn, rfl⟩ : ∃ jn : Nat, j = jn := ⟨j.toNat, by have := (varOf_ok Hok.out).1; simp [inB] at this; omega⟩
      have jn4 : jn < 4 := by have := (varOf_ok Hok.out).1; simp [inB] at this; omega
      have hj3 := hid (varOf_ok Hok.out).1
      refine (implSubst_any _ _ _ x _ y jn _ hv hu).mono ?_
      rintro e W10 ⟨ve, rfl, he, bb⟩
      replace hv := hv.below bb
      replace hu := hu.below bb
      replace hc := hc.below bb
      replace hw := hw.below bb
      replace hd := hd.below bb
      replace Ba := Ba.below bb
      replace Bb := Bb.below bb
      replace Bc := Bc.below bb
      replace Bw := Bw.below bb
      replace Bd := Bd.below bb
      replace hk := hk.trans (bb.mono hk.size)
      clear bb
      generalize hot : (substOf x (jn : Int) y).2 = ot
      generalize hze : (substOf x (jn : Int) y).1 = ze at he
      have Hot := hid hot; have Hze := hid hze; clear hot hze
      obtain ⟨ae, ce, rfl, _, _, _⟩ := he.shape
      clear Bac0 Bac1 Balt Bbc0 Bbc1 Bblt Bcc0 Bcc1 Bclt Bwc0 Bwc1 Bwlt Bdc0 Bdc1 Bdlt
      have Bac0 := Ba.c0; have Bac1 := Ba.c1; have Balt := Ba.lt
      have Bbc0 := Bb.c0; have Bbc1 := Bb.c1; have Bblt := Bb.lt
      have Bcc0 := Bc.c0; have Bcc1 := Bc.c1; have Bclt := Bc.lt
      have Bwc0 := Bw.c0; have Bwc1 := Bw.c1; have Bwlt := Bw.lt
      have Bdc0 := Bd.c0; have Bdc1 := Bd.c1; have Bdlt := Bd.lt
      have hal := ((Below.refl W10.heap.size W10).alloc (Nat.le_refl _) (.cells #[(.slice ae ze.1.length ce), (.int .i64 ze.2)] 25))
      replace hv := hv.below hal
      replace hu := hu.below hal
      replace hc := hc.below hal
      replace hw := hw.below hal
      replace hd := hd.below hal
      replace he := he.below hal
      replace Ba := Ba.below hal
      replace Bb := Bb.below hal
      replace Bc := Bc.below hal
      replace Bw := Bw.below hal
      replace Bd := Bd.below hal
      have Be := (Box2.new W10 (.slice ae ze.1.length ce) (.int .i64 ze.2) 25)
      replace hk := hk.trans (hal.mono hk.size)
      go_wp2_with fail
      generalize (W10.alloc (.cells #[(.slice ae ze.1.length ce), (.int .i64 ze.2)] 25)) = W11 at hv hu hc hw hd he Ba Bb Bc Bw Bd Be hal hk
      clear hal
      clear Bac0 Bac1 Balt Bbc0 Bbc1 Bblt Bcc0 Bcc1 Bclt Bwc0 Bwc1 Bwlt Bdc0 Bdc1 Bdlt
      have Bac0 := Ba.c0; have Bac1 := Ba.c1; have Balt := Ba.lt
      have Bbc0 := Bb.c0; have Bbc1 := Bb.c1; have Bblt := Bb.lt
      have Bcc0 := Bc.c0; have Bcc1 := Bc.c1; have Bclt := Bc.lt
      have Bwc0 := Bw.c0; have Bwc1 := Bw.c1; have Bwlt := Bw.lt
      have Bdc0 := Bd.c0; have Bdc1 := Bd.c1; have Bdlt := Bd.lt
      have Bec0 := Be.c0; have Bec1 := Be.c1; have Belt := Be.lt
      refine (implSame_any _ _ _ _ x x _ hd hv).mono ?_
      rintro e W12 ⟨rfl, bb⟩
      replace hv := hv.below bb
      replace hu := hu.below bb
      replace hc := hc.below bb
      replace hw := hw.below bb
      replace hd := hd.below bb
      replace he := he.below bb
      replace Ba := Ba.below bb
      replace Bb := Bb.below bb
      replace Bc := Bc.below bb
      replace Bw := Bw.below bb
      replace Bd := Bd.below bb
      replace Be := Be.below bb
      replace hk := hk.trans (bb.mono hk.size)
      clear bb
      rw [(sameOf_iff x x).2 rfl]
      clear Bac0 Bac1 Balt Bbc0 Bbc1 Bblt Bcc0 Bcc1 Bclt Bwc0 Bwc1 Bwlt Bdc0 Bdc1 Bdlt Bec0 Bec1 Belt
      have Bac0 := Ba.c0; have Bac1 := Ba.c1; have Balt := Ba.lt
      have Bbc0 := Bb.c0; have Bbc1 := Bb.c1; have Bblt := Bb.lt
      have Bcc0 := Bc.c0; have Bcc1 := Bc.c1; have Bclt := Bc.lt
      have Bwc0 := Bw.c0; have Bwc1 := Bw.c1; have Bwlt := Bw.lt
      have Bdc0 := Bd.c0; have Bdc1 := Bd.c1; have Bdlt := Bd.lt
      have Bec0 := Be.c0; have Bec1 := Be.c1; have Belt := Be.lt
      have hxl := affV_len HV.out
      obtain ⟨bx, ox, hbx, _, _, hcx⟩ := hv.sl.intAt (by omega)
      subst hbx
      have q1 := hcx jn (by omega)
      have hj4 : (jn : Int) < (x.1.length : Int) := by omega
      generalize hkc : x.1.getD jn 0 = kc at q1
      have Hkc := hid hkc; clear hkc hcx
      have Hxl := hid hxl; clear hxl
      cases hk0 : (kc != 0)
      · have hkz : kc = 0 := by simpa using hk0
        have hz0 := substZero_law (y := y) hj3.out HV.out (by rw [Int.toNat_natCast, Hkc.out]; exact hkz)
        have Hz0 := hid hz0; clear hz0 hkz
        go_wp2_with fail
        refine (implAffV_any _ _ y _ hu).mono ?_
        rintro e W13 ⟨rfl, bb⟩
        replace hv := hv.below bb
        replace hu := hu.below bb
        replace hc := hc.below bb
        replace hw := hw.below bb
        replace hd := hd.below bb
        replace he := he.below bb
        replace Ba := Ba.below bb
        replace Bb := Bb.below bb
        replace Bc := Bc.below bb
        replace Bw := Bw.below bb
        replace Bd := Bd.below bb
        replace Be := Be.below bb
        replace hk := hk.trans (bb.mono hk.size)
        clear bb
        clear Bac0 Bac1 Balt Bbc0 Bbc1 Bblt Bcc0 Bcc1 Bclt Bwc0 Bwc1 Bwlt Bdc0 Bdc1 Bdlt Bec0 Bec1 Belt
        have Bac0 := Ba.c0; have Bac1 := Ba.c1; have Balt := Ba.lt
        have Bbc0 := Bb.c0; have Bbc1 := Bb.c1; have Bblt := Bb.lt
        have Bcc0 := Bc.c0; have Bcc1 := Bc.c1; have Bclt := Bc.lt
        have Bwc0 := Bw.c0; have Bwc1 := Bw.c1; have Bwlt := Bw.lt
        have Bdc0 := Bd.c0; have Bdc1 := Bd.c1; have Bdlt := Bd.lt
        have Bec0 := Be.c0; have Bec1 := Be.c1; have Belt := Be.lt
        cases hY : affV y
        · have HY := hid hY; clear hY
          have ht1 : ot = false := by rw [← Hot.out, Hz0.out, HY.out]; rfl
          subst ht1
          go_wp2_with fail
          go_ret
          exact ⟨rfl, hk⟩
        · have HY := hid hY; clear hY
          have ht1 : ot = true := by rw [← Hot.out, Hz0.out, HY.out]; rfl
          have ht2 : ze = x := by rw [← Hze.out, Hz0.out, HY.out]; rfl
          subst ht1
          have Ht2 := hid ht2; clear ht2
          go_wp2_with fail
          refine (implSame_any _ _ _ _ ze x _ he hv).mono ?_
          rintro e W14 ⟨rfl, bb⟩
          replace hv := hv.below bb
          replace hu := hu.below bb
          replace hc := hc.below bb
          replace hw := hw.below bb
          replace hd := hd.below bb
          replace he := he.below bb
          replace Ba := Ba.below bb
          replace Bb := Bb.below bb
          replace Bc := Bc.below bb
          replace Bw := Bw.below bb
          replace Bd := Bd.below bb
          replace Be := Be.below bb
          replace hk := hk.trans (bb.mono hk.size)
          clear bb
          rw [(sameOf_iff ze x).2 Ht2.out]
          clear Bac0 Bac1 Balt Bbc0 Bbc1 Bblt Bcc0 Bcc1 Bclt Bwc0 Bwc1 Bwlt Bdc0 Bdc1 Bdlt Bec0 Bec1 Belt
          have Bac0 := Ba.c0; have Bac1 := Ba.c1; have Balt := Ba.lt
          have Bbc0 := Bb.c0; have Bbc1 := Bb.c1; have Bblt := Bb.lt
          have Bcc0 := Bc.c0; have Bcc1 := Bc.c1; have Bclt := Bc.lt
          have Bwc0 := Bw.c0; have Bwc1 := Bw.c1; have Bwlt := Bw.lt
          have Bdc0 := Bd.c0; have Bdc1 := Bd.c1; have Bdlt := Bd.lt
          have Bec0 := Be.c0; have Bec1 := Be.c1; have Belt := Be.lt
          go_wp2_with fail
          go_ret
          exact ⟨rfl, hk⟩
      · skip
        go_wp2_with fail
        go_ret
        exact ⟨rfl, hk⟩
end Go.Proofs.Ytkhlaphegnldeaa
