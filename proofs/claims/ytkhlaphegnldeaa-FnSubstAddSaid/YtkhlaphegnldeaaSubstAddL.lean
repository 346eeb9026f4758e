/- The walk of FnSubstAdd; condition: what the slices of bytes hold. -/
import Derived.Test.YtkhlaphegnldeaaAffX
import Derived.Test.YtkhlaphegnldeaaAffW
import Derived.Test.YtkhlaphegnldeaaAffB
import Derived.Test.YtkhlaphegnldeaaAffE
import Derived.Test.YtkhlaphegnldeaaSame
import Derived.Test.YtkhlaphegnldeaaAffP
import Derived.Test.YtkhlaphegnldeaaAffPb
namespace Go.Proofs.Ytkhlaphegnldeaa
set_option linter.unusedVariables false
set_option linter.unusedSimpArgs false
open Go.RowKit

set_option maxHeartbeats 12800000 in
theorem lawSubstAdd (a : Option Addr) (n c : Nat) (bs : List Int) (a2 : Option Addr) (n2 c2 : Nat) (bs2 : List Int) (w : World) (hx0 : n ≤ 1048576 → Sl Sh.byte (fun b => b < w.heap.size) w (.slice a n c) bs) (hbs : ∀ x ∈ bs, 0 ≤ x ∧ x ≤ 255)
    (hy0 : n2 ≤ 1048576 → Sl Sh.byte (fun b => b < w.heap.size) w (.slice a2 n2 c2) bs2) (hbs2 : ∀ x ∈ bs2, 0 ≤ x ∧ x ≤ 255) :
    Calls Try.prog 7 #[.slice a n c, .slice a2 n2 c2] w fun e w' => e = .returned (.bool true) ∧ Below w.heap.size w w' := by
  by_cases hn : 1048576 < n
  · have h1 : decide ((1048576 : Int) < (n : Int)) = true := by simp; omega
    go_enter Try.func7, Try.ntmps7
    go_wp2_with fail
    go_ret
    exact ⟨rfl, Below.refl _ _⟩
  have h1 : decide ((1048576 : Int) < (n : Int)) = false := by simp; omega
  have hx := hx0 (by omega)
  by_cases hn2 : 1048576 < n2
  · have h2 : decide ((1048576 : Int) < (n2 : Int)) = true := by simp; omega
    clear hx0 hy0 hx hbs hbs2
    go_enter Try.func7, Try.ntmps7
    go_wp2_with fail
    go_ret
    exact ⟨rfl, Below.refl _ _⟩
  have h2 : decide ((1048576 : Int) < (n2 : Int)) = false := by simp; omega
  have hy := hy0 (by omega)
  have Hbs2 := hid hbs2
  clear hy0 hbs2
  have Hbs := hid hbs
  clear hx0 hbs
  go_enter Try.func7, Try.ntmps7
  go_wp2_with fail
  refine (drawSubst_any a n c bs w hx Hbs.out).mono ?_
  rintro e w1 ⟨v, u, x, y, j, rfl, hv, hu, lx, ly, hk⟩
  replace hy := hy.below hk
  obtain ⟨ax, cx, rfl, _, _, _⟩ := hv.shape
  obtain ⟨ay, cy, rfl, _, _, _⟩ := hu.shape
  have hal := (((Below.refl w1.heap.size w1).alloc (Nat.le_refl _) (.cells #[(.slice ax x.1.length cx), (.int .i64 x.2)] 25)).alloc (by simp <;> omega) (.cells #[(.slice ay y.1.length cy), (.int .i64 y.2)] 25))
  replace hy := hy.below hal
  replace hv := hv.below hal
  replace hu := hu.below hal
  have Ba := ((Box2.new w1 (.slice ax x.1.length cx) (.int .i64 x.2) 25).alloc (.cells #[(.slice ay y.1.length cy), (.int .i64 y.2)] 25))
  have Bb := (Box2.new (w1.alloc (.cells #[(.slice ax x.1.length cx), (.int .i64 x.2)] 25)) (.slice ay y.1.length cy) (.int .i64 y.2) 25)
  rw [World.size_alloc] at Bb
  replace hk := hk.trans (hal.mono hk.size)
  go_wp2_with fail
  generalize ((w1.alloc (.cells #[(.slice ax x.1.length cx), (.int .i64 x.2)] 25)).alloc (.cells #[(.slice ay y.1.length cy), (.int .i64 y.2)] 25)) = W1 at hy hv hu Ba Bb hal hk
  clear hal
  have Bac0 := Ba.c0; have Bac1 := Ba.c1; have Balt := Ba.lt
  have Bbc0 := Bb.c0; have Bbc1 := Bb.c1; have Bblt := Bb.lt
  refine (drawAdd_any a2 n2 c2 bs2 _ (hy.mono fun b h _ => Nat.lt_of_lt_of_le h hk.size) Hbs2.out).mono ?_
  rintro e W2 ⟨v5, u5, y2, x6, rfl, h5, h6, l5, l6, bb⟩
  replace hy := hy.below bb
  replace hv := hv.below bb
  replace hu := hu.below bb
  replace Ba := Ba.below bb
  replace Bb := Bb.below bb
  replace hk := hk.trans (bb.mono hk.size)
  clear bb
  obtain ⟨a5, c5, rfl, _, _, _⟩ := h5.shape
  obtain ⟨a6, c6, rfl, _, _, _⟩ := h6.shape
  clear Bac0 Bac1 Balt Bbc0 Bbc1 Bblt
  have Bac0 := Ba.c0; have Bac1 := Ba.c1; have Balt := Ba.lt
  have Bbc0 := Bb.c0; have Bbc1 := Bb.c1; have Bblt := Bb.lt
  have hal := (((Below.refl W2.heap.size W2).alloc (Nat.le_refl _) (.cells #[(.slice a5 y2.1.length c5), (.int .i64 y2.2)] 25)).alloc (by simp <;> omega) (.cells #[(.slice a6 x6.1.length c6), (.int .i64 x6.2)] 25))
  replace hy := hy.below hal
  replace hv := hv.below hal
  replace hu := hu.below hal
  replace h5 := h5.below hal
  replace Ba := Ba.below hal
  replace Bb := Bb.below hal
  have Be := ((Box2.new W2 (.slice a5 y2.1.length c5) (.int .i64 y2.2) 25).alloc (.cells #[(.slice a6 x6.1.length c6), (.int .i64 x6.2)] 25))
  have Bf := (Box2.new (W2.alloc (.cells #[(.slice a5 y2.1.length c5), (.int .i64 y2.2)] 25)) (.slice a6 x6.1.length c6) (.int .i64 x6.2) 25)
  rw [World.size_alloc] at Bf
  replace hk := hk.trans (hal.mono hk.size)
  go_wp2_with fail
  generalize ((W2.alloc (.cells #[(.slice a5 y2.1.length c5), (.int .i64 y2.2)] 25)).alloc (.cells #[(.slice a6 x6.1.length c6), (.int .i64 x6.2)] 25)) = W3 at hy hv hu h5 Ba Bb Be Bf hal hk
  clear hal
  clear Bac0 Bac1 Balt Bbc0 Bbc1 Bblt
  have Bac0 := Ba.c0; have Bac1 := Ba.c1; have Balt := Ba.lt
  have Bbc0 := Bb.c0; have Bbc1 := Bb.c1; have Bblt := Bb.lt
  have Bec0 := Be.c0; have Bec1 := Be.c1; have Belt := Be.lt
  have Bfc0 := Bf.c0; have Bfc1 := Bf.c1; have Bflt := Bf.lt
  refine (implSubst_any _ _ _ x _ y j _ hv hu).mono ?_
  rintro e W4 ⟨vc, rfl, hc, bb⟩
  replace hy := hy.below bb
  replace hv := hv.below bb
  replace hu := hu.below bb
  replace h5 := h5.below bb
  replace Ba := Ba.below bb
  replace Bb := Bb.below bb
  replace Be := Be.below bb
  replace Bf := Bf.below bb
  replace hk := hk.trans (bb.mono hk.size)
  clear bb
  generalize hok : (substOf x j y).2 = ok
  generalize hz : (substOf x j y).1 = z at hc
  have Hok := hid hok; have Hz := hid hz; clear hok hz
  obtain ⟨ac, cc, rfl, _, _, _⟩ := hc.shape
  clear Bac0 Bac1 Balt Bbc0 Bbc1 Bblt Bec0 Bec1 Belt Bfc0 Bfc1 Bflt
  have Bac0 := Ba.c0; have Bac1 := Ba.c1; have Balt := Ba.lt
  have Bbc0 := Bb.c0; have Bbc1 := Bb.c1; have Bblt := Bb.lt
  have Bec0 := Be.c0; have Bec1 := Be.c1; have Belt := Be.lt
  have Bfc0 := Bf.c0; have Bfc1 := Bf.c1; have Bflt := Bf.lt
  have hal := ((Below.refl W4.heap.size W4).alloc (Nat.le_refl _) (.cells #[(.slice ac z.1.length cc), (.int .i64 z.2)] 25))
  replace hy := hy.below hal
  replace hv := hv.below hal
  replace hu := hu.below hal
  replace h5 := h5.below hal
  replace hc := hc.below hal
  replace Ba := Ba.below hal
  replace Bb := Bb.below hal
  replace Be := Be.below hal
  replace Bf := Bf.below hal
  have Bc := (Box2.new W4 (.slice ac z.1.length cc) (.int .i64 z.2) 25)
  replace hk := hk.trans (hal.mono hk.size)
  go_wp2_with fail
  generalize (W4.alloc (.cells #[(.slice ac z.1.length cc), (.int .i64 z.2)] 25)) = W5 at hy hv hu h5 hc Ba Bb Be Bf Bc hal hk
  clear hal
  clear Bac0 Bac1 Balt Bbc0 Bbc1 Bblt Bec0 Bec1 Belt Bfc0 Bfc1 Bflt
  have Bac0 := Ba.c0; have Bac1 := Ba.c1; have Balt := Ba.lt
  have Bbc0 := Bb.c0; have Bbc1 := Bb.c1; have Bblt := Bb.lt
  have Bec0 := Be.c0; have Bec1 := Be.c1; have Belt := Be.lt
  have Bfc0 := Bf.c0; have Bfc1 := Bf.c1; have Bflt := Bf.lt
  have Bcc0 := Bc.c0; have Bcc1 := Bc.c1; have Bclt := Bc.lt
  refine (specSubst_any _ _ _ x _ y j _ hv hu).mono ?_
  rintro e W6 ⟨vw, rfl, hw, bb⟩
  replace hy := hy.below bb
  replace hv := hv.below bb
  replace hu := hu.below bb
  replace h5 := h5.below bb
  replace hc := hc.below bb
  replace Ba := Ba.below bb
  replace Bb := Bb.below bb
  replace Be := Be.below bb
  replace Bf := Bf.below bb
  replace Bc := Bc.below bb
  replace hk := hk.trans (bb.mono hk.size)
  clear bb
  rw [Hok.out]
  rw [Hz.out] at hw
  obtain ⟨aw, cw, rfl, _, _, _⟩ := hw.shape
  clear Bac0 Bac1 Balt Bbc0 Bbc1 Bblt Bec0 Bec1 Belt Bfc0 Bfc1 Bflt Bcc0 Bcc1 Bclt
  have Bac0 := Ba.c0; have Bac1 := Ba.c1; have Balt := Ba.lt
  have Bbc0 := Bb.c0; have Bbc1 := Bb.c1; have Bblt := Bb.lt
  have Bec0 := Be.c0; have Bec1 := Be.c1; have Belt := Be.lt
  have Bfc0 := Bf.c0; have Bfc1 := Bf.c1; have Bflt := Bf.lt
  have Bcc0 := Bc.c0; have Bcc1 := Bc.c1; have Bclt := Bc.lt
  have hal := ((Below.refl W6.heap.size W6).alloc (Nat.le_refl _) (.cells #[(.slice aw z.1.length cw), (.int .i64 z.2)] 25))
  replace hy := hy.below hal
  replace hv := hv.below hal
  replace hu := hu.below hal
  replace h5 := h5.below hal
  replace hc := hc.below hal
  replace hw := hw.below hal
  replace Ba := Ba.below hal
  replace Bb := Bb.below hal
  replace Be := Be.below hal
  replace Bf := Bf.below hal
  replace Bc := Bc.below hal
  have Bw := (Box2.new W6 (.slice aw z.1.length cw) (.int .i64 z.2) 25)
  replace hk := hk.trans (hal.mono hk.size)
  go_wp2_with fail
  generalize (W6.alloc (.cells #[(.slice aw z.1.length cw), (.int .i64 z.2)] 25)) = W7 at hy hv hu h5 hc hw Ba Bb Be Bf Bc Bw hal hk
  clear hal
  clear Bac0 Bac1 Balt Bbc0 Bbc1 Bblt Bec0 Bec1 Belt Bfc0 Bfc1 Bflt Bcc0 Bcc1 Bclt
  have Bac0 := Ba.c0; have Bac1 := Ba.c1; have Balt := Ba.lt
  have Bbc0 := Bb.c0; have Bbc1 := Bb.c1; have Bblt := Bb.lt
  have Bec0 := Be.c0; have Bec1 := Be.c1; have Belt := Be.lt
  have Bfc0 := Bf.c0; have Bfc1 := Bf.c1; have Bflt := Bf.lt
  have Bcc0 := Bc.c0; have Bcc1 := Bc.c1; have Bclt := Bc.lt
  have Bwc0 := Bw.c0; have Bwc1 := Bw.c1; have Bwlt := Bw.lt
  refine (implSame_any _ _ _ _ z z _ hc hw).mono ?_
  rintro e W8 ⟨rfl, bb⟩
  replace hy := hy.below bb
  replace hv := hv.below bb
  replace hu := hu.below bb
  replace h5 := h5.below bb
  replace hc := hc.below bb
  replace hw := hw.below bb
  replace Ba := Ba.below bb
  replace Bb := Bb.below bb
  replace Be := Be.below bb
  replace Bf := Bf.below bb
  replace Bc := Bc.below bb
  replace Bw := Bw.below bb
  replace hk := hk.trans (bb.mono hk.size)
  clear bb
  rw [(sameOf_iff z z).2 rfl]
  clear Bac0 Bac1 Balt Bbc0 Bbc1 Bblt Bec0 Bec1 Belt Bfc0 Bfc1 Bflt Bcc0 Bcc1 Bclt Bwc0 Bwc1 Bwlt
  have Bac0 := Ba.c0; have Bac1 := Ba.c1; have Balt := Ba.lt
  have Bbc0 := Bb.c0; have Bbc1 := Bb.c1; have Bblt := Bb.lt
  have Bec0 := Be.c0; have Bec1 := Be.c1; have Belt := Be.lt
  have Bfc0 := Bf.c0; have Bfc1 := Bf.c1; have Bflt := Bf.lt
  have Bcc0 := Bc.c0; have Bcc1 := Bc.c1; have Bclt := Bc.lt
  have Bwc0 := Bw.c0; have Bwc1 := Bw.c1; have Bwlt := Bw.lt
  cases ok
  · go_wp2_with fail
    refine (implSame_any _ _ _ _ z z _ hc hw).mono ?_
    rintro e W9 ⟨rfl, bb⟩
    replace hy := hy.below bb
    replace hv := hv.below bb
    replace hu := hu.below bb
    replace h5 := h5.below bb
    replace hc := hc.below bb
    replace hw := hw.below bb
    replace Ba := Ba.below bb
    replace Bb := Bb.below bb
    replace Be := Be.below bb
    replace Bf := Bf.below bb
    replace Bc := Bc.below bb
    replace Bw := Bw.below bb
    replace hk := hk.trans (bb.mono hk.size)
    clear bb
    rw [(sameOf_iff z z).2 rfl]
    clear Bac0 Bac1 Balt Bbc0 Bbc1 Bblt Bec0 Bec1 Belt Bfc0 Bfc1 Bflt Bcc0 Bcc1 Bclt Bwc0 Bwc1 Bwlt
    have Bac0 := Ba.c0; have Bac1 := Ba.c1; have Balt := Ba.lt
    have Bbc0 := Bb.c0; have Bbc1 := Bb.c1; have Bblt := Bb.lt
    have Bec0 := Be.c0; have Bec1 := Be.c1; have Belt := Be.lt
    have Bfc0 := Bf.c0; have Bfc1 := Bf.c1; have Bflt := Bf.lt
    have Bcc0 := Bc.c0; have Bcc1 := Bc.c1; have Bclt := Bc.lt
    have Bwc0 := Bw.c0; have Bwc1 := Bw.c1; have Bwlt := Bw.lt
    go_wp2_with fail
    go_ret
    exact ⟨rfl, hk⟩
  · go_wp2_with fail
    refine (implSubst_any _ _ _ y2 _ y j _ h5 hu).mono ?_
    rintro e W9 ⟨vp, rfl, hp, bb⟩
    replace hy := hy.below bb
    replace hv := hv.below bb
    replace hu := hu.below bb
    replace h5 := h5.below bb
    replace hc := hc.below bb
    replace hw := hw.below bb
    replace Ba := Ba.below bb
    replace Bb := Bb.below bb
    replace Be := Be.below bb
    replace Bf := Bf.below bb
    replace Bc := Bc.below bb
    replace Bw := Bw.below bb
    replace hk := hk.trans (bb.mono hk.size)
    clear bb
    generalize hbp : (substOf y2 j y).2 = bp
    generalize hzp : (substOf y2 j y).1 = zp at hp
    have Hbp := hid hbp; have Hzp := hid hzp; clear hbp hzp
    obtain ⟨ap, cp, rfl, _, _, _⟩ := hp.shape
    clear Bac0 Bac1 Balt Bbc0 Bbc1 Bblt Bec0 Bec1 Belt Bfc0 Bfc1 Bflt Bcc0 Bcc1 Bclt Bwc0 Bwc1 Bwlt
    have Bac0 := Ba.c0; have Bac1 := Ba.c1; have Balt := Ba.lt
    have Bbc0 := Bb.c0; have Bbc1 := Bb.c1; have Bblt := Bb.lt
    have Bec0 := Be.c0; have Bec1 := Be.c1; have Belt := Be.lt
    have Bfc0 := Bf.c0; have Bfc1 := Bf.c1; have Bflt := Bf.lt
    have Bcc0 := Bc.c0; have Bcc1 := Bc.c1; have Bclt := Bc.lt
    have Bwc0 := Bw.c0; have Bwc1 := Bw.c1; have Bwlt := Bw.lt
    have hal := ((Below.refl W9.heap.size W9).alloc (Nat.le_refl _) (.cells #[(.slice ap zp.1.length cp), (.int .i64 zp.2)] 25))
    replace hy := hy.below hal
    replace hv := hv.below hal
    replace hu := hu.below hal
    replace h5 := h5.below hal
    replace hc := hc.below hal
    replace hw := hw.below hal
    replace hp := hp.below hal
    replace Ba := Ba.below hal
    replace Bb := Bb.below hal
    replace Be := Be.below hal
    replace Bf := Bf.below hal
    replace Bc := Bc.below hal
    replace Bw := Bw.below hal
    have Bp := (Box2.new W9 (.slice ap zp.1.length cp) (.int .i64 zp.2) 25)
    replace hk := hk.trans (hal.mono hk.size)
    go_wp2_with fail
    generalize (W9.alloc (.cells #[(.slice ap zp.1.length cp), (.int .i64 zp.2)] 25)) = W10 at hy hv hu h5 hc hw hp Ba Bb Be Bf Bc Bw Bp hal hk
    clear hal
    clear Bac0 Bac1 Balt Bbc0 Bbc1 Bblt Bec0 Bec1 Belt Bfc0 Bfc1 Bflt Bcc0 Bcc1 Bclt Bwc0 Bwc1 Bwlt
    have Bac0 := Ba.c0; have Bac1 := Ba.c1; have Balt := Ba.lt
    have Bbc0 := Bb.c0; have Bbc1 := Bb.c1; have Bblt := Bb.lt
    have Bec0 := Be.c0; have Bec1 := Be.c1; have Belt := Be.lt
    have Bfc0 := Bf.c0; have Bfc1 := Bf.c1; have Bflt := Bf.lt
    have Bcc0 := Bc.c0; have Bcc1 := Bc.c1; have Bclt := Bc.lt
    have Bwc0 := Bw.c0; have Bwc1 := Bw.c1; have Bwlt := Bw.lt
    have Bpc0 := Bp.c0; have Bpc1 := Bp.c1; have Bplt := Bp.lt
    refine (implAdd_any _ _ _ x _ y2 _ hv h5).mono ?_
    rintro e W11 ⟨vq, rfl, hq, bb⟩
    replace hy := hy.below bb
    replace hv := hv.below bb
    replace hu := hu.below bb
    replace h5 := h5.below bb
    replace hc := hc.below bb
    replace hw := hw.below bb
    replace hp := hp.below bb
    replace Ba := Ba.below bb
    replace Bb := Bb.below bb
    replace Be := Be.below bb
    replace Bf := Bf.below bb
    replace Bc := Bc.below bb
    replace Bw := Bw.below bb
    replace Bp := Bp.below bb
    replace hk := hk.trans (bb.mono hk.size)
    clear bb
    generalize hbq : (addOf x y2).2 = bq
    generalize hzq : (addOf x y2).1 = zq at hq
    have Hbq := hid hbq; have Hzq := hid hzq; clear hbq hzq
    obtain ⟨aq, cq, rfl, _, _, _⟩ := hq.shape
    clear Bac0 Bac1 Balt Bbc0 Bbc1 Bblt Bec0 Bec1 Belt Bfc0 Bfc1 Bflt Bcc0 Bcc1 Bclt Bwc0 Bwc1 Bwlt Bpc0 Bpc1 Bplt
    have Bac0 := Ba.c0; have Bac1 := Ba.c1; have Balt := Ba.lt
    have Bbc0 := Bb.c0; have Bbc1 := Bb.c1; have Bblt := Bb.lt
    have Bec0 := Be.c0; have Bec1 := Be.c1; have Belt := Be.lt
    have Bfc0 := Bf.c0; have Bfc1 := Bf.c1; have Bflt := Bf.lt
    have Bcc0 := Bc.c0; have Bcc1 := Bc.c1; have Bclt := Bc.lt
    have Bwc0 := Bw.c0; have Bwc1 := Bw.c1; have Bwlt := Bw.lt
    have Bpc0 := Bp.c0; have Bpc1 := Bp.c1; have Bplt := Bp.lt
    have hal := ((Below.refl W11.heap.size W11).alloc (Nat.le_refl _) (.cells #[(.slice aq zq.1.length cq), (.int .i64 zq.2)] 25))
    replace hy := hy.below hal
    replace hv := hv.below hal
    replace hu := hu.below hal
    replace h5 := h5.below hal
    replace hc := hc.below hal
    replace hw := hw.below hal
    replace hp := hp.below hal
    replace hq := hq.below hal
    replace Ba := Ba.below hal
    replace Bb := Bb.below hal
    replace Be := Be.below hal
    replace Bf := Bf.below hal
    replace Bc := Bc.below hal
    replace Bw := Bw.below hal
    replace Bp := Bp.below hal
    have Bq := (Box2.new W11 (.slice aq zq.1.length cq) (.int .i64 zq.2) 25)
    replace hk := hk.trans (hal.mono hk.size)
    go_wp2_with fail
    generalize (W11.alloc (.cells #[(.slice aq zq.1.length cq), (.int .i64 zq.2)] 25)) = W12 at hy hv hu h5 hc hw hp hq Ba Bb Be Bf Bc Bw Bp Bq hal hk
    clear hal
    clear Bac0 Bac1 Balt Bbc0 Bbc1 Bblt Bec0 Bec1 Belt Bfc0 Bfc1 Bflt Bcc0 Bcc1 Bclt Bwc0 Bwc1 Bwlt Bpc0 Bpc1 Bplt
    have Bac0 := Ba.c0; have Bac1 := Ba.c1; have Balt := Ba.lt
    have Bbc0 := Bb.c0; have Bbc1 := Bb.c1; have Bblt := Bb.lt
    have Bec0 := Be.c0; have Bec1 := Be.c1; have Belt := Be.lt
    have Bfc0 := Bf.c0; have Bfc1 := Bf.c1; have Bflt := Bf.lt
    have Bcc0 := Bc.c0; have Bcc1 := Bc.c1; have Bclt := Bc.lt
    have Bwc0 := Bw.c0; have Bwc1 := Bw.c1; have Bwlt := Bw.lt
    have Bpc0 := Bp.c0; have Bpc1 := Bp.c1; have Bplt := Bp.lt
    have Bqc0 := Bq.c0; have Bqc1 := Bq.c1; have Bqlt := Bq.lt
    refine (implSubst_any _ _ _ zq _ y j _ hq hu).mono ?_
    rintro e W13 ⟨vr, rfl, hr, bb⟩
    replace hy := hy.below bb
    replace hv := hv.below bb
    replace hu := hu.below bb
    replace h5 := h5.below bb
    replace hc := hc.below bb
    replace hw := hw.below bb
    replace hp := hp.below bb
    replace hq := hq.below bb
    replace Ba := Ba.below bb
    replace Bb := Bb.below bb
    replace Be := Be.below bb
    replace Bf := Bf.below bb
    replace Bc := Bc.below bb
    replace Bw := Bw.below bb
    replace Bp := Bp.below bb
    replace Bq := Bq.below bb
    replace hk := hk.trans (bb.mono hk.size)
    clear bb
    generalize hbr : (substOf zq j y).2 = br
    generalize hzr : (substOf zq j y).1 = zr at hr
    have Hbr := hid hbr; have Hzr := hid hzr; clear hbr hzr
    obtain ⟨ar, cr, rfl, _, _, _⟩ := hr.shape
    clear Bac0 Bac1 Balt Bbc0 Bbc1 Bblt Bec0 Bec1 Belt Bfc0 Bfc1 Bflt Bcc0 Bcc1 Bclt Bwc0 Bwc1 Bwlt Bpc0 Bpc1 Bplt Bqc0 Bqc1 Bqlt
    have Bac0 := Ba.c0; have Bac1 := Ba.c1; have Balt := Ba.lt
    have Bbc0 := Bb.c0; have Bbc1 := Bb.c1; have Bblt := Bb.lt
    have Bec0 := Be.c0; have Bec1 := Be.c1; have Belt := Be.lt
    have Bfc0 := Bf.c0; have Bfc1 := Bf.c1; have Bflt := Bf.lt
    have Bcc0 := Bc.c0; have Bcc1 := Bc.c1; have Bclt := Bc.lt
    have Bwc0 := Bw.c0; have Bwc1 := Bw.c1; have Bwlt := Bw.lt
    have Bpc0 := Bp.c0; have Bpc1 := Bp.c1; have Bplt := Bp.lt
    have Bqc0 := Bq.c0; have Bqc1 := Bq.c1; have Bqlt := Bq.lt
    have hal := ((Below.refl W13.heap.size W13).alloc (Nat.le_refl _) (.cells #[(.slice ar zr.1.length cr), (.int .i64 zr.2)] 25))
    replace hy := hy.below hal
    replace hv := hv.below hal
    replace hu := hu.below hal
    replace h5 := h5.below hal
    replace hc := hc.below hal
    replace hw := hw.below hal
    replace hp := hp.below hal
    replace hq := hq.below hal
    replace hr := hr.below hal
    replace Ba := Ba.below hal
    replace Bb := Bb.below hal
    replace Be := Be.below hal
    replace Bf := Bf.below hal
    replace Bc := Bc.below hal
    replace Bw := Bw.below hal
    replace Bp := Bp.below hal
    replace Bq := Bq.below hal
    have Br := (Box2.new W13 (.slice ar zr.1.length cr) (.int .i64 zr.2) 25)
    replace hk := hk.trans (hal.mono hk.size)
    go_wp2_with fail
    generalize (W13.alloc (.cells #[(.slice ar zr.1.length cr), (.int .i64 zr.2)] 25)) = W14 at hy hv hu h5 hc hw hp hq hr Ba Bb Be Bf Bc Bw Bp Bq Br hal hk
    clear hal
    clear Bac0 Bac1 Balt Bbc0 Bbc1 Bblt Bec0 Bec1 Belt Bfc0 Bfc1 Bflt Bcc0 Bcc1 Bclt Bwc0 Bwc1 Bwlt Bpc0 Bpc1 Bplt Bqc0 Bqc1 Bqlt
    have Bac0 := Ba.c0; have Bac1 := Ba.c1; have Balt := Ba.lt
    have Bbc0 := Bb.c0; have Bbc1 := Bb.c1; have Bblt := Bb.lt
    have Bec0 := Be.c0; have Bec1 := Be.c1; have Belt := Be.lt
    have Bfc0 := Bf.c0; have Bfc1 := Bf.c1; have Bflt := Bf.lt
    have Bcc0 := Bc.c0; have Bcc1 := Bc.c1; have Bclt := Bc.lt
    have Bwc0 := Bw.c0; have Bwc1 := Bw.c1; have Bwlt := Bw.lt
    have Bpc0 := Bp.c0; have Bpc1 := Bp.c1; have Bplt := Bp.lt
    have Bqc0 := Bq.c0; have Bqc1 := Bq.c1; have Bqlt := Bq.lt
    have Brc0 := Br.c0; have Brc1 := Br.c1; have Brlt := Br.lt
    refine (implAdd_any _ _ _ z _ zp _ hc hp).mono ?_
    rintro e W15 ⟨vm, rfl, hm, bb⟩
    replace hy := hy.below bb
    replace hv := hv.below bb
    replace hu := hu.below bb
    replace h5 := h5.below bb
    replace hc := hc.below bb
    replace hw := hw.below bb
    replace hp := hp.below bb
    replace hq := hq.below bb
    replace hr := hr.below bb
    replace Ba := Ba.below bb
    replace Bb := Bb.below bb
    replace Be := Be.below bb
    replace Bf := Bf.below bb
    replace Bc := Bc.below bb
    replace Bw := Bw.below bb
    replace Bp := Bp.below bb
    replace Bq := Bq.below bb
    replace Br := Br.below bb
    replace hk := hk.trans (bb.mono hk.size)
    clear bb
    generalize hbm : (addOf z zp).2 = bm
    generalize hzm : (addOf z zp).1 = zm at hm
    have Hbm := hid hbm; have Hzm := hid hzm; clear hbm hzm
    obtain ⟨am, cm, rfl, _, _, _⟩ := hm.shape
    clear Bac0 Bac1 Balt Bbc0 Bbc1 Bblt Bec0 Bec1 Belt Bfc0 Bfc1 Bflt Bcc0 Bcc1 Bclt Bwc0 Bwc1 Bwlt Bpc0 Bpc1 Bplt Bqc0 Bqc1 Bqlt Brc0 Brc1 Brlt
    have Bac0 := Ba.c0; have Bac1 := Ba.c1; have Balt := Ba.lt
    have Bbc0 := Bb.c0; have Bbc1 := Bb.c1; have Bblt := Bb.lt
    have Bec0 := Be.c0; have Bec1 := Be.c1; have Belt := Be.lt
    have Bfc0 := Bf.c0; have Bfc1 := Bf.c1; have Bflt := Bf.lt
    have Bcc0 := Bc.c0; have Bcc1 := Bc.c1; have Bclt := Bc.lt
    have Bwc0 := Bw.c0; have Bwc1 := Bw.c1; have Bwlt := Bw.lt
    have Bpc0 := Bp.c0; have Bpc1 := Bp.c1; have Bplt := Bp.lt
    have Bqc0 := Bq.c0; have Bqc1 := Bq.c1; have Bqlt := Bq.lt
    have Brc0 := Br.c0; have Brc1 := Br.c1; have Brlt := Br.lt
    cases bp
    · skip
      go_wp2_with fail
      go_ret
      exact ⟨rfl, hk.alloc hk.size _⟩
    · skip
      cases bq
      · skip
        go_wp2_with fail
        go_ret
        exact ⟨rfl, hk.alloc hk.size _⟩
      · skip
        cases br
        · skip
          go_wp2_with fail
          go_ret
          exact ⟨rfl, hk.alloc hk.size _⟩
        · skip
          have hr' := Hbr.out
          rw [← Hzq.out] at hr'
          have hlaw := substAdd_law Hok.out Hbp.out Hbq.out hr'
          rw [Hz.out, Hzp.out, Hzq.out, Hzr.out] at hlaw
          have hs1 : bm = true := by rw [← Hbm.out, hlaw]
          have Heq := hid (show zm = zr by rw [← Hzm.out, hlaw])
          subst hs1
          clear hlaw hr'
          have hal := ((Below.refl W15.heap.size W15).alloc (Nat.le_refl _) (.cells #[(.slice am zm.1.length cm), (.int .i64 zm.2)] 25))
          replace hy := hy.below hal
          replace hv := hv.below hal
          replace hu := hu.below hal
          replace h5 := h5.below hal
          replace hc := hc.below hal
          replace hw := hw.below hal
          replace hp := hp.below hal
          replace hq := hq.below hal
          replace hr := hr.below hal
          replace hm := hm.below hal
          replace Ba := Ba.below hal
          replace Bb := Bb.below hal
          replace Be := Be.below hal
          replace Bf := Bf.below hal
          replace Bc := Bc.below hal
          replace Bw := Bw.below hal
          replace Bp := Bp.below hal
          replace Bq := Bq.below hal
          replace Br := Br.below hal
          have Bm := (Box2.new W15 (.slice am zm.1.length cm) (.int .i64 zm.2) 25)
          replace hk := hk.trans (hal.mono hk.size)
          go_wp2_with fail
          generalize (W15.alloc (.cells #[(.slice am zm.1.length cm), (.int .i64 zm.2)] 25)) = W16 at hy hv hu h5 hc hw hp hq hr hm Ba Bb Be Bf Bc Bw Bp Bq Br Bm hal hk
          clear hal
          clear Bac0 Bac1 Balt Bbc0 Bbc1 Bblt Bec0 Bec1 Belt Bfc0 Bfc1 Bflt Bcc0 Bcc1 Bclt Bwc0 Bwc1 Bwlt Bpc0 Bpc1 Bplt Bqc0 Bqc1 Bqlt Brc0 Brc1 Brlt
          have Bac0 := Ba.c0; have Bac1 := Ba.c1; have Balt := Ba.lt
          have Bbc0 := Bb.c0; have Bbc1 := Bb.c1; have Bblt := Bb.lt
          have Bec0 := Be.c0; have Bec1 := Be.c1; have Belt := Be.lt
          have Bfc0 := Bf.c0; have Bfc1 := Bf.c1; have Bflt := Bf.lt
          have Bcc0 := Bc.c0; have Bcc1 := Bc.c1; have Bclt := Bc.lt
          have Bwc0 := Bw.c0; have Bwc1 := Bw.c1; have Bwlt := Bw.lt
          have Bpc0 := Bp.c0; have Bpc1 := Bp.c1; have Bplt := Bp.lt
          have Bqc0 := Bq.c0; have Bqc1 := Bq.c1; have Bqlt := Bq.lt
          have Brc0 := Br.c0; have Brc1 := Br.c1; have Brlt := Br.lt
          have Bmc0 := Bm.c0; have Bmc1 := Bm.c1; have Bmlt := Bm.lt
          refine (implSame_any _ _ _ _ zm zr _ hm hr).mono ?_
          rintro e W17 ⟨rfl, bb⟩
          replace hy := hy.below bb
          replace hv := hv.below bb
          replace hu := hu.below bb
          replace h5 := h5.below bb
          replace hc := hc.below bb
          replace hw := hw.below bb
          replace hp := hp.below bb
          replace hq := hq.below bb
          replace hr := hr.below bb
          replace hm := hm.below bb
          replace Ba := Ba.below bb
          replace Bb := Bb.below bb
          replace Be := Be.below bb
          replace Bf := Bf.below bb
          replace Bc := Bc.below bb
          replace Bw := Bw.below bb
          replace Bp := Bp.below bb
          replace Bq := Bq.below bb
          replace Br := Br.below bb
          replace Bm := Bm.below bb
          replace hk := hk.trans (bb.mono hk.size)
          clear bb
          rw [(sameOf_iff zm zr).2 Heq.out]
          clear Bac0 Bac1 Balt Bbc0 Bbc1 Bblt Bec0 Bec1 Belt Bfc0 Bfc1 Bflt Bcc0 Bcc1 Bclt Bwc0 Bwc1 Bwlt Bpc0 Bpc1 Bplt Bqc0 Bqc1 Bqlt Brc0 Brc1 Brlt Bmc0 Bmc1 Bmlt
          have Bac0 := Ba.c0; have Bac1 := Ba.c1; have Balt := Ba.lt
          have Bbc0 := Bb.c0; have Bbc1 := Bb.c1; have Bblt := Bb.lt
          have Bec0 := Be.c0; have Bec1 := Be.c1; have Belt := Be.lt
          have Bfc0 := Bf.c0; have Bfc1 := Bf.c1; have Bflt := Bf.lt
          have Bcc0 := Bc.c0; have Bcc1 := Bc.c1; have Bclt := Bc.lt
          have Bwc0 := Bw.c0; have Bwc1 := Bw.c1; have Bwlt := Bw.lt
          have Bpc0 := Bp.c0; have Bpc1 := Bp.c1; have Bplt := Bp.lt
          have Bqc0 := Bq.c0; have Bqc1 := Bq.c1; have Bqlt := Bq.lt
          have Brc0 := Br.c0; have Brc1 := Br.c1; have Brlt := Br.lt
          have Bmc0 := Bm.c0; have Bmc1 := Bm.c1; have Bmlt := Bm.lt
          go_wp2_with fail
          go_ret
          exact ⟨rfl, hk⟩
end Go.Proofs.Ytkhlaphegnldeaa
