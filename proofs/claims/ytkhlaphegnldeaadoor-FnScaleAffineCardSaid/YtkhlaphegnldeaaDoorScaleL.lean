/- The walk of FnScaleAffine; condition: what the slices of bytes hold. -/
import Derived.Test.YtkhlaphegnldeaaDoorAffW
import Derived.Test.YtkhlaphegnldeaaDoorAffB
import Derived.Test.YtkhlaphegnldeaaDoorAffE
import Derived.Test.YtkhlaphegnldeaaDoorSame
import Derived.Test.YtkhlaphegnldeaaDoorAffP
import Derived.Test.YtkhlaphegnldeaaDoorAffPb
import Derived.Test.YtkhlaphegnldeaaDoorAffPc
import Derived.Test.YtkhlaphegnldeaaDoorFmt0
namespace Go.Proofs.YtkhlaphegnldeaaDoor
set_option linter.unusedVariables false
set_option linter.unusedSimpArgs false
open Go.RowKit

set_option maxHeartbeats 12800000 in
theorem lawScale (a : Option Addr) (n c : Nat) (bs : List Int) (a2 : Option Addr) (n2 c2 : Nat) (bs2 : List Int) (w : World) (hx0 : n ≤ 1048576 → Sl Sh.byte (fun b => b < w.heap.size) w (.slice a n c) bs) (hbs : ∀ x ∈ bs, 0 ≤ x ∧ x ≤ 255)
    (hy0 : n2 ≤ 1048576 → Sl Sh.byte (fun b => b < w.heap.size) w (.slice a2 n2 c2) bs2) (hbs2 : ∀ x ∈ bs2, 0 ≤ x ∧ x ≤ 255) :
    Calls Tryd.prog 4 #[.slice a n c, .slice a2 n2 c2] w fun e w' => e = .returned (.bool true) ∧ Below w.heap.size w w' := by
  by_cases hn : 1048576 < n
  · have h1 : decide ((1048576 : Int) < (n : Int)) = true := by simp; omega
    go_enter Tryd.func4, Tryd.ntmps4
    go_wp2_with fail
    go_ret
    exact ⟨rfl, Below.refl _ _⟩
  have h1 : decide ((1048576 : Int) < (n : Int)) = false := by simp; omega
  have hx := hx0 (by omega)
  by_cases hn2 : 1048576 < n2
  · have h2 : decide ((1048576 : Int) < (n2 : Int)) = true := by simp; omega
    clear hx0 hy0 hx hbs hbs2
    go_enter Tryd.func4, Tryd.ntmps4
    go_wp2_with fail
    go_ret
    exact ⟨rfl, Below.refl _ _⟩
  have h2 : decide ((1048576 : Int) < (n2 : Int)) = false := by simp; omega
  have hy := hy0 (by omega)
  have Hbs2 := hid hbs2
  clear hy0 hbs2
  have Hbs := hid hbs
  clear hx0 hbs
  go_enter Tryd.func4, Tryd.ntmps4
  go_wp2_with fail
  refine (drawScale_any a n c bs w hx Hbs.out).mono ?_
  rintro e w1 ⟨v, k, x, rfl, hv, lx, hk⟩
  replace hy := hy.below hk
  obtain ⟨ax, cx, rfl, _, _, _⟩ := hv.shape
  have hal := ((Below.refl w1.heap.size w1).alloc (Nat.le_refl _) (.cells #[(.slice ax x.1.length cx), (.int .i64 x.2)] 25))
  replace hy := hy.below hal
  replace hv := hv.below hal
  have Ba := (Box2.new w1 (.slice ax x.1.length cx) (.int .i64 x.2) 25)
  replace hk := hk.trans (hal.mono hk.size)
  go_wp2_with fail
  generalize (w1.alloc (.cells #[(.slice ax x.1.length cx), (.int .i64 x.2)] 25)) = W1 at hy hv Ba hal hk
  clear hal
  have Bac0 := Ba.c0; have Bac1 := Ba.c1; have Balt := Ba.lt
  refine (implScale_any _ _ x k _ hv).mono ?_
  rintro e W2 ⟨vc, rfl, hc, bb⟩
  replace hy := hy.below bb
  replace hv := hv.below bb
  replace Ba := Ba.below bb
  replace hk := hk.trans (bb.mono hk.size)
  clear bb
  generalize hok : (scaleOf x k).2 = ok
  generalize hz : (scaleOf x k).1 = z at hc
  have Hok := hid hok; have Hz := hid hz; clear hok hz
  obtain ⟨ac, cc, rfl, _, _, _⟩ := hc.shape
  clear Bac0 Bac1 Balt
  have Bac0 := Ba.c0; have Bac1 := Ba.c1; have Balt := Ba.lt
  have hal := ((Below.refl W2.heap.size W2).alloc (Nat.le_refl _) (.cells #[(.slice ac z.1.length cc), (.int .i64 z.2)] 25))
  replace hy := hy.below hal
  replace hv := hv.below hal
  replace hc := hc.below hal
  replace Ba := Ba.below hal
  have Bc := (Box2.new W2 (.slice ac z.1.length cc) (.int .i64 z.2) 25)
  replace hk := hk.trans (hal.mono hk.size)
  go_wp2_with fail
  generalize (W2.alloc (.cells #[(.slice ac z.1.length cc), (.int .i64 z.2)] 25)) = W3 at hy hv hc Ba Bc hal hk
  clear hal
  clear Bac0 Bac1 Balt
  have Bac0 := Ba.c0; have Bac1 := Ba.c1; have Balt := Ba.lt
  have Bcc0 := Bc.c0; have Bcc1 := Bc.c1; have Bclt := Bc.lt
  refine (specScale_any _ _ x k _ hv).mono ?_
  rintro e W4 ⟨vw, rfl, hw, bb⟩
  replace hy := hy.below bb
  replace hv := hv.below bb
  replace hc := hc.below bb
  replace Ba := Ba.below bb
  replace Bc := Bc.below bb
  replace hk := hk.trans (bb.mono hk.size)
  clear bb
  rw [Hok.out]
  rw [Hz.out] at hw
  obtain ⟨aw, cw, rfl, _, _, _⟩ := hw.shape
  clear Bac0 Bac1 Balt Bcc0 Bcc1 Bclt
  have Bac0 := Ba.c0; have Bac1 := Ba.c1; have Balt := Ba.lt
  have Bcc0 := Bc.c0; have Bcc1 := Bc.c1; have Bclt := Bc.lt
  have hal := ((Below.refl W4.heap.size W4).alloc (Nat.le_refl _) (.cells #[(.slice aw z.1.length cw), (.int .i64 z.2)] 25))
  replace hy := hy.below hal
  replace hv := hv.below hal
  replace hc := hc.below hal
  replace hw := hw.below hal
  replace Ba := Ba.below hal
  replace Bc := Bc.below hal
  have Bw := (Box2.new W4 (.slice aw z.1.length cw) (.int .i64 z.2) 25)
  replace hk := hk.trans (hal.mono hk.size)
  go_wp2_with fail
  generalize (W4.alloc (.cells #[(.slice aw z.1.length cw), (.int .i64 z.2)] 25)) = W5 at hy hv hc hw Ba Bc Bw hal hk
  clear hal
  clear Bac0 Bac1 Balt Bcc0 Bcc1 Bclt
  have Bac0 := Ba.c0; have Bac1 := Ba.c1; have Balt := Ba.lt
  have Bcc0 := Bc.c0; have Bcc1 := Bc.c1; have Bclt := Bc.lt
  have Bwc0 := Bw.c0; have Bwc1 := Bw.c1; have Bwlt := Bw.lt
  refine (implSame_any _ _ _ _ z z _ hc hw).mono ?_
  rintro e W6 ⟨rfl, bb⟩
  replace hy := hy.below bb
  replace hv := hv.below bb
  replace hc := hc.below bb
  replace hw := hw.below bb
  replace Ba := Ba.below bb
  replace Bc := Bc.below bb
  replace Bw := Bw.below bb
  replace hk := hk.trans (bb.mono hk.size)
  clear bb
  rw [(sameOf_iff z z).2 rfl]
  clear Bac0 Bac1 Balt Bcc0 Bcc1 Bclt Bwc0 Bwc1 Bwlt
  have Bac0 := Ba.c0; have Bac1 := Ba.c1; have Balt := Ba.lt
  have Bcc0 := Bc.c0; have Bcc1 := Bc.c1; have Bclt := Bc.lt
  have Bwc0 := Bw.c0; have Bwc1 := Bw.c1; have Bwlt := Bw.lt
  cases ok
  · go_wp2_with fail
    refine (implSame_any _ _ _ _ z z _ hc hw).mono ?_
    rintro e W7 ⟨rfl, bb⟩
    replace hy := hy.below bb
    replace hv := hv.below bb
    replace hc := hc.below bb
    replace hw := hw.below bb
    replace Ba := Ba.below bb
    replace Bc := Bc.below bb
    replace Bw := Bw.below bb
    replace hk := hk.trans (bb.mono hk.size)
    clear bb
    rw [(sameOf_iff z z).2 rfl]
    clear Bac0 Bac1 Balt Bcc0 Bcc1 Bclt Bwc0 Bwc1 Bwlt
    have Bac0 := Ba.c0; have Bac1 := Ba.c1; have Balt := Ba.lt
    have Bcc0 := Bc.c0; have Bcc1 := Bc.c1; have Bclt := Bc.lt
    have Bwc0 := Bw.c0; have Bwc1 := Bw.c1; have Bwlt := Bw.lt
    go_wp2_with fail
    go_ret
    exact ⟨rfl, hk⟩
  · go_wp2_with fail
    refine (drawEval_any a2 n2 c2 bs2 _ (hy.mono fun b h _ => Nat.lt_of_lt_of_le h hk.size) Hbs2.out).mono ?_
    rintro e W7 ⟨v5, u5, x5, ps, rfl, h5, hp, l5, lp, bb⟩
    replace hy := hy.below bb
    replace hv := hv.below bb
    replace hc := hc.below bb
    replace hw := hw.below bb
    replace Ba := Ba.below bb
    replace Bc := Bc.below bb
    replace Bw := Bw.below bb
    replace hk := hk.trans (bb.mono hk.size)
    clear bb
    obtain ⟨ap, cp, rfl, _, _, _⟩ := hp.form
    obtain ⟨a5, c5, rfl, _, _, _⟩ := h5.shape
    clear Bac0 Bac1 Balt Bcc0 Bcc1 Bclt Bwc0 Bwc1 Bwlt
    have Bac0 := Ba.c0; have Bac1 := Ba.c1; have Balt := Ba.lt
    have Bcc0 := Bc.c0; have Bcc1 := Bc.c1; have Bclt := Bc.lt
    have Bwc0 := Bw.c0; have Bwc1 := Bw.c1; have Bwlt := Bw.lt
    have hal := ((Below.refl W7.heap.size W7).alloc (Nat.le_refl _) (.cells #[(.slice a5 x5.1.length c5), (.int .i64 x5.2)] 25))
    replace hy := hy.below hal
    replace hv := hv.below hal
    replace hc := hc.below hal
    replace hw := hw.below hal
    replace hp := hp.below hal
    replace Ba := Ba.below hal
    replace Bc := Bc.below hal
    replace Bw := Bw.below hal
    have Be := (Box2.new W7 (.slice a5 x5.1.length c5) (.int .i64 x5.2) 25)
    replace hk := hk.trans (hal.mono hk.size)
    go_wp2_with fail
    generalize (W7.alloc (.cells #[(.slice a5 x5.1.length c5), (.int .i64 x5.2)] 25)) = W8 at hy hv hc hw hp Ba Bc Bw Be hal hk
    clear hal
    clear Bac0 Bac1 Balt Bcc0 Bcc1 Bclt Bwc0 Bwc1 Bwlt
    have Bac0 := Ba.c0; have Bac1 := Ba.c1; have Balt := Ba.lt
    have Bcc0 := Bc.c0; have Bcc1 := Bc.c1; have Bclt := Bc.lt
    have Bwc0 := Bw.c0; have Bwc1 := Bw.c1; have Bwlt := Bw.lt
    have Bec0 := Be.c0; have Bec1 := Be.c1; have Belt := Be.lt
    have hzv := scale_val Hok.out Hz.out
    obtain ⟨hn1, hn2⟩ := scaleNeg_law hzv
    have Hn1 := hid hn1; have Hn2 := hid hn2; clear hn1 hn2 hzv
    refine (implScale_any _ _ z (-1) _ hc).mono ?_
    rintro e W9 ⟨vd, rfl, hd, bb⟩
    replace hy := hy.below bb
    replace hv := hv.below bb
    replace hc := hc.below bb
    replace hw := hw.below bb
    replace hp := hp.below bb
    replace Ba := Ba.below bb
    replace Bc := Bc.below bb
    replace Bw := Bw.below bb
    replace Be := Be.below bb
    replace hk := hk.trans (bb.mono hk.size)
    clear bb
    rw [Hn1.out]
    generalize hzn : (scaleOf z (-1)).1 = zn at hd
    have Hzn := hid hzn; clear hzn
    obtain ⟨ad, cd, rfl, _, _, _⟩ := hd.shape
    clear Bac0 Bac1 Balt Bcc0 Bcc1 Bclt Bwc0 Bwc1 Bwlt Bec0 Bec1 Belt
    have Bac0 := Ba.c0; have Bac1 := Ba.c1; have Balt := Ba.lt
    have Bcc0 := Bc.c0; have Bcc1 := Bc.c1; have Bclt := Bc.lt
    have Bwc0 := Bw.c0; have Bwc1 := Bw.c1; have Bwlt := Bw.lt
    have Bec0 := Be.c0; have Bec1 := Be.c1; have Belt := Be.lt
    have hal := ((Below.refl W9.heap.size W9).alloc (Nat.le_refl _) (.cells #[(.slice ad zn.1.length cd), (.int .i64 zn.2)] 25))
    replace hy := hy.below hal
    replace hv := hv.below hal
    replace hc := hc.below hal
    replace hw := hw.below hal
    replace hp := hp.below hal
    replace hd := hd.below hal
    replace Ba := Ba.below hal
    replace Bc := Bc.below hal
    replace Bw := Bw.below hal
    replace Be := Be.below hal
    have Bd := (Box2.new W9 (.slice ad zn.1.length cd) (.int .i64 zn.2) 25)
    replace hk := hk.trans (hal.mono hk.size)
    go_wp2_with fail
    generalize (W9.alloc (.cells #[(.slice ad zn.1.length cd), (.int .i64 zn.2)] 25)) = W10 at hy hv hc hw hp hd Ba Bc Bw Be Bd hal hk
    clear hal
    clear Bac0 Bac1 Balt Bcc0 Bcc1 Bclt Bwc0 Bwc1 Bwlt Bec0 Bec1 Belt
    have Bac0 := Ba.c0; have Bac1 := Ba.c1; have Balt := Ba.lt
    have Bcc0 := Bc.c0; have Bcc1 := Bc.c1; have Bclt := Bc.lt
    have Bwc0 := Bw.c0; have Bwc1 := Bw.c1; have Bwlt := Bw.lt
    have Bec0 := Be.c0; have Bec1 := Be.c1; have Belt := Be.lt
    have Bdc0 := Bd.c0; have Bdc1 := Bd.c1; have Bdlt := Bd.lt
    refine (implAdd_any _ _ _ z _ zn _ hc hd).mono ?_
    rintro e W11 ⟨vs, rfl, hs, bb⟩
    replace hy := hy.below bb
    replace hv := hv.below bb
    replace hc := hc.below bb
    replace hw := hw.below bb
    replace hp := hp.below bb
    replace hd := hd.below bb
    replace Ba := Ba.below bb
    replace Bc := Bc.below bb
    replace Bw := Bw.below bb
    replace Be := Be.below bb
    replace Bd := Bd.below bb
    replace hk := hk.trans (bb.mono hk.size)
    clear bb
    have Hn3 := hid (show addOf z zn = (([0, 0, 0, 0], 0), true) by rw [← Hzn.out]; exact Hn2.out)
    rw [Hn3.out]
    rw [Hn3.out] at hs
    obtain ⟨as', cs, rfl, _, _, _⟩ : ∃ a c, vs = .agg #[.slice a 4 c, .int .i64 0] ∧ _ := hs.shape
    clear Bac0 Bac1 Balt Bcc0 Bcc1 Bclt Bwc0 Bwc1 Bwlt Bec0 Bec1 Belt Bdc0 Bdc1 Bdlt
    have Bac0 := Ba.c0; have Bac1 := Ba.c1; have Balt := Ba.lt
    have Bcc0 := Bc.c0; have Bcc1 := Bc.c1; have Bclt := Bc.lt
    have Bwc0 := Bw.c0; have Bwc1 := Bw.c1; have Bwlt := Bw.lt
    have Bec0 := Be.c0; have Bec1 := Be.c1; have Belt := Be.lt
    have Bdc0 := Bd.c0; have Bdc1 := Bd.c1; have Bdlt := Bd.lt
    have hal := ((Below.refl W11.heap.size W11).alloc (Nat.le_refl _) (.cells #[(.slice as' 4 cs), (.int .i64 0)] 25))
    replace hy := hy.below hal
    replace hv := hv.below hal
    replace hc := hc.below hal
    replace hw := hw.below hal
    replace hp := hp.below hal
    replace hd := hd.below hal
    replace hs := hs.below hal
    replace Ba := Ba.below hal
    replace Bc := Bc.below hal
    replace Bw := Bw.below hal
    replace Be := Be.below hal
    replace Bd := Bd.below hal
    have Bs := (Box2.new W11 (.slice as' 4 cs) (.int .i64 0) 25)
    replace hk := hk.trans (hal.mono hk.size)
    go_wp2_with fail
    generalize (W11.alloc (.cells #[(.slice as' 4 cs), (.int .i64 0)] 25)) = W12 at hy hv hc hw hp hd hs Ba Bc Bw Be Bd Bs hal hk
    clear hal
    clear Bac0 Bac1 Balt Bcc0 Bcc1 Bclt Bwc0 Bwc1 Bwlt Bec0 Bec1 Belt Bdc0 Bdc1 Bdlt
    have Bac0 := Ba.c0; have Bac1 := Ba.c1; have Balt := Ba.lt
    have Bcc0 := Bc.c0; have Bcc1 := Bc.c1; have Bclt := Bc.lt
    have Bwc0 := Bw.c0; have Bwc1 := Bw.c1; have Bwlt := Bw.lt
    have Bec0 := Be.c0; have Bec1 := Be.c1; have Belt := Be.lt
    have Bdc0 := Bd.c0; have Bdc1 := Bd.c1; have Bdlt := Bd.lt
    have Bsc0 := Bs.c0; have Bsc1 := Bs.c1; have Bslt := Bs.lt
    have Hev := hid (scale_eval Hok.out Hz.out ps)
    have kb := scale_k Hok.out
    have ex1 := evalOf_bd x ps
    generalize hex : evalOf x ps = ex at ex1
    have Hex := hid hex; clear hex
    have kb2 := mul_abs (M := 99) (N := 400000) kb ex1 (by omega) (by omega)
    have kw : IntKind.i64.wrap (k * ex) = k * ex := IntWalk.i64_in _ (by omega)
    clear kb kb2 ex1
    have hdr := (Below.refl W12.heap.size W12).drew
    replace hv := hv.below hdr
    replace hc := hc.below hdr
    replace hs := hs.below hdr
    replace hp := hp.below hdr
    replace Ba := Ba.below hdr
    replace Bc := Bc.below hdr
    replace Bs := Bs.below hdr
    replace hk := hk.trans (hdr.mono hk.size)
    clear hdr
    clear hy hw hd Bw Be Bd
    have tok1 : True := trivial
    go_region_held3 (fun wq => wq.cell? ⟨w1.heap.size, 0, none⟩ = some (.slice ax x.1.length cx) ∧ wq.cell? ⟨w1.heap.size, 1, none⟩ = some (.int .i64 x.2) ∧ wq.cell? ⟨W2.heap.size, 0, none⟩ = some (.slice ac z.1.length cc) ∧ wq.cell? ⟨W2.heap.size, 1, none⟩ = some (.int .i64 z.2) ∧ wq.cell? ⟨W11.heap.size, 0, none⟩ = some (.slice as' 4 cs) ∧ wq.cell? ⟨W11.heap.size, 1, none⟩ = some (.int .i64 0))
      ((repeat' apply And.intro) <;> first | assumption | go_keep)
      (first
        | (go_at_call 8; (refine (fmt0_any _ _ _ hs).mono ?_; rintro e wz ⟨rfl, bb⟩; replace hv := hv.below bb; replace hc := hc.below bb; replace hs := hs.below bb; replace hp := hp.below bb; replace Ba := Ba.below bb; replace Bc := Bc.below bb; replace Bs := Bs.below bb; replace hk := hk.trans (bb.mono hk.size); clear bb; have Bac0 := Ba.c0; have Bac1 := Ba.c1; have Bcc0 := Bc.c0; have Bcc1 := Bc.c1; have Bsc0 := Bs.c0; have Bsc1 := Bs.c1))
        | (go_at_call 14; (first | (have _t := tok1; refine (implEval_any _ _ _ z _ _ _ ps _ hc hp).mono ?_; rintro e wz ⟨rfl, bb⟩; replace hv := hv.below bb; replace hc := hc.below bb; replace hs := hs.below bb; replace hp := hp.below bb; replace Ba := Ba.below bb; replace Bc := Bc.below bb; replace Bs := Bs.below bb; replace hk := hk.trans (bb.mono hk.size); clear bb; have Bac0 := Ba.c0; have Bac1 := Ba.c1; have Bcc0 := Bc.c0; have Bcc1 := Bc.c1; have Bsc0 := Bs.c0; have Bsc1 := Bs.c1; rw [Hev.out, Hex.out]; clear _t tok1) | (refine (implEval_any _ _ _ x _ _ _ ps _ hv hp).mono ?_; rintro e wz ⟨rfl, bb⟩; replace hv := hv.below bb; replace hc := hc.below bb; replace hs := hs.below bb; replace hp := hp.below bb; replace Ba := Ba.below bb; replace Bc := Bc.below bb; replace Bs := Bs.below bb; replace hk := hk.trans (bb.mono hk.size); clear bb; have Bac0 := Ba.c0; have Bac1 := Ba.c1; have Bcc0 := Bc.c0; have Bcc1 := Bc.c1; have Bsc0 := Bs.c0; have Bsc1 := Bs.c1; rw [Hex.out]))))
    all_goals
      go_wp2_with fail
      go_ret
      exact ⟨rfl, hk⟩
end Go.Proofs.YtkhlaphegnldeaaDoor
