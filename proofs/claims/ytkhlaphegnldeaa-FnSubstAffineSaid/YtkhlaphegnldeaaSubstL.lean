/- The walk of FnSubstAffine; condition: what the slices of bytes hold. -/
import Derived.Test.YtkhlaphegnldeaaAffX
import Derived.Test.YtkhlaphegnldeaaAffW
import Derived.Test.YtkhlaphegnldeaaAffB
import Derived.Test.YtkhlaphegnldeaaAffE
import Derived.Test.YtkhlaphegnldeaaSame
import Derived.Test.YtkhlaphegnldeaaAffP
import Derived.Test.YtkhlaphegnldeaaAffPb
namespace Go.Proofs.Ytkhlaphegnldeaa
set_option linter.unusedVariables false
set_option linter.unusedSimpArgs false
open Go.RowKit

set_option maxHeartbeats 12800000 in
theorem lawSubst (a : Option Addr) (n c : Nat) (bs : List Int) (a2 : Option Addr) (n2 c2 : Nat) (bs2 : List Int) (w : World) (hx0 : n ≤ 1048576 → Sl Sh.byte (fun b => b < w.heap.size) w (.slice a n c) bs) (hbs : ∀ x ∈ bs, 0 ≤ x ∧ x ≤ 255)
    (hy0 : n2 ≤ 1048576 → Sl Sh.byte (fun b => b < w.heap.size) w (.slice a2 n2 c2) bs2) (hbs2 : ∀ x ∈ bs2, 0 ≤ x ∧ x ≤ 255) :
    Calls Try.prog 8 #[.slice a n c, .slice a2 n2 c2] w fun e w' => e = .returned (.bool true) ∧ Below w.heap.size w w' := by
  by_cases hn : 1048576 < n
  · have h1 : decide ((1048576 : Int) < (n : Int)) = true := by simp; omega
    go_enter Try.func8, Try.ntmps8
    go_wp2_with fail
    go_ret
    exact ⟨rfl, Below.refl _ _⟩
  have h1 : decide ((1048576 : Int) < (n : Int)) = false := by simp; omega
  have hx := hx0 (by omega)
  by_cases hn2 : 1048576 < n2
  · have h2 : decide ((1048576 : Int) < (n2 : Int)) = true := by simp; omega
    clear hx0 hy0 hx hbs hbs2
    go_enter Try.func8, Try.ntmps8
    go_wp2_with fail
    go_ret
    exact ⟨rfl, Below.refl _ _⟩
  have h2 : decide ((1048576 : Int) < (n2 : Int)) = false := by simp; omega
  have hy := hy0 (by omega)
  have Hbs2 := hid hbs2
  clear hy0 hbs2
  have Hbs := hid hbs
  clear hx0 hbs
  go_enter Try.func8, Try.ntmps8
  go_wp2_with fail
  refine (drawSubst_any a n c bs w hx Hbs.out).mono ?_
  rintro e w1 ⟨v, u, x, y, j, rfl, hv, hu, lx, ly, hk⟩
  replace hy := hy.below hk
  obtain ⟨ax, cx, rfl, _, _, _⟩ := hv.shape
  obtain ⟨ay, cy, rfl, _, _, _⟩ := hu.shape
  have hal := (((Below.refl w1.heap.size w1).alloc (Nat.le_refl _) (.cells #[(.slice ax x.1.length cx), (.int .i64 x.2)] 25)).alloc (by simp <;> omega) (.cells #[(.slice ay y.1.length cy), (.int .i64 y.2)] 25))
  replace hy := hy.below hal
  replace hv := hv.below hal
  replace hu := hu.below hal
  have Ba := ((Box2.new w1 (.slice ax x.1.length cx) (.int .i64 x.2) 25).alloc (.cells #[(.slice ay y.1.length cy), (.int .i64 y.2)] 25))
  have Bb := (Box2.new (w1.alloc (.cells #[(.slice ax x.1.length cx), (.int .i64 x.2)] 25)) (.slice ay y.1.length cy) (.int .i64 y.2) 25)
  rw [World.size_alloc] at Bb
  replace hk := hk.trans (hal.mono hk.size)
  go_wp2_with fail
  generalize ((w1.alloc (.cells #[(.slice ax x.1.length cx), (.int .i64 x.2)] 25)).alloc (.cells #[(.slice ay y.1.length cy), (.int .i64 y.2)] 25)) = W1 at hy hv hu Ba Bb hal hk
  clear hal
  have Bac0 := Ba.c0; have Bac1 := Ba.c1; have Balt := Ba.lt
  have Bbc0 := Bb.c0; have Bbc1 := Bb.c1; have Bblt := Bb.lt
  refine (implSubst_any _ _ _ x _ y j _ hv hu).mono ?_
  rintro e W2 ⟨vc, rfl, hc, bb⟩
  replace hy := hy.below bb
  replace hv := hv.below bb
  replace hu := hu.below bb
  replace Ba := Ba.below bb
  replace Bb := Bb.below bb
  replace hk := hk.trans (bb.mono hk.size)
  clear bb
  generalize hok : (substOf x j y).2 = ok
  generalize hz : (substOf x j y).1 = z at hc
  have Hok := hid hok; have Hz := hid hz; clear hok hz
  obtain ⟨ac, cc, rfl, _, _, _⟩ := hc.shape
  clear Bac0 Bac1 Balt Bbc0 Bbc1 Bblt
  have Bac0 := Ba.c0; have Bac1 := Ba.c1; have Balt := Ba.lt
  have Bbc0 := Bb.c0; have Bbc1 := Bb.c1; have Bblt := Bb.lt
  have hal := ((Below.refl W2.heap.size W2).alloc (Nat.le_refl _) (.cells #[(.slice ac z.1.length cc), (.int .i64 z.2)] 25))
  replace hy := hy.below hal
  replace hv := hv.below hal
  replace hu := hu.below hal
  replace hc := hc.below hal
  replace Ba := Ba.below hal
  replace Bb := Bb.below hal
  have Bc := (Box2.new W2 (.slice ac z.1.length cc) (.int .i64 z.2) 25)
  replace hk := hk.trans (hal.mono hk.size)
  go_wp2_with fail
  generalize (W2.alloc (.cells #[(.slice ac z.1.length cc), (.int .i64 z.2)] 25)) = W3 at hy hv hu hc Ba Bb Bc hal hk
  clear hal
  clear Bac0 Bac1 Balt Bbc0 Bbc1 Bblt
  have Bac0 := Ba.c0; have Bac1 := Ba.c1; have Balt := Ba.lt
  have Bbc0 := Bb.c0; have Bbc1 := Bb.c1; have Bblt := Bb.lt
  have Bcc0 := Bc.c0; have Bcc1 := Bc.c1; have Bclt := Bc.lt
  refine (specSubst_any _ _ _ x _ y j _ hv hu).mono ?_
  rintro e W4 ⟨vw, rfl, hw, bb⟩
  replace hy := hy.below bb
  replace hv := hv.below bb
  replace hu := hu.below bb
  replace hc := hc.below bb
  replace Ba := Ba.below bb
  replace Bb := Bb.below bb
  replace Bc := Bc.below bb
  replace hk := hk.trans (bb.mono hk.size)
  clear bb
  rw [Hok.out]
  rw [Hz.out] at hw
  obtain ⟨aw, cw, rfl, _, _, _⟩ := hw.shape
  clear Bac0 Bac1 Balt Bbc0 Bbc1 Bblt Bcc0 Bcc1 Bclt
  have Bac0 := Ba.c0; have Bac1 := Ba.c1; have Balt := Ba.lt
  have Bbc0 := Bb.c0; have Bbc1 := Bb.c1; have Bblt := Bb.lt
  have Bcc0 := Bc.c0; have Bcc1 := Bc.c1; have Bclt := Bc.lt
  have hal := ((Below.refl W4.heap.size W4).alloc (Nat.le_refl _) (.cells #[(.slice aw z.1.length cw), (.int .i64 z.2)] 25))
  replace hy := hy.below hal
  replace hv := hv.below hal
  replace hu := hu.below hal
  replace hc := hc.below hal
  replace hw := hw.below hal
  replace Ba := Ba.below hal
  replace Bb := Bb.below hal
  replace Bc := Bc.below hal
  have Bw := (Box2.new W4 (.slice aw z.1.length cw) (.int .i64 z.2) 25)
  replace hk := hk.trans (hal.mono hk.size)
  go_wp2_with fail
  generalize (W4.alloc (.cells #[(.slice aw z.1.length cw), (.int .i64 z.2)] 25)) = W5 at hy hv hu hc hw Ba Bb Bc Bw hal hk
  clear hal
  clear Bac0 Bac1 Balt Bbc0 Bbc1 Bblt Bcc0 Bcc1 Bclt
  have Bac0 := Ba.c0; have Bac1 := Ba.c1; have Balt := Ba.lt
  have Bbc0 := Bb.c0; have Bbc1 := Bb.c1; have Bblt := Bb.lt
  have Bcc0 := Bc.c0; have Bcc1 := Bc.c1; have Bclt := Bc.lt
  have Bwc0 := Bw.c0; have Bwc1 := Bw.c1; have Bwlt := Bw.lt
  refine (implSame_any _ _ _ _ z z _ hc hw).mono ?_
  rintro e W6 ⟨rfl, bb⟩
  replace hy := hy.below bb
  replace hv := hv.below bb
  replace hu := hu.below bb
  replace hc := hc.below bb
  replace hw := hw.below bb
  replace Ba := Ba.below bb
  replace Bb := Bb.below bb
  replace Bc := Bc.below bb
  replace Bw := Bw.below bb
  replace hk := hk.trans (bb.mono hk.size)
  clear bb
  rw [(sameOf_iff z z).2 rfl]
  clear Bac0 Bac1 Balt Bbc0 Bbc1 Bblt Bcc0 Bcc1 Bclt Bwc0 Bwc1 Bwlt
  have Bac0 := Ba.c0; have Bac1 := Ba.c1; have Balt := Ba.lt
  have Bbc0 := Bb.c0; have Bbc1 := Bb.c1; have Bblt := Bb.lt
  have Bcc0 := Bc.c0; have Bcc1 := Bc.c1; have Bclt := Bc.lt
  have Bwc0 := Bw.c0; have Bwc1 := Bw.c1; have Bwlt := Bw.lt
  cases ok
  · go_wp2_with fail
    refine (implSame_any _ _ _ _ z z _ hc hw).mono ?_
    rintro e W7 ⟨rfl, bb⟩
    replace hy := hy.below bb
    replace hv := hv.below bb
    replace hu := hu.below bb
    replace hc := hc.below bb
    replace hw := hw.below bb
    replace Ba := Ba.below bb
    replace Bb := Bb.below bb
    replace Bc := Bc.below bb
    replace Bw := Bw.below bb
    replace hk := hk.trans (bb.mono hk.size)
    clear bb
    rw [(sameOf_iff z z).2 rfl]
    clear Bac0 Bac1 Balt Bbc0 Bbc1 Bblt Bcc0 Bcc1 Bclt Bwc0 Bwc1 Bwlt
    have Bac0 := Ba.c0; have Bac1 := Ba.c1; have Balt := Ba.lt
    have Bbc0 := Bb.c0; have Bbc1 := Bb.c1; have Bblt := Bb.lt
    have Bcc0 := Bc.c0; have Bcc1 := Bc.c1; have Bclt := Bc.lt
    have Bwc0 := Bw.c0; have Bwc1 := Bw.c1; have Bwlt := Bw.lt
    go_wp2_with fail
    go_ret
    exact ⟨rfl, hk⟩
  · skip
    obtain ⟨hxV, hyV, hjj, _, _⟩ := subst_ok Hok.out
    obtain ⟨jn, rfl⟩ : ∃ jn : Nat, j = jn := ⟨j.toNat, by simp [inB] at hjj; omega⟩
    have jn4 : jn < 4 := by simp [inB] at hjj; omega
    have Hx := hid hxV; have Hy := hid hyV; clear hxV hyV hjj
    have p00 := Int.emod_nonneg (n : Int) (show (7 : Int) ≠ 0 by omega)
    have p01 := Int.emod_lt_of_pos (n : Int) (show (0 : Int) < 7 by omega)
    have p10 := Int.emod_nonneg (n2 : Int) (show (5 : Int) ≠ 0 by omega)
    have p11 := Int.emod_lt_of_pos (n2 : Int) (show (0 : Int) < 5 by omega)
    generalize hq0 : (n : Int) % 7 = q0 at p00 p01
    generalize hq1 : (n2 : Int) % 5 = q1 at p10 p11
    have hal := (Below.refl W6.heap.size W6).alloc (Nat.le_refl _) (.cells #[.int .i64 q0, .int .i64 q1, .int .i64 3, .int .i64 1] 3)
    have op : OwnI W6.heap.size (W6.alloc (.cells #[.int .i64 q0, .int .i64 q1, .int .i64 3, .int .i64 1] 3)) (.slice (some ⟨W6.heap.size, 0, none⟩) 4 4) [q0, q1, 3, 1] := OwnI.made (B := W6.heap.size) W6 [q0, q1, 3, 1] (Nat.le_refl _) (by simp)
    have hps : Sl Sh.int (fun b => (Value.slice (some ⟨W6.heap.size, 0, none⟩) 4 4).ownBlock = some b) ((W6.alloc (.cells #[.int .i64 q0, .int .i64 q1, .int .i64 3, .int .i64 1] 3)).alloc (.cells #[] 3)) (.slice (some ⟨W6.heap.size, 0, none⟩) 4 4) [q0, q1, 3, 1] := (op.sl (by simp)).alloc _
    have oq : OwnI (W6.heap.size + 1) ((W6.alloc (.cells #[.int .i64 q0, .int .i64 q1, .int .i64 3, .int .i64 1] 3)).alloc (.cells #[] 3)) (.slice (some ⟨W6.heap.size + 1, 0, none⟩) 0 0) [] := by have h9 := OwnI.empty (B := W6.heap.size + 1) (W6.alloc (.cells #[.int .i64 q0, .int .i64 q1, .int .i64 3, .int .i64 1] 3)) (by simp); rw [World.size_alloc] at h9; exact h9
    go_wp2_with (at_builtin; go_must (refine wpList_appSI _ rfl _ _ rfl (W6.heap.size + 1) _ [] rfl oq _ _ _ [q0, q1, 3, 1] _ rfl hps ?_ ?_ ?c1 ?c2))
    case c1 => simp
    case c2 => simp
    · intro b hb _ e
      have h8 := Option.some.inj hb
      have h9 := Option.some.inj e
      simp at h8 h9
      omega
    intro v6 w6 o6 g6 b6 _
    obtain ⟨a6, c6, rfl, hc6⟩ : ∃ a6 c6, v6 = .slice a6 4 c6 ∧ 4 ≤ c6 := o6.shape
    have o6' : OwnI (W6.heap.size + 1) w6 (.slice a6 4 c6) [q0, q1, 3, 1] := o6
    obtain ⟨q, off, rfl, hqB, hql, _, _, _⟩ := o6'.at (by decide)
    have op6 : OwnI W6.heap.size w6 (.slice (some ⟨W6.heap.size, 0, none⟩) 4 4) [q0, q1, 3, 1] := (op.alloc (.cells #[] 3)).grown g6 (fun b hb e => by have h8 := Option.some.inj hb; have h9 := Option.some.inj e; simp at h8 h9; omega)
    have bw := (hal.alloc (by simp) (.cells #[] 3)).trans (b6.mono (Nat.le_succ _))
    have Bb6 := Bb.below bw; have b60 := Bb6.c0; have b61 := Bb6.c1
    have O6 := hid o6'; have OP6 := hid op6; have BW := hid bw
    clear o6 o6' op6 bw b6 g6 hal op hps oq
    have jn4' : (jn : Int) < 4 := by omega
    go_wp2_with fail
    have hpt : isPt [q0, q1, 3, 1] = true := isPt_mk (by simp) (fun z hz => by simp at hz; omega)
    have Hpt := hid hpt
    have hsm := evalOf_small (x := y) (p := [q0, q1, 3, 1]) (fun i => by rcases Nat.lt_or_ge i 4 with hi | hi; (rw [getD4 _ _ _ _ i hi]; split; omega; split; omega; split <;> omega); (rw [List.getD, List.getElem?_eq_none (by simpa using hi)]; simp)) hpt Hy.out
    refine (implEval_any _ _ _ y _ _ _ [q0, q1, 3, 1] _ (hu.below BW.out) (OP6.out.sl (by simp))).mono ?_
    rintro e w7 ⟨rfl, b7⟩
    generalize hV : evalOf y [q0, q1, 3, 1] = V at hsm
    have HV := hid hV; clear hV
    have o7 := O6.out.below b7
    obtain ⟨_, _, e, _, _, _, hcell, hfr⟩ := o7.at (by decide)
    cases e
    have r1 := hcell jn jn4
    have r2 := hfr (off + jn)
    generalize ([q0, q1, 3, 1] : List Int).getD jn 0 = rj at r1
    have HO8 := hid (o7.set jn V)
    have st := setCell_grown w7 ⟨q, off + jn, none⟩ (.int .i64 V)
    have HP8 := hid ((OP6.out.below b7).grown st (fun b hb e => by have h8 := Option.some.inj hb; have h9 := Option.some.inj e; simp at h8 h9; omega))
    have bw8 := (BW.out.trans (b7.mono BW.out.size)).setCell (p := ⟨q, off + jn, none⟩) (by show _ ≤ q; omega) (.int .i64 V)
    have HV8 := hid (hv.below bw8); have HC8 := hid (hc.below bw8); have HBa := hid (Ba.below bw8); have HBc := hid (Bc.below bw8); have HK8 := hid (hk.trans (bw8.mono hk.size))
    have hq4 : isPt (([q0, q1, 3, 1] : List Int).set jn V) = true := isPt_mk (by simp) (fun z hz => by rcases List.mem_or_eq_of_mem_set hz with h1 | h1; (simp at h1; omega); omega)
    have hlaw := substEval_law Hok.out Hz.out [q0, q1, 3, 1] Hpt.out rfl (by rw [Int.toNat_natCast, HV.out]; exact hq4)
    rw [Int.toNat_natCast, HV.out] at hlaw
    generalize hee : evalOf x (([q0, q1, 3, 1] : List Int).set jn V) = ee at hlaw
    have Hee := hid hee; have Hlaw := hid hlaw
    clear hee hlaw hq4 hpt hsm bw8 st o7 hcell hfr b7 hv hu hc Ba Bb Bc Bw hk BW O6 OP6
    go_wp2_with fail
    have hv := HV8.out; have hc := HC8.out; have Ba := HBa.out; have Bc := HBc.out; have hk := HK8.out
    have hp := HP8.out.sl (by simp); have hqq := HO8.out.sl (by simp)
    clear HV8 HC8 HBa HBc HK8 HP8 HO8 r1 r2
    have Bac0 := Ba.c0; have Bac1 := Ba.c1; have Bcc0 := Bc.c0; have Bcc1 := Bc.c1
    generalize (w7.setCell ⟨q, off + jn, none⟩ (.int .i64 V)) = w8 at hv hc Ba Bc hk hp hqq Bac0 Bac1 Bcc0 Bcc1
    have hdr := (Below.refl w8.heap.size w8).drew
    replace hv := hv.below hdr
    replace hc := hc.below hdr
    replace hp := hp.below hdr
    replace hqq := hqq.below hdr
    replace Ba := Ba.below hdr
    replace Bc := Bc.below hdr
    replace hk := hk.trans (hdr.mono hk.size)
    clear hdr
    have tok1 : True := trivial
    go_region_held3 (fun wq => wq.cell? ⟨w1.heap.size, 0, none⟩ = some (.slice ax x.1.length cx) ∧ wq.cell? ⟨w1.heap.size, 1, none⟩ = some (.int .i64 x.2) ∧ wq.cell? ⟨W2.heap.size, 0, none⟩ = some (.slice ac z.1.length cc) ∧ wq.cell? ⟨W2.heap.size, 1, none⟩ = some (.int .i64 z.2))
      ((repeat' apply And.intro) <;> first | assumption | go_keep)
      (first
        | (go_at_call 14; (first | (have _t := tok1; refine (implEval_any _ _ _ z _ _ _ [q0, q1, 3, 1] _ hc hp).mono ?_; rintro e wz ⟨rfl, bb⟩; replace hv := hv.below bb; replace hc := hc.below bb; replace hp := hp.below bb; replace hqq := hqq.below bb; replace Ba := Ba.below bb; replace Bc := Bc.below bb; replace hk := hk.trans (bb.mono hk.size); clear bb; have Bac0 := Ba.c0; have Bac1 := Ba.c1; have Bcc0 := Bc.c0; have Bcc1 := Bc.c1; rw [Hlaw.out]; clear _t tok1) | (refine (implEval_any _ _ _ x _ _ _ (([q0, q1, 3, 1] : List Int).set jn V) _ hv hqq).mono ?_; rintro e wz ⟨rfl, bb⟩; replace hv := hv.below bb; replace hc := hc.below bb; replace hp := hp.below bb; replace hqq := hqq.below bb; replace Ba := Ba.below bb; replace Bc := Bc.below bb; replace hk := hk.trans (bb.mono hk.size); clear bb; have Bac0 := Ba.c0; have Bac1 := Ba.c1; have Bcc0 := Bc.c0; have Bcc1 := Bc.c1; rw [Hee.out]))))
    all_goals
      go_wp2_with fail
      go_ret
      exact ⟨rfl, hk⟩
end Go.Proofs.Ytkhlaphegnldeaa
