/- The walk of FnAffineDepth; condition: what the slices of bytes hold. -/
import Derived.Test.YtkhlaphegnldeaaAffW
import Derived.Test.YtkhlaphegnldeaaAffB
import Derived.Test.YtkhlaphegnldeaaAffE
import Derived.Test.YtkhlaphegnldeaaSame
import Derived.Test.YtkhlaphegnldeaaAffP
import Derived.Test.YtkhlaphegnldeaaAffPb
namespace Go.Proofs.Ytkhlaphegnldeaa
set_option linter.unusedVariables false
set_option linter.unusedSimpArgs false
open Go.RowKit

set_option maxHeartbeats 12800000 in
theorem lawDepth (a : Option Addr) (n c : Nat) (bs : List Int) (a2 : Option Addr) (n2 c2 : Nat) (bs2 : List Int) (w : World) (hx0 : n ≤ 1048576 → Sl Sh.byte (fun b => b < w.heap.size) w (.slice a n c) bs) (hbs : ∀ x ∈ bs, 0 ≤ x ∧ x ≤ 255)
    (hy0 : n2 ≤ 1048576 → Sl Sh.byte (fun b => b < w.heap.size) w (.slice a2 n2 c2) bs2) (hbs2 : ∀ x ∈ bs2, 0 ≤ x ∧ x ≤ 255) :
    Calls Try.prog 3 #[.slice a n c, .slice a2 n2 c2] w fun e w' => e = .returned (.bool true) ∧ Below w.heap.size w w' := by
  by_cases hn : 1048576 < n
  · have h1 : decide ((1048576 : Int) < (n : Int)) = true := by simp; omega
    go_enter Try.func3, Try.ntmps3
    go_wp2_with fail
    go_ret
    exact ⟨rfl, Below.refl _ _⟩
  have h1 : decide ((1048576 : Int) < (n : Int)) = false := by simp; omega
  have hx := hx0 (by omega)
  by_cases hn2 : 1048576 < n2
  · have h2 : decide ((1048576 : Int) < (n2 : Int)) = true := by simp; omega
    clear hx0 hy0 hx hbs hbs2
    go_enter Try.func3, Try.ntmps3
    go_wp2_with fail
    go_ret
    exact ⟨rfl, Below.refl _ _⟩
  have h2 : decide ((1048576 : Int) < (n2 : Int)) = false := by simp; omega
  have hy := hy0 (by omega)
  have Hbs2 := hid hbs2
  clear hy0 hbs2
  have Hbs := hid hbs
  clear hx0 hbs
  go_enter Try.func3, Try.ntmps3
  go_wp2_with fail
  refine (drawAD_any a n c bs w hx Hbs.out).mono ?_
  rintro e w1 ⟨v, x, rfl, hv, lx, hk⟩
  obtain ⟨ax, cx, rfl, _, _, _⟩ := hv.shape
  have hal := ((Below.refl w1.heap.size w1).alloc (Nat.le_refl _) (.cells #[(.slice ax x.1.length cx), (.int .i64 x.2)] 25))
  replace hv := hv.below hal
  have Ba := (Box2.new w1 (.slice ax x.1.length cx) (.int .i64 x.2) 25)
  replace hk := hk.trans (hal.mono hk.size)
  go_wp2_with fail
  generalize (w1.alloc (.cells #[(.slice ax x.1.length cx), (.int .i64 x.2)] 25)) = W1 at hv Ba hal hk
  clear hal
  have Bac0 := Ba.c0; have Bac1 := Ba.c1; have Balt := Ba.lt
  refine (implDepth_any _ _ x _ hv).mono ?_
  rintro e W2 ⟨rfl, bb⟩
  replace hv := hv.below bb
  replace Ba := Ba.below bb
  replace hk := hk.trans (bb.mono hk.size)
  clear bb
  clear Bac0 Bac1 Balt
  have Bac0 := Ba.c0; have Bac1 := Ba.c1; have Balt := Ba.lt
  generalize hd : depthOf x = d
  have Hd := hid hd; clear hd
  go_wp2_with fail
  refine (specDepth_any _ _ x _ hv).mono ?_
  rintro e W3 ⟨rfl, bb⟩
  replace hv := hv.below bb
  replace Ba := Ba.below bb
  replace hk := hk.trans (bb.mono hk.size)
  clear bb
  rw [Hd.out]
  clear Bac0 Bac1 Balt
  have Bac0 := Ba.c0; have Bac1 := Ba.c1; have Balt := Ba.lt
  go_wp2_with fail
  refine (implAffV_any _ _ x _ hv).mono ?_
  rintro e W4 ⟨rfl, bb⟩
  replace hv := hv.below bb
  replace Ba := Ba.below bb
  replace hk := hk.trans (bb.mono hk.size)
  clear bb
  clear Bac0 Bac1 Balt
  have Bac0 := Ba.c0; have Bac1 := Ba.c1; have Balt := Ba.lt
  cases hV : affV x
  · have HV := hid hV; clear hV
    go_wp2_with fail
    refine (specDepth_any _ _ x _ hv).mono ?_
    rintro e W5 ⟨rfl, bb⟩
    replace hv := hv.below bb
    replace Ba := Ba.below bb
    replace hk := hk.trans (bb.mono hk.size)
    clear bb
    rw [Hd.out]
    clear Bac0 Bac1 Balt
    have Bac0 := Ba.c0; have Bac1 := Ba.c1; have Balt := Ba.lt
    go_wp2_with fail
    go_ret
    exact ⟨rfl, hk⟩
  · have HV := hid hV; clear hV
    obtain ⟨dn, hdn⟩ : ∃ dn, affDepth x = dn := ⟨_, rfl⟩
    have hdd : d = (dn : Int) := by rw [← Hd.out, depthOf, HV.out, if_pos rfl, hdn]
    have Hdd := hid hdd; clear hdd
    have hd4 : dn ≤ 4 := by rw [← hdn, ← affV_len HV.out]; exact depthTo_le _ _
    have Hdn := hid hdn; clear hdn
    have hal := ((Below.refl W4.heap.size W4).alloc (Nat.le_refl _) (.cells #[.int .i64 1, .int .i64 2, .int .i64 3, .int .i64 4] 3)).alloc (by simp) (.cells #[.int .i64 1, .int .i64 2, .int .i64 3, .int .i64 4] 3)
    have hv5 := (hv.mono (Q := fun b => b < W4.heap.size) fun b _ h => h).below hal
    have Ba5 := Ba.below hal
    have hk5 := hk.trans (hal.mono hk.size)
    have Hszw := hid hk.size
    have op : OwnI W4.heap.size ((W4.alloc (.cells #[.int .i64 1, .int .i64 2, .int .i64 3, .int .i64 4] 3)).alloc (.cells #[.int .i64 1, .int .i64 2, .int .i64 3, .int .i64 4] 3)) (.slice (some ⟨W4.heap.size, 0, none⟩) 4 4) [1, 2, 3, 4] := (OwnI.made (B := W4.heap.size) W4 [1, 2, 3, 4] (Nat.le_refl _) (by simp)).alloc (.cells #[.int .i64 1, .int .i64 2, .int .i64 3, .int .i64 4] 3)
    have oq : OwnI (W4.heap.size + 1) ((W4.alloc (.cells #[.int .i64 1, .int .i64 2, .int .i64 3, .int .i64 4] 3)).alloc (.cells #[.int .i64 1, .int .i64 2, .int .i64 3, .int .i64 4] 3)) (.slice (some ⟨W4.heap.size + 1, 0, none⟩) 4 4) [1, 2, 3, 4] := by have h9 := OwnI.made (B := W4.heap.size + 1) (W4.alloc (.cells #[.int .i64 1, .int .i64 2, .int .i64 3, .int .i64 4] 3)) [1, 2, 3, 4] (by simp) (by simp); rw [World.size_alloc] at h9; exact h9
    have hs5 : ((W4.alloc (.cells #[.int .i64 1, .int .i64 2, .int .i64 3, .int .i64 4] 3)).alloc (.cells #[.int .i64 1, .int .i64 2, .int .i64 3, .int .i64 4] 3)).heap.size = W4.heap.size + 1 + 1 := by simp
    have Hs5 := hid hs5
    clear hv Ba hk hal hs5
    go_wp2_with fail
    generalize (W4.alloc (.cells #[.int .i64 1, .int .i64 2, .int .i64 3, .int .i64 4] 3)).alloc (.cells #[.int .i64 1, .int .i64 2, .int .i64 3, .int .i64 4] 3) = w5 at hv5 Ba5 hk5 op oq Hs5
    have HV5 := hid hv5; have HB5 := hid Ba5; have HK5 := hid hk5; have HP := hid op
    clear hv5 Ba5 hk5 op
    have hm0 := Int.emod_nonneg (n2 : Int) (show (50 : Int) ≠ 0 by omega)
    have hm1 := Int.emod_lt_of_pos (n2 : Int) (show (0 : Int) < 50 by omega)
    generalize hmm : (n2 : Int) % 50 = mm at hm0 hm1
    go_loopw [9] (fun i wr => ∃ (j : Nat) (qs : List Int), dn ≤ j ∧ j ≤ 4 ∧ i = .int .i64 j ∧ OwnI (W4.heap.size + 1) wr (.slice (some ⟨W4.heap.size + 1, 0, none⟩) 4 4) qs ∧ Hid (isPt qs = true ∧ ∀ i, i < dn → qs.getD i 0 = ([1, 2, 3, 4] : List Int).getD i 0) ∧ w5.grownBy wr (some (W4.heap.size + 1))) (fun i _ => 4 - (intOf i).toNat)
    case atStart => exact ⟨dn, _, Nat.le_refl _, hd4, by rw [Hdd.out], oq, hid ⟨by decide, fun _ _ => rfl⟩, World.grownBy.refl _ _⟩
    case round =>
      obtain ⟨j, qs, hj0, hj, rfl, ho, hq, hg⟩ := hrel
      by_cases hlt : j < 4
      · obtain ⟨_, _, e, _, _, _, hcell, hfr⟩ := ho.at (by omega)
        cases e
        have r1 : wr.cell? ⟨W4.heap.size + 1, j, none⟩ = some (.int .i64 (qs.getD j 0)) := by simpa using hcell j hlt
        have r2 : wr.frozen? ⟨W4.heap.size + 1, j, none⟩ = false := hfr j
        generalize qs.getD j 0 = qj at r1
        have hset := ho.set j mm
        rw [Nat.zero_add] at hset
        have hq2 : isPt (qs.set j mm) = true ∧ ∀ i, i < dn → (qs.set j mm).getD i 0 = ([1, 2, 3, 4] : List Int).getD i 0 := by
          refine ⟨isPt_mk (by rw [List.length_set]; exact isPt_len hq.out.1) (fun z hz => ?_), fun i hi => ?_⟩
          · rcases List.mem_or_eq_of_mem_set hz with h1 | h1
            · have h9 := hq.out.1
              simp [isPt, inB] at h9
              exact h9.2 z h1
            · omega
          · rw [set_getD_ne (by omega)]; exact hq.out.2 i hi
        have Hq2 := hid hq2; have Hset := hid hset
        have Hg2 := hid (grownBy_transK hg (setCell_grown wr ⟨W4.heap.size + 1, j, none⟩ (.int .i64 mm)))
        have hj4 : (j : Int) < 4 := by omega
        clear hq2 hset hcell hfr ho hg hq
        go_wp2_with fail
        try rw [hmm]
        exact ⟨⟨j + 1, _, by omega, by omega, rfl, Hset.out, Hq2, Hg2.out⟩, by simp [intOf]; omega⟩
      · have hje : j = 4 := by omega
        subst hje
        have hql : qs.length = 4 := ho.len
        have hev := depth_eval HV.out Hdn.out hql hq.out.1 hq.out.2
        generalize hee : evalOf x [1, 2, 3, 4] = ev at hev
        have Hev := hid hev; have Hee := hid hee; clear hev hee
        have hv := HV5.out.grown hg (fun b (hb : b < W4.heap.size) e => by have := Option.some.inj e; omega)
        have Ba := HB5.out.grown hg (fun e => by have := Option.some.inj e; omega)
        have hk := HK5.out.grown hg HK5.out.size (fun k hk => by cases hk; have := Hszw.out; omega)
        have hp := (HP.out.grown hg (fun b hb e => by have h1 := Option.some.inj hb; have h2 := Option.some.inj e; simp at h2; omega)).sl (by simp)
        have hqq := ho.sl (by omega)
        clear ho hg HV5 HB5 HK5 HP hq
        have Bac0 := Ba.c0; have Bac1 := Ba.c1
        have hxl := affV_len HV.out
        have hlast := depthTo_last x.1 x.1.length
        have hlast : dn = 0 ∨ x.1.getD (dn - 1) 0 ≠ 0 := by have h9 := Hdn.out; rw [affDepth] at h9; rw [h9] at hlast; exact hlast
        obtain ⟨bx, ox, hbx, _, _, hcx⟩ := hv.sl.intAt (by omega)
        subst hbx
        cases dn with
        | zero =>
          have hd0 : (d == 0) = true := by rw [Hdd.out]; rfl
          have Hxl := hid hxl; clear hcx hlast hxl
          go_wp2_with fail
          have hdr := (Below.refl wr.heap.size wr).drew
          replace hv := hv.below hdr
          replace hp := hp.below hdr
          replace hqq := hqq.below hdr
          replace Ba := Ba.below hdr
          replace hk := hk.trans (hdr.mono hk.size)
          clear hdr
          have tok1 : True := trivial
          first | (go_region_with (first
              | (go_at_call 14; (first | (have _t := tok1; refine (implEval_any _ _ _ x _ _ _ [1, 2, 3, 4] _ hv hp).mono ?_; rintro e wz ⟨rfl, bb⟩; replace hv := hv.below bb; replace hp := hp.below bb; replace hqq := hqq.below bb; replace Ba := Ba.below bb; replace hk := hk.trans (bb.mono hk.size); clear bb; have Bac0 := Ba.c0; have Bac1 := Ba.c1; rw [Hee.out]; clear _t tok1) | (refine (implEval_any _ _ _ x _ _ _ qs _ hv hqq).mono ?_; rintro e wz ⟨rfl, bb⟩; replace hv := hv.below bb; replace hp := hp.below bb; replace hqq := hqq.below bb; replace Ba := Ba.below bb; replace hk := hk.trans (bb.mono hk.size); clear bb; have Bac0 := Ba.c0; have Bac1 := Ba.c1; rw [Hev.out]))))) | fail
          all_goals
            go_wp2_with fail
            go_ret
            exact ⟨rfl, hk⟩
        | succ s =>
          have hks : x.1.getD s 0 ≠ 0 := by rcases hlast with h | h; (exact absurd h (Nat.succ_ne_zero s)); exact h
          have q1 := hcx s (by omega)
          generalize hkc : x.1.getD s 0 = kc at q1 hks
          have Hkc := hid hkc; clear hkc hcx hlast
          have hks' : (kc != 0) = true := by simpa using hks
          obtain rfl : d = (s : Int) + 1 := by rw [Hdd.out]; omega
          have m0 : ((s : Int) + 1 == 0) = false := by simp; omega
          have km : IntKind.i64.wrap ((s : Int) + 1 - 1) = s := by rw [Int.add_sub_cancel]; exact IntWalk.i64_in _ (by omega)
          have km2 : IntKind.i64.wrap (s : Int) = s := IntWalk.i64_in _ (by omega)
          have km0 : (0 : Int) ≤ (s : Int) := by omega
          have hm5 : (s : Int) < (x.1.length : Int) := by omega
          have Hxl := hid hxl; clear hxl hks
          go_wp2_with fail
          have hdr := (Below.refl wr.heap.size wr).drew
          replace hv := hv.below hdr
          replace hp := hp.below hdr
          replace hqq := hqq.below hdr
          replace Ba := Ba.below hdr
          replace hk := hk.trans (hdr.mono hk.size)
          clear hdr
          have tok1 : True := trivial
          go_region_held3 (fun wq => wq.cell? ⟨w1.heap.size, 0, none⟩ = some (.slice (some ⟨bx, ox, none⟩) x.1.length cx) ∧ wq.cell? ⟨w1.heap.size, 1, none⟩ = some (.int .i64 x.2) ∧ wq.cell? ⟨bx, ox + s, none⟩ = some (.int .i64 kc))
            ((repeat' apply And.intro) <;> first | assumption | go_keep)
            (first
              | (go_at_call 14; (first | (have _t := tok1; refine (implEval_any _ _ _ x _ _ _ [1, 2, 3, 4] _ hv hp).mono ?_; rintro e wz ⟨rfl, bb⟩; replace hv := hv.below bb; replace hp := hp.below bb; replace hqq := hqq.below bb; replace Ba := Ba.below bb; replace hk := hk.trans (bb.mono hk.size); clear bb; obtain ⟨_, _, e, _, _, hcx⟩ := hv.sl.intAt (by omega); cases e; have c2 := hcx s (by omega); rw [Hkc.out] at c2; clear hcx; have Bac0 := Ba.c0; have Bac1 := Ba.c1; rw [Hee.out]; clear _t tok1) | (refine (implEval_any _ _ _ x _ _ _ qs _ hv hqq).mono ?_; rintro e wz ⟨rfl, bb⟩; replace hv := hv.below bb; replace hp := hp.below bb; replace hqq := hqq.below bb; replace Ba := Ba.below bb; replace hk := hk.trans (bb.mono hk.size); clear bb; obtain ⟨_, _, e, _, _, hcx⟩ := hv.sl.intAt (by omega); cases e; have c2 := hcx s (by omega); rw [Hkc.out] at c2; clear hcx; have Bac0 := Ba.c0; have Bac1 := Ba.c1; rw [Hev.out]))))
          all_goals
            go_wp2_with fail
            go_ret
            exact ⟨rfl, hk⟩
end Go.Proofs.Ytkhlaphegnldeaa
