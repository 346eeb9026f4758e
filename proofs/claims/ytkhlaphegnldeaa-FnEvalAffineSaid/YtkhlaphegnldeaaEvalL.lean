/- The walk of FnEvalAffine; condition: what the slices of bytes hold. -/
import Derived.Test.YtkhlaphegnldeaaAffW
import Derived.Test.YtkhlaphegnldeaaAffB
import Derived.Test.YtkhlaphegnldeaaAffE
import Derived.Test.YtkhlaphegnldeaaSame
import Derived.Test.YtkhlaphegnldeaaAffP
import Derived.Test.YtkhlaphegnldeaaAffPb
namespace Go.Proofs.Ytkhlaphegnldeaa
set_option linter.unusedVariables false
set_option linter.unusedSimpArgs false
open Go.RowKit

set_option maxHeartbeats 12800000 in
theorem lawEval (a : Option Addr) (n c : Nat) (bs : List Int) (w : World) (hx0 : n ≤ 1048576 → Sl Sh.byte (fun b => b < w.heap.size) w (.slice a n c) bs) (hbs : ∀ x ∈ bs, 0 ≤ x ∧ x ≤ 255) :
    Calls Try.prog 4 #[.slice a n c] w fun e w' => e = .returned (.bool true) ∧ Below w.heap.size w w' := by
  by_cases hn : 1048576 < n
  · have h1 : decide ((1048576 : Int) < (n : Int)) = true := by simp; omega
    go_enter Try.func4, Try.ntmps4
    go_wp2_with fail
    go_ret
    exact ⟨rfl, Below.refl _ _⟩
  have h1 : decide ((1048576 : Int) < (n : Int)) = false := by simp; omega
  have hx := hx0 (by omega)
  have Hbs := hid hbs
  clear hx0 hbs
  go_enter Try.func4, Try.ntmps4
  go_wp2_with fail
  refine (drawEval_any a n c bs w hx Hbs.out).mono ?_
  rintro e w1 ⟨v, u, x, ps, rfl, hv, hp, lx, lp, hk⟩
  obtain ⟨ax, cx, rfl, _, _, _⟩ := hv.shape
  obtain ⟨ap, cp, rfl, _, _, _⟩ := hp.form
  generalize hL : ps.length = L at hp lp ⊢
  have HL := hid hL; clear hL
  have hal := ((Below.refl w1.heap.size w1).alloc (Nat.le_refl _) (.cells #[(.slice ax x.1.length cx), (.int .i64 x.2)] 25))
  replace hv := hv.below hal
  replace hp := hp.below hal
  have Ba := (Box2.new w1 (.slice ax x.1.length cx) (.int .i64 x.2) 25)
  replace hk := hk.trans (hal.mono hk.size)
  go_wp2_with fail
  generalize (w1.alloc (.cells #[(.slice ax x.1.length cx), (.int .i64 x.2)] 25)) = W1 at hv hp Ba hal hk
  clear hal
  have Bac0 := Ba.c0; have Bac1 := Ba.c1; have Balt := Ba.lt
  refine (implEval_any _ _ _ x _ _ _ ps _ hv hp).mono ?_
  rintro e W2 ⟨rfl, bb⟩
  replace hv := hv.below bb
  replace hp := hp.below bb
  replace Ba := Ba.below bb
  replace hk := hk.trans (bb.mono hk.size)
  clear bb
  clear Bac0 Bac1 Balt
  have Bac0 := Ba.c0; have Bac1 := Ba.c1; have Balt := Ba.lt
  go_wp2_with fail
  refine (specEval_any _ _ _ x _ _ _ ps _ hv hp).mono ?_
  rintro e W3 ⟨rfl, bb⟩
  replace hv := hv.below bb
  replace hp := hp.below bb
  replace Ba := Ba.below bb
  replace hk := hk.trans (bb.mono hk.size)
  clear bb
  clear Bac0 Bac1 Balt
  have Bac0 := Ba.c0; have Bac1 := Ba.c1; have Balt := Ba.lt
  generalize hE : evalOf x ps = ev
  have HE := hid hE; clear hE
  go_wp2_with fail
  refine (implAffV_any _ _ x _ hv).mono ?_
  rintro e W4 ⟨rfl, bb⟩
  replace hv := hv.below bb
  replace hp := hp.below bb
  replace Ba := Ba.below bb
  replace hk := hk.trans (bb.mono hk.size)
  clear bb
  clear Bac0 Bac1 Balt
  have Bac0 := Ba.c0; have Bac1 := Ba.c1; have Balt := Ba.lt
  cases hV : affV x
  · have HV := hid hV; clear hV
    go_wp2_with fail
    refine (specEval_any _ _ _ x _ _ _ ps _ hv hp).mono ?_
    rintro e W5 ⟨rfl, bb⟩
    replace hv := hv.below bb
    replace hp := hp.below bb
    replace Ba := Ba.below bb
    replace hk := hk.trans (bb.mono hk.size)
    clear bb
    rw [HE.out]
    clear Bac0 Bac1 Balt
    have Bac0 := Ba.c0; have Bac1 := Ba.c1; have Balt := Ba.lt
    go_wp2_with fail
    go_ret
    exact ⟨rfl, hk⟩
  · have HV := hid hV; clear hV
    cases L with
    | zero =>
      go_wp2_with fail
      refine (specEval_any _ _ _ x _ _ _ ps _ hv hp).mono ?_
      rintro e W5 ⟨rfl, bb⟩
      replace hv := hv.below bb
      replace hp := hp.below bb
      replace Ba := Ba.below bb
      replace hk := hk.trans (bb.mono hk.size)
      clear bb
      rw [HE.out]
      clear Bac0 Bac1 Balt
      have Bac0 := Ba.c0; have Bac1 := Ba.c1; have Balt := Ba.lt
      go_wp2_with fail
      go_ret
      exact ⟨rfl, hk⟩
    | succ m =>
      have e1 : ((m + 1 : Nat) : Int) = (m : Int) + 1 := by omega
      have m0 : ((m : Int) + 1 == 0) = false := by simp; omega
      by_cases h4 : 3 < m
      · have d4 : decide ((4 : Int) < (m : Int) + 1) = true := decide_eq_true (by omega)
        go_wp2_with fail
        refine (specEval_any _ _ _ x _ _ _ ps _ hv hp).mono ?_
        rintro e W5 ⟨rfl, bb⟩
        replace hv := hv.below bb
        replace hp := hp.below bb
        replace Ba := Ba.below bb
        replace hk := hk.trans (bb.mono hk.size)
        clear bb
        rw [HE.out]
        clear Bac0 Bac1 Balt
        have Bac0 := Ba.c0; have Bac1 := Ba.c1; have Balt := Ba.lt
        go_wp2_with fail
        go_ret
        exact ⟨rfl, hk⟩
      · have d4 : decide ((4 : Int) < (m : Int) + 1) = false := decide_eq_false (by omega)
        have hp2 : Sl Sh.int (fun b => b < W4.heap.size) (W4.alloc (.cells #[] 3)) (.slice ap (m + 1) cp) ps := (hp.mono (Q := fun b => b < W4.heap.size) fun b _ h => h).alloc _
        have hle := hp.le
        go_wp2_with (at_builtin; go_must (refine wpList_appSI _ rfl _ _ rfl W4.heap.size _ [] rfl (OwnI.empty W4 (Nat.le_refl _)) _ _ _ ps (fun b => b < W4.heap.size) rfl hp2 ?_ ?_ ?c1 ?c2))
        case c1 => simp; omega
        case c2 => simp
        · intro b hb _ e
          have := Option.some.inj e
          simp at this
          omega
        intro v6 w6 o6 g6 b6 _
        try rw [List.nil_append] at o6
        obtain ⟨a6, c6, rfl, hc6⟩ := o6.shape
        rw [HL.out] at o6 hc6 ⊢
        obtain ⟨q, off, rfl, hqB, hql, _, hcell, hfr⟩ := o6.at (Nat.succ_pos m)
        have r1 := hcell m (Nat.lt_succ_self m)
        have r2 := hfr (off + m)
        generalize hy : ps.getD m 0 = y at r1
        have Hy := hid hy; clear hy hcell hfr
        have b9 : Below W4.heap.size W4 (w6.setCell ⟨q, off + m, none⟩ (.int .i64 0)) := (((Below.refl _ _).alloc (Nat.le_refl _) _).trans b6).setCell (p := ⟨q, off + m, none⟩) hqB (.int .i64 0)
        replace hv := hv.below b9
        replace hp := hp.below b9
        replace Ba := Ba.below b9
        replace hk := hk.trans (b9.mono hk.size)
        have HO := hid (o6.set m 0)
        have HV2 := hid hv; have HP2 := hid hp; have HB := hid Ba; have HK := hid hk
        clear o6 g6 b6 b9 hp2 hv hp hk Ba
        go_wp2_with fail
        generalize w6.setCell ⟨q, off + m, none⟩ (.int .i64 0) = w9 at HO HV2 HP2 HB HK
        clear r1 r2
        go_loop [8] (fun i => ∃ j : Nat, j ≤ m + 1 ∧ i = .int .i64 j ∧ Hid (∀ z ∈ ps.take j, (!inB z (-9999) 9999) = false)) (fun i => m + 1 - (intOf i).toNat)
        case atStart => exact ⟨0, Nat.zero_le _, rfl, hid (by simp)⟩
        case round =>
          obtain ⟨j, hj, rfl, ht⟩ := hrel
          by_cases hlt : j < m + 1
          · obtain ⟨ba, oa, ha, _, _, hca⟩ := HP2.out.intAt (Nat.succ_pos m)
            subst ha
            have q1 := hca j hlt
            generalize hz : ps.getD j 0 = z at q1
            have Hz := hid hz; clear hz hca
            have dj : decide ((j : Int) < (m : Int) + 1) = true := decide_eq_true (by omega)
            have dj' : (j : Int) < (m : Int) + 1 := by omega
            by_cases z1 : z < -9999
            · have He : ev = 0 := by rw [← HE.out]; exact evalOf_pt (notPt (j := j) (by rw [HL.out]; exact hlt) (by rw [Hz.out]; simp [inB]; omega))
              subst He
              have d2 : decide (z < -9999) = true := decide_eq_true z1
              go_wp2
              go_ret
              exact ⟨rfl, HK.out⟩
            by_cases z2 : 9999 < z
            · have He : ev = 0 := by rw [← HE.out]; exact evalOf_pt (notPt (j := j) (by rw [HL.out]; exact hlt) (by rw [Hz.out]; simp [inB]; omega))
              subst He
              have d1 : decide (z < -9999) = false := decide_eq_false z1
              have d2 : decide (9999 < z) = true := decide_eq_true z2
              go_wp2
              go_ret
              exact ⟨rfl, HK.out⟩
            have Ht := hid (take_step (p := fun c => !inB c (-9999) 9999) ht.out (by rw [HL.out]; exact hlt) (by rw [Hz.out]; simp [inB]; omega))
            have d1 : decide (z < -9999) = false := decide_eq_false z1
            have d2 : decide (9999 < z) = false := decide_eq_false z2
            clear z1 z2
            go_wp2
            exact ⟨⟨j + 1, by omega, rfl, Ht⟩, by simp [intOf]; omega⟩
          · have hje : j = m + 1 := by omega
            subst hje
            have dj : decide ((m : Int) + 1 < (m : Int) + 1) = false := decide_eq_false (by omega)
            have hpt := allPt HL.out (by omega) ht.out
            have hlaw := eval_last HV.out hpt HL.out
            rw [HE.out, Hy.out] at hlaw
            have b1 := affV_getD HV.out m
            have b2 := isPt_at hpt m
            rw [Hy.out] at b2
            have b3 := evalOf_bd x (ps.set m 0)
            have hxl := affV_len HV.out
            obtain ⟨bx, ox, hbx, _, _, hcx⟩ := HV2.out.sl.intAt (by omega)
            subst hbx
            have c1 := hcx m (by omega)
            generalize hkc : x.1.getD m 0 = kc at c1 b1 hlaw
            have Hkc := hid hkc; clear hkc
            generalize heq : evalOf x (ps.set m 0) = eq at b3 hlaw
            have Heq := hid heq
            have b4 := mul_abs (M := 9) (N := 9999) b1 b2 (by omega) (by omega)
            have k1 : IntKind.i64.wrap (kc * y) = kc * y := IntWalk.i64_in _ (by omega)
            have k2 : IntKind.i64.wrap (eq + kc * y) = eq + kc * y := IntWalk.i64_in _ (by omega)
            have Hnil := hid (eval_nil HV.out)
            have hm4 : m < x.1.length := by omega
            have km : IntKind.i64.wrap ((m : Int) + 1 - 1) = m := by rw [Int.add_sub_cancel]; exact IntWalk.i64_in _ (by omega)
            have km2 : IntKind.i64.wrap (m : Int) = m := IntWalk.i64_in _ (by omega)
            have km0 : (0 : Int) ≤ (m : Int) := by omega
            have hm5 : (m : Int) < (x.1.length : Int) := by omega
            subst hlaw
            clear heq hcx hpt b1 b2 b3 b4 hxl
            have hv := HV2.out; have hq := HO.out.sl (by rw [List.length_set, HL.out]; omega)
            have Ba := HB.out; have hk := HK.out
            clear HV2 HO HB HK HP2
            have Bac0 := Ba.c0; have Bac1 := Ba.c1
            go_wp2_with fail
            have hdr := (Below.refl w9.heap.size w9).drew
            replace hv := hv.below hdr
            replace hq := hq.below hdr
            replace Ba := Ba.below hdr
            replace hk := hk.trans (hdr.mono hk.size)
            clear hdr
            have tok1 : True := trivial
            go_region_held3 (fun wq => wq.cell? ⟨w1.heap.size, 0, none⟩ = some (.slice (some ⟨bx, ox, none⟩) x.1.length cx) ∧ wq.cell? ⟨w1.heap.size, 1, none⟩ = some (.int .i64 x.2) ∧ wq.cell? ⟨bx, ox + m, none⟩ = some (.int .i64 kc))
              ((repeat' apply And.intro) <;> first | assumption | go_keep)
              (first
                | (go_at_call 14; (first | (have _t := tok1; refine (implEval_any _ _ _ x _ _ _ (ps.set m 0) _ (by first | exact hv | exact hv.below ((Below.refl _ _).alloc (Nat.le_refl _) _)) (by first | exact hq | exact hq.below ((Below.refl _ _).alloc (Nat.le_refl _) _))).mono ?_; rintro e wz ⟨rfl, bb⟩; (first | replace hv := hv.below bb | replace hv := (hv.below ((Below.refl _ _).alloc (Nat.le_refl _) _)).below bb); (first | replace hq := hq.below bb | replace hq := (hq.below ((Below.refl _ _).alloc (Nat.le_refl _) _)).below bb); (first | replace Ba := Ba.below bb | replace Ba := (Ba.below ((Below.refl _ _).alloc (Nat.le_refl _) _)).below bb); (first | replace hk := hk.trans (bb.mono hk.size) | replace hk := (hk.alloc hk.size _).trans (bb.mono (hk.alloc hk.size _).size)); clear bb; obtain ⟨_, _, e, _, _, hcx⟩ := hv.sl.intAt (by omega); cases e; have c2 := hcx m (by omega); rw [Hkc.out] at c2; clear hcx; have Bac0 := Ba.c0; have Bac1 := Ba.c1; rw [Heq.out]; clear _t tok1) | (refine (implEval_any _ (fun _ => True) _ x _ _ _ [] _ (by first | exact hv | exact hv.below ((Below.refl _ _).alloc (Nat.le_refl _) _)) (Sl.empty Sh.int _ _ _ _)).mono ?_; rintro e wz ⟨rfl, bb⟩; (first | replace hv := hv.below bb | replace hv := (hv.below ((Below.refl _ _).alloc (Nat.le_refl _) _)).below bb); (first | replace hq := hq.below bb | replace hq := (hq.below ((Below.refl _ _).alloc (Nat.le_refl _) _)).below bb); (first | replace Ba := Ba.below bb | replace Ba := (Ba.below ((Below.refl _ _).alloc (Nat.le_refl _) _)).below bb); (first | replace hk := hk.trans (bb.mono hk.size) | replace hk := (hk.alloc hk.size _).trans (bb.mono (hk.alloc hk.size _).size)); clear bb; obtain ⟨_, _, e, _, _, hcx⟩ := hv.sl.intAt (by omega); cases e; have c2 := hcx m (by omega); rw [Hkc.out] at c2; clear hcx; have Bac0 := Ba.c0; have Bac1 := Ba.c1; rw [Hnil.out]))))
            all_goals
              go_wp2_with fail
              go_ret
              exact ⟨rfl, hk⟩
end Go.Proofs.Ytkhlaphegnldeaa
