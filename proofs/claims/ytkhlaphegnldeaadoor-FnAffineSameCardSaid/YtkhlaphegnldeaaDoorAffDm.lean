/- Affine expressions are bent; condition: what the reader's block holds. -/
import Derived.Test.YtkhlaphegnldeaaDoorAffD
import Derived.Deep.DeepCutAuto
namespace Go.Proofs.YtkhlaphegnldeaaDoor
set_option linter.unusedVariables false
set_option linter.unusedSimpArgs false
open Go.RowKit

/-- A store into a block of the call's own, behind the reader: what stays. -/
theorem keep3 {w w7 : World} {g B p Gx o : Nat} {u v : Value} {xs : List Int} (h : OwnI B w7 v xs ∧ Rd w7 g p ∧ w.grownBy w7 (some g)) (hv : v.ownBlock ≠ some Gx) (hw : w.heap.size ≤ Gx) (hg : g < w.heap.size) :
    OwnI B (w7.setCell ⟨Gx, o, none⟩ u) v xs ∧ Rd (w7.setCell ⟨Gx, o, none⟩ u) g p ∧ w.grownBy (w7.setCell ⟨Gx, o, none⟩ u) (some g) :=
  ⟨h.1.store (p := ⟨Gx, o, none⟩) hv, h.2.1.grown (setCell_grown w7 ⟨Gx, o, none⟩ u) (fun q hq => by cases hq; exact Nat.lt_of_lt_of_le hg hw), grown_store h.2.2 ⟨Gx, o, none⟩ u hw⟩

set_option maxHeartbeats 6400000 in
theorem l1Mutate_any (P : Nat → Prop) (g p : Nat) (v : Value) (x : Aff) (w : World) (h : Rd w g p) (hp : p < 1000000) (hx : AffR P w v x) (hP : ∀ b, P b → b ≠ g) (hn : x.1.length ≤ 1000) :
    Calls Tryd.prog 18 #[.pointer (some ⟨g, 0, none⟩), v] w (DrawnA (x.1.length + 1) 2 g p w) := by
  have hg := h.lt
  obtain ⟨a, c, rfl, _, _, hs⟩ := hx.shape
  obtain ⟨co, k⟩ := x
  simp only at hs hn ⊢
  have hlen := hid hn
  have hb1 := (Below.refl w.heap.size w).alloc (Nat.le_refl _) (.cells #[.slice a co.length c, .int .i64 k] 25)
  have hb := hb1.alloc (by simp) (.cells #[.slice none 0 0, .int .i64 0] 25)
  have B1 := (Box2.new w (.slice a co.length c) (.int .i64 k) 25).alloc (.cells #[.slice none 0 0, .int .i64 0] 25)
  have B2 := Box2.new (w.alloc (.cells #[.slice a co.length c, .int .i64 k] 25)) (.slice none 0 0) (.int .i64 0) 25
  rw [World.size_alloc] at B2
  have hs2 := ((hs.mono (Q := fun q => q < w.heap.size) (fun q _ h => h)).below hb)
  go_enter Tryd.func18, Tryd.ntmps18
  go_upto_region 1 with fail
  generalize hw2 : (w.alloc (.cells #[.slice a co.length c, .int .i64 k] 25)).alloc (.cells #[.slice none 0 0, .int .i64 0] 25) = w2 at hs2 B1 B2 hb
  have Hs2 := hid (show w2.heap.size = w.heap.size + 1 + 1 by rw [← hw2]; simp)
  clear hw2 hb1
  have HB2 := hid B2
  have HB1 := hid B1
  obtain ⟨p0, p1, p2, p3, p4⟩ := B1
  clear B2
  go_cut [5] (fun s5 wx => ∃ G va, s5 = .pointer (some ⟨G, 0, none⟩) ∧ Box2 wx G va (.int .i64 k) ∧ OwnI w2.heap.size wx va co ∧ w2.heap.size ≤ G ∧ va.ownBlock ≠ some G ∧ Below w2.heap.size w2 wx)
  case first =>
    have O1 : Hid (OwnI w2.heap.size (w2.alloc (.cells #[] 3)).drew (.slice (some ⟨w2.heap.size, 0, none⟩) 0 0) []) := hid ((OwnI.empty w2 (Nat.le_refl _)).drew)
    have S1 : Hid (Sl Sh.int (fun q => q < w.heap.size) (w2.alloc (.cells #[] 3)).drew (.slice a co.length c) co) := hid (hs2.alloc _).drew
    have O2 : Hid (OwnI w2.heap.size ((w2.alloc (.cells #[] 3)).alloc (.cells #[.slice none 0 0, .int .i64 0] 25)).drew (.slice (some ⟨w2.heap.size, 0, none⟩) 0 0) []) := hid (((OwnI.empty w2 (Nat.le_refl _)).alloc _).drew)
    have S2 : Hid (Sl Sh.int (fun q => q < w.heap.size) ((w2.alloc (.cells #[] 3)).alloc (.cells #[.slice none 0 0, .int .i64 0] 25)).drew (.slice a co.length c) co) := hid ((hs2.alloc _).alloc _).drew
    have O3 : Hid (OwnI w2.heap.size ((w2.alloc (.cells #[.slice none 0 0, .int .i64 0] 25)).alloc (.cells #[] 3)).drew (.slice (some ⟨w2.heap.size + 1, 0, none⟩) 0 0) []) := hid (by have := ((OwnI.empty (B := w2.heap.size) (w2.alloc (.cells #[.slice none 0 0, .int .i64 0] 25)) (by simp))).drew; rw [World.size_alloc] at this; exact this)
    have S3 : Hid (Sl Sh.int (fun q => q < w.heap.size) ((w2.alloc (.cells #[.slice none 0 0, .int .i64 0] 25)).alloc (.cells #[] 3)).drew (.slice a co.length c) co) := hid ((hs2.alloc _).alloc _).drew
    have N2 : Hid (Box2 ((w2.alloc (.cells #[] 3)).alloc (.cells #[.slice none 0 0, .int .i64 0] 25)).drew (w2.heap.size + 1) (.slice none 0 0) (.int .i64 0)) := hid (by have := (Box2.new (w2.alloc (.cells #[] 3)) (.slice none 0 0) (.int .i64 0) 25).drew; rw [World.size_alloc] at this; exact this)
    have N3 : Hid (Box2 ((w2.alloc (.cells #[.slice none 0 0, .int .i64 0] 25)).alloc (.cells #[] 3)).drew w2.heap.size (.slice none 0 0) (.int .i64 0)) := hid ((Box2.new w2 (.slice none 0 0) (.int .i64 0) 25).alloc _).drew
    clear hs hs2 hx hP hn
    go_region_law (first
      | (refine step_appSI rfl (.tmp 6) (.tmp 8) rfl w2.heap.size (.slice (some ⟨w2.heap.size, 0, none⟩) 0 0) [] (by simp [Act.eval, Act.put]) O1.out _ _ _ co _ (by simp [Act.eval, Act.put]) S1.out (fun b hb _ e => by have := Option.some.inj e; have h5 := Hs2.out; simp at this; omega) (by simp; have := hlen.out; omega) (by simp) ?_; intro v6 w6 o6 g6 b6 n6; obtain ⟨a6, c6, rfl, hc6⟩ := o6.shape; obtain ⟨z0, z1, _, _, z4⟩ := (HB1.out.alloc (.cells #[] 3)).drew.belowLt b6 p4)
      | (refine step_appSI rfl (.tmp 6) (.tmp 8) rfl w2.heap.size (.slice (some ⟨w2.heap.size, 0, none⟩) 0 0) [] (by simp [Act.eval, Act.put]) O2.out _ _ _ co _ (by simp [Act.eval, Act.put]) S2.out (fun b hb _ e => by have := Option.some.inj e; have h5 := Hs2.out; simp at this; omega) (by simp; have := hlen.out; omega) (by simp; omega) ?_; intro v6 w6 o6 g6 b6 n6; obtain ⟨a6, c6, rfl, hc6⟩ := o6.shape; obtain ⟨z0, z1, _, _, z4⟩ := ((HB1.out.alloc (.cells #[] 3)).alloc (.cells #[.slice none 0 0, .int .i64 0] 25)).drew.belowLt b6 p4; obtain ⟨y0, y1, y2, y3, y4⟩ := N2.out.grown g6 (fun e => by have h1 := Option.some.inj e; have h2 : w2.heap.size = w2.heap.size + 1 := h1; omega))
      | (refine step_appSI rfl (.tmp 6) (.tmp 8) rfl w2.heap.size (.slice (some ⟨w2.heap.size + 1, 0, none⟩) 0 0) [] (by simp [Act.eval, Act.put]) O3.out _ _ _ co _ (by simp [Act.eval, Act.put]) S3.out (fun b hb _ e => by have := Option.some.inj e; have h5 := Hs2.out; simp at this; omega) (by simp; have := hlen.out; omega) (by simp; omega) ?_; intro v6 w6 o6 g6 b6 n6; obtain ⟨a6, c6, rfl, hc6⟩ := o6.shape; obtain ⟨z0, z1, _, _, z4⟩ := ((HB1.out.alloc (.cells #[.slice none 0 0, .int .i64 0] 25)).alloc (.cells #[] 3)).drew.belowLt b6 p4; obtain ⟨y0, y1, y2, y3, y4⟩ := N3.out.grown g6 (fun e => by have h1 := Option.some.inj e; have h2 : w2.heap.size + 1 = w2.heap.size := h1; omega)))
    all_goals
      have hs6 := b6.size
      go_wp2_with fail
      go_meet
      first
        | exact ⟨w6.heap.size, _, rfl, Box2.new w6 _ _ _, o6.alloc _, by simp at hs6; omega, fun e => by have := (o6.lt _ e).2; omega, ((((Below.refl w2.heap.size w2).alloc (Nat.le_refl _) (.cells #[] 3)).drew).trans b6).alloc (by simp at hs6; omega) _⟩
        | (have n7 : (Value.slice a6 ([] ++ co).length c6).ownBlock ≠ some (w2.heap.size + 1) := (fun e => by rcases n6 _ e with h1 | h1; (have h2 : w2.heap.size = w2.heap.size + 1 := Option.some.inj h1; omega); (simp at h1; omega))
           exact ⟨w2.heap.size + 1, _, rfl, box2_sets ⟨y0, y1, y2, y3, y4⟩ _ _, (o6.store n7).store n7, by omega, n7, ((((((Below.refl w2.heap.size w2).alloc (Nat.le_refl _) (.cells #[] 3)).alloc (by simp) (.cells #[.slice none 0 0, .int .i64 0] 25)).drew).trans b6).setCell (by simp) _).setCell (by simp) _⟩)
        | (have n7 : (Value.slice a6 ([] ++ co).length c6).ownBlock ≠ some w2.heap.size := (fun e => by rcases n6 _ e with h1 | h1; (have h2 : w2.heap.size + 1 = w2.heap.size := Option.some.inj h1; omega); (simp at h1; omega))
           exact ⟨w2.heap.size, _, rfl, box2_sets ⟨y0, y1, y2, y3, y4⟩ _ _, (o6.store n7).store n7, by omega, n7, ((((((Below.refl w2.heap.size w2).alloc (Nat.le_refl _) (.cells #[.slice none 0 0, .int .i64 0] 25)).alloc (by simp) (.cells #[] 3)).drew).trans b6).setCell (by simp) _).setCell (by simp) _⟩)
        | trace_state
  case rest =>
    obtain ⟨G, va, rfl, hB, ho, hG, hne, hbl⟩ := hcut
    obtain ⟨ao, c5, rfl, hc5⟩ := ho.shape
    have hsw := Hs2.out
    have hr : Rd wc g p := (h.below hb).below hbl
    have gg : w.grownBy wc (some g) := grown_below (World.grownBy.refl w (some g)) (hb.trans (hbl.mono hb.size)) (Nat.le_refl _)
    have nG : some g ≠ some G := fun e => by have := Option.some.inj e; omega
    have nR : some g ≠ some (w.heap.size + 1) := fun e => by have := Option.some.inj e; omega
    have HR := hid (HB2.out.below hbl)
    clear HB1 HB2 hs hs2 hx hP hn p0 p1 p2 p3 hc5
    go_wp2_with fail
    refine (pick_any g p 40 wc hr (by omega)).mono ?_
    rintro e w7 ⟨y, rfl, hy0, hy1, _, r7, g7⟩
    have B7 := hid (hB.grown g7 nG)
    have R7 := hid (HR.out.grown g7 nR)
    have O7 := hid (ho.grown g7 (fun q hq e => by cases hq; have := (ho.lt _ e).1; omega))
    have G7 := hid (grown_trans gg g7)
    have Rd7 := hid r7
    clear hB HR ho gg hr r7 g7 hy1 hbl hb
    obtain ⟨b0, b1, b2, b3, b4⟩ := B7.out
    obtain ⟨t0, t1, t2, t3, t4⟩ := R7.out
    have hne7 := hne
    have hww : w.heap.size ≤ w2.heap.size := by omega
    have hGw : w.heap.size ≤ G := by omega
    have hRw : w.heap.size ≤ w.heap.size + 1 := by omega
    have hGR : G ≠ w.heap.size + 1 := by omega
    have hRG : w.heap.size + 1 ≠ G := by omega
    have nRo : ∀ (u : Value) (xs : List Int) (wz : World), OwnI w2.heap.size wz u xs → u.ownBlock ≠ some (w.heap.size + 1) := fun u xs wz ho e => by have := (ho.lt _ e).1; omega
    have NRo := hid nRo
    have HG := hid hG
    clear hne hG nRo
    by_cases e0 : y = 0
    · subst e0
      go_wp2_with fail
      refine (num_lit g (p + 1) _ _ [100, -100, 9223372036854775807] _ _ Rd7.out (by omega) rfl rfl rfl (by decide) (by decide)).mono ?_
      rintro e w8 ⟨z, rfl, hz8, r8, g8⟩
      have O8 := hid (O7.out.grown g8 (fun q hq e => by cases hq; have := (O7.out.lt _ e).1; omega))
      obtain ⟨q0, q1, q2, q3, q4⟩ := B7.out.grown g8 nG
      obtain ⟨s0, s1, s2, s3, s4⟩ := R7.out.grown g8 nR
      have nr := NRo.out _ _ _ O8.out
      have F := hid (keep3 (o := 1) (u := .int .i64 z) (keep3 (o := 0) (u := .slice ao co.length c5) (keep3 (o := 1) (u := .int .i64 z) ⟨O8.out, r8, grown_trans G7.out g8⟩ hne7 hGw hg) nr hRw hg) nr hRw hg)
      clear r8 g8 nr hne7 hz8
      go_wp2_with fail
      refine bodyPost_ret (v := .agg #[(.slice ao co.length c5), .int .i64 z]) (by simp [results, Tryd.results18, go_sem, s0, s1, s4, hGR, hRG]) rfl ?_
      exact ⟨_, (co, z), p + 1 + 1, rfl, ⟨_, rfl, F.out.1.base hww⟩, by simp, F.out.2.1, by omega, F.out.2.2⟩
    by_cases e1 : y = 1
    · subst e1
      go_wp2_with (at_builtin; go_must (refine wpList_app1I _ rfl _ _ rfl w2.heap.size _ co rfl w7 0 rfl O7.out rfl ?_ ?c1 ?c2); intro v8 w8 o8 g8 b8 n8; obtain ⟨a8, c8, rfl, hc8⟩ := o8.shape; rw [List.length_append] at o8 n8 hc8; obtain ⟨q0, q1, q2, q3, q4⟩ := (B7.out.alloc (.cells #[.int .i64 0] 3)).grown g8 hne7; obtain ⟨s0, s1, s2, s3, s4⟩ := (R7.out.alloc (.cells #[.int .i64 0] 3)).belowLt b8 (by omega); have hG7 := B7.out.lt; have O8 := hid o8; have N8 := hid n8; have NE := hid hne7; have G8 := hid g8; have B8 := hid b8; clear o8 n8 hne7 g8 b8)
      case c1 => have := hlen.out; omega
      case c2 => have := R7.out.lt; omega
      have nr := NRo.out _ _ _ O8.out
      have ng : (Value.slice a8 (co.length + [0].length) c8).ownBlock ≠ some G := fun e => by rcases N8.out _ e with h1 | h1; (exact NE.out h1); omega
      have F := hid (keep3 (o := 1) (u := .int .i64 k) (keep3 (o := 0) (u := .slice a8 (co.length + 1) c8) (keep3 (o := 0) (u := .slice a8 (co.length + 1) c8) ⟨O8.out, (Rd7.out.alloc (.cells #[.int .i64 0] 3)).belowLt B8.out (by omega), grown_below (grown_trans G7.out (World.grownBy_alloc w7 (.cells #[.int .i64 0] 3) (some g))) B8.out hww⟩ ng hGw hg) nr hRw hg) nr hRw hg)
      clear nr ng
      go_wp2_with fail
      refine bodyPost_ret (v := .agg #[(.slice a8 (co.length + 1) c8), .int .i64 k]) (by simp [results, Tryd.results18, go_sem, s0, s1, s4, hGR, hRG]) rfl ?_
      exact ⟨_, (co ++ [0], k), p + 1, rfl, ⟨_, rfl, F.out.1.base hww⟩, by simp, F.out.2.1, by omega, F.out.2.2⟩
    by_cases e2 : y = 2
    · subst e2
      by_cases hl : 0 < co.length
      · have hd : decide ((0 : Int) < (co.length : Int)) = true := by simp; omega
        obtain ⟨g', off', e, _, _, _, hcell, hfr⟩ := O7.out.at hl
        subst e
        have q5 : w7.cell? ⟨g', off', none⟩ = some (.int .i64 (co.getD 0 0)) := hcell 0 hl
        clear hcell hfr
        have gG : g ≠ G := by omega
        have gR : g ≠ w.heap.size + 1 := by omega
        go_upto_region 9 with fail
        go_region_with (go_at_call 23; refine (num_litD g (p + 1) _ _ [10, -10, -9223372036854775808] _ _ Rd7.out (by omega) rfl rfl rfl (by decide) (by decide)).mono ?_; rintro e w8 ⟨z, rfl, hz8, r8, g8⟩; have O8 := hid (O7.out.grown g8 (fun q hq e => by cases hq; have := (O7.out.lt _ e).1; omega)); obtain ⟨_, _, e, _, _, _, hcell, hfr⟩ := O8.out.at hl; cases e; have u5 : w8.cell? ⟨g', off', none⟩ = some (.int .i64 (co.getD 0 0)) := hcell 0 hl; have u6 : w8.frozen? ⟨g', off', none⟩ = false := hfr off'; clear hcell hfr; have B8 := hid (B7.out.grown g8 nG); have R8 := hid (R7.out.grown g8 nR); obtain ⟨q0, q1, q2, q3, q4⟩ := B8.out; obtain ⟨s0, s1, s2, s3, s4⟩ := R8.out; have R8 := hid r8; have G8 := hid (grown_trans G7.out g8); clear r8 g8 hz8)
        all_goals
          have hgl := (O8.out.lt _ rfl)
          have o9 := O8.out.set 0 z
          have st := setCell_grown w8 ⟨g', off' + 0, none⟩ (.int .i64 z)
          have nr := NRo.out _ _ _ o9
          have ggw : w.heap.size ≤ g' := by omega
          have e1' : g' ≠ G := fun e => hne7 (by rw [← e]; rfl)
          have e2' : g' ≠ w.heap.size + 1 := by omega
          have F := hid (keep3 (o := 1) (u := .int .i64 k) (keep3 (o := 0) (u := .slice (some ⟨g', off', none⟩) co.length c5) ⟨o9, R8.out.grown st (fun q hq => by cases hq; show g < g'; omega), grown_store G8.out ⟨g', off' + 0, none⟩ (.int .i64 z) ggw⟩ nr hRw hg) nr hRw hg)
          clear o9 st nr
          go_wp2_with fail
          refine bodyPost_ret (v := .agg #[.slice (some ⟨g', off', none⟩) co.length c5, .int .i64 k]) (by simp [results, Tryd.results18, go_sem, s0, s1, s4, e2']) rfl ?_
          exact ⟨_, (co.set 0 z, k), p + 1 + 1, rfl, ⟨_, rfl, F.out.1.base hww⟩, by simp, F.out.2.1, by omega, F.out.2.2⟩
      · have hd : decide ((0 : Int) < (co.length : Int)) = false := decide_eq_false (by omega)
        have nr := NRo.out _ _ _ O7.out
        have F := hid (keep3 (o := 1) (u := .int .i64 k) (keep3 (o := 0) (u := .slice ao co.length c5) ⟨O7.out, Rd7.out, G7.out⟩ nr hRw hg) nr hRw hg)
        clear nr hne7
        go_wp2_with fail
        refine bodyPost_ret (v := .agg #[(.slice ao co.length c5), .int .i64 k]) (by simp [results, Tryd.results18, go_sem, t0, t1, t4, hGR, hRG]) rfl ?_
        exact ⟨_, (co, k), p + 1, rfl, ⟨_, rfl, F.out.1.base hww⟩, by simp, F.out.2.1, by omega, F.out.2.2⟩
    by_cases e3 : y = 3
    · subst e3
      have nr : (Value.slice none 0 0).ownBlock ≠ some (w.heap.size + 1) := fun e => by cases e
      have F := hid (keep3 (o := 1) (u := .int .i64 0) (keep3 (o := 0) (u := .slice none 0 0) ⟨OwnI.nil w2.heap.size w7, Rd7.out, G7.out⟩ nr hRw hg) nr hRw hg)
      clear nr hne7
      go_wp2_with fail
      refine bodyPost_ret (v := .agg #[(.slice none 0 0), .int .i64 0]) (by simp [results, Tryd.results18, go_sem, t0, t1, t4, hGR, hRG]) rfl ?_
      exact ⟨_, ([], 0), p + 1, rfl, ⟨_, rfl, F.out.1.base hww⟩, by simp, F.out.2.1, by omega, F.out.2.2⟩
    have d0 : (y == 0) = false := by simpa using e0
    have d1 : (y == 1) = false := by simpa using e1
    have d2 : (y == 2) = false := by simpa using e2
    have d3 : (y == 3) = false := by simpa using e3
    clear e0 e1 e2 e3
    have nr := NRo.out _ _ _ O7.out
    have F := hid (keep3 (o := 1) (u := .int .i64 k) (keep3 (o := 0) (u := .slice ao co.length c5) ⟨O7.out, Rd7.out, G7.out⟩ nr hRw hg) nr hRw hg)
    clear nr hne7
    go_wp2_with fail
    refine bodyPost_ret (v := .agg #[(.slice ao co.length c5), .int .i64 k]) (by simp [results, Tryd.results18, go_sem, t0, t1, t4, hGR, hRG]) rfl ?_
    exact ⟨_, (co, k), p + 1, rfl, ⟨_, rfl, F.out.1.base hww⟩, by simp, F.out.2.1, by omega, F.out.2.2⟩
end Go.Proofs.YtkhlaphegnldeaaDoor
