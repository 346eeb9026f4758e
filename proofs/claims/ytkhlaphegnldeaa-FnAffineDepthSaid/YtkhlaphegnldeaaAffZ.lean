/- Substitution in the reference; condition: what the arguments hold. -/
import Derived.Test.YtkhlaphegnldeaaAffDm
import Derived.Test.YtkhlaphegnldeaaAffQ
namespace Go.Proofs.Ytkhlaphegnldeaa
set_option linter.unusedVariables false
set_option linter.unusedSimpArgs false
open Go.RowKit

set_option maxHeartbeats 6400000 in
theorem l1Subst_any (P Q : Nat → Prop) (v u : Value) (x y : Aff) (j : Nat) (w : World) (hx : AffR P w v x) (hy : AffR Q w u y) (mx : affM x) (my : affM y) (hj : j < 4) :
    Calls Try.prog 55 #[v, .int .i64 j, u] w (RetAff (affSubst x j y) w) := by
  obtain ⟨a, c, rfl, _, _, hs⟩ := hx.shape
  obtain ⟨b, d, rfl, _, _, ht⟩ := hy.shape
  have hk := mx.2.1 j
  have mset := hid (affM_set mx j)
  have hdef := hid (show affComb (x.1.set j 0, x.2) 1 y (x.1.getD j 0) = affSubst x j y by simp [affComb, combTo, affSubst, affSum, List.range_succ])
  obtain ⟨co, xk⟩ := x
  obtain ⟨cp, yk⟩ := y
  obtain ⟨lx, bx, kx⟩ := mx
  have ly := my.1
  simp only at hs ht lx bx kx ly hk ⊢
  rw [lx] at hs hx ⊢
  rw [ly] at ht hy ⊢
  have hb0 := (Below.refl w.heap.size w).alloc (Nat.le_refl _) (.cells #[.slice a 4 c, .int .i64 xk] 25)
  have hb1 := hb0.alloc (by simp) (.cells #[.slice b 4 d, .int .i64 yk] 25)
  have hb := hb1.alloc (by simp; omega) (.cells #[.slice none 0 0, .int .i64 0] 25)
  have B1 := ((Box2.new w (.slice a 4 c) (.int .i64 xk) 25).alloc (.cells #[.slice b 4 d, .int .i64 yk] 25)).alloc (.cells #[.slice none 0 0, .int .i64 0] 25)
  have B2 := (Box2.new (w.alloc (.cells #[.slice a 4 c, .int .i64 xk] 25)) (.slice b 4 d) (.int .i64 yk) 25).alloc (.cells #[.slice none 0 0, .int .i64 0] 25)
  have B3 := Box2.new ((w.alloc (.cells #[.slice a 4 c, .int .i64 xk] 25)).alloc (.cells #[.slice b 4 d, .int .i64 yk] 25)) (.slice none 0 0) (.int .i64 0) 25
  rw [World.size_alloc] at B2
  rw [World.size_alloc, World.size_alloc] at B3
  have Lx := hid lx; have Ly := hid ly
  clear lx ly bx
  go_enter Try.func55, Try.ntmps55
  go_upto_region 1 with fail
  generalize hw2 : ((w.alloc (.cells #[.slice a 4 c, .int .i64 xk] 25)).alloc (.cells #[.slice b 4 d, .int .i64 yk] 25)).alloc (.cells #[.slice none 0 0, .int .i64 0] 25) = w2 at B1 B2 B3 hb
  have Hs2 := hid (show w2.heap.size = w.heap.size + 1 + 1 + 1 by rw [← hw2]; simp)
  clear hw2 hb0 hb1
  have LT := hid (show w.heap.size ≤ w2.heap.size by rw [Hs2.out]; omega)
  have hlen := hid (show co.length ≤ 1000 by rw [Lx.out]; omega)
  have hs2 := (hs.mono (Q := fun q => q < w.heap.size) (fun q _ h => h)).below hb
  have Hy := hid ((hy.mono (Q := fun q => q < w.heap.size) (fun q _ h => h)).below hb)
  have HB1 := hid B1; have HB2 := hid B2; have HB3 := hid B3
  obtain ⟨p0, p1, p2, p3, p4⟩ := B1
  clear B2 B3 hs hx ht hy
  go_cut [7] (fun s7 wx => ∃ G va, s7 = .pointer (some ⟨G, 0, none⟩) ∧ Box2 wx G va (.int .i64 xk) ∧ OwnI w2.heap.size wx va co ∧ w2.heap.size ≤ G ∧ va.ownBlock ≠ some G ∧ Below w2.heap.size w2 wx)
  case first =>
    have O1 : Hid (OwnI w2.heap.size (w2.alloc (.cells #[] 3)).drew (.slice (some ⟨w2.heap.size, 0, none⟩) 0 0) []) := hid ((OwnI.empty w2 (Nat.le_refl _)).drew)
    have S1 : Hid (Sl Sh.int (fun q => q < w.heap.size) (w2.alloc (.cells #[] 3)).drew (.slice a 4 c) co) := hid (hs2.alloc _).drew
    have O2 : Hid (OwnI w2.heap.size ((w2.alloc (.cells #[] 3)).alloc (.cells #[.slice none 0 0, .int .i64 0] 25)).drew (.slice (some ⟨w2.heap.size, 0, none⟩) 0 0) []) := hid (((OwnI.empty w2 (Nat.le_refl _)).alloc _).drew)
    have S2 : Hid (Sl Sh.int (fun q => q < w.heap.size) ((w2.alloc (.cells #[] 3)).alloc (.cells #[.slice none 0 0, .int .i64 0] 25)).drew (.slice a 4 c) co) := hid ((hs2.alloc _).alloc _).drew
    have O3 : Hid (OwnI w2.heap.size ((w2.alloc (.cells #[.slice none 0 0, .int .i64 0] 25)).alloc (.cells #[] 3)).drew (.slice (some ⟨w2.heap.size + 1, 0, none⟩) 0 0) []) := hid (by have := ((OwnI.empty (B := w2.heap.size) (w2.alloc (.cells #[.slice none 0 0, .int .i64 0] 25)) (by simp))).drew; rw [World.size_alloc] at this; exact this)
    have S3 : Hid (Sl Sh.int (fun q => q < w.heap.size) ((w2.alloc (.cells #[.slice none 0 0, .int .i64 0] 25)).alloc (.cells #[] 3)).drew (.slice a 4 c) co) := hid ((hs2.alloc _).alloc _).drew
    have N2 : Hid (Box2 ((w2.alloc (.cells #[] 3)).alloc (.cells #[.slice none 0 0, .int .i64 0] 25)).drew (w2.heap.size + 1) (.slice none 0 0) (.int .i64 0)) := hid (by have := (Box2.new (w2.alloc (.cells #[] 3)) (.slice none 0 0) (.int .i64 0) 25).drew; rw [World.size_alloc] at this; exact this)
    have N3 : Hid (Box2 ((w2.alloc (.cells #[.slice none 0 0, .int .i64 0] 25)).alloc (.cells #[] 3)).drew w2.heap.size (.slice none 0 0) (.int .i64 0)) := hid ((Box2.new w2 (.slice none 0 0) (.int .i64 0) 25).alloc _).drew
    clear hs2
    go_region_law (first
      | (refine step_appSI rfl (.tmp 8) (.tmp 10) rfl w2.heap.size (.slice (some ⟨w2.heap.size, 0, none⟩) 0 0) [] (by simp [Act.eval, Act.put]) O1.out _ _ _ co _ (by simp [Act.eval, Act.put]) S1.out (fun b hb _ e => by have := Option.some.inj e; have h5 := LT.out; simp at this; omega) (by have := hlen.out; simp only [List.length_nil]; omega) (by simp) ?_; intro v6 w6 o6 g6 b6 n6; obtain ⟨a6, c6, rfl, hc6⟩ := o6.shape; obtain ⟨z0, z1, _, _, z4⟩ := (HB1.out.alloc (.cells #[] 3)).drew.belowLt b6 p4)
      | (refine step_appSI rfl (.tmp 8) (.tmp 10) rfl w2.heap.size (.slice (some ⟨w2.heap.size, 0, none⟩) 0 0) [] (by simp [Act.eval, Act.put]) O2.out _ _ _ co _ (by simp [Act.eval, Act.put]) S2.out (fun b hb _ e => by have := Option.some.inj e; have h5 := LT.out; simp at this; omega) (by have := hlen.out; simp only [List.length_nil]; omega) (by simp; omega) ?_; intro v6 w6 o6 g6 b6 n6; obtain ⟨a6, c6, rfl, hc6⟩ := o6.shape; obtain ⟨z0, z1, _, _, z4⟩ := ((HB1.out.alloc (.cells #[] 3)).alloc (.cells #[.slice none 0 0, .int .i64 0] 25)).drew.belowLt b6 p4; obtain ⟨y0, y1, y2, y3, y4⟩ := N2.out.grown g6 (fun e => by have h1 := Option.some.inj e; have h2 : w2.heap.size = w2.heap.size + 1 := h1; omega))
      | (refine step_appSI rfl (.tmp 8) (.tmp 10) rfl w2.heap.size (.slice (some ⟨w2.heap.size + 1, 0, none⟩) 0 0) [] (by simp [Act.eval, Act.put]) O3.out _ _ _ co _ (by simp [Act.eval, Act.put]) S3.out (fun b hb _ e => by have := Option.some.inj e; have h5 := LT.out; simp at this; omega) (by have := hlen.out; simp only [List.length_nil]; omega) (by simp; omega) ?_; intro v6 w6 o6 g6 b6 n6; obtain ⟨a6, c6, rfl, hc6⟩ := o6.shape; obtain ⟨z0, z1, _, _, z4⟩ := ((HB1.out.alloc (.cells #[.slice none 0 0, .int .i64 0] 25)).alloc (.cells #[] 3)).drew.belowLt b6 p4; obtain ⟨y0, y1, y2, y3, y4⟩ := N3.out.grown g6 (fun e => by have h1 := Option.some.inj e; have h2 : w2.heap.size + 1 = w2.heap.size := h1; omega)))
    all_goals
      have hs6 := b6.size
      go_wp2_with fail
      go_meet
      first
        | exact ⟨w6.heap.size, _, rfl, Box2.new w6 _ _ _, o6.alloc _, by simp at hs6; omega, fun e => by have := (o6.lt _ e).2; omega, ((((Below.refl w2.heap.size w2).alloc (Nat.le_refl _) (.cells #[] 3)).drew).trans b6).alloc (by simp at hs6; omega) _⟩
        | (have n7 : (Value.slice a6 ([] ++ co).length c6).ownBlock ≠ some (w2.heap.size + 1) := (fun e => by rcases n6 _ e with h1 | h1; (have h2 : w2.heap.size = w2.heap.size + 1 := Option.some.inj h1; omega); (simp at h1; omega))
           exact ⟨w2.heap.size + 1, _, rfl, box2_sets ⟨y0, y1, y2, y3, y4⟩ _ _, (o6.store n7).store n7, by omega, n7, ((((((Below.refl w2.heap.size w2).alloc (Nat.le_refl _) (.cells #[] 3)).alloc (by simp) (.cells #[.slice none 0 0, .int .i64 0] 25)).drew).trans b6).setCell (by simp) _).setCell (by simp) _⟩)
        | (have n7 : (Value.slice a6 ([] ++ co).length c6).ownBlock ≠ some w2.heap.size := (fun e => by rcases n6 _ e with h1 | h1; (have h2 : w2.heap.size + 1 = w2.heap.size := Option.some.inj h1; omega); (simp at h1; omega))
           exact ⟨w2.heap.size, _, rfl, box2_sets ⟨y0, y1, y2, y3, y4⟩ _ _, (o6.store n7).store n7, by omega, n7, ((((((Below.refl w2.heap.size w2).alloc (Nat.le_refl _) (.cells #[.slice none 0 0, .int .i64 0] 25)).alloc (by simp) (.cells #[] 3)).drew).trans b6).setCell (by simp) _).setCell (by simp) _⟩)
  case rest =>
    obtain ⟨G, va, rfl, hB, ho, hG, hne, hbl⟩ := hcut
    obtain ⟨ao, c5, rfl, hc5⟩ := ho.shape
    rw [Lx.out] at hB ho hne hc5
    obtain ⟨g, off, rfl, hgB, hgl, _, hcell, hfr⟩ := ho.at (by omega)
    have hsw := Hs2.out
    obtain ⟨ba, oa, hba, hbal, _, hca⟩ := (hs2.below hbl).intAt (by omega)
    subst hba
    have hgG : g ≠ G := fun e => hne (by rw [← e]; rfl)
    have st := setCell_grown wc ⟨g, off + j, none⟩ (.int .i64 0)
    have r1 := hcell j hj
    have r2 := hfr (off + j)
    have r3 := hca j hj
    generalize hkk : co.getD j 0 = kk at r1 r3 hk
    have Hkk := hid hkk; clear hkk
    obtain ⟨b0, b1, b2, b3, b4⟩ := hB
    obtain ⟨a0, a1, _, _, a4⟩ := HB1.out.below hbl
    have e1 : g ≠ w.heap.size := by omega
    have e2 : g ≠ w.heap.size + 1 := by omega
    have e3 : g ≠ w.heap.size + 1 + 1 := by omega
    have e4 : g ≠ ba := by omega
    have e5 : w.heap.size ≠ g := by omega
    have e6 : ba ≠ g := by omega
    have e7 : G ≠ g := fun e => hgG e.symm
    obtain ⟨d0, d1, _, _, d4⟩ := HB2.out.below hbl
    have HO := hid (ho.set j 0)
    have HY := hid ((Hy.out.below hbl).grown st (fun q hq e => by have := Option.some.inj e; have h6 : g = q := this; omega))
    have HR := hid ((HB3.out.below hbl).grown st (fun e => e3 (Option.some.inj e)))
    have HB := hid ((hb.trans (hbl.mono hb.size)).setCell (p := ⟨g, off + j, none⟩) (by show _ ≤ g; omega) (.int .i64 0))
    have hj4 : (j : Int) < 4 := by omega
    clear hcell hfr hca ho st hb hbl hs2 hne p0 p1 p2 p3
    go_wp2_with fail
    have HB' := hid HB.out.drew
    have hS6 : Hid (AffR (fun _ => True) (wc.setCell ⟨g, off + j, none⟩ (.int .i64 0)).drew (.agg #[.slice (some ⟨g, off, none⟩) 4 c5, .int .i64 xk]) (co.set j 0, xk)) := hid ⟨_, rfl, (HO.out.drew.sl (by rw [List.length_set, Lx.out]; omega)).any⟩
    have hY6 : Hid (AffR (fun q => q < w.heap.size) (wc.setCell ⟨g, off + j, none⟩ (.int .i64 0)).drew (.agg #[.slice b 4 d, .int .i64 yk]) (cp, yk)) := hid (HY.out.below ((Below.refl _ _).drew))
    have HR6 := hid HR.out.drew
    go_region_with (go_at_call 53; refine (l1Combine_any _ _ _ _ (co.set j 0, xk) (cp, yk) 1 kk _ hS6.out hY6.out mset.out my (by omega) hk).mono ?_; rintro e w7 ⟨v7, rfl, ⟨va7, rfl, o7⟩, b7⟩; obtain ⟨a7, c7, rfl, _⟩ := o7.shape; obtain ⟨t0, t1, t2, t3, m2⟩ := HR6.out.below b7; have hB7 := hid (HB'.out.trans (b7.mono HB'.out.size)); generalize hres : affComb (co.set j 0, xk) 1 (cp, yk) kk = res at o7; have Hres := hid hres; have HO7 := hid o7; clear hres o7 b7; obtain ⟨rc, rk⟩ := res)
    all_goals
      have l6 := HR6.out.lt
      have hne : (Value.slice a7 rc.length c7).ownBlock ≠ some (w.heap.size + 1 + 1) := fun e => by have h8 := (HO7.out.lt _ e).1; have h9 : w.heap.size + 1 + 1 < (wc.setCell ⟨g, off + j, none⟩ (.int .i64 0)).drew.heap.size := l6; omega
      have Ho := hid ((HO7.out.store (p := ⟨w.heap.size + 1 + 1, 0, none⟩) (u := .slice a7 rc.length c7) hne).store (p := ⟨w.heap.size + 1 + 1, 1, none⟩) (u := .int .i64 rk) hne)
      have Hb := hid ((hB7.out.setCell (p := ⟨w.heap.size + 1 + 1, 0, none⟩) (by show _ ≤ w.heap.size + 1 + 1; omega) (.slice a7 rc.length c7)).setCell (p := ⟨w.heap.size + 1 + 1, 1, none⟩) (by show _ ≤ w.heap.size + 1 + 1; omega) (.int .i64 rk))
      have hs6 := HB'.out.size
      clear hne
      go_wp2_with fail
      refine bodyPost_ret (v := .agg #[.slice a7 rc.length c7, .int .i64 rk]) (by simp [results, Try.results55, go_sem, t0, t1, m2]) rfl ?_
      refine ⟨_, rfl, ?_, Hb.out⟩
      rw [← hdef.out, show affComb ((co, xk).1.set j 0, (co, xk).2) 1 (cp, yk) ((co, xk).1.getD j 0) = (rc, rk) by rw [← Hres.out, ← Hkk.out]]
      exact ⟨_, rfl, Ho.out.base hs6⟩
end Go.Proofs.Ytkhlaphegnldeaa
