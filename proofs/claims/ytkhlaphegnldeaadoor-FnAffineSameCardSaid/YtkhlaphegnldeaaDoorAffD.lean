/- Affine expressions are drawn; condition: what the reader's block holds. -/
import Derived.Test.YtkhlaphegnldeaaDoorAffK
import Derived.Test.YtkhlaphegnldeaaDoorPlace
namespace Go.Proofs.YtkhlaphegnldeaaDoor
set_option linter.unusedVariables false
set_option linter.unusedSimpArgs false
open Go.RowKit

theorem grown_alloc_drewD {w w' : World} {r : Option Nat} (h : w.grownBy w' r) (o : Obj) : w.grownBy (w'.alloc o).drew r := by
  have h' := grownBy_transK h (World.grownBy_alloc w' o r)
  exact ⟨h'.os, h'.tape, h'.output, h'.size, h'.block⟩
theorem grown_store {w w1 : World} {r : Option Nat} (h : w.grownBy w1 r) (a : Addr) (u : Value) (hb : w.heap.size ≤ a.block) : w.grownBy (w1.setCell a u) r := by
  have st := setCell_grown w1 a u
  exact ⟨st.os.trans h.os, st.tape.trans h.tape, st.output.trans h.output, Nat.le_trans h.size st.size, fun k hk e => (st.block k (Nat.lt_of_lt_of_le hk h.size) (fun h => by have := Option.some.inj h; omega)).trans (h.block k hk e)⟩
/-- num of a list that has been written out in a region that draws its order. -/
theorem num_litD (g p b n : Nat) (vs : List Int) (cells : Array Value) (w : World) (h : Rd w g p) (hp : p < 1099511627776) (hb : b = w.heap.size) (hc : cells = (vs.map (Value.int .i64)).toArray) (hn : n = vs.length) (h0 : 0 < n) (hs : n ≤ 1000) :
    Calls Tryd.prog 23 #[.pointer (some ⟨g, 0, none⟩), .slice (some ⟨b, 0, none⟩) n n] (w.alloc (.cells cells 3)).drew (NumOf vs g p w) := by
  subst hb hc hn
  have hg := h.lt
  refine (num_any g p _ _ _ _ vs _ ((h.alloc _).drewN (n := 1)) hp h0 ((((OwnI.made (B := w.heap.size) w vs (Nat.le_refl _) (by omega)).drew).sl (by omega)).mono fun b hb _ e => by subst e; have := Option.some.inj hb; simp at this; omega)).mono ?_
  rintro e w' ⟨k, rfl, hk, hr, hgr⟩
  exact ⟨k, rfl, hk, hr, grown_trans (grown_alloc_drewD (World.grownBy.refl _ _) _) hgr⟩

/-- An affine expression of at most n coefficients, in memory of the call's own. -/
def DrawnA (n q g p : Nat) (w : World) (e : Ending) (w' : World) : Prop :=
  ∃ v x p', e = .returned v ∧ AffO w.heap.size w' v x ∧ x.1.length ≤ n ∧ Rd w' g p' ∧ p' ≤ p + q ∧ w.grownBy w' (some g)

set_option maxHeartbeats 3200000 in
theorem l1Draw_any (g p d : Nat) (w : World) (h : Rd w g p) (hp : p < 1000000) (hd : d ≤ 4) :
    Calls Tryd.prog 16 #[.pointer (some ⟨g, 0, none⟩), .int .i64 d] w (DrawnA 4 5 g p w) := by
  have hg := h.lt
  go_enter Tryd.func16, Tryd.ntmps16
  go_wp2_with fail
  refine (num_lit g p _ _ [0, 1, -1, 2, 0, 5, -9, 99] _ _ (h.alloc _) (by omega) ?_ rfl rfl (by decide) (by decide)).mono ?_
  · simp
  rintro e w2 ⟨k, rfl, hk, r2, g2⟩
  have gg2 := grown_trans (World.grownBy_alloc w (.cells #[.slice none 0 0, .int .i64 0] 25) (some g)) g2
  have B2 := (Box2.new w (.slice none 0 0) (.int .i64 0) 25).grown g2 (fun e => by have := Option.some.inj e; omega)
  clear hk g2
  go_wp2_with fail
  refine (l1Const_any k w2).mono ?_
  rintro e w3 ⟨v3, rfl, ⟨va, rfl, o3⟩, b3⟩
  simp only at o3
  obtain ⟨g2, off, c3, rfl, hgB, hgl⟩ : ∃ g2 off c3, va = .slice (some ⟨g2, off, none⟩) 4 c3 ∧ w2.heap.size ≤ g2 ∧ g2 < w3.heap.size := by
    obtain ⟨a4, c4, rfl, _⟩ := o3.shape
    obtain ⟨g2, off, rfl, h1, h2, _⟩ := o3.at (by decide)
    exact ⟨g2, off, c4, rfl, h1, h2⟩
  have hs2 := gg2.size
  have hl2 := B2.lt
  have r4 : Rd (w3.alloc (.cells #[.slice (some ⟨g2, off, none⟩) 4 c3, .int .i64 k] 25)) g (p + 1) := (r2.below b3).alloc _
  have B4 := (B2.below b3).alloc (.cells #[.slice (some ⟨g2, off, none⟩) 4 c3, .int .i64 k] 25)
  have B5 := Box2.new w3 (.slice (some ⟨g2, off, none⟩) 4 c3) (.int .i64 k) 25
  have o4 : OwnI w2.heap.size (w3.alloc (.cells #[.slice (some ⟨g2, off, none⟩) 4 c3, .int .i64 k] 25)) (.slice (some ⟨g2, off, none⟩) 4 c3) [0, 0, 0, 0] := o3.alloc _
  have gg4 : w.grownBy (w3.alloc (.cells #[.slice (some ⟨g2, off, none⟩) 4 c3, .int .i64 k] 25)) (some g) := grown_below gg2 (b3.alloc b3.size _) hs2
  have hs4 : (w3.alloc (.cells #[.slice (some ⟨g2, off, none⟩) 4 c3, .int .i64 k] 25)).heap.size = w3.heap.size + 1 := World.size_alloc _ _
  have Hs4 := hid hs4
  have hs3 := b3.size
  clear o3 b3 r2 B2 hs4 gg2
  go_wp2_with fail
  generalize w3.alloc (.cells #[.slice (some ⟨g2, off, none⟩) 4 c3, .int .i64 k] 25) = w4 at r4 B4 B5 o4 gg4 Hs4
  have HB4 := hid B4; have HB5 := hid B5
  clear B4 B5
  go_loopw [6] (fun vi wr => ∃ (j p' : Nat) (xs : List Int), j ≤ d ∧ vi = .int .i64 j ∧ OwnI w2.heap.size wr (.slice (some ⟨g2, off, none⟩) 4 c3) xs ∧ Rd wr g p' ∧ p' ≤ p + 1 + j ∧ w.grownBy wr (some g) ∧ Box2 wr w.heap.size (.slice none 0 0) (.int .i64 0) ∧ Box2 wr w3.heap.size (.slice (some ⟨g2, off, none⟩) 4 c3) (.int .i64 k)) (fun vi _ => d - (intOf vi).toNat)
  case atStart => exact ⟨0, p + 1, _, by omega, rfl, o4, r4, by omega, gg4, HB4.out, HB5.out⟩
  case round =>
    obtain ⟨j, p', xs, hj, rfl, ho, hr, hpp, hgr, hb4, hb5⟩ := hrel
    have Hxs := hid ho.len
    have n5 : some g ≠ some w3.heap.size := fun e => by have := Option.some.inj e; omega
    have n4 : some g ≠ some w.heap.size := fun e => by have := Option.some.inj e; omega
    have HB4 := hid hb4
    have HB5' := hid hb5
    obtain ⟨t0, t1, t2, t3, t4⟩ := hb5
    by_cases hlt : j < d
    · have hj4 : (j : Int) < 4 := by omega
      obtain ⟨g', off', e, _, _, _, hcell, hfr⟩ := ho.at (by decide)
      cases e
      have q1 := hcell j (by omega)
      have q2 := hfr (off + j)
      clear hcell hfr
      have Ho := hid ho; have Hr := hid hr; have Hg := hid hgr
      clear ho hr hgr hb4
      go_wp2_with fail
      go_region_with (go_at_call 23; refine (num_litD g p' _ _ [0, 1, 0, -1, 2, 0, 9] _ _ Hr.out (by omega) rfl rfl rfl (by decide) (by decide)).mono ?_; rintro e w6 ⟨y, rfl, hy, r6, g6⟩; have o6 := hid (Ho.out.grown g6 (fun q hq e => by cases hq; have := (Ho.out.lt _ e).1; omega)); obtain ⟨g', off', e, _, _, _, hcell, hfr⟩ := o6.out.at (by decide); cases e; have s1 := hcell j (by omega); have s2 := hfr (off + j); clear hcell hfr hy; have B6 := hid (HB5'.out.grown g6 n5); obtain ⟨u0, u1, u2, u3, u4⟩ := B6.out; have B7 := hid (HB4.out.grown g6 n4); have G6 := hid (grown_trans Hg.out g6); have R6 := hid r6; clear r6 g6)
      all_goals
        have st := setCell_grown w6 ⟨g2, off + j, none⟩ (.int .i64 y)
        have e5 : g2 ≠ w3.heap.size := by omega
        have e4 : g2 ≠ w.heap.size := by omega
        have eg : g < g2 := by omega
        have Z := hid (show _ ∧ _ ∧ _ ∧ _ ∧ _ from ⟨o6.out.set j y, R6.out.grown st (fun q hq => by cases hq; exact eg), grown_store G6.out ⟨g2, off + j, none⟩ (.int .i64 y) (by show w.heap.size ≤ g2; omega), B7.out.grown st (fun e => e4 (Option.some.inj e)), B6.out.grown st (fun e => e5 (Option.some.inj e))⟩)
        clear st
        go_wp2
        exact ⟨⟨j + 1, p' + 1, _, by omega, rfl, Z.out.1, Z.out.2.1, by omega, Z.out.2.2.1, Z.out.2.2.2.1, Z.out.2.2.2.2⟩, by simp [intOf]; omega⟩
    · have hje : j = d := by omega
      subst hje
      have ho' := (ho.store (p := ⟨w.heap.size, 0, none⟩) (u := .slice (some ⟨g2, off, none⟩) 4 c3) (fun e => by have := (ho.lt _ e).1; have h6 : w2.heap.size ≤ w.heap.size := this; omega)).store (p := ⟨w.heap.size, 1, none⟩) (u := .int .i64 k) (fun e => by have := (ho.lt _ e).1; have h6 : w2.heap.size ≤ w.heap.size := this; omega)
      have hg' := grown_store (grown_store hgr ⟨w.heap.size, 0, none⟩ (.slice (some ⟨g2, off, none⟩) 4 c3) (Nat.le_refl _)) ⟨w.heap.size, 1, none⟩ (.int .i64 k) (Nat.le_refl _)
      have hr' := (hr.grown (setCell_grown wr ⟨w.heap.size, 0, none⟩ (.slice (some ⟨g2, off, none⟩) 4 c3)) (fun q hq => by cases hq; exact hg)).grown (setCell_grown _ ⟨w.heap.size, 1, none⟩ (.int .i64 k)) (fun q hq => by cases hq; exact hg)
      have Ho := hid ho'; have Hg := hid hg'; have Hr := hid hr'
      obtain ⟨s0, s1, s2, s3, s4⟩ := hb4
      clear ho' hg' hr' ho hgr hr
      go_wp2_with fail
      refine bodyPost_ret (v := .agg #[.slice (some ⟨g2, off, none⟩) 4 c3, .int .i64 k]) (by simp [results, Tryd.results16, go_sem, s0, s1, s4]) rfl ?_
      exact ⟨_, (xs, k), p', rfl, ⟨_, rfl, Ho.out.base (by omega)⟩, by rw [Hxs.out]; omega, Hr.out, by omega, Hg.out⟩
end Go.Proofs.YtkhlaphegnldeaaDoor
