/- spec.DrawAffineSame; condition: what the slice of bytes holds. -/
import Derived.Test.YtkhlaphegnldeaaDoorAffW
namespace Go.Proofs.YtkhlaphegnldeaaDoor
set_option linter.unusedVariables false
set_option linter.unusedSimpArgs false
open Go.RowKit

set_option maxHeartbeats 25600000 in
theorem drawSame_any (a : Option Addr) (n c : Nat) (bs : List Int) (w : World) (hx : Sl Sh.byte (fun b => b < w.heap.size) w (.slice a n c) bs) (hbs : ∀ x ∈ bs, 0 ≤ x ∧ x ≤ 255) :
    Calls Tryd.prog 5 #[.slice a n c] w fun e w' => ∃ v u x y, e = .returned (.tuple #[v, u]) ∧ AffR (fun b => w.heap.size ≤ b) w' v x ∧ AffR (fun b => w.heap.size ≤ b) w' u y ∧ x.1.length ≤ 6 ∧ y.1.length ≤ 6 ∧ Below w.heap.size w w' := by
  have Hbs := hid hbs; clear hbs
  have hb0 := (Below.refl w.heap.size w).alloc (by simp) (.cells #[.slice none 0 0, .int .i64 0] 25)
  have hb1 := hb0.alloc (by simp) (.cells #[.slice none 0 0, .int .i64 0] 25)
  have B0 := ((Box2.new w (.slice none 0 0) (.int .i64 0) 25).alloc (.cells #[.slice none 0 0, .int .i64 0] 25))
  have B1 := (Box2.new (w.alloc (.cells #[.slice none 0 0, .int .i64 0] 25)) (.slice none 0 0) (.int .i64 0) 25)
  rw [World.size_alloc] at B1
  go_enter Tryd.func5, Tryd.ntmps5
  go_wp2_with fail
  refine (open_ds a n c bs w _ hb1 hx Hbs.out).mono ?_
  rintro e w1 ⟨rfl, d1, b1⟩
  replace B0 := B0.below b1
  replace B1 := B1.below b1
  rw [World.size_alloc, World.size_alloc] at d1 ⊢
  have n0 : some (w.heap.size + 1 + 1) ≠ some (w.heap.size) := fun e => by have := Option.some.inj e; omega
  have n1 : some (w.heap.size + 1 + 1) ≠ some (w.heap.size + 1) := fun e => by have := Option.some.inj e; omega
  clear b1 hx hb0 hb1
  go_wp2_with fail
  refine (pick_ds w w1 _ 0 5 d1 (by omega) (by omega)).mono ?_
  rintro e w2 ⟨k2, rfl, hk2, d2, g2⟩
  replace B0 := B0.grown g2 n0
  replace B1 := B1.grown g2 n1
  go_wp2_with fail
  refine (draw_ds w w2 _ 1 k2 d2 (by omega) (by omega)).mono ?_
  rintro e w4 ⟨v4, x4, p4, rfl, h4, l4, d4, q4, g4⟩
  replace B0 := B0.grown g4 n0
  replace B1 := B1.grown g4 n1
  obtain ⟨a4, c4, rfl, _, _, _⟩ := h4.shape
  have lt4 := d4.rd.lt
  have d5 := d4.alloc (.cells #[.slice a4 x4.1.length c4, .int .i64 x4.2] 25)
  have h5 := h4.below ((Below.refl _ _).alloc (Nat.le_refl _) (.cells #[.slice a4 x4.1.length c4, .int .i64 x4.2] 25))
  have B9 := Box2.new w4 (.slice a4 x4.1.length c4) (.int .i64 x4.2) 25
  have n9 : some (w.heap.size + 1 + 1) ≠ some w4.heap.size := fun e => by have := Option.some.inj e; omega
  go_wp2_with fail
  replace B0 := B0.alloc (.cells #[.slice a4 x4.1.length c4, .int .i64 x4.2] 25)
  replace B1 := B1.alloc (.cells #[.slice a4 x4.1.length c4, .int .i64 x4.2] 25)
  have L4 := hid l4
  generalize w4.alloc (.cells #[.slice a4 x4.1.length c4, .int .i64 x4.2] 25) = w5 at d5 h5 B9 B0 B1
  clear h4 l4 d1 d2 d4 g2 g4
  refine (pick_ds w w5 _ p4 2 d5 (by omega) (by omega)).mono ?_
  rintro e w6 ⟨k6, rfl, hk6, d6, g6⟩
  have HB0 := hid (B0.grown g6 n0); have HB1 := hid (B1.grown g6 n1); have HB9 := hid (B9.grown g6 n9)
  have D5 := hid d6.drew
  have H5 := hid ((affR_pa h5 g6).below ((Below.refl _ _).drew))
  obtain ⟨b0, b1, b2, b3, b4⟩ := HB9.out
  obtain ⟨e0, e1, _, _, _⟩ := HB9.out.drew
  have f1 : w4.heap.size ≠ w.heap.size := by omega
  have f2 : w4.heap.size ≠ w.heap.size + 1 := by omega
  have f3 : w.heap.size ≠ w4.heap.size := by omega
  have f4 : w.heap.size + 1 ≠ w4.heap.size := by omega
  clear d5 h5 B0 B1 B9 d6 g6
  by_cases hk0 : k6 = 0
  · subst hk0
    go_wp2_with fail
    go_region_held3 (fun wq => wq.cell? ⟨w4.heap.size, 0, none⟩ = some (.slice a4 x4.1.length c4) ∧ wq.cell? ⟨w4.heap.size, 1, none⟩ = some (.int .i64 x4.2))
      ((repeat' apply And.intro) <;> ((repeat (refine (World.cell?_setCell_other _ _ _ _ (fun e => by have e9 := congrArg Addr.block e; simp only at e9; omega)).trans ?_)); first | exact s0 | exact s1 | exact e0 | exact e1))
      (first
        | (go_at_call 17; refine (pick_ds w _ _ (p4 + 1) 5 D5.out (by omega) (by omega)).mono ?_; rintro e w7 ⟨k7, rfl, hk7, d7, g7⟩; have D7 := hid d7; have H7 := hid (affR_pa H5.out g7); have C0g7 := hid (HB0.out.drew.grown g7 n0); have C1g7 := hid (HB1.out.drew.grown g7 n1); have C9g7 := hid (HB9.out.drew.grown g7 n9); obtain ⟨s0, s1, s2, s3, s4⟩ := C9g7.out; have K7 := hid hk7; clear d7 g7 hk7)
        | (go_at_call 16; refine (draw_ds w _ _ ((p4 + 1) + 1) k7 D7.out (by omega) (by have := K7.out; omega)).mono ?_; rintro e w8 ⟨v8, x8, p8, rfl, h8, l8, d8, q8, g8⟩; obtain ⟨a8, c8, rfl, _, _, _⟩ := h8.shape; have D8 := hid d8; have H8 := hid h8; have L8 := hid l8; have HA8 := hid (affR_pa H7.out g8); have C0g8 := hid (C0g7.out.grown g8 n0); have C1g8 := hid (C1g7.out.grown g8 n1); have C9g8 := hid (C9g7.out.grown g8 n9); obtain ⟨s0, s1, s2, s3, s4⟩ := C9g8.out; obtain ⟨t0, t1, t2, t3, t4⟩ := C0g8.out; obtain ⟨r0, r1, r2, r3, r4⟩ := C1g8.out; clear d8 h8 l8 g8))
    all_goals
      have F1 := hid (affR_st (affR_st (affR_st (affR_st HA8.out w.heap.size 0 (.slice a4 x4.1.length c4) (by omega)) w.heap.size 1 (.int .i64 x4.2) (by omega)) (w.heap.size + 1) 0 (.slice a8 x8.1.length c8) (by omega)) (w.heap.size + 1) 1 (.int .i64 x8.2) (by omega))
      have F2 := hid (affR_st (affR_st (affR_st (affR_st H8.out w.heap.size 0 (.slice a4 x4.1.length c4) (by omega)) w.heap.size 1 (.int .i64 x4.2) (by omega)) (w.heap.size + 1) 0 (.slice a8 x8.1.length c8) (by omega)) (w.heap.size + 1) 1 (.int .i64 x8.2) (by omega))
      have F3 := hid ((((D8.out.bel.setCell (p := ⟨w.heap.size, 0, none⟩) (Nat.le_refl _) (.slice a4 x4.1.length c4)).setCell (p := ⟨w.heap.size, 1, none⟩) (Nat.le_refl _) (.int .i64 x4.2)).setCell (p := ⟨w.heap.size + 1, 0, none⟩) (Nat.le_succ _) (.slice a8 x8.1.length c8)).setCell (p := ⟨w.heap.size + 1, 1, none⟩) (Nat.le_succ _) (.int .i64 x8.2))
      go_wp2_with fail
      refine bodyPost_ret (v := .tuple #[.agg #[.slice a4 x4.1.length c4, .int .i64 x4.2], .agg #[.slice a8 x8.1.length c8, .int .i64 x8.2]]) (by simp [results, Tryd.results5, go_sem, t0, t1, t4, r0, r1, r4]) rfl ?_
      exact ⟨_, _, x4, x8, rfl, F1.out.mono (fun b (h : w.heap.size + 1 + 1 < b) _ => by omega), F2.out.mono (fun b (h : w.heap.size + 1 + 1 < b) _ => by omega), by have := L4.out; omega, by have := L8.out; omega, F3.out⟩
  · have dk : ((k6 : Int) == 0) = false := by simp; omega
    go_wp2_with fail
    have tok1 : True := trivial
    go_region_held3 (fun wq => wq.cell? ⟨w4.heap.size, 0, none⟩ = some (.slice a4 x4.1.length c4) ∧ wq.cell? ⟨w4.heap.size, 1, none⟩ = some (.int .i64 x4.2))
      ((repeat' apply And.intro) <;> ((repeat (refine (World.cell?_setCell_other _ _ _ _ (fun e => by have e9 := congrArg Addr.block e; simp only at e9; omega)).trans ?_)); first | exact s0 | exact s1 | exact e0 | exact e1))
      (first
        | (go_at_call 18; (have _t := tok1; refine (mut_ds 4 w _ _ (p4 + 1) _ x4 D5.out (by omega) H5.out L4.out (by omega)).mono ?_; rintro e w7 ⟨v7, x7, p7, rfl, h7, l7, d7, q7, g7⟩; have D7 := hid d7; have H7 := hid h7; have L7 := hid l7; have HA7 := hid (affR_pa H5.out g7); have C0g7 := hid (HB0.out.drew.grown g7 n0); have C1g7 := hid (HB1.out.drew.grown g7 n1); have C9g7 := hid (HB9.out.drew.grown g7 n9); obtain ⟨s0, s1, s2, s3, s4⟩ := C9g7.out; clear d7 h7 l7 g7 _t tok1))
        | (go_at_call 18; (refine (mut_ds 5 w _ _ p7 v7 x7 D7.out (by omega) H7.out L7.out (by omega)).mono ?_; rintro e w8 ⟨v8, x8, p8, rfl, h8, l8, d8, q8, g8⟩; obtain ⟨a8, c8, rfl, _, _, _⟩ := h8.shape; have D8 := hid d8; have H8 := hid h8; have L8 := hid l8; have HA8 := hid (affR_pa HA7.out g8); have C0g8 := hid (C0g7.out.grown g8 n0); have C1g8 := hid (C1g7.out.grown g8 n1); have C9g8 := hid (C9g7.out.grown g8 n9); obtain ⟨s0, s1, s2, s3, s4⟩ := C9g8.out; obtain ⟨t0, t1, t2, t3, t4⟩ := C0g8.out; obtain ⟨r0, r1, r2, r3, r4⟩ := C1g8.out; clear d8 h8 l8 g8)))
    all_goals
      have F1 := hid (affR_st (affR_st (affR_st (affR_st HA8.out w.heap.size 0 (.slice a4 x4.1.length c4) (by omega)) w.heap.size 1 (.int .i64 x4.2) (by omega)) (w.heap.size + 1) 0 (.slice a8 x8.1.length c8) (by omega)) (w.heap.size + 1) 1 (.int .i64 x8.2) (by omega))
      have F2 := hid (affR_st (affR_st (affR_st (affR_st H8.out w.heap.size 0 (.slice a4 x4.1.length c4) (by omega)) w.heap.size 1 (.int .i64 x4.2) (by omega)) (w.heap.size + 1) 0 (.slice a8 x8.1.length c8) (by omega)) (w.heap.size + 1) 1 (.int .i64 x8.2) (by omega))
      have F3 := hid ((((D8.out.bel.setCell (p := ⟨w.heap.size, 0, none⟩) (Nat.le_refl _) (.slice a4 x4.1.length c4)).setCell (p := ⟨w.heap.size, 1, none⟩) (Nat.le_refl _) (.int .i64 x4.2)).setCell (p := ⟨w.heap.size + 1, 0, none⟩) (Nat.le_succ _) (.slice a8 x8.1.length c8)).setCell (p := ⟨w.heap.size + 1, 1, none⟩) (Nat.le_succ _) (.int .i64 x8.2))
      go_wp2_with fail
      refine bodyPost_ret (v := .tuple #[.agg #[.slice a4 x4.1.length c4, .int .i64 x4.2], .agg #[.slice a8 x8.1.length c8, .int .i64 x8.2]]) (by simp [results, Tryd.results5, go_sem, t0, t1, t4, r0, r1, r4]) rfl ?_
      exact ⟨_, _, x4, x8, rfl, F1.out.mono (fun b (h : w.heap.size + 1 + 1 < b) _ => by omega), F2.out.mono (fun b (h : w.heap.size + 1 + 1 < b) _ => by omega), by have := L4.out; omega, by have := L8.out; omega, F3.out⟩
end Go.Proofs.YtkhlaphegnldeaaDoor
