/- Affine expressions drawn from bytes; condition: what the slice of bytes holds. -/
import Derived.Test.YtkhlaphegnldeaaDoorAffDm
import Derived.Test.YtkhlaphegnldeaaDoorPlace
namespace Go.Proofs.YtkhlaphegnldeaaDoor
set_option linter.unusedVariables false
set_option linter.unusedSimpArgs false
open Go.RowKit

/-- Memory behind the reader. -/
def PA (g : Nat) : Nat → Prop := fun b => g < b
/-- The reader stands in block g, asked p times; what was there ahead of w is as it was. -/
structure DS (w : World) (g p : Nat) (wk : World) : Prop where
  rd : Rd wk g p
  bel : Below w.heap.size w wk
  le : w.heap.size ≤ g
theorem DS.below {w w1 w2 : World} {g p : Nat} (h : DS w g p w1) (hb : Below w1.heap.size w1 w2) : DS w g p w2 :=
  ⟨h.rd.below hb, h.bel.trans (hb.mono h.bel.size), h.le⟩
theorem DS.drew {w w1 : World} {g p : Nat} (h : DS w g p w1) : DS w g p w1.drew := h.below ((Below.refl _ _).drew)
theorem DS.alloc {w w1 : World} {g p : Nat} (h : DS w g p w1) (o : Obj) : DS w g p (w1.alloc o) := h.below ((Below.refl _ _).alloc (Nat.le_refl _) o)
theorem DS.grown {w w1 w2 : World} {g p p' : Nat} (h : DS w g p w1) (hr : Rd w2 g p') (hg : w1.grownBy w2 (some g)) : DS w g p' w2 :=
  ⟨hr, h.bel.grown hg h.bel.size (fun k hk => by cases hk; exact h.le), h.le⟩
theorem open_ds (a : Option Addr) (n c : Nat) (bs : List Int) (w w0 : World) (hb : Below w.heap.size w w0) (hx : Sl Sh.byte (fun b => b < w.heap.size) w (.slice a n c) bs) (hbs : ∀ x ∈ bs, 0 ≤ x ∧ x ≤ 255) :
    Calls Tryd.prog 15 #[.slice a n c] w0 fun e w' => e = .returned (.pointer (some ⟨w0.heap.size, 0, none⟩)) ∧ DS w w0.heap.size 0 w' ∧ Below w0.heap.size w0 w' := by
  refine (l16Open_any a n c bs w0 ((hx.below hb).mono fun b h _ => Nat.lt_of_lt_of_le h hb.size) hbs).mono ?_
  rintro e w1 ⟨rfl, r1, b1⟩
  exact ⟨rfl, ⟨r1, hb.trans (b1.mono hb.size), hb.size⟩, b1⟩
def DrewA (m q : Nat) (w : World) (g p : Nat) (w1 : World) (e : Ending) (w2 : World) : Prop :=
  ∃ v x p', e = .returned v ∧ AffR (PA g) w2 v x ∧ x.1.length ≤ m ∧ DS w g p' w2 ∧ p' ≤ p + q ∧ w1.grownBy w2 (some g)
theorem affO_pa {w w1 w2 : World} {g p : Nat} {v : Value} {x : Aff} {m : Nat} (h : DS w g p w1) (ho : AffO w1.heap.size w2 v x) (hl : x.1.length ≤ m) (hm : m ≤ 1000000) : AffR (PA g) w2 v x :=
  (ho.r (by omega)).mono fun b hb _ => Nat.lt_of_lt_of_le h.rd.lt hb
theorem affR_pa {w1 w2 : World} {g : Nat} {v : Value} {x : Aff} (h : AffR (PA g) w1 v x) (hg : w1.grownBy w2 (some g)) : AffR (PA g) w2 v x := h.grown hg fun b hb e => by have h5 : g < b := hb; have h6 := Option.some.inj e; omega
theorem affR_st {w1 : World} {g : Nat} {v : Value} {x : Aff} (h : AffR (PA g) w1 v x) (b o : Nat) (u : Value) (hb : b ≤ g) : AffR (PA g) (w1.setCell ⟨b, o, none⟩ u) v x := h.grown (setCell_grown w1 ⟨b, o, none⟩ u) fun k hk e => by have h5 : g < k := hk; have h6 : b = k := Option.some.inj e; omega
theorem draw_ds (w w1 : World) (g p d : Nat) (h : DS w g p w1) (hp : p < 1000000) (hd : d ≤ 4) :
    Calls Tryd.prog 16 #[.pointer (some ⟨g, 0, none⟩), .int .i64 d] w1 (DrewA 4 5 w g p w1) := by
  refine (l1Draw_any g p d w1 h.rd hp hd).mono ?_
  rintro e w2 ⟨v, x, p', rfl, ho, hl, hr, hp', hg⟩
  exact ⟨v, x, p', rfl, affO_pa h ho hl (by omega), hl, h.grown hr hg, hp', hg⟩
theorem mut_ds (m : Nat) (w w1 : World) (g p : Nat) (v : Value) (x : Aff) (h : DS w g p w1) (hp : p < 1000000) (hx : AffR (PA g) w1 v x) (hl : x.1.length ≤ m) (hm : m ≤ 999) :
    Calls Tryd.prog 18 #[.pointer (some ⟨g, 0, none⟩), v] w1 (DrewA (m + 1) 2 w g p w1) := by
  refine (l1Mutate_any (PA g) g p v x w1 h.rd hp hx (fun b hb => by have h5 : g < b := hb; omega) (by omega)).mono ?_
  rintro e w2 ⟨v, y, p', rfl, ho, hl', hr, hp', hg⟩
  exact ⟨v, y, p', rfl, affO_pa h ho (Nat.le_trans hl' (Nat.succ_le_succ hl)) (by omega), Nat.le_trans hl' (Nat.succ_le_succ hl), h.grown hr hg, hp', hg⟩
theorem pick_ds (w w1 : World) (g p : Nat) (m : Int) (h : DS w g p w1) (hp : p < 1000000) (hm : 1 ≤ m) :
    Calls Tryd.prog 17 #[.pointer (some ⟨g, 0, none⟩), .int .i64 m] w1 fun e w2 => ∃ k : Nat, e = .returned (.int .i64 k) ∧ (k : Int) < m ∧ DS w g (p + 1) w2 ∧ w1.grownBy w2 (some g) := by
  refine (pick_any g p m w1 h.rd (by omega)).mono ?_
  rintro e w2 ⟨k, rfl, h0, h1, _, hr, hg⟩
  exact ⟨k.toNat, by rw [Int.toNat_of_nonneg h0], by have := h1 hm; omega, h.grown hr hg, hg⟩

theorem num_ds (w w1 : World) (g p b n : Nat) (vs : List Int) (cells : Array Value) (h : DS w g p w1) (hp : p < 1000000) (hb : b = w1.heap.size) (hc : cells = (vs.map (Value.int .i64)).toArray) (hn : n = vs.length) (h0 : 0 < n) (hs : n ≤ 1000) :
    Calls Tryd.prog 23 #[.pointer (some ⟨g, 0, none⟩), .slice (some ⟨b, 0, none⟩) n n] (w1.alloc (.cells cells 3)) fun e w2 => ∃ k : Int, e = .returned (.int .i64 k) ∧ k ∈ vs ∧ DS w g (p + 1) w2 ∧ w1.grownBy w2 (some g) := by
  refine (num_lit g p b n vs cells w1 h.rd (by omega) hb hc hn h0 hs).mono ?_
  rintro e w2 ⟨k, rfl, hk, hr, hg⟩
  exact ⟨k, rfl, hk, h.grown hr hg, hg⟩
theorem num_dsD (w w1 : World) (g p b n : Nat) (vs : List Int) (cells : Array Value) (h : DS w g p w1) (hp : p < 1000000) (hb : b = w1.heap.size) (hc : cells = (vs.map (Value.int .i64)).toArray) (hn : n = vs.length) (h0 : 0 < n) (hs : n ≤ 1000) :
    Calls Tryd.prog 23 #[.pointer (some ⟨g, 0, none⟩), .slice (some ⟨b, 0, none⟩) n n] (w1.alloc (.cells cells 3)).drew fun e w2 => ∃ k : Int, e = .returned (.int .i64 k) ∧ k ∈ vs ∧ DS w g (p + 1) w2 ∧ w1.grownBy w2 (some g) := by
  refine (num_litD g p b n vs cells w1 h.rd (by omega) hb hc hn h0 hs).mono ?_
  rintro e w2 ⟨k, rfl, hk, hr, hg⟩
  exact ⟨k, rfl, hk, h.grown hr hg, hg⟩
theorem place_ds (w w1 : World) (g p : Nat) (h : DS w g p w1) (hp : p < 1000000) :
    Calls Tryd.prog 33 #[.pointer (some ⟨g, 0, none⟩)] w1 fun e w2 => ∃ v xs p', e = .returned v ∧ Sl Sh.int (PA g) w2 v xs ∧ xs.length ≤ 6 ∧ DS w g p' w2 ∧ p' ≤ p + 7 ∧ w1.grownBy w2 (some g) := by
  refine (l1Place_any g p w1 h.rd hp).mono ?_
  rintro e w2 ⟨v, xs, p', rfl, ho, hl, hr, hp', hg⟩
  exact ⟨v, xs, p', rfl, (ho.sl (by omega)).mono (fun b hb _ => Nat.lt_of_lt_of_le h.rd.lt (ho.lt b hb).1), hl, h.grown hr hg, hp', hg⟩
theorem sl_pa {w1 w2 : World} {g : Nat} {v : Value} {xs : List Int} (h : Sl Sh.int (PA g) w1 v xs) (hg : w1.grownBy w2 (some g)) : Sl Sh.int (PA g) w2 v xs := h.grown hg fun b hb e => by have h5 : g < b := hb; have h6 := Option.some.inj e; omega
theorem sl_st {w1 : World} {g : Nat} {v : Value} {xs : List Int} (h : Sl Sh.int (PA g) w1 v xs) (b o : Nat) (u : Value) (hb : b ≤ g) : Sl Sh.int (PA g) (w1.setCell ⟨b, o, none⟩ u) v xs := h.grown (setCell_grown w1 ⟨b, o, none⟩ u) fun k hk e => by have h5 : g < k := hk; have h6 : b = k := Option.some.inj e; omega

set_option maxHeartbeats 3200000 in
theorem drawScale_any (a : Option Addr) (n c : Nat) (bs : List Int) (w : World) (hx : Sl Sh.byte (fun b => b < w.heap.size) w (.slice a n c) bs) (hbs : ∀ x ∈ bs, 0 ≤ x ∧ x ≤ 255) :
    Calls Tryd.prog 9 #[.slice a n c] w fun e w' => ∃ v k x, e = .returned (.tuple #[v, .int .i64 k]) ∧ AffR (fun b => w.heap.size ≤ b) w' v x ∧ x.1.length ≤ 5 ∧ Below w.heap.size w w' := by
  have Hbs := hid hbs; clear hbs
  have hb0 := (Below.refl w.heap.size w).alloc (by simp) (.cells #[.slice none 0 0, .int .i64 0] 25)
  have B0 := (Box2.new w (.slice none 0 0) (.int .i64 0) 25)
  go_enter Tryd.func9, Tryd.ntmps9
  go_wp2_with fail
  refine (open_ds a n c bs w _ hb0 hx Hbs.out).mono ?_
  rintro e w1 ⟨rfl, d1, b1⟩
  replace B0 := B0.below b1
  rw [World.size_alloc] at d1 ⊢
  have n0 : some (w.heap.size + 1) ≠ some (w.heap.size) := fun e => by have := Option.some.inj e; omega
  clear b1 hx hb0
  go_wp2_with fail
  refine (pick_ds w w1 _ 0 5 d1 (by omega) (by omega)).mono ?_
  rintro e w2 ⟨k2, rfl, hk2, d2, g2⟩
  replace B0 := B0.grown g2 n0
  go_wp2_with fail
  refine (draw_ds w w2 _ 1 k2 d2 (by omega) (by omega)).mono ?_
  rintro e w3 ⟨v3, x3, p3, rfl, h3, l3, d3, q3, g3⟩
  replace B0 := B0.grown g3 n0
  go_wp2_with fail
  refine (mut_ds 4 w w3 _ p3 v3 x3 d3 (by omega) h3 l3 (by omega)).mono ?_
  rintro e w4 ⟨v4, x4, p4, rfl, h4, l4, d4, q4, g4⟩
  replace B0 := B0.grown g4 n0
  obtain ⟨a4, c4, rfl, _, _, _⟩ := h4.shape
  have lt4 := d4.rd.lt
  have d5 := d4.alloc (.cells #[.slice a4 x4.1.length c4, .int .i64 x4.2] 25)
  have h5 := h4.below ((Below.refl _ _).alloc (Nat.le_refl _) (.cells #[.slice a4 x4.1.length c4, .int .i64 x4.2] 25))
  have B9 := Box2.new w4 (.slice a4 x4.1.length c4) (.int .i64 x4.2) 25
  have n9 : some (w.heap.size + 1) ≠ some w4.heap.size := fun e => by have := Option.some.inj e; omega
  go_wp2_with fail
  replace B0 := B0.alloc (.cells #[.slice a4 x4.1.length c4, .int .i64 x4.2] 25)
  have L4 := hid l4
  have hsz5 : (w4.alloc (.cells #[.slice a4 x4.1.length c4, .int .i64 x4.2] 25)).heap.size = w4.heap.size + 1 := World.size_alloc _ _
  have Hsz5 := hid hsz5; clear hsz5
  generalize w4.alloc (.cells #[.slice a4 x4.1.length c4, .int .i64 x4.2] 25) = w5 at d5 h5 B9 Hsz5 B0
  have D5 := hid d5.drew
  have D5' := hid d5
  have H5 := hid (h5.below ((Below.refl _ _).drew))
  have H5' := hid h5
  obtain ⟨b0, b1, b2, b3, b4⟩ := B9
  replace B9 : Box2 w5 w4.heap.size _ _ := ⟨b0, b1, b2, b3, b4⟩
  have HB0 := hid B0
  have HB9 := hid B9
  clear h4 h3 l4 l3 d1 d2 d3 d4 d5 g2 g3 g4 h5 B0 B9
  go_region_with (go_at_call 23; refine (num_dsD w w5 _ p4 _ _ [1, 2, -1, 0, 3, 99, 100, -9223372036854775808] _ D5'.out (by omega) rfl rfl rfl (by decide) (by decide)).mono ?_; rintro e w8 ⟨k8, rfl, hk8, d8, g8⟩; have D8 := hid d8; have HA8 := hid (affR_pa H5'.out g8); have C0 := hid (HB0.out.grown g8 n0); have C9 := hid (HB9.out.grown g8 n9); obtain ⟨s0, s1, s2, s3, s4⟩ := C9.out; obtain ⟨t0, t1, t2, t3, t4⟩ := C0.out; clear d8 g8 hk8)
  all_goals
    have F1 := hid (affR_st (affR_st HA8.out w.heap.size 0 (.slice a4 x4.1.length c4) (by omega)) w.heap.size 1 (.int .i64 x4.2) (by omega))
    have F3 := hid ((D8.out.bel.setCell (p := ⟨w.heap.size, 0, none⟩) (Nat.le_refl _) (.slice a4 x4.1.length c4)).setCell (p := ⟨w.heap.size, 1, none⟩) (Nat.le_refl _) (.int .i64 x4.2))
    go_wp2_with fail
    refine bodyPost_ret (v := .tuple #[.agg #[.slice a4 x4.1.length c4, .int .i64 x4.2], .int .i64 k8]) (by simp [results, Tryd.results9, go_sem, t0, t1, t4]) rfl ?_
    exact ⟨_, k8, x4, rfl, F1.out.mono (fun b (h : w.heap.size + 1 < b) _ => by omega), L4.out, F3.out⟩
set_option maxHeartbeats 3200000 in
theorem drawEval_any (a : Option Addr) (n c : Nat) (bs : List Int) (w : World) (hx : Sl Sh.byte (fun b => b < w.heap.size) w (.slice a n c) bs) (hbs : ∀ x ∈ bs, 0 ≤ x ∧ x ≤ 255) :
    Calls Tryd.prog 12 #[.slice a n c] w fun e w' => ∃ v u x xs, e = .returned (.tuple #[v, u]) ∧ AffR (fun b => w.heap.size ≤ b) w' v x ∧ Sl Sh.int (fun b => w.heap.size ≤ b) w' u xs ∧ x.1.length ≤ 5 ∧ xs.length ≤ 6 ∧ Below w.heap.size w w' := by
  have Hbs := hid hbs; clear hbs
  have hb0 := (Below.refl w.heap.size w).alloc (by simp) (.cells #[.slice none 0 0, .int .i64 0] 25)
  have B0 := (Box2.new w (.slice none 0 0) (.int .i64 0) 25)
  go_enter Tryd.func12, Tryd.ntmps12
  go_wp2_with fail
  refine (open_ds a n c bs w _ hb0 hx Hbs.out).mono ?_
  rintro e w1 ⟨rfl, d1, b1⟩
  replace B0 := B0.below b1
  rw [World.size_alloc] at d1 ⊢
  have n0 : some (w.heap.size + 1) ≠ some (w.heap.size) := fun e => by have := Option.some.inj e; omega
  clear b1 hx hb0
  go_wp2_with fail
  refine (draw_ds w w1 _ 0 4 d1 (by omega) (by omega)).mono ?_
  rintro e w3 ⟨v3, x3, p3, rfl, h3, l3, d3, q3, g3⟩
  replace B0 := B0.grown g3 n0
  go_wp2_with fail
  refine (mut_ds 4 w w3 _ p3 v3 x3 d3 (by omega) h3 l3 (by omega)).mono ?_
  rintro e w4 ⟨v4, x4, p4, rfl, h4, l4, d4, q4, g4⟩
  replace B0 := B0.grown g4 n0
  obtain ⟨a4, c4, rfl, _, _, _⟩ := h4.shape
  have lt4 := d4.rd.lt
  have d5 := d4.alloc (.cells #[.slice a4 x4.1.length c4, .int .i64 x4.2] 25)
  have h5 := h4.below ((Below.refl _ _).alloc (Nat.le_refl _) (.cells #[.slice a4 x4.1.length c4, .int .i64 x4.2] 25))
  have B9 := Box2.new w4 (.slice a4 x4.1.length c4) (.int .i64 x4.2) 25
  have n9 : some (w.heap.size + 1) ≠ some w4.heap.size := fun e => by have := Option.some.inj e; omega
  go_wp2_with fail
  replace B0 := B0.alloc (.cells #[.slice a4 x4.1.length c4, .int .i64 x4.2] 25)
  have L4 := hid l4
  have hsz5 : (w4.alloc (.cells #[.slice a4 x4.1.length c4, .int .i64 x4.2] 25)).heap.size = w4.heap.size + 1 := World.size_alloc _ _
  have Hsz5 := hid hsz5; clear hsz5
  generalize w4.alloc (.cells #[.slice a4 x4.1.length c4, .int .i64 x4.2] 25) = w5 at d5 h5 B9 Hsz5 B0
  have D5 := hid d5.drew
  have D5' := hid d5
  have H5 := hid (h5.below ((Below.refl _ _).drew))
  have H5' := hid h5
  obtain ⟨b0, b1, b2, b3, b4⟩ := B9
  replace B9 : Box2 w5 w4.heap.size _ _ := ⟨b0, b1, b2, b3, b4⟩
  have HB0 := hid B0
  have HB9 := hid B9
  clear h4 h3 l4 l3 d1 d3 d4 d5 g3 g4 h5 B0 B9
  go_region_with (go_at_call 33; refine (place_ds w _ _ p4 D5.out (by omega)).mono ?_; rintro e w8 ⟨v8, x8, p8, rfl, h8, l8, d8, q8, g8⟩; obtain ⟨a8, c8, rfl, _, _, _⟩ := h8.form; have D8 := hid d8; have H8 := hid h8; have L8 := hid l8; have HA8 := hid (affR_pa H5.out g8); have C0 := hid (HB0.out.drew.grown g8 n0); have C9 := hid (HB9.out.drew.grown g8 n9); obtain ⟨s0, s1, s2, s3, s4⟩ := C9.out; obtain ⟨t0, t1, t2, t3, t4⟩ := C0.out; clear d8 g8 h8 l8)
  all_goals
    have F1 := hid (affR_st (affR_st HA8.out w.heap.size 0 (.slice a4 x4.1.length c4) (by omega)) w.heap.size 1 (.int .i64 x4.2) (by omega))
    have F2 := hid (sl_st (sl_st H8.out w.heap.size 0 (.slice a4 x4.1.length c4) (by omega)) w.heap.size 1 (.int .i64 x4.2) (by omega))
    have F3 := hid ((D8.out.bel.setCell (p := ⟨w.heap.size, 0, none⟩) (Nat.le_refl _) (.slice a4 x4.1.length c4)).setCell (p := ⟨w.heap.size, 1, none⟩) (Nat.le_refl _) (.int .i64 x4.2))
    go_wp2_with fail
    refine bodyPost_ret (v := .tuple #[.agg #[.slice a4 x4.1.length c4, .int .i64 x4.2], .slice a8 x8.length c8]) (by simp [results, Tryd.results12, go_sem, t0, t1, t4]) rfl ?_
    exact ⟨_, _, x4, x8, rfl, F1.out.mono (fun b (h : w.heap.size + 1 < b) _ => by omega), F2.out.mono (fun b (h : w.heap.size + 1 < b) _ => by omega), L4.out, L8.out, F3.out⟩
end Go.Proofs.YtkhlaphegnldeaaDoor
