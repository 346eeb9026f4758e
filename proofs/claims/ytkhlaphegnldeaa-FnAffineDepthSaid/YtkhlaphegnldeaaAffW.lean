/- Affine expressions drawn from bytes; condition: what the slice of bytes holds. -/
import Derived.Test.YtkhlaphegnldeaaAffDm
import Derived.Test.YtkhlaphegnldeaaPlace
namespace Go.Proofs.Ytkhlaphegnldeaa
set_option linter.unusedVariables false
set_option linter.unusedSimpArgs false
open Go.RowKit

/-- Memory behind the reader. -/
def PA (g : Nat) : Nat → Prop := fun b => g < b
/-- The reader stands in block g, asked p times; what was there ahead of w is as it was. -/
structure DS (w : World) (g p : Nat) (wk : World) : Prop where
  rd : Rd wk g p
  bel : Below w.heap.size w wk
  le : w.heap.size ≤ g
theorem DS.below {w w1 w2 : World} {g p : Nat} (h : DS w g p w1) (hb : Below w1.heap.size w1 w2) : DS w g p w2 :=
  ⟨h.rd.below hb, h.bel.trans (hb.mono h.bel.size), h.le⟩
theorem DS.drew {w w1 : World} {g p : Nat} (h : DS w g p w1) : DS w g p w1.drew := h.below ((Below.refl _ _).drew)
theorem DS.alloc {w w1 : World} {g p : Nat} (h : DS w g p w1) (o : Obj) : DS w g p (w1.alloc o) := h.below ((Below.refl _ _).alloc (Nat.le_refl _) o)
theorem DS.grown {w w1 w2 : World} {g p p' : Nat} (h : DS w g p w1) (hr : Rd w2 g p') (hg : w1.grownBy w2 (some g)) : DS w g p' w2 :=
  ⟨hr, h.bel.grown hg h.bel.size (fun k hk => by cases hk; exact h.le), h.le⟩
theorem open_ds (a : Option Addr) (n c : Nat) (bs : List Int) (w w0 : World) (hb : Below w.heap.size w w0) (hx : Sl Sh.byte (fun b => b < w.heap.size) w (.slice a n c) bs) (hbs : ∀ x ∈ bs, 0 ≤ x ∧ x ≤ 255) :
    Calls Try.prog 37 #[.slice a n c] w0 fun e w' => e = .returned (.pointer (some ⟨w0.heap.size, 0, none⟩)) ∧ DS w w0.heap.size 0 w' ∧ Below w0.heap.size w0 w' := by
  refine (l16Open_any a n c bs w0 ((hx.below hb).mono fun b h _ => Nat.lt_of_lt_of_le h hb.size) hbs).mono ?_
  rintro e w1 ⟨rfl, r1, b1⟩
  exact ⟨rfl, ⟨r1, hb.trans (b1.mono hb.size), hb.size⟩, b1⟩
def DrewA (m q : Nat) (w : World) (g p : Nat) (w1 : World) (e : Ending) (w2 : World) : Prop :=
  ∃ v x p', e = .returned v ∧ AffR (PA g) w2 v x ∧ x.1.length ≤ m ∧ DS w g p' w2 ∧ p' ≤ p + q ∧ w1.grownBy w2 (some g)
theorem affO_pa {w w1 w2 : World} {g p : Nat} {v : Value} {x : Aff} {m : Nat} (h : DS w g p w1) (ho : AffO w1.heap.size w2 v x) (hl : x.1.length ≤ m) (hm : m ≤ 1000000) : AffR (PA g) w2 v x :=
  (ho.r (by omega)).mono fun b hb _ => Nat.lt_of_lt_of_le h.rd.lt hb
theorem affR_pa {w1 w2 : World} {g : Nat} {v : Value} {x : Aff} (h : AffR (PA g) w1 v x) (hg : w1.grownBy w2 (some g)) : AffR (PA g) w2 v x := h.grown hg fun b hb e => by have h5 : g < b := hb; have h6 := Option.some.inj e; omega
theorem affR_st {w1 : World} {g : Nat} {v : Value} {x : Aff} (h : AffR (PA g) w1 v x) (b o : Nat) (u : Value) (hb : b ≤ g) : AffR (PA g) (w1.setCell ⟨b, o, none⟩ u) v x := h.grown (setCell_grown w1 ⟨b, o, none⟩ u) fun k hk e => by have h5 : g < k := hk; have h6 : b = k := Option.some.inj e; omega
theorem draw_ds (w w1 : World) (g p d : Nat) (h : DS w g p w1) (hp : p < 1000000) (hd : d ≤ 4) :
    Calls Try.prog 39 #[.pointer (some ⟨g, 0, none⟩), .int .i64 d] w1 (DrewA 4 5 w g p w1) := by
  refine (l1Draw_any g p d w1 h.rd hp hd).mono ?_
  rintro e w2 ⟨v, x, p', rfl, ho, hl, hr, hp', hg⟩
  exact ⟨v, x, p', rfl, affO_pa h ho hl (by omega), hl, h.grown hr hg, hp', hg⟩
theorem mut_ds (m : Nat) (w w1 : World) (g p : Nat) (v : Value) (x : Aff) (h : DS w g p w1) (hp : p < 1000000) (hx : AffR (PA g) w1 v x) (hl : x.1.length ≤ m) (hm : m ≤ 999) :
    Calls Try.prog 38 #[.pointer (some ⟨g, 0, none⟩), v] w1 (DrewA (m + 1) 2 w g p w1) := by
  refine (l1Mutate_any (PA g) g p v x w1 h.rd hp hx (fun b hb => by have h5 : g < b := hb; omega) (by omega)).mono ?_
  rintro e w2 ⟨v, y, p', rfl, ho, hl', hr, hp', hg⟩
  exact ⟨v, y, p', rfl, affO_pa h ho (Nat.le_trans hl' (Nat.succ_le_succ hl)) (by omega), Nat.le_trans hl' (Nat.succ_le_succ hl), h.grown hr hg, hp', hg⟩
theorem pick_ds (w w1 : World) (g p : Nat) (m : Int) (h : DS w g p w1) (hp : p < 1000000) (hm : 1 ≤ m) :
    Calls Try.prog 44 #[.pointer (some ⟨g, 0, none⟩), .int .i64 m] w1 fun e w2 => ∃ k : Nat, e = .returned (.int .i64 k) ∧ (k : Int) < m ∧ DS w g (p + 1) w2 ∧ w1.grownBy w2 (some g) := by
  refine (pick_any g p m w1 h.rd (by omega)).mono ?_
  rintro e w2 ⟨k, rfl, h0, h1, _, hr, hg⟩
  exact ⟨k.toNat, by rw [Int.toNat_of_nonneg h0], by have := h1 hm; omega, h.grown hr hg, hg⟩

set_option maxHeartbeats 1600000 in
theorem drawAV_any (a : Option Addr) (n c : Nat) (bs : List Int) (w : World) (hx : Sl Sh.byte (fun b => b < w.heap.size) w (.slice a n c) bs) (hbs : ∀ x ∈ bs, 0 ≤ x ∧ x ≤ 255) :
    Calls Try.prog 27 #[.slice a n c] w fun e w' => ∃ v x, e = .returned v ∧ AffR (fun b => w.heap.size ≤ b) w' v x ∧ x.1.length ≤ 5 ∧ Below w.heap.size w w' := by
  have Hbs := hid hbs; clear hbs
  have hb0 := (Below.refl w.heap.size w).alloc (by simp) (.cells #[.slice none 0 0, .int .i64 0] 25)
  have B0 := (Box2.new w (.slice none 0 0) (.int .i64 0) 25)
  go_enter Try.func27, Try.ntmps27
  go_wp2_with fail
  refine (open_ds a n c bs w _ hb0 hx Hbs.out).mono ?_
  rintro e w1 ⟨rfl, d1, b1⟩
  replace B0 := B0.below b1
  rw [World.size_alloc] at d1 ⊢
  have n0 : some (w.heap.size + 1) ≠ some (w.heap.size) := fun e => by have := Option.some.inj e; omega
  clear b1 hx hb0
  go_wp2_with fail
  refine (pick_ds w w1 _ 0 5 d1 (by omega) (by omega)).mono ?_
  rintro e w2 ⟨k2, rfl, hk2, d2, g2⟩
  replace B0 := B0.grown g2 n0
  go_wp2_with fail
  refine (draw_ds w w2 _ 1 k2 d2 (by omega) (by omega)).mono ?_
  rintro e w3 ⟨v3, x3, p3, rfl, h3, l3, d3, q3, g3⟩
  replace B0 := B0.grown g3 n0
  go_wp2_with fail
  refine (mut_ds 4 w w3 _ p3 v3 x3 d3 (by omega) h3 l3 (by omega)).mono ?_
  rintro e w4 ⟨v4, x4, p4, rfl, h4, l4, d4, q4, g4⟩
  replace B0 := B0.grown g4 n0
  obtain ⟨a4, c4, rfl, _, _, _⟩ := h4.shape
  obtain ⟨t0, t1, _, _, t4⟩ := B0
  have hr := (affR_st (affR_st h4 w.heap.size 0 (.slice a4 x4.1.length c4) (by omega)) w.heap.size 1 (.int .i64 x4.2) (by omega)).mono (Q := fun b => w.heap.size ≤ b) fun b (h : w.heap.size + 1 < b) _ => by omega
  have hb := ((d4.bel.setCell (p := ⟨w.heap.size, 0, none⟩) (Nat.le_refl _) (.slice a4 x4.1.length c4)).setCell (p := ⟨w.heap.size, 1, none⟩) (Nat.le_refl _) (.int .i64 x4.2))
  have Hr := hid hr; have Hb := hid hb; have l5 := hid l4
  clear hr hb h4 h3 l4 d1 d2 d3 d4 g2 g3 g4
  go_wp2_with fail
  refine bodyPost_ret (v := .agg #[.slice a4 x4.1.length c4, .int .i64 x4.2]) (by simp [results, Try.results27, go_sem, t0, t1, t4]) rfl ?_
  exact ⟨_, x4, rfl, Hr.out, l5.out, Hb.out⟩
set_option maxHeartbeats 800000 in
theorem drawAD_any (a : Option Addr) (n c : Nat) (bs : List Int) (w : World) (hx : Sl Sh.byte (fun b => b < w.heap.size) w (.slice a n c) bs) (hbs : ∀ x ∈ bs, 0 ≤ x ∧ x ≤ 255) :
    Calls Try.prog 10 #[.slice a n c] w fun e w' => ∃ v x, e = .returned v ∧ AffR (fun b => w.heap.size ≤ b) w' v x ∧ x.1.length ≤ 5 ∧ Below w.heap.size w w' := by
  have Hbs := hid hbs; clear hbs
  have hb := (Below.refl w.heap.size w).alloc (Nat.le_refl _) (.cells #[.slice none 0 0, .int .i64 0] 25)
  have B := Box2.new w (.slice none 0 0) (.int .i64 0) 25
  have hx' := (hx.alloc (.cells #[.slice none 0 0, .int .i64 0] 25)).mono (Q := fun b => b < (w.alloc (.cells #[.slice none 0 0, .int .i64 0] 25)).heap.size) fun b _ h => h
  go_enter Try.func10, Try.ntmps10
  go_wp2_with fail
  generalize w.alloc (.cells #[.slice none 0 0, .int .i64 0] 25) = W at hb B hx'
  refine (drawAV_any a n c bs W hx' Hbs.out).mono ?_
  rintro e w1 ⟨v, x, rfl, h, l, b⟩
  obtain ⟨a4, c4, rfl, _, _, hs⟩ := h.shape
  obtain ⟨t0, t1, _, _, t4⟩ := B.below b
  have hlt := B.lt
  have hsz := hb.size
  have Hr := hid (((hs.store (p := ⟨w.heap.size, 0, none⟩) (u := .slice a4 x.1.length c4) (fun h => by have h5 : W.heap.size ≤ w.heap.size := h; omega)).store (p := ⟨w.heap.size, 1, none⟩) (u := .int .i64 x.2) (fun h => by have h5 : W.heap.size ≤ w.heap.size := h; omega)).mono (Q := fun b => w.heap.size ≤ b) fun b (h : W.heap.size ≤ b) _ => Nat.le_trans hsz h)
  have Hb := hid (((hb.trans (b.mono hsz)).setCell (p := ⟨w.heap.size, 0, none⟩) (Nat.le_refl _) (.slice a4 x.1.length c4)).setCell (p := ⟨w.heap.size, 1, none⟩) (Nat.le_refl _) (.int .i64 x.2))
  have Hl := hid l
  clear h l b hs hb hx hx'
  go_wp2_with fail
  refine bodyPost_ret (v := .agg #[.slice a4 x.1.length c4, .int .i64 x.2]) (by simp [results, Try.results10, go_sem, t0, t1, t4]) rfl ?_
  exact ⟨_, x, rfl, ⟨_, rfl, Hr.out⟩, Hl.out, Hb.out⟩
set_option maxHeartbeats 3200000 in
theorem drawAdd_any (a : Option Addr) (n c : Nat) (bs : List Int) (w : World) (hx : Sl Sh.byte (fun b => b < w.heap.size) w (.slice a n c) bs) (hbs : ∀ x ∈ bs, 0 ≤ x ∧ x ≤ 255) :
    Calls Try.prog 22 #[.slice a n c] w fun e w' => ∃ v u x y, e = .returned (.tuple #[v, u]) ∧ AffR (fun b => w.heap.size ≤ b) w' v x ∧ AffR (fun b => w.heap.size ≤ b) w' u y ∧ x.1.length ≤ 5 ∧ y.1.length ≤ 5 ∧ Below w.heap.size w w' := by
  have Hbs := hid hbs; clear hbs
  have hb0 := (Below.refl w.heap.size w).alloc (by simp) (.cells #[.slice none 0 0, .int .i64 0] 25)
  have hb1 := hb0.alloc (by simp) (.cells #[.slice none 0 0, .int .i64 0] 25)
  have B0 := ((Box2.new w (.slice none 0 0) (.int .i64 0) 25).alloc (.cells #[.slice none 0 0, .int .i64 0] 25))
  have B1 := (Box2.new (w.alloc (.cells #[.slice none 0 0, .int .i64 0] 25)) (.slice none 0 0) (.int .i64 0) 25)
  rw [World.size_alloc] at B1
  go_enter Try.func22, Try.ntmps22
  go_wp2_with fail
  refine (open_ds a n c bs w _ hb1 hx Hbs.out).mono ?_
  rintro e w1 ⟨rfl, d1, b1⟩
  replace B0 := B0.below b1
  replace B1 := B1.below b1
  rw [World.size_alloc, World.size_alloc] at d1 ⊢
  have n0 : some (w.heap.size + 1 + 1) ≠ some (w.heap.size) := fun e => by have := Option.some.inj e; omega
  have n1 : some (w.heap.size + 1 + 1) ≠ some (w.heap.size + 1) := fun e => by have := Option.some.inj e; omega
  clear b1 hx hb0 hb1
  go_wp2_with fail
  refine (pick_ds w w1 _ 0 5 d1 (by omega) (by omega)).mono ?_
  rintro e w2 ⟨k2, rfl, hk2, d2, g2⟩
  replace B0 := B0.grown g2 n0
  replace B1 := B1.grown g2 n1
  go_wp2_with fail
  refine (draw_ds w w2 _ 1 k2 d2 (by omega) (by omega)).mono ?_
  rintro e w3 ⟨v3, x3, p3, rfl, h3, l3, d3, q3, g3⟩
  replace B0 := B0.grown g3 n0
  replace B1 := B1.grown g3 n1
  go_wp2_with fail
  refine (mut_ds 4 w w3 _ p3 v3 x3 d3 (by omega) h3 l3 (by omega)).mono ?_
  rintro e w4 ⟨v4, x4, p4, rfl, h4, l4, d4, q4, g4⟩
  replace B0 := B0.grown g4 n0
  replace B1 := B1.grown g4 n1
  obtain ⟨a4, c4, rfl, _, _, _⟩ := h4.shape
  have lt4 := d4.rd.lt
  have d5 := d4.alloc (.cells #[.slice a4 x4.1.length c4, .int .i64 x4.2] 25)
  have h5 := h4.below ((Below.refl _ _).alloc (Nat.le_refl _) (.cells #[.slice a4 x4.1.length c4, .int .i64 x4.2] 25))
  have B9 := Box2.new w4 (.slice a4 x4.1.length c4) (.int .i64 x4.2) 25
  have n9 : some (w.heap.size + 1 + 1) ≠ some w4.heap.size := fun e => by have := Option.some.inj e; omega
  go_wp2_with fail
  replace B0 := B0.alloc (.cells #[.slice a4 x4.1.length c4, .int .i64 x4.2] 25)
  replace B1 := B1.alloc (.cells #[.slice a4 x4.1.length c4, .int .i64 x4.2] 25)
  have L4 := hid l4
  generalize w4.alloc (.cells #[.slice a4 x4.1.length c4, .int .i64 x4.2] 25) = w5 at d5 h5 B9 B0 B1
  have D5 := hid d5.drew
  have H5 := hid (h5.below ((Below.refl _ _).drew))
  obtain ⟨b0, b1, b2, b3, b4⟩ := B9
  replace B9 : Box2 w5 w4.heap.size _ _ := ⟨b0, b1, b2, b3, b4⟩
  have HB0 := hid B0; have HB1 := hid B1; have HB9 := hid B9
  clear h4 h3 l4 l3 d1 d2 d3 d4 d5 g2 g3 g4 h5 B0 B1 B9
  go_region_with (first
    | (go_at_call 44; refine (pick_ds w _ _ p4 5 D5.out (by omega) (by omega)).mono ?_; rintro e w6 ⟨k6, rfl, hk6, d6, g6⟩; have D6 := hid d6; have H6 := hid (affR_pa H5.out g6); have C0g6 := hid (HB0.out.drew.grown g6 n0); have C1g6 := hid (HB1.out.drew.grown g6 n1); have C9g6 := hid (HB9.out.drew.grown g6 n9); obtain ⟨s0, s1, s2, s3, s4⟩ := C9g6.out; have K6 := hid hk6; clear d6 g6 hk6)
    | (go_at_call 39; refine (draw_ds w _ _ (p4 + 1) k6 D6.out (by omega) (by have := K6.out; omega)).mono ?_; rintro e w7 ⟨v7, x7, p7, rfl, h7, l7, d7, q7, g7⟩; have D7 := hid d7; have H7 := hid h7; have L7 := hid l7; have HA7 := hid (affR_pa H6.out g7); have C0g7 := hid (C0g6.out.grown g7 n0); have C1g7 := hid (C1g6.out.grown g7 n1); have C9g7 := hid (C9g6.out.grown g7 n9); obtain ⟨s0, s1, s2, s3, s4⟩ := C9g7.out; clear d7 h7 l7 g7)
    | (go_at_call 38; refine (mut_ds 4 w _ _ p7 v7 x7 D7.out (by omega) H7.out L7.out (by omega)).mono ?_; rintro e w8 ⟨v8, x8, p8, rfl, h8, l8, d8, q8, g8⟩; obtain ⟨a8, c8, rfl, _, _, _⟩ := h8.shape; have D8 := hid d8; have H8 := hid h8; have L8 := hid l8; have HA8 := hid (affR_pa HA7.out g8); have C0g8 := hid (C0g7.out.grown g8 n0); have C1g8 := hid (C1g7.out.grown g8 n1); have C9g8 := hid (C9g7.out.grown g8 n9); obtain ⟨s0, s1, s2, s3, s4⟩ := C9g8.out; obtain ⟨t0, t1, t2, t3, t4⟩ := C0g8.out; obtain ⟨r0, r1, r2, r3, r4⟩ := C1g8.out; clear d8 h8 l8 g8))
  all_goals
    have hw := D8.out.rd.lt
    have F1 := hid (affR_st (affR_st (affR_st (affR_st HA8.out w.heap.size 0 (.slice a4 x4.1.length c4) (by omega)) w.heap.size 1 (.int .i64 x4.2) (by omega)) (w.heap.size + 1) 0 (.slice a8 x8.1.length c8) (by omega)) (w.heap.size + 1) 1 (.int .i64 x8.2) (by omega))
    have F2 := hid (affR_st (affR_st (affR_st (affR_st H8.out w.heap.size 0 (.slice a4 x4.1.length c4) (by omega)) w.heap.size 1 (.int .i64 x4.2) (by omega)) (w.heap.size + 1) 0 (.slice a8 x8.1.length c8) (by omega)) (w.heap.size + 1) 1 (.int .i64 x8.2) (by omega))
    have F3 := hid ((((D8.out.bel.setCell (p := ⟨w.heap.size, 0, none⟩) (Nat.le_refl _) (.slice a4 x4.1.length c4)).setCell (p := ⟨w.heap.size, 1, none⟩) (Nat.le_refl _) (.int .i64 x4.2)).setCell (p := ⟨w.heap.size + 1, 0, none⟩) (Nat.le_succ _) (.slice a8 x8.1.length c8)).setCell (p := ⟨w.heap.size + 1, 1, none⟩) (Nat.le_succ _) (.int .i64 x8.2))
    go_wp2_with fail
    refine bodyPost_ret (v := .tuple #[.agg #[.slice a4 x4.1.length c4, .int .i64 x4.2], .agg #[.slice a8 x8.1.length c8, .int .i64 x8.2]]) (by simp [results, Try.results22, go_sem, t0, t1, t4, r0, r1, r4]) rfl ?_
    exact ⟨_, _, x4, x8, rfl, F1.out.mono (fun b (h : w.heap.size + 1 + 1 < b) _ => by omega), F2.out.mono (fun b (h : w.heap.size + 1 + 1 < b) _ => by omega), L4.out, L8.out, F3.out⟩
theorem num_ds (w w1 : World) (g p b n : Nat) (vs : List Int) (cells : Array Value) (h : DS w g p w1) (hp : p < 1000000) (hb : b = w1.heap.size) (hc : cells = (vs.map (Value.int .i64)).toArray) (hn : n = vs.length) (h0 : 0 < n) (hs : n ≤ 1000) :
    Calls Try.prog 43 #[.pointer (some ⟨g, 0, none⟩), .slice (some ⟨b, 0, none⟩) n n] (w1.alloc (.cells cells 3)) fun e w2 => ∃ k : Int, e = .returned (.int .i64 k) ∧ k ∈ vs ∧ DS w g (p + 1) w2 ∧ w1.grownBy w2 (some g) := by
  refine (num_lit g p b n vs cells w1 h.rd (by omega) hb hc hn h0 hs).mono ?_
  rintro e w2 ⟨k, rfl, hk, hr, hg⟩
  exact ⟨k, rfl, hk, h.grown hr hg, hg⟩
theorem num_dsD (w w1 : World) (g p b n : Nat) (vs : List Int) (cells : Array Value) (h : DS w g p w1) (hp : p < 1000000) (hb : b = w1.heap.size) (hc : cells = (vs.map (Value.int .i64)).toArray) (hn : n = vs.length) (h0 : 0 < n) (hs : n ≤ 1000) :
    Calls Try.prog 43 #[.pointer (some ⟨g, 0, none⟩), .slice (some ⟨b, 0, none⟩) n n] (w1.alloc (.cells cells 3)).drew fun e w2 => ∃ k : Int, e = .returned (.int .i64 k) ∧ k ∈ vs ∧ DS w g (p + 1) w2 ∧ w1.grownBy w2 (some g) := by
  refine (num_litD g p b n vs cells w1 h.rd (by omega) hb hc hn h0 hs).mono ?_
  rintro e w2 ⟨k, rfl, hk, hr, hg⟩
  exact ⟨k, rfl, hk, h.grown hr hg, hg⟩
theorem place_ds (w w1 : World) (g p : Nat) (h : DS w g p w1) (hp : p < 1000000) :
    Calls Try.prog 40 #[.pointer (some ⟨g, 0, none⟩)] w1 fun e w2 => ∃ v xs p', e = .returned v ∧ Sl Sh.int (PA g) w2 v xs ∧ xs.length ≤ 6 ∧ DS w g p' w2 ∧ p' ≤ p + 7 ∧ w1.grownBy w2 (some g) := by
  refine (l1Place_any g p w1 h.rd hp).mono ?_
  rintro e w2 ⟨v, xs, p', rfl, ho, hl, hr, hp', hg⟩
  exact ⟨v, xs, p', rfl, (ho.sl (by omega)).mono (fun b hb _ => Nat.lt_of_lt_of_le h.rd.lt (ho.lt b hb).1), hl, h.grown hr hg, hp', hg⟩
theorem sl_pa {w1 w2 : World} {g : Nat} {v : Value} {xs : List Int} (h : Sl Sh.int (PA g) w1 v xs) (hg : w1.grownBy w2 (some g)) : Sl Sh.int (PA g) w2 v xs := h.grown hg fun b hb e => by have h5 : g < b := hb; have h6 := Option.some.inj e; omega
theorem sl_st {w1 : World} {g : Nat} {v : Value} {xs : List Int} (h : Sl Sh.int (PA g) w1 v xs) (b o : Nat) (u : Value) (hb : b ≤ g) : Sl Sh.int (PA g) (w1.setCell ⟨b, o, none⟩ u) v xs := h.grown (setCell_grown w1 ⟨b, o, none⟩ u) fun k hk e => by have h5 : g < k := hk; have h6 : b = k := Option.some.inj e; omega

set_option maxHeartbeats 3200000 in
theorem drawEval_any (a : Option Addr) (n c : Nat) (bs : List Int) (w : World) (hx : Sl Sh.byte (fun b => b < w.heap.size) w (.slice a n c) bs) (hbs : ∀ x ∈ bs, 0 ≤ x ∧ x ≤ 255) :
    Calls Try.prog 15 #[.slice a n c] w fun e w' => ∃ v u x xs, e = .returned (.tuple #[v, u]) ∧ AffR (fun b => w.heap.size ≤ b) w' v x ∧ Sl Sh.int (fun b => w.heap.size ≤ b) w' u xs ∧ x.1.length ≤ 5 ∧ xs.length ≤ 6 ∧ Below w.heap.size w w' := by
  have Hbs := hid hbs; clear hbs
  have hb0 := (Below.refl w.heap.size w).alloc (by simp) (.cells #[.slice none 0 0, .int .i64 0] 25)
  have B0 := (Box2.new w (.slice none 0 0) (.int .i64 0) 25)
  go_enter Try.func15, Try.ntmps15
  go_wp2_with fail
  refine (open_ds a n c bs w _ hb0 hx Hbs.out).mono ?_
  rintro e w1 ⟨rfl, d1, b1⟩
  replace B0 := B0.below b1
  rw [World.size_alloc] at d1 ⊢
  have n0 : some (w.heap.size + 1) ≠ some (w.heap.size) := fun e => by have := Option.some.inj e; omega
  clear b1 hx hb0
  go_wp2_with fail
  refine (draw_ds w w1 _ 0 4 d1 (by omega) (by omega)).mono ?_
  rintro e w3 ⟨v3, x3, p3, rfl, h3, l3, d3, q3, g3⟩
  replace B0 := B0.grown g3 n0
  go_wp2_with fail
  refine (mut_ds 4 w w3 _ p3 v3 x3 d3 (by omega) h3 l3 (by omega)).mono ?_
  rintro e w4 ⟨v4, x4, p4, rfl, h4, l4, d4, q4, g4⟩
  replace B0 := B0.grown g4 n0
  obtain ⟨a4, c4, rfl, _, _, _⟩ := h4.shape
  have lt4 := d4.rd.lt
  have d5 := d4.alloc (.cells #[.slice a4 x4.1.length c4, .int .i64 x4.2] 25)
  have h5 := h4.below ((Below.refl _ _).alloc (Nat.le_refl _) (.cells #[.slice a4 x4.1.length c4, .int .i64 x4.2] 25))
  have B9 := Box2.new w4 (.slice a4 x4.1.length c4) (.int .i64 x4.2) 25
  have n9 : some (w.heap.size + 1) ≠ some w4.heap.size := fun e => by have := Option.some.inj e; omega
  go_wp2_with fail
  replace B0 := B0.alloc (.cells #[.slice a4 x4.1.length c4, .int .i64 x4.2] 25)
  have L4 := hid l4
  have hsz5 : (w4.alloc (.cells #[.slice a4 x4.1.length c4, .int .i64 x4.2] 25)).heap.size = w4.heap.size + 1 := World.size_alloc _ _
  have Hsz5 := hid hsz5; clear hsz5
  generalize w4.alloc (.cells #[.slice a4 x4.1.length c4, .int .i64 x4.2] 25) = w5 at d5 h5 B9 Hsz5 B0
  have D5 := hid d5.drew
  have D5' := hid d5
  have H5 := hid (h5.below ((Below.refl _ _).drew))
  have H5' := hid h5
  obtain ⟨b0, b1, b2, b3, b4⟩ := B9
  replace B9 : Box2 w5 w4.heap.size _ _ := ⟨b0, b1, b2, b3, b4⟩
  have HB0 := hid B0
  have HB9 := hid B9
  clear h4 h3 l4 l3 d1 d3 d4 d5 g3 g4 h5 B0 B9
  go_region_with (go_at_call 40; refine (place_ds w _ _ p4 D5.out (by omega)).mono ?_; rintro e w8 ⟨v8, x8, p8, rfl, h8, l8, d8, q8, g8⟩; obtain ⟨a8, c8, rfl, _, _, _⟩ := h8.form; have D8 := hid d8; have H8 := hid h8; have L8 := hid l8; have HA8 := hid (affR_pa H5.out g8); have C0 := hid (HB0.out.drew.grown g8 n0); have C9 := hid (HB9.out.drew.grown g8 n9); obtain ⟨s0, s1, s2, s3, s4⟩ := C9.out; obtain ⟨t0, t1, t2, t3, t4⟩ := C0.out; clear d8 g8 h8 l8)
  all_goals
    have F1 := hid (affR_st (affR_st HA8.out w.heap.size 0 (.slice a4 x4.1.length c4) (by omega)) w.heap.size 1 (.int .i64 x4.2) (by omega))
    have F2 := hid (sl_st (sl_st H8.out w.heap.size 0 (.slice a4 x4.1.length c4) (by omega)) w.heap.size 1 (.int .i64 x4.2) (by omega))
    have F3 := hid ((D8.out.bel.setCell (p := ⟨w.heap.size, 0, none⟩) (Nat.le_refl _) (.slice a4 x4.1.length c4)).setCell (p := ⟨w.heap.size, 1, none⟩) (Nat.le_refl _) (.int .i64 x4.2))
    go_wp2_with fail
    refine bodyPost_ret (v := .tuple #[.agg #[.slice a4 x4.1.length c4, .int .i64 x4.2], .slice a8 x8.length c8]) (by simp [results, Try.results15, go_sem, t0, t1, t4]) rfl ?_
    exact ⟨_, _, x4, x8, rfl, F1.out.mono (fun b (h : w.heap.size + 1 < b) _ => by omega), F2.out.mono (fun b (h : w.heap.size + 1 < b) _ => by omega), L4.out, L8.out, F3.out⟩
end Go.Proofs.Ytkhlaphegnldeaa
