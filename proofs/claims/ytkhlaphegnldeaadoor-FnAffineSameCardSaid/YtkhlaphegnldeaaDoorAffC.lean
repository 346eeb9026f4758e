/- Affine expressions that are made: constants, copies; condition: what the arguments hold. -/
import Derived.Test.YtkhlaphegnldeaaDoorAffS
import Derived.Deep.RegionHeld3
namespace Go.Proofs.YtkhlaphegnldeaaDoor
set_option linter.unusedVariables false
set_option linter.unusedSimpArgs false
open Go.RowKit

/-- An affine expression whose coefficients are the call's own. -/
def AffO (B : Nat) (w : World) (v : Value) (x : Aff) : Prop := ∃ va, v = .agg #[va, .int .i64 x.2] ∧ OwnI B w va x.1
theorem AffO.r {B : Nat} {w : World} {v : Value} {x : Aff} (h : AffO B w v x) (hn : x.1.length ≤ 17592186044416) : AffR (fun b => B ≤ b) w v x := by
  obtain ⟨va, e, ho⟩ := h
  exact ⟨va, e, (ho.sl hn).mono fun b hb _ => (ho.lt b hb).1⟩
theorem AffO.any {B : Nat} {w : World} {v : Value} {x : Aff} (h : AffO B w v x) (hn : x.1.length ≤ 17592186044416) : AffR (fun _ => True) w v x := (h.r hn).any
theorem AffO.below {B : Nat} {w w' : World} {v : Value} {x : Aff} (h : AffO B w v x) (hb : Below w.heap.size w w') : AffO B w' v x := by
  obtain ⟨va, e, ho⟩ := h
  exact ⟨va, e, ho.below hb⟩
theorem AffO.base {B B' : Nat} {w : World} {v : Value} {x : Aff} (h : AffO B w v x) (hB : B' ≤ B) : AffO B' w v x := by
  obtain ⟨va, e, ho⟩ := h
  exact ⟨va, e, ho.base hB⟩
theorem AffO.grown {B : Nat} {w w' : World} {v : Value} {x : Aff} {r : Option Nat} (h : AffO B w v x) (hg : w.grownBy w' r) (hr : ∀ g, r = some g → g < B) : AffO B w' v x := by
  obtain ⟨va, e, ho⟩ := h
  exact ⟨va, e, ho.grown hg (fun g hg e => by have := hr g hg; have := (ho.lt g e).1; omega)⟩
theorem AffO.zero (B : Nat) (w : World) : AffO B w (.agg #[.slice none 0 0, .int .i64 0]) ([], 0) := ⟨_, rfl, OwnI.nil _ _⟩
/-- The call hands back the expression x, in memory of its own. -/
def RetAff (x : Aff) (w : World) (e : Ending) (w' : World) : Prop := ∃ v, e = .returned v ∧ AffO w.heap.size w' v x ∧ Below w.heap.size w w'

/-- A list of numbers, in memory of the call's own. -/
def RetInts (xs : List Int) (w : World) (e : Ending) (w' : World) : Prop := ∃ v, e = .returned v ∧ OwnI w.heap.size w' v xs ∧ Below w.heap.size w w'
set_option maxHeartbeats 800000 in
theorem clone_any (P : Nat → Prop) (a : Option Addr) (n c : Nat) (xs : List Int) (w : World) (hx : Sl Sh.int P w (.slice a n c) xs) (hn : n ≤ 4294967296) :
    Calls Tryd.prog 46 #[.slice a n c] w (RetInts xs w) := by
  have heq := fun (w : World) => Lib.run_eql_slice_nil (P := Tryd.prog) w 23 3 a n c 0 0 Tryd.underlying23
  cases a with
  | none =>
    have hx0 : xs = [] := by
      cases xs with
      | nil => rfl
      | cons x xs => obtain ⟨b, off, e, _⟩ := hx.at (by have := hx.len; simp at this; omega); cases e
    subst hx0
    go_enter Tryd.func46, Tryd.ntmps46
    go_wp2
    go_ret
    exact ⟨_, rfl, OwnI.nil _ _, Below.refl _ _⟩
  | some ad =>
    have hx' := hx.alloc (.cells #[] 3)
    have hx2 : Sl Sh.int (fun b => b < w.heap.size) (w.alloc (.cells #[] 3)) (.slice (some ad) n c) xs := ((hx.mono (Q := fun b => b < w.heap.size) fun b _ hb => hb).alloc _)
    go_enter Tryd.func46, Tryd.ntmps46
    go_wp2_with (at_builtin; go_must (refine wpList_appSI _ rfl _ _ rfl w.heap.size _ [] rfl (OwnI.empty w (Nat.le_refl _)) _ _ _ xs (fun b => b < w.heap.size) rfl hx2 ?_ ?_ ?c1 ?c2))
    case c1 => simp; omega
    case c2 => simp
    · intro b hb _ e
      have := Option.some.inj e
      simp at this
      omega
    intro v' w' o g b _
    try rw [List.nil_append] at o
    have Hb := hid (((Below.refl w.heap.size w).alloc (Nat.le_refl _) (.cells #[] 3)).trans b)
    have Ho := hid o
    clear o g b
    go_wp2
    go_ret
    exact ⟨_, rfl, Ho.out, Hb.out⟩

theorem zero4 (w : World) : OwnI w.heap.size (w.alloc (.cells #[.int .i64 0, .int .i64 0, .int .i64 0, .int .i64 0] 3)) (.slice (some ⟨w.heap.size, 0, none⟩) 4 4) [0, 0, 0, 0] :=
  OwnI.made w [0, 0, 0, 0] (Nat.le_refl _) (by simp)
set_option maxHeartbeats 800000 in
theorem constant_any (n : Int) (w : World) : Calls Tryd.prog 27 #[.int .i64 n] w (RetAff ([0, 0, 0, 0], n) w) := by
  have hmk : ∀ w, (Instr.makeSlice 23 (.int .i64 4) (.int .i64 4)).run Tryd.prog w = .ok (.slice (some ⟨w.heap.size, 0, none⟩) 4 4) (w.alloc (.cells (madeCells #[.int .i64 0] 4) 3)) := run_make_ints 4 (by omega)
  go_enter Tryd.func27, Tryd.ntmps27
  go_wp2
  refine bodyPost_ret (v := .agg #[.slice (some ⟨w.heap.size + 1, 0, none⟩) 4 4, .int .i64 n]) (by simp [results, Tryd.results27, go_sem]) rfl ?_
  have ho := OwnI.zeros (B := w.heap.size) (w.alloc (.cells #[.slice (some ⟨w.heap.size + 1, 0, none⟩) 4 4, .int .i64 n] 25)) 4 (by simp) (by omega)
  rw [World.size_alloc] at ho
  exact ⟨_, rfl, ⟨_, rfl, ho⟩, ((Below.refl _ _).alloc (Nat.le_refl _) _).alloc (by simp) _⟩

/-- A block for a result of a struct of two fields that was laid ahead of a call: what is known of it behind the call. -/
theorem res_facts {w w1 : World} {u0 u1 : Value} {T : TypeId} (hb : Below (w.heap.size + 1) (w.alloc (.cells #[u0, u1] T)) w1) :
    w1.cell? ⟨w.heap.size, 0, none⟩ = some u0 ∧ w1.cell? ⟨w.heap.size, 1, none⟩ = some u1 ∧ w1.frozen? ⟨w.heap.size, 0, none⟩ = false ∧ w1.frozen? ⟨w.heap.size, 1, none⟩ = false ∧ w.heap.size < w1.heap.size := by
  have hn := heap_alloc_new w (.cells #[u0, u1] T)
  have hs := hb.size
  rw [World.size_alloc] at hs
  refine ⟨(hb.cell (p := ⟨w.heap.size, 0, none⟩) (by simp)).trans (cell_of_row _ _ 0 _ _ _ hn), (hb.cell (p := ⟨w.heap.size, 1, none⟩) (by simp)).trans (cell_of_row _ _ 1 _ _ _ hn), ?_, ?_, by omega⟩
  · rw [hb.frozen (p := ⟨w.heap.size, 0, none⟩) (by simp)]; unfold World.frozen?; rw [hn]; rfl
  · rw [hb.frozen (p := ⟨w.heap.size, 1, none⟩) (by simp)]; unfold World.frozen?; rw [hn]; rfl
theorem OwnI.store {B : Nat} {w : World} {v u : Value} {xs : List Int} {p : Addr} (h : OwnI B w v xs) (hne : v.ownBlock ≠ some p.block) : OwnI B (w.setCell p u) v xs :=
  h.grown (setCell_grown w p u) (fun g hg => by cases hg; exact hne)
theorem Sl.store {α : Type} {S : Sh α} {P : Nat → Prop} {w : World} {v u : Value} {xs : List α} {p : Addr} (h : Sl S P w v xs) (hne : ¬ P p.block) : Sl S P (w.setCell p u) v xs :=
  h.grown (setCell_grown w p u) (fun b hb e => hne (by cases e; exact hb))


set_option maxHeartbeats 800000 in
theorem l1Zero_any (w : World) : Calls Tryd.prog 32 #[] w (RetAff ([0, 0, 0, 0], 0) w) := by
  go_enter Tryd.func32, Tryd.ntmps32
  go_wp2
  refine bodyPost_ret (v := .agg #[.slice (some ⟨w.heap.size + 1, 0, none⟩) 4 4, .int .i64 0]) (by simp [results, Tryd.results32, go_sem]) rfl ?_
  have ho := OwnI.made (B := w.heap.size) (w.alloc (.cells #[.slice (some ⟨w.heap.size + 1, 0, none⟩) 4 4, .int .i64 0] 25)) [0, 0, 0, 0] (by simp) (by simp)
  rw [World.size_alloc] at ho
  exact ⟨_, rfl, ⟨_, rfl, ho⟩, ((Below.refl _ _).alloc (Nat.le_refl _) _).alloc (by simp) _⟩
set_option maxHeartbeats 1600000 in
theorem l1Const_any (n : Int) (w : World) : Calls Tryd.prog 36 #[.int .i64 n] w (RetAff ([0, 0, 0, 0], n) w) := by
  go_enter Tryd.func36, Tryd.ntmps36
  go_wp2_with fail
  refine (l1Zero_any _).mono ?_
  rintro e w1 ⟨v1, rfl, ⟨va, rfl, ho⟩, hb⟩
  rw [World.size_alloc] at ho hb
  obtain ⟨r0, r1, f0, f1, hsz⟩ := res_facts hb
  obtain ⟨a1, c1, rfl, hc1⟩ := ho.shape
  have hne : ∀ b, (Value.slice a1 4 c1).ownBlock = some b → b ≠ w.heap.size := fun b hb e => by have := (ho.lt b hb).1; omega
  have hset := ((ho.store (p := ⟨w.heap.size, 0, none⟩) (u := .slice a1 4 c1) (fun e => hne _ e rfl)).store (p := ⟨w.heap.size, 1, none⟩) (u := .int .i64 n) (fun e => hne _ e rfl)).alloc (.cells #[.slice a1 4 c1, .int .i64 n] 25)
  have Hset := hid hset
  have Hb := hid hb
  clear hset hb ho hne
  simp only [List.length_cons, List.length_nil, Nat.zero_add, Nat.reduceAdd] at *
  go_wp2_with fail
  refine bodyPost_ret (v := .agg #[.slice a1 4 c1, .int .i64 n]) (by simp [results, Tryd.results36, go_sem, r0, r1, hsz]) rfl ?_
  exact ⟨_, rfl, ⟨_, rfl, Hset.out.base (Nat.le_succ _)⟩, (((((Below.refl _ _).alloc (Nat.le_refl _) _).trans (Hb.out.mono (Nat.le_succ _))).setCell (by simp) _).setCell (by simp) _).alloc (by simp; omega) _⟩

/-- A block of two cells that is there, and not frozen. -/
structure Box2 (w : World) (g : Nat) (u0 u1 : Value) : Prop where
  c0 : w.cell? ⟨g, 0, none⟩ = some u0
  c1 : w.cell? ⟨g, 1, none⟩ = some u1
  f0 : w.frozen? ⟨g, 0, none⟩ = false
  f1 : w.frozen? ⟨g, 1, none⟩ = false
  lt : g < w.heap.size
theorem Box2.new (w : World) (u0 u1 : Value) (T : TypeId) : Box2 (w.alloc (.cells #[u0, u1] T)) w.heap.size u0 u1 := by
  have hn := heap_alloc_new w (.cells #[u0, u1] T)
  refine ⟨cell_of_row _ _ 0 _ _ _ hn, cell_of_row _ _ 1 _ _ _ hn, ?_, ?_, by simp⟩
  · unfold World.frozen?; rw [hn]; rfl
  · unfold World.frozen?; rw [hn]; rfl
theorem Box2.belowLt {w w' : World} {g D : Nat} {u0 u1 : Value} (h : Box2 w g u0 u1) (hb : Below D w w') (hD : g < D) : Box2 w' g u0 u1 :=
  ⟨(hb.cell (p := ⟨g, 0, none⟩) hD).trans h.c0, (hb.cell (p := ⟨g, 1, none⟩) hD).trans h.c1, (hb.frozen (p := ⟨g, 0, none⟩) hD).trans h.f0, (hb.frozen (p := ⟨g, 1, none⟩) hD).trans h.f1, Nat.lt_of_lt_of_le h.lt hb.size⟩
theorem Box2.below {w w' : World} {g : Nat} {u0 u1 : Value} (h : Box2 w g u0 u1) (hb : Below w.heap.size w w') : Box2 w' g u0 u1 := h.belowLt hb h.lt
theorem Box2.alloc {w : World} {g : Nat} {u0 u1 : Value} (h : Box2 w g u0 u1) (o : Obj) : Box2 (w.alloc o) g u0 u1 := h.below ((Below.refl _ _).alloc (Nat.le_refl _) o)
theorem Box2.drew {w : World} {g : Nat} {u0 u1 : Value} (h : Box2 w g u0 u1) : Box2 w.drew g u0 u1 := ⟨h.c0, h.c1, h.f0, h.f1, h.lt⟩
theorem Box2.quiet {w w' : World} {g : Nat} {u0 u1 : Value} (h : Box2 w g u0 u1) (hq : Quiet w w') : Box2 w' g u0 u1 := h.below (hq.below _)

set_option maxHeartbeats 1600000 in
theorem ownAff_any (P : Nat → Prop) (v : Value) (x : Aff) (w : World) (h : AffR P w v x) (hn : x.1.length ≤ 4294967296) : Calls Tryd.prog 42 #[v] w (RetAff x w) := by
  obtain ⟨a, c, rfl, h1, h2, hs⟩ := h.shape
  obtain ⟨co, k⟩ := x
  simp only at hs h1 h2 hn ⊢
  have hs' := (hs.alloc (.cells #[.slice a co.length c, .int .i64 k] 25)).alloc (.cells #[.slice none 0 0, .int .i64 0] 25)
  have B1 := (Box2.new w (.slice a co.length c) (.int .i64 k) 25).alloc (.cells #[.slice none 0 0, .int .i64 0] 25)
  have B2 := Box2.new (w.alloc (.cells #[.slice a co.length c, .int .i64 k] 25)) (.slice none 0 0) (.int .i64 0) 25
  rw [World.size_alloc] at B2
  have hb := ((Below.refl w.heap.size w).alloc (Nat.le_refl _) (.cells #[.slice a co.length c, .int .i64 k] 25)).alloc (by simp) (.cells #[.slice none 0 0, .int .i64 0] 25)
  go_enter Tryd.func42, Tryd.ntmps42
  go_wp2_with fail
  generalize (w.alloc (.cells #[.slice a co.length c, .int .i64 k] 25)).alloc (.cells #[.slice none 0 0, .int .i64 0] 25) = w2 at hs' B1 B2 hb
  obtain ⟨p0, p1, _, _, l1⟩ := B1
  have HB1 : Hid (Box2 w2 w.heap.size (.slice a co.length c) (.int .i64 k)) := hid ⟨p0, p1, by assumption, by assumption, l1⟩
  have HB2 := hid B2
  clear B2
  go_region_with (go_at_call 46; refine (clone_any P _ _ _ co _ hs'.drew hn).mono ?_; rintro e w1 ⟨v1, rfl, o1, b1⟩; obtain ⟨a1, c1, rfl, hc1⟩ := o1.shape; have B11 := HB1.out.drew.below b1; obtain ⟨s0, s1, _, _, m1⟩ := B11; obtain ⟨t0, t1, t2, t3, m2⟩ := HB2.out.drew.below b1)
  all_goals
    have l3 : w.heap.size + 1 < w2.heap.size := HB2.out.lt
    have hne : (Value.slice a1 co.length c1).ownBlock ≠ some (w.heap.size + 1) := fun e => by have := (o1.lt _ e).1; have h5 : w2.heap.size ≤ w.heap.size + 1 := this; omega
    have Ho := hid ((o1.store (p := ⟨w.heap.size + 1, 0, none⟩) (u := .slice a1 co.length c1) hne).store (p := ⟨w.heap.size + 1, 1, none⟩) (u := .int .i64 k) hne)
    have Hb := hid (((hb.drew.trans (b1.mono hb.size)).setCell (p := ⟨w.heap.size + 1, 0, none⟩) (Nat.le_succ _) (.slice a1 co.length c1)).setCell (p := ⟨w.heap.size + 1, 1, none⟩) (Nat.le_succ _) (.int .i64 k))
    clear hne o1 b1 hb hs'
    go_wp2
    refine bodyPost_ret (v := .agg #[.slice a1 co.length c1, .int .i64 k]) (by simp [results, Tryd.results42, go_sem, t0, t1, m2]) rfl ?_
    exact ⟨_, rfl, ⟨_, rfl, Ho.out.base (Nat.le_of_lt (Nat.lt_of_lt_of_le l1 (Nat.le_refl _)))⟩, Hb.out⟩

/-- An expression if it is valid. -/
def RetChk (P : Nat → Prop) (x : Aff) (w : World) (e : Ending) (w' : World) : Prop :=
  ∃ v, e = .returned (.tuple #[v, .bool (affV x)]) ∧ AffR P w' v (if affV x then x else ([], 0)) ∧ Below w.heap.size w w'
set_option maxHeartbeats 1600000 in
theorem checked_any (P : Nat → Prop) (v : Value) (x : Aff) (w : World) (h : AffR P w v x) : Calls Tryd.prog 25 #[v] w (RetChk P x w) := by
  obtain ⟨a, c, rfl, h1, h2, hs⟩ := h.shape
  obtain ⟨co, k⟩ := x
  simp only at hs h1 h2 ⊢
  have hb0 := (Below.refl w.heap.size w).alloc (Nat.le_refl _) (.cells #[.slice a co.length c, .int .i64 k] 25)
  have hb := hb0.alloc (by simp) (.cells #[.slice none 0 0, .int .i64 0] 25)
  have B1 := (Box2.new w (.slice a co.length c) (.int .i64 k) 25).alloc (.cells #[.slice none 0 0, .int .i64 0] 25)
  have B2 := Box2.new (w.alloc (.cells #[.slice a co.length c, .int .i64 k] 25)) (.slice none 0 0) (.int .i64 0) 25
  rw [World.size_alloc] at B2
  go_enter Tryd.func25, Tryd.ntmps25
  go_wp2_with fail
  generalize (w.alloc (.cells #[.slice a co.length c, .int .i64 k] 25)).alloc (.cells #[.slice none 0 0, .int .i64 0] 25) = w2 at B1 B2 hb
  have h3 : AffR P w2 _ (co, k) := h.below hb
  refine (implAffV_any P _ (co, k) w2 h3).mono ?_
  rintro e w3 ⟨rfl, b3⟩
  have hbb := hb.trans (b3.mono hb.size)
  obtain ⟨s0, s1, _, _, m1⟩ := B1.below b3
  obtain ⟨t0, t1, t2, t3, m2⟩ := B2.below b3
  have H3 := hid (h3.below b3)
  clear B1 B2 h3 b3
  cases hV : affV (co, k)
  · have HV := hid hV; clear hV
    have Hb := hid ((hbb.setCell (p := ⟨w.heap.size + 1, 0, none⟩) (Nat.le_succ _) (.slice none 0 0)).setCell (p := ⟨w.heap.size + 1, 1, none⟩) (Nat.le_succ _) (.int .i64 0))
    clear hbb hb
    go_wp2_with fail
    refine bodyPost_ret (v := .tuple #[.agg #[.slice none 0 0, .int .i64 0], .bool false]) (by simp [results, Tryd.results25, go_sem, t0, t1, m2]) rfl ?_
    exact ⟨_, by rw [HV.out], by rw [HV.out]; exact ⟨_, rfl, Sl.nil _ _ _⟩, Hb.out⟩
  · have HV := hid hV; clear hV
    have Hb := hid ((hbb.setCell (p := ⟨w.heap.size + 1, 0, none⟩) (Nat.le_succ _) (.slice a co.length c)).setCell (p := ⟨w.heap.size + 1, 1, none⟩) (Nat.le_succ _) (.int .i64 k))
    clear hbb hb
    go_wp2_with fail
    refine bodyPost_ret (v := .tuple #[.agg #[.slice a co.length c, .int .i64 k], .bool true]) (by simp [results, Tryd.results25, go_sem, t0, t1, m2]) rfl ?_
    exact ⟨_, by rw [HV.out], by rw [HV.out]; exact h.below Hb.out, Hb.out⟩
end Go.Proofs.YtkhlaphegnldeaaDoor
