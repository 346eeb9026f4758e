/- Variables as affine expressions, equality of affine expressions; condition: what the arguments hold. -/
import Derived.Test.YtkhlaphegnldeaaAffA
import Derived.Test.YtkhlaphegnldeaaEqInts
namespace Go.Proofs.Ytkhlaphegnldeaa
set_option linter.unusedVariables false
set_option linter.unusedSimpArgs false
open Go.RowKit

set_option maxHeartbeats 1600000 in
theorem implVar_any (j : Int) (w : World) : Calls Try.prog 18 #[.int .i64 j] w (RetA2 (fun b => w.heap.size ≤ b) (varOf j).1 (varOf j).2 w) := by
  have hb := (Below.refl w.heap.size w).alloc (Nat.le_refl _) (.cells #[.slice none 0 0, .int .i64 0] 25)
  have B0 := Box2.new w (.slice none 0 0) (.int .i64 0) 25
  go_enter Try.func18, Try.ntmps18

  go_wp2_with fail
  generalize w.alloc (.cells #[.slice none 0 0, .int .i64 0] 25) = W at B0 hb
  have HB := hid B0
  obtain ⟨p0, p1, p2, p3, p4⟩ := B0
  refine (isVar_any j _).mono ?_
  rintro e w' ⟨rfl, rfl⟩
  cases c0 : inB j 0 3
  · have C := hid c0; clear c0
    have Hr := hid ((hb.setCell (p := ⟨w.heap.size, 0, none⟩) (Nat.le_refl _) (.slice none 0 0)).setCell (p := ⟨w.heap.size, 1, none⟩) (Nat.le_refl _) (.int .i64 0))
    clear hb HB
    go_wp2_with fail
    refine bodyPost_ret (v := .tuple #[.agg #[.slice none 0 0, .int .i64 0], .bool false]) (by simp [results, Try.results18, go_sem, p0, p1, p4]) rfl ?_
    exact ⟨_, by rw [varOf, C.out]; rfl, by rw [varOf, C.out]; exact ⟨_, rfl, Sl.nil _ _ _⟩, by first | exact Hr.out | exact (Below.refl w.heap.size w).alloc (Nat.le_refl _) _⟩
  · have C := hid c0; clear c0
    obtain ⟨jn, rfl⟩ : ∃ jn : Nat, j = jn := ⟨j.toNat, by have := C.out; simp [inB] at this; omega⟩
    have jn4 : jn < 4 := by have := C.out; simp [inB] at this; omega
    go_wp2_with fail

    refine (variable_any jn 1 _ jn4).mono ?_
    rintro e w1 ⟨v1, rfl, ho, b1⟩
    obtain ⟨t0, t1, t2, t3, t4⟩ := HB.out.below b1
    have hs := ho.r (by simp)
    obtain ⟨a1, c1, rfl, _, _, hs1⟩ := hs.shape
    have hlt := HB.out.lt
    have Hr := hid (((hb.trans (b1.mono hb.size)).setCell (p := ⟨w.heap.size, 0, none⟩) (Nat.le_refl _) (.slice a1 4 c1)).setCell (p := ⟨w.heap.size, 1, none⟩) (Nat.le_refl _) (.int .i64 0))
    have Hs := hid ((hs1.store (p := ⟨w.heap.size, 0, none⟩) (u := .slice a1 4 c1) (fun h => by have h5 : W.heap.size ≤ w.heap.size := h; omega)).store (p := ⟨w.heap.size, 1, none⟩) (u := .int .i64 0) (fun h => by have h5 : W.heap.size ≤ w.heap.size := h; omega))
    have hsz := hb.size
    clear ho b1 hs hs1 hb
    go_wp2_with fail
    refine bodyPost_ret (v := .tuple #[.agg #[.slice a1 4 c1, .int .i64 0], .bool true]) (by simp [results, Try.results18, go_sem, t0, t1, t4]) rfl ?_
    exact ⟨_, by rw [varOf, C.out]; rfl, by rw [varOf, C.out]; exact ⟨_, by simp, Hs.out.mono fun b (h : W.heap.size ≤ b) _ => Nat.le_trans hsz h⟩, Hr.out⟩

set_option maxHeartbeats 1600000 in
theorem specVar_any (j : Int) (w : World) : Calls Try.prog 19 #[.int .i64 j] w (RetA2 (fun b => w.heap.size ≤ b) (varOf j).1 (varOf j).2 w) := by
  have hb := (Below.refl w.heap.size w).alloc (Nat.le_refl _) (.cells #[.slice none 0 0, .int .i64 0] 25)
  have B0 := Box2.new w (.slice none 0 0) (.int .i64 0) 25
  go_enter Try.func19, Try.ntmps19

  by_cases j0 : j < 0
  · have dj0 : decide (j < 0) = true := decide_eq_true j0
    have C := hid (show inB j 0 3 = false by simp [inB]; omega); clear j0
    have HB := hid B0
    obtain ⟨p0, p1, p2, p3, p4⟩ := B0
    have Hr := hid ((hb.setCell (p := ⟨w.heap.size, 0, none⟩) (Nat.le_refl _) (.slice none 0 0)).setCell (p := ⟨w.heap.size, 1, none⟩) (Nat.le_refl _) (.int .i64 0))
    clear hb HB
    go_wp2_with fail
    refine bodyPost_ret (v := .tuple #[.agg #[.slice none 0 0, .int .i64 0], .bool false]) (by simp [results, Try.results19, go_sem, p0, p1, p4]) rfl ?_
    exact ⟨_, by rw [varOf, C.out]; rfl, by rw [varOf, C.out]; exact ⟨_, rfl, Sl.nil _ _ _⟩, by first | exact Hr.out | exact (Below.refl w.heap.size w).alloc (Nat.le_refl _) _⟩
  by_cases j4 : 4 ≤ j
  · have dj0 : decide (j < 0) = false := decide_eq_false j0
    have dj4 : decide (4 ≤ j) = true := decide_eq_true j4
    have C := hid (show inB j 0 3 = false by simp [inB]; omega); clear j0 j4
    have HB := hid B0
    obtain ⟨p0, p1, p2, p3, p4⟩ := B0
    have Hr := hid ((hb.setCell (p := ⟨w.heap.size, 0, none⟩) (Nat.le_refl _) (.slice none 0 0)).setCell (p := ⟨w.heap.size, 1, none⟩) (Nat.le_refl _) (.int .i64 0))
    clear hb HB
    go_wp2_with fail
    refine bodyPost_ret (v := .tuple #[.agg #[.slice none 0 0, .int .i64 0], .bool false]) (by simp [results, Try.results19, go_sem, p0, p1, p4]) rfl ?_
    exact ⟨_, by rw [varOf, C.out]; rfl, by rw [varOf, C.out]; exact ⟨_, rfl, Sl.nil _ _ _⟩, by first | exact Hr.out | exact (Below.refl w.heap.size w).alloc (Nat.le_refl _) _⟩
  · have dj0 : decide (j < 0) = false := decide_eq_false j0
    have dj4 : decide (4 ≤ j) = false := decide_eq_false j4
    have C := hid (show inB j 0 3 = true by simp [inB]; omega)
    obtain ⟨jn, rfl⟩ : ∃ jn : Nat, j = jn := ⟨j.toNat, by omega⟩
    have jn4 : jn < 4 := by omega
    clear j0 j4
    go_wp2_with fail
    generalize w.alloc (.cells #[.slice none 0 0, .int .i64 0] 25) = W at B0 hb
    have HB := hid B0
    obtain ⟨p0, p1, p2, p3, p4⟩ := B0

    refine (l1Var_any jn _ jn4).mono ?_
    rintro e w1 ⟨v1, rfl, ho, b1⟩
    obtain ⟨t0, t1, t2, t3, t4⟩ := HB.out.below b1
    have hs := ho.r (by simp)
    obtain ⟨a1, c1, rfl, _, _, hs1⟩ := hs.shape
    have hlt := HB.out.lt
    have Hr := hid (((hb.trans (b1.mono hb.size)).setCell (p := ⟨w.heap.size, 0, none⟩) (Nat.le_refl _) (.slice a1 4 c1)).setCell (p := ⟨w.heap.size, 1, none⟩) (Nat.le_refl _) (.int .i64 0))
    have Hs := hid ((hs1.store (p := ⟨w.heap.size, 0, none⟩) (u := .slice a1 4 c1) (fun h => by have h5 : W.heap.size ≤ w.heap.size := h; omega)).store (p := ⟨w.heap.size, 1, none⟩) (u := .int .i64 0) (fun h => by have h5 : W.heap.size ≤ w.heap.size := h; omega))
    have hsz := hb.size
    clear ho b1 hs hs1 hb
    go_wp2_with fail
    refine bodyPost_ret (v := .tuple #[.agg #[.slice a1 4 c1, .int .i64 0], .bool true]) (by simp [results, Try.results19, go_sem, t0, t1, t4]) rfl ?_
    exact ⟨_, by rw [varOf, C.out]; rfl, by rw [varOf, C.out]; exact ⟨_, by simp, Hs.out.mono fun b (h : W.heap.size ≤ b) _ => Nat.le_trans hsz h⟩, Hr.out⟩

/-- Equal expressions: coefficients and constants. -/
def sameOf (x y : Aff) : Bool := decide (x.1 = y.1) && (x.2 == y.2)
theorem sameOf_iff (x y : Aff) : sameOf x y = true ↔ x = y := by
  unfold sameOf
  constructor
  · intro h
    simp at h
    exact Prod.ext h.1 h.2
  · intro h; subst h; simp
theorem sameOf_eq (x y : Aff) : sameOf x y = decide (x = y) := by
  rw [Bool.eq_iff_iff, sameOf_iff, decide_eq_true_eq]
end Go.Proofs.Ytkhlaphegnldeaa
