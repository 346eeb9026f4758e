/- Values of affine expressions in the reference; points; EvalAffine, AffineDepth; condition: what the arguments hold. -/
import Derived.Test.YtkhlaphegnldeaaDoorAffS
import Derived.IntWalk
namespace Go.Proofs.YtkhlaphegnldeaaDoor
set_option linter.unusedVariables false
set_option linter.unusedSimpArgs false
open Go.RowKit


def isPt (p : List Int) : Bool := decide (p.length ≤ 4) && !p.any (fun n => !inB n (-9999) 9999)
theorem isPt_len {p : List Int} (h : isPt p = true) : p.length ≤ 4 := by
  simp [isPt] at h
  exact h.1
theorem isPt_small {p : List Int} (h : isPt p = true) : Small p := by
  intro n hn
  simp [isPt, inB] at h
  have := h.2 n hn
  omega
set_option maxHeartbeats 400000 in
theorem isPoint1_any (n : Int) (w : World) : Calls Tryd.prog 43 #[.int .i64 n] w fun e w' => e = .returned (.bool (!inB n (-9999) 9999)) ∧ w = w' := by
  go_enter Tryd.func43, Tryd.ntmps43
  go_wp2_with (go_at_call 39; refine (within_any _ _ _ _).mono ?_; rintro e w' ⟨rfl, rfl⟩)
  go_ret
  exact ⟨rfl, rfl⟩
theorem Tryd.egPoint1 : ∀ args w, (callFunc 43 args).run Tryd.prog w = .ok (.enter 43 args) w := fun _ _ => by kernel_rfl
set_option maxHeartbeats 400000 in
theorem isPoint_any (Q : Nat → Prop) (a2 : Option Addr) (n c2 : Nat) (p : List Int) (w : World) (hp : Sl Sh.int Q w (.slice a2 n c2) p) :
    Calls Tryd.prog 34 #[.slice a2 n c2] w fun e w' => e = .returned (.bool (isPt p)) ∧ w = w' := by
  by_cases h4 : n ≤ 4
  · have hd : decide ((n : Int) ≤ 4) = true := by simp; omega
    have hr := hid (show isPt p = !p.any (fun n => !inB n (-9999) 9999) by rw [isPt, hp.len, decide_eq_true h4]; rfl)
    go_enter Tryd.func34, Tryd.ntmps34
    go_wp2_with (go_at_call 37; refine (containsFunc_any Q 43 #[] Tryd.egPoint1 (fun n => !inB n (-9999) 9999) _ _ _ p _ hp (fun x => isPoint1_any x _)).mono ?_; rintro e w' ⟨rfl, rfl⟩)
    go_ret
    exact ⟨ret_bool hr.out.symm, rfl⟩
  · have hd : decide ((n : Int) ≤ 4) = false := by simp; omega
    have hr := hid (show isPt p = false by rw [isPt, hp.len, decide_eq_false h4]; rfl)
    go_enter Tryd.func34, Tryd.ntmps34
    go_wp2
    go_ret
    exact ⟨ret_bool hr.out.symm, rfl⟩
def evalOf (x : Aff) (p : List Int) : Int := if affV x && isPt p then affEval x p else 0
def depthOf (x : Aff) : Int := if affV x then (affDepth x : Int) else 0

set_option maxHeartbeats 1600000 in
theorem implEval_any (P Q : Nat → Prop) (v : Value) (x : Aff) (a2 : Option Addr) (n c2 : Nat) (p : List Int) (w : World) (h : AffR P w v x) (hp : Sl Sh.int Q w (.slice a2 n c2) p) :
    Calls Tryd.prog 14 #[v, .slice a2 n c2] w fun e w' => e = .returned (.int .i64 (evalOf x p)) ∧ Below w.heap.size w w' := by
  obtain ⟨a, c, rfl, _, _, hs⟩ := h.shape
  have hb0 := (Below.refl w.heap.size w).alloc (Nat.le_refl _) (.cells #[.slice a x.1.length c, .int .i64 x.2] 25)
  have h0 := h.below hb0
  have p0 := hp.below hb0
  have hpl := hp.len
  generalize hw1 : w.alloc (.cells #[.slice a x.1.length c, .int .i64 x.2] 25) = w1 at h0 p0 hb0
  have c0 : w1.cell? ⟨w.heap.size, 0, none⟩ = some (.slice a x.1.length c) := by rw [← hw1]; exact cell_of_row _ _ 0 _ _ _ (heap_alloc_new w _)
  have c1 : w1.cell? ⟨w.heap.size, 1, none⟩ = some (.int .i64 x.2) := by rw [← hw1]; exact cell_of_row _ _ 1 _ _ _ (heap_alloc_new w _)
  have hsz : w.heap.size < w1.heap.size := by rw [← hw1, World.size_alloc]; omega
  have Hw1 := hid hw1; clear hw1
  cases hV : affV x
  · have hr := hid (show evalOf x p = 0 by rw [evalOf, hV]; rfl)
    have HV := hid hV; clear hV
    go_enter Tryd.func14, Tryd.ntmps14
    go_wp2_with fail
    rw [Hw1.out]
    refine (implAffV_any P _ x _ h0).mono ?_
    rintro e w2 ⟨rfl, b2⟩
    rw [HV.out]
    go_wp2_with fail
    go_ret
    exact ⟨ret_int hr.out.symm, hb0.trans (b2.mono hb0.size)⟩
  · cases hT : isPt p
    · have hr := hid (show evalOf x p = 0 by rw [evalOf, hT]; simp)
      have HV := hid hV; have HT := hid hT; clear hV hT
      go_enter Tryd.func14, Tryd.ntmps14
      go_wp2_with fail
      rw [Hw1.out]
      refine (implAffV_any P _ x _ h0).mono ?_
      rintro e w2 ⟨rfl, b2⟩
      rw [HV.out]
      have p2 := p0.below b2
      go_wp2_with fail
      refine (isPoint_any Q _ _ _ p _ p2).mono ?_
      rintro e w' ⟨rfl, rfl⟩
      rw [HT.out]
      go_wp2_with fail
      go_ret
      exact ⟨ret_int hr.out.symm, hb0.trans (b2.mono hb0.size)⟩
    · have hr := hid (show evalOf x p = affEval x p by rw [evalOf, hT, hV]; rfl)
      have h4 := isPt_len hT
      have HV := hid hV; have HT := hid hT; clear hV hT
      have hS := hid (isPt_small HT.out)
      go_enter Tryd.func14, Tryd.ntmps14
      go_wp2_with fail
      rw [Hw1.out]
      refine (implAffV_any P _ x _ h0).mono ?_
      rintro e w2 ⟨rfl, b2⟩
      rw [HV.out]
      have p2 := p0.below b2
      have h2 := h0.below b2
      have d0 : w2.cell? ⟨w.heap.size, 0, none⟩ = _ := (b2.cell (p := ⟨w.heap.size, 0, none⟩) hsz).trans c0
      have d1 : w2.cell? ⟨w.heap.size, 1, none⟩ = _ := (b2.cell (p := ⟨w.heap.size, 1, none⟩) hsz).trans c1
      go_wp2_with fail
      refine (isPoint_any Q _ _ _ p _ p2).mono ?_
      rintro e w' ⟨rfl, rfl⟩
      rw [HT.out]
      go_wp2_with fail
      refine (eval_any P Q _ x _ _ _ p _ h2 p2 HV.out hS.out (by omega)).mono ?_
      rintro e w3 ⟨rfl, b3⟩
      go_wp2_with fail
      go_ret
      exact ⟨ret_int hr.out.symm, (hb0.trans (b2.mono hb0.size)).trans (b3.mono (Nat.le_trans hb0.size b2.size))⟩



end Go.Proofs.YtkhlaphegnldeaaDoor
