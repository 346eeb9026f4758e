/- Values of affine expressions in the reference; points; EvalAffine, AffineDepth; condition: what the arguments hold. -/
import Derived.Test.YtkhlaphegnldeaaAffS
import Derived.IntWalk
namespace Go.Proofs.Ytkhlaphegnldeaa
set_option linter.unusedVariables false
set_option linter.unusedSimpArgs false
open Go.RowKit

set_option maxHeartbeats 1600000 in
theorem l1Eval_any (P Q : Nat → Prop) (v : Value) (x : Aff) (a2 : Option Addr) (n c2 : Nat) (p : List Int) (w : World) (h : AffR P w v x) (hp : Sl Sh.int Q w (.slice a2 n c2) p) (hV : affV x = true) (hS : Small p) (hn : n ≤ 4) :
    Calls Try.prog 42 #[v, .slice a2 n c2] w fun e w' => e = .returned (.int .i64 (affEval x p)) ∧ Below w.heap.size w w' := by
  have hco := affV_getD hV
  have hk := affV_const hV
  have hlen := affV_len hV
  obtain ⟨a, c, rfl, h1, h2, hs⟩ := h.shape
  obtain ⟨co, k⟩ := x
  simp only at hs h1 h2 hco hk hlen ⊢
  rw [hlen] at hs
  have hs' := hs.alloc (.cells #[.slice a 4 c, .int .i64 k] 25)
  have hp' := hp.alloc (.cells #[.slice a 4 c, .int .i64 k] 25)
  have hbd := evalTo_bd hco hS
  have hpl := hid hp.len
  have Hlen := hid hlen; have Hco := hid hco; have HS := hid hS; have Hbd := hid hbd
  have hax : Hid (affEval (co, k) p = k + evalTo co p n) := hid (by rw [affEval, hpl.out])
  clear hlen hco hS hbd hV h1
  obtain ⟨ba, oa, ha, _, _, hca⟩ := hs'.intAt (by omega)
  subst ha
  have Hca := hid hca; clear hca
  have hb0 : (w.alloc (.cells #[.slice (some ⟨ba, oa, none⟩) 4 c, .int .i64 k] 25)).cell? ⟨w.heap.size, 0, none⟩ = some (.slice (some ⟨ba, oa, none⟩) 4 c) := cell_of_row _ _ 0 _ _ _ (heap_alloc_new w _)
  have hbb := (Below.refl w.heap.size w).alloc (Nat.le_refl _) (.cells #[.slice (some ⟨ba, oa, none⟩) 4 c, .int .i64 k] 25)
  go_enter Try.func42, Try.ntmps42
  rw [Hlen.out]
  go_wp2
  generalize hw1 : w.alloc (.cells #[.slice (some ⟨ba, oa, none⟩) 4 c, .int .i64 k] 25) = w1 at hp' hb0 hbb Hca
  clear hw1
  go_loopw [5, 6] (fun q i wr => ∃ j : Nat, j ≤ n ∧ i = .int .i64 j ∧ q = .int .i64 (k + evalTo co p j) ∧ Quiet w1 wr) (fun _ i _ => n - (intOf i).toNat)
  case atStart => exact ⟨0, Nat.zero_le _, rfl, by simp [evalTo], Quiet.refl _⟩
  case round =>
    obtain ⟨j, hj, rfl, rfl, hq⟩ := hrel
    have hb1 : wr.cell? ⟨w.heap.size, 0, none⟩ = _ := (hq.cell _).trans hb0
    by_cases hlt : j < n
    · obtain ⟨bb, ob, hb, _, _, hcb⟩ := (hp'.quiet hq).intAt (by omega)
      subst hb
      have q1 : wr.cell? ⟨ba, oa + j, none⟩ = _ := (hq.cell _).trans (Hca.out j (by omega))
      have q2 := hcb j hlt
      have b0 := Hbd.out j
      have b1 := Hco.out j
      have b2 := HS.out.getD j
      have b3 := mul_bd b1 b2
      have he : evalTo co p (j + 1) = evalTo co p j + co.getD j 0 * p.getD j 0 := rfl
      generalize co.getD j 0 = y at q1 b3 he
      generalize p.getD j 0 = z at q2 b3 he
      generalize evalTo co p j = f at b0 he
      have He := hid he
      clear he hcb b1 b2
      have hw1 : IntKind.i64.wrap (y * z) = y * z := IntWalk.i64_in _ (by omega)
      have hw2 : IntKind.i64.wrap (k + f + y * z) = k + f + y * z := IntWalk.i64_in _ (by omega)
      have hd4 : decide ((j : Int) < 4) = true := by simp; omega
      go_wp2
      go_quiet (fail)
      clear hw1 hw2
      go_wp2
      exact ⟨⟨j + 1, by omega, rfl, int_i64 (by rw [He.out]; omega), hq.drewN⟩, by simp [intOf]; omega⟩
    · have hje : j = n := by omega
      subst hje
      go_wp2
      go_ret
      exact ⟨ret_int hax.out.symm, hbb.trans (hq.below _)⟩

def isPt (p : List Int) : Bool := decide (p.length ≤ 4) && !p.any (fun n => !inB n (-9999) 9999)
theorem isPt_len {p : List Int} (h : isPt p = true) : p.length ≤ 4 := by
  simp [isPt] at h
  exact h.1
theorem isPt_small {p : List Int} (h : isPt p = true) : Small p := by
  intro n hn
  simp [isPt, inB] at h
  have := h.2 n hn
  omega
set_option maxHeartbeats 400000 in
theorem isPoint1_any (n : Int) (w : World) : Calls Try.prog 58 #[.int .i64 n] w fun e w' => e = .returned (.bool (!inB n (-9999) 9999)) ∧ w = w' := by
  go_enter Try.func58, Try.ntmps58
  go_wp2_with (go_at_call 34; refine (within_any _ _ _ _).mono ?_; rintro e w' ⟨rfl, rfl⟩)
  go_ret
  exact ⟨rfl, rfl⟩
theorem Try.egPoint1 : ∀ args w, (callFunc 58 args).run Try.prog w = .ok (.enter 58 args) w := fun _ _ => by kernel_rfl
set_option maxHeartbeats 400000 in
theorem isPoint_any (Q : Nat → Prop) (a2 : Option Addr) (n c2 : Nat) (p : List Int) (w : World) (hp : Sl Sh.int Q w (.slice a2 n c2) p) :
    Calls Try.prog 35 #[.slice a2 n c2] w fun e w' => e = .returned (.bool (isPt p)) ∧ w = w' := by
  by_cases h4 : n ≤ 4
  · have hd : decide ((n : Int) ≤ 4) = true := by simp; omega
    have hr := hid (show isPt p = !p.any (fun n => !inB n (-9999) 9999) by rw [isPt, hp.len, decide_eq_true h4]; rfl)
    go_enter Try.func35, Try.ntmps35
    go_wp2_with (go_at_call 32; refine (containsFunc_any Q 58 #[] Try.egPoint1 (fun n => !inB n (-9999) 9999) _ _ _ p _ hp (fun x => isPoint1_any x _)).mono ?_; rintro e w' ⟨rfl, rfl⟩)
    go_ret
    exact ⟨ret_bool hr.out.symm, rfl⟩
  · have hd : decide ((n : Int) ≤ 4) = false := by simp; omega
    have hr := hid (show isPt p = false by rw [isPt, hp.len, decide_eq_false h4]; rfl)
    go_enter Try.func35, Try.ntmps35
    go_wp2
    go_ret
    exact ⟨ret_bool hr.out.symm, rfl⟩
set_option maxHeartbeats 800000 in
theorem l1Point_any (Q : Nat → Prop) (a2 : Option Addr) (n c2 : Nat) (p : List Int) (w : World) (hp : Sl Sh.int Q w (.slice a2 n c2) p) :
    Calls Try.prog 41 #[.slice a2 n c2] w fun e w' => e = .returned (.bool (isPt p)) ∧ w = w' := by
  have hle := hp.le
  have hpl := hid hp.len
  go_enter Try.func41, Try.ntmps41
  go_wp2
  go_loop [3] (fun i => ∃ j : Nat, j ≤ n ∧ i = .int .i64 j ∧ Hid (∀ x ∈ p.take j, (!inB x (-9999) 9999) = false)) (fun i => n - (intOf i).toNat)
  case atStart => exact ⟨0, Nat.zero_le _, rfl, hid (by simp)⟩
  case round =>
    obtain ⟨j, hj, rfl, ht⟩ := hrel
    by_cases hlt : j < n
    · obtain ⟨ba, oa, ha, _, _, hca⟩ := hp.intAt (by omega)
      subst ha
      have q1 := hca j hlt
      generalize hy : p.getD j 0 = y at q1
      have Hy := hid hy; clear hy hca
      cases hq : inB y (-9999) 9999
      · have Hq : Hid (inB y (-9999) 9999 = false) := hid hq
        have hany : Hid (p.any (fun c => !inB c (-9999) 9999) = true) := hid (List.any_eq_true.2 ⟨y, by rw [← Hy.out, List.getD, List.getElem?_eq_getElem (by rw [hpl.out]; exact hlt)]; exact List.getElem_mem _, by rw [Hq.out]; rfl⟩)
        go_wp2_with (go_at_call 56; refine (l1Within_any _ _ _ (by omega) (by omega)).mono ?_; rintro e w' ⟨rfl, rfl⟩; rw [Hq.out])
        go_ret
        exact ⟨ret_bool (by rw [isPt, hany.out]; simp), rfl⟩
      · have Hq : Hid (inB y (-9999) 9999 = true) := hid hq
        have Ht := hid (take_step (p := fun c => !inB c (-9999) 9999) ht.out (by rw [hpl.out]; exact hlt) (by rw [Hy.out, Hq.out]; rfl))
        go_wp2_with (go_at_call 56; refine (l1Within_any _ _ _ (by omega) (by omega)).mono ?_; rintro e w' ⟨rfl, rfl⟩; rw [Hq.out])
        exact ⟨⟨j + 1, by omega, rfl, Ht⟩, by simp [intOf]; omega⟩
    · have hje : j = n := by omega
      subst hje
      have hany : Hid (p.any (fun c => !inB c (-9999) 9999) = false) := hid (by
        have := ht.out
        rw [List.take_of_length_le (by rw [hpl.out]; omega)] at this
        rw [List.any_eq_false]
        intro x hx
        rw [this x hx]; simp)
      have hr := hid (show isPt p = decide (j ≤ 4) by rw [isPt, hany.out, hpl.out]; simp)
      by_cases h4 : j ≤ 4
      · have hd : decide ((j : Int) ≤ 4) = true := by simp; omega
        have hr2 := hid (show isPt p = true by rw [hr.out]; exact decide_eq_true h4)
        go_wp2
        go_ret
        exact ⟨ret_bool hr2.out.symm, rfl⟩
      · have hd : decide ((j : Int) ≤ 4) = false := by simp; omega
        have hr2 := hid (show isPt p = false by rw [hr.out]; exact decide_eq_false h4)
        go_wp2
        go_ret
        exact ⟨ret_bool hr2.out.symm, rfl⟩
def evalOf (x : Aff) (p : List Int) : Int := if affV x && isPt p then affEval x p else 0
def depthOf (x : Aff) : Int := if affV x then (affDepth x : Int) else 0

set_option maxHeartbeats 1600000 in
theorem implEval_any (P Q : Nat → Prop) (v : Value) (x : Aff) (a2 : Option Addr) (n c2 : Nat) (p : List Int) (w : World) (h : AffR P w v x) (hp : Sl Sh.int Q w (.slice a2 n c2) p) :
    Calls Try.prog 14 #[v, .slice a2 n c2] w fun e w' => e = .returned (.int .i64 (evalOf x p)) ∧ Below w.heap.size w w' := by
  obtain ⟨a, c, rfl, _, _, hs⟩ := h.shape
  have hb0 := (Below.refl w.heap.size w).alloc (Nat.le_refl _) (.cells #[.slice a x.1.length c, .int .i64 x.2] 25)
  have h0 := h.below hb0
  have p0 := hp.below hb0
  have hpl := hp.len
  generalize hw1 : w.alloc (.cells #[.slice a x.1.length c, .int .i64 x.2] 25) = w1 at h0 p0 hb0
  have c0 : w1.cell? ⟨w.heap.size, 0, none⟩ = some (.slice a x.1.length c) := by rw [← hw1]; exact cell_of_row _ _ 0 _ _ _ (heap_alloc_new w _)
  have c1 : w1.cell? ⟨w.heap.size, 1, none⟩ = some (.int .i64 x.2) := by rw [← hw1]; exact cell_of_row _ _ 1 _ _ _ (heap_alloc_new w _)
  have hsz : w.heap.size < w1.heap.size := by rw [← hw1, World.size_alloc]; omega
  have Hw1 := hid hw1; clear hw1
  cases hV : affV x
  · have hr := hid (show evalOf x p = 0 by rw [evalOf, hV]; rfl)
    have HV := hid hV; clear hV
    go_enter Try.func14, Try.ntmps14
    go_wp2_with fail
    rw [Hw1.out]
    refine (implAffV_any P _ x _ h0).mono ?_
    rintro e w2 ⟨rfl, b2⟩
    rw [HV.out]
    go_wp2_with fail
    go_ret
    exact ⟨ret_int hr.out.symm, hb0.trans (b2.mono hb0.size)⟩
  · cases hT : isPt p
    · have hr := hid (show evalOf x p = 0 by rw [evalOf, hT]; simp)
      have HV := hid hV; have HT := hid hT; clear hV hT
      go_enter Try.func14, Try.ntmps14
      go_wp2_with fail
      rw [Hw1.out]
      refine (implAffV_any P _ x _ h0).mono ?_
      rintro e w2 ⟨rfl, b2⟩
      rw [HV.out]
      have p2 := p0.below b2
      go_wp2_with fail
      refine (isPoint_any Q _ _ _ p _ p2).mono ?_
      rintro e w' ⟨rfl, rfl⟩
      rw [HT.out]
      go_wp2_with fail
      go_ret
      exact ⟨ret_int hr.out.symm, hb0.trans (b2.mono hb0.size)⟩
    · have hr := hid (show evalOf x p = affEval x p by rw [evalOf, hT, hV]; rfl)
      have h4 := isPt_len hT
      have HV := hid hV; have HT := hid hT; clear hV hT
      have hS := hid (isPt_small HT.out)
      go_enter Try.func14, Try.ntmps14
      go_wp2_with fail
      rw [Hw1.out]
      refine (implAffV_any P _ x _ h0).mono ?_
      rintro e w2 ⟨rfl, b2⟩
      rw [HV.out]
      have p2 := p0.below b2
      have h2 := h0.below b2
      have d0 : w2.cell? ⟨w.heap.size, 0, none⟩ = _ := (b2.cell (p := ⟨w.heap.size, 0, none⟩) hsz).trans c0
      have d1 : w2.cell? ⟨w.heap.size, 1, none⟩ = _ := (b2.cell (p := ⟨w.heap.size, 1, none⟩) hsz).trans c1
      go_wp2_with fail
      refine (isPoint_any Q _ _ _ p _ p2).mono ?_
      rintro e w' ⟨rfl, rfl⟩
      rw [HT.out]
      go_wp2_with fail
      refine (eval_any P Q _ x _ _ _ p _ h2 p2 HV.out hS.out (by omega)).mono ?_
      rintro e w3 ⟨rfl, b3⟩
      go_wp2_with fail
      go_ret
      exact ⟨ret_int hr.out.symm, (hb0.trans (b2.mono hb0.size)).trans (b3.mono (Nat.le_trans hb0.size b2.size))⟩

set_option maxHeartbeats 1600000 in
theorem specEval_any (P Q : Nat → Prop) (v : Value) (x : Aff) (a2 : Option Addr) (n c2 : Nat) (p : List Int) (w : World) (h : AffR P w v x) (hp : Sl Sh.int Q w (.slice a2 n c2) p) :
    Calls Try.prog 16 #[v, .slice a2 n c2] w fun e w' => e = .returned (.int .i64 (evalOf x p)) ∧ Below w.heap.size w w' := by
  obtain ⟨a, c, rfl, _, _, hs⟩ := h.shape
  have hb0 := (Below.refl w.heap.size w).alloc (Nat.le_refl _) (.cells #[.slice a x.1.length c, .int .i64 x.2] 25)
  have h0 := h.below hb0
  have p0 := hp.below hb0
  have hpl := hp.len
  generalize hw1 : w.alloc (.cells #[.slice a x.1.length c, .int .i64 x.2] 25) = w1 at h0 p0 hb0
  have c0 : w1.cell? ⟨w.heap.size, 0, none⟩ = some (.slice a x.1.length c) := by rw [← hw1]; exact cell_of_row _ _ 0 _ _ _ (heap_alloc_new w _)
  have c1 : w1.cell? ⟨w.heap.size, 1, none⟩ = some (.int .i64 x.2) := by rw [← hw1]; exact cell_of_row _ _ 1 _ _ _ (heap_alloc_new w _)
  have hsz : w.heap.size < w1.heap.size := by rw [← hw1, World.size_alloc]; omega
  have Hw1 := hid hw1; clear hw1
  cases hV : affV x
  · have hr := hid (show evalOf x p = 0 by rw [evalOf, hV]; rfl)
    have HV := hid hV; clear hV
    go_enter Try.func16, Try.ntmps16
    go_wp2_with fail
    rw [Hw1.out]
    refine (specAffV_any P _ x _ h0).mono ?_
    rintro e w2 ⟨rfl, b2⟩
    rw [HV.out]
    go_wp2_with fail
    go_ret
    exact ⟨ret_int hr.out.symm, hb0.trans (b2.mono hb0.size)⟩
  · cases hT : isPt p
    · have hr := hid (show evalOf x p = 0 by rw [evalOf, hT]; simp)
      have HV := hid hV; have HT := hid hT; clear hV hT
      go_enter Try.func16, Try.ntmps16
      go_wp2_with fail
      rw [Hw1.out]
      refine (specAffV_any P _ x _ h0).mono ?_
      rintro e w2 ⟨rfl, b2⟩
      rw [HV.out]
      have p2 := p0.below b2
      go_wp2_with fail
      refine (l1Point_any Q _ _ _ p _ p2).mono ?_
      rintro e w' ⟨rfl, rfl⟩
      rw [HT.out]
      go_wp2_with fail
      go_ret
      exact ⟨ret_int hr.out.symm, hb0.trans (b2.mono hb0.size)⟩
    · have hr := hid (show evalOf x p = affEval x p by rw [evalOf, hT, hV]; rfl)
      have h4 := isPt_len hT
      have HV := hid hV; have HT := hid hT; clear hV hT
      have hS := hid (isPt_small HT.out)
      go_enter Try.func16, Try.ntmps16
      go_wp2_with fail
      rw [Hw1.out]
      refine (specAffV_any P _ x _ h0).mono ?_
      rintro e w2 ⟨rfl, b2⟩
      rw [HV.out]
      have p2 := p0.below b2
      have h2 := h0.below b2
      have d0 : w2.cell? ⟨w.heap.size, 0, none⟩ = _ := (b2.cell (p := ⟨w.heap.size, 0, none⟩) hsz).trans c0
      have d1 : w2.cell? ⟨w.heap.size, 1, none⟩ = _ := (b2.cell (p := ⟨w.heap.size, 1, none⟩) hsz).trans c1
      go_wp2_with fail
      refine (l1Point_any Q _ _ _ p _ p2).mono ?_
      rintro e w' ⟨rfl, rfl⟩
      rw [HT.out]
      go_wp2_with fail
      refine (l1Eval_any P Q _ x _ _ _ p _ h2 p2 HV.out hS.out (by omega)).mono ?_
      rintro e w3 ⟨rfl, b3⟩
      go_wp2_with fail
      go_ret
      exact ⟨ret_int hr.out.symm, (hb0.trans (b2.mono hb0.size)).trans (b3.mono (Nat.le_trans hb0.size b2.size))⟩

set_option maxHeartbeats 1600000 in
theorem implDepth_any (P : Nat → Prop) (v : Value) (x : Aff) (w : World) (h : AffR P w v x) :
    Calls Try.prog 11 #[v] w fun e w' => e = .returned (.int .i64 (depthOf x)) ∧ Below w.heap.size w w' := by
  obtain ⟨a, c, rfl, _, _, hs⟩ := h.shape
  have hb0 := (Below.refl w.heap.size w).alloc (Nat.le_refl _) (.cells #[.slice a x.1.length c, .int .i64 x.2] 25)
  have h0 := h.below hb0
  generalize hw1 : w.alloc (.cells #[.slice a x.1.length c, .int .i64 x.2] 25) = w1 at h0 hb0
  have c0 : w1.cell? ⟨w.heap.size, 0, none⟩ = some (.slice a x.1.length c) := by rw [← hw1]; exact cell_of_row _ _ 0 _ _ _ (heap_alloc_new w _)
  have c1 : w1.cell? ⟨w.heap.size, 1, none⟩ = some (.int .i64 x.2) := by rw [← hw1]; exact cell_of_row _ _ 1 _ _ _ (heap_alloc_new w _)
  have hsz : w.heap.size < w1.heap.size := by rw [← hw1, World.size_alloc]; omega
  have Hw1 := hid hw1; clear hw1
  cases hV : affV x
  · have hr := hid (show depthOf x = 0 by rw [depthOf, hV]; rfl)
    have HV := hid hV; clear hV
    go_enter Try.func11, Try.ntmps11
    go_wp2_with fail
    rw [Hw1.out]
    refine (implAffV_any P _ x _ h0).mono ?_
    rintro e w2 ⟨rfl, b2⟩
    rw [HV.out]
    go_wp2_with fail
    go_ret
    exact ⟨ret_int hr.out.symm, hb0.trans (b2.mono hb0.size)⟩
  · have hr := hid (show depthOf x = affDepth x by rw [depthOf, hV]; rfl)
    have HV := hid hV; clear hV
    go_enter Try.func11, Try.ntmps11
    go_wp2_with fail
    rw [Hw1.out]
    refine (implAffV_any P _ x _ h0).mono ?_
    rintro e w2 ⟨rfl, b2⟩
    rw [HV.out]
    have h2 := h0.below b2
    have d0 : w2.cell? ⟨w.heap.size, 0, none⟩ = _ := (b2.cell (p := ⟨w.heap.size, 0, none⟩) hsz).trans c0
    have d1 : w2.cell? ⟨w.heap.size, 1, none⟩ = _ := (b2.cell (p := ⟨w.heap.size, 1, none⟩) hsz).trans c1
    go_wp2_with fail
    refine (depth_any P _ x _ h2).mono ?_
    rintro e w3 ⟨rfl, b3⟩
    go_wp2_with fail
    go_ret
    exact ⟨ret_int hr.out.symm, (hb0.trans (b2.mono hb0.size)).trans (b3.mono (Nat.le_trans hb0.size b2.size))⟩

set_option maxHeartbeats 1600000 in
theorem specDepth_any (P : Nat → Prop) (v : Value) (x : Aff) (w : World) (h : AffR P w v x) :
    Calls Try.prog 12 #[v] w fun e w' => e = .returned (.int .i64 (depthOf x)) ∧ Below w.heap.size w w' := by
  obtain ⟨a, c, rfl, _, _, hs⟩ := h.shape
  have hb0 := (Below.refl w.heap.size w).alloc (Nat.le_refl _) (.cells #[.slice a x.1.length c, .int .i64 x.2] 25)
  have h0 := h.below hb0
  generalize hw1 : w.alloc (.cells #[.slice a x.1.length c, .int .i64 x.2] 25) = w1 at h0 hb0
  have c0 : w1.cell? ⟨w.heap.size, 0, none⟩ = some (.slice a x.1.length c) := by rw [← hw1]; exact cell_of_row _ _ 0 _ _ _ (heap_alloc_new w _)
  have c1 : w1.cell? ⟨w.heap.size, 1, none⟩ = some (.int .i64 x.2) := by rw [← hw1]; exact cell_of_row _ _ 1 _ _ _ (heap_alloc_new w _)
  have hsz : w.heap.size < w1.heap.size := by rw [← hw1, World.size_alloc]; omega
  have Hw1 := hid hw1; clear hw1
  cases hV : affV x
  · have hr := hid (show depthOf x = 0 by rw [depthOf, hV]; rfl)
    have HV := hid hV; clear hV
    go_enter Try.func12, Try.ntmps12
    go_wp2_with fail
    rw [Hw1.out]
    refine (specAffV_any P _ x _ h0).mono ?_
    rintro e w2 ⟨rfl, b2⟩
    rw [HV.out]
    go_wp2_with fail
    go_ret
    exact ⟨ret_int hr.out.symm, hb0.trans (b2.mono hb0.size)⟩
  · have hr := hid (show depthOf x = affDepth x by rw [depthOf, hV]; rfl)
    have HV := hid hV; clear hV
    go_enter Try.func12, Try.ntmps12
    go_wp2_with fail
    rw [Hw1.out]
    refine (specAffV_any P _ x _ h0).mono ?_
    rintro e w2 ⟨rfl, b2⟩
    rw [HV.out]
    have h2 := h0.below b2
    have d0 : w2.cell? ⟨w.heap.size, 0, none⟩ = _ := (b2.cell (p := ⟨w.heap.size, 0, none⟩) hsz).trans c0
    have d1 : w2.cell? ⟨w.heap.size, 1, none⟩ = _ := (b2.cell (p := ⟨w.heap.size, 1, none⟩) hsz).trans c1
    go_wp2_with fail
    refine (l1Depth_any P _ x _ h2).mono ?_
    rintro e w3 ⟨rfl, b3⟩
    go_wp2_with fail
    go_ret
    exact ⟨ret_int hr.out.symm, (hb0.trans (b2.mono hb0.size)).trans (b3.mono (Nat.le_trans hb0.size b2.size))⟩
end Go.Proofs.Ytkhlaphegnldeaa
