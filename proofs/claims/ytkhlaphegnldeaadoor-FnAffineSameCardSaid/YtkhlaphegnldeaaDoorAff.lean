/- Affine expressions: how they lie in memory; the small tests; validity; condition: what the arguments hold. -/
import Derived.Test.YtkhlaphegnldeaaDoorSlInt
import Derived.Test.YtkhlaphegnldeaaDoorFitsW
namespace Go.Proofs.YtkhlaphegnldeaaDoor
set_option linter.unusedVariables false
set_option linter.unusedSimpArgs false
open Go.RowKit

/-- An affine expression: coefficients and constant. -/
abbrev Aff := List Int × Int
def AffR (P : Nat → Prop) (w : World) (v : Value) (x : Aff) : Prop := ∃ va, v = .agg #[va, .int .i64 x.2] ∧ Sl Sh.int P w va x.1
theorem AffR.below {P : Nat → Prop} {w w' : World} {v : Value} {x : Aff} (h : AffR P w v x) (hb : Below w.heap.size w w') : AffR P w' v x := by
  obtain ⟨va, e, hs⟩ := h
  exact ⟨va, e, hs.below hb⟩
theorem AffR.mono {P Q : Nat → Prop} {w : World} {v : Value} {x : Aff} (hp : ∀ b, P b → b < w.heap.size → Q b) (h : AffR P w v x) : AffR Q w v x := by
  obtain ⟨va, e, hs⟩ := h
  exact ⟨va, e, hs.mono hp⟩
theorem AffR.any {P : Nat → Prop} {w : World} {v : Value} {x : Aff} (h : AffR P w v x) : AffR (fun _ => True) w v x := h.mono fun _ _ _ => trivial
theorem AffR.grown {P : Nat → Prop} {w w' : World} {v : Value} {x : Aff} {r : Option Nat} (h : AffR P w v x) (hg : w.grownBy w' r) (hP : ∀ b, P b → r ≠ some b) : AffR P w' v x := by
  obtain ⟨va, e, hs⟩ := h
  exact ⟨va, e, hs.grown hg hP⟩
theorem AffR.shape {P : Nat → Prop} {w : World} {v : Value} {x : Aff} (h : AffR P w v x) : ∃ a c, v = .agg #[.slice a x.1.length c, .int .i64 x.2] ∧ x.1.length ≤ c ∧ x.1.length ≤ 17592186044416 ∧ Sl Sh.int P w (.slice a x.1.length c) x.1 := by
  obtain ⟨va, rfl, hs⟩ := h
  obtain ⟨a, c, rfl, h1, h2, _⟩ := hs.form
  exact ⟨a, c, rfl, h1, h2, hs⟩

def affV (x : Aff) : Bool := decide (x.1.length = 4) && inB x.2 (-99) 99 && !x.1.any (fun c => !inB c (-9) 9)
theorem affV_len {x : Aff} (h : affV x = true) : x.1.length = 4 := by
  simp [affV] at h
  exact h.1.1
theorem affV_const {x : Aff} (h : affV x = true) : -99 ≤ x.2 ∧ x.2 ≤ 99 := by
  simp [affV, inB] at h
  exact h.1.2
theorem affV_coef {x : Aff} (h : affV x = true) : ∀ c ∈ x.1, -9 ≤ c ∧ c ≤ 9 := by
  simp [affV, inB] at h
  exact h.2
theorem affV_getD {x : Aff} (h : affV x = true) (i : Nat) : -9 ≤ x.1.getD i 0 ∧ x.1.getD i 0 ≤ 9 := by
  rw [List.getD]
  cases e : x.1[i]? with
  | none => simp
  | some c => exact affV_coef h c (List.mem_of_getElem? e)

set_option maxHeartbeats 400000 in
theorem isConst_any (n : Int) (w : World) : Calls Tryd.prog 24 #[.int .i64 n] w fun e w' => e = .returned (.bool (inB n (-99) 99)) ∧ w = w' := by
  go_enter Tryd.func24, Tryd.ntmps24
  go_wp2_with (go_at_call 39; refine (within_any _ _ _ _).mono ?_; rintro e w' ⟨rfl, rfl⟩)
  go_ret
  exact ⟨rfl, rfl⟩
set_option maxHeartbeats 400000 in
theorem affV1_any (n : Int) (w : World) : Calls Tryd.prog 38 #[.int .i64 n] w fun e w' => e = .returned (.bool (!inB n (-9) 9)) ∧ w = w' := by
  go_enter Tryd.func38, Tryd.ntmps38
  go_wp2_with (go_at_call 39; refine (within_any _ _ _ _).mono ?_; rintro e w' ⟨rfl, rfl⟩)
  go_ret
  exact ⟨rfl, rfl⟩
theorem Tryd.egAffV1 : ∀ args w, (callFunc 38 args).run Tryd.prog w = .ok (.enter 38 args) w := fun _ _ => by kernel_rfl
set_option maxHeartbeats 400000 in
theorem containsFunc_any (P : Nat → Prop) (g : Nat) (lb : Array Value) (eg : ∀ args w, (callFunc g args).run Tryd.prog w = .ok (.enter g args) w) (p : Int → Bool) (a : Option Addr) (n c : Nat) (xs : List Int) (w : World) (hx : Sl Sh.int P w (.slice a n c) xs)
    (hp : ∀ x, Calls Tryd.prog g (#[.int .i64 x] ++ lb) w fun e w' => e = .returned (.bool (p x)) ∧ w = w') :
    Calls Tryd.prog 37 #[.slice a n c, .func (.func g) #[] lb] w fun e w' => e = .returned (.bool (xs.any p)) ∧ w = w' := by
  have hd : decide (0 ≤ findI p xs) = xs.any p := by
    unfold findI
    cases h : xs.any p
    · simp
    · simp
  have Hd := hid hd
  have Hp := hid hp
  clear hd hp
  go_enter Tryd.func37, Tryd.ntmps37
  go_wp2_with (go_at_call 44; refine (indexFunc_any P g lb eg p _ _ _ xs _ hx Hp.out).mono ?_; rintro e w' ⟨rfl, rfl⟩)
  go_ret
  exact ⟨ret_bool Hd.out, rfl⟩

set_option maxHeartbeats 800000 in
theorem implAffV_any (P : Nat → Prop) (v : Value) (x : Aff) (w : World) (h : AffR P w v x) :
    Calls Tryd.prog 21 #[v] w fun e w' => e = .returned (.bool (affV x)) ∧ Below w.heap.size w w' := by
  obtain ⟨a, c, rfl, h1, h2, hs⟩ := h.shape
  obtain ⟨co, k⟩ := x
  simp only at hs h1 h2 ⊢
  have haf : affV (co, k) = (decide (co.length = 4) && inB k (-99) 99 && !co.any (fun c => !inB c (-9) 9)) := rfl
  have Haf := hid haf; clear haf
  have hs' := hs.alloc (.cells #[.slice a co.length c, .int .i64 k] 25)
  by_cases h4 : co.length = 4
  · have h4' : (((co.length : Nat) : Int) == 4) = true := by simp; omega
    have H4 := hid h4
    clear h4
    cases hk : inB k (-99) 99
    · go_enter Tryd.func21, Tryd.ntmps21
      go_wp2_with (go_at_call 24; refine (isConst_any _ _).mono ?_; rintro e w' ⟨rfl, rfl⟩; rw [hk])
      go_ret
      exact ⟨ret_bool (by rw [Haf.out, hk]; simp), (Below.refl _ _).alloc (Nat.le_refl _) _⟩
    · go_enter Tryd.func21, Tryd.ntmps21
      go_wp2_with (first
        | (go_at_call 24; refine (isConst_any _ _).mono ?_; rintro e w' ⟨rfl, rfl⟩; rw [hk])
        | (go_at_call 37; refine (containsFunc_any P 38 #[] Tryd.egAffV1 (fun c => !inB c (-9) 9) _ _ _ co _ hs' (fun x => affV1_any x _)).mono ?_; rintro e w' ⟨rfl, rfl⟩))
      go_ret
      exact ⟨ret_bool (by rw [Haf.out, hk, H4.out]; simp), (Below.refl _ _).alloc (Nat.le_refl _) _⟩
  · have h4' : (((co.length : Nat) : Int) == 4) = false := by simp; omega
    have H4 := hid h4
    clear h4
    go_enter Tryd.func21, Tryd.ntmps21
    go_wp2
    go_ret
    exact ⟨ret_bool (by rw [Haf.out, decide_eq_false H4.out]; simp), (Below.refl _ _).alloc (Nat.le_refl _) _⟩
end Go.Proofs.YtkhlaphegnldeaaDoor
