/- Part 2 of 5 of the proof: laws on memory and data, then what the functions compute, in the order in which they build on each other; conditions: those that each theorem names. -/
import Derived.Deep.RegionLaw
import Derived.Maps.OwnSet
import Derived.Lib.SliceRun
import Derived.Shelf.Abstract
import Derived.Deep.RegionHeld3
import Derived.IntWalk
import Derived.Laws.BitsAllLaws
import Derived.Test.YtollooimmfngjaaP1
set_option maxRecDepth 100000
set_option maxHeartbeats 1600000

namespace Go.Proofs.Ytollooimmfngjaa
set_option linter.unusedVariables false
set_option linter.unusedSimpArgs false
open Go.RowKit
/-- The caller's number of the callee's box k: (callee, caller). -/
abbrev asc (inv : Inv) : Nat → Nat := oldOf inv
def renR (ρ : Nat → Nat) (rows : List (List C)) : List (List C) := rows.map (·.map (C.ren ρ))
theorem renR_dR (ρ : Nat → Nat) (rows : List (List D)) : renR ρ (dR rows) = dR rows := by
  unfold renR dR
  rw [List.map_map]
  refine List.map_congr_left fun r _ => ?_
  show (r.map C.d).map (C.ren ρ) = r.map C.d
  rw [List.map_map]
  rfl
def hbIn (σ : St) (inv : Inv) : St → Prop
  | [] => True
  | (.b k, .b e sz rows) :: l => lk σ (.b (asc inv k)) = .b e sz (renR (asc inv) rows) ∧ hbIn σ inv l
  | (.u _, .u) :: l => hbIn σ inv l
  | _ => False
def outS (inv : Inv) : St → St
  | [] => []
  | (.b k, .b e sz rows) :: l => (.b (asc inv k), .b e sz (renR (asc inv) rows)) :: outS inv l
  | (.u k, .u) :: l => (.u (asc inv k), .u) :: outS inv l
  | _ :: l => outS inv l
def killS (inv : Inv) : St → St
  | [] => []
  | (.b k, .b _ _ _) :: l => (.b (asc inv k), .no) :: killS inv l
  | _ :: l => killS inv l
def keys (σ : St) : List Res := σ.map (·.1)
/-- Numbers: each that is named stands in inv; what comes anew is new to the caller. -/
def numOk (σ : St) (inv : Inv) (hb hb' : St) : Bool :=
  inv.all (fun p => inv.all fun q => (Nat.beq p.1 q.1) == (Nat.beq p.2 q.2)) &&
  (hb ++ hb').all (fun x => match x.1 with
    | .b k => inv.any fun p => Nat.beq p.1 k
    | .u k => inv.any fun p => Nat.beq p.1 k
    | .t _ => false) &&
  hb'.all (fun x => match x.1 with
    | .b k => Nat.ble k 99 || ((match lk σ (.u (asc inv k)) with | .no => true | _ => false) && Nat.ble 100 (asc inv k) && (Nat.ble 1000 (asc inv k) || hb.all fun y => match y.1 with
      | .b l => Nat.ble 100 (asc inv l) && Nat.ble (asc inv l) 999
      | _ => true))
    | .u k => Nat.ble k 99 || (match lk σ (.u (asc inv k)) with | .no => true | _ => false)
    | .t _ => false)
def callable (P : Program) (f : FuncId) : Bool := match P.funcs[f]? with
  | some fn => !(fn.name == "runtime.NumGoroutine") && !fn.body.isNone
  | none => false
theorem run_callFunc {P : Program} {f : FuncId} (h : callable P f = true) (args : Array Value) (w : World) : (callFunc f args).run P w = .ok (.enter f args) w := by
  unfold callable at h
  cases hf : P.funcs[f]? with
  | none => rw [hf] at h; cases h
  | some fn =>
    rw [hf] at h
    simp only [Bool.and_eq_true, Bool.not_eq_true'] at h
    have h1 : fn.name ≠ "runtime.NumGoroutine" := by simpa using h.1
    have h2 : fn.body ≠ none := by intro e; rw [e] at h; cases h.2
    simp [callFunc, hf, h1, h2]
theorem run_callV {P : Program} {f : FuncId} (h : callable P f = true) {ρ : Operand → Value} {o : Oper} {fo : Operand} {xs : Array Operand} {ts : Array TypeId} (ho : o.op = .call { callee := .value fo, args := xs, argTypes := ts }) {cap : Array Value} (hf : ρ fo = .func (.func f) #[] cap) (w : World) :
    (execOp ρ o).run P w = .ok (.enter f (xs.map ρ ++ cap)) w := by
  simp [execOp, ho, resolve, hf, Deferred.ofValue, invoke, run_callFunc h]

section
variable {inv : Inv} {hb hb' σ : St}
theorem numOk_inj (h : numOk σ inv hb hb' = true) {p q : Nat × Nat} (hp : p ∈ inv) (hq : q ∈ inv) : p.1 = q.1 ↔ p.2 = q.2 := by
  simp only [numOk, Bool.and_eq_true] at h
  have := List.all_eq_true.1 (List.all_eq_true.1 h.1.1 p hp) q hq
  simp only [beq_iff_eq] at this
  constructor
  · intro e
    rw [e, Nat.beq_refl] at this
    exact Nat.eq_of_beq_eq_true this.symm
  · intro e
    rw [e, Nat.beq_refl] at this
    exact Nat.eq_of_beq_eq_true this
theorem asc_mem (h : numOk σ inv hb hb' = true) {k l : Nat} (hm : (k, l) ∈ inv) : asc inv k = l := by
  show oldOf inv k = l
  unfold oldOf
  cases hf : inv.find? fun p => Nat.beq p.1 k with
  | none =>
    have := List.find?_eq_none.1 hf (k, l) hm
    simp at this
  | some p =>
    have h1 := List.mem_of_find?_eq_some hf
    have h2 := List.find?_some hf
    exact ((numOk_inj h h1 hm).1 (Nat.eq_of_beq_eq_true h2))
def Key (inv : Inv) (k : Nat) : Prop := (k, asc inv k) ∈ inv
theorem key_inj (h : numOk σ inv hb hb' = true) {k l : Nat} (hk : Key inv k) (hl : Key inv l) (e : asc inv k = asc inv l) : k = l := (numOk_inj h hk hl).2 e
theorem numOk_key (h : numOk σ inv hb hb' = true) {r : Res} {x : RC} (hm : (r, x) ∈ hb ∨ (r, x) ∈ hb') : (∃ k, r = .b k ∧ Key inv k) ∨ ∃ k, r = .u k ∧ Key inv k := by
  have h0 := h
  simp only [numOk, Bool.and_eq_true] at h
  have h1 := List.all_eq_true.1 h.1.2 (r, x) (List.mem_append.2 hm)
  cases r with
  | t n => cases h1
  | b k =>
    obtain ⟨p, hp, h2⟩ := List.any_eq_true.1 h1
    have := Nat.eq_of_beq_eq_true h2
    subst this
    exact .inl ⟨_, rfl, by rw [Key, asc_mem h0 hp]; exact hp⟩
  | u k =>
    obtain ⟨p, hp, h2⟩ := List.any_eq_true.1 h1
    have := Nat.eq_of_beq_eq_true h2
    subst this
    exact .inr ⟨_, rfl, by rw [Key, asc_mem h0 hp]; exact hp⟩
theorem key_b (h : numOk σ inv hb hb' = true) {k : Nat} {x : RC} (hm : (Res.b k, x) ∈ hb ∨ (Res.b k, x) ∈ hb') : Key inv k := by
  rcases numOk_key h hm with ⟨l, e, hl⟩ | ⟨l, e, hl⟩
  · cases e; exact hl
  · cases e
theorem numOk_new (h : numOk σ inv hb hb' = true) {k : Nat} {x : RC} (hm : (Res.b k, x) ∈ hb') (hk : 100 ≤ k) : lk σ (.u (asc inv k)) = .no ∧ 100 ≤ asc inv k ∧ (1000 ≤ asc inv k ∨ ∀ l x, (Res.b l, x) ∈ hb → 100 ≤ asc inv l ∧ asc inv l < 1000) := by
  simp only [numOk, Bool.and_eq_true] at h
  have h1 := List.all_eq_true.1 h.2 _ hm
  simp only [Bool.or_eq_true, Bool.and_eq_true] at h1
  rcases h1 with h1 | ⟨⟨h1, h2⟩, h3⟩
  · have := Nat.le_of_ble_eq_true h1; omega
  · refine ⟨?_, Nat.le_of_ble_eq_true h2, ?_⟩
    · split at h1
      · assumption
      · cases h1
    · rcases h3 with h3 | h3
      · exact .inl (Nat.le_of_ble_eq_true h3)
      · refine .inr fun l x hl => ?_
        have h4 := List.all_eq_true.1 h3 _ hl
        simp only [Bool.and_eq_true] at h4
        have := Nat.le_of_ble_eq_true h4.1; have := Nat.le_of_ble_eq_true h4.2
        omega
end
theorem hbIn_at {σ hb : St} {inv : Inv} : ∀ {l : St}, hbIn σ inv l → ∀ {k : Nat} {e : TypeId} {sz : Nat} {rows : List (List C)}, (Res.b k, RC.b e sz rows) ∈ l → lk σ (.b (asc inv k)) = .b e sz (renR (asc inv) rows)
  | [], _, _, _, _, _, h => by cases h
  | p :: l, hk, k, e, sz, rows, h => by
    rcases List.mem_cons.1 h with rfl | h2
    · exact hk.1
    · clear h
      obtain ⟨r, c⟩ := p
      cases r <;> cases c <;> first | exact hk.elim | exact hbIn_at (hb := hb) hk.2 h2 | exact hbIn_at (hb := hb) (l := l) hk h2
theorem outS_b {inv : Inv} : ∀ {l : St} {m : Nat} {x : RC}, (Res.b m, x) ∈ outS inv l → ∃ k e sz rows, (Res.b k, RC.b e sz rows) ∈ l ∧ m = asc inv k ∧ x = .b e sz (renR (asc inv) rows)
  | [], _, _, h => by cases h
  | p :: l, m, x, h => by
    obtain ⟨r, c⟩ := p
    cases r <;> cases c
    case b.b k e sz rows =>
      rcases List.mem_cons.1 h with h | h
      · cases h; exact ⟨k, e, sz, rows, List.mem_cons_self, rfl, rfl⟩
      · obtain ⟨k, e, sz, rows, h1, h2⟩ := outS_b h; exact ⟨k, e, sz, rows, List.mem_cons_of_mem _ h1, h2⟩
    case u.u k =>
      rcases List.mem_cons.1 h with h | h
      · cases h
      · obtain ⟨k, e, sz, rows, h1, h2⟩ := outS_b h; exact ⟨k, e, sz, rows, List.mem_cons_of_mem _ h1, h2⟩
    all_goals (obtain ⟨k, e, sz, rows, h1, h2⟩ := outS_b (l := l) h; exact ⟨k, e, sz, rows, List.mem_cons_of_mem _ h1, h2⟩)
theorem outS_u {inv : Inv} : ∀ {l : St} {m : Nat} {x : RC}, (Res.u m, x) ∈ outS inv l → ∃ k, (Res.u k, RC.u) ∈ l ∧ m = asc inv k ∧ x = .u
  | [], _, _, h => by cases h
  | p :: l, m, x, h => by
    obtain ⟨r, c⟩ := p
    cases r <;> cases c
    case b.b k e sz rows =>
      rcases List.mem_cons.1 h with h | h
      · cases h
      · obtain ⟨k, h1, h2⟩ := outS_u h; exact ⟨k, List.mem_cons_of_mem _ h1, h2⟩
    case u.u k =>
      rcases List.mem_cons.1 h with h | h
      · cases h; exact ⟨k, List.mem_cons_self, rfl, rfl⟩
      · obtain ⟨k, h1, h2⟩ := outS_u h; exact ⟨k, List.mem_cons_of_mem _ h1, h2⟩
    all_goals (obtain ⟨k, h1, h2⟩ := outS_u (l := l) h; exact ⟨k, List.mem_cons_of_mem _ h1, h2⟩)
/-- Lists of boxes in which each box stands with its contents. -/
def flatS (hb : St) : Prop := (∀ k e sz rows, (Res.b k, RC.b e sz rows) ∈ hb → lk hb (.b k) = .b e sz rows) ∧ (∀ k x, (Res.b k, x) ∈ hb → ∃ e sz rows, x = .b e sz rows) ∧ ∀ k x, (Res.u k, x) ∈ hb → x = .u
theorem flatS.nil : flatS [] := ⟨fun k e sz rows h => (by cases h), fun k x h => (by cases h), fun k x h => (by cases h)⟩
theorem flatS.cons {hb : St} (h : flatS hb) {k : Nat} {e : TypeId} {sz : Nat} {rows : List (List C)} (hk : lk hb (.b k) = .no) : flatS ((.b k, .b e sz rows) :: (.u k, .u) :: hb) := by
  refine ⟨fun l e' sz' rows' hm => ?_, fun l x hm => ?_, fun l x hm => ?_⟩
  · rcases List.mem_cons.1 hm with hm | hm
    · cases hm; rw [lk_cons, upd_same]
    · rcases List.mem_cons.1 hm with hm | hm
      · cases hm
      · have h1 := h.1 l e' sz' rows' hm
        have hne : l ≠ k := fun e1 => by subst e1; rw [hk] at h1; cases h1
        rw [lk_cons, upd_other _ _ (by simpa using hne), lk_cons, upd_other _ _ (by simp)]; exact h1
  · rcases List.mem_cons.1 hm with hm | hm
    · cases hm; exact ⟨_, _, _, rfl⟩
    · rcases List.mem_cons.1 hm with hm | hm
      · cases hm
      · exact h.2.1 l x hm
  · rcases List.mem_cons.1 hm with hm | hm
    · cases hm
    · rcases List.mem_cons.1 hm with hm | hm
      · cases hm; rfl
      · exact h.2.2 l x hm

/-- Behind a call: the state τn tells of the world w'. -/
theorem SR.called {E : Env} {bx bxc : Nat → Nat × Nat} {τ τn : Res → RC} {a : Act} {w w' : World} {hb hb' : St} {ρ : Nat → Nat} {y : V} {v : Value} {K : Nat → Prop} (hs : SR E bx τ a w)
    (hpost : HPost (fun k => bx (ρ k)) bxc (Bf E bx τ) w w' (lk hb) (lk hb') y v)
    (hin : ∀ k, Al (lk hb) k → Al τ (ρ k)) (hinj : ∀ k l, K k → K l → ρ k = ρ l → k = l) (hK : ∀ k, Al (lk hb) k → K k) (hK' : ∀ k, lk hb' (.u k) ≠ .no → K k)
    (hHB' : HB hb') (hyK : ∀ k ∈ y.refs, K k)
    (tt : ∀ t, τn (.t t) = τ (.t t)) (tb : ∀ k e sz rows, lk hb' (.b k) = .b e sz rows → τn (.b (ρ k)) = .b e sz (renR ρ rows))
    (tk : ∀ l e sz rows, τn (.b l) = .b e sz rows → (∃ k rows0, l = ρ k ∧ lk hb' (.b k) = .b e sz rows0 ∧ rows = renR ρ rows0) ∨ ((∀ k, K k → l ≠ ρ k) ∧ τ (.b l) = .b e sz rows))
    (tu : ∀ k, lk hb' (.u k) ≠ .no → τn (.u (ρ k)) ≠ .no) (tu' : ∀ l, τn (.u l) = .no → τ (.u l) = .no)
    (hnew : ∀ k, Al (lk hb') k → 100 ≤ k → τ (.u (ρ k)) = .no ∧ 100 ≤ ρ k ∧ (1000 ≤ ρ k ∨ ∀ l, Al (lk hb) l → 100 ≤ ρ l ∧ ρ l < 1000)) :
    ∃ bxn, SR E bxn τn a w' ∧ Vr bxn (Al τn) (Bf E bxn τn) w' (y.ren ρ) v := by
  have hex : ∃ bxn : Nat → Nat × Nat, (∀ k, K k → Al (lk hb') k → bxn (ρ k) = bxc k) ∧ ∀ l, (¬ ∃ k, K k ∧ ρ k = l ∧ Al (lk hb') k) → bxn l = bx l := by
    classical
    refine ⟨fun l => if h : ∃ k, K k ∧ ρ k = l ∧ Al (lk hb') k then bxc (Classical.choose h) else bx l, fun k h1 h2 => ?_, fun l h => ?_⟩
    · have h : ∃ k', K k' ∧ ρ k' = ρ k ∧ Al (lk hb') k' := ⟨k, h1, rfl, h2⟩
      have h3 := Classical.choose_spec h
      show (if h : ∃ k', K k' ∧ ρ k' = ρ k ∧ Al (lk hb') k' then bxc (Classical.choose h) else bx (ρ k)) = bxc k
      rw [dif_pos h, hinj _ _ h3.1 h1 h3.2.1]
    · show (if h : ∃ k', K k' ∧ ρ k' = l ∧ Al (lk hb') k' then bxc (Classical.choose h) else bx l) = bx l
      rw [dif_neg h]
  obtain ⟨bxn, hbn, hbo⟩ := hex
  have hal : ∀ l, Al τn l → (∃ k, K k ∧ ρ k = l ∧ Al (lk hb') k) ∨ ((∀ k, K k → l ≠ ρ k) ∧ Al τ l) := by
    rintro l ⟨e, sz, rows, h⟩
    rcases tk l e sz rows h with ⟨k, rows0, h1, h2, _⟩ | ⟨h1, h2⟩
    · have h3 : Al (lk hb') k := ⟨_, _, _, h2⟩
      exact .inl ⟨k, hK' k (hHB'.al k h3), h1.symm, h3⟩
    · exact .inr ⟨h1, _, _, _, h2⟩
  have hno : ∀ l, (∀ k, K k → l ≠ ρ k) → bxn l = bx l := fun l h => hbo l fun ⟨k, h1, h2, _⟩ => h k h1 h2.symm
  have hsame : Same (Bf E bx τ) w w' := fun b hb hl => hpost.old b hl fun k hk => hb.2 (ρ k) (hin k hk)
  have hbf : ∀ b, Bf E bx τ b → b < w.heap.size → Bf E bxn τn b := fun b hb hl => by
    refine ⟨hb.1, fun l hl' e => ?_⟩
    rcases hal l hl' with ⟨k, h1, h2, h3⟩ | ⟨h1, h2⟩
    · subst h2
      rw [hbn k h1 h3] at e
      rcases hpost.new k h3 with h4 | ⟨l0, h4, h5⟩
      · omega
      · exact hb.2 (ρ l0) (hin l0 h4) (e.trans h5.symm)
    · rw [hno l h1] at e
      exact hb.2 l h2 e
  have href : ∀ k0, τ (.u k0) ≠ .no → Al τn k0 → Al τ k0 ∧ bxn k0 = bx k0 := fun k0 h1 h2 => by
    rcases hal k0 h2 with ⟨k, h3, h4, h5⟩ | ⟨h3, h4⟩
    · subst h4
      by_cases h100 : k < 100
      · obtain ⟨h6, h7⟩ := hpost.same k h100 h5
        exact ⟨hin k h6, (hbn k h3 h5).trans h7⟩
      · exact absurd (hnew k h5 (by omega)).1 h1
    · exact ⟨h4, hno k0 h3⟩
  have hbaft : ∀ b, Baft bxc (Bf E bx τ) w (lk hb') b → b < w'.heap.size → Bf E bxn τn b := fun b hb _ => by
    refine ⟨?_, fun l hl' e => ?_⟩
    · rcases hb.1 with h1 | h1
      · exact h1.1
      · exact .inr (Nat.le_trans hs.hsize h1)
    · rcases hal l hl' with ⟨k, h1, h2, h3⟩ | ⟨h1, h2⟩
      · subst h2
        rw [hbn k h1 h3] at e
        exact hb.2 k h3 e
      · rw [hno l h1] at e
        rcases hb.1 with h3 | h3
        · exact h3.2 l h2 e
        · have := hs.lt h2; omega
  have hto : ∀ k, K k → Al τn (ρ k) → Al (lk hb') k ∧ bxn (ρ k) = bxc k := fun k h1 h2 => by
    rcases hal _ h2 with ⟨k', h3, h4, h5⟩ | ⟨h3, _⟩
    · have := hinj _ _ h3 h1 h4
      subst this
      exact ⟨h5, hbn _ h3 h5⟩
    · exact absurd rfl (h3 k h1)
  refine ⟨bxn, ⟨fun t x ht => ?_, fun l e sz rows hl => ?_, fun l m hl hm he => ?_, fun l hl => ⟨fun h => ?_, fun t x ht hr => ?_, fun m e sz rows hm r hr c hc hr' => ?_⟩, hs.size, hs.defers, fun l hl => ?_, hs.mtl, fun l g hm hl => ?_, hpost.os.trans hs.os, hpost.tape.trans hs.tape, hpost.output.trans hs.output, Nat.le_trans hs.hsize hpost.size, fun b hb hm => ?_⟩, Vr.ren.1 (hpost.val.to (Same.refl _ _) hbaft (fun k hk h => hto k (hyK k hk) h))⟩
  · rw [tt] at ht
    exact (hs.slot t x ht).to hsame hbf (fun k0 hk0 => href k0 (fun hu => (hs.unused k0 hu).2.1 t x ht hk0))
  · rcases tk l e sz rows hl with ⟨k, rows0, rfl, h2, rfl⟩ | ⟨h1, h2⟩
    · have h3 : Al (lk hb') k := ⟨_, _, _, h2⟩
      rw [hbn k (hK' k (hHB'.al k h3)) h3]
      obtain ⟨cur, q1, q2, q3, q4, q5⟩ := hpost.ok.box k e sz rows0 h2
      refine ⟨cur, q1, q2, by rw [renR, List.length_map]; exact q3, fun i r hi => ?_, fun i r j c hi hj => ?_⟩
      · rw [renR, List.getElem?_map] at hi
        cases hr : rows0[i]? with
        | none => rw [hr] at hi; cases hi
        | some r0 => rw [hr] at hi; cases hi; rw [List.length_map]; exact q4 i r0 hr
      · rw [renR, List.getElem?_map] at hi
        cases hr : rows0[i]? with
        | none => rw [hr] at hi; cases hi
        | some r0 =>
          rw [hr] at hi; cases hi
          rw [List.getElem?_map] at hj
          cases hc : r0[j]? with
          | none => rw [hc] at hj; cases hj
          | some c0 =>
            rw [hc] at hj; cases hj
            obtain ⟨u, h6, h7⟩ := q5 i r0 j c0 hr hc
            exact ⟨u, h6, Cr.ren.1 (h7.to (Same.refl _ _) hbaft (fun k1 hk1 h => hto k1 (hK' k1 (hHB'.refs k e sz rows0 h2 r0 (List.mem_of_getElem? hr) c0 (List.mem_of_getElem? hc) k1 hk1)) h))⟩
    · rw [hno l h1]
      obtain ⟨cur, q1, q2, q3, q4, q5⟩ := hs.box l e sz rows h2
      have h3 : Al τ l := ⟨_, _, _, h2⟩
      refine ⟨cur, (hpost.old _ (hs.lt h3) (fun k hk e1 => h1 k (hK k hk) (hs.inj _ _ h3 (hin k hk) e1))).trans q1, q2, q3, q4, fun i r j c hi hj => ?_⟩
      obtain ⟨u, h6, h7⟩ := q5 i r j c hi hj
      exact ⟨u, h6, h7.to hsame hbf (fun k0 hk0 => href k0 (fun hu => (hs.unused k0 hu).2.2 l e sz rows h2 r (List.mem_of_getElem? hi) c (List.mem_of_getElem? hj) hk0))⟩
  · have hsep : ∀ k m, K k → Al (lk hb') k → (∀ k, K k → m ≠ ρ k) → Al τ m → (bxc k).1 ≠ (bx m).1 := fun k m h1 h2 h3 h4 e => by
      rcases hpost.new k h2 with h5 | ⟨l0, h5, h6⟩
      · have := hs.lt h4; omega
      · exact h3 l0 (hK l0 h5) (hs.inj _ _ h4 (hin l0 h5) (e.symm.trans h6.symm))
    rcases hal l hl with ⟨k, h1, rfl, h3⟩ | ⟨h1, h2⟩ <;> rcases hal m hm with ⟨k2, g1, rfl, g3⟩ | ⟨g1, g2⟩
    · rw [hbn k h1 h3, hbn k2 g1 g3] at he
      rw [hpost.ok.inj k k2 h3 g3 he]
    · rw [hbn k h1 h3, hno m g1] at he
      exact absurd he (hsep k m h1 h3 g1 g2)
    · rw [hbn k2 g1 g3, hno l h1] at he
      exact absurd he.symm (hsep k2 l g1 g3 h1 h2)
    · rw [hno l h1, hno m g1] at he
      exact hs.inj l m h2 g2 he
  · rcases hal l h with ⟨k, h1, rfl, h3⟩ | ⟨h1, h2⟩
    · exact tu k (hHB'.al k h3) hl
    · exact (hs.unused l (tu' l hl)).1 h2
  · rw [tt] at ht
    exact (hs.unused l (tu' l hl)).2.1 t x ht hr
  · rcases tk m e sz rows hm with ⟨k, rows0, rfl, h2, rfl⟩ | ⟨h1, h2⟩
    · obtain ⟨r0, hr0, rfl⟩ := List.mem_map.1 hr
      obtain ⟨c0, hc0, rfl⟩ := List.mem_map.1 hc
      obtain ⟨k1, hk1, rfl⟩ := C.refs_ren hr'
      exact tu k1 (hHB'.refs k e sz rows0 h2 r0 hr0 c0 hc0 k1 hk1) hl
    · exact (hs.unused l (tu' l hl)).2.2 m e sz rows h2 r hr c hc hr'
  · rcases hal l hl with ⟨k, h1, rfl, h3⟩ | ⟨h1, h2⟩
    · rw [hbn k h1 h3]
      by_cases h100 : k < 100
      · obtain ⟨h6, h7⟩ := hpost.same k h100 h3
        rw [h7]; exact hs.own (ρ k) (hin k h6)
      · obtain ⟨_, h7, h8⟩ := hnew k h3 (by omega)
        rcases hpost.new k h3 with h9 | ⟨l0, h9, h10⟩
        · exact .inl (Nat.le_trans hs.hsize h9)
        · rw [← h10]
          rcases hs.own (ρ l0) (hin l0 h9) with g1 | ⟨g1, g2⟩
          · exact .inl g1
          · rcases h8 with h8 | h8
            · exact .inr ⟨.inr h8, g2⟩
            · have := h8 l0 h9; omega
    · rw [hno l h1]; exact hs.own l h2
  · rcases hal l hl with ⟨k, h1, rfl, h3⟩ | ⟨h1, h2⟩
    · rw [hbn k h1 h3]
      by_cases h100 : k < 100
      · obtain ⟨h6, h7⟩ := hpost.same k h100 h3
        rw [h7]; exact hs.ent (ρ k) g hm (hin k h6)
      · have h7 := hs.mtl _ hm
        have h8 := (hnew k h3 (by omega)).2.1
        simp at h7; omega
    · rw [hno l h1]; exact hs.ent l g hm h2
  · refine (hpost.old b (Nat.lt_of_lt_of_le hb hs.hsize) fun k hk e => ?_).trans (hs.old b hb hm)
    rcases hs.own (ρ k) (hin k hk) with h1 | ⟨_, p, hp, h1⟩
    · have e' : b = (bx (ρ k)).1 := e
      omega
    · exact hm p.1 p.2 hp (e.trans h1.symm)
theorem lk_app_o : ∀ {l1 l2 : St} {r : Res}, r ∉ keys l1 → lk (l1 ++ l2) r = lk l2 r
  | [], _, _, _ => rfl
  | (q, x) :: l, l2, r, h => by
    simp only [keys, List.map_cons, List.mem_cons, not_or] at h
    rw [List.cons_append, lk_cons, upd_other _ _ h.1]
    exact lk_app_o h.2
theorem lk_app_s : ∀ {l1 l2 : St} {r : Res}, r ∈ keys l1 → lk (l1 ++ l2) r = lk l1 r
  | [], _, _, h => by cases h
  | (q, x) :: l, l2, r, h => by
    rw [List.cons_append, lk_cons, lk_cons]
    by_cases e : r = q
    · subst e; rw [upd_same, upd_same]
    · rw [upd_other _ _ e, upd_other _ _ e]
      simp only [keys, List.map_cons, List.mem_cons] at h
      exact lk_app_s (h.resolve_left e)
theorem lk_key : ∀ {l : St} {r : Res}, r ∈ keys l → (r, lk l r) ∈ l
  | [], _, h => by cases h
  | (q, x) :: l, r, h => by
    rw [lk_cons]
    by_cases e : r = q
    · subst e; rw [upd_same]; exact List.mem_cons_self
    · rw [upd_other _ _ e]
      simp only [keys, List.map_cons, List.mem_cons] at h
      exact List.mem_cons_of_mem _ (lk_key (h.resolve_left e))
theorem key_of {l : St} {r : Res} {x : RC} (h : (r, x) ∈ l) : r ∈ keys l := List.mem_map.2 ⟨_, h, rfl⟩
theorem outS_b' {inv : Inv} : ∀ {l : St} {k : Nat} {e : TypeId} {sz : Nat} {rows : List (List C)}, (Res.b k, RC.b e sz rows) ∈ l → (Res.b (asc inv k), RC.b e sz (renR (asc inv) rows)) ∈ outS inv l
  | [], _, _, _, _, h => by cases h
  | p :: l, k, e, sz, rows, h => by
    rcases List.mem_cons.1 h with rfl | h2
    · exact List.mem_cons_self
    · clear h
      obtain ⟨r, c⟩ := p
      cases r <;> cases c <;> first | exact List.mem_cons_of_mem _ (outS_b' h2) | exact outS_b' (l := l) h2
theorem outS_u' {inv : Inv} : ∀ {l : St} {k : Nat}, (Res.u k, RC.u) ∈ l → (Res.u (asc inv k), RC.u) ∈ outS inv l
  | [], _, h => by cases h
  | p :: l, k, h => by
    rcases List.mem_cons.1 h with rfl | h2
    · exact List.mem_cons_self
    · clear h
      obtain ⟨r, c⟩ := p
      cases r <;> cases c <;> first | exact List.mem_cons_of_mem _ (outS_u' h2) | exact outS_u' (l := l) h2
theorem killS_b {inv : Inv} : ∀ {l : St} {r : Res} {x : RC}, (r, x) ∈ killS inv l → x = .no ∧ ∃ k e sz rows, (Res.b k, RC.b e sz rows) ∈ l ∧ r = .b (asc inv k)
  | [], _, _, h => by cases h
  | p :: l, r', x, h => by
    obtain ⟨r, c⟩ := p
    cases r <;> cases c
    case b.b k e sz rows =>
      rcases List.mem_cons.1 h with h | h
      · cases h; exact ⟨rfl, k, e, sz, rows, List.mem_cons_self, rfl⟩
      · obtain ⟨h0, k, e, sz, rows, h1, h2⟩ := killS_b h; exact ⟨h0, k, e, sz, rows, List.mem_cons_of_mem _ h1, h2⟩
    all_goals (obtain ⟨h0, k, e, sz, rows, h1, h2⟩ := killS_b (l := l) h; exact ⟨h0, k, e, sz, rows, List.mem_cons_of_mem _ h1, h2⟩)
theorem killS_b' {inv : Inv} : ∀ {l : St} {k : Nat} {e : TypeId} {sz : Nat} {rows : List (List C)}, (Res.b k, RC.b e sz rows) ∈ l → Res.b (asc inv k) ∈ keys (killS inv l)
  | [], _, _, _, _, h => by cases h
  | p :: l, k, e, sz, rows, h => by
    rcases List.mem_cons.1 h with rfl | h2
    · exact List.mem_cons_self
    · clear h
      obtain ⟨r, c⟩ := p
      cases r <;> cases c <;> first | exact List.mem_cons_of_mem _ (killS_b' h2) | exact killS_b' (l := l) h2
/-- Each mark has its box. -/
def pairs : St → Bool
  | [] => true
  | (.b k, .b _ _ _) :: (.u l, .u) :: r => Nat.beq k l && pairs r
  | _ => false
theorem pairs_u : ∀ {l : St}, pairs l = true → ∀ {k : Nat} {x : RC}, (Res.u k, x) ∈ l → ∃ e sz rows, (Res.b k, RC.b e sz rows) ∈ l
  | [], _, k, x, h => by cases h
  | [p], hp, k, x, h => by obtain ⟨r, c⟩ := p; cases r <;> cases c <;> cases hp
  | p :: q :: l, hp, k, x, h => by
    obtain ⟨r, c⟩ := p
    obtain ⟨r2, c2⟩ := q
    cases r <;> cases c <;> cases r2 <;> cases c2 <;> first
      | (cases hp; done)
      | (rename_i k0 e sz rows k1
         rw [pairs, Bool.and_eq_true] at hp
         have hk := Nat.eq_of_beq_eq_true hp.1
         subst hk
         rcases List.mem_cons.1 h with h | h
         · cases h
         · rcases List.mem_cons.1 h with h | h
           · cases h; exact ⟨_, _, _, List.mem_cons_self⟩
           · obtain ⟨e, sz, rows, h⟩ := pairs_u hp.2 h
             exact ⟨e, sz, rows, List.mem_cons_of_mem _ (List.mem_cons_of_mem _ h)⟩)

/-- What a function value brings along. -/
def fnx : C → Option (FuncId × List V1)
  | .fn f cap => some (f, cap.map fun c => .c (.ptr c))
  | .fb f k sz => some (f, [.c (.box k sz 0 0)])
  | _ => none
theorem fnx_ok {bx : Nat → Nat × Nat} {al B : Nat → Prop} {w : World} {fc : C} {f : FuncId} {ex : List V1} {v : Value} (h : fnx fc = some (f, ex)) (hv : Cr bx al B w fc v) : ∃ cvs : List Value, v = .func (.func f) #[] cvs.toArray ∧ cvs.length = ex.length ∧ ∀ (i : Nat) x u, ex[i]? = some x → cvs[i]? = some u → V1r bx al B w x u := by
  cases fc with
  | fn f cap =>
    cases h
    obtain ⟨vs, rfl, hl, h⟩ := hv
    refine ⟨vs, rfl, by rw [hl, List.length_map], fun i x u hx hu => ?_⟩
    rw [List.getElem?_map] at hx
    cases hc : cap[i]? with
    | none => rw [hc] at hx; cases hx
    | some c => rw [hc] at hx; cases hx; exact h i c u hc hu
  | fb f k sz =>
    cases h
    obtain ⟨u, rfl, h1, h⟩ := hv
    refine ⟨[u], rfl, rfl, fun i x u' hx hu => ?_⟩
    cases i with
    | zero => cases hx; cases hu; exact ⟨h1, fun hk => by rw [h hk]; simp⟩
    | succ i => simp at hx
  | d x => cases h
  | ptr c => cases h
  | box k sz i j => cases h
  | own k sz n => cases h
  | off k sz i n => cases h
theorem St1.callX {P : Program} {n : Nat} {ops : Array Oper} {o : Oper} {σ : St} {d : Nat} {fo : Operand} {ar : Array Operand} {ts : Array TypeId} {xs : List Operand} {vs : List V1} {fc : C} {f : FuncId} {ex : List V1} {hb hb' : St} {args : List V1} {y : V} (inv : Inv)
    (ho : o.op = .call { callee := .value fo, args := ar, argTypes := ts }) (hg : o.guard = none) (hd : o.dst = some d) (hn : Nat.blt d n = true) (has : ar = xs.toArray) (hfo : ev σ fo = some (.o (.c fc))) (hfx : fnx fc = some (f, ex)) (hcall : callable P f = true) (hx : evL σ xs = some vs) (hF : Fn P f hb args y hb')
    (hargs : args.map (V1.ren (asc inv)) = vs ++ ex) (hbox : hbIn σ inv hb) (hnum : numOk σ inv hb hb' = true) (hfl : flatS hb) (hfl' : flatS hb') (hHB' : HB hb') (hpr : pairs hb' = true) (hy : (y.refs.all fun k => match lk hb' (.u k) with | .u => true | _ => false) = true) :
    St1 P n ops o σ ((rd fo ++ rdL xs) ++ (keys (outS inv hb') ++ keys (killS inv hb))) (.t d :: (keys (outS inv hb') ++ keys (killS inv hb))) ((.t d, .v (y.ren (asc inv))) :: (outS inv hb' ++ (killS inv hb ++ σ))) := by
  have hdis : ∀ r, r ∉ keys (outS inv hb') ++ keys (killS inv hb) → lk (outS inv hb' ++ (killS inv hb ++ σ)) r = lk σ r := fun r hr => by
    rw [List.mem_append, not_or] at hr
    rw [lk_app_o hr.1, lk_app_o hr.2]
  refine ⟨fun r hr => ?_, fun E bx τ a w hE hR hs => OW.plain hg fun Q => ?_⟩
  · rw [List.mem_cons, not_or] at hr
    rw [lk_other _ _ _ _ (fun e => hr.1 e.symm)]
    exact hdis r hr.2
  · have hR1 : ∀ r ∈ rd fo, τ r = lk σ r := rd_l (rd_l hR)
    have hR2 : ∀ r ∈ rdL xs, τ r = lk σ r := rd_r (rd_l hR)
    have hR3 : ∀ r ∈ keys (outS inv hb') ++ keys (killS inv hb), τ r = lk σ r := rd_r hR
    obtain ⟨cvs, hfe, hcl, hcv⟩ := fnx_ok hfx (ev_ok hfo hR1 hs).1
    obtain ⟨⟨q1, q2⟩, _⟩ := evL_ok hx hR2 hs
    subst has
    -- the boxes that are handed
    have hmem : ∀ k e sz rows, lk hb (.b k) = .b e sz rows → (Res.b k, RC.b e sz rows) ∈ hb := fun k e sz rows h => lk_mem h (by simp)
    have hmem' : ∀ k e sz rows, lk hb' (.b k) = .b e sz rows → (Res.b k, RC.b e sz rows) ∈ hb' := fun k e sz rows h => lk_mem h (by simp)
    have hτ : ∀ k e sz rows, lk hb (.b k) = .b e sz rows → τ (.b (asc inv k)) = .b e sz (renR (asc inv) rows) := fun k e sz rows h => by
      rw [hR3 _ (List.mem_append_right _ (killS_b' (hmem k e sz rows h)))]
      exact hbIn_at (hb := hb) hbox (hmem k e sz rows h)
    have hin : ∀ k, Al (lk hb) k → Al τ (asc inv k) := fun k ⟨e, sz, rows, h⟩ => ⟨e, sz, _, hτ k e sz rows h⟩
    have hkey : ∀ k, Al (lk hb) k → Key inv k := fun k ⟨e, sz, rows, h⟩ => key_b hnum (.inl (hmem k e sz rows h))
    have hto : ∀ k, Al (lk hb) k → Al τ (asc inv k) ∧ bx (asc inv k) = bx (asc inv k) := fun k hk => ⟨hin k hk, rfl⟩
    have hHOk : HOk (fun k => bx (asc inv k)) (Bf E bx τ) w (lk hb) := by
      refine ⟨fun k e sz rows h => ?_, fun k l hk hl e => key_inj hnum (hkey k hk) (hkey l hl) (hs.inj _ _ (hin k hk) (hin l hl) e), fun k hk hB => hB.2 _ (hin k hk) rfl⟩
      obtain ⟨cur, h1, h2, h3, h4, h5⟩ := hs.box _ e sz _ (hτ k e sz rows h)
      refine ⟨cur, h1, h2, by rw [renR, List.length_map] at h3; exact h3, fun i r hi => ?_, fun i r j c hi hj => ?_⟩
      · have := h4 i (r.map (C.ren (asc inv))) (by rw [renR, List.getElem?_map, hi]; rfl); rwa [List.length_map] at this
      · obtain ⟨u, h6, h7⟩ := h5 i (r.map (C.ren (asc inv))) j (c.ren (asc inv)) (by rw [renR, List.getElem?_map, hi]; rfl) (by rw [List.getElem?_map, hj]; rfl)
        exact ⟨u, h6, (Cr.ren.2 h7).to (Same.refl _ _) (fun _ h _ => h) (fun k _ hk => hto k hk)⟩
    have hvals : Vals (V1r (fun k => bx (asc inv k)) (Al (lk hb)) (Bf E bx τ) w) args (xs.map a.eval ++ cvs) := by
      have hlen : args.length = vs.length + ex.length := by have := congrArg List.length hargs; simpa using this
      refine ⟨by rw [List.length_append, q1, hcl, hlen], fun i x v hx hv => ?_⟩
      have hxi : (vs ++ ex)[i]? = some (x.ren (asc inv)) := by rw [← hargs, List.getElem?_map, hx]; rfl
      have h1 : V1r bx (Al τ) (Bf E bx τ) w (x.ren (asc inv)) v := by
        rw [List.getElem?_append] at hxi hv
        by_cases hi : i < vs.length
        · rw [if_pos hi] at hxi
          rw [if_pos (by rw [q1]; exact hi)] at hv
          exact q2 i _ v hxi hv
        · rw [if_neg hi] at hxi
          rw [if_neg (by rw [q1]; exact hi), q1] at hv
          exact hcv _ _ v hxi hv
      exact (V1r.ren.2 h1).to (Same.refl _ _) (fun _ h _ => h) (fun k _ hk => hto k hk)
    unfold Oper.wp
    rw [run_callV hcall ho hfe w, Oper.upon_enter, hd, show xs.toArray.map a.eval ++ cvs.toArray = (xs.map a.eval ++ cvs).toArray by simp]
    refine (hF (Bf E bx τ) (fun k => bx (asc inv k)) w _ hHOk hvals).mono ?_
    rintro e w' ⟨v, bxc, rfl, hpost⟩
    -- the state behind it
    let Kk : Nat → Prop := fun k => (∃ e sz rows, (Res.b k, RC.b e sz rows) ∈ hb) ∨ ∃ e sz rows, (Res.b k, RC.b e sz rows) ∈ hb'
    have hKkey : ∀ k, Kk k → Key inv k := fun k h => by
      rcases h with ⟨e, sz, rows, h⟩ | ⟨e, sz, rows, h⟩
      · exact key_b hnum (.inl h)
      · exact key_b hnum (.inr h)
    have hKu : ∀ k, lk hb' (.u k) ≠ .no → Kk k := fun k h => .inr (pairs_u hpr (lk_mem rfl h))
    have hτm : ∀ r, ovr τ (keys (outS inv hb') ++ keys (killS inv hb)) (outS inv hb' ++ (killS inv hb ++ σ)) r = if r ∈ keys (outS inv hb') then lk (outS inv hb') r else if r ∈ keys (killS inv hb) then .no else τ r := fun r => by
      unfold ovr
      by_cases h1 : r ∈ keys (outS inv hb')
      · rw [if_pos (List.mem_append_left _ h1), if_pos h1, lk_app_s h1]
      · rw [if_neg h1]
        by_cases h2 : r ∈ keys (killS inv hb)
        · rw [if_pos (List.mem_append_right _ h2), if_pos h2, lk_app_o h1, lk_app_s h2, (killS_b (lk_key h2)).1]
        · rw [if_neg (by rw [List.mem_append]; exact fun h => h.elim h1 h2), if_neg h2]
    have hob : ∀ k e sz rows, (Res.b k, RC.b e sz rows) ∈ hb' → lk (outS inv hb') (.b (asc inv k)) = .b e sz (renR (asc inv) rows) := fun k e sz rows h => by
      obtain ⟨k2, e2, sz2, rows2, h1, h2, h3⟩ := outS_b (lk_key (key_of (outS_b' (inv := inv) h)))
      have hk : k2 = k := key_inj hnum (key_b hnum (.inr h1)) (key_b hnum (.inr h)) h2.symm
      subst hk
      have h4 := hfl'.1 _ _ _ _ h
      rw [hfl'.1 _ _ _ _ h1] at h4
      cases h4
      exact h3
    obtain ⟨bxn, hsn, hvn⟩ := SR.called (τn := ovr τ (keys (outS inv hb') ++ keys (killS inv hb)) (outS inv hb' ++ (killS inv hb ++ σ))) (ρ := asc inv) (K := Kk) hs hpost hin (fun k l hk hl e => key_inj hnum (hKkey k hk) (hKkey l hl) e) (fun k ⟨e, sz, rows, h⟩ => .inl ⟨e, sz, rows, hmem k e sz rows h⟩) hKu hHB'
      (fun k hk => hKu k (by
        have := List.all_eq_true.1 hy k hk
        intro e; rw [e] at this; cases this))
      (fun t => by
        rw [hτm]
        rw [if_neg (fun h => ?_), if_neg (fun h => ?_)]
        · obtain ⟨_, k, e, sz, rows, _, h2⟩ := killS_b (lk_key h); cases h2
        · have hm := lk_key h
          generalize lk (outS inv hb') (.t t) = x at hm
          exact (show ∀ {l : St} {x : RC}, (Res.t t, x) ∉ outS inv l from by
            intro l
            induction l with
            | nil => intro x h; cases h
            | cons p l ih =>
              intro x h
              obtain ⟨r, c⟩ := p
              cases r <;> cases c <;> first
                | (rcases List.mem_cons.1 h with h | h; (cases h); exact ih h)
                | exact ih h) hm)
      (fun k e sz rows h => by
        have hm := hmem' k e sz rows h
        rw [hτm, if_pos (key_of (outS_b' hm))]
        exact hob k e sz rows hm)
      (fun l e sz rows h => by
        rw [hτm] at h
        by_cases h1 : Res.b l ∈ keys (outS inv hb')
        · rw [if_pos h1] at h
          obtain ⟨k, e2, sz2, rows2, g1, g2, g3⟩ := outS_b (lk_key h1)
          rw [h] at g3
          cases g3
          exact .inl ⟨k, rows2, g2, hfl'.1 _ _ _ _ g1, rfl⟩
        · rw [if_neg h1] at h
          by_cases h2 : Res.b l ∈ keys (killS inv hb)
          · rw [if_pos h2] at h; cases h
          · rw [if_neg h2] at h
            refine .inr ⟨fun k hk e1 => ?_, h⟩
            subst e1
            rcases hk with ⟨e, sz, rows, hk⟩ | ⟨e, sz, rows, hk⟩
            · exact h2 (killS_b' hk)
            · exact h1 (key_of (outS_b' hk)))
      (fun k h => by
        have hm : (Res.u k, lk hb' (.u k)) ∈ hb' := lk_mem rfl h
        have hu := hfl'.2.2 _ _ hm
        rw [hu] at hm
        have h1 := key_of (outS_u' (inv := inv) hm)
        rw [hτm, if_pos h1]
        obtain ⟨_, _, _, h2⟩ := outS_u (lk_key h1)
        rw [h2]; exact fun e => by cases e)
      (fun l h => by
        rw [hτm] at h
        by_cases h1 : Res.u l ∈ keys (outS inv hb')
        · rw [if_pos h1] at h
          obtain ⟨_, _, _, h2⟩ := outS_u (lk_key h1)
          rw [h] at h2; cases h2
        · rw [if_neg h1, if_neg (fun h2 => by obtain ⟨_, k, e, sz, rows, _, h3⟩ := killS_b (lk_key h2); cases h3)] at h
          exact h)
      (fun k ⟨e, sz, rows, h⟩ h100 => by
        have hm := hmem' k e sz rows h
        obtain ⟨h1, h2, h3⟩ := numOk_new hnum hm h100
        have hmu : (Res.u k, lk hb' (.u k)) ∈ hb' := lk_mem rfl (hHB'.al k ⟨e, sz, rows, h⟩)
        have hu := hfl'.2.2 _ _ hmu
        rw [hu] at hmu
        refine ⟨(hR3 _ (List.mem_append_left _ (key_of (outS_u' hmu)))).trans h1, h2, h3.imp id fun h4 l ⟨e', sz', rows', hl⟩ => h4 l _ (hmem l _ _ _ hl)⟩)
    have hyu : ∀ l ∈ (y.ren (asc inv)).refs, ovr τ (keys (outS inv hb') ++ keys (killS inv hb)) (outS inv hb' ++ (killS inv hb ++ σ)) (.u l) ≠ .no := fun l hl => by
      obtain ⟨k, hk, rfl⟩ := V.refs_ren hl
      have h0 : lk hb' (.u k) ≠ .no := by
        have := List.all_eq_true.1 hy k hk
        intro e; rw [e] at this; cases this
      have hm : (Res.u k, lk hb' (.u k)) ∈ hb' := lk_mem rfl h0
      have hu := hfl'.2.2 _ _ hm
      rw [hu] at hm
      have h1 := key_of (outS_u' (inv := inv) hm)
      rw [hτm, if_pos h1]
      obtain ⟨_, _, _, h2⟩ := outS_u (lk_key h1)
      rw [h2]; exact fun e => by cases e
    refine ⟨bxn, ?_⟩
    have e1 : ovr τ (.t d :: (keys (outS inv hb') ++ keys (killS inv hb))) ((.t d, .v (y.ren (asc inv))) :: (outS inv hb' ++ (killS inv hb ++ σ))) = upd (ovr τ (keys (outS inv hb') ++ keys (killS inv hb)) (outS inv hb' ++ (killS inv hb ++ σ))) (.t d) (.v (y.ren (asc inv))) := by
      funext r
      by_cases hr : r = .t d
      · subst hr; rw [upd_same]; simp [ovr, lk_same]
      · rw [upd_other _ _ hr]
        unfold ovr
        by_cases h1 : r ∈ keys (outS inv hb') ++ keys (killS inv hb)
        · rw [if_pos h1, if_pos (List.mem_cons_of_mem _ h1), lk_other _ _ _ _ (fun e => hr e.symm)]
        · rw [if_neg h1, if_neg (fun h => (List.mem_cons.1 h).elim hr h1)]
    rw [e1]
    exact hsn.put (by rw [hE]; simpa using hn) hvn hyu
theorem St1.call {P : Program} {n : Nat} {ops : Array Oper} {o : Oper} {σ : St} {d : Nat} {fo : Operand} {ar : Array Operand} {ts : Array TypeId} {xs : List Operand} {vs : List V1} {f : FuncId} {cap : List (List D)} {hb hb' : St} {args : List V1} {y : V} (inv : Inv)
    (ho : o.op = .call { callee := .value fo, args := ar, argTypes := ts }) (hg : o.guard = none) (hd : o.dst = some d) (hn : Nat.blt d n = true) (has : ar = xs.toArray) (hfo : ev σ fo = some (.o (.c (.fn f cap)))) (hcall : callable P f = true) (hx : evL σ xs = some vs) (hF : Fn P f hb args y hb')
    (hargs : args.map (V1.ren (asc inv)) = vs ++ cap.map fun c => .c (.ptr c)) (hbox : hbIn σ inv hb) (hnum : numOk σ inv hb hb' = true) (hfl : flatS hb) (hfl' : flatS hb') (hHB' : HB hb') (hpr : pairs hb' = true) (hy : (y.refs.all fun k => match lk hb' (.u k) with | .u => true | _ => false) = true) :
    St1 P n ops o σ ((rd fo ++ rdL xs) ++ (keys (outS inv hb') ++ keys (killS inv hb))) (.t d :: (keys (outS inv hb') ++ keys (killS inv hb))) ((.t d, .v (y.ren (asc inv))) :: (outS inv hb' ++ (killS inv hb ++ σ))) :=
  St1.callX inv ho hg hd hn has hfo rfl hcall hx hF hargs hbox hnum hfl hfl' hHB' hpr hy
theorem outS_one {inv : Inv} {k : Nat} {e : TypeId} {sz : Nat} {rows : List (List D)} : outS inv [(.b k, .b e sz (dR rows)), (.u k, .u)] = [(.b (asc inv k), .b e sz (dR rows)), (.u (asc inv k), .u)] := by simp [outS, renR_dR]
theorem St1.callO {P : Program} {n : Nat} {ops : Array Oper} {o : Oper} {σ : St} {d : Nat} {fo : Operand} {ar : Array Operand} {ts : Array TypeId} {xs : List Operand} {vs : List V1} {f : FuncId} {cap : List (List D)} {hb hb' : St} {args : List V1} {y : V} {out : St} (inv : Inv)
    (ho : o.op = .call { callee := .value fo, args := ar, argTypes := ts }) (hg : o.guard = none) (hd : o.dst = some d) (hn : Nat.blt d n = true) (has : ar = xs.toArray) (hfo : ev σ fo = some (.o (.c (.fn f cap)))) (hcall : callable P f = true) (hx : evL σ xs = some vs) (hF : Fn P f hb args y hb')
    (hargs : args.map (V1.ren (asc inv)) = vs ++ cap.map fun c => .c (.ptr c)) (hbox : hbIn σ inv hb) (hnum : numOk σ inv hb hb' = true) (hfl : flatS hb) (hfl' : flatS hb') (hHB' : HB hb') (hpr : pairs hb' = true) (hy : (y.refs.all fun k => match lk hb' (.u k) with | .u => true | _ => false) = true) (hout : outS inv hb' = out) :
    St1 P n ops o σ ((rd fo ++ rdL xs) ++ (keys out ++ keys (killS inv hb))) (.t d :: (keys out ++ keys (killS inv hb))) ((.t d, .v (y.ren (asc inv))) :: (out ++ (killS inv hb ++ σ))) := by
  subst hout
  exact St1.call inv ho hg hd hn has hfo hcall hx hF hargs hbox hnum hfl hfl' hHB' hpr hy
/-- A function that is handed no box and leaves none. -/
theorem St1.callP {P : Program} {n : Nat} {ops : Array Oper} {o : Oper} {σ : St} {d : Nat} {fo : Operand} {ar : Array Operand} {ts : Array TypeId} {xs : List Operand} {vs : List V1} {f : FuncId} {cap : List (List D)} {y : V}
    (ho : o.op = .call { callee := .value fo, args := ar, argTypes := ts }) (hg : o.guard = none) (hd : o.dst = some d) (hn : Nat.blt d n = true) (has : ar = xs.toArray) (hfo : ev σ fo = some (.o (.c (.fn f cap)))) (hcall : callable P f = true) (hx : evL σ xs = some vs) (hF : Fn P f [] (vs ++ cap.map fun c => .c (.ptr c)) y [])
    (hy : y.refs = []) : St1 P n ops o σ (rd fo ++ rdL xs) [.t d] ((.t d, .v y) :: σ) := by
  have hid : ∀ c : C, c.ren (asc []) = c := fun c => by cases c <;> rfl
  have hid1 : ∀ x : V1, x.ren (asc []) = x := fun x => by
    cases x with
    | c c => exact congrArg V1.c (hid c)
    | agg cs => exact congrArg V1.agg (List.map_id'' hid cs)
  have hid2 : y.ren (asc []) = y := by
    cases y with
    | o x => exact congrArg V.o (hid1 x)
    | tup xs => exact congrArg V.tup (List.map_id'' hid1 xs)
    | gh S => rfl
  have := St1.call (ops := ops) (n := n) (σ := σ) (hb := []) (hb' := []) [] ho hg hd hn has hfo hcall hx hF (List.map_id'' hid1 _) trivial rfl flatS.nil flatS.nil HB.nil rfl (by rw [hy]; rfl)
  rw [hid2] at this
  simpa [keys, outS, killS] using this

/-! ### A region in any order, operation by operation -/
def RunK (P : Program) (n : Nat) (ops : Array Oper) (l : List Oper) (σ : St) (acc : List (List Res × List Res × St)) (G : List (List Res × List Res × St) → St → Prop) : Prop := ∃ tr σ', Run P n ops l σ tr σ' ∧ G (acc ++ tr) σ'
section
variable {P : Program} {n : Nat} {ops : Array Oper} {l : List Oper} {o : Oper} {σ σ' : St} {R W : List Res} {acc : List (List Res × List Res × St)} {G : List (List Res × List Res × St) → St → Prop}
theorem RunK.nil (h : G acc σ) : RunK P n ops [] σ acc G := ⟨[], σ, .nil σ, by rw [List.append_nil]; exact h⟩
theorem RunK.cons (h : St1 P n ops o σ R W σ') (k : RunK P n ops l σ' (acc ++ [(R, W, σ')]) G) : RunK P n ops (o :: l) σ acc G := by
  obtain ⟨tr, σ2, h1, h2⟩ := k
  exact ⟨_, σ2, .cons h h1, by simpa using h2⟩
theorem RunK.same {σ1 : St} (he : lk σ1 = lk σ) (h : RunK P n ops (o :: l) σ1 acc G) : RunK P n ops (o :: l) σ acc G := by
  obtain ⟨tr, σ2, h1, h2⟩ := h
  cases h1 with
  | cons h k => exact ⟨_, σ2, .cons ⟨fun r hr => by rw [← he]; exact h.1 r hr, fun E bx τ a w hE hR hs => h.2 E bx τ a w hE (fun r hr => by rw [he]; exact hR r hr) hs⟩ k, h2⟩
theorem RunK.cases (t : Nat) (b : Bool) (hv : lk σ (.t t) = .v (.o (bo1 b))) (h1 : b = true → RunK P n ops (o :: l) ((.t t, .v (.o (bo1 true))) :: σ) acc G) (h0 : b = false → RunK P n ops (o :: l) ((.t t, .v (.o (bo1 false))) :: σ) acc G) : RunK P n ops (o :: l) σ acc G := by
  have e : ∀ c, b = c → lk ((.t t, .v (.o (bo1 c))) :: σ) = lk σ := by
    rintro c rfl
    funext r
    rw [lk_cons]
    by_cases h : r = .t t
    · subst h; rw [upd_same, hv]
    · rw [upd_other _ _ h]
  cases b
  · exact RunK.same (e false rfl) (h0 rfl)
  · exact RunK.same (e true rfl) (h1 rfl)
theorem ACode.drawK {id : Nat} {K : Exit → St → Prop} (hm : P.follows .mixedOrders = true) (he : edgesOk l.toArray 0 l = true) (h : RunK P n l.toArray l σ [] (fun tr σ' => chk l.toArray 0 tr = true ∧ K .normal σ')) : ACode P n (.region id l.toArray true) K σ := by
 obtain ⟨tr, σ', h1, h2, h3⟩ := h
 exact ACode.draw hm h1 h2 he h3
end
/-- A slice of ints of the call's own, its array from block B on. -/
def OwnI (B : Nat) (w : World) (v : Value) (xs : List Int) : Prop := OwnL Sh.int 3 B 0 w v xs
section
variable {B B' C : Nat} {P : Nat → Prop} {w w' : World} {v v' : Value} {xs ys : List Int} {a : Option Addr} {n c : Nat}
theorem OwnI.nil (B : Nat) (w : World) : OwnI B w (.slice none 0 0) [] := OwnL.nil _ _ _ _ _
theorem OwnI.frame (h : OwnI B w v xs) (hv : ∀ k, v.ownBlock = some k → w'.heap[k]? = w.heap[k]?) : OwnI B w' v xs := by
  obtain ⟨css, h1, h2, h3⟩ := h
  exact ⟨css, h1, h2.frame hv, fun i x cs hx hc => h3 i x cs hx hc⟩
theorem OwnI.lt (h : OwnI B w v xs) : ∀ g, v.ownBlock = some g → B ≤ g ∧ g < w.heap.size := OwnL.lt h
theorem OwnI.below (h : OwnI B w v xs) (hb : Below w.heap.size w w') : OwnI B w' v xs := h.frame fun k hk => hb.block k (h.lt k hk).2
theorem OwnI.belowLt {D : Nat} (h : OwnI B w v xs) (hb : Below D w w') (hD : ∀ k, v.ownBlock = some k → k < D) : OwnI B w' v xs := h.frame fun k hk => hb.block k (hD k hk)
theorem OwnI.alloc (h : OwnI B w v xs) (o : Obj) : OwnI B (w.alloc o) v xs := h.below ((Below.refl _ _).alloc (Nat.le_refl _) o)
theorem OwnI.drewN {m : Nat} (h : OwnI B w v xs) : OwnI B (w.drewN m) v xs := h.below (belowN (Below.refl _ _))
theorem OwnI.drew (h : OwnI B w v xs) : OwnI B w.drew v xs := h.below ((Below.refl _ _).drew)
theorem OwnI.grown {r : Option Nat} (h : OwnI B w v xs) (hg : w.grownBy w' r) (hv : ∀ g, r = some g → v.ownBlock ≠ some g) : OwnI B w' v xs :=
  h.frame (fun k hk => hg.block k (h.lt k hk).2 (fun e => hv k e.symm hk))
theorem OwnI.base (h : OwnI B w v xs) (hB : B' ≤ B) : OwnI B' w v xs := OwnL.base h hB (Nat.le_refl _)
theorem OwnI.shape (h : OwnI B w v xs) : ∃ a cap, v = .slice a xs.length cap ∧ xs.length ≤ cap := OwnL.shape h
theorem OwnI.len (h : OwnI B w (.slice a n c) xs) : xs.length = n := by
  obtain ⟨a', c', e, _⟩ := h.shape
  simp only [Value.slice.injEq] at e
  exact e.2.1.symm
theorem OwnI.sl (h : OwnI B w v xs) (hn : xs.length ≤ 17592186044416) : Sl Sh.int (fun b => v.ownBlock = some b) w v xs := by
  obtain ⟨css, h1, h2, h3⟩ := h
  have h' : OwnL Sh.int 3 B 0 w v xs := ⟨css, h1, h2, h3⟩
  have hs := h'.sl hn (P := fun _ => True) (fun _ _ _ => trivial) (fun _ _ => trivial)
  obtain ⟨a, cap, rfl, e1, e2, e3, e4⟩ := hs
  refine ⟨a, cap, rfl, e1, e2, e3, fun i x hx => ?_⟩
  obtain ⟨b, off, cs, rfl, _, hr, hc⟩ := e4 i x hx
  exact ⟨b, off, cs, rfl, rfl, hr, hc⟩
theorem OwnI.at (h : OwnI B w (.slice a n c) xs) (hn : 0 < n) : ∃ g off, a = some ⟨g, off, none⟩ ∧ B ≤ g ∧ g < w.heap.size ∧ n ≤ c ∧ (∀ j, j < n → w.cell? ⟨g, off + j, none⟩ = some (.int .i64 (xs.getD j 0))) ∧ ∀ j, w.frozen? ⟨g, j, none⟩ = false := by
  obtain ⟨hl, g, off, ha, hB, hg, hc, hf, h1⟩ := OwnL.at h hn
  refine ⟨g, off, ha, hB, hg, hc, fun j hj => ?_, hf⟩
  obtain ⟨cs, hr, hcell⟩ := h1 j (xs.getD j 0) (by rw [List.getD, List.getElem?_eq_getElem (by omega)]; rfl)
  have : cs = [.int .i64 (xs.getD j 0)] := hr
  subst this
  have := hcell 0 _ rfl
  simpa [Sh.int] using this

/-- A slice of ints, in terms of its cells. -/
theorem sl_ints (h : Sl Sh.int P w (.slice a n c) xs) : IntsA w a n c xs := by
  refine ⟨h.len, h.le.1, h.le.2, fun i hi => ?_⟩
  obtain ⟨b, off, ha, _, _, hc⟩ := h.at (by omega)
  have hl := h.len
  obtain ⟨cs, hr, hcell⟩ := hc i (xs.getD i 0) (by rw [List.getD, List.getElem?_eq_getElem (by omega)]; rfl)
  have : cs = [.int .i64 (xs.getD i 0)] := hr
  subst this
  have := hcell 0 _ rfl
  exact ⟨b, off, ha, by simpa [Sh.int] using this⟩
theorem Sl.intAt (h : Sl Sh.int P w (.slice a n c) xs) (hn : 0 < n) : ∃ b off, a = some ⟨b, off, none⟩ ∧ P b ∧ b < w.heap.size ∧ ∀ i, i < n → w.cell? ⟨b, off + i, none⟩ = some (.int .i64 (xs.getD i 0)) := by
  obtain ⟨b, off, ha, hb, hlt, _⟩ := h.at hn
  refine ⟨b, off, ha, hb, hlt, fun i hi => ?_⟩
  obtain ⟨b', off', e, hc⟩ := (sl_ints h).2.2.2 i hi
  rw [ha] at e
  cases e
  exact hc

/-- New rows. -/
theorem OwnI.made (w : World) (vs : List Int) (hB : B ≤ w.heap.size) (hn : vs.length ≤ 17592186044416) : OwnI B (w.alloc (.cells (vs.map (Value.int .i64)).toArray 3)) (.slice (some ⟨w.heap.size, 0, none⟩) vs.length vs.length) vs := by
  have hf : (vs.map fun x => [Value.int .i64 x]).flatten = vs.map (Value.int .i64) := by
    induction vs with
    | nil => rfl
    | cons x r ih => rw [List.map_cons, List.flatten_cons, ih (by rw [List.length_cons] at hn; omega)]; rfl
  refine ⟨vs.map fun x => [.int .i64 x], by simp, ?_, fun i x cs hx hc => ?_⟩
  · rw [hf]
    exact ⟨by simp [Sh.int], .inr ⟨w.heap.size, 0, vs.length, _, rfl, hB, heap_alloc_new w _, Nat.le_refl _, by unfold maxLen; omega, by simp [Sh.int], by simp [Sh.int, List.take_of_length_le]⟩⟩
  · rw [List.getElem?_map, hx] at hc
    simp only [Option.map_some, Option.some.injEq] at hc
    exact hc.symm
theorem OwnI.one (w : World) (hB : B ≤ w.heap.size) (x : Int) : OwnI B (w.alloc (.cells #[.int .i64 x] 3)) (.slice (some ⟨w.heap.size, 0, none⟩) 1 1) [x] := OwnI.made w [x] hB (by simp)
theorem OwnI.empty (w : World) (hB : B ≤ w.heap.size) : OwnI B (w.alloc (.cells #[] 3)) (.slice (some ⟨w.heap.size, 0, none⟩) 0 0) [] := OwnI.made w [] hB (by simp)
/-- A store. -/
theorem OwnI.set {g off : Nat} (h : OwnI B w (.slice (some ⟨g, off, none⟩) n c) xs) (j : Nat) (x : Int) : OwnI B (w.setCell ⟨g, off + j, none⟩ (.int .i64 x)) (.slice (some ⟨g, off, none⟩) n c) (xs.set j x) := by
  have hl := h.len
  obtain ⟨css, h1, h2, h3⟩ := h
  refine ⟨css.set j [.int .i64 x], by rw [List.length_set, List.length_set, h1], ?_, fun i y cs hy hc => ?_⟩
  · have h2' := h2
    rw [hl] at h2'
    have := h2'.set j (.int .i64 x)
    rw [List.length_set, hl]
    have e : (css.set j [.int .i64 x]).flatten = css.flatten.set j (.int .i64 x) := by
      have hcs : ∀ cs ∈ css, cs.length = 1 := OwnL.lens h1 h3
      clear h1 h2 h2' h3 this
      induction css generalizing j with
      | nil => rfl
      | cons cs css ih =>
        have h0 := hcs cs (List.mem_cons_self ..)
        obtain ⟨c0, rfl⟩ := List.length_eq_one_iff.1 h0
        cases j with
        | zero => rfl
        | succ j =>
          rw [List.set_cons_succ, List.flatten_cons, List.flatten_cons, ih j (fun c hc => hcs c (List.mem_cons_of_mem _ hc))]
          rfl
    rw [e]
    exact this
  · rw [List.getElem?_set] at hy hc
    by_cases e : j = i
    · subst e
      rw [if_pos rfl] at hy hc
      split at hy
      · split at hc
        · cases hy; cases hc; rfl
        · cases hc
      · cases hy
    · rw [if_neg e] at hy hc
      exact h3 i y cs hy hc
end
end Go.Proofs.Ytollooimmfngjaa
namespace Go.Proofs.Ytollooimmfngjaa
set_option linter.unusedVariables false
set_option linter.unusedSimpArgs false
open Go.RowKit Go.Maps

end Go.Proofs.Ytollooimmfngjaa
namespace Go.Proofs.Ytollooimmfngjaa
set_option linter.unusedVariables false
set_option linter.unusedSimpArgs false
open Go.RowKit
/-- The place of the first element that p holds of, or -1. -/
def findI (p : Int → Bool) (xs : List Int) : Int := if xs.any p then (xs.findIdx p : Int) else -1
theorem findI_none {p : Int → Bool} {xs : List Int} (h : ∀ x ∈ xs, p x = false) : findI p xs = -1 := by
  rw [findI, if_neg]
  rw [List.any_eq_true]
  rintro ⟨x, hx, hp⟩
  rw [h x hx] at hp
  cases hp
theorem findI_hit {p : Int → Bool} {xs : List Int} {k : Nat} (h : ∀ x ∈ xs.take k, p x = false) (hk : k < xs.length) (hp : p (xs.getD k 0) = true) : findI p xs = k := by
  rw [List.getD, List.getElem?_eq_getElem hk] at hp
  simp only [Option.getD_some] at hp
  rw [findI, if_pos (List.any_eq_true.2 ⟨_, List.getElem_mem hk, hp⟩)]
  congr 1
  rw [List.findIdx_eq hk]
  refine ⟨hp, fun j hj => h _ ?_⟩
  rw [List.mem_take_iff_getElem]
  exact ⟨j, by omega, rfl⟩
theorem take_step {p : Int → Bool} {xs : List Int} {k : Nat} (h : ∀ x ∈ xs.take k, p x = false) (hk : k < xs.length) (hp : p (xs.getD k 0) = false) : ∀ x ∈ xs.take (k + 1), p x = false := by
  intro x hx
  rw [List.take_succ_eq_append_getElem hk, List.mem_append, List.mem_singleton] at hx
  rcases hx with hx | rfl
  · exact h x hx
  · rw [List.getD, List.getElem?_eq_getElem hk] at hp
    exact hp

set_option maxHeartbeats 400000 in
theorem indexFunc_any (P : Nat → Prop) (g : Nat) (lb : Array Value) (eg : ∀ args w, (callFunc g args).run Try.prog w = .ok (.enter g args) w) (p : Int → Bool) (a : Option Addr) (n c : Nat) (xs : List Int) (w : World) (hx : Sl Sh.int P w (.slice a n c) xs)
    (hp : ∀ x, Calls Try.prog g (#[.int .i64 x] ++ lb) w fun e w' => e = .returned (.bool (p x)) ∧ w = w') :
    Calls Try.prog 61 #[.slice a n c, .func (.func g) #[] lb] w fun e w' => e = .returned (.int .i64 (findI p xs)) ∧ w = w' := by
  have hle := hx.le
  have hlen := hx.len
  have Hp := hid hp; clear hp
  have Hlen := hid hlen; clear hlen
  go_enter Try.func61, Try.ntmps61
  go_wp2
  go_loop [5, 8] (fun _ i => ∃ k : Nat, k ≤ n ∧ i = .int .i64 k ∧ Hid (∀ x ∈ xs.take k, p x = false)) (fun _ i => n - (intOf i).toNat)
  case atStart => exact ⟨0, Nat.zero_le _, rfl, hid (by simp)⟩
  case round =>
    obtain ⟨k, hk, rfl, ht⟩ := hrel
    by_cases hlt : k < n
    · obtain ⟨ba, oa, ha, _, _, hca⟩ := hx.intAt (by omega)
      subst ha
      have h1 := hca k hlt
      generalize hy : xs.getD k 0 = y at h1
      have Hy := hid hy; clear hy hca
      have hcall := Hp.out y
      have hltz : (k : Int) < (n : Int) := by omega
      cases hq : p y with
      | true =>
        rw [hq] at hcall
        have Hq := hid hq; clear hq
        have Hc := hid hcall; clear hcall
        go_wp2_with (go_at_fn g; refine Hc.out.mono ?_; rintro e w' ⟨rfl, rfl⟩)
        go_ret
        exact ⟨ret_int (findI_hit ht.out (by rw [Hlen.out]; exact hlt) (by rw [Hy.out]; exact Hq.out)).symm, rfl⟩
      | false =>
        rw [hq] at hcall
        have Hq := hid hq; clear hq
        have Hc := hid hcall; clear hcall
        go_wp2_with (go_at_fn g; refine Hc.out.mono ?_; rintro e w' ⟨rfl, rfl⟩)
        exact ⟨⟨k + 1, by omega, rfl, hid (take_step ht.out (by rw [Hlen.out]; exact hlt) (by rw [Hy.out]; exact Hq.out))⟩, by simp [intOf]; omega⟩
    · have : k = n := by omega
      subst this
      go_wp2
      go_ret
      exact ⟨ret_int (findI_none (by have h := ht.out; rw [List.take_of_length_le (by rw [Hlen.out]; omega)] at h; exact h)).symm, rfl⟩
def inB (n lo hi : Int) : Bool := decide (lo ≤ n ∧ n ≤ hi)
set_option maxHeartbeats 400000 in
theorem within_any (n lo hi : Int) (w : World) : Calls Try.prog 58 #[.int .i64 n, .int .i64 lo, .int .i64 hi] w fun e w' => e = .returned (.bool (inB n lo hi)) ∧ w = w' := by
  by_cases h1 : lo ≤ n
  · have h1' : decide (lo ≤ n) = true := by simpa using h1
    by_cases h2 : n ≤ hi
    · have h2' : decide (n ≤ hi) = true := by simpa using h2
      have hf : inB n lo hi = true := by simp [inB, h1, h2]
      rw [hf]
      clear hf
      go_enter Try.func58, Try.ntmps58
      go_wp2
      go_ret
      exact ⟨rfl, rfl⟩
    · have h2' : decide (n ≤ hi) = false := by simpa using h2
      have hf : inB n lo hi = false := by simp [inB, h2]
      rw [hf]
      clear hf
      go_enter Try.func58, Try.ntmps58
      go_wp2
      go_ret
      exact ⟨rfl, rfl⟩
  · have h1' : decide (lo ≤ n) = false := by simpa using h1
    have hf : inB n lo hi = false := by simp [inB, h1]
    rw [hf]
    clear hf
    go_enter Try.func58, Try.ntmps58
    go_wp2
    go_ret
    exact ⟨rfl, rfl⟩
/-- An affine expression: coefficients and constant. -/
abbrev Aff := List Int × Int
def AffR (P : Nat → Prop) (w : World) (v : Value) (x : Aff) : Prop := ∃ va, v = .agg #[va, .int .i64 x.2] ∧ Sl Sh.int P w va x.1
theorem AffR.below {P : Nat → Prop} {w w' : World} {v : Value} {x : Aff} (h : AffR P w v x) (hb : Below w.heap.size w w') : AffR P w' v x := by
  obtain ⟨va, e, hs⟩ := h
  exact ⟨va, e, hs.below hb⟩
theorem AffR.mono {P Q : Nat → Prop} {w : World} {v : Value} {x : Aff} (hp : ∀ b, P b → b < w.heap.size → Q b) (h : AffR P w v x) : AffR Q w v x := by
  obtain ⟨va, e, hs⟩ := h
  exact ⟨va, e, hs.mono hp⟩
theorem AffR.any {P : Nat → Prop} {w : World} {v : Value} {x : Aff} (h : AffR P w v x) : AffR (fun _ => True) w v x := h.mono fun _ _ _ => trivial
theorem AffR.grown {P : Nat → Prop} {w w' : World} {v : Value} {x : Aff} {r : Option Nat} (h : AffR P w v x) (hg : w.grownBy w' r) (hP : ∀ b, P b → r ≠ some b) : AffR P w' v x := by
  obtain ⟨va, e, hs⟩ := h
  exact ⟨va, e, hs.grown hg hP⟩
theorem AffR.shape {P : Nat → Prop} {w : World} {v : Value} {x : Aff} (h : AffR P w v x) : ∃ a c, v = .agg #[.slice a x.1.length c, .int .i64 x.2] ∧ x.1.length ≤ c ∧ x.1.length ≤ 17592186044416 ∧ Sl Sh.int P w (.slice a x.1.length c) x.1 := by
  obtain ⟨va, rfl, hs⟩ := h
  obtain ⟨a, c, rfl, h1, h2, _⟩ := hs.form
  exact ⟨a, c, rfl, h1, h2, hs⟩

def affV (x : Aff) : Bool := decide (x.1.length = 4) && inB x.2 (-99) 99 && !x.1.any (fun c => !inB c (-9) 9)
theorem affV_len {x : Aff} (h : affV x = true) : x.1.length = 4 := by
  simp [affV] at h
  exact h.1.1
theorem affV_const {x : Aff} (h : affV x = true) : -99 ≤ x.2 ∧ x.2 ≤ 99 := by
  simp [affV, inB] at h
  exact h.1.2
theorem affV_coef {x : Aff} (h : affV x = true) : ∀ c ∈ x.1, -9 ≤ c ∧ c ≤ 9 := by
  simp [affV, inB] at h
  exact h.2
theorem affV_getD {x : Aff} (h : affV x = true) (i : Nat) : -9 ≤ x.1.getD i 0 ∧ x.1.getD i 0 ≤ 9 := by
  rw [List.getD]
  cases e : x.1[i]? with
  | none => simp
  | some c => exact affV_coef h c (List.mem_of_getElem? e)

set_option maxHeartbeats 400000 in
theorem isConst_any (n : Int) (w : World) : Calls Try.prog 30 #[.int .i64 n] w fun e w' => e = .returned (.bool (inB n (-99) 99)) ∧ w = w' := by
  go_enter Try.func30, Try.ntmps30
  go_wp2_with (go_at_call 58; refine (within_any _ _ _ _).mono ?_; rintro e w' ⟨rfl, rfl⟩)
  go_ret
  exact ⟨rfl, rfl⟩
set_option maxHeartbeats 400000 in
theorem affV1_any (n : Int) (w : World) : Calls Try.prog 104 #[.int .i64 n] w fun e w' => e = .returned (.bool (!inB n (-9) 9)) ∧ w = w' := by
  go_enter Try.func104, Try.ntmps104
  go_wp2_with (go_at_call 58; refine (within_any _ _ _ _).mono ?_; rintro e w' ⟨rfl, rfl⟩)
  go_ret
  exact ⟨rfl, rfl⟩
theorem Try.egAffV1 : ∀ args w, (callFunc 104 args).run Try.prog w = .ok (.enter 104 args) w := fun _ _ => by kernel_rfl
set_option maxHeartbeats 400000 in
theorem containsFunc_any (P : Nat → Prop) (g : Nat) (lb : Array Value) (eg : ∀ args w, (callFunc g args).run Try.prog w = .ok (.enter g args) w) (p : Int → Bool) (a : Option Addr) (n c : Nat) (xs : List Int) (w : World) (hx : Sl Sh.int P w (.slice a n c) xs)
    (hp : ∀ x, Calls Try.prog g (#[.int .i64 x] ++ lb) w fun e w' => e = .returned (.bool (p x)) ∧ w = w') :
    Calls Try.prog 28 #[.slice a n c, .func (.func g) #[] lb] w fun e w' => e = .returned (.bool (xs.any p)) ∧ w = w' := by
  have hd : decide (0 ≤ findI p xs) = xs.any p := by
    unfold findI
    cases h : xs.any p
    · simp
    · simp
  have Hd := hid hd
  have Hp := hid hp
  clear hd hp
  go_enter Try.func28, Try.ntmps28
  go_wp2_with (go_at_call 61; refine (indexFunc_any P g lb eg p _ _ _ xs _ hx Hp.out).mono ?_; rintro e w' ⟨rfl, rfl⟩)
  go_ret
  exact ⟨ret_bool Hd.out, rfl⟩

set_option maxHeartbeats 800000 in
theorem implAffV_any (P : Nat → Prop) (v : Value) (x : Aff) (w : World) (h : AffR P w v x) :
    Calls Try.prog 86 #[v] w fun e w' => e = .returned (.bool (affV x)) ∧ Below w.heap.size w w' := by
  obtain ⟨a, c, rfl, h1, h2, hs⟩ := h.shape
  obtain ⟨co, k⟩ := x
  simp only at hs h1 h2 ⊢
  have haf : affV (co, k) = (decide (co.length = 4) && inB k (-99) 99 && !co.any (fun c => !inB c (-9) 9)) := rfl
  have Haf := hid haf; clear haf
  have hs' := hs.alloc (.cells #[.slice a co.length c, .int .i64 k] 37)
  by_cases h4 : co.length = 4
  · have h4' : (((co.length : Nat) : Int) == 4) = true := by simp; omega
    have H4 := hid h4
    clear h4
    cases hk : inB k (-99) 99
    · go_enter Try.func86, Try.ntmps86
      go_wp2_with (go_at_call 30; refine (isConst_any _ _).mono ?_; rintro e w' ⟨rfl, rfl⟩; rw [hk])
      go_ret
      exact ⟨ret_bool (by rw [Haf.out, hk]; simp), (Below.refl _ _).alloc (Nat.le_refl _) _⟩
    · go_enter Try.func86, Try.ntmps86
      go_wp2_with (first
        | (go_at_call 30; refine (isConst_any _ _).mono ?_; rintro e w' ⟨rfl, rfl⟩; rw [hk])
        | (go_at_call 28; refine (containsFunc_any P 104 #[] Try.egAffV1 (fun c => !inB c (-9) 9) _ _ _ co _ hs' (fun x => affV1_any x _)).mono ?_; rintro e w' ⟨rfl, rfl⟩))
      go_ret
      exact ⟨ret_bool (by rw [Haf.out, hk, H4.out]; simp), (Below.refl _ _).alloc (Nat.le_refl _) _⟩
  · have h4' : (((co.length : Nat) : Int) == 4) = false := by simp; omega
    have H4 := hid h4
    clear h4
    go_enter Try.func86, Try.ntmps86
    go_wp2
    go_ret
    exact ⟨ret_bool (by rw [Haf.out, decide_eq_false H4.out]; simp), (Below.refl _ _).alloc (Nat.le_refl _) _⟩
/-- A loop: its lower and its upper bounds. -/
abbrev Lp := List Aff × List Aff
section
variable {P : Nat → Prop} {w : World} {cs : List Value} {a : Option Addr} {n c : Nat}
end

set_option maxHeartbeats 400000 in
theorem l1Within_any (n m : Int) (w : World) (h0 : 0 ≤ m) (h1 : m ≤ 1000000) : Calls Try.prog 22 #[.int .i64 n, .int .i64 m] w fun e w' => e = .returned (.bool (inB n (-m) m)) ∧ w = w' := by
  by_cases h1 : -m ≤ n
  · have h1' : decide (-m ≤ n) = true := by simpa using h1
    by_cases h2 : n ≤ m
    · have h2' : decide (n ≤ m) = true := by simpa using h2
      have hf := hid (show inB n (-m) m = true by simp [inB, h1, h2])
      go_enter Try.func22, Try.ntmps22
      go_wp2
      go_ret
      exact ⟨ret_bool hf.out.symm, rfl⟩
    · have h2' : decide (n ≤ m) = false := by simpa using h2
      have hf := hid (show inB n (-m) m = false by simp [inB, h2])
      go_enter Try.func22, Try.ntmps22
      go_wp2
      go_ret
      exact ⟨ret_bool hf.out.symm, rfl⟩
  · have h1' : decide (-m ≤ n) = false := by simpa using h1
    have hf := hid (show inB n (-m) m = false by simp [inB]; omega)
    go_enter Try.func22, Try.ntmps22
    go_wp2
    go_ret
    exact ⟨ret_bool hf.out.symm, rfl⟩

theorem specAffV_any (P : Nat → Prop) (v : Value) (x : Aff) (w : World) (h : AffR P w v x) :
    Calls Try.prog 78 #[v] w fun e w' => e = .returned (.bool (affV x)) ∧ Below w.heap.size w w' := by
  obtain ⟨a, c, rfl, h1, h2, hs⟩ := h.shape
  obtain ⟨co, k⟩ := x
  simp only at hs h1 h2 ⊢
  have haf : affV (co, k) = (decide (co.length = 4) && inB k (-99) 99 && !co.any (fun c => !inB c (-9) 9)) := rfl
  have Haf := hid haf; clear haf
  have hs' := hs.alloc (.cells #[.slice a co.length c, .int .i64 k] 37)
  go_enter Try.func78, Try.ntmps78
  go_wp2
  go_loop [3] (fun i => ∃ j : Nat, j ≤ co.length ∧ i = .int .i64 j ∧ Hid (∀ x ∈ co.take j, (!inB x (-9) 9) = false)) (fun i => co.length - (intOf i).toNat)
  case atStart => exact ⟨0, Nat.zero_le _, rfl, hid (by simp)⟩
  case round =>
    obtain ⟨j, hj, rfl, ht⟩ := hrel
    by_cases hlt : j < co.length
    · obtain ⟨ba, oa, ha, _, _, hca⟩ := hs'.intAt (by omega)
      subst ha
      have q1 := hca j hlt
      generalize hy : co.getD j 0 = y at q1
      have Hy := hid hy; clear hy hca
      cases hq : inB y (-9) 9
      · have Hq : Hid (inB y (-9) 9 = false) := hid hq
        have hany : Hid (co.any (fun c => !inB c (-9) 9) = true) := hid (List.any_eq_true.2 ⟨y, by rw [← Hy.out, List.getD, List.getElem?_eq_getElem hlt]; exact List.getElem_mem _, by rw [Hq.out]; rfl⟩)
        go_wp2_with (go_at_call 22; refine (l1Within_any _ _ _ (by omega) (by omega)).mono ?_; rintro e w' ⟨rfl, rfl⟩; rw [Hq.out])
        go_ret
        exact ⟨ret_bool (by rw [Haf.out, hany.out]; simp), (Below.refl _ _).alloc (Nat.le_refl _) _⟩
      · have Hq : Hid (inB y (-9) 9 = true) := hid hq
        have Ht := hid (take_step (p := fun c => !inB c (-9) 9) ht.out hlt (by rw [Hy.out, Hq.out]; rfl))
        go_wp2_with (go_at_call 22; refine (l1Within_any _ _ _ (by omega) (by omega)).mono ?_; rintro e w' ⟨rfl, rfl⟩; rw [Hq.out])
        exact ⟨⟨j + 1, by omega, rfl, Ht⟩, by simp [intOf]; omega⟩
    · have hje : j = co.length := by omega
      subst hje
      have hany : Hid (co.any (fun c => !inB c (-9) 9) = false) := hid (by
        have := ht.out
        rw [List.take_length] at this
        rw [List.any_eq_false]
        intro x hx
        rw [this x hx]; simp)
      by_cases h4 : co.length = 4
      · have h4' : (((co.length : Nat) : Int) == 4) = true := by simp; omega
        have H4 := hid h4
        clear h4
        go_wp2_with (go_at_call 22; refine (l1Within_any _ _ _ (by omega) (by omega)).mono ?_; rintro e w' ⟨rfl, rfl⟩)
        go_ret
        exact ⟨ret_bool (by rw [Haf.out, hany.out, decide_eq_true H4.out]; simp), (Below.refl _ _).alloc (Nat.le_refl _) _⟩
      · have h4' : (((co.length : Nat) : Int) == 4) = false := by simp; omega
        have H4 := hid h4
        clear h4
        go_wp2
        go_ret
        exact ⟨ret_bool (by rw [Haf.out, hany.out, decide_eq_false H4.out]; simp), (Below.refl _ _).alloc (Nat.le_refl _) _⟩

/-- One more than the place of the last coefficient among the first k that is not zero. -/
def depthTo (co : List Int) : Nat → Nat
  | 0 => 0
  | k + 1 => if co.getD k 0 = 0 then depthTo co k else k + 1
def affDepth (x : Aff) : Nat := depthTo x.1 x.1.length
theorem depth_any (P : Nat → Prop) (v : Value) (x : Aff) (w : World) (h : AffR P w v x) :
    Calls Try.prog 87 #[v] w fun e w' => e = .returned (.int .i64 (affDepth x)) ∧ Below w.heap.size w w' := by
  obtain ⟨a, c, rfl, h1, h2, hs⟩ := h.shape
  obtain ⟨co, k⟩ := x
  simp only at hs h1 h2 ⊢
  have hs' := hs.alloc (.cells #[.slice a co.length c, .int .i64 k] 37)
  go_enter Try.func87, Try.ntmps87
  go_wp2
  go_loop [3] (fun i => ∃ j : Nat, j ≤ co.length ∧ i = .int .i64 j ∧ Hid (depthTo co co.length = depthTo co j)) (fun i => (intOf i).toNat)
  case atStart => exact ⟨co.length, Nat.le_refl _, rfl, rfl⟩
  case round =>
    obtain ⟨j, hj, rfl, ht⟩ := hrel
    cases j with
    | zero =>
      have e0 : ((0 : Nat) : Int) = 0 := rfl
      rw [e0]
      go_wp2
      go_ret
      exact ⟨ret_int (by rw [affDepth, ht.out]; rfl), (Below.refl _ _).alloc (Nat.le_refl _) _⟩
    | succ j =>
      have e1 : ((j + 1 : Nat) : Int) = (j : Int) + 1 := by omega
      rw [e1]
      obtain ⟨ba, oa, ha, _, _, hca⟩ := hs'.intAt (by omega)
      subst ha
      have q1 := hca j (by omega)
      generalize hy : co.getD j 0 = y at q1
      have Hy := hid hy; clear hy hca e1
      cases hq : (y == 0)
      · have Ht : Hid (depthTo co co.length = j + 1) := hid (by rw [ht.out, depthTo, Hy.out, if_neg (by simpa using hq)])
        go_wp2
        go_ret
        exact ⟨ret_int (by rw [affDepth, Ht.out]; rfl), (Below.refl _ _).alloc (Nat.le_refl _) _⟩
      · have Ht : Hid (depthTo co co.length = depthTo co j) := hid (by rw [ht.out, depthTo, Hy.out, if_pos (by simpa using hq)])
        go_wp2
        exact ⟨⟨j, by omega, rfl, Ht⟩, by simp [intOf]⟩
theorem l1Depth_any (P : Nat → Prop) (v : Value) (x : Aff) (w : World) (h : AffR P w v x) :
    Calls Try.prog 79 #[v] w fun e w' => e = .returned (.int .i64 (affDepth x)) ∧ Below w.heap.size w w' := by
  obtain ⟨a, c, rfl, h1, h2, hs⟩ := h.shape
  obtain ⟨co, k⟩ := x
  simp only at hs h1 h2 ⊢
  have hs' := hs.alloc (.cells #[.slice a co.length c, .int .i64 k] 37)
  go_enter Try.func79, Try.ntmps79
  go_wp2
  go_loop [3, 4] (fun q i => ∃ j : Nat, j ≤ co.length ∧ i = .int .i64 j ∧ q = .int .i64 (depthTo co j : Nat)) (fun _ i => co.length - (intOf i).toNat)
  case atStart => exact ⟨0, Nat.zero_le _, rfl, rfl⟩
  case round =>
    obtain ⟨j, hj, rfl, rfl⟩ := hrel
    by_cases hlt : j < co.length
    · obtain ⟨ba, oa, ha, _, _, hca⟩ := hs'.intAt (by omega)
      subst ha
      have q1 := hca j hlt
      have hd : depthTo co (j + 1) = if co.getD j 0 = 0 then depthTo co j else j + 1 := rfl
      generalize co.getD j 0 = y at q1 hd
      clear hca
      cases hq : (y != 0)
      · rw [if_pos (by simpa using hq)] at hd
        have Hd := hid hd; clear hd
        go_wp2
        exact ⟨⟨j + 1, by omega, rfl, by rw [Hd.out]⟩, by simp [intOf]; omega⟩
      · rw [if_neg (by simpa using hq)] at hd
        have Hd := hid hd; clear hd
        go_wp2
        exact ⟨⟨j + 1, by omega, rfl, by rw [Hd.out]; rfl⟩, by simp [intOf]; omega⟩
    · have hje : j = co.length := by omega
      subst hje
      go_wp2
      go_ret
      exact ⟨rfl, (Below.refl _ _).alloc (Nat.le_refl _) _⟩

/-- The value of the first k terms. -/
def evalTo (co p : List Int) : Nat → Int
  | 0 => 0
  | k + 1 => evalTo co p k + co.getD k 0 * p.getD k 0
def affEval (x : Aff) (p : List Int) : Int := x.2 + evalTo x.1 p p.length
def Small (p : List Int) : Prop := ∀ n ∈ p, -1099511627776 ≤ n ∧ n ≤ 1099511627776
theorem Small.getD {p : List Int} (h : Small p) (i : Nat) : -1099511627776 ≤ p.getD i 0 ∧ p.getD i 0 ≤ 1099511627776 := by
  rw [List.getD]
  cases e : p[i]? with
  | none => simp
  | some c => exact h c (List.mem_of_getElem? e)
theorem mul_bd {c x : Int} (h : -9 ≤ c ∧ c ≤ 9) (hx : -1099511627776 ≤ x ∧ x ≤ 1099511627776) : -9895604649984 ≤ c * x ∧ c * x ≤ 9895604649984 := by
  obtain ⟨h1, h2⟩ := h
  have : c = -9 ∨ c = -8 ∨ c = -7 ∨ c = -6 ∨ c = -5 ∨ c = -4 ∨ c = -3 ∨ c = -2 ∨ c = -1 ∨ c = 0 ∨ c = 1 ∨ c = 2 ∨ c = 3 ∨ c = 4 ∨ c = 5 ∨ c = 6 ∨ c = 7 ∨ c = 8 ∨ c = 9 := by omega
  rcases this with h | h | h | h | h | h | h | h | h | h | h | h | h | h | h | h | h | h | h <;> subst h <;> omega
theorem evalTo_bd {co p : List Int} (hc : ∀ i, -9 ≤ co.getD i 0 ∧ co.getD i 0 ≤ 9) (hp : Small p) : ∀ k : Nat, -9895604649984 * (k : Int) ≤ evalTo co p k ∧ evalTo co p k ≤ 9895604649984 * (k : Int)
  | 0 => by simp [evalTo]
  | k + 1 => by
    rw [evalTo]
    have h1 := evalTo_bd hc hp k
    have h2 := mul_bd (hc k) (hp.getD k)
    omega

theorem eval_any (P Q : Nat → Prop) (v : Value) (x : Aff) (a2 : Option Addr) (n c2 : Nat) (p : List Int) (w : World) (h : AffR P w v x) (hp : Sl Sh.int Q w (.slice a2 n c2) p) (hV : affV x = true) (hS : Small p) (hn : n ≤ 4) :
    Calls Try.prog 34 #[v, .slice a2 n c2] w fun e w' => e = .returned (.int .i64 (affEval x p)) ∧ Below w.heap.size w w' := by
  have hco := affV_getD hV
  have hk := affV_const hV
  have hlen := affV_len hV
  obtain ⟨a, c, rfl, h1, h2, hs⟩ := h.shape
  obtain ⟨co, k⟩ := x
  simp only at hs h1 h2 hco hk hlen ⊢
  rw [hlen] at hs
  have hs' := hs.alloc (.cells #[.slice a 4 c, .int .i64 k] 37)
  have hp' := hp.alloc (.cells #[.slice a 4 c, .int .i64 k] 37)
  have hbd := evalTo_bd hco hS
  have hpl := hid hp.len
  have Hlen := hid hlen; have Hco := hid hco; have HS := hid hS; have Hbd := hid hbd
  have hax : Hid (affEval (co, k) p = k + evalTo co p n) := hid (by rw [affEval, hpl.out])
  clear hlen hco hS hbd hV h1
  obtain ⟨ba, oa, ha, _, _, hca⟩ := hs'.intAt (by omega)
  subst ha
  have Hca := hid hca; clear hca
  go_enter Try.func34, Try.ntmps34
  rw [Hlen.out]
  go_wp2
  go_loop [5, 12] (fun q i => ∃ j : Nat, j ≤ n ∧ i = .int .i64 j ∧ q = .int .i64 (k + evalTo co p j)) (fun _ i => n - (intOf i).toNat)
  case atStart => exact ⟨0, Nat.zero_le _, rfl, by simp [evalTo]⟩
  case round =>
    obtain ⟨j, hj, rfl, rfl⟩ := hrel
    by_cases hlt : j < n
    · obtain ⟨bb, ob, hb, _, _, hcb⟩ := hp'.intAt (by omega)
      subst hb
      have q1 := Hca.out j (by omega)
      have q2 := hcb j hlt
      have b0 := Hbd.out j
      have b1 := Hco.out j
      have b2 := HS.out.getD j
      have b3 := mul_bd b1 b2
      have he : evalTo co p (j + 1) = evalTo co p j + co.getD j 0 * p.getD j 0 := rfl
      generalize co.getD j 0 = y at q1 b3 he
      generalize p.getD j 0 = z at q2 b3 he
      generalize evalTo co p j = f at b0 he
      have He := hid he
      clear he hcb b1 b2
      go_wp2
      exact ⟨⟨j + 1, by omega, rfl, int_i64 (by rw [He.out]; omega)⟩, by simp [intOf]; omega⟩
    · have hje : j = n := by omega
      subst hje
      go_wp2
      go_ret
      exact ⟨ret_int hax.out.symm, (Below.refl _ _).alloc (Nat.le_refl _) _⟩
/-- An affine expression whose coefficients are the call's own. -/
def AffO (B : Nat) (w : World) (v : Value) (x : Aff) : Prop := ∃ va, v = .agg #[va, .int .i64 x.2] ∧ OwnI B w va x.1
theorem AffO.r {B : Nat} {w : World} {v : Value} {x : Aff} (h : AffO B w v x) (hn : x.1.length ≤ 17592186044416) : AffR (fun b => B ≤ b) w v x := by
  obtain ⟨va, e, ho⟩ := h
  exact ⟨va, e, (ho.sl hn).mono fun b hb _ => (ho.lt b hb).1⟩
theorem AffO.any {B : Nat} {w : World} {v : Value} {x : Aff} (h : AffO B w v x) (hn : x.1.length ≤ 17592186044416) : AffR (fun _ => True) w v x := (h.r hn).any
theorem AffO.below {B : Nat} {w w' : World} {v : Value} {x : Aff} (h : AffO B w v x) (hb : Below w.heap.size w w') : AffO B w' v x := by
  obtain ⟨va, e, ho⟩ := h
  exact ⟨va, e, ho.below hb⟩
theorem AffO.base {B B' : Nat} {w : World} {v : Value} {x : Aff} (h : AffO B w v x) (hB : B' ≤ B) : AffO B' w v x := by
  obtain ⟨va, e, ho⟩ := h
  exact ⟨va, e, ho.base hB⟩
theorem AffO.grown {B : Nat} {w w' : World} {v : Value} {x : Aff} {r : Option Nat} (h : AffO B w v x) (hg : w.grownBy w' r) (hr : ∀ g, r = some g → g < B) : AffO B w' v x := by
  obtain ⟨va, e, ho⟩ := h
  exact ⟨va, e, ho.grown hg (fun g hg e => by have := hr g hg; have := (ho.lt g e).1; omega)⟩
theorem AffO.zero (B : Nat) (w : World) : AffO B w (.agg #[.slice none 0 0, .int .i64 0]) ([], 0) := ⟨_, rfl, OwnI.nil _ _⟩
theorem OwnI.store {B : Nat} {w : World} {v u : Value} {xs : List Int} {p : Addr} (h : OwnI B w v xs) (hne : v.ownBlock ≠ some p.block) : OwnI B (w.setCell p u) v xs :=
  h.grown (setCell_grown w p u) (fun g hg => by cases hg; exact hne)
theorem Sl.store {α : Type} {S : Sh α} {P : Nat → Prop} {w : World} {v u : Value} {xs : List α} {p : Addr} (h : Sl S P w v xs) (hne : ¬ P p.block) : Sl S P (w.setCell p u) v xs :=
  h.grown (setCell_grown w p u) (fun b hb e => hne (by cases e; exact hb))


/-- A block of two cells that is there, and not frozen. -/
structure Box2 (w : World) (g : Nat) (u0 u1 : Value) : Prop where
  c0 : w.cell? ⟨g, 0, none⟩ = some u0
  c1 : w.cell? ⟨g, 1, none⟩ = some u1
  f0 : w.frozen? ⟨g, 0, none⟩ = false
  f1 : w.frozen? ⟨g, 1, none⟩ = false
  lt : g < w.heap.size
theorem Box2.new (w : World) (u0 u1 : Value) (T : TypeId) : Box2 (w.alloc (.cells #[u0, u1] T)) w.heap.size u0 u1 := by
  have hn := heap_alloc_new w (.cells #[u0, u1] T)
  refine ⟨cell_of_row _ _ 0 _ _ _ hn, cell_of_row _ _ 1 _ _ _ hn, ?_, ?_, by simp⟩
  · unfold World.frozen?; rw [hn]; rfl
  · unfold World.frozen?; rw [hn]; rfl
theorem Box2.belowLt {w w' : World} {g D : Nat} {u0 u1 : Value} (h : Box2 w g u0 u1) (hb : Below D w w') (hD : g < D) : Box2 w' g u0 u1 :=
  ⟨(hb.cell (p := ⟨g, 0, none⟩) hD).trans h.c0, (hb.cell (p := ⟨g, 1, none⟩) hD).trans h.c1, (hb.frozen (p := ⟨g, 0, none⟩) hD).trans h.f0, (hb.frozen (p := ⟨g, 1, none⟩) hD).trans h.f1, Nat.lt_of_lt_of_le h.lt hb.size⟩
theorem Box2.below {w w' : World} {g : Nat} {u0 u1 : Value} (h : Box2 w g u0 u1) (hb : Below w.heap.size w w') : Box2 w' g u0 u1 := h.belowLt hb h.lt
theorem Box2.alloc {w : World} {g : Nat} {u0 u1 : Value} (h : Box2 w g u0 u1) (o : Obj) : Box2 (w.alloc o) g u0 u1 := h.below ((Below.refl _ _).alloc (Nat.le_refl _) o)
theorem Box2.drew {w : World} {g : Nat} {u0 u1 : Value} (h : Box2 w g u0 u1) : Box2 w.drew g u0 u1 := ⟨h.c0, h.c1, h.f0, h.f1, h.lt⟩
def affSum (a : Aff) (k : Int) (b : Aff) : Aff := ([a.1.getD 0 0 + k * b.1.getD 0 0, a.1.getD 1 0 + k * b.1.getD 1 0, a.1.getD 2 0 + k * b.1.getD 2 0, a.1.getD 3 0 + k * b.1.getD 3 0], a.2 + k * b.2)
/-- Four coefficients and a constant that are not great. -/
def affM (x : Aff) : Prop := x.1.length = 4 ∧ (∀ i, -99 ≤ x.1.getD i 0 ∧ x.1.getD i 0 ≤ 99) ∧ -99 ≤ x.2 ∧ x.2 ≤ 99
theorem affM_const {n : Int} (h : -99 ≤ n ∧ n ≤ 99) : affM ([0, 0, 0, 0], n) := by
  refine ⟨rfl, fun i => ?_, h⟩
  match i with
  | 0 => simp
  | 1 => simp
  | 2 => simp
  | 3 => simp
  | i + 4 => simp
def affSubst (a : Aff) (v : Nat) (b : Aff) : Aff := affSum (a.1.set v 0, a.2) (a.1.getD v 0) b
/-- The call hands back an expression and whether there is one. -/
def RetA2 (P : Nat → Prop) (x : Aff) (ok : Bool) (w : World) (e : Ending) (w' : World) : Prop :=
  ∃ v, e = .returned (.tuple #[v, .bool ok]) ∧ AffR P w' v x ∧ Below w.heap.size w w'



def isPt (p : List Int) : Bool := decide (p.length ≤ 4) && !p.any (fun n => !inB n (-9999) 9999)
set_option maxHeartbeats 800000 in
theorem l1Point_any (Q : Nat → Prop) (a2 : Option Addr) (n c2 : Nat) (p : List Int) (w : World) (hp : Sl Sh.int Q w (.slice a2 n c2) p) :
    Calls Try.prog 20 #[.slice a2 n c2] w fun e w' => e = .returned (.bool (isPt p)) ∧ w = w' := by
  have hle := hp.le
  have hpl := hid hp.len
  go_enter Try.func20, Try.ntmps20
  go_wp2
  go_loop [3] (fun i => ∃ j : Nat, j ≤ n ∧ i = .int .i64 j ∧ Hid (∀ x ∈ p.take j, (!inB x (-9999) 9999) = false)) (fun i => n - (intOf i).toNat)
  case atStart => exact ⟨0, Nat.zero_le _, rfl, hid (by simp)⟩
  case round =>
    obtain ⟨j, hj, rfl, ht⟩ := hrel
    by_cases hlt : j < n
    · obtain ⟨ba, oa, ha, _, _, hca⟩ := hp.intAt (by omega)
      subst ha
      have q1 := hca j hlt
      generalize hy : p.getD j 0 = y at q1
      have Hy := hid hy; clear hy hca
      cases hq : inB y (-9999) 9999
      · have Hq : Hid (inB y (-9999) 9999 = false) := hid hq
        have hany : Hid (p.any (fun c => !inB c (-9999) 9999) = true) := hid (List.any_eq_true.2 ⟨y, by rw [← Hy.out, List.getD, List.getElem?_eq_getElem (by rw [hpl.out]; exact hlt)]; exact List.getElem_mem _, by rw [Hq.out]; rfl⟩)
        go_wp2_with (go_at_call 22; refine (l1Within_any _ _ _ (by omega) (by omega)).mono ?_; rintro e w' ⟨rfl, rfl⟩; rw [Hq.out])
        go_ret
        exact ⟨ret_bool (by rw [isPt, hany.out]; simp), rfl⟩
      · have Hq : Hid (inB y (-9999) 9999 = true) := hid hq
        have Ht := hid (take_step (p := fun c => !inB c (-9999) 9999) ht.out (by rw [hpl.out]; exact hlt) (by rw [Hy.out, Hq.out]; rfl))
        go_wp2_with (go_at_call 22; refine (l1Within_any _ _ _ (by omega) (by omega)).mono ?_; rintro e w' ⟨rfl, rfl⟩; rw [Hq.out])
        exact ⟨⟨j + 1, by omega, rfl, Ht⟩, by simp [intOf]; omega⟩
    · have hje : j = n := by omega
      subst hje
      have hany : Hid (p.any (fun c => !inB c (-9999) 9999) = false) := hid (by
        have := ht.out
        rw [List.take_of_length_le (by rw [hpl.out]; omega)] at this
        rw [List.any_eq_false]
        intro x hx
        rw [this x hx]; simp)
      have hr := hid (show isPt p = decide (j ≤ 4) by rw [isPt, hany.out, hpl.out]; simp)
      by_cases h4 : j ≤ 4
      · have hd : decide ((j : Int) ≤ 4) = true := by simp; omega
        have hr2 := hid (show isPt p = true by rw [hr.out]; exact decide_eq_true h4)
        go_wp2
        go_ret
        exact ⟨ret_bool hr2.out.symm, rfl⟩
      · have hd : decide ((j : Int) ≤ 4) = false := by simp; omega
        have hr2 := hid (show isPt p = false by rw [hr.out]; exact decide_eq_false h4)
        go_wp2
        go_ret
        exact ⟨ret_bool hr2.out.symm, rfl⟩

section
variable {P : Program} {n : Nat} {y : Code} {K : Exit → St → Prop} {σ : St} {id i : Nat} {I : Nat → St → Prop} {m : Nat}
theorem ks_n (h : ACode P n y K σ) : kseq P n y K .normal σ := h
theorem ks_e (h : K (.exit i) σ) : kseq P n y K (.exit i) σ := h
theorem ks_r (h : K .ret σ) : kseq P n y K .ret σ := h
theorem kb_n (h : K .normal σ) : kblock id K .normal σ := h
theorem kb_r (h : K .ret σ) : kblock id K .ret σ := h
theorem kb_hit (h : K .normal σ) : kblock id K (.exit id) σ := by simpa [kblock] using h
theorem kl_e (h : K (.exit i) σ) : kloop I m K (.exit i) σ := h
theorem kl_r (h : K .ret σ) : kloop I m K .ret σ := h
/-- What lies behind a piece of code, said once for all its ways. -/
def kcut (σm : St) (K : Exit → St → Prop) : Exit → St → Prop
  | .normal, σ => Wk σ σm
  | e, σ => K e σ
theorem kc_n {σm : St} (h : Wk σ σm) : kcut σm K .normal σ := h
theorem ACode.cut {P : Program} {n : Nat} {c : Code} {K : Exit → St → Prop} {σ : St} (σm : St) (h : ACode P n c (kcut σm K) σ) (h2 : K .normal σm) : ACode P n c K σ := by
  intro E bx a w hE hs
  refine wp_mono (h E bx a w hE hs) ?_
  rintro e a' w' ⟨σ', bx', h3, h4⟩
  cases e with
  | normal => obtain ⟨bx2, h5⟩ := h3 E bx' a' w' h4; exact ⟨σm, bx2, h2, h5⟩
  | _ => exact ⟨σ', bx', h3, h4⟩
theorem vB {a b : Bool} (h : a = b) : V.o (bo1 a) = .o (bo1 b) := by rw [h]
theorem vI {a b : Int} (h : a = b) : V.o (nat1 a) = .o (nat1 b) := by rw [h]
theorem kf_ret {res : Array ResultVar} {y : V} {hb' : St} {xs : List V1} (hr : resL σ P res.toList = some xs) (hy : tupV xs = y) (hb : ∀ k e sz rows, lk hb' (.b k) = .b e sz rows → lk σ (.b k) = .b e sz rows) : Kfin P res y hb' .ret σ := ⟨σ, xs, Wk.refl σ, hr, hy, hb⟩
theorem kf_wret {res : Array ResultVar} {y : V} {hb' : St} {xs : List V1} (σ2 : St) (hw : Wk σ σ2) (hr : resL σ2 P res.toList = some xs) (hy : tupV xs = y) (hb : ∀ k e sz rows, lk hb' (.b k) = .b e sz rows → lk σ2 (.b k) = .b e sz rows) : Kfin P res y hb' .ret σ := ⟨σ2, xs, hw, hr, hy, hb⟩
theorem nobox : ∀ (k : Nat) (e : TypeId) (sz : Nat) (rows : List (List C)), lk [] (.b k) = .b e sz rows → lk σ (.b k) = .b e sz rows := fun k e sz rows h => by cases h
end
/-- A function without boxes. -/
theorem Fn.code0 {P : Program} {f : FuncId} {fn : Func} {c : Code} {args : List V1} {y : V} (hf : P.funcs[f]? = some fn) (hbd : fn.body = some c) (hn : Nat.ble args.length fn.ntmps = true) (hra : refsOk [] args = true)
    (hry : refsOk [] [match y with | .o x => x | .tup xs => .agg (xs.flatMap V1.cells) | .gh _ => .agg []] = true) (h : ACode P fn.ntmps c (Kfin P fn.results y []) (argS 0 args)) : Fn P f [] args y [] :=
  Fn.of_code hf hbd hn HB.nil rfl hra HB.nil hry (fun k _ ⟨e, sz, rows, h⟩ => by cases h) (by rw [List.append_nil]; exact h)
/-- From a contract of the older kind. -/
theorem Fn.pure {P : Program} {f : FuncId} {args : List V1} {y : V} (h : ∀ (B : Nat → Prop) (bx : Nat → Nat × Nat) (al : Nat → Prop) (w : World) (vs : List Value), Vals (V1r bx al B w) args vs →
    Calls P f vs.toArray w fun e w' => ∃ v, e = .returned v ∧ Below w.heap.size w w' ∧ Vr bx al (fun b => B b ∨ w.heap.size ≤ b) w' y v) : Fn P f [] args y [] := by
  intro B bx w vs hh hv
  refine (h B bx _ w vs hv).mono ?_
  rintro e w' ⟨v, rfl, hb, hr⟩
  exact ⟨v, bx, rfl, ⟨fun k e sz rows h => (by cases h), fun k l ⟨e, sz, rows, h⟩ => (by cases h), fun k ⟨e, sz, rows, h⟩ => (by cases h)⟩, hr.to (Same.refl _ _) (fun b hb _ => ⟨hb, fun k ⟨e, sz, rows, h⟩ => (by cases h)⟩) (fun k _ h => ⟨h, rfl⟩), hb.os, hb.tape, hb.output, hb.size, fun b hl _ => hb.block b hl, fun k _ ⟨e, sz, rows, h⟩ => (by cases h), fun k ⟨e, sz, rows, h⟩ => (by cases h)⟩

/-! ### Data of affine expressions and nests -/
@[reducible] def dI (n : Int) : D := .val (.int .i64 n)
@[reducible] def dB (b : Bool) : D := .val (.bool b)
def rI (n : Int) : List D := [dI n]
def dIs (xs : List Int) : D := .list 1 (xs.map rI)
def rA (x : Aff) : List D := [dIs x.1, dI x.2]
def dAs (l : List Aff) : D := .list 2 (l.map rA)
abbrev vD (x : D) : V1 := .c (.d x)
theorem map_at {α β : Type} {f : α → β} {l : List α} {i : Nat} {x : α} (h : l[i]? = some x) : (l.map f)[i]? = some (f x) := by rw [List.getElem?_map, h]; rfl
theorem dr_int {B : Nat → Prop} {w : World} {n : Int} {v : Value} (h : Dr B w (dI n) v) : v = .int .i64 n := by cases h; rfl
theorem dr_ints {B : Nat → Prop} {w : World} {xs : List Int} {v : Value} (h : Dr B w (dIs xs) v) : Sl Sh.int B w v xs := by
  obtain ⟨ad, cap, rfl, h1, h2, h3, h4⟩ := h.slice
  rw [List.length_map] at h1 h2 h4 ⊢
  refine ⟨ad, cap, rfl, h1, h2, h3, fun i x hx => ?_⟩
  obtain ⟨b, off, rfl, h5⟩ := h4 (by have := (List.getElem?_eq_some_iff.1 hx).1; omega)
  obtain ⟨_, u, h6, h7, h8⟩ := h5 i (rI x) 0 (dI x) (map_at hx) rfl
  refine ⟨b, off, [.int .i64 x], rfl, h6, rfl, fun j c hj => ?_⟩
  cases j with
  | zero => simp at hj; subst hj; rw [← dr_int h8]; exact h7
  | succ j => simp at hj
theorem dr_aff {bx : Nat → Nat × Nat} {al B : Nat → Prop} {w : World} {x : Aff} {v : Value} (h : V1r bx al B w (ad (rA x)) v) : AffR B w v x := by
  obtain ⟨vs, rfl, hl, h⟩ := h
  match vs, hl with
  | [u0, u1], _ =>
    have h0 : Dr B w (dIs x.1) u0 := h 0 _ u0 rfl rfl
    have h1 : Dr B w (dI x.2) u1 := h 1 _ u1 rfl rfl
    rw [dr_int h1]
    exact ⟨u0, rfl, dr_ints h0⟩
theorem vals1 {R : V1 → Value → Prop} {x : V1} {vs : List Value} (h : Vals R [x] vs) : ∃ v, vs = [v] ∧ R x v := by
  obtain ⟨hl, h⟩ := h
  match vs, hl with
  | [v], _ => exact ⟨v, rfl, h 0 x v rfl rfl⟩
theorem vals2 {R : V1 → Value → Prop} {x y : V1} {vs : List Value} (h : Vals R [x, y] vs) : ∃ u v, vs = [u, v] ∧ R x u ∧ R y v := by
  obtain ⟨hl, h⟩ := h
  match vs, hl with
  | [u, v], _ => exact ⟨u, v, rfl, h 0 x u rfl rfl, h 1 y v rfl rfl⟩
theorem specAffV_fn (x : Aff) : Fn Try.prog 78 [] [ad (rA x)] (.o (bo1 (affV x))) [] :=
  Fn.pure fun B bx al w vs hv => by
    obtain ⟨v, rfl, h⟩ := vals1 hv
    exact (specAffV_any B v x w (dr_aff h)).mono fun e w' ⟨h1, h2⟩ => ⟨_, h1, h2, .val _ rfl⟩
theorem l1Depth_fn (x : Aff) : Fn Try.prog 79 [] [ad (rA x)] (.o (nat1 (affDepth x : Nat))) [] :=
  Fn.pure fun B bx al w vs hv => by
    obtain ⟨v, rfl, h⟩ := vals1 hv
    exact (l1Depth_any B v x w (dr_aff h)).mono fun e w' ⟨h1, h2⟩ => ⟨_, h1, h2, .val _ rfl⟩
section
variable {P : Program} {n : Nat} {ops : Array Oper} {o : Oper} {σ : St} {d : Nat} {t t2 : TypeId} {x y : Operand} {p q : Int}
end
theorem leafB {a b : Bool} (h : a = b) : tupV [bo1 a] = .o (bo1 b) := by rw [h]; rfl
theorem leafI {a b : Int} (h : a = b) : tupV [nat1 a] = .o (nat1 b) := by rw [h]; rfl

/-! ### The reader's data -/
theorem one_box {σ : St} {k0 : Nat} {e0 : TypeId} {sz0 : Nat} {rows0 : List (List C)} (h : lk σ (.b k0) = .b e0 sz0 rows0) : ∀ k e sz rows, lk [(.b k0, .b e0 sz0 rows0), (.u k0, .u)] (.b k) = .b e sz rows → lk σ (.b k) = .b e sz rows := fun k e sz rows h1 => by
  have hm := lk_mem h1 (by simp)
  rcases List.mem_cons.1 hm with hm | hm
  · cases hm; exact h
  · rcases List.mem_cons.1 hm with hm | hm
    · cases hm
    · cases hm
theorem one_num {σ : St} {k0 : Nat} {e0 : TypeId} {sz0 : Nat} {rows0 : List (List C)} (hk : Nat.ble 100 k0 = true) : ∀ k, k < 100 → Al (lk [(.b k0, .b e0 sz0 rows0), (.u k0, .u)]) k → Al (lk σ) k := fun k h ⟨e, sz, rows, h1⟩ => by
  have hm := lk_mem h1 (by simp)
  have := Nat.le_of_ble_eq_true hk
  rcases List.mem_cons.1 hm with hm | hm
  · cases hm; omega
  · rcases List.mem_cons.1 hm with hm | hm
    · cases hm
    · cases hm
theorem getD_at {l : List Int} {i : Nat} (h : i < l.length) : l[i]? = some (l.getD i 0) := by rw [List.getD, List.getElem?_eq_getElem h]; rfl
def Bytes (bs : List Int) : Prop := bs.length ≤ 2000 ∧ ∀ b ∈ bs, 0 ≤ b ∧ b ≤ 255
theorem Bytes.at {bs : List Int} (h : Bytes bs) (i : Nat) : 0 ≤ bs.getD i 0 ∧ bs.getD i 0 ≤ 255 := by
  rw [List.getD]
  cases hb : bs[i]? with
  | none => simp
  | some b => exact h.2 b (List.mem_of_getElem? hb)
section
variable {P : Program} {n : Nat} {ops : Array Oper} {o : Oper} {σ : St} {d : Nat}
end
section
variable {P : Program} {n : Nat} {ops : Array Oper} {o : Oper} {σ : St} {d : Nat}
theorem St1.mv {x : Operand} {v : V} (h4 : (o.op, o.guard, o.dst, Nat.blt d n) = (Op.move x, none, some d, true)) (hx : ev σ x = some v) :
    St1 P n ops o σ (rd x) [.t d] ((.t d, .v (v)) :: σ) := by
  simp only [Prod.mk.injEq] at h4
  exact St1.move  h4.1 h4.2.1 h4.2.2.1 h4.2.2.2 hx
theorem St1.asg {x : Operand} {v : V} (h4 : (o.op, o.guard, o.dst, Nat.blt d n) = (Op.assign x, none, some d, true)) (hx : ev σ x = some v) :
    St1 P n ops o σ (rd x) [.t d] ((.t d, .v (v)) :: σ) := by
  simp only [Prod.mk.injEq] at h4
  exact St1.assign  h4.1 h4.2.1 h4.2.2.1 h4.2.2.2 hx
theorem St1.pT {c x y : Operand} {v : V} (h4 : (o.op, o.guard, o.dst, Nat.blt d n) = (Op.pick c x y, none, some d, true)) (hc : ev σ c = some (.o (bo1 true))) (hx : ev σ x = some v) :
    St1 P n ops o σ (rd c ++ rd x) [.t d] ((.t d, .v (v)) :: σ) := by
  simp only [Prod.mk.injEq] at h4
  exact St1.pickT  h4.1 h4.2.1 h4.2.2.1 h4.2.2.2 hc hx
theorem St1.pF {c x y : Operand} {v : V} (h4 : (o.op, o.guard, o.dst, Nat.blt d n) = (Op.pick c x y, none, some d, true)) (hc : ev σ c = some (.o (bo1 false))) (hy : ev σ y = some v) :
    St1 P n ops o σ (rd c ++ rd y) [.t d] ((.t d, .v (v)) :: σ) := by
  simp only [Prod.mk.injEq] at h4
  exact St1.pickF  h4.1 h4.2.1 h4.2.2.1 h4.2.2.2 hc hy
theorem St1.pl {x y : Operand} {p q : Int} {t t2 : TypeId} (h4 : (o.op, o.guard, o.dst, Nat.blt d n) = (Op.binOp .add t x y t2, none, some d, true)) (hx : ev σ x = some (.o (nat1 p))) (hy : ev σ y = some (.o (nat1 q))) (hr : -9223372036854775808 ≤ p + q ∧ p + q ≤ 9223372036854775807 := by omega) :
    St1 P n ops o σ (rd x ++ rd y) [.t d] ((.t d, .v (.o (nat1 (p + q)))) :: σ) := by
  simp only [Prod.mk.injEq] at h4
  exact St1.add  h4.1 h4.2.1 h4.2.2.1 h4.2.2.2 hx hy hr
theorem St1.sb {x y : Operand} {p q : Int} {t t2 : TypeId} (h4 : (o.op, o.guard, o.dst, Nat.blt d n) = (Op.binOp .sub t x y t2, none, some d, true)) (hx : ev σ x = some (.o (nat1 p))) (hy : ev σ y = some (.o (nat1 q))) (hr : -9223372036854775808 ≤ p - q ∧ p - q ≤ 9223372036854775807 := by omega) :
    St1 P n ops o σ (rd x ++ rd y) [.t d] ((.t d, .v (.o (nat1 (p - q)))) :: σ) := by
  simp only [Prod.mk.injEq] at h4
  exact St1.sub  h4.1 h4.2.1 h4.2.2.1 h4.2.2.2 hx hy hr
theorem St1.ml {x y : Operand} {p q : Int} {t t2 : TypeId} (h4 : (o.op, o.guard, o.dst, Nat.blt d n) = (Op.binOp .mul t x y t2, none, some d, true)) (hx : ev σ x = some (.o (nat1 p))) (hy : ev σ y = some (.o (nat1 q))) (hr : -9223372036854775808 ≤ p * q ∧ p * q ≤ 9223372036854775807 := by omega) :
    St1 P n ops o σ (rd x ++ rd y) [.t d] ((.t d, .v (.o (nat1 (p * q)))) :: σ) := by
  simp only [Prod.mk.injEq] at h4
  exact St1.mul  h4.1 h4.2.1 h4.2.2.1 h4.2.2.2 hx hy hr
theorem St1.ls {x y : Operand} {p q : Int} {t t2 : TypeId} (h4 : (o.op, o.guard, o.dst, Nat.blt d n) = (Op.binOp .lss t x y t2, none, some d, true)) (hx : ev σ x = some (.o (nat1 p))) (hy : ev σ y = some (.o (nat1 q))) :
    St1 P n ops o σ (rd x ++ rd y) [.t d] ((.t d, .v (.o (bo1 (decide (p < q))))) :: σ) := by
  simp only [Prod.mk.injEq] at h4
  exact St1.lss  h4.1 h4.2.1 h4.2.2.1 h4.2.2.2 hx hy
theorem St1.le {x y : Operand} {p q : Int} {t t2 : TypeId} (h4 : (o.op, o.guard, o.dst, Nat.blt d n) = (Op.binOp .leq t x y t2, none, some d, true)) (hx : ev σ x = some (.o (nat1 p))) (hy : ev σ y = some (.o (nat1 q))) :
    St1 P n ops o σ (rd x ++ rd y) [.t d] ((.t d, .v (.o (bo1 (decide (p ≤ q))))) :: σ) := by
  simp only [Prod.mk.injEq] at h4
  exact St1.leq  h4.1 h4.2.1 h4.2.2.1 h4.2.2.2 hx hy
theorem St1.gt {x y : Operand} {p q : Int} {t t2 : TypeId} (h4 : (o.op, o.guard, o.dst, Nat.blt d n) = (Op.binOp .gtr t x y t2, none, some d, true)) (hx : ev σ x = some (.o (nat1 p))) (hy : ev σ y = some (.o (nat1 q))) :
    St1 P n ops o σ (rd x ++ rd y) [.t d] ((.t d, .v (.o (bo1 (decide (q < p))))) :: σ) := by
  simp only [Prod.mk.injEq] at h4
  exact St1.gtr  h4.1 h4.2.1 h4.2.2.1 h4.2.2.2 hx hy
theorem St1.ge {x y : Operand} {p q : Int} {t t2 : TypeId} (h4 : (o.op, o.guard, o.dst, Nat.blt d n) = (Op.binOp .geq t x y t2, none, some d, true)) (hx : ev σ x = some (.o (nat1 p))) (hy : ev σ y = some (.o (nat1 q))) :
    St1 P n ops o σ (rd x ++ rd y) [.t d] ((.t d, .v (.o (bo1 (decide (q ≤ p))))) :: σ) := by
  simp only [Prod.mk.injEq] at h4
  exact St1.geq  h4.1 h4.2.1 h4.2.2.1 h4.2.2.2 hx hy
theorem St1.eq {x y : Operand} {p q : Int} {t t2 : TypeId} (h4 : (o.op, o.guard, o.dst, Nat.blt d n) = (Op.binOp .eql t x y t2, none, some d, true)) (hx : ev σ x = some (.o (nat1 p))) (hy : ev σ y = some (.o (nat1 q))) :
    St1 P n ops o σ (rd x ++ rd y) [.t d] ((.t d, .v (.o (bo1 (decide (p = q))))) :: σ) := by
  simp only [Prod.mk.injEq] at h4
  exact St1.eql  h4.1 h4.2.1 h4.2.2.1 h4.2.2.2 hx hy
theorem St1.ne {x y : Operand} {p q : Int} {t t2 : TypeId} (h4 : (o.op, o.guard, o.dst, Nat.blt d n) = (Op.binOp .neq t x y t2, none, some d, true)) (hx : ev σ x = some (.o (nat1 p))) (hy : ev σ y = some (.o (nat1 q))) :
    St1 P n ops o σ (rd x ++ rd y) [.t d] ((.t d, .v (.o (bo1 (!decide (p = q))))) :: σ) := by
  simp only [Prod.mk.injEq] at h4
  exact St1.neq  h4.1 h4.2.1 h4.2.2.1 h4.2.2.2 hx hy
theorem St1.nt {x : Operand} {t : TypeId} {b : Bool} (h4 : (o.op, o.guard, o.dst, Nat.blt d n) = (Op.unOp .not t x, none, some d, true)) (hx : ev σ x = some (.o (bo1 b))) :
    St1 P n ops o σ (rd x) [.t d] ((.t d, .v (.o (bo1 (!b)))) :: σ) := by
  simp only [Prod.mk.injEq] at h4
  exact St1.not  h4.1 h4.2.1 h4.2.2.1 h4.2.2.2 hx
theorem St1.l1 (m : Nat) {t : TypeId} {x : Operand} {c : D} {rest : List D} (h4 : (o.op, o.guard, o.dst, Nat.blt d n) = (Op.load t x, none, some d, true)) (hx : ev σ x = some (.o (.c (.ptr (c :: rest))))) (ht : tyL P t = some (false, m) := by kernel_rfl) :
    St1 P n ops o σ (rd x) [.t d] ((.t d, .v (.o (.c (.d c)))) :: σ) := by
  simp only [Prod.mk.injEq] at h4
  exact St1.loadP1 (m := m) h4.1 h4.2.1 h4.2.2.1 h4.2.2.2 ht hx
theorem St1.lN (m : Nat) {t : TypeId} {x : Operand} {cells : List D} (h4 : (o.op, o.guard, o.dst, Nat.blt d n) = (Op.load t x, none, some d, true)) (hx : ev σ x = some (.o (.c (.ptr cells)))) (hm : Nat.ble m cells.length = true) (ht : tyL P t = some (true, m) := by kernel_rfl) :
    St1 P n ops o σ (rd x) [.t d] ((.t d, .v (.o (ad (cells.take m)))) :: σ) := by
  simp only [Prod.mk.injEq] at h4
  exact St1.loadPN (m := m) h4.1 h4.2.1 h4.2.2.1 h4.2.2.2 ht hx hm
theorem St1.b1 (m : Nat) {t : TypeId} {x : Operand} {k sz sz' i j : Nat} {e : TypeId} {rows : List (List C)} {r : List C} {c : C} (h4 : (o.op, o.guard, o.dst, Nat.blt d n) = (Op.load t x, none, some d, true)) (hx : ev σ x = some (.o (.c (.box k sz i j)))) (hb : lk σ (.b k) = .b e sz' rows) (hsz : sz' = sz) (hi : rows[i]? = some r) (hj : r[j]? = some c) (ht : tyL P t = some (false, m) := by kernel_rfl) :
    St1 P n ops o σ (rd x ++ [.b k]) [.t d] ((.t d, .v (.o (.c c))) :: σ) := by
  simp only [Prod.mk.injEq] at h4
  exact St1.loadB1 (m := m) h4.1 h4.2.1 h4.2.2.1 h4.2.2.2 ht hx hb hsz hi hj
theorem St1.bN (m : Nat) {t : TypeId} {x : Operand} {k sz sz' i j : Nat} {e : TypeId} {rows : List (List C)} {r : List C} (h4 : (o.op, o.guard, o.dst, Nat.blt d n) = (Op.load t x, none, some d, true)) (hx : ev σ x = some (.o (.c (.box k sz i j)))) (hb : lk σ (.b k) = .b e sz' rows) (hsz : sz' = sz) (hi : rows[i]? = some r) (hj : Nat.ble (j + m) r.length = true) (ht : tyL P t = some (true, m) := by kernel_rfl) :
    St1 P n ops o σ (rd x ++ [.b k]) [.t d] ((.t d, .v (.o (.agg ((r.drop j).take m)))) :: σ) := by
  simp only [Prod.mk.injEq] at h4
  exact St1.loadBN (m := m) h4.1 h4.2.1 h4.2.2.1 h4.2.2.2 ht hx hb hsz hi hj
theorem St1.fP (off : Nat) (m : Nat) (r : Bool) {t : TypeId} {x : Operand} {f : Nat} {cells : List D} (h4 : (o.op, o.guard, o.dst, Nat.blt d n) = (Op.fieldAddr t x f, none, some d, true)) (hx : ev σ x = some (.o (.c (.ptr cells)))) (ht : tyF P t f = some (off, r, m + 1) := by kernel_rfl) :
    St1 P n ops o σ (rd x) [.t d] ((.t d, .v (.o (.c (.ptr (cells.drop off))))) :: σ) := by
  simp only [Prod.mk.injEq] at h4
  exact St1.fieldP (off := off) (m := m) (r := r) h4.1 h4.2.1 h4.2.2.1 h4.2.2.2 ht hx
theorem St1.fB (off : Nat) (m : Nat) (r : Bool) {t : TypeId} {x : Operand} {f k sz i j : Nat} {e : TypeId} {sz' : Nat} {rows : List (List C)} (h4 : (o.op, o.guard, o.dst, Nat.blt d n) = (Op.fieldAddr t x f, none, some d, true)) (hx : ev σ x = some (.o (.c (.box k sz i j)))) (hb : lk σ (.b k) = .b e sz' rows) (ht : tyF P t f = some (off, r, m + 1) := by kernel_rfl) :
    St1 P n ops o σ (rd x ++ [.b k]) [.t d] ((.t d, .v (.o (.c (.box k sz i (j + off))))) :: σ) := by
  simp only [Prod.mk.injEq] at h4
  exact St1.fieldB (off := off) (m := m) (r := r) h4.1 h4.2.1 h4.2.2.1 h4.2.2.2 ht hx hb
theorem St1.f1 (off : Nat) (m : Nat) {t : TypeId} {x : Operand} {f : Nat} {cs : List C} {c : C} (h4 : (o.op, o.guard, o.dst, Nat.blt d n) = (Op.field t x f, none, some d, true)) (hx : ev σ x = some (.o (.agg cs))) (hc : cs[off]? = some c) (ht : tyF P t f = some (off, false, m) := by kernel_rfl) :
    St1 P n ops o σ (rd x) [.t d] ((.t d, .v (.o (.c c))) :: σ) := by
  simp only [Prod.mk.injEq] at h4
  exact St1.field1 (off := off) (m := m) h4.1 h4.2.1 h4.2.2.1 h4.2.2.2 ht hx hc
theorem St1.xL (e : TypeId) (sz : Nat) (by' : Nat) {t : TypeId} {x y : Operand} {sz' i : Nat} {rows : List (List D)} {r : List D} {z : Int} (h4 : (o.op, o.guard, o.dst, Nat.blt d n) = (Op.indexAddr t x y, none, some d, true)) (hx : ev σ x = some (.o (.c (.d (.list sz' rows))))) (hsz : sz' = sz) (hy : ev σ y = some (.o (nat1 z))) (hz : z = (i : Int)) (hi : rows[i]? = some r := by first | exact map_at (by assumption) | rfl) (ht : tyS P t = some (e, sz, by') := by kernel_rfl) :
    St1 P n ops o σ (rd x ++ rd y) [.t d] ((.t d, .v (.o (.c (.ptr r)))) :: σ) := by
  simp only [Prod.mk.injEq] at h4
  exact St1.indexL (e := e) (sz := sz) (by' := by') h4.1 h4.2.1 h4.2.2.1 h4.2.2.2 ht hx hsz hy hz hi
theorem St1.xB (e : TypeId) (sz : Nat) (by' : Nat) {t e' : TypeId} {x y : Operand} {sz' sz2 i k m : Nat} {rows : List (List C)} {z : Int} (h4 : (o.op, o.guard, o.dst, Nat.blt d n) = (Op.indexAddr t x y, none, some d, true)) (hx : ev σ x = some (.o (.c (.own k sz' m)))) (hsz : sz' = sz) (hb : lk σ (.b k) = .b e' sz2 rows) (hy : ev σ y = some (.o (nat1 z))) (hz : z = (i : Int)) (hi : i < m := by omega) (ht : tyS P t = some (e, sz, by') := by kernel_rfl) :
    St1 P n ops o σ ((rd x ++ rd y) ++ [.b k]) [.t d] ((.t d, .v (.o (.c (.box k sz' i 0)))) :: σ) := by
  simp only [Prod.mk.injEq] at h4
  exact St1.indexB (e := e) (sz := sz) (by' := by') h4.1 h4.2.1 h4.2.2.1 h4.2.2.2 ht hx hsz hb hy hz hi
theorem St1.ln (e : TypeId) (m : Nat) (by' : Nat) {t : TypeId} {x : Operand} {sz l : Nat} {rows : List (List D)} {ts : Array TypeId} (h4 : (o.op, o.guard, o.dst, Nat.blt d n) = (Op.call { callee := .builtin .len, args := #[x], argTypes := ts }, none, some d, true)) (hts : ts = #[t]) (hx : ev σ x = some (.o (.c (.d (.list sz rows))))) (hl : rows.length = l := by first | exact List.length_map _ | rfl) (ht : tyS P t = some (e, m, by') := by kernel_rfl) :
    St1 P n ops o σ (rd x) [.t d] ((.t d, .v (.o (nat1 (l : Nat)))) :: σ) := by
  simp only [Prod.mk.injEq] at h4
  exact St1.lenL (e := e) (m := m) (by' := by') h4.1 h4.2.1 h4.2.2.1 h4.2.2.2 hts ht hx hl
theorem St1.nB {x : Operand} {k sz i j : Nat} {e : TypeId} {sz' : Nat} {rows : List (List C)} (h4 : (o.op, o.guard, o.dst, Nat.blt d n) = (Op.nilCheck x, none, some d, true)) (hx : ev σ x = some (.o (.c (.box k sz i j)))) (hb : lk σ (.b k) = .b e sz' rows) :
    St1 P n ops o σ (rd x ++ [.b k]) [.t d] ((.t d, .v (.o (.c (.box k sz i j)))) :: σ) := by
  simp only [Prod.mk.injEq] at h4
  exact St1.nilB  h4.1 h4.2.1 h4.2.2.1 h4.2.2.2 hx hb
theorem St1.al (k' : Nat) (zs : List Value) {P : Program} {n : Nat} {ops : Array Oper} {o : Oper} {σ : St} {d : Nat} {t : TypeId} (h4 : (o.op, o.guard, o.dst, Nat.blt d n) = (Op.alloc t, none, some d, true)) (hz : zs.all (·.oneCell') = true) (hf : (lk σ (.u k'), Nat.ble 100 k') = (.no, true)) (ht : tyZ P t = some zs := by kernel_rfl) :
    St1 P n ops o σ [.u k'] [.t d, .u k', .b k', .b k'] ((.t d, .v (.o (.c (.box k' zs.length 0 0)))) :: (.u k', .u) :: (.b k', .b t zs.length [zs.map fun z => C.d (.val z)]) :: (.b k', .no) :: σ) := by
  simp only [Prod.mk.injEq] at h4 hf
  exact St1.alloc h4.1 h4.2.1 h4.2.2.1 h4.2.2.2 ht hz hf.1 hf.2
theorem St1.gF {P : Program} {n : Nat} {ops : Array Oper} {o : Oper} {σ : St} {d : Nat} {i : Nat} {b c : Bool} {t : Tmp} (h4 : (o.guard, o.dst, (ops[i]?).bind (·.dst), Nat.blt t n, Nat.blt d n) = (some (i, b), some d, some t, true, true)) (hv : (lk σ (.t t)) = .v (.o (bo1 c))) (hc : c = !b) : St1 P n ops o σ [.t t] [.t d] ((.t d, .v (.tup [])) :: σ) := by
  simp only [Prod.mk.injEq] at h4
  exact St1.guardF h4.1 h4.2.1 h4.2.2.1 h4.2.2.2.1 h4.2.2.2.2 hv hc
theorem St1.gU {P : Program} {n : Nat} {ops : Array Oper} {o : Oper} {σ : St} {d : Nat} {i : Nat} {b : Bool} {t : Tmp} (h4 : (o.guard, o.dst, (ops[i]?).bind (·.dst), Nat.blt t n, Nat.blt d n) = (some (i, b), some d, some t, true, true)) (hv : (lk σ (.t t)) = .v (.tup [])) : St1 P n ops o σ [.t t] [.t d] ((.t d, .v (.tup [])) :: σ) := by
  simp only [Prod.mk.injEq] at h4
  exact St1.guardU h4.1 h4.2.1 h4.2.2.1 h4.2.2.2.1 h4.2.2.2.2 hv
theorem St1.gT {P : Program} {n : Nat} {ops : Array Oper} {o : Oper} {σ : St} {i : Nat} {b c : Bool} {t : Tmp} {R W : List Res} {σ' : St} (h4 : (o.guard, (ops[i]?).bind (·.dst), Nat.blt t n) = (some (i, b), some t, true)) (hv : lk σ (.t t) = .v (.o (bo1 c))) (hc : c = b) (h : St1 P n ops { o with guard := none } σ R W σ') : St1 P n ops o σ (.t t :: R) W σ' := by
  simp only [Prod.mk.injEq] at h4
  exact St1.guardT h4.1 h4.2.1 h4.2.2 hv hc h
theorem St1.sT (m : Nat) (rw' : Bool) {P : Program} {n : Nat} {ops : Array Oper} {o : Oper} {σ : St} {t : TypeId} {x y : Operand} {k sz sz' i j : Nat} {e : TypeId} {rows : List (List C)} {r : List C} {v : V1} (h4 : (o.op, o.guard, o.dst) = (Op.store t x y, none, none)) (hx : ev σ x = some (.o (.c (.box k sz i j)))) (hb : lk σ (.b k) = .b e sz' rows) (hsz : sz' = sz) (hi : rows[i]? = some r) (hy : ev σ y = some (.o v)) (hj : (Nat.ble (j + m) r.length, Nat.beq v.cells.length m) = (true, true)) (ht : tyL P t = some (rw', m) := by kernel_rfl) :
    St1 P n ops o σ ((rd x ++ rd y) ++ [.b k]) [.b k] ((.b k, .b e sz' (rows.set i (place1 r j v.cells))) :: σ) := by
  simp only [Prod.mk.injEq] at h4 hj
  exact St1.store h4.1 h4.2.1 h4.2.2 ht hx hb hsz hi hj.1 hy hj.2
theorem St1.cP (xs : List Operand) {P : Program} {n : Nat} {ops : Array Oper} {o : Oper} {σ : St} {d : Nat} {fo : Operand} {ar : Array Operand} {ts : Array TypeId} {vs : List V1} {f : FuncId} {cap : List (List D)} {y : V} (h4 : (o.op, o.guard, o.dst, Nat.blt d n) = (Op.call { callee := .value fo, args := ar, argTypes := ts }, none, some d, true)) (has : ar = xs.toArray) (hfo : ev σ fo = some (.o (.c (.fn f cap)))) (hx : evL σ xs = some vs) (hF : Fn P f [] (vs ++ cap.map fun c => .c (.ptr c)) y [])
    (hy : y.refs = []) (hcall : callable P f = true := by kernel_rfl) : St1 P n ops o σ (rd fo ++ rdL xs) [.t d] ((.t d, .v y) :: σ) := by
  simp only [Prod.mk.injEq] at h4
  exact St1.callP h4.1 h4.2.1 h4.2.2.1 h4.2.2.2 has hfo hcall hx hF hy
theorem St1.bu (pl : List (Nat × Operand)) (places : List (Nat × Nat)) (zs : List Value) {P : Program} {n : Nat} {ops : Array Oper} {o : Oper} {σ : St} {d : Nat} {t : TypeId} {parts : Array (Nat × Operand)} {ps : List (Nat × V1)} {cs : List C} (h4 : (o.op, o.guard, o.dst, Nat.blt d n) = (Op.build t parts, none, some d, true)) (hpl : parts = pl.toArray) (hz : zs.all (·.oneCell') = true) (hp : evP σ pl = some ps) (hf : fillA (places[·]?) (zs.map fun z => C.d (.val z)) ps = some cs) (ht : tyB P t = some (places, zs) := by kernel_rfl) :
    St1 P n ops o σ (rdP pl) [.t d] ((.t d, .v (.o (.agg cs))) :: σ) := by
  simp only [Prod.mk.injEq] at h4
  exact St1.build h4.1 h4.2.1 h4.2.2.1 h4.2.2.2 hpl ht hz hp hf
theorem St1.li (e : TypeId) (sz m : Nat) (xs : List Operand) {P : Program} {n : Nat} {ops : Array Oper} {o : Oper} {σ : St} {d : Nat} {t : TypeId} {parts : Array (Nat × Operand)} {vs : List V1} {rows : List (List D)} (h4 : (o.op, o.guard, o.dst, Nat.blt d n) = (Op.buildSlice t (m + 1) parts, none, some d, true)) (hpl : parts = ((xs.zipIdx 0).map fun x => (x.2, x.1)).toArray)
    (hx : evL σ xs = some vs) (hl : (Nat.beq vs.length (m + 1) && Nat.ble m 1000 && Nat.ble sz 1000) = true) (hr : rowsOk (sz + 1) vs = true) (hds : datR vs = some rows) (ht : tyE P t = some (e, sz + 1, true) := by kernel_rfl) : St1 P n ops o σ (rdL xs) [.t d] ((.t d, .v (.o (.c (.d (.list (sz + 1) rows))))) :: σ) := by
  simp only [Prod.mk.injEq] at h4
  exact St1.lit h4.1 h4.2.1 h4.2.2.1 h4.2.2.2 hpl ht hx hl hr hds
end

/-! ### A state told anew: short forms -/
section
variable {σ : St} {inv : Inv}
theorem Vto.dt {v v' : V} (h : v = v' := by first | rfl | exact congrArg (fun z => V.o (nat1 z)) (by omega) | (simp; done) | omega) (hr : v.refs = [] := by rfl) : Vto σ inv v v' := .dat _ _ h hr
theorem Cto.dt {x y : D} (h : x = y := by first | rfl | exact congrArg (fun z => D.val (.int .i64 z)) (by omega) | (simp; done) | omega) : Cto σ inv (.d x) (.d y) := .d _ _ h
theorem Cto.ow {k k' sz n m : Nat} (hn : n = m := by first | rfl | omega | (simp; done) | (simp; omega)) (h : (k', k) ∈ inv := by first | decide | simp) : Cto σ inv (.own k sz n) (.own k' sz m) := .own _ _ _ _ _ h hn
theorem Cto.bx {k k' sz i j : Nat} (h : (k', k) ∈ inv := by first | decide | simp) : Cto σ inv (.box k sz i j) (.box k' sz i j) := .box _ _ _ _ _ _ h rfl
theorem Cto.fz {k sz n : Nat} {e : TypeId} {rows : List (List C)} {rows' : List (List D)} (h : lk σ (.b k) = .b e sz rows) (hr : rows = dR rows' := by first | rfl | simp [dR]) (hn : n = rows'.length := by first | rfl | (simp; done) | omega | (simp; omega)) (hs : n ≤ 17592186044416 := by first | (simp; done) | (simp; omega) | omega)
    (hk : (Nat.ble 100 k && Nat.ble k 999) = true := by rfl) (hi : (inv.all fun p => !Nat.beq p.2 k) = true := by rfl) : Cto σ inv (.own k sz n) (.d (.list sz rows')) := .frz _ _ _ _ _ _ h hr hk hi hn hs
theorem Rto.dt {rows rows' : List (List C)} {l : List (List D)} (h' : rows' = dR l) (h : rows = dR l := by first | rfl | simp [dR]) : Rto σ inv rows rows' := .dat _ _ _ h h'
theorem kb {k' : Nat} {e : TypeId} {sz : Nat} {rows' : List (List C)} (k : Nat) {rows : List (List C)} (hl : lk σ (.b k) = .b e sz rows) (hr : Rto σ inv rows rows') (hm : (k', k) ∈ inv := by first | decide | simp) : ∃ k rows, (k', k) ∈ inv ∧ lk σ (.b k) = .b e sz rows ∧ Rto σ inv rows rows' := ⟨k, rows, hm, hl, hr⟩
theorem ks {t : Nat} {x' x : V} (h : lk σ (.t t) = .v x) (hv : Vto σ inv x x') : ∃ x, lk σ (.t t) = .v x ∧ Vto σ inv x x' := ⟨x, h, hv⟩
theorem kl_k {I : Nat → St → Prop} {m m' : Nat} {K : Exit → St → Prop} {σ2 : St} (inv : Inv) (hI : I m' σ2) (hk : KeepOk σ inv σ2) (hm : m' < m := by omega) (hi : invOk inv = true := by rfl) (hu : usedOk σ2 inv = true := by rfl) : kloop I m K .normal σ := ⟨m', σ2, hm, Wk.keep inv hi hu hk, hI⟩
theorem ACode.loopK {P : Program} {n : Nat} {b : Code} {K : Exit → St → Prop} (I : Nat → St → Prop) {m : Nat} {σ' : St} (inv : Inv) (hI : I m σ') (hk : KeepOk σ inv σ') (h : ∀ m σ, I m σ → ACode P n b (kloop I m K) σ) (hi : invOk inv = true := by rfl) (hu : usedOk σ' inv = true := by rfl) : ACode P n (.loop b) K σ :=
  ACode.wk (Wk.keep inv hi hu hk) (ACode.loop I m hI h)
theorem ACode.keep {P : Program} {n : Nat} {c : Code} {K : Exit → St → Prop} (σ' : St) (inv : Inv) (hk : KeepOk σ inv σ') (h : ACode P n c K σ') (hi : invOk inv = true := by rfl) (hu : usedOk σ' inv = true := by rfl) : ACode P n c K σ := ACode.wk (Wk.keep inv hi hu hk) h
end
/-! ### Branches on what is told as a proposition -/
section
variable {P : Program} {n t : Nat} {p : Prop} [Decidable p] {b : Bool} {x y : Code} {K : Exit → St → Prop} {σ : St}
theorem ACode.cD (hc : lk σ (.t t) = .v (.o (bo1 (decide p)))) (hx : p → ACode P n x K σ) (hy : ¬ p → ACode P n y K σ) : ACode P n (.cond (.tmp t) x y) K σ := ACode.condT hc (fun h => hx (of_decide_eq_true h)) (fun h => hy (of_decide_eq_false h))
theorem ACode.cND (hc : lk σ (.t t) = .v (.o (bo1 (!decide p)))) (hx : ¬ p → ACode P n x K σ) (hy : p → ACode P n y K σ) : ACode P n (.cond (.tmp t) x y) K σ := ACode.condT hc (fun h => hx (by simpa using h)) (fun h => hy (by simpa using h))
variable {ops : Array Oper} {o : Oper} {l : List Oper} {acc : List (List Res × List Res × St)} {G : List (List Res × List Res × St) → St → Prop} {K : Exit → St → Prop}
theorem AOps.cD {K : St → Prop} (t : Nat) (hv : lk σ (.t t) = .v (.o (bo1 (decide p)))) (h1 : p → AOps P n ops l K ((.t t, .v (.o (bo1 true))) :: σ)) (h0 : ¬ p → AOps P n ops l K ((.t t, .v (.o (bo1 false))) :: σ)) : AOps P n ops l K σ := AOps.cases t _ hv (fun h => h1 (of_decide_eq_true h)) (fun h => h0 (of_decide_eq_false h))
theorem AOps.cND {K : St → Prop} (t : Nat) (hv : lk σ (.t t) = .v (.o (bo1 (!decide p)))) (h1 : ¬ p → AOps P n ops l K ((.t t, .v (.o (bo1 true))) :: σ)) (h0 : p → AOps P n ops l K ((.t t, .v (.o (bo1 false))) :: σ)) : AOps P n ops l K σ := AOps.cases t _ hv (fun h => h1 (by simpa using h)) (fun h => h0 (by simpa using h))
theorem RunK.cD (t : Nat) (hv : lk σ (.t t) = .v (.o (bo1 (decide p)))) (h1 : p → RunK P n ops (o :: l) ((.t t, .v (.o (bo1 true))) :: σ) acc G) (h0 : ¬ p → RunK P n ops (o :: l) ((.t t, .v (.o (bo1 false))) :: σ) acc G) : RunK P n ops (o :: l) σ acc G := RunK.cases t _ hv (fun h => h1 (of_decide_eq_true h)) (fun h => h0 (of_decide_eq_false h))
theorem RunK.cND (t : Nat) (hv : lk σ (.t t) = .v (.o (bo1 (!decide p)))) (h1 : ¬ p → RunK P n ops (o :: l) ((.t t, .v (.o (bo1 true))) :: σ) acc G) (h0 : p → RunK P n ops (o :: l) ((.t t, .v (.o (bo1 false))) :: σ) acc G) : RunK P n ops (o :: l) σ acc G := RunK.cases t _ hv (fun h => h1 (by simpa using h)) (fun h => h0 (by simpa using h))
end
theorem St1.cO (xs : List Operand) (inv : Inv) {P : Program} {n : Nat} {ops : Array Oper} {o : Oper} {σ : St} {d : Nat} {fo : Operand} {ar : Array Operand} {ts : Array TypeId} {vs : List V1} {f : FuncId} {cap : List (List D)} {hb hb' : St} {args : List V1} {y : V} {out : St}
    (h4 : (o.op, o.guard, o.dst, Nat.blt d n) = (Op.call { callee := .value fo, args := ar, argTypes := ts }, none, some d, true)) (has : ar = xs.toArray) (hfo : ev σ fo = some (.o (.c (.fn f cap)))) (hx : evL σ xs = some vs) (hF : Fn P f hb args y hb')
    (hargs : args.map (V1.ren (asc inv)) = vs ++ cap.map fun c => .c (.ptr c)) (hbox : hbIn σ inv hb) (hfl : flatS hb) (hfl' : flatS hb') (hHB' : HB hb') (hout : outS inv hb' = out) (hnum : numOk σ inv hb hb' = true := by rfl) (hpr : pairs hb' = true := by rfl) (hy : (y.refs.all fun k => match lk hb' (.u k) with | .u => true | _ => false) = true := by rfl) (hcall : callable P f = true := by kernel_rfl) :
    St1 P n ops o σ ((rd fo ++ rdL xs) ++ (keys out ++ keys (killS inv hb))) (.t d :: (keys out ++ keys (killS inv hb))) ((.t d, .v (y.ren (asc inv))) :: (out ++ (killS inv hb ++ σ))) := by
  simp only [Prod.mk.injEq] at h4
  exact St1.callO inv h4.1 h4.2.1 h4.2.2.1 h4.2.2.2 has hfo hcall hx hF hargs hbox hnum hfl hfl' hHB' hpr hy hout
theorem dR_at {rows : List (List D)} {i : Nat} {r : List D} (h : rows[i]? = some r) : (dR rows)[i]? = some (r.map C.d) := by rw [dR, List.getElem?_map, h]; rfl
theorem dR_setI (l : List Int) (i : Nat) (x y : Int) : (dR (l.map rI)).set i (place1 ((rI x).map C.d) 0 (nat1 y).cells) = dR ((l.set i y).map rI) := by
  unfold dR
  rw [List.map_set, List.map_set]
  rfl
theorem dR_app (a b : List (List D)) : dR a ++ b.map (·.map C.d) = dR (a ++ b) := by rw [dR, dR, List.map_append]
theorem mulb {x y : Int} (hx : -1000 ≤ x ∧ x ≤ 1000) (hy : -1000 ≤ y ∧ y ≤ 1000) : -1000000 ≤ x * y ∧ x * y ≤ 1000000 := by
  have h1 : 0 ≤ (1000 - x) * (1000 + y) := Int.mul_nonneg (by omega) (by omega)
  have h2 : 0 ≤ (1000 + x) * (1000 - y) := Int.mul_nonneg (by omega) (by omega)
  have h3 : 0 ≤ (1000 - x) * (1000 - y) := Int.mul_nonneg (by omega) (by omega)
  have h4 : 0 ≤ (1000 + x) * (1000 + y) := Int.mul_nonneg (by omega) (by omega)
  simp only [Int.sub_mul, Int.add_mul, Int.mul_sub, Int.mul_add] at h1 h2 h3 h4
  omega
theorem dR_take {α : Type} (f : α → List D) {l : List α} {k : Nat} {x : α} (h : l[k]? = some x) : dR ((l.take k).map f) ++ [f x].map (·.map C.d) = dR ((l.take (k + 1)).map f) := by
  rw [dR_app, List.take_add_one, h, List.map_append]; rfl
theorem dR_take1 {α : Type} (f : α → List D) {l : List α} {x : α} (h : l[0]? = some x) : [f x].map (·.map C.d) = dR ((l.take 1).map f) := by
  rw [List.take_one, List.head?_eq_getElem?, h]; rfl
def cmbTo (a : List Int) (x : Int) (b : List Int) (y : Int) (j : Nat) : List Int := (List.range j).map fun i => x * a.getD i 0 + y * b.getD i 0
def cmbA (a : Aff) (x : Int) (b : Aff) (y : Int) : Aff := (cmbTo a.1 x b.1 y 4, x * a.2 + y * b.2)
def cA (n : Int) : Aff := ([0, 0, 0, 0], n)
section
variable {α : Type}
def eqF (p : α → α → Bool) : List α → List α → Bool
  | [], [] => true
  | x :: xs, y :: ys => p x y && eqF p xs ys
  | _, _ => false
theorem drop_at {l : List α} {i : Nat} {x : α} (h : l[i]? = some x) : l.drop i = x :: l.drop (i + 1) := by
  obtain ⟨h1, rfl⟩ := List.getElem?_eq_some_iff.1 h
  exact List.drop_eq_getElem_cons h1
theorem eqF_drop {p : α → α → Bool} {a b : List α} {i : Nat} {x y : α} (h1 : a[i]? = some x) (h2 : b[i]? = some y) : eqF p (a.drop i) (b.drop i) = (p x y && eqF p (a.drop (i + 1)) (b.drop (i + 1))) := by rw [drop_at h1, drop_at h2]; rfl
theorem eqF_len {p : α → α → Bool} : ∀ {a b : List α}, a.length ≠ b.length → eqF p a b = false
  | [], [], h => absurd rfl h
  | [], _ :: _, _ => rfl
  | _ :: _, [], _ => rfl
  | x :: a, y :: b, h => by rw [eqF, eqF_len (fun e => h (by simp [e])), Bool.and_false]
theorem eqF_end {p : α → α → Bool} {a b : List α} (h : a.length = b.length) : eqF p (a.drop a.length) (b.drop a.length) = true := by rw [List.drop_length, h, List.drop_length]; rfl
theorem eqF_eq {p : α → α → Bool} (hp : ∀ x y, p x y = true ↔ x = y) : ∀ {a b : List α}, eqF p a b = true ↔ a = b
  | [], [] => by simp [eqF]
  | [], _ :: _ => by simp [eqF]
  | _ :: _, [] => by simp [eqF]
  | x :: a, y :: b => by rw [eqF, Bool.and_eq_true, hp, eqF_eq hp, List.cons.injEq]
def idxG (p : α → Bool) (i : Nat) : List α → Int
  | [] => -1
  | x :: l => if p x then (i : Int) else idxG p (i + 1) l
def idxF (p : α → Bool) (l : List α) : Int := idxG p 0 l
theorem idxG_drop {p : α → Bool} {l : List α} {i : Nat} {x : α} (h : l[i]? = some x) : idxG p i (l.drop i) = if p x then (i : Int) else idxG p (i + 1) (l.drop (i + 1)) := by rw [drop_at h]; rfl
theorem idxG_any {p : α → Bool} : ∀ {l : List α} {i : Nat}, decide (0 ≤ idxG p i l) = l.any p
  | [], i => rfl
  | x :: l, i => by
    rw [idxG, List.any_cons]
    cases h : p x
    · rw [Bool.false_or]; simpa using idxG_any
    · simp
theorem all_drop {p : α → Bool} {l : List α} {i : Nat} {x : α} (h : l[i]? = some x) : (l.drop i).all p = (p x && (l.drop (i + 1)).all p) := by rw [drop_at h]; rfl
end
section
variable {P : Program} {f : FuncId} {x y : Aff} {n : Int}
theorem implAffV_fn (x : Aff) : Fn Try.prog 86 [] [ad (rA x)] (.o (bo1 (affV x))) [] :=
  Fn.pure fun B bx al w vs hv => by
    obtain ⟨v, rfl, h⟩ := vals1 hv
    exact (implAffV_any B v x w (dr_aff h)).mono fun e w' ⟨h1, h2⟩ => ⟨_, h1, h2, .val _ rfl⟩
theorem depth_fn (x : Aff) : Fn Try.prog 87 [] [ad (rA x)] (.o (nat1 (affDepth x : Nat))) [] :=
  Fn.pure fun B bx al w vs hv => by
    obtain ⟨v, rfl, h⟩ := vals1 hv
    exact (depth_any B v x w (dr_aff h)).mono fun e w' ⟨h1, h2⟩ => ⟨_, h1, h2, .val _ rfl⟩
theorem sl_form {B : Nat → Prop} {w : World} {v : Value} {xs : List Int} (h : Sl Sh.int B w v xs) : ∃ a n c, v = .slice a n c ∧ n = xs.length := by
  obtain ⟨a, c, rfl, _⟩ := h
  exact ⟨a, _, c, rfl, rfl⟩
theorem eval_fn {x : Aff} {p : List Int} (hV : affV x = true) (hS : Small p) (hn : p.length ≤ 4) : Fn Try.prog 34 [] [ad (rA x), vD (dIs p)] (.o (nat1 (affEval x p))) [] :=
  Fn.pure fun B bx al w vs hv => by
    obtain ⟨u, v, rfl, h1, h2⟩ := vals2 hv
    have h3 := dr_ints h2
    obtain ⟨a, n, c, rfl, rfl⟩ := sl_form h3
    exact (eval_any B B u x a _ c p w (dr_aff h1) h3 hV hS hn).mono fun e w' ⟨h1, h2⟩ => ⟨_, h1, h2, .val _ rfl⟩
theorem l1Point_fn (p : List Int) : Fn Try.prog 20 [] [vD (dIs p)] (.o (bo1 (isPt p))) [] :=
  Fn.pure fun B bx al w vs hv => by
    obtain ⟨v, rfl, h⟩ := vals1 hv
    have h3 := dr_ints h
    obtain ⟨a, n, c, rfl, rfl⟩ := sl_form h3
    exact (l1Point_any B a _ c p w h3).mono fun e w' ⟨h1, h2⟩ => ⟨_, h1, by rw [← h2]; exact Below.refl _ _, .val _ rfl⟩
end
theorem idx_aff {f : FuncId} {cap : List (List D)} (hc : callable Try.prog f = true) (p : Aff → Bool) (xs : List Aff) (hx : xs.length ≤ 1099511627776) (hf : ∀ x ∈ xs, Fn Try.prog f [] (ad (rA x) :: cap.map fun c => .c (.ptr c)) (.o (bo1 (p x))) []) : Fn Try.prog 103 [] [vD (.list 2 (xs.map rA)), .c (.fn f cap)] (.o (nat1 (idxF p xs))) [] := by
 refine Fn.code0 Try.func103 rfl rfl rfl rfl ?_
 refine .seq <| .region <| .cons (.asg rfl rfl) <| .nil <| ks_n <| .seq <| .seq <| .region <| .cons (.mv rfl rfl) <| .cons (.ln 37 2 32 rfl rfl rfl) <| .cons (.mv rfl rfl) <| .nil <| ks_n <| .block ?_
 refine .loopK (fun m σ => (∃ i : Nat, m = xs.length - i ∧ (i ≤ xs.length) ∧ (idxF p xs = idxG p i (xs.drop i)) ∧ σ = [(.t 0, .v (.o (vD (.list 2 (xs.map rA))))), (.t 1, .v (.o (.c (.fn f cap)))), (.t 7, .v (.o (nat1 (xs.length : Nat)))), (.t 8, .v (.o (nat1 (i : Nat))))])) [] ⟨0, rfl, by omega, rfl, rfl⟩ ⟨ks rfl .dt, ks rfl .dt, ks rfl .dt, ks rfl .dt, trivial⟩ ?_
 rintro m σ ⟨i, hm0, hi, hF, rfl⟩
 refine .seq <| .region <| .cons (.ls rfl rfl rfl) <| .nil <| ks_n <| .seq ?_
 refine .cD rfl (fun h9 => ?_) (fun h9 => ?_)
 ·skip
  obtain ⟨x, hx1⟩ : ∃ x, xs[i]? = some x := ⟨_, List.getElem?_eq_getElem (by omega)⟩
  refine .skip <| ks_n <| .seq <| .block <| .seq <| .region <| .cons (.mv rfl rfl) <| .cons (.asg rfl rfl) <| .nil <| ks_n <| .seq <| .region <| .cons (.mv rfl rfl) <| .cons (.mv rfl rfl) <| .cons (.mv rfl rfl) <| .cons (.xL 37 2 32 rfl rfl rfl rfl rfl) ?_
  refine .cons (.lN 2 rfl rfl rfl) <| .cons (.cP [.tmp 15] rfl rfl rfl rfl (hf x (List.mem_of_getElem? hx1)) rfl hc) ?_
  refine .nil <| ks_n ?_
  refine ACode.condT rfl (fun h16 => ?_) (fun h16 => ?_)
  ·try simp only [zs1, zs2, zs3, zs4, zs5, zs6, zs7] at h16
   refine .seq <| .region <| .cons (.mv rfl rfl) <| .cons (.asg rfl rfl) <| .nil <| ks_n <| .ret <| kb_r <| ks_r <| kl_r <| kb_r <| ks_r ?_
   refine kf_ret rfl ?_ nobox
   exact leafI (by rw [hF, idxG_drop hx1, h16]; rfl)
  ·try simp only [zs1, zs2, zs3, zs4, zs5, zs6, zs7] at h16
   refine .skip <| kb_n <| ks_n <| .region <| .cons (.pl rfl rfl rfl) <| .cons (.mv rfl rfl) <| .nil ?_
   refine kl_k [] ⟨i + 1, rfl, by omega, by rw [hF, idxG_drop hx1, h16]; rfl, rfl⟩ ⟨ks rfl .dt, ks rfl .dt, ks rfl .dt, ks rfl .dt, trivial⟩
 ·skip
  refine .exit <| ks_e <| kl_e <| kb_hit <| ks_n <| .seq <| .region <| .cons (.asg rfl rfl) <| .nil <| ks_n <| .ret ?_
  refine kf_ret rfl ?_ nobox
  exact leafI (by rw [hF, List.drop_of_length_le (by omega)]; rfl)

theorem cnt_aff {f : FuncId} {cap : List (List D)} (hc : callable Try.prog f = true) (p : Aff → Bool) (xs : List Aff) (hx : xs.length ≤ 1099511627776) (hf : ∀ x ∈ xs, Fn Try.prog f [] (ad (rA x) :: cap.map fun c => .c (.ptr c)) (.o (bo1 (p x))) []) : Fn Try.prog 84 [] [vD (.list 2 (xs.map rA)), .c (.fn f cap)] (.o (bo1 (xs.any p))) [] := by
  refine Fn.code0 Try.func84 rfl rfl rfl rfl ?_
  refine .seq <| .region <| .cons (.asg rfl rfl) <| .nil <| ks_n <| .seq <| .region <| .cons (.mv rfl rfl) <| .cons (.mv rfl rfl) <| .cons (.cP [.tmp 5, .tmp 6] rfl rfl rfl rfl (idx_aff hc p xs hx hf) rfl) ?_
  refine .cons (.ge rfl rfl rfl) <| .cons (.asg rfl rfl) <| .nil <| ks_n <| .ret ?_
  refine kf_ret rfl ?_ nobox
  exact leafB idxG_any



theorem idx_int {f : FuncId} {cap : List (List D)} (hc : callable Try.prog f = true) (p : Int → Bool) (xs : List Int) (hx : xs.length ≤ 1099511627776) (hf : ∀ x ∈ xs, Fn Try.prog f [] (nat1 x :: cap.map fun c => .c (.ptr c)) (.o (bo1 (p x))) []) : Fn Try.prog 61 [] [vD (.list 1 (xs.map rI)), .c (.fn f cap)] (.o (nat1 (idxF p xs))) [] := by
 refine Fn.code0 Try.func61 rfl rfl rfl rfl ?_
 refine .seq <| .region <| .cons (.asg rfl rfl) <| .nil <| ks_n <| .seq <| .seq <| .region <| .cons (.mv rfl rfl) <| .cons (.ln 3 1 8 rfl rfl rfl) <| .cons (.mv rfl rfl) <| .nil <| ks_n <| .block ?_
 refine .loopK (fun m σ => (∃ i : Nat, m = xs.length - i ∧ (i ≤ xs.length) ∧ (idxF p xs = idxG p i (xs.drop i)) ∧ σ = [(.t 0, .v (.o (vD (.list 1 (xs.map rI))))), (.t 1, .v (.o (.c (.fn f cap)))), (.t 7, .v (.o (nat1 (xs.length : Nat)))), (.t 8, .v (.o (nat1 (i : Nat))))])) [] ⟨0, rfl, by omega, rfl, rfl⟩ ⟨ks rfl .dt, ks rfl .dt, ks rfl .dt, ks rfl .dt, trivial⟩ ?_
 rintro m σ ⟨i, hm0, hi, hF, rfl⟩
 refine .seq <| .region <| .cons (.ls rfl rfl rfl) <| .nil <| ks_n <| .seq ?_
 refine .cD rfl (fun h9 => ?_) (fun h9 => ?_)
 ·skip
  obtain ⟨x, hx1⟩ : ∃ x, xs[i]? = some x := ⟨_, List.getElem?_eq_getElem (by omega)⟩
  refine .skip <| ks_n <| .seq <| .block <| .seq <| .region <| .cons (.mv rfl rfl) <| .cons (.asg rfl rfl) <| .nil <| ks_n <| .seq <| .region <| .cons (.mv rfl rfl) <| .cons (.mv rfl rfl) <| .cons (.mv rfl rfl) <| .cons (.xL 3 1 8 rfl rfl rfl rfl rfl) ?_
  refine .cons (.l1 1 rfl rfl) <| .cons (.cP [.tmp 15] rfl rfl rfl rfl (hf x (List.mem_of_getElem? hx1)) rfl hc) ?_
  refine .nil <| ks_n ?_
  refine ACode.condT rfl (fun h16 => ?_) (fun h16 => ?_)
  ·try simp only [zs1, zs2, zs3, zs4, zs5, zs6, zs7] at h16
   refine .seq <| .region <| .cons (.mv rfl rfl) <| .cons (.asg rfl rfl) <| .nil <| ks_n <| .ret <| kb_r <| ks_r <| kl_r <| kb_r <| ks_r ?_
   refine kf_ret rfl ?_ nobox
   exact leafI (by rw [hF, idxG_drop hx1, h16]; rfl)
  ·try simp only [zs1, zs2, zs3, zs4, zs5, zs6, zs7] at h16
   refine .skip <| kb_n <| ks_n <| .region <| .cons (.pl rfl rfl rfl) <| .cons (.mv rfl rfl) <| .nil ?_
   refine kl_k [] ⟨i + 1, rfl, by omega, by rw [hF, idxG_drop hx1, h16]; rfl, rfl⟩ ⟨ks rfl .dt, ks rfl .dt, ks rfl .dt, ks rfl .dt, trivial⟩
 ·skip
  refine .exit <| ks_e <| kl_e <| kb_hit <| ks_n <| .seq <| .region <| .cons (.asg rfl rfl) <| .nil <| ks_n <| .ret ?_
  refine kf_ret rfl ?_ nobox
  exact leafI (by rw [hF, List.drop_of_length_le (by omega)]; rfl)

theorem cnt_int {f : FuncId} {cap : List (List D)} (hc : callable Try.prog f = true) (p : Int → Bool) (xs : List Int) (hx : xs.length ≤ 1099511627776) (hf : ∀ x ∈ xs, Fn Try.prog f [] (nat1 x :: cap.map fun c => .c (.ptr c)) (.o (bo1 (p x))) []) : Fn Try.prog 28 [] [vD (.list 1 (xs.map rI)), .c (.fn f cap)] (.o (bo1 (xs.any p))) [] := by
  refine Fn.code0 Try.func28 rfl rfl rfl rfl ?_
  refine .seq <| .region <| .cons (.asg rfl rfl) <| .nil <| ks_n <| .seq <| .region <| .cons (.mv rfl rfl) <| .cons (.mv rfl rfl) <| .cons (.cP [.tmp 5, .tmp 6] rfl rfl rfl rfl (idx_int hc p xs hx hf) rfl) ?_
  refine .cons (.ge rfl rfl rfl) <| .cons (.asg rfl rfl) <| .nil <| ks_n <| .ret ?_
  refine kf_ret rfl ?_ nobox
  exact leafB idxG_any
def bndV (d : Nat) (x : Aff) : Bool := affV x && decide (affDepth x ≤ d)
def sideV (d : Nat) (xs : List Aff) : Bool := xs.all (bndV d) && decide (1 ≤ xs.length) && decide (xs.length ≤ 2)
theorem eqF_dec {α : Type} [DecidableEq α] (a b : List α) : eqF (fun x y => decide (x = y)) a b = decide (a = b) := by
  rw [Bool.eq_iff_iff, decide_eq_true_eq, eqF_eq (fun x y => by simp)]
theorem nany {α : Type} (p : α → Bool) (l : List α) : (!l.any fun x => !p x) = l.all p := by
  rw [Bool.eq_iff_iff]; simp
theorem bnd_no {d : Nat} {x : Aff} (h : affV x = false ∨ d < affDepth x) : bndV d x = false := by
  rw [bndV, Bool.and_eq_false_iff]
  exact h.imp id fun h => decide_eq_false (by omega)
theorem bnd_yes {d : Nat} {x : Aff} (h : affV x = true) (h2 : ¬ d < affDepth x) : bndV d x = true := by
  rw [bndV, Bool.and_eq_true]
  exact ⟨h, decide_eq_true (by omega)⟩



theorem l1Zero_own  : Fn Try.prog 54 [] [] (.o (.agg [.own 101 1 4, .d (dI 0)])) [(.b 101, .b 3 1 (dR (([0, 0, 0, 0] : List Int).map rI))), (.u 101, .u)] := by
  refine Fn.of_code Try.func54 rfl rfl HB.nil rfl rfl HB.nil.data rfl (one_num rfl) ?_
  refine .seq <| .region <| .cons (.al 100 [.slice none 0 0, .int .i64 0] rfl rfl rfl) <| .nil <| ks_n <| .seq <| .region <| .cons (St1.litB (k' := 101) (e := 3) (sz := 0) (m := 3) (xs := [.const (.int .i64 (0)), .const (.int .i64 (0)), .const (.int .i64 (0)), .const (.int .i64 (0))]) rfl rfl rfl rfl rfl (by kernel_rfl) rfl rfl rfl rfl rfl) ?_
  refine .cons (.bu [(0, .tmp 1)] [(0, 1), (1, 1)] [.slice none 0 0, .int .i64 0] rfl rfl rfl rfl rfl) <| .cons (.sT 2 true rfl rfl rfl rfl rfl rfl rfl) <| .nil <| ks_n <| .ret ?_
  refine kf_wret [(.t 0, .v (.o (.c (.box 100 2 0 0)))), (.b 101, .b 3 1 (dR (([0, 0, 0, 0] : List Int).map rI))), (.u 101, .u), (.b 100, .b 37 2 [[.own 101 1 (4), .d (dI (0))]]), (.u 100, .u)] (Wk.keep [(100, 100), (101, 101)] rfl rfl ⟨ks rfl (.c .bx), kb 101 rfl (.dt rfl), kb 100 rfl (.cons (.cons .ow (.cons .dt Ctos.nil)) .nil), trivial⟩) rfl ?_ (one_box rfl)
  rfl

theorem l1Const_fn (n : Int) : Fn Try.prog 24 [] [nat1 n] (.o (ad (rA (cA n)))) [] := by
  refine Fn.code0 Try.func24 rfl rfl rfl rfl ?_
  refine .seq <| .region <| .cons (.al 102 [.slice none 0 0, .int .i64 0] rfl rfl rfl) <| .nil <| ks_n <| .seq <| .region <| .cons (.cO [] [(101, 104)] rfl rfl rfl rfl (l1Zero_own) rfl trivial flatS.nil (flatS.nil.cons rfl) HB.nil.data outS_one) ?_
  refine .cons (.al 103 [.slice none 0 0, .int .i64 0] rfl rfl rfl) <| .cons (.sT 2 true rfl rfl rfl rfl rfl rfl rfl) <| .nil <| ks_n <| .seq <| .region <| .cons (.mv rfl rfl) <| .cons (.fB 1 0 false rfl rfl rfl) <| .cons (.sT 1 false rfl rfl rfl rfl rfl rfl rfl) <| .nil <| ks_n <| .seq <| .region <| .cons (.bN 2 rfl rfl rfl rfl rfl rfl) <| .cons (.sT 2 true rfl rfl rfl rfl rfl rfl rfl) <| .nil <| ks_n <| .ret ?_
  refine kf_wret [(.t 2, .v (.o (.c (.box 100 2 0 0)))), (.b 100, .b 37 2 [[.d (dIs (([0, 0, 0, 0] : List Int))), .d (dI (n))]]), (.u 100, .u)] (Wk.keep [(100, 102)] rfl rfl ⟨ks rfl (.c .bx), kb 102 rfl (.cons (.cons (.fz rfl) (.cons .dt Ctos.nil)) .nil), trivial⟩) rfl ?_ nobox
  rfl









def okL (k : Nat) (l : Lp) : Prop := l.1 ≠ [] ∧ l.1.length ≤ k ∧ l.2.length ≤ k ∧ (∀ a ∈ l.1, a.1.length ≤ 4) ∧ ∀ a ∈ l.2, a.1.length ≤ 4
def okN (k : Nat) (ns : List Lp) : Prop := ns.length ≤ k ∧ ∀ l ∈ ns, okL k l
theorem okL.mono {k m : Nat} {l : Lp} (h : okL k l) (hm : k ≤ m) : okL m l := ⟨h.1, Nat.le_trans h.2.1 hm, Nat.le_trans h.2.2.1 hm, h.2.2.2⟩
theorem okN.cons {k : Nat} {l : Lp} {ns : List Lp} (h : okN k (l :: ns)) : okL k l ∧ ns.length + 1 ≤ k ∧ ∀ x ∈ ns, okL k x := ⟨h.2 l (by simp), by simpa using h.1, fun x hx => h.2 x (by simp [hx])⟩

theorem within_fn (n lo hi : Int) : Fn Try.prog 58 [] [nat1 n, nat1 lo, nat1 hi] (.o (bo1 (inB n lo hi))) [] := by
  refine Fn.code0 Try.func58 rfl rfl rfl rfl ?_
  refine .seq <| .region <| .cons (.asg rfl rfl) <| .nil <| ks_n <| .seq <| .region <| .cons (.mv rfl rfl) <| .cons (.mv rfl rfl) <| .cons (.le rfl rfl rfl) <| .cons (.mv rfl rfl) ?_
  refine .cD 10 rfl (fun g10 => ?_) (fun g10 => ?_)
  · skip
    refine .cons (.gT rfl rfl rfl (.mv rfl rfl)) <| .cons (.gT rfl rfl rfl (.mv rfl rfl)) <| .cons (.gT rfl rfl rfl (.le rfl rfl rfl)) <| .cons (.pT rfl rfl rfl) <| .cons (.asg rfl rfl) <| .nil <| ks_n <| .ret ?_
    refine kf_ret rfl ?_ nobox
    exact leafB (by rw [inB]; simp [*])
  · skip
    refine .cons (.gF rfl rfl rfl) <| .cons (.gF rfl rfl rfl) <| .cons (.gF rfl rfl rfl) <| .cons (.pF rfl rfl rfl) <| .cons (.asg rfl rfl) <| .nil <| ks_n <| .ret ?_
    refine kf_ret rfl ?_ nobox
    exact leafB (by rw [inB]; simp [*])

section
variable {p : List Int} {m : Int} {l : List Aff} {i : Nat} {x : Aff}
end
theorem Small.take {p : List Int} (h : Small p) (i : Nat) : Small (p.take i) := fun n hn => h n (List.mem_of_mem_take hn)
theorem getD_some {α : Type} {l : List α} {i : Nat} {x d : α} (h : l[i]? = some x) : l.getD i d = x := by rw [List.getD, h]; rfl
abbrev Pts := List (List Int)
/-! ### The program's way -/
/-! ### The reference's way -/
/-- What the points of the reference say: all of them, or too many. -/
structure Ptp (r : Pts) (o q : Pts) : Prop where
  all : o.length + q.length ≤ 120 → r = o ++ q
  many : 120 < o.length + q.length → r.length = 121
theorem Ptp.len {r o q : Pts} (h : Ptp r o q) : r.length ≤ 121 := by
  by_cases hg : o.length + q.length ≤ 120
  · rw [h.all hg, List.length_append]; omega
  · rw [h.many (by omega)]; exact Nat.le_refl _
theorem Ptp.leq {r o q : Pts} (h : Ptp r o q) : r.length ≤ 120 ↔ o.length + q.length ≤ 120 := by
  by_cases hg : o.length + q.length ≤ 120
  · rw [h.all hg, List.length_append]
  · rw [h.many (by omega)]; omega
/-! ### Coordinates are small -/
def PB (p : List Int) : Prop := ∀ (i : Nat) x, p[i]? = some x → -(99 * 10 ^ i) ≤ x ∧ x ≤ 99 * 10 ^ i
theorem PB.nil : PB [] := fun i x h => by simp at h
theorem PB.getD {p : List Int} (h : PB p) (i : Nat) : -(99 * 10 ^ i) ≤ p.getD i 0 ∧ p.getD i 0 ≤ 99 * 10 ^ i := by
  rw [List.getD]
  cases e : p[i]? with
  | none => have : (0 : Int) < 10 ^ i := Int.pow_pos (by omega); simp; omega
  | some x => exact h i x e
end Go.Proofs.Ytollooimmfngjaa
namespace Go.Proofs.Ytollooimmfngjaa
set_option linter.unusedVariables false
set_option linter.unusedSimpArgs false

end Go.Proofs.Ytollooimmfngjaa
/- The points of a nest: which they are, their order, their coordinates; condition: none. -/
namespace Go.Proofs.Ytollooimmfngjaa
set_option linter.unusedVariables false
set_option linter.unusedSimpArgs false
open Go.RowKit

/-! ### Coordinates -/
/-! ### Order -/
end Go.Proofs.Ytollooimmfngjaa
namespace Go.Proofs.Ytollooimmfngjaa
set_option linter.unusedVariables false
set_option linter.unusedSimpArgs false
open Go.RowKit
section
variable {P : Program} {n : Nat} {ops : Array Oper} {o : Oper} {σ : St} {d : Nat} {t t2 e : TypeId} {x : Operand}
end
/-! ### The walking struct -/







theorem okN.mono {k m : Nat} {ns : List Lp} (h : okN k ns) (hm : k ≤ m) : okN m ns := ⟨Nat.le_trans h.1 hm, fun l hl => (h.2 l hl).mono hm⟩


/-- A law that answers true, and turns nothing that was there. -/
abbrev Truth (P : Program) (f : FuncId) (vs : Array Value) (w : World) : Prop := Calls P f vs w fun e w' => e = .returned (.bool true) ∧ Below w.heap.size w w'
section
variable {P : Program} {n : Nat} {ops : Array Oper} {o : Oper} {σ : St} {d : Nat}
/-- A struct's zero cells, told as data: a nil slice may be told as the empty list. -/
inductive ZR : List Value → List D → Prop
  | nil : ZR [] []
  | val {z : Value} {zs : List Value} {ds : List D} (h : z.oneCell' = true) (hs : ZR zs ds) : ZR (z :: zs) (.val z :: ds)
  | list {zs : List Value} {ds : List D} (sz : Nat) (hs : ZR zs ds) : ZR (.slice none 0 0 :: zs) (.list sz [] :: ds)
theorem dr_empty {B : Nat → Prop} {w : World} (sz : Nat) : Dr B w (.list sz []) (.slice none 0 0) :=
  Dr.list sz [] none 0 0 0 0 (fun _ _ => undef) rfl (Nat.le_refl _) (by omega) (fun _ => rfl) (fun h => by simp at h) (fun i r h => by simp at h) (fun i r j x h => by simp at h) (fun i r j x h => by simp at h)
theorem ZR.cells {bx : Nat → Nat × Nat} {al B : Nat → Prop} {w : World} {zs : List Value} {ds : List D} (h : ZR zs ds) : zs.length = ds.length ∧ ∀ (i : Nat) c u, (ds.map C.d)[i]? = some c → zs[i]? = some u → Cr bx al B w c u := by
  induction h with
  | nil => exact ⟨rfl, fun i c u h => by simp at h⟩
  | val h hs ih =>
    refine ⟨by simp [ih.1], fun i c u hc hu => ?_⟩
    cases i with
    | zero => cases hc; cases hu; exact Dr.val _ h
    | succ i => exact ih.2 i c u hc hu
  | list sz hs ih =>
    refine ⟨by simp [ih.1], fun i c u hc hu => ?_⟩
    cases i with
    | zero => cases hc; cases hu; exact dr_empty sz
    | succ i => exact ih.2 i c u hc hu
end
/-- The value v reads as x; all of it lies in blocks from lo on, and may be written. -/
inductive DrN (lo : Nat) (w : World) : D → Value → Prop
  | val (v : Value) (h : nsl v = true) : DrN lo w (.val v) v
  | list (sz : Nat) (rows : List (List D)) (a : Option Addr) (n cap b off : Nat) (f : Nat → Nat → Value) (hn : n = rows.length) (h1 : n ≤ cap) (h2 : n ≤ 17592186044416) (h3 : a = none → cap = 0)
      (h4 : 0 < n → a = some ⟨b, off, none⟩) (h5 : ∀ (i : Nat) r, rows[i]? = some r → r.length = sz)
      (h6 : ∀ (i : Nat) r (j : Nat) x, rows[i]? = some r → r[j]? = some x → lo ≤ b ∧ w.cell? ⟨b, off + (i * sz + j), none⟩ = some (f i j) ∧ w.frozen? ⟨b, off + (i * sz + j), none⟩ = false)
      (h7 : ∀ (i : Nat) r (j : Nat) x, rows[i]? = some r → r[j]? = some x → DrN lo w x (f i j)) : DrN lo w (.list sz rows) (.slice a n cap)
section
variable {lo lo' : Nat} {w w' : World} {x : D} {v : Value}
theorem DrN.dr (h : DrN lo w x v) : Dr (fun b => lo ≤ b) w x v := by
  induction h with
  | val v h => exact .val v (nsl_one h)
  | list sz rows a n cap b off f hn h1 h2 h3 h4 h5 h6 h7 ih =>
    exact .list sz rows a n cap b off f hn h1 h2 h3 h4 h5 (fun i r j x hr hx => ⟨(h6 i r j x hr hx).1, (h6 i r j x hr hx).2.1⟩) ih
theorem DrN.one (h : DrN lo w x v) : v.oneCell' = true := h.dr.one
theorem DrN.frame (hs : Same (fun b => lo ≤ b) w w') (h : DrN lo w x v) : DrN lo w' x v := by
  induction h with
  | val v h => exact .val v h
  | list sz rows a n cap b off f hn h1 h2 h3 h4 h5 h6 h7 ih =>
    refine .list sz rows a n cap b off f hn h1 h2 h3 h4 h5 (fun i r j x hr hx => ?_) ih
    obtain ⟨g1, g2, g3⟩ := h6 i r j x hr hx
    exact ⟨g1, hs.cell g1 g2, (World.frozen?_of_block (a := ⟨b, off + (i * sz + j), none⟩) (hs b g1 (World.block_lt_of_cell? _ _ g2))).trans g3⟩
theorem DrN.mono (hl : lo' ≤ lo) (h : DrN lo w x v) : DrN lo' w x v := by
  induction h with
  | val v h => exact .val v h
  | list sz rows a n cap b off f hn h1 h2 h3 h4 h5 h6 h7 ih =>
    exact .list sz rows a n cap b off f hn h1 h2 h3 h4 h5 (fun i r j x hr hx => ⟨Nat.le_trans hl (h6 i r j x hr hx).1, (h6 i r j x hr hx).2⟩) ih
theorem DrN.fwd (h : DrN lo w x v) (hb : Below w.heap.size w w') : DrN lo w' x v := h.frame (below_sameAll hb _)
end
/-- The values vs, one by one. -/
def DrNs (lo : Nat) (w : World) (ds : List D) (vs : List Value) : Prop := vs.length = ds.length ∧ ∀ (i : Nat) d u, ds[i]? = some d → vs[i]? = some u → DrN lo w d u
/-- A row of the call's own: its first k rows read as told; what they lead to lies behind it. -/
def Grid (w : World) (g : Nat) (e : TypeId) (sz n k : Nat) (rows : List (List D)) : Prop :=
  ∃ cur : Array Value, w.heap[g]? = some (.cells cur e (0, 0)) ∧ cur.size = n * sz ∧ ∀ (i : Nat) r (j : Nat) x, i < k → rows[i]? = some r → r[j]? = some x → ∃ u, cur[i * sz + j]? = some u ∧ DrN (g + 1) w x u
section
variable {w w' : World} {g : Nat} {e : TypeId} {sz n k : Nat} {rows : List (List D)}
theorem Grid.lt (h : Grid w g e sz n k rows) : g < w.heap.size := by
  obtain ⟨cur, h1, _⟩ := h
  exact (Array.getElem?_eq_some_iff.1 h1).1
theorem Grid.new (w : World) (e : TypeId) (sz n : Nat) (zs : Array Value) (rows : List (List D)) : Grid (w.alloc (.cells (madeCells zs (n * sz)) e)) w.heap.size e sz n 0 rows :=
  ⟨_, heap_alloc_new w _, size_madeCells _ _, fun i r j x hi => absurd hi (by omega)⟩
theorem Grid.fwd (h : Grid w g e sz n k rows) (hb : Below w.heap.size w w') : Grid w' g e sz n k rows := by
  have hl := h.lt
  obtain ⟨cur, h1, h2, h3⟩ := h
  refine ⟨cur, (hb.block g hl).trans h1, h2, fun i r j x hi hr hx => ?_⟩
  obtain ⟨u, h4, h5⟩ := h3 i r j x hi hr hx
  exact ⟨u, h4, h5.fwd hb⟩
theorem Grid.cell (h : Grid w g e sz n k rows) {o : Nat} (ho : o < n * sz) : ∃ u, w.cell? ⟨g, o, none⟩ = some u := by
  obtain ⟨cur, h1, h2, _⟩ := h
  exact ⟨cur[o]'(by omega), by rw [cell_of_row w _ _ _ _ _ h1]; exact Array.getElem?_eq_getElem _⟩
theorem Grid.frozen (h : Grid w g e sz n k rows) (o : Nat) : w.frozen? ⟨g, o, none⟩ = false := by
  obtain ⟨cur, h1, _, _⟩ := h
  simp [World.frozen?, h1]
theorem Grid.done (h : Grid w g e sz n rows.length rows) (hn : n = rows.length) (hb : n ≤ 17592186044416) (hl : ∀ r ∈ rows, r.length = sz) : DrN g w (.list sz rows) (.slice (some ⟨g, 0, none⟩) n n) := by
  have hfr := h.frozen
  obtain ⟨cur, h1, h2, h3⟩ := h
  have hlt : ∀ {i : Nat} {r}, rows[i]? = some r → i < rows.length := fun h => (List.getElem?_eq_some_iff.1 h).1
  refine .list sz rows _ _ _ g 0 (fun i j => cur.getD (i * sz + j) undef) hn (Nat.le_refl _) hb (fun h => by cases h) (fun _ => rfl) (fun i r hr => hl r (List.mem_of_getElem? hr)) (fun i r j x hr hx => ?_) (fun i r j x hr hx => ?_)
  · obtain ⟨u, h4, h5⟩ := h3 i r j x (hlt hr) hr hx
    refine ⟨Nat.le_refl _, ?_, hfr _⟩
    rw [cell_of_row w _ _ _ _ _ h1, Nat.zero_add, h4, Array.getD_eq_getD_getElem?, h4]; rfl
  · obtain ⟨u, h4, h5⟩ := h3 i r j x (hlt hr) hr hx
    rw [Array.getD_eq_getD_getElem?, h4]
    exact h5.mono (Nat.le_succ _)
end

/-- The value v reads as x but for its leaves; all of it lies in blocks of S, and may be written. -/
inductive DrK (S : Nat → Prop) (w : World) : D → Value → Prop
  | val (v u : Value) (h : nsl u = true) : DrK S w (.val v) u
  | list (sz : Nat) (rows : List (List D)) (a : Option Addr) (n cap b off : Nat) (f : Nat → Nat → Value) (hn : n = rows.length) (h1 : n ≤ cap) (h2 : n ≤ 17592186044416)
      (h4 : 0 < n → a = some ⟨b, off, none⟩) (h5 : ∀ (i : Nat) r, rows[i]? = some r → r.length = sz)
      (h6 : ∀ (i : Nat) r (j : Nat) x, rows[i]? = some r → r[j]? = some x → S b ∧ w.cell? ⟨b, off + (i * sz + j), none⟩ = some (f i j) ∧ w.frozen? ⟨b, off + (i * sz + j), none⟩ = false)
      (h7 : ∀ (i : Nat) r (j : Nat) x, rows[i]? = some r → r[j]? = some x → DrK S w x (f i j)) : DrK S w (.list sz rows) (.slice a n cap)
/-- From w to w' leaves in the blocks of S were turned, and new blocks made, no more. -/
structure Marked (S : Nat → Prop) (w w' : World) : Prop where
  os : w'.os = w.os
  tape : w'.tape = w.tape
  output : w'.output = w.output
  size : w.heap.size ≤ w'.heap.size
  old : ∀ b, b < w.heap.size → ¬ S b → w'.heap[b]? = w.heap[b]?
  cell : ∀ b o u, w.cell? ⟨b, o, none⟩ = some u → ∃ u', w'.cell? ⟨b, o, none⟩ = some u' ∧ (u' = u ∨ (nsl u = true ∧ nsl u' = true))
  frz : ∀ b o, b < w.heap.size → w'.frozen? ⟨b, o, none⟩ = w.frozen? ⟨b, o, none⟩
section
variable {S S' : Nat → Prop} {w w' w'' : World} {x : D} {v : Value}
theorem DrN.k {lo : Nat} (h : DrN lo w x v) (hS : ∀ b, lo ≤ b → b < w.heap.size → S b) : DrK S w x v := by
  induction h with
  | val v h => exact .val v v h
  | list sz rows a n cap b off f hn h1 h2 h3 h4 h5 h6 h7 ih =>
    exact .list sz rows a n cap b off f hn h1 h2 h4 h5 (fun i r j x hr hx => ⟨hS b (h6 i r j x hr hx).1 (World.block_lt_of_cell? _ _ (h6 i r j x hr hx).2.1), (h6 i r j x hr hx).2⟩) ih
theorem DrK.mark (hm : Marked S' w w') (h : DrK S w x v) : DrK S w' x v := by
  induction h with
  | val v u h => exact .val v u h
  | list sz rows a n cap b off f hn h1 h2 h4 h5 h6 h7 ih =>
    refine .list sz rows a n cap b off (fun i j => (w'.cell? ⟨b, off + (i * sz + j), none⟩).getD undef) hn h1 h2 h4 h5 (fun i r j x hr hx => ?_) (fun i r j x hr hx => ?_)
    · obtain ⟨g1, g2, g3⟩ := h6 i r j x hr hx
      obtain ⟨u, g4, _⟩ := hm.cell _ _ _ g2
      exact ⟨g1, by rw [g4]; rfl, (hm.frz _ _ (World.block_lt_of_cell? _ _ g2)).trans g3⟩
    · obtain ⟨g1, g2, g3⟩ := h6 i r j x hr hx
      obtain ⟨u, g4, g5⟩ := hm.cell _ _ _ g2
      rw [g4, Option.getD_some]
      rcases g5 with rfl | ⟨g5, g6⟩
      · exact ih i r j x hr hx
      · have h8 := ih i r j x hr hx
        generalize f i j = u0 at h8 g5
        cases h8 with
        | val v u h => exact .val v _ g6
        | list => cases g5
theorem Marked.refl (S : Nat → Prop) (w : World) : Marked S w w := ⟨rfl, rfl, rfl, Nat.le_refl _, fun _ _ _ => rfl, fun _ _ u h => ⟨u, h, .inl rfl⟩, fun _ _ _ => rfl⟩
theorem Marked.trans (h : Marked S w w') (h' : Marked S w' w'') : Marked S w w'' := by
  refine ⟨h'.os.trans h.os, h'.tape.trans h.tape, h'.output.trans h.output, Nat.le_trans h.size h'.size, fun b hb hS => (h'.old b (Nat.lt_of_lt_of_le hb h.size) hS).trans (h.old b hb hS), fun b o u hu => ?_, fun b o hb => (h'.frz b o (Nat.lt_of_lt_of_le hb h.size)).trans (h.frz b o hb)⟩
  obtain ⟨u1, h1, h2⟩ := h.cell b o u hu
  obtain ⟨u2, h3, h4⟩ := h'.cell b o u1 h1
  refine ⟨u2, h3, ?_⟩
  rcases h2 with rfl | ⟨h2, h5⟩
  · exact h4
  · rcases h4 with rfl | ⟨h4, h6⟩
    · exact .inr ⟨h2, h5⟩
    · exact .inr ⟨h2, h6⟩
theorem marked_of (h : Below w.heap.size w w') (S : Nat → Prop) : Marked S w w' :=
  ⟨h.os, h.tape, h.output, h.size, fun b hb _ => h.block b hb, fun b o u hu => ⟨u, (h.cell (p := ⟨b, o, none⟩) (World.block_lt_of_cell? _ _ hu)).trans hu, .inl rfl⟩, fun b o hb => World.frozen?_of_block (a := ⟨b, o, none⟩) (h.block b hb)⟩
theorem Marked.set {b o : Nat} {u t : Value} (hS : S b) (hc : w.cell? ⟨b, o, none⟩ = some u) (hu : nsl u = true) (ht : nsl t = true) : Marked S w (w.setCell ⟨b, o, none⟩ t) := by
  refine ⟨rfl, rfl, rfl, by simp [World.setCell], fun c hc hn => Below.heap_setCell _ _ _ _ (fun e => hn (by rw [e]; exact hS)), fun c p v hv => ?_, fun _ _ _ => World.frozen?_setCell _ _ _ _⟩
  by_cases e : (⟨b, o, none⟩ : Addr) = ⟨c, p, none⟩
  · cases e
    rw [hc] at hv; cases hv
    exact ⟨t, World.cell?_setCell_same _ _ _ hc, .inr ⟨hu, ht⟩⟩
  · exact ⟨v, by rw [World.cell?_setCell_other _ _ _ _ e]; exact hv, .inl rfl⟩
theorem Marked.same {B : Nat → Prop} (h : Marked S w w') (hB : ∀ b, B b → b < w.heap.size → ¬ S b) : Same B w w' := fun b hb hl => h.old b hl (hB b hb hl)
/-- A slice whose leaves may be marked. -/
theorem DrK.slice {sz : Nat} {rows : List (List D)} (h : DrK S w (.list sz rows) v) : ∃ ad cap, v = .slice ad rows.length cap ∧ rows.length ≤ 17592186044416 := by
  cases h with
  | list _ _ a n cap b off f hn h1 h2 h4 h5 h6 h7 => subst hn; exact ⟨a, cap, rfl, h2⟩
theorem DrK.at {sz : Nat} {rows : List (List D)} {ad : Option Addr} {n cap : Nat} (h : DrK S w (.list sz rows) (.slice ad n cap)) {i : Nat} {r : List D} (hi : rows[i]? = some r) (hr : 0 < r.length) :
    ∃ b off, ad = some ⟨b, off, none⟩ ∧ S b ∧ r.length = sz ∧ ∀ (j : Nat) x, r[j]? = some x → ∃ u, w.cell? ⟨b, off + (i * sz + j), none⟩ = some u ∧ w.frozen? ⟨b, off + (i * sz + j), none⟩ = false ∧ DrK S w x u := by
  cases h with
  | list _ _ a n cap b off f hn h1 h2 h4 h5 h6 h7 =>
    have hl := (List.getElem?_eq_some_iff.1 hi).1
    exact ⟨b, off, h4 (by omega), (h6 i r 0 _ hi (List.getElem?_eq_getElem hr)).1, h5 i r hi, fun j x hx => ⟨f i j, (h6 i r j x hi hx).2.1, (h6 i r j x hi hx).2.2, h7 i r j x hi hx⟩⟩
theorem DrK.row {sz n cap b off : Nat} {rows : List (List D)} (h : DrK S w (.list sz rows) (.slice (some ⟨b, off, none⟩) n cap)) {i : Nat} {r : List D} (hi : rows[i]? = some r) (j : Nat) {x : D} (hx : r[j]? = some x) {o : Nat} (ho : off + (i * sz + j) = o) :
    ∃ u, w.cell? ⟨b, o, none⟩ = some u ∧ w.frozen? ⟨b, o, none⟩ = false ∧ DrK S w x u := by
  obtain ⟨b', off', e, _, _, h1⟩ := h.at hi (by have := (List.getElem?_eq_some_iff.1 hx).1; omega)
  cases e
  obtain ⟨u, h2⟩ := h1 j x hx
  rw [ho] at h2
  exact ⟨u, h2⟩
theorem DrK.leaf {u v : Value} (h : DrK S w (.val u) v) : nsl v = true := by cases h; assumption
end
mutual
/-- The number of leaves. -/
def wgt : D → Nat
  | .val _ => 1
  | .list _ rows => wgtR rows
  | .tree _ _ => 0
def wgtR : List (List D) → Nat
  | [] => 0
  | r :: rs => wgtL r + wgtR rs
def wgtL : List D → Nat
  | [] => 0
  | d :: ds => wgt d + wgtL ds
end
theorem wgtR_append (a b : List (List D)) : wgtR (a ++ b) = wgtR a + wgtR b := by
  induction a with
  | nil => simp [wgtR]
  | cons r a ih => rw [List.cons_append, wgtR, wgtR, ih]; omega
theorem wgtR_take {rows : List (List D)} {i : Nat} {r : List D} (h : rows[i]? = some r) : wgtR (rows.take (i + 1)) = wgtR (rows.take i) + wgtL r := by
  obtain ⟨hl, h⟩ := List.getElem?_eq_some_iff.1 h
  rw [List.take_succ_eq_append_getElem hl, wgtR_append, h]; simp [wgtR]
theorem wgtR_le (rows : List (List D)) (i : Nat) : wgtR (rows.take i) ≤ wgtR rows := by
  have := wgtR_append (rows.take i) (rows.drop i)
  rw [List.take_append_drop] at this
  omega
/-- What a function that marks does: it counts c from k on. -/
def MarkN (P : Program) (f : FuncId) (x : D) (c : Nat) : Prop := ∀ (S : Nat → Prop) (w : World) (v : Value) (k : Int), DrK S w x v → 0 ≤ k → k + c ≤ 4611686018427387904 →
  Calls P f #[v, .int .i64 k] w fun e w' => e = .returned (.int .i64 (k + c)) ∧ Marked S w w'
/-- What a function that marks does: it counts the leaves from k on. -/
def MarkC (P : Program) (f : FuncId) (x : D) : Prop := MarkN P f x (wgt x)
/-- What a function that copies does: its answer lies in new memory. -/
def CopyC (P : Program) (f : FuncId) (x : D) : Prop := ∀ (B : Nat → Prop) (w : World) (v : Value), Dr B w x v →
  Calls P f #[v] w fun e w' => ∃ v', e = .returned v' ∧ Below w.heap.size w w' ∧ DrN w.heap.size w' x v'
/-- The same of a struct. -/
def CopyS (P : Program) (f : FuncId) (ds : List D) : Prop := ∀ (B : Nat → Prop) (w : World) (vs : List Value), vs.length = ds.length → (∀ (i : Nat) d u, ds[i]? = some d → vs[i]? = some u → Dr B w d u) →
  Calls P f #[.agg vs.toArray] w fun e w' => ∃ vs' : List Value, e = .returned (.agg vs'.toArray) ∧ Below w.heap.size w w' ∧ DrNs w.heap.size w' ds vs'
theorem wrap64_inM {n : Int} (h : -9223372036854775808 ≤ n) (h2 : n ≤ 9223372036854775807) : wrap64 n = n := by unfold wrap64; omega
/-- A text of few digits. -/
structure TextOk (j : Int) (t : ByteArray) : Prop where
  size : t.size ≤ 64
  le : j ≤ 4611686018427387904
  pow : 0 < j → j.toNat * 2 ^ t.size ≤ 4611686018427387904
theorem TextOk.start {k : Int} (h0 : 0 ≤ k) (h1 : k ≤ 4611686018427387904) : TextOk k ⟨#[]⟩ := ⟨by decide, h1, fun _ => by
  show k.toNat * 2 ^ 0 ≤ _
  omega⟩
theorem TextOk.next {j : Int} {t t' : ByteArray} (h : TextOk j t) (hj : 0 < j) (ht : t'.size = t.size + 1) : TextOk (j / 10) t' := by
  have h1 := h.pow hj
  have h2 : 1 * 2 ^ t.size ≤ j.toNat * 2 ^ t.size := Nat.mul_le_mul_right _ (by omega)
  have h3 : t.size ≤ 62 := by
    rcases Nat.lt_or_ge 62 t.size with h | h
    · have := Nat.pow_le_pow_right (n := 2) (by omega) (show 63 ≤ t.size from h)
      have e : (2 : Nat) ^ 63 = 9223372036854775808 := by decide
      omega
    · exact h
  have h5 := h.le
  refine ⟨by omega, by omega, fun _ => ?_⟩
  rw [ht, Nat.pow_succ]
  have h4 : (j / 10).toNat * 2 ≤ j.toNat := by omega
  calc (j / 10).toNat * (2 ^ t.size * 2) = ((j / 10).toNat * 2) * 2 ^ t.size := by rw [Nat.mul_comm (2 ^ t.size) 2, Nat.mul_assoc]
    _ ≤ j.toNat * 2 ^ t.size := Nat.mul_le_mul_right _ h4
    _ ≤ _ := h1
theorem markText_k (k : Int) (w : World) (h0 : 0 ≤ k) (h1 : k ≤ 4611686018427387904) : Calls Try.prog 91 #[.int .i64 k] w fun e w' => ∃ s, e = .returned (.string s) ∧ Below w.heap.size w w' := by
  by_cases hk : k = 0
  · subst hk
    go_enter Try.func91, Try.ntmps91
    go_wp2
    go_ret
    exact ⟨_, rfl, Below.refl _ _⟩
  · have hk1 : decide (k ≤ 0) = false := by simp; omega
    go_enter Try.func91, Try.ntmps91
    go_wp2
    go_loopw [0, 3] (fun i s wr => ∃ (j : Int) (t : ByteArray), 0 ≤ j ∧ i = .int .i64 j ∧ s = .string t ∧ Hid (TextOk j t) ∧ Below w.heap.size w wr) (fun i _ _ => (intOf i).toNat)
    case atStart => exact ⟨k, _, h0, rfl, rfl, hid (TextOk.start h0 h1), Below.refl _ _⟩
    case round =>
      obtain ⟨j, t, hj, rfl, rfl, ht, hb⟩ := hrel
      have hsz := ht.out.size
      by_cases hlt : 0 < j
      · have hd : decide (0 < j) = true := by simpa using hlt
        have hcv : (convert 114 9 (.slice (some ⟨wr.heap.size, 0, none⟩) 1 1)).run Try.prog (wr.alloc (.cells #[.int .u8 (48 + j % 10)] 5)) = .ok (.string (strOfNums [48 + j % 10])) (wr.alloc (.cells #[.int .u8 (48 + j % 10)] 5)) :=
          run_convert_bytes_arg _ 114 5 Try.underlying114 Try.underlying5 wr.heap.size 0 1 1 [48 + j % 10] rfl (fun i hi => by
            obtain rfl : i = 0 := by omega
            exact cell_of_row _ _ 0 _ _ _ (heap_alloc_new wr _)) 9 Try.underlying9
        have hs3 : (strOfNums [48 + j % 10]).size = 1 := rfl
        have hs2 : (strOfNums [48 + j % 10] ++ t).size = t.size + 1 := by rw [ByteArray.size_append, hs3]; omega
        have hq : wrap64 (j.tdiv 10) = j / 10 := by
          have := ht.out.le
          rw [Int.tdiv_eq_ediv_of_nonneg hj, wrap64_inM (by omega) (by omega)]
        have Hn := hid (ht.out.next hlt hs2)
        go_wp2
        rw [hq]
        exact ⟨⟨j / 10, _, by omega, rfl, rfl, Hn, hb.alloc hb.size _⟩, by simp [intOf]; omega⟩
      · have hd : decide (0 < j) = false := by simpa using hlt
        go_wp2
        go_ret
        exact ⟨⟨_, rfl⟩, hb⟩

theorem wgtR_leafs {rows : List (List D)} (h : ∀ r ∈ rows, ∃ u, r = [.val u]) : wgtR rows = rows.length := by
  induction rows with
  | nil => rfl
  | cons r rows ih =>
    obtain ⟨u, rfl⟩ := h r (by simp)
    rw [wgtR, ih (fun r hr => h r (by simp [hr]))]
    simp [wgtL, wgt]; omega

theorem markIntS_k {rows : List (List D)} (h : ∀ r ∈ rows, ∃ u, r = [.val u]) : MarkC Try.prog 13 (.list 1 rows) := by
  intro S w v k hx hk0 hk1
  obtain ⟨ad, cap, rfl, hle⟩ := hx.slice
  obtain ⟨n, hn⟩ : ∃ n, n = rows.length := ⟨_, rfl⟩
  rw [← hn] at hx hle ⊢
  have Hn := hid hn; clear hn
  rw [wgt] at hk1 ⊢
  have Hx := hid hx; clear hx
  have Hk := hid hk1; clear hk1
  go_enter Try.func13, Try.ntmps13
  go_wp2
  go_loopw [1, 5] (fun q i wr => ∃ (j : Nat) (K : Int), j ≤ n ∧ i = .int .i64 j ∧ q = .int .i64 K ∧ Hid (K = k + wgtR (rows.take j)) ∧ Marked S w wr) (fun _ i _ => n - (intOf i).toNat)
  case atStart => exact ⟨0, k, Nat.zero_le _, rfl, rfl, hid (by simp [wgtR]), Marked.refl _ _⟩
  case round =>
    obtain ⟨j, K, hj, rfl, rfl, HK, hm⟩ := hrel
    by_cases hlt : j < n
    · obtain ⟨r, hr⟩ : ∃ r, rows[j]? = some r := ⟨_, List.getElem?_eq_getElem (by rw [← Hn.out]; exact hlt)⟩
      have hs := wgtR_take hr
      obtain ⟨u, rfl⟩ := h r (List.mem_of_getElem? hr)
      obtain ⟨b, off, rfl, hS, _, hcell⟩ := (Hx.out.mark hm).at hr (by simp)
      obtain ⟨u0, c0, f0, d0⟩ := hcell 0 _ rfl
      have d0 := d0.leaf
      have Hs := hid hs; clear hs hr hcell
      simp only [Nat.mul_one, Nat.add_zero] at c0 f0
      have hb1 := Hk.out; have hb2 := HK.out
      have hK0 : 0 ≤ K := by omega
      have hK1 : K + 1 ≤ 4611686018427387904 := by have := Hs.out; have := wgtR_le rows (j + 1); simp [wgtL, wgt] at *; omega
      clear hb1 hb2
      have m1 := hm.trans (Marked.set (t := .int .i64 K) hS c0 d0 rfl)
      go_wp2
      exact ⟨⟨j + 1, K + 1, by omega, rfl, rfl, hid (by rw [HK.out, Hs.out]; simp [wgtL, wgt]; omega), m1⟩, by simp [intOf]; omega⟩
    · have : j = n := by omega
      subst this
      go_wp2
      go_ret
      exact ⟨ret_int (by rw [HK.out, Hn.out, List.take_length]), hm⟩
section
variable {B : Nat → Prop} {w w' : World} {x : D} {v : Value}
theorem Dr.ba {sz : Nat} {rows : List (List D)} {ad : Option Addr} {n cap : Nat} (h : Dr B w (.list sz rows) (.slice ad n cap)) {i : Nat} {r : List D} (hi : rows[i]? = some r) : ∃ b off, ad = some ⟨b, off, none⟩ := by
  cases h with
  | list _ _ a n cap b off f hn h1 h2 h3 h4 h5 h6 h7 =>
    have hl := (List.getElem?_eq_some_iff.1 hi).1
    exact ⟨b, off, h4 (by omega)⟩
theorem Dr.row {sz n cap b off : Nat} {rows : List (List D)} (h : Dr B w (.list sz rows) (.slice (some ⟨b, off, none⟩) n cap)) {i : Nat} {r : List D} (hi : rows[i]? = some r) (j : Nat) {x : D} (hx : r[j]? = some x) {o : Nat} (ho : off + (i * sz + j) = o) :
    ∃ u, w.cell? ⟨b, o, none⟩ = some u ∧ Dr B w x u := by
  cases h with
  | list _ _ a n cap b' off' f hn h1 h2 h3 h4 h5 h6 h7 =>
    have hl := (List.getElem?_eq_some_iff.1 hi).1
    cases h4 (by omega)
    exact ⟨f i j, by rw [← ho]; exact (h6 i r j x hi hx).2, h7 i r j x hi hx⟩
/-- The values vs, stored one behind the other. -/
def setRow (w : World) (g o : Nat) : List Value → World
  | [] => w
  | v :: vs => setRow (w.setCell ⟨g, o, none⟩ v) g (o + 1) vs
theorem setRow_same {g : Nat} : ∀ (vs : List Value) (o : Nat) (w : World) (cur : Array Value) (e : TypeId), w.heap[g]? = some (.cells cur e (0, 0)) → o + vs.length ≤ cur.size →
    ∃ cur', (setRow w g o vs).heap[g]? = some (.cells cur' e (0, 0)) ∧ cur'.size = cur.size ∧ (∀ i, i < o ∨ o + vs.length ≤ i → cur'[i]? = cur[i]?) ∧ ∀ j v, vs[j]? = some v → cur'[o + j]? = some v
  | [], o, w, cur, e, h, _ => ⟨cur, h, rfl, fun i _ => rfl, fun j v hv => by cases hv⟩
  | v :: vs, o, w, cur, e, h, hl => by
    rw [List.length_cons] at hl
    obtain ⟨cur', h1, h2, h3, h4⟩ := setRow_same vs (o + 1) (w.setCell ⟨g, o, none⟩ v) (cur.setIfInBounds o v) e (heap_setCell_same w g o cur e _ h) (by simp; omega)
    refine ⟨cur', h1, by rw [h2]; simp, fun i hi => ?_, fun j u hu => ?_⟩
    · rw [h3 i (by rw [List.length_cons] at hi; omega), Array.getElem?_setIfInBounds_ne (by rw [List.length_cons] at hi; omega)]
    · cases j with
      | zero =>
        simp at hu; subst hu
        rw [Nat.add_zero, h3 o (by omega), Array.getElem?_setIfInBounds_self_of_lt (by omega)]
      | succ j =>
        have := h4 j u (by simpa using hu)
        rwa [show o + (j + 1) = o + 1 + j by omega]
theorem setRow_below {n g : Nat} {w0 : World} : ∀ (vs : List Value) (o : Nat) (w : World), Below n w0 w → n ≤ g → Below n w0 (setRow w g o vs)
  | [], _, _, h, _ => h
  | v :: vs, o, w, h, hg => setRow_below vs (o + 1) _ (h.setCell (p := ⟨g, o, none⟩) hg v) hg
theorem setRow_other {g k : Nat} (hk : k ≠ g) : ∀ (vs : List Value) (o : Nat) (w : World), (setRow w g o vs).heap[k]? = w.heap[k]?
  | [], _, _ => rfl
  | v :: vs, o, w => (setRow_other hk vs (o + 1) _).trans (Below.heap_setCell _ _ _ _ hk)
theorem Grid.store {g : Nat} {e : TypeId} {sz n k : Nat} {rows : List (List D)} {r : List D} {vs : List Value} (h : Grid w g e sz n k rows) (hr : rows[k]? = some r) (hk : k < n) (hs : vs.length = sz) (hl : ∀ r ∈ rows, r.length = sz) (hv : DrNs (g + 1) w r vs) :
    Grid (setRow w g (k * sz) vs) g e sz n (k + 1) rows := by
  obtain ⟨cur, h1, h2, h3⟩ := h
  have hle : k * sz + vs.length ≤ cur.size := by
    rw [h2, hs, ← Nat.succ_mul]; exact Nat.mul_le_mul_right _ hk
  obtain ⟨cur', q1, q2, q3, q4⟩ := setRow_same vs (k * sz) w cur e h1 hle
  have hf : ∀ {x u}, DrN (g + 1) w x u → DrN (g + 1) (setRow w g (k * sz) vs) x u := fun h => h.frame fun b hb _ => setRow_other (by omega) _ _ _
  refine ⟨cur', q1, q2.trans h2, fun i r' j x hi hr' hx => ?_⟩
  by_cases e1 : i = k
  · subst e1
    rw [hr] at hr'; cases hr'
    have hj : j < vs.length := by rw [hv.1]; exact (List.getElem?_eq_some_iff.1 hx).1
    exact ⟨vs[j], q4 j _ (List.getElem?_eq_getElem hj), hf (hv.2 j x _ hx (List.getElem?_eq_getElem hj))⟩
  · obtain ⟨u, h4, h5⟩ := h3 i r' j x (by omega) hr' hx
    by_cases hj : i * sz + j < k * sz ∨ k * sz + vs.length ≤ i * sz + j
    · exact ⟨u, (q3 _ hj).trans h4, hf h5⟩
    · -- a cell of the row k: then it holds what was stored; rows are disjoint
      exfalso
      have hj' : j < sz := by rw [← hl r' (List.mem_of_getElem? hr')]; exact (List.getElem?_eq_some_iff.1 hx).1
      have : (i + 1) * sz ≤ k * sz := Nat.mul_le_mul_right _ (by omega)
      rw [Nat.succ_mul] at this
      omega
end

theorem DrNs.mono {lo lo' : Nat} {w : World} {ds : List D} {vs : List Value} (hl : lo' ≤ lo) (h : DrNs lo w ds vs) : DrNs lo' w ds vs := ⟨h.1, fun i d u hd hu => (h.2 i d u hd hu).mono hl⟩
theorem len_cons {α : Type} {l : List α} {n : Nat} (h : l.length = n + 1) : ∃ x l', l = x :: l' ∧ l'.length = n := by
  cases l with
  | nil => cases h
  | cons x l => exact ⟨x, l, rfl, by simpa using h⟩
theorem len_zero {α : Type} {l : List α} (h : l.length = 0) : l = [] := List.eq_nil_of_length_eq_zero h
/-- Three new blocks: what came in, the answer, the local variable. -/
structure R3 (w : World) (g : Nat) (A B C : List Value) (e1 e2 : TypeId) : Prop where
  a : w.heap[g]? = some (.cells A.toArray e1 (0, 0))
  b : w.heap[g + 1]? = some (.cells B.toArray e2 (0, 0))
  c : w.heap[g + 1 + 1]? = some (.cells C.toArray e2 (0, 0))
theorem R3.start (w : World) (A B C : List Value) (e1 e2 : TypeId) : R3 (((w.alloc (.cells A.toArray e1)).alloc (.cells B.toArray e2)).alloc (.cells C.toArray e2)) w.heap.size A B C e1 e2 := by
  have h1 := heap_alloc_new w (.cells A.toArray e1)
  have h2 := heap_alloc_new (w.alloc (.cells A.toArray e1)) (.cells B.toArray e2)
  have h3 := heap_alloc_new ((w.alloc (.cells A.toArray e1)).alloc (.cells B.toArray e2)) (.cells C.toArray e2)
  have z1 : (w.alloc (.cells A.toArray e1)).heap.size = w.heap.size + 1 := by simp
  have z2 : ((w.alloc (.cells A.toArray e1)).alloc (.cells B.toArray e2)).heap.size = w.heap.size + 1 + 1 := by simp
  rw [z1] at h2
  rw [z2] at h3
  exact ⟨by rw [Below.heap_alloc _ _ _ (by omega), Below.heap_alloc _ _ _ (by omega)]; exact h1, by rw [Below.heap_alloc _ _ _ (by omega)]; exact h2, h3⟩
section
variable {w w' : World} {g : Nat} {A B C : List Value} {e1 e2 : TypeId}
theorem blk_lt {b : Nat} {o : Obj} (h : w.heap[b]? = some o) : b < w.heap.size := (Array.getElem?_eq_some_iff.1 h).1
theorem R3.fwd (h : R3 w g A B C e1 e2) (hb : Below w.heap.size w w') : R3 w' g A B C e1 e2 :=
  ⟨(hb.block _ (blk_lt h.a)).trans h.a, (hb.block _ (blk_lt h.b)).trans h.b, (hb.block _ (blk_lt h.c)).trans h.c⟩
theorem R3.set (h : R3 w g A B C e1 e2) (j : Nat) (v : Value) : R3 (w.setCell ⟨g + 1 + 1, j, none⟩ v) g A B (C.set j v) e1 e2 :=
  ⟨by rw [Below.heap_setCell _ _ _ _ (by show g ≠ g + 1 + 1; omega)]; exact h.a, by rw [Below.heap_setCell _ _ _ _ (by show g + 1 ≠ g + 1 + 1; omega)]; exact h.b, by
    have := heap_setCell_same w (g + 1 + 1) j C.toArray e2 v h.c
    rwa [List.setIfInBounds_toArray] at this⟩
theorem R3.setb (h : R3 w g A B C e1 e2) (j : Nat) (v : Value) : R3 (w.setCell ⟨g + 1, j, none⟩ v) g A (B.set j v) C e1 e2 :=
  ⟨by rw [Below.heap_setCell _ _ _ _ (by show g ≠ g + 1; omega)]; exact h.a, by
    have := heap_setCell_same w (g + 1) j B.toArray e2 v h.b
    rwa [List.setIfInBounds_toArray] at this, by rw [Below.heap_setCell _ _ _ _ (by show g + 1 + 1 ≠ g + 1; omega)]; exact h.c⟩
theorem R3.c1 (h : R3 w g A B C e1 e2) (j : Nat) {v : Value} (hv : A[j]? = some v) : w.cell? ⟨g, j, none⟩ = some v := by
  rw [cell_of_row w _ _ _ _ _ h.a, List.getElem?_toArray]; exact hv
theorem R3.c2 (h : R3 w g A B C e1 e2) (j : Nat) {v : Value} (hv : B[j]? = some v) : w.cell? ⟨g + 1, j, none⟩ = some v := by
  rw [cell_of_row w _ _ _ _ _ h.b, List.getElem?_toArray]; exact hv
theorem R3.c3 (h : R3 w g A B C e1 e2) (j : Nat) {v : Value} (hv : C[j]? = some v) : w.cell? ⟨g + 1 + 1, j, none⟩ = some v := by
  rw [cell_of_row w _ _ _ _ _ h.c, List.getElem?_toArray]; exact hv
theorem R3.f2 (h : R3 w g A B C e1 e2) (j : Nat) : w.frozen? ⟨g + 1, j, none⟩ = false := by simp [World.frozen?, h.b]
theorem R3.f3 (h : R3 w g A B C e1 e2) (j : Nat) : w.frozen? ⟨g + 1 + 1, j, none⟩ = false := by simp [World.frozen?, h.c]
/-- From block m on what was there stays. -/
structure Past (m : Nat) (w w' : World) : Prop where
  size : w.heap.size ≤ w'.heap.size
  same : ∀ b, m ≤ b → b < w.heap.size → w'.heap[b]? = w.heap[b]?
theorem Past.refl (m : Nat) (w : World) : Past m w w := ⟨Nat.le_refl _, fun _ _ _ => rfl⟩
theorem Past.fwd {m : Nat} {w0 : World} (h : Past m w0 w) (hb : Below w.heap.size w w') : Past m w0 w' := ⟨Nat.le_trans h.size hb.size, fun b h1 h2 => (hb.block b (Nat.lt_of_lt_of_le h2 h.size)).trans (h.same b h1 h2)⟩
theorem Past.set {m : Nat} {w0 : World} (h : Past m w0 w) {b : Nat} (hb : b < m) (j : Nat) (v : Value) : Past m w0 (w.setCell ⟨b, j, none⟩ v) :=
  ⟨Nat.le_trans h.size (by simp [World.setCell]), fun c h1 h2 => (Below.heap_setCell _ _ _ _ (by show c ≠ b; omega)).trans (h.same c h1 h2)⟩
theorem DrN.past {lo m : Nat} {x : D} {v : Value} (h : DrN lo w x v) (hm : m ≤ lo) (hp : Past m w w') : DrN lo w' x v := h.frame fun b h1 h2 => hp.same b (Nat.le_trans hm h1) h2
end
theorem info_make {t e : TypeId} {z : Value} {sz bytes : Nat} (ht : Try.prog.underlying t = some (.slice e)) (h : (Try.prog.info? e).map (fun i => (i.zero, i.size, i.bytes)) = some (some z, sz, bytes)) (n : Nat) (hn : bytes * n ≤ 281474976710656) (hn2 : n ≤ 1048576) (w : World) :
    (Instr.makeSlice t (.int .i64 (n : Int)) (.int .i64 (n : Int))).run Try.prog w = .ok (.slice (some ⟨w.heap.size, 0, none⟩) n n) (w.alloc (.cells (madeCells z.cells (n * sz)) e)) := by
  obtain ⟨i, hi, hz0, hz1, hz2⟩ := info_parts h
  have := run_make (P := Try.prog) w t e i _ ht hi hz0 .i64 .i64 n n (by omega) (by omega) (by rw [hz2, ← Int.natCast_mul]; exact Int.ofNat_le.2 hn) (by omega)
  simpa [hz1] using this
section
variable {S S' : Nat → Prop} {w w' w'' : World} {x y : D} {v : Value}
theorem DrK.sub (hs : ∀ b, S b → S' b) (h : DrK S w x v) : DrK S' w x v := by
  induction h with
  | val v u h => exact .val v u h
  | list sz rows a n cap b off f hn h1 h2 h4 h5 h6 h7 ih =>
    exact .list sz rows a n cap b off f hn h1 h2 h4 h5 (fun i r j x hr hx => ⟨hs _ (h6 i r j x hr hx).1, (h6 i r j x hr hx).2⟩) ih
theorem DrU.k (h : DrU w S x v) : DrK S w x v := by
  induction h with
  | val S v h => exact .val v v h
  | list S sz rows a n cap b off f T hn h1 h2 h3 h4 h5 h6 hT hD h7 ih =>
    refine .list sz rows a n cap b off f hn h1 h2 h4 h5 h6 fun i r j x hr hx => ?_
    exact (ih i r j x hr hx).sub fun c hc => (hT i j c hc).1
theorem DrU.sub (hs : ∀ b, S b → S' b) (h : DrU w S x v) : DrU w S' x v := by
  cases h with
  | val S v h => exact .val S' v h
  | list S sz rows a n cap b off f T hn h1 h2 h3 h4 h5 h6 hT hD h7 =>
    exact .list S' sz rows a n cap b off f T hn h1 h2 h3 h4 h5 (fun i r j x hr hx => ⟨hs _ (h6 i r j x hr hx).1, (h6 i r j x hr hx).2⟩) (fun i j c hc => ⟨hs _ (hT i j c hc).1, (hT i j c hc).2⟩) hD h7
theorem DrU.fwd (h : DrU w S x v) (hb : Below w.heap.size w w') : DrU w' S x v := h.frame fun b _ hl => hb.block b hl
theorem DrU.leaf {u v : Value} (h : DrU w S (.val u) v) : v = u ∧ nsl v = true := by cases h; exact ⟨rfl, by assumption⟩
theorem DrU.slice {sz : Nat} {rows : List (List D)} (h : DrU w S (.list sz rows) v) : ∃ ad cap, v = .slice ad rows.length cap ∧ rows.length ≤ cap ∧ rows.length ≤ 17592186044416 ∧ (ad = none → cap = 0) := by
  cases h with
  | list _ sz rows a n cap b off f T hn h1 h2 h3 h4 h5 h6 hT hD h7 => subst hn; exact ⟨a, cap, rfl, h1, h2, h3⟩
/-- One row of a tree: its cells, and what a change of one of them makes. -/
theorem DrU.at {sz n cap : Nat} {rows : List (List D)} {ad : Option Addr} (h : DrU w S (.list sz rows) (.slice ad n cap)) {i : Nat} {r : List D} (hi : rows[i]? = some r) (hr : 0 < r.length) :
    ∃ b off, ad = some ⟨b, off, none⟩ ∧ S b ∧ b < w.heap.size ∧ r.length = sz := by
  cases h with
  | list _ sz rows a n cap b off f T hn h1 h2 h3 h4 h5 h6 hT hD h7 =>
    have hl := (List.getElem?_eq_some_iff.1 hi).1
    obtain ⟨g1, g2, _⟩ := h6 i r 0 r[0] hi (List.getElem?_eq_getElem hr)
    exact ⟨b, off, h4 (by omega), g1, World.block_lt_of_cell? _ _ g2, h5 i r hi⟩
theorem DrU.row {sz n cap b off : Nat} {rows : List (List D)} (h : DrU w S (.list sz rows) (.slice (some ⟨b, off, none⟩) n cap)) {i : Nat} {r : List D} (hi : rows[i]? = some r) {j : Nat} {x : D} (hx : r[j]? = some x) {o : Nat} (ho : off + (i * sz + j) = o) :
    ∃ u T, w.cell? ⟨b, o, none⟩ = some u ∧ w.frozen? ⟨b, o, none⟩ = false ∧ DrU w T x u ∧ (∀ c, T c → S c ∧ c ≠ b) ∧
      (∀ w' y, Marked T w w' → DrU w' T y u → DrU w' S (.list sz (rows.set i (r.set j y))) (.slice (some ⟨b, off, none⟩) n cap)) ∧
      (∀ t, nsl t = true → nsl u = true → DrU (w.setCell ⟨b, o, none⟩ t) S (.list sz (rows.set i (r.set j (.val t)))) (.slice (some ⟨b, off, none⟩) n cap)) := by
  subst ho
  cases h with
  | list _ sz rows a n cap b' off' f T hn h1 h2 h3 h4 h5 h6 hT hD h7 =>
    have hl := (List.getElem?_eq_some_iff.1 hi).1
    have hjl := (List.getElem?_eq_some_iff.1 hx).1
    cases h4 (by omega)
    have hrl := h5 i r hi
    obtain ⟨g1, g2, g3⟩ := h6 i r j x hi hx
    have hbl := World.block_lt_of_cell? _ _ g2
    have hset : ∀ y (i' : Nat) r' (j' : Nat) x', (rows.set i (r.set j y))[i']? = some r' → r'[j']? = some x' → (i' = i ∧ j' = j ∧ x' = y) ∨ (¬ (i' = i ∧ j' = j) ∧ ∃ r0, rows[i']? = some r0 ∧ r0[j']? = some x') := by
      intro y i' r' j' x' hi' hx'
      rw [List.getElem?_set] at hi'
      by_cases e : i = i'
      · subst e
        rw [if_pos rfl, if_pos hl] at hi'; cases hi'
        rw [List.getElem?_set] at hx'
        by_cases e2 : j = j'
        · subst e2; rw [if_pos rfl, if_pos hjl] at hx'; cases hx'; exact .inl ⟨rfl, rfl, rfl⟩
        · rw [if_neg e2] at hx'; exact .inr ⟨fun h => e2 h.2.symm, r, hi, hx'⟩
      · rw [if_neg e] at hi'; exact .inr ⟨fun h => e h.1.symm, r', hi', hx'⟩
    have hlen : ∀ y (i' : Nat) r', (rows.set i (r.set j y))[i']? = some r' → r'.length = sz := by
      intro y i' r' hi'
      rw [List.getElem?_set] at hi'
      by_cases e : i = i'
      · subst e; rw [if_pos rfl, if_pos hl] at hi'; cases hi'; rw [List.length_set]; exact hrl
      · rw [if_neg e] at hi'; exact h5 i' r' hi'
    refine ⟨f i j, T i j, g2, g3, h7 i r j x hi hx, hT i j, fun w' y hm hy => ?_, fun t ht hu => ?_⟩
    · refine .list S sz _ _ n cap b off f T (by rw [List.length_set]; exact hn) h1 h2 h3 (fun _ => rfl) (hlen y) (fun i' r' j' x' hi' hx' => ?_) hT hD fun i' r' j' x' hi' hx' => ?_
      · have key : ∀ r0 x0, rows[i']? = some r0 → r0[j']? = some x0 → S b ∧ w'.cell? ⟨b, off + (i' * sz + j'), none⟩ = some (f i' j') ∧ w'.frozen? ⟨b, off + (i' * sz + j'), none⟩ = false := fun r0 x0 q1 q2 => by
          obtain ⟨g4, g5, g6⟩ := h6 i' r0 j' x0 q1 q2
          have hold := hm.old b hbl fun hb => (hT i j b hb).2 rfl
          exact ⟨g4, (World.cell?_of_block (a := ⟨b, off + (i' * sz + j'), none⟩) hold).trans g5, (hm.frz _ _ hbl).trans g6⟩
        rcases hset y i' r' j' x' hi' hx' with ⟨rfl, rfl, _⟩ | ⟨_, r0, q1, q2⟩
        · exact key r x hi hx
        · exact key r0 x' q1 q2
      · rcases hset y i' r' j' x' hi' hx' with ⟨rfl, rfl, rfl⟩ | ⟨hne, r0, q1, q2⟩
        · exact hy
        · refine (h7 i' r0 j' x' q1 q2).frame fun c hc hcl => hm.old c hcl fun hc' => hne ?_
          obtain ⟨e1, e2⟩ := hD i' j' i j c hc hc'
          exact ⟨e1, e2⟩
    · have hlt : ∀ {i' j' : Nat} {r0 : List D} {x0 : D}, rows[i']? = some r0 → r0[j']? = some x0 → j' < sz := fun q1 q2 => by rw [← h5 _ _ q1]; exact (List.getElem?_eq_some_iff.1 q2).1
      have hidx : ∀ {i' j' : Nat}, j' < sz → j < sz → i' * sz + j' = i * sz + j → i' = i ∧ j' = j := fun {i' j'} q1 q2 e => by
        have e1 : (i' * sz + j') / sz = (i * sz + j) / sz := by rw [e]
        rw [Nat.mul_comm, Nat.mul_add_div (by omega), Nat.div_eq_of_lt q1, Nat.mul_comm, Nat.mul_add_div (by omega), Nat.div_eq_of_lt q2] at e1
        have : i' = i := by omega
        subst this
        exact ⟨rfl, by omega⟩
      refine .list S sz _ _ n cap b off (fun i' j' => if i' = i ∧ j' = j then t else f i' j') (fun i' j' c => ¬ (i' = i ∧ j' = j) ∧ T i' j' c) (by rw [List.length_set]; exact hn) h1 h2 h3 (fun _ => rfl) (hlen _) (fun i' r' j' x' hi' hx' => ?_) (fun i' j' c hc => hT i' j' c hc.2) (fun i1 j1 i2 j2 c q1 q2 => hD i1 j1 i2 j2 c q1.2 q2.2) fun i' r' j' x' hi' hx' => ?_
      · rcases hset _ i' r' j' x' hi' hx' with ⟨rfl, rfl, _⟩ | ⟨hne, r0, q1, q2⟩
        · exact ⟨g1, by rw [if_pos ⟨rfl, rfl⟩]; exact World.cell?_setCell_same _ _ _ g2, (World.frozen?_setCell _ _ _ _).trans g3⟩
        · obtain ⟨g4, g5, g6⟩ := h6 i' r0 j' x' q1 q2
          refine ⟨g4, ?_, (World.frozen?_setCell _ _ _ _).trans g6⟩
          rw [if_neg hne]
          exact (World.cell?_setCell_other _ _ _ _ (by intro e; simp only [Addr.mk.injEq] at e; exact hne (hidx (hlt q1 q2) (hlt hi hx) (by omega)))).trans g5
      · rcases hset _ i' r' j' x' hi' hx' with ⟨rfl, rfl, rfl⟩ | ⟨hne, r0, q1, q2⟩
        · simp only [and_self, if_true]; exact .val _ _ ht
        · simp only [if_neg hne]
          refine ((h7 i' r0 j' x' q1 q2).frame fun c hc _ => ?_).sub fun c hc => ⟨hne, hc⟩
          exact Below.heap_setCell _ _ _ _ (by show c ≠ b; exact (hT i' j' c hc).2)
end

mutual
/-- The tree with marks for leaves, from k on. -/
def mkD (tx : Int → ByteArray) : Int → D → D
  | k, .val (.string _) => .val (.string (tx k))
  | k, .val _ => .val (.int .i64 k)
  | k, .list sz rows => .list sz (mkR tx k rows)
  | _, .tree S x => .tree S x
def mkR (tx : Int → ByteArray) : Int → List (List D) → List (List D)
  | _, [] => []
  | k, r :: rs => mkL tx k r :: mkR tx (k + wgtL r) rs
def mkL (tx : Int → ByteArray) : Int → List D → List D
  | _, [] => []
  | k, d :: ds => mkD tx k d :: mkL tx (k + wgt d) ds
end
theorem mkR_len (tx : Int → ByteArray) : ∀ (rows : List (List D)) (k : Int), (mkR tx k rows).length = rows.length
  | [], _ => rfl
  | r :: rs, k => by rw [mkR, List.length_cons, mkR_len tx rs, List.length_cons]
theorem mkR_at (tx : Int → ByteArray) : ∀ (rows : List (List D)) (k : Int) (i : Nat) (r : List D), rows[i]? = some r → (mkR tx k rows)[i]? = some (mkL tx (k + wgtR (rows.take i)) r)
  | [], _, i, r, h => by simp at h
  | q :: rs, k, 0, r, h => by simp at h; subst h; rw [mkR]; simp [wgtR]
  | q :: rs, k, i + 1, r, h => by
    rw [mkR, List.getElem?_cons_succ, mkR_at tx rs _ i r (by simpa using h), List.take_succ_cons, wgtR]
    congr 2; omega
/-- The rows, the first j of them marked. -/
def mkT (tx : Int → ByteArray) (k : Int) (rows : List (List D)) (j : Nat) : List (List D) := (mkR tx k rows).take j ++ rows.drop j
theorem mkT_zero {tx : Int → ByteArray} {k : Int} {rows : List (List D)} : mkT tx k rows 0 = rows := by simp [mkT]
theorem mkT_end {tx : Int → ByteArray} {k : Int} {rows : List (List D)} {n : Nat} (h : n = rows.length) : mkT tx k rows n = mkR tx k rows := by
  rw [mkT, List.take_of_length_le (by rw [mkR_len]; omega), List.drop_of_length_le (by omega), List.append_nil]
theorem mkT_at {tx : Int → ByteArray} {k : Int} {rows : List (List D)} {j : Nat} {r : List D} (h : rows[j]? = some r) : (mkT tx k rows j)[j]? = some r := by
  have hl := (List.getElem?_eq_some_iff.1 h).1
  rw [mkT, List.getElem?_append_right (by rw [List.length_take, mkR_len]; omega), List.length_take, mkR_len, Nat.min_eq_left (by omega), Nat.sub_self, List.getElem?_drop, Nat.add_zero]; exact h
theorem mkT_next {tx : Int → ByteArray} {k K : Int} {rows : List (List D)} {j : Nat} {r r' : List D} (h : rows[j]? = some r) (hK : K = k + wgtR (rows.take j)) (hr : r' = mkL tx K r) : (mkT tx k rows j).set j r' = mkT tx k rows (j + 1) := by
  have hl := (List.getElem?_eq_some_iff.1 h).1
  have h1 := mkR_at tx rows k j r h
  rw [← hK, ← hr] at h1
  have hd : rows.drop j = r :: rows.drop (j + 1) := by rw [List.drop_eq_getElem_cons hl, (List.getElem?_eq_some_iff.1 h).2]
  rw [mkT, mkT, List.set_append, if_neg (by rw [List.length_take, mkR_len]; omega), List.length_take, mkR_len, Nat.min_eq_left (by omega), Nat.sub_self, hd, List.set_cons_zero, List.take_add_one, h1, List.append_assoc]
  rfl
/-- What a function that marks does with a tree of the own. -/
def MarkU (P : Program) (tx : Int → ByteArray) (f : FuncId) (x : D) (c : Nat) : Prop := ∀ (S : Nat → Prop) (w : World) (v : Value) (k : Int), DrU w S x v → 0 ≤ k → k + c ≤ 4611686018427387904 →
  Calls P f #[v, .int .i64 k] w fun e w' => e = .returned (.int .i64 (k + c)) ∧ Marked S w w' ∧ DrU w' S (mkD tx k x) v
/-- The digits of a number, put before a text. -/
def dgI (j : Int) (t : ByteArray) : ByteArray := if 0 < j then dgI (j / 10) (strOfNums [48 + j % 10] ++ t) else t
termination_by j.toNat
decreasing_by omega
/-- The text of a mark. -/
def mTx (k : Int) : ByteArray := if k = 0 then ⟨#[109, 48]⟩ else ⟨#[109]⟩ ++ dgI k ⟨#[]⟩
theorem markText_u (k : Int) (w : World) (h0 : 0 ≤ k) (h1 : k ≤ 4611686018427387904) : Calls Try.prog 91 #[.int .i64 k] w fun e w' => e = .returned (.string (mTx k)) ∧ Below w.heap.size w w' := by
  by_cases hk : k = 0
  · subst hk
    go_enter Try.func91, Try.ntmps91
    go_wp2
    go_ret
    exact ⟨by rw [mTx, if_pos rfl]; rfl, Below.refl _ _⟩
  · have hk1 : decide (k ≤ 0) = false := by simp; omega
    go_enter Try.func91, Try.ntmps91
    go_wp2
    go_loopw [0, 3] (fun i s wr => ∃ (j : Int) (t : ByteArray), 0 ≤ j ∧ i = .int .i64 j ∧ s = .string t ∧ Hid (TextOk j t) ∧ Below w.heap.size w wr ∧ Hid (dgI j t = dgI k ⟨#[]⟩)) (fun i _ _ => (intOf i).toNat)
    case atStart => exact ⟨k, _, h0, rfl, rfl, hid (TextOk.start h0 h1), Below.refl _ _, hid rfl⟩
    case round =>
      obtain ⟨j, t, hj, rfl, rfl, ht, hb, hdg⟩ := hrel
      have hsz := ht.out.size
      by_cases hlt : 0 < j
      · have hd : decide (0 < j) = true := by simpa using hlt
        have hcv : (convert 114 9 (.slice (some ⟨wr.heap.size, 0, none⟩) 1 1)).run Try.prog (wr.alloc (.cells #[.int .u8 (48 + j % 10)] 5)) = .ok (.string (strOfNums [48 + j % 10])) (wr.alloc (.cells #[.int .u8 (48 + j % 10)] 5)) :=
          run_convert_bytes_arg _ 114 5 Try.underlying114 Try.underlying5 wr.heap.size 0 1 1 [48 + j % 10] rfl (fun i hi => by
            obtain rfl : i = 0 := by omega
            exact cell_of_row _ _ 0 _ _ _ (heap_alloc_new wr _)) 9 Try.underlying9
        have hs3 : (strOfNums [48 + j % 10]).size = 1 := rfl
        have hs2 : (strOfNums [48 + j % 10] ++ t).size = t.size + 1 := by rw [ByteArray.size_append, hs3]; omega
        have hq : wrap64 (j.tdiv 10) = j / 10 := by
          have := ht.out.le
          rw [Int.tdiv_eq_ediv_of_nonneg hj, wrap64_inM (by omega) (by omega)]
        have Hn := hid (ht.out.next hlt hs2)
        have Hg := hid (show dgI (j / 10) (strOfNums [48 + j % 10] ++ t) = dgI k ⟨#[]⟩ by rw [← hdg.out]; conv => rhs; rw [dgI, if_pos hlt])
        go_wp2
        rw [hq]
        exact ⟨⟨j / 10, _, by omega, rfl, rfl, Hn, hb.alloc hb.size _, Hg⟩, by simp [intOf]; omega⟩
      · have hd : decide (0 < j) = false := by simpa using hlt
        have hg : dgI k ⟨#[]⟩ = t := by rw [← hdg.out, dgI, if_neg hlt]
        go_wp2
        go_ret
        exact ⟨by rw [mTx, if_neg hk, hg]; rfl, hb⟩

theorem Marked.sub {S S' : Nat → Prop} {w w' : World} (h : Marked S w w') (hs : ∀ b, S b → S' b) : Marked S' w w' := ⟨h.os, h.tape, h.output, h.size, fun b hb hn => h.old b hb fun hS => hn (hs b hS), h.cell, h.frz⟩
/-- The same of rows of which one is told. -/
theorem DrU.rowS {S : Nat → Prop} {w : World} {sz n cap b off i : Nat} {R : List (List D)} {q : List D} (h : DrU w S (.list sz (R.set i q)) (.slice (some ⟨b, off, none⟩) n cap)) (hi : i < R.length) {j : Nat} {x : D} (hx : q[j]? = some x) {o : Nat} (ho : off + (i * sz + j) = o) :
    ∃ u T, w.cell? ⟨b, o, none⟩ = some u ∧ w.frozen? ⟨b, o, none⟩ = false ∧ DrU w T x u ∧ (∀ c, T c → S c ∧ c ≠ b) ∧
      (∀ w' y, Marked T w w' → DrU w' T y u → DrU w' S (.list sz (R.set i (q.set j y))) (.slice (some ⟨b, off, none⟩) n cap)) ∧
      (∀ t, nsl t = true → nsl u = true → DrU (w.setCell ⟨b, o, none⟩ t) S (.list sz (R.set i (q.set j (.val t)))) (.slice (some ⟨b, off, none⟩) n cap)) := by
  have hq : (R.set i q)[i]? = some q := by rw [List.getElem?_set, if_pos rfl, if_pos hi]
  obtain ⟨u, T, h1, h2, h3, h4, h5, h6⟩ := h.row hq hx ho
  simp only [List.set_set] at h5 h6
  exact ⟨u, T, h1, h2, h3, h4, h5, h6⟩
theorem set_same {α : Type} {l : List α} {i : Nat} {x : α} (h : l[i]? = some x) : l.set i x = l := by
  apply List.ext_getElem?
  intro j
  rw [List.getElem?_set]
  by_cases e : i = j
  · subst e; rw [if_pos rfl, h, if_pos (List.getElem?_eq_some_iff.1 h).1]
  · rw [if_neg e]
theorem mkT_len {tx : Int → ByteArray} {k : Int} {rows : List (List D)} {j : Nat} (h : j ≤ rows.length) : (mkT tx k rows j).length = rows.length := by
  rw [mkT, List.length_append, List.length_take, List.length_drop, mkR_len]; omega
theorem markIntS_u {rows : List (List D)} (h : ∀ r ∈ rows, ∃ z, r = [.val (.int .i64 z)]) : MarkU Try.prog mTx 13 (.list 1 rows) (wgtR rows) := by
  intro S w v k hx hk0 hk1
  obtain ⟨ad, cap, rfl, _, hle, _⟩ := hx.slice
  obtain ⟨n, hn⟩ : ∃ n, n = rows.length := ⟨_, rfl⟩
  rw [← hn] at hx hle ⊢
  have Hn := hid hn; clear hn
  have Hx := hid hx; clear hx
  have Hk := hid hk1; clear hk1
  go_enter Try.func13, Try.ntmps13
  go_wp2
  go_loopw [1, 5] (fun q i wr => ∃ (j : Nat) (K : Int), j ≤ n ∧ i = .int .i64 j ∧ q = .int .i64 K ∧ Hid (K = k + wgtR (rows.take j)) ∧ Marked S w wr ∧ DrU wr S (.list 1 (mkT mTx k rows j)) (.slice ad n cap)) (fun _ i _ => n - (intOf i).toNat)
  case atStart => exact ⟨0, k, Nat.zero_le _, rfl, rfl, hid (by simp [wgtR]), Marked.refl _ _, by rw [mkT_zero]; exact Hx.out⟩
  case round =>
    obtain ⟨j, K, hj, rfl, rfl, HK, hm, hdu⟩ := hrel
    by_cases hlt : j < n
    · obtain ⟨r, hr⟩ : ∃ r, rows[j]? = some r := ⟨_, List.getElem?_eq_getElem (by rw [← Hn.out]; exact hlt)⟩
      have hs := wgtR_take hr
      obtain ⟨z, rfl⟩ := h r (List.mem_of_getElem? hr)
      obtain ⟨b, off, rfl, hS, _, _⟩ := hdu.at (mkT_at hr) (by simp)
      rw [← set_same (mkT_at (tx := mTx) (k := k) hr)] at hdu
      obtain ⟨u0, T0, c0, f0, d0, s0, _, l0⟩ := hdu.rowS (by rw [mkT_len (by have := Hn.out; omega)]; have := Hn.out; omega) (j := 0) rfl (o := off + j) (by omega)
      have e0 := d0.leaf.2
      have hd1 := l0 (.int .i64 K) rfl e0
      rw [mkT_next (tx := mTx) (k := k) (K := K) (r' := [D.val (.int .i64 z)].set 0 (.val (.int .i64 K))) hr HK.out rfl] at hd1
      have hd1 := hid hd1
      have Hs := hid hs; clear hs hr l0 hdu
      have hb1 := Hk.out; have hb2 := HK.out
      have hK0 : 0 ≤ K := by omega
      have hK1 : K + 1 ≤ 4611686018427387904 := by have := Hs.out; have := wgtR_le rows (j + 1); simp [wgtL, wgt] at *; omega
      clear hb1 hb2
      have m1 := hm.trans (Marked.set (t := .int .i64 K) hS c0 e0 rfl)
      go_wp2
      exact ⟨⟨j + 1, K + 1, by omega, rfl, rfl, hid (by rw [HK.out, Hs.out]; simp [wgtL, wgt]; omega), m1, hd1.out⟩, by simp [intOf]; omega⟩
    · have : j = n := by omega
      subst this
      go_wp2
      go_ret
      exact ⟨ret_int (by rw [HK.out, Hn.out, List.take_length]), hm, by rw [mkD, ← mkT_end Hn.out]; exact hdu⟩
set_option maxHeartbeats 3200000 in
theorem markAffineS_u {rows : List (List D)} (h : ∀ r ∈ rows, ∃ (x0 : D), ∃ (e1 : Int), r = [x0, .val (.int .i64 e1)] ∧ MarkU Try.prog mTx 13 x0 (wgt x0)) : MarkU Try.prog mTx 67 (.list 2 rows) (wgtR rows) := by
  intro S w v k hx hk0 hk1
  obtain ⟨ad, cap, rfl, _, hle, _⟩ := hx.slice
  obtain ⟨n, hn⟩ : ∃ n, n = rows.length := ⟨_, rfl⟩
  rw [← hn] at hx hle ⊢
  have Hn := hid hn; clear hn
  have Hx := hid hx; clear hx
  have Hk := hid hk1; clear hk1
  go_enter Try.func67, Try.ntmps67
  go_wp2
  go_loopw [1, 5] (fun q i wr => ∃ (j : Nat) (K : Int), j ≤ n ∧ i = .int .i64 j ∧ q = .int .i64 K ∧ Hid (K = k + wgtR (rows.take j)) ∧ Marked S w wr ∧ DrU wr S (.list 2 (mkT mTx k rows j)) (.slice ad n cap)) (fun _ i _ => n - (intOf i).toNat)
  case atStart => exact ⟨0, k, Nat.zero_le _, rfl, rfl, hid (by simp [wgtR]), Marked.refl _ _, by rw [mkT_zero]; exact Hx.out⟩
  case round =>
    obtain ⟨j, K, hj, rfl, rfl, HK, hm, hdu⟩ := hrel
    by_cases hlt : j < n
    · obtain ⟨r, hr⟩ : ∃ r, rows[j]? = some r := ⟨_, List.getElem?_eq_getElem (by rw [← Hn.out]; exact hlt)⟩
      have hs := wgtR_take hr
      obtain ⟨x0, e1, rfl, q0⟩ := h r (List.mem_of_getElem? hr)
      obtain ⟨g0, hg0, q0⟩ : ∃ g, wgt x0 = g ∧ MarkU Try.prog mTx 13 x0 g := ⟨_, rfl, q0⟩
      have hs : wgtR (rows.take (j + 1)) = wgtR (rows.take j) + (g0 + 1) := by rw [hs]; simp only [wgtL, wgt, hg0]; try omega
      have hK0 : 0 ≤ K := by have := HK.out; omega
      have hK1 : K + (g0 + 1 : Nat) ≤ 4611686018427387904 := by have := Hk.out; have := HK.out; have := wgtR_le rows (j + 1); omega
      obtain ⟨b, off, rfl, hS, _, _⟩ := hdu.at (mkT_at hr) (by simp)
      have hjl : j < (mkT mTx k rows j).length := by rw [mkT_len (by have := Hn.out; omega)]; have := Hn.out; omega
      rw [← set_same (mkT_at (tx := mTx) (k := k) hr)] at hdu
      have HD := hid hdu; clear hdu
      have hend := hid (mkT_next (tx := mTx) (k := k) (K := K) (r' := [mkD mTx (K) x0, .val (.int .i64 (K + (g0 : Nat)))]) hr HK.out (by simp [mkL, mkD, wgt, hg0]))
      have Hs := hid hs; clear hs hr hg0
      have Hq := hid hK1; have Hj := hid hjl; clear hK1 hjl
      obtain ⟨u1, T1, c1, f1, d1, s1, p1, l1⟩ := HD.out.rowS Hj.out (j := 0) rfl (o := off + j * 2) (by omega)
      have P1 := hid p1; have E1 := hid d1
      clear p1 l1 d1
      have hw := Hq.out
      go_wp2_with fail
      clear hw
      refine (q0 T1 _ _ _ E1.out (by omega) (by have := Hq.out; omega)).mono ?_
      rintro e w1 ⟨rfl, b1, y1⟩
      have M1 := hm.trans (b1.sub fun c hc => (s1 c hc).1); have F1 := hid (P1.out _ _ b1 y1)
      clear b1 y1 s1
      obtain ⟨u2, T2, c2, f2, d2, s2, p2, l2⟩ := F1.out.rowS Hj.out (j := 1) rfl (o := off + j * 2 + 1) (by omega)
      have d2 := d2.leaf.2
      have m2 := M1.trans (Marked.set (t := .int .i64 (K + (g0 : Nat))) hS c2 d2 rfl)
      have D2 := hid (l2 (.int .i64 (K + (g0 : Nat))) rfl d2); clear p2 l2 s2
      have hw := Hq.out
      go_wp2_with fail
      clear hw
      exact ⟨⟨j + 1, K + (g0 : Nat) + 1, by omega, rfl, rfl, hid (by have := HK.out; have := Hs.out; omega), m2, by rw [← hend.out]; exact D2.out⟩, by simp [intOf]; omega⟩
    · have : j = n := by omega
      subst this
      go_wp2
      go_ret
      exact ⟨ret_int (by rw [HK.out, Hn.out, List.take_length]), hm, by rw [mkD, ← mkT_end Hn.out]; exact hdu⟩
set_option maxHeartbeats 3200000 in
theorem markExprS_u {rows : List (List D)} (h : ∀ r ∈ rows, ∃ (e0 : Int), ∃ (e1 : Int), ∃ (x2 : D), ∃ (e3 : Int), ∃ (e4 : ByteArray), ∃ (x5 : D), ∃ (x6 : D), r = [.val (.int .i64 e0), .val (.int .i64 e1), x2, .val (.int .i64 e3), .val (.string e4), x5, x6] ∧ MarkU Try.prog mTx 13 x2 (wgt x2) ∧ MarkU Try.prog mTx 67 x5 (wgt x5) ∧ MarkU Try.prog mTx 69 x6 (wgt x6)) : MarkU Try.prog mTx 69 (.list 7 rows) (wgtR rows) := by
  intro S w v k hx hk0 hk1
  obtain ⟨ad, cap, rfl, _, hle, _⟩ := hx.slice
  obtain ⟨n, hn⟩ : ∃ n, n = rows.length := ⟨_, rfl⟩
  rw [← hn] at hx hle ⊢
  have Hn := hid hn; clear hn
  have Hx := hid hx; clear hx
  have Hk := hid hk1; clear hk1
  go_enter Try.func69, Try.ntmps69
  go_wp2
  go_loopw [1, 5] (fun q i wr => ∃ (j : Nat) (K : Int), j ≤ n ∧ i = .int .i64 j ∧ q = .int .i64 K ∧ Hid (K = k + wgtR (rows.take j)) ∧ Marked S w wr ∧ DrU wr S (.list 7 (mkT mTx k rows j)) (.slice ad n cap)) (fun _ i _ => n - (intOf i).toNat)
  case atStart => exact ⟨0, k, Nat.zero_le _, rfl, rfl, hid (by simp [wgtR]), Marked.refl _ _, by rw [mkT_zero]; exact Hx.out⟩
  case round =>
    obtain ⟨j, K, hj, rfl, rfl, HK, hm, hdu⟩ := hrel
    by_cases hlt : j < n
    · obtain ⟨r, hr⟩ : ∃ r, rows[j]? = some r := ⟨_, List.getElem?_eq_getElem (by rw [← Hn.out]; exact hlt)⟩
      have hs := wgtR_take hr
      obtain ⟨e0, e1, x2, e3, e4, x5, x6, rfl, q2, q5, q6⟩ := h r (List.mem_of_getElem? hr)
      obtain ⟨g2, hg2, q2⟩ : ∃ g, wgt x2 = g ∧ MarkU Try.prog mTx 13 x2 g := ⟨_, rfl, q2⟩
      obtain ⟨g5, hg5, q5⟩ : ∃ g, wgt x5 = g ∧ MarkU Try.prog mTx 67 x5 g := ⟨_, rfl, q5⟩
      obtain ⟨g6, hg6, q6⟩ : ∃ g, wgt x6 = g ∧ MarkU Try.prog mTx 69 x6 g := ⟨_, rfl, q6⟩
      have hs : wgtR (rows.take (j + 1)) = wgtR (rows.take j) + (1 + 1 + g2 + 1 + 1 + g5 + g6) := by rw [hs]; simp only [wgtL, wgt, hg2, hg5, hg6]; try omega
      have hK0 : 0 ≤ K := by have := HK.out; omega
      have hK1 : K + (1 + 1 + g2 + 1 + 1 + g5 + g6 : Nat) ≤ 4611686018427387904 := by have := Hk.out; have := HK.out; have := wgtR_le rows (j + 1); omega
      obtain ⟨b, off, rfl, hS, _, _⟩ := hdu.at (mkT_at hr) (by simp)
      have hjl : j < (mkT mTx k rows j).length := by rw [mkT_len (by have := Hn.out; omega)]; have := Hn.out; omega
      rw [← set_same (mkT_at (tx := mTx) (k := k) hr)] at hdu
      have HD := hid hdu; clear hdu
      have hend := hid (mkT_next (tx := mTx) (k := k) (K := K) (r' := [.val (.int .i64 (K)), .val (.int .i64 (K + 1)), mkD mTx (K + 1 + 1) x2, .val (.int .i64 (K + 1 + 1 + (g2 : Nat))), .val (.string (mTx (K + 1 + 1 + (g2 : Nat) + 1))), mkD mTx (K + 1 + 1 + (g2 : Nat) + 1 + 1) x5, mkD mTx (K + 1 + 1 + (g2 : Nat) + 1 + 1 + (g5 : Nat)) x6]) hr HK.out (by simp [mkL, mkD, wgt, hg2, hg5, hg6]))
      have Hs := hid hs; clear hs hr hg2 hg5 hg6
      have Hq := hid hK1; have Hj := hid hjl; clear hK1 hjl
      obtain ⟨u1, T1, c1, f1, d1, s1, p1, l1⟩ := HD.out.rowS Hj.out (j := 0) rfl (o := off + j * 7) (by omega)
      have d1 := d1.leaf.2
      have m1 := hm.trans (Marked.set (t := .int .i64 (K)) hS c1 d1 rfl)
      have D1 := hid (l1 (.int .i64 (K)) rfl d1); clear p1 l1 s1
      obtain ⟨u2, T2, c2, f2, d2, s2, p2, l2⟩ := D1.out.rowS Hj.out (j := 1) rfl (o := off + j * 7 + 1) (by omega)
      have d2 := d2.leaf.2
      have m2 := m1.trans (Marked.set (t := .int .i64 (K + 1)) hS c2 d2 rfl)
      have D2 := hid (l2 (.int .i64 (K + 1)) rfl d2); clear p2 l2 s2
      obtain ⟨u3, T3, c3, f3, d3, s3, p3, l3⟩ := D2.out.rowS Hj.out (j := 2) rfl (o := off + j * 7 + 2) (by omega)
      have P3 := hid p3; have E3 := hid d3
      clear p3 l3 d3
      have hw := Hq.out
      go_wp2_with fail
      clear hw
      refine (q2 T3 _ _ _ E3.out (by omega) (by have := Hq.out; omega)).mono ?_
      rintro e w1 ⟨rfl, b1, y1⟩
      have M1 := m2.trans (b1.sub fun c hc => (s3 c hc).1); have F1 := hid (P3.out _ _ b1 y1)
      clear b1 y1 s3
      obtain ⟨u4, T4, c4, f4, d4, s4, p4, l4⟩ := F1.out.rowS Hj.out (j := 3) rfl (o := off + j * 7 + 2 + 1) (by omega)
      have d4 := d4.leaf.2
      have m4 := M1.trans (Marked.set (t := .int .i64 (K + 1 + 1 + (g2 : Nat))) hS c4 d4 rfl)
      have D4 := hid (l4 (.int .i64 (K + 1 + 1 + (g2 : Nat))) rfl d4); clear p4 l4 s4
      have hw := Hq.out
      go_wp2_with fail
      clear hw
      refine (markText_u _ _ (by omega) (by have := Hq.out; omega)).mono ?_
      rintro e w2 ⟨rfl, b2⟩
      have M2 := m4.trans (marked_of b2 S); have F2 := hid (D4.out.fwd b2)
      obtain ⟨u5, T5, c5, f5, d5, s5, p5, l5⟩ := F2.out.rowS Hj.out (j := 4) rfl (o := off + j * 7 + 4) (by omega)
      have d5 := d5.leaf.2
      have m5 := M2.trans (Marked.set (t := .string (mTx (K + 1 + 1 + (g2 : Nat) + 1))) hS c5 d5 rfl)
      have D5 := hid (l5 (.string (mTx (K + 1 + 1 + (g2 : Nat) + 1))) rfl d5); clear p5 l5 s5
      obtain ⟨u6, T6, c6, f6, d6, s6, p6, l6⟩ := D5.out.rowS Hj.out (j := 5) rfl (o := off + j * 7 + 4 + 1) (by omega)
      have P6 := hid p6; have E6 := hid d6
      clear p6 l6 d6
      have hw := Hq.out
      go_wp2_with fail
      clear hw
      refine (q5 T6 _ _ _ E6.out (by omega) (by have := Hq.out; omega)).mono ?_
      rintro e w3 ⟨rfl, b3, y3⟩
      have M3 := m5.trans (b3.sub fun c hc => (s6 c hc).1); have F3 := hid (P6.out _ _ b3 y3)
      clear b3 y3 s6
      obtain ⟨u7, T7, c7, f7, d7, s7, p7, l7⟩ := F3.out.rowS Hj.out (j := 6) rfl (o := off + j * 7 + 6) (by omega)
      have P7 := hid p7; have E7 := hid d7
      clear p7 l7 d7
      have hw := Hq.out
      go_wp2_with fail
      clear hw
      refine (q6 T7 _ _ _ E7.out (by omega) (by have := Hq.out; omega)).mono ?_
      rintro e w4 ⟨rfl, b4, y4⟩
      have M4 := M3.trans (b4.sub fun c hc => (s7 c hc).1); have F4 := hid (P7.out _ _ b4 y4)
      clear b4 y4 s7
      have hw := Hq.out
      go_wp2_with fail
      clear hw
      exact ⟨⟨j + 1, K + 1 + 1 + (g2 : Nat) + 1 + 1 + (g5 : Nat) + (g6 : Nat), by omega, rfl, rfl, hid (by have := HK.out; have := Hs.out; omega), M4, by rw [← hend.out]; exact F4.out⟩, by simp [intOf]; omega⟩
    · have : j = n := by omega
      subst this
      go_wp2
      go_ret
      exact ⟨ret_int (by rw [HK.out, Hn.out, List.take_length]), hm, by rw [mkD, ← mkT_end Hn.out]; exact hdu⟩
theorem all1 {R : D → Value → Prop} {x0 : D} {u0 : Value} (h0 : R x0 u0) : ∀ (i : Nat) d u, [x0][i]? = some d → [u0][i]? = some u → R d u := fun i d u hd hu => by
  match i with
  | 0 => cases hd; cases hu; exact h0
theorem all2 {R : D → Value → Prop} {x0 x1 : D} {u0 u1 : Value} (h0 : R x0 u0) (h1 : R x1 u1) : ∀ (i : Nat) d u, [x0, x1][i]? = some d → [u0, u1][i]? = some u → R d u := fun i d u hd hu => by
  match i with
  | 0 => cases hd; cases hu; exact h0
  | 1 => cases hd; cases hu; exact h1
theorem all7 {R : D → Value → Prop} {x0 x1 x2 x3 x4 x5 x6 : D} {u0 u1 u2 u3 u4 u5 u6 : Value} (h0 : R x0 u0) (h1 : R x1 u1) (h2 : R x2 u2) (h3 : R x3 u3) (h4 : R x4 u4) (h5 : R x5 u5) (h6 : R x6 u6) : ∀ (i : Nat) d u, [x0, x1, x2, x3, x4, x5, x6][i]? = some d → [u0, u1, u2, u3, u4, u5, u6][i]? = some u → R d u := fun i d u hd hu => by
  match i with
  | 0 => cases hd; cases hu; exact h0
  | 1 => cases hd; cases hu; exact h1
  | 2 => cases hd; cases hu; exact h2
  | 3 => cases hd; cases hu; exact h3
  | 4 => cases hd; cases hu; exact h4
  | 5 => cases hd; cases hu; exact h5
  | 6 => cases hd; cases hu; exact h6
theorem all9 {R : D → Value → Prop} {x0 x1 x2 x3 x4 x5 x6 x7 x8 : D} {u0 u1 u2 u3 u4 u5 u6 u7 u8 : Value} (h0 : R x0 u0) (h1 : R x1 u1) (h2 : R x2 u2) (h3 : R x3 u3) (h4 : R x4 u4) (h5 : R x5 u5) (h6 : R x6 u6) (h7 : R x7 u7) (h8 : R x8 u8) : ∀ (i : Nat) d u, [x0, x1, x2, x3, x4, x5, x6, x7, x8][i]? = some d → [u0, u1, u2, u3, u4, u5, u6, u7, u8][i]? = some u → R d u := fun i d u hd hu => by
  match i with
  | 0 => cases hd; cases hu; exact h0
  | 1 => cases hd; cases hu; exact h1
  | 2 => cases hd; cases hu; exact h2
  | 3 => cases hd; cases hu; exact h3
  | 4 => cases hd; cases hu; exact h4
  | 5 => cases hd; cases hu; exact h5
  | 6 => cases hd; cases hu; exact h6
  | 7 => cases hd; cases hu; exact h7
  | 8 => cases hd; cases hu; exact h8
theorem Try.infoCint : (Try.prog.info? 3).map (fun i => (i.zero, i.size, i.bytes)) = some (some (.int .i64 0), 1, 8) := by kernel_rfl
theorem Try.infoCAffine : (Try.prog.info? 37).map (fun i => (i.zero, i.size, i.bytes)) = some (some (.agg #[.slice none 0 0, .int .i64 0]), 2, 32) := by kernel_rfl
theorem Try.infoCExpr : (Try.prog.info? 40).map (fun i => (i.zero, i.size, i.bytes)) = some (some (.agg #[.int .i64 0, .int .i64 0, .slice none 0 0, .int .i64 0, .string ⟨#[]⟩, .slice none 0 0, .slice none 0 0]), 7, 112) := by kernel_rfl
set_option maxHeartbeats 3200000 in
theorem toIntS_c {rows : List (List D)} (h : ∀ r ∈ rows, ∃ z, r = [.val (.int .i64 z)]) (hl : rows.length ≤ 1048576) : CopyC Try.prog 8 (.list 1 rows) := by
  intro B w v hx
  obtain ⟨ad, cap, rfl, _⟩ := hx.slice
  obtain ⟨n, hn⟩ : ∃ n, n = rows.length := ⟨_, rfl⟩
  rw [← hn] at hl hx ⊢
  have Hn := hid hn; clear hn
  have Hx := hid hx; clear hx
  have hmk := info_make Try.underlying25 Try.infoCint n (by omega) hl
  go_enter Try.func8, Try.ntmps8
  go_wp2
  go_loopw [4] (fun i wr => ∃ k : Nat, k ≤ n ∧ i = .int .i64 k ∧ Grid wr w.heap.size 3 1 n k rows ∧ Below w.heap.size w wr) (fun i _ => n - (intOf i).toNat)
  case atStart => exact ⟨0, Nat.zero_le _, rfl, by have := Grid.new w 3 1 n #[.int .i64 0] rows; rw [Nat.mul_one] at this; exact this, (Below.refl _ _).alloc (Nat.le_refl _) _⟩
  case round =>
    obtain ⟨k, hk, rfl, ho, hb⟩ := hrel
    clear hmk
    by_cases hlt : k < n
    · obtain ⟨r, hr⟩ : ∃ r, rows[k]? = some r := ⟨_, List.getElem?_eq_getElem (by rw [← Hn.out]; exact hlt)⟩
      obtain ⟨z, rfl⟩ := h r (List.mem_of_getElem? hr)
      have hX := Hx.out.frame (below_sameAll hb _)
      obtain ⟨ba, oa, rfl⟩ := hX.ba hr
      obtain ⟨u0, c0, d0⟩ := hX.row hr 0 rfl (o := oa + k) (by omega)
      have Hr := hid hr; clear hr hX
      obtain rfl : u0 = .int .i64 z := by cases d0; rfl
      have f0 := ho.frozen k
      obtain ⟨z0, e0⟩ := ho.cell (o := k) (by omega)
      clear d0
      go_wp2_with fail
      exact ⟨⟨k + 1, by omega, rfl, by have := ho.store (vs := [.int .i64 z]) Hr.out hlt rfl (fun r hr => by obtain ⟨_, rfl⟩ := h r hr; rfl) ⟨rfl, all1 (DrN.val (.int .i64 z) rfl)⟩; rw [Nat.mul_one] at this; exact this, setRow_below [.int .i64 z] _ _ hb (Nat.le_refl _)⟩, by simp [intOf]; omega⟩
    · have : k = n := by omega
      subst this
      go_wp2
      go_ret
      exact ⟨_, rfl, hb, by have := ho; rw [Hn.out] at this ⊢; exact this.done rfl (by have := Hn.out; omega) (fun r hr => by obtain ⟨_, rfl⟩ := h r hr; rfl)⟩
set_option maxHeartbeats 3200000 in
theorem toAffineS_c {rows : List (List D)} (h : ∀ r ∈ rows, ∃ x0 x1, r = [x0, x1] ∧ CopyS Try.prog 56 [x0, x1]) (hl : rows.length ≤ 1048576) : CopyC Try.prog 55 (.list 2 rows) := by
  intro B w v hx
  obtain ⟨ad, cap, rfl, _⟩ := hx.slice
  obtain ⟨n, hn⟩ : ∃ n, n = rows.length := ⟨_, rfl⟩
  rw [← hn] at hl hx ⊢
  have Hn := hid hn; clear hn
  have Hx := hid hx; clear hx
  have hmk := info_make Try.underlying34 Try.infoCAffine n (by omega) hl
  go_enter Try.func55, Try.ntmps55
  go_wp2
  go_loopw [4] (fun i wr => ∃ k : Nat, k ≤ n ∧ i = .int .i64 k ∧ Grid wr w.heap.size 37 2 n k rows ∧ Below w.heap.size w wr) (fun i _ => n - (intOf i).toNat)
  case atStart => exact ⟨0, Nat.zero_le _, rfl, Grid.new w 37 2 n _ rows, (Below.refl _ _).alloc (Nat.le_refl _) _⟩
  case round =>
    obtain ⟨k, hk, rfl, ho, hb⟩ := hrel
    clear hmk
    by_cases hlt : k < n
    · obtain ⟨r, hr⟩ : ∃ r, rows[k]? = some r := ⟨_, List.getElem?_eq_getElem (by rw [← Hn.out]; exact hlt)⟩
      obtain ⟨x0, x1, rfl, q⟩ := h r (List.mem_of_getElem? hr)
      have hX := Hx.out.frame (below_sameAll hb _)
      obtain ⟨ba, oa, rfl⟩ := hX.ba hr
      obtain ⟨u0, c0, d0⟩ := hX.row hr 0 rfl (o := oa + k * 2) (by omega)
      obtain ⟨u1, c1, d1⟩ := hX.row hr 1 rfl (o := oa + k * 2 + 1) (by omega)
      have Hr := hid hr; clear hr hX
      go_wp2_with fail
      refine (q B _ [u0, u1] rfl (all2 d0 d1)).mono ?_
      rintro e w1 ⟨vs, rfl, b1, hv⟩
      have Hv := hid hv
      have hv0 := hv.1
      obtain ⟨y0, l0, rfl, hv1⟩ := len_cons hv0
      obtain ⟨y1, l1, rfl, hv2⟩ := len_cons hv1
      obtain rfl := len_zero hv2
      have o1 := ho.fwd b1
      have f0 := o1.frozen (k * 2)
      obtain ⟨z0, e0⟩ := o1.cell (o := k * 2) (by omega)
      have f1 := o1.frozen (k * 2 + 1)
      obtain ⟨z1, e1⟩ := o1.cell (o := k * 2 + 1) (by omega)
      have p0 := fun a m w => run_store Try.prog w a y0 m (hv.2 0 _ _ rfl rfl).one
      have p1 := fun a m w => run_store Try.prog w a y1 m (hv.2 1 _ _ rfl rfl).one
      clear hv hv0 hv1 hv2
      go_wp2_with fail
      exact ⟨⟨k + 1, by omega, rfl, o1.store (vs := [y0, y1]) Hr.out hlt rfl (fun r hr => by obtain ⟨_, _, rfl, _⟩ := h r hr; rfl) (Hv.out.mono ho.lt), setRow_below [y0, y1] _ _ (hb.trans (b1.mono hb.size)) (Nat.le_refl _)⟩, by simp [intOf]; omega⟩
    · have : k = n := by omega
      subst this
      go_wp2
      go_ret
      exact ⟨_, rfl, hb, by have := ho; rw [Hn.out] at this ⊢; exact this.done rfl (by have := Hn.out; omega) (fun r hr => by obtain ⟨_, _, rfl, _⟩ := h r hr; rfl)⟩
set_option maxHeartbeats 3200000 in
theorem toExprS_c {rows : List (List D)} (h : ∀ r ∈ rows, ∃ x0 x1 x2 x3 x4 x5 x6, r = [x0, x1, x2, x3, x4, x5, x6] ∧ CopyS Try.prog 26 [x0, x1, x2, x3, x4, x5, x6]) (hl : rows.length ≤ 1048576) : CopyC Try.prog 57 (.list 7 rows) := by
  intro B w v hx
  obtain ⟨ad, cap, rfl, _⟩ := hx.slice
  obtain ⟨n, hn⟩ : ∃ n, n = rows.length := ⟨_, rfl⟩
  rw [← hn] at hl hx ⊢
  have Hn := hid hn; clear hn
  have Hx := hid hx; clear hx
  have hmk := info_make Try.underlying38 Try.infoCExpr n (by omega) hl
  go_enter Try.func57, Try.ntmps57
  go_wp2
  go_loopw [4] (fun i wr => ∃ k : Nat, k ≤ n ∧ i = .int .i64 k ∧ Grid wr w.heap.size 40 7 n k rows ∧ Below w.heap.size w wr) (fun i _ => n - (intOf i).toNat)
  case atStart => exact ⟨0, Nat.zero_le _, rfl, Grid.new w 40 7 n _ rows, (Below.refl _ _).alloc (Nat.le_refl _) _⟩
  case round =>
    obtain ⟨k, hk, rfl, ho, hb⟩ := hrel
    clear hmk
    by_cases hlt : k < n
    · obtain ⟨r, hr⟩ : ∃ r, rows[k]? = some r := ⟨_, List.getElem?_eq_getElem (by rw [← Hn.out]; exact hlt)⟩
      obtain ⟨x0, x1, x2, x3, x4, x5, x6, rfl, q⟩ := h r (List.mem_of_getElem? hr)
      have hX := Hx.out.frame (below_sameAll hb _)
      obtain ⟨ba, oa, rfl⟩ := hX.ba hr
      obtain ⟨u0, c0, d0⟩ := hX.row hr 0 rfl (o := oa + k * 7) (by omega)
      obtain ⟨u1, c1, d1⟩ := hX.row hr 1 rfl (o := oa + k * 7 + 1) (by omega)
      obtain ⟨u2, c2, d2⟩ := hX.row hr 2 rfl (o := oa + k * 7 + 2) (by omega)
      obtain ⟨u3, c3, d3⟩ := hX.row hr 3 rfl (o := oa + k * 7 + 3) (by omega)
      obtain ⟨u4, c4, d4⟩ := hX.row hr 4 rfl (o := oa + k * 7 + 4) (by omega)
      obtain ⟨u5, c5, d5⟩ := hX.row hr 5 rfl (o := oa + k * 7 + 5) (by omega)
      obtain ⟨u6, c6, d6⟩ := hX.row hr 6 rfl (o := oa + k * 7 + 6) (by omega)
      have Hr := hid hr; clear hr hX
      go_wp2_with fail
      refine (q B _ [u0, u1, u2, u3, u4, u5, u6] rfl (all7 d0 d1 d2 d3 d4 d5 d6)).mono ?_
      rintro e w1 ⟨vs, rfl, b1, hv⟩
      have Hv := hid hv
      have hv0 := hv.1
      obtain ⟨y0, l0, rfl, hv1⟩ := len_cons hv0
      obtain ⟨y1, l1, rfl, hv2⟩ := len_cons hv1
      obtain ⟨y2, l2, rfl, hv3⟩ := len_cons hv2
      obtain ⟨y3, l3, rfl, hv4⟩ := len_cons hv3
      obtain ⟨y4, l4, rfl, hv5⟩ := len_cons hv4
      obtain ⟨y5, l5, rfl, hv6⟩ := len_cons hv5
      obtain ⟨y6, l6, rfl, hv7⟩ := len_cons hv6
      obtain rfl := len_zero hv7
      have o1 := ho.fwd b1
      have f0 := o1.frozen (k * 7)
      obtain ⟨z0, e0⟩ := o1.cell (o := k * 7) (by omega)
      have f1 := o1.frozen (k * 7 + 1)
      obtain ⟨z1, e1⟩ := o1.cell (o := k * 7 + 1) (by omega)
      have f2 := o1.frozen (k * 7 + 2)
      obtain ⟨z2, e2⟩ := o1.cell (o := k * 7 + 2) (by omega)
      have f3 := o1.frozen (k * 7 + 3)
      obtain ⟨z3, e3⟩ := o1.cell (o := k * 7 + 3) (by omega)
      have f4 := o1.frozen (k * 7 + 4)
      obtain ⟨z4, e4⟩ := o1.cell (o := k * 7 + 4) (by omega)
      have f5 := o1.frozen (k * 7 + 5)
      obtain ⟨z5, e5⟩ := o1.cell (o := k * 7 + 5) (by omega)
      have f6 := o1.frozen (k * 7 + 6)
      obtain ⟨z6, e6⟩ := o1.cell (o := k * 7 + 6) (by omega)
      have p0 := fun a m w => run_store Try.prog w a y0 m (hv.2 0 _ _ rfl rfl).one
      have p1 := fun a m w => run_store Try.prog w a y1 m (hv.2 1 _ _ rfl rfl).one
      have p2 := fun a m w => run_store Try.prog w a y2 m (hv.2 2 _ _ rfl rfl).one
      have p3 := fun a m w => run_store Try.prog w a y3 m (hv.2 3 _ _ rfl rfl).one
      have p4 := fun a m w => run_store Try.prog w a y4 m (hv.2 4 _ _ rfl rfl).one
      have p5 := fun a m w => run_store Try.prog w a y5 m (hv.2 5 _ _ rfl rfl).one
      have p6 := fun a m w => run_store Try.prog w a y6 m (hv.2 6 _ _ rfl rfl).one
      clear hv hv0 hv1 hv2 hv3 hv4 hv5 hv6 hv7
      go_wp2_with fail
      exact ⟨⟨k + 1, by omega, rfl, o1.store (vs := [y0, y1, y2, y3, y4, y5, y6]) Hr.out hlt rfl (fun r hr => by obtain ⟨_, _, _, _, _, _, _, rfl, _⟩ := h r hr; rfl) (Hv.out.mono ho.lt), setRow_below [y0, y1, y2, y3, y4, y5, y6] _ _ (hb.trans (b1.mono hb.size)) (Nat.le_refl _)⟩, by simp [intOf]; omega⟩
    · have : k = n := by omega
      subst this
      go_wp2
      go_ret
      exact ⟨_, rfl, hb, by have := ho; rw [Hn.out] at this ⊢; exact this.done rfl (by have := Hn.out; omega) (fun r hr => by obtain ⟨_, _, _, _, _, _, _, rfl, _⟩ := h r hr; rfl)⟩
set_option maxHeartbeats 3200000 in
theorem toAffine_c {sz0 : Nat} {x0 : List (List D)} (q0 : CopyC Try.prog 8 (.list sz0 x0)) {c1 : Int} : CopyS Try.prog 56 [.list sz0 x0, .val (.int .i64 c1)] := by
  intro B w vs hl hx
  obtain ⟨u0, l0, rfl, hl0⟩ := len_cons hl
  obtain ⟨u1, l1, rfl, hl1⟩ := len_cons hl0
  obtain rfl := len_zero hl1
  have D0 := hid (hx 0 _ _ rfl rfl)
  have d1 := hx 1 _ _ rfl rfl
  obtain rfl : u1 = .int .i64 c1 := by cases d1; rfl
  clear d1
  clear hx hl hl0 hl1
  have R := R3.start w [u0, .int .i64 c1] [.slice none 0 0, .int .i64 0] [.slice none 0 0, .int .i64 0] 27 37
  have W := (((Below.refl w.heap.size w).alloc (Nat.le_refl _) (.cells [u0, .int .i64 c1].toArray 27)).alloc (by simp) (.cells [.slice none 0 0, .int .i64 0].toArray 37)).alloc (by simp; omega) (.cells [.slice none 0 0, .int .i64 0].toArray 37)
  have HR := hid R; have HW := hid W; clear R W
  go_enter Try.func56, Try.ntmps56
  go_wp2_with fail
  refine (q0 B _ _ (D0.out.frame (below_sameAll HW.out _))).mono ?_
  rintro e w1 ⟨y0, rfl, b1, n0⟩
  obtain ⟨ad0, cap0, rfl, _⟩ := n0.dr.slice
  obtain ⟨ln0, hln0⟩ : ∃ n, n = x0.length := ⟨_, rfl⟩
  rw [← hln0] at n0 ⊢; clear hln0
  have lo1 : w.heap.size + 1 + 1 + 1 ≤ _ := blk_lt HR.out.c
  have n0 := n0.mono lo1
  have N0 := hid n0; clear n0
  have RR1 := (HR.out).fwd b1
  have WW1 := (HW.out).trans (b1.mono (HW.out).size)
  have HRR1 := hid RR1; have HWW1 := hid WW1; clear RR1 WW1 lo1
  have a1_1 := HRR1.out.c1 1 rfl
  have b1_0 := HRR1.out.c3 0 rfl
  have g1_0 := HRR1.out.f3 0
  have e1_0 := HRR1.out.c2 0 rfl
  have h1_0 := HRR1.out.f2 0
  have b1_1 := HRR1.out.c3 1 rfl
  have g1_1 := HRR1.out.f3 1
  have e1_1 := HRR1.out.c2 1 rfl
  have h1_1 := HRR1.out.f2 1
  go_wp2_with fail
  have R1 : R3 _ w.heap.size [u0, .int .i64 c1] [.slice none 0 0, .int .i64 0] [.slice ad0 ln0 cap0, .int .i64 0] 27 37 := (HRR1.out).set 0 (.slice ad0 ln0 cap0)
  have W1 := (HWW1.out).setCell (p := ⟨w.heap.size + 1 + 1, 0, none⟩) (by show w.heap.size ≤ w.heap.size + 1 + 1; omega) (.slice ad0 ln0 cap0)
  have HR1 := hid R1; have HW1 := hid W1; clear R1 W1
  have P1_0 := (Past.refl (w.heap.size + 1 + 1 + 1) w1).set (b := w.heap.size + 1 + 1) (by omega) 0 (.slice ad0 ln0 cap0)
  have R2 : R3 _ w.heap.size [u0, .int .i64 c1] [.slice none 0 0, .int .i64 0] [.slice ad0 ln0 cap0, .int .i64 c1] 27 37 := (HR1.out).set 1 (.int .i64 c1)
  have W2 := (HW1.out).setCell (p := ⟨w.heap.size + 1 + 1, 1, none⟩) (by show w.heap.size ≤ w.heap.size + 1 + 1; omega) (.int .i64 c1)
  have HR2 := hid R2; have HW2 := hid W2; clear R2 W2
  have P2_0 := P1_0.set (b := w.heap.size + 1 + 1) (by omega) 1 (.int .i64 c1)
  have RB0 : R3 _ w.heap.size [u0, .int .i64 c1] [.slice ad0 ln0 cap0, .int .i64 0] [.slice ad0 ln0 cap0, .int .i64 c1] 27 37 := (HR2.out).setb 0 (.slice ad0 ln0 cap0)
  have RB1 : R3 _ w.heap.size [u0, .int .i64 c1] [.slice ad0 ln0 cap0, .int .i64 c1] [.slice ad0 ln0 cap0, .int .i64 c1] 27 37 := RB0.setb 1 (.int .i64 c1)
  have pp0 := RB1.c2 0 rfl
  have pp1 := RB1.c2 1 rfl
  refine bodyPost_ret (v := .agg #[.slice ad0 ln0 cap0, .int .i64 c1]) (by simp [results, Try.results56, go_sem, pp0, pp1]) rfl ?_
  have Z := setRow_below (g := w.heap.size + 1) [.slice ad0 ln0 cap0, .int .i64 c1] 0 _ (HW2.out) (by omega)
  have Y0 := ((P2_0.set (b := w.heap.size + 1) (by omega) 0 (.slice ad0 ln0 cap0)).set (b := w.heap.size + 1) (by omega) 1 (.int .i64 c1))
  exact ⟨[.slice ad0 ln0 cap0, .int .i64 c1], rfl, Z, rfl, all2 ((N0.out.past (Nat.le_refl _) Y0).mono (by omega)) (DrN.val (.int .i64 c1) rfl)⟩
set_option maxHeartbeats 3200000 in
theorem toAccess_c {c0 : ByteArray} {sz1 : Nat} {x1 : List (List D)} (q1 : CopyC Try.prog 55 (.list sz1 x1)) : CopyS Try.prog 25 [.val (.string c0), .list sz1 x1] := by
  intro B w vs hl hx
  obtain ⟨u0, l0, rfl, hl0⟩ := len_cons hl
  obtain ⟨u1, l1, rfl, hl1⟩ := len_cons hl0
  obtain rfl := len_zero hl1
  have d0 := hx 0 _ _ rfl rfl
  obtain rfl : u0 = .string c0 := by cases d0; rfl
  clear d0
  have D1 := hid (hx 1 _ _ rfl rfl)
  clear hx hl hl0 hl1
  have R := R3.start w [.string c0, u1] [.string ⟨#[]⟩, .slice none 0 0] [.string c0, .slice none 0 0] 24 36
  have W := (((Below.refl w.heap.size w).alloc (Nat.le_refl _) (.cells [.string c0, u1].toArray 24)).alloc (by simp) (.cells [.string ⟨#[]⟩, .slice none 0 0].toArray 36)).alloc (by simp; omega) (.cells [.string c0, .slice none 0 0].toArray 36)
  have HR := hid R; have HW := hid W; clear R W
  go_enter Try.func25, Try.ntmps25
  go_wp2_with fail
  refine (q1 B _ _ (D1.out.frame (below_sameAll HW.out _))).mono ?_
  rintro e w1 ⟨y1, rfl, b1, n1⟩
  obtain ⟨ad1, cap1, rfl, _⟩ := n1.dr.slice
  obtain ⟨ln1, hln1⟩ : ∃ n, n = x1.length := ⟨_, rfl⟩
  rw [← hln1] at n1 ⊢; clear hln1
  have lo1 : w.heap.size + 1 + 1 + 1 ≤ _ := blk_lt HR.out.c
  have n1 := n1.mono lo1
  have N1 := hid n1; clear n1
  have RR1 := (HR.out).fwd b1
  have WW1 := (HW.out).trans (b1.mono (HW.out).size)
  have HRR1 := hid RR1; have HWW1 := hid WW1; clear RR1 WW1 lo1
  have b1_0 := HRR1.out.c3 0 rfl
  have g1_0 := HRR1.out.f3 0
  have e1_0 := HRR1.out.c2 0 rfl
  have h1_0 := HRR1.out.f2 0
  have b1_1 := HRR1.out.c3 1 rfl
  have g1_1 := HRR1.out.f3 1
  have e1_1 := HRR1.out.c2 1 rfl
  have h1_1 := HRR1.out.f2 1
  go_wp2_with fail
  have R1 : R3 _ w.heap.size [.string c0, u1] [.string ⟨#[]⟩, .slice none 0 0] [.string c0, .slice ad1 ln1 cap1] 24 36 := (HRR1.out).set 1 (.slice ad1 ln1 cap1)
  have W1 := (HWW1.out).setCell (p := ⟨w.heap.size + 1 + 1, 1, none⟩) (by show w.heap.size ≤ w.heap.size + 1 + 1; omega) (.slice ad1 ln1 cap1)
  have HR1 := hid R1; have HW1 := hid W1; clear R1 W1
  have P1_0 := (Past.refl (w.heap.size + 1 + 1 + 1) w1).set (b := w.heap.size + 1 + 1) (by omega) 1 (.slice ad1 ln1 cap1)
  have RB0 : R3 _ w.heap.size [.string c0, u1] [.string c0, .slice none 0 0] [.string c0, .slice ad1 ln1 cap1] 24 36 := (HR1.out).setb 0 (.string c0)
  have RB1 : R3 _ w.heap.size [.string c0, u1] [.string c0, .slice ad1 ln1 cap1] [.string c0, .slice ad1 ln1 cap1] 24 36 := RB0.setb 1 (.slice ad1 ln1 cap1)
  have pp0 := RB1.c2 0 rfl
  have pp1 := RB1.c2 1 rfl
  refine bodyPost_ret (v := .agg #[.string c0, .slice ad1 ln1 cap1]) (by simp [results, Try.results25, go_sem, pp0, pp1]) rfl ?_
  have Z := setRow_below (g := w.heap.size + 1) [.string c0, .slice ad1 ln1 cap1] 0 _ (HW1.out) (by omega)
  have Y0 := ((P1_0.set (b := w.heap.size + 1) (by omega) 0 (.string c0)).set (b := w.heap.size + 1) (by omega) 1 (.slice ad1 ln1 cap1))
  exact ⟨[.string c0, .slice ad1 ln1 cap1], rfl, Z, rfl, all2 (DrN.val (.string c0) rfl) ((N1.out.past (Nat.le_refl _) Y0).mono (by omega))⟩
set_option maxHeartbeats 3200000 in
theorem toExpr_c {c0 : Int} {c1 : Int} {x2 x3 : D} (q2 : CopyS Try.prog 56 [x2, x3]) {x4 x5 : D} (q4 : CopyS Try.prog 25 [x4, x5]) {sz6 : Nat} {x6 : List (List D)} (q6 : CopyC Try.prog 57 (.list sz6 x6)) : CopyS Try.prog 26 [.val (.int .i64 c0), .val (.int .i64 c1), x2, x3, x4, x5, .list sz6 x6] := by
  intro B w vs hl hx
  obtain ⟨u0, l0, rfl, hl0⟩ := len_cons hl
  obtain ⟨u1, l1, rfl, hl1⟩ := len_cons hl0
  obtain ⟨u2, l2, rfl, hl2⟩ := len_cons hl1
  obtain ⟨u3, l3, rfl, hl3⟩ := len_cons hl2
  obtain ⟨u4, l4, rfl, hl4⟩ := len_cons hl3
  obtain ⟨u5, l5, rfl, hl5⟩ := len_cons hl4
  obtain ⟨u6, l6, rfl, hl6⟩ := len_cons hl5
  obtain rfl := len_zero hl6
  have d0 := hx 0 _ _ rfl rfl
  obtain rfl : u0 = .int .i64 c0 := by cases d0; rfl
  clear d0
  have d1 := hx 1 _ _ rfl rfl
  obtain rfl : u1 = .int .i64 c1 := by cases d1; rfl
  clear d1
  have D2 := hid (hx 2 _ _ rfl rfl)
  have D3 := hid (hx 3 _ _ rfl rfl)
  have D4 := hid (hx 4 _ _ rfl rfl)
  have D5 := hid (hx 5 _ _ rfl rfl)
  have D6 := hid (hx 6 _ _ rfl rfl)
  clear hx hl hl0 hl1 hl2 hl3 hl4 hl5 hl6
  have R := R3.start w [.int .i64 c0, .int .i64 c1, u2, u3, u4, u5, u6] [.int .i64 0, .int .i64 0, .slice none 0 0, .int .i64 0, .string ⟨#[]⟩, .slice none 0 0, .slice none 0 0] [.int .i64 c0, .int .i64 c1, .slice none 0 0, .int .i64 0, .string ⟨#[]⟩, .slice none 0 0, .slice none 0 0] 30 40
  have W := (((Below.refl w.heap.size w).alloc (Nat.le_refl _) (.cells [.int .i64 c0, .int .i64 c1, u2, u3, u4, u5, u6].toArray 30)).alloc (by simp) (.cells [.int .i64 0, .int .i64 0, .slice none 0 0, .int .i64 0, .string ⟨#[]⟩, .slice none 0 0, .slice none 0 0].toArray 40)).alloc (by simp; omega) (.cells [.int .i64 c0, .int .i64 c1, .slice none 0 0, .int .i64 0, .string ⟨#[]⟩, .slice none 0 0, .slice none 0 0].toArray 40)
  have HR := hid R; have HW := hid W; clear R W
  go_enter Try.func26, Try.ntmps26
  go_wp2_with fail
  refine (q2 B _ [u2, u3] rfl (all2 (D2.out.frame (below_sameAll HW.out _)) (D3.out.frame (below_sameAll HW.out _)))).mono ?_
  rintro e w1 ⟨vs, rfl, b1, hv⟩
  have hv0 := hv.1
  obtain ⟨y2, l0, rfl, hv1⟩ := len_cons hv0
  obtain ⟨y3, l1, rfl, hv2⟩ := len_cons hv1
  obtain rfl := len_zero hv2
  have n2 := hv.2 0 _ _ rfl rfl
  have s2 := fun a m w => run_store Try.prog w a y2 m n2.one
  have n3 := hv.2 1 _ _ rfl rfl
  have s3 := fun a m w => run_store Try.prog w a y3 m n3.one
  clear hv hv0 hv1 hv2
  have lo1 : w.heap.size + 1 + 1 + 1 ≤ _ := blk_lt HR.out.c
  have n2 := n2.mono lo1
  have n3 := n3.mono lo1
  have N2 := hid n2; clear n2; have N3 := hid n3; clear n3
  have RR1 := (HR.out).fwd b1
  have WW1 := (HW.out).trans (b1.mono (HW.out).size)
  have HRR1 := hid RR1; have HWW1 := hid WW1; clear RR1 WW1 lo1
  have a1_4 := HRR1.out.c1 4 rfl
  have a1_5 := HRR1.out.c1 5 rfl
  have b1_0 := HRR1.out.c3 0 rfl
  have g1_0 := HRR1.out.f3 0
  have b1_1 := HRR1.out.c3 1 rfl
  have g1_1 := HRR1.out.f3 1
  have b1_2 := HRR1.out.c3 2 rfl
  have g1_2 := HRR1.out.f3 2
  have b1_3 := HRR1.out.c3 3 rfl
  have g1_3 := HRR1.out.f3 3
  have b1_4 := HRR1.out.c3 4 rfl
  have g1_4 := HRR1.out.f3 4
  have b1_5 := HRR1.out.c3 5 rfl
  have g1_5 := HRR1.out.f3 5
  have b1_6 := HRR1.out.c3 6 rfl
  have g1_6 := HRR1.out.f3 6
  go_wp2_with fail
  clear a1_4 a1_5 b1_0 b1_1 b1_2 b1_3 b1_4 b1_5 b1_6 g1_0 g1_1 g1_2 g1_3 g1_4 g1_5 g1_6
  have R1 : R3 _ w.heap.size [.int .i64 c0, .int .i64 c1, u2, u3, u4, u5, u6] [.int .i64 0, .int .i64 0, .slice none 0 0, .int .i64 0, .string ⟨#[]⟩, .slice none 0 0, .slice none 0 0] [.int .i64 c0, .int .i64 c1, y2, .int .i64 0, .string ⟨#[]⟩, .slice none 0 0, .slice none 0 0] 30 40 := (HRR1.out).set 2 (y2)
  have W1 := (HWW1.out).setCell (p := ⟨w.heap.size + 1 + 1, 2, none⟩) (by show w.heap.size ≤ w.heap.size + 1 + 1; omega) (y2)
  have HR1 := hid R1; have HW1 := hid W1; clear R1 W1
  have P1_0 := (Past.refl (w.heap.size + 1 + 1 + 1) w1).set (b := w.heap.size + 1 + 1) (by omega) 2 (y2)
  have R2 : R3 _ w.heap.size [.int .i64 c0, .int .i64 c1, u2, u3, u4, u5, u6] [.int .i64 0, .int .i64 0, .slice none 0 0, .int .i64 0, .string ⟨#[]⟩, .slice none 0 0, .slice none 0 0] [.int .i64 c0, .int .i64 c1, y2, y3, .string ⟨#[]⟩, .slice none 0 0, .slice none 0 0] 30 40 := (HR1.out).set 3 (y3)
  have W2 := (HW1.out).setCell (p := ⟨w.heap.size + 1 + 1, 3, none⟩) (by show w.heap.size ≤ w.heap.size + 1 + 1; omega) (y3)
  have HR2 := hid R2; have HW2 := hid W2; clear R2 W2
  have P2_0 := P1_0.set (b := w.heap.size + 1 + 1) (by omega) 3 (y3)
  refine (q4 B _ [u4, u5] rfl (all2 (D4.out.frame (below_sameAll HW2.out _)) (D5.out.frame (below_sameAll HW2.out _)))).mono ?_
  rintro e w2 ⟨vs, rfl, b2, hv⟩
  have hv0 := hv.1
  obtain ⟨y4, l0, rfl, hv1⟩ := len_cons hv0
  obtain ⟨y5, l1, rfl, hv2⟩ := len_cons hv1
  obtain rfl := len_zero hv2
  have n4 := hv.2 0 _ _ rfl rfl
  have s4 := fun a m w => run_store Try.prog w a y4 m n4.one
  have n5 := hv.2 1 _ _ rfl rfl
  have s5 := fun a m w => run_store Try.prog w a y5 m n5.one
  clear hv hv0 hv1 hv2
  have lo2 : w.heap.size + 1 + 1 + 1 ≤ _ := blk_lt HR2.out.c
  have n4 := n4.mono lo2
  have n5 := n5.mono lo2
  have N4 := hid n4; clear n4; have N5 := hid n5; clear n5
  have F2_0 := P2_0.fwd b2
  have RR2 := (HR2.out).fwd b2
  have WW2 := (HW2.out).trans (b2.mono (HW2.out).size)
  have HRR2 := hid RR2; have HWW2 := hid WW2; clear RR2 WW2 lo2
  have a2_6 := HRR2.out.c1 6 rfl
  have b2_0 := HRR2.out.c3 0 rfl
  have g2_0 := HRR2.out.f3 0
  have b2_1 := HRR2.out.c3 1 rfl
  have g2_1 := HRR2.out.f3 1
  have b2_2 := HRR2.out.c3 2 rfl
  have g2_2 := HRR2.out.f3 2
  have b2_3 := HRR2.out.c3 3 rfl
  have g2_3 := HRR2.out.f3 3
  have b2_4 := HRR2.out.c3 4 rfl
  have g2_4 := HRR2.out.f3 4
  have b2_5 := HRR2.out.c3 5 rfl
  have g2_5 := HRR2.out.f3 5
  have b2_6 := HRR2.out.c3 6 rfl
  have g2_6 := HRR2.out.f3 6
  go_wp2_with fail
  clear a2_6 b2_0 b2_1 b2_2 b2_3 b2_4 b2_5 b2_6 g2_0 g2_1 g2_2 g2_3 g2_4 g2_5 g2_6
  have R3 : R3 _ w.heap.size [.int .i64 c0, .int .i64 c1, u2, u3, u4, u5, u6] [.int .i64 0, .int .i64 0, .slice none 0 0, .int .i64 0, .string ⟨#[]⟩, .slice none 0 0, .slice none 0 0] [.int .i64 c0, .int .i64 c1, y2, y3, y4, .slice none 0 0, .slice none 0 0] 30 40 := (HRR2.out).set 4 (y4)
  have W3 := (HWW2.out).setCell (p := ⟨w.heap.size + 1 + 1, 4, none⟩) (by show w.heap.size ≤ w.heap.size + 1 + 1; omega) (y4)
  have HR3 := hid R3; have HW3 := hid W3; clear R3 W3
  have P3_0 := F2_0.set (b := w.heap.size + 1 + 1) (by omega) 4 (y4)
  have P3_1 := (Past.refl (w.heap.size + 1 + 1 + 1) w2).set (b := w.heap.size + 1 + 1) (by omega) 4 (y4)
  have R4 : R3 _ w.heap.size [.int .i64 c0, .int .i64 c1, u2, u3, u4, u5, u6] [.int .i64 0, .int .i64 0, .slice none 0 0, .int .i64 0, .string ⟨#[]⟩, .slice none 0 0, .slice none 0 0] [.int .i64 c0, .int .i64 c1, y2, y3, y4, y5, .slice none 0 0] 30 40 := (HR3.out).set 5 (y5)
  have W4 := (HW3.out).setCell (p := ⟨w.heap.size + 1 + 1, 5, none⟩) (by show w.heap.size ≤ w.heap.size + 1 + 1; omega) (y5)
  have HR4 := hid R4; have HW4 := hid W4; clear R4 W4
  have P4_0 := P3_0.set (b := w.heap.size + 1 + 1) (by omega) 5 (y5)
  have P4_1 := P3_1.set (b := w.heap.size + 1 + 1) (by omega) 5 (y5)
  refine (q6 B _ _ (D6.out.frame (below_sameAll HW4.out _))).mono ?_
  rintro e w3 ⟨y6, rfl, b3, n6⟩
  obtain ⟨ad6, cap6, rfl, _⟩ := n6.dr.slice
  obtain ⟨ln6, hln6⟩ : ∃ n, n = x6.length := ⟨_, rfl⟩
  rw [← hln6] at n6 ⊢; clear hln6
  have lo3 : w.heap.size + 1 + 1 + 1 ≤ _ := blk_lt HR4.out.c
  have n6 := n6.mono lo3
  have N6 := hid n6; clear n6
  have F3_0 := P4_0.fwd b3
  have F3_1 := P4_1.fwd b3
  have RR3 := (HR4.out).fwd b3
  have WW3 := (HW4.out).trans (b3.mono (HW4.out).size)
  have HRR3 := hid RR3; have HWW3 := hid WW3; clear RR3 WW3 lo3
  have b3_0 := HRR3.out.c3 0 rfl
  have g3_0 := HRR3.out.f3 0
  have e3_0 := HRR3.out.c2 0 rfl
  have h3_0 := HRR3.out.f2 0
  have b3_1 := HRR3.out.c3 1 rfl
  have g3_1 := HRR3.out.f3 1
  have e3_1 := HRR3.out.c2 1 rfl
  have h3_1 := HRR3.out.f2 1
  have b3_2 := HRR3.out.c3 2 rfl
  have g3_2 := HRR3.out.f3 2
  have e3_2 := HRR3.out.c2 2 rfl
  have h3_2 := HRR3.out.f2 2
  have b3_3 := HRR3.out.c3 3 rfl
  have g3_3 := HRR3.out.f3 3
  have e3_3 := HRR3.out.c2 3 rfl
  have h3_3 := HRR3.out.f2 3
  have b3_4 := HRR3.out.c3 4 rfl
  have g3_4 := HRR3.out.f3 4
  have e3_4 := HRR3.out.c2 4 rfl
  have h3_4 := HRR3.out.f2 4
  have b3_5 := HRR3.out.c3 5 rfl
  have g3_5 := HRR3.out.f3 5
  have e3_5 := HRR3.out.c2 5 rfl
  have h3_5 := HRR3.out.f2 5
  have b3_6 := HRR3.out.c3 6 rfl
  have g3_6 := HRR3.out.f3 6
  have e3_6 := HRR3.out.c2 6 rfl
  have h3_6 := HRR3.out.f2 6
  go_wp2_with fail
  have R5 : R3 _ w.heap.size [.int .i64 c0, .int .i64 c1, u2, u3, u4, u5, u6] [.int .i64 0, .int .i64 0, .slice none 0 0, .int .i64 0, .string ⟨#[]⟩, .slice none 0 0, .slice none 0 0] [.int .i64 c0, .int .i64 c1, y2, y3, y4, y5, .slice ad6 ln6 cap6] 30 40 := (HRR3.out).set 6 (.slice ad6 ln6 cap6)
  have W5 := (HWW3.out).setCell (p := ⟨w.heap.size + 1 + 1, 6, none⟩) (by show w.heap.size ≤ w.heap.size + 1 + 1; omega) (.slice ad6 ln6 cap6)
  have HR5 := hid R5; have HW5 := hid W5; clear R5 W5
  have P5_0 := F3_0.set (b := w.heap.size + 1 + 1) (by omega) 6 (.slice ad6 ln6 cap6)
  have P5_1 := F3_1.set (b := w.heap.size + 1 + 1) (by omega) 6 (.slice ad6 ln6 cap6)
  have P5_2 := (Past.refl (w.heap.size + 1 + 1 + 1) w3).set (b := w.heap.size + 1 + 1) (by omega) 6 (.slice ad6 ln6 cap6)
  have RB0 : R3 _ w.heap.size [.int .i64 c0, .int .i64 c1, u2, u3, u4, u5, u6] [.int .i64 c0, .int .i64 0, .slice none 0 0, .int .i64 0, .string ⟨#[]⟩, .slice none 0 0, .slice none 0 0] [.int .i64 c0, .int .i64 c1, y2, y3, y4, y5, .slice ad6 ln6 cap6] 30 40 := (HR5.out).setb 0 (.int .i64 c0)
  have RB1 : R3 _ w.heap.size [.int .i64 c0, .int .i64 c1, u2, u3, u4, u5, u6] [.int .i64 c0, .int .i64 c1, .slice none 0 0, .int .i64 0, .string ⟨#[]⟩, .slice none 0 0, .slice none 0 0] [.int .i64 c0, .int .i64 c1, y2, y3, y4, y5, .slice ad6 ln6 cap6] 30 40 := RB0.setb 1 (.int .i64 c1)
  have RB2 : R3 _ w.heap.size [.int .i64 c0, .int .i64 c1, u2, u3, u4, u5, u6] [.int .i64 c0, .int .i64 c1, y2, .int .i64 0, .string ⟨#[]⟩, .slice none 0 0, .slice none 0 0] [.int .i64 c0, .int .i64 c1, y2, y3, y4, y5, .slice ad6 ln6 cap6] 30 40 := RB1.setb 2 (y2)
  have RB3 : R3 _ w.heap.size [.int .i64 c0, .int .i64 c1, u2, u3, u4, u5, u6] [.int .i64 c0, .int .i64 c1, y2, y3, .string ⟨#[]⟩, .slice none 0 0, .slice none 0 0] [.int .i64 c0, .int .i64 c1, y2, y3, y4, y5, .slice ad6 ln6 cap6] 30 40 := RB2.setb 3 (y3)
  have RB4 : R3 _ w.heap.size [.int .i64 c0, .int .i64 c1, u2, u3, u4, u5, u6] [.int .i64 c0, .int .i64 c1, y2, y3, y4, .slice none 0 0, .slice none 0 0] [.int .i64 c0, .int .i64 c1, y2, y3, y4, y5, .slice ad6 ln6 cap6] 30 40 := RB3.setb 4 (y4)
  have RB5 : R3 _ w.heap.size [.int .i64 c0, .int .i64 c1, u2, u3, u4, u5, u6] [.int .i64 c0, .int .i64 c1, y2, y3, y4, y5, .slice none 0 0] [.int .i64 c0, .int .i64 c1, y2, y3, y4, y5, .slice ad6 ln6 cap6] 30 40 := RB4.setb 5 (y5)
  have RB6 : R3 _ w.heap.size [.int .i64 c0, .int .i64 c1, u2, u3, u4, u5, u6] [.int .i64 c0, .int .i64 c1, y2, y3, y4, y5, .slice ad6 ln6 cap6] [.int .i64 c0, .int .i64 c1, y2, y3, y4, y5, .slice ad6 ln6 cap6] 30 40 := RB5.setb 6 (.slice ad6 ln6 cap6)
  have pp0 := RB6.c2 0 rfl
  have pp1 := RB6.c2 1 rfl
  have pp2 := RB6.c2 2 rfl
  have pp3 := RB6.c2 3 rfl
  have pp4 := RB6.c2 4 rfl
  have pp5 := RB6.c2 5 rfl
  have pp6 := RB6.c2 6 rfl
  refine bodyPost_ret (v := .agg #[.int .i64 c0, .int .i64 c1, y2, y3, y4, y5, .slice ad6 ln6 cap6]) (by simp [results, Try.results26, go_sem, pp0, pp1, pp2, pp3, pp4, pp5, pp6]) rfl ?_
  have Z := setRow_below (g := w.heap.size + 1) [.int .i64 c0, .int .i64 c1, y2, y3, y4, y5, .slice ad6 ln6 cap6] 0 _ (HW5.out) (by omega)
  have Y0 := (((((((P5_0.set (b := w.heap.size + 1) (by omega) 0 (.int .i64 c0)).set (b := w.heap.size + 1) (by omega) 1 (.int .i64 c1)).set (b := w.heap.size + 1) (by omega) 2 (y2)).set (b := w.heap.size + 1) (by omega) 3 (y3)).set (b := w.heap.size + 1) (by omega) 4 (y4)).set (b := w.heap.size + 1) (by omega) 5 (y5)).set (b := w.heap.size + 1) (by omega) 6 (.slice ad6 ln6 cap6))
  have Y1 := (((((((P5_1.set (b := w.heap.size + 1) (by omega) 0 (.int .i64 c0)).set (b := w.heap.size + 1) (by omega) 1 (.int .i64 c1)).set (b := w.heap.size + 1) (by omega) 2 (y2)).set (b := w.heap.size + 1) (by omega) 3 (y3)).set (b := w.heap.size + 1) (by omega) 4 (y4)).set (b := w.heap.size + 1) (by omega) 5 (y5)).set (b := w.heap.size + 1) (by omega) 6 (.slice ad6 ln6 cap6))
  have Y2 := (((((((P5_2.set (b := w.heap.size + 1) (by omega) 0 (.int .i64 c0)).set (b := w.heap.size + 1) (by omega) 1 (.int .i64 c1)).set (b := w.heap.size + 1) (by omega) 2 (y2)).set (b := w.heap.size + 1) (by omega) 3 (y3)).set (b := w.heap.size + 1) (by omega) 4 (y4)).set (b := w.heap.size + 1) (by omega) 5 (y5)).set (b := w.heap.size + 1) (by omega) 6 (.slice ad6 ln6 cap6))
  exact ⟨[.int .i64 c0, .int .i64 c1, y2, y3, y4, y5, .slice ad6 ln6 cap6], rfl, Z, rfl, all7 (DrN.val (.int .i64 c0) rfl) (DrN.val (.int .i64 c1) rfl) ((N2.out.past (Nat.le_refl _) Y0).mono (by omega)) ((N3.out.past (Nat.le_refl _) Y0).mono (by omega)) ((N4.out.past (Nat.le_refl _) Y1).mono (by omega)) ((N5.out.past (Nat.le_refl _) Y1).mono (by omega)) ((N6.out.past (Nat.le_refl _) Y2).mono (by omega))⟩
set_option maxHeartbeats 3200000 in
theorem toStmt_c {x0 x1 : D} (q0 : CopyS Try.prog 25 [x0, x1]) {x2 x3 x4 x5 x6 x7 x8 : D} (q2 : CopyS Try.prog 26 [x2, x3, x4, x5, x6, x7, x8]) : CopyS Try.prog 7 [x0, x1, x2, x3, x4, x5, x6, x7, x8] := by
  intro B w vs hl hx
  obtain ⟨u0, l0, rfl, hl0⟩ := len_cons hl
  obtain ⟨u1, l1, rfl, hl1⟩ := len_cons hl0
  obtain ⟨u2, l2, rfl, hl2⟩ := len_cons hl1
  obtain ⟨u3, l3, rfl, hl3⟩ := len_cons hl2
  obtain ⟨u4, l4, rfl, hl4⟩ := len_cons hl3
  obtain ⟨u5, l5, rfl, hl5⟩ := len_cons hl4
  obtain ⟨u6, l6, rfl, hl6⟩ := len_cons hl5
  obtain ⟨u7, l7, rfl, hl7⟩ := len_cons hl6
  obtain ⟨u8, l8, rfl, hl8⟩ := len_cons hl7
  obtain rfl := len_zero hl8
  have D0 := hid (hx 0 _ _ rfl rfl)
  have D1 := hid (hx 1 _ _ rfl rfl)
  have D2 := hid (hx 2 _ _ rfl rfl)
  have D3 := hid (hx 3 _ _ rfl rfl)
  have D4 := hid (hx 4 _ _ rfl rfl)
  have D5 := hid (hx 5 _ _ rfl rfl)
  have D6 := hid (hx 6 _ _ rfl rfl)
  have D7 := hid (hx 7 _ _ rfl rfl)
  have D8 := hid (hx 8 _ _ rfl rfl)
  clear hx hl hl0 hl1 hl2 hl3 hl4 hl5 hl6 hl7 hl8
  have R := R3.start w [u0, u1, u2, u3, u4, u5, u6, u7, u8] [.string ⟨#[]⟩, .slice none 0 0, .int .i64 0, .int .i64 0, .slice none 0 0, .int .i64 0, .string ⟨#[]⟩, .slice none 0 0, .slice none 0 0] [.string ⟨#[]⟩, .slice none 0 0, .int .i64 0, .int .i64 0, .slice none 0 0, .int .i64 0, .string ⟨#[]⟩, .slice none 0 0, .slice none 0 0] 32 42
  have W := (((Below.refl w.heap.size w).alloc (Nat.le_refl _) (.cells [u0, u1, u2, u3, u4, u5, u6, u7, u8].toArray 32)).alloc (by simp) (.cells [.string ⟨#[]⟩, .slice none 0 0, .int .i64 0, .int .i64 0, .slice none 0 0, .int .i64 0, .string ⟨#[]⟩, .slice none 0 0, .slice none 0 0].toArray 42)).alloc (by simp; omega) (.cells [.string ⟨#[]⟩, .slice none 0 0, .int .i64 0, .int .i64 0, .slice none 0 0, .int .i64 0, .string ⟨#[]⟩, .slice none 0 0, .slice none 0 0].toArray 42)
  have HR := hid R; have HW := hid W; clear R W
  go_enter Try.func7, Try.ntmps7
  go_wp2_with fail
  refine (q0 B _ [u0, u1] rfl (all2 (D0.out.frame (below_sameAll HW.out _)) (D1.out.frame (below_sameAll HW.out _)))).mono ?_
  rintro e w1 ⟨vs, rfl, b1, hv⟩
  have hv0 := hv.1
  obtain ⟨y0, l0, rfl, hv1⟩ := len_cons hv0
  obtain ⟨y1, l1, rfl, hv2⟩ := len_cons hv1
  obtain rfl := len_zero hv2
  have n0 := hv.2 0 _ _ rfl rfl
  have s0 := fun a m w => run_store Try.prog w a y0 m n0.one
  have n1 := hv.2 1 _ _ rfl rfl
  have s1 := fun a m w => run_store Try.prog w a y1 m n1.one
  clear hv hv0 hv1 hv2
  have lo1 : w.heap.size + 1 + 1 + 1 ≤ _ := blk_lt HR.out.c
  have n0 := n0.mono lo1
  have n1 := n1.mono lo1
  have N0 := hid n0; clear n0; have N1 := hid n1; clear n1
  have RR1 := (HR.out).fwd b1
  have WW1 := (HW.out).trans (b1.mono (HW.out).size)
  have HRR1 := hid RR1; have HWW1 := hid WW1; clear RR1 WW1 lo1
  have a1_2 := HRR1.out.c1 2 rfl
  have a1_3 := HRR1.out.c1 3 rfl
  have a1_4 := HRR1.out.c1 4 rfl
  have a1_5 := HRR1.out.c1 5 rfl
  have a1_6 := HRR1.out.c1 6 rfl
  have a1_7 := HRR1.out.c1 7 rfl
  have a1_8 := HRR1.out.c1 8 rfl
  have b1_0 := HRR1.out.c3 0 rfl
  have g1_0 := HRR1.out.f3 0
  have b1_1 := HRR1.out.c3 1 rfl
  have g1_1 := HRR1.out.f3 1
  have b1_2 := HRR1.out.c3 2 rfl
  have g1_2 := HRR1.out.f3 2
  have b1_3 := HRR1.out.c3 3 rfl
  have g1_3 := HRR1.out.f3 3
  have b1_4 := HRR1.out.c3 4 rfl
  have g1_4 := HRR1.out.f3 4
  have b1_5 := HRR1.out.c3 5 rfl
  have g1_5 := HRR1.out.f3 5
  have b1_6 := HRR1.out.c3 6 rfl
  have g1_6 := HRR1.out.f3 6
  have b1_7 := HRR1.out.c3 7 rfl
  have g1_7 := HRR1.out.f3 7
  have b1_8 := HRR1.out.c3 8 rfl
  have g1_8 := HRR1.out.f3 8
  go_wp2_with fail
  clear a1_2 a1_3 a1_4 a1_5 a1_6 a1_7 a1_8 b1_0 b1_1 b1_2 b1_3 b1_4 b1_5 b1_6 b1_7 b1_8 g1_0 g1_1 g1_2 g1_3 g1_4 g1_5 g1_6 g1_7 g1_8
  have R1 : R3 _ w.heap.size [u0, u1, u2, u3, u4, u5, u6, u7, u8] [.string ⟨#[]⟩, .slice none 0 0, .int .i64 0, .int .i64 0, .slice none 0 0, .int .i64 0, .string ⟨#[]⟩, .slice none 0 0, .slice none 0 0] [y0, .slice none 0 0, .int .i64 0, .int .i64 0, .slice none 0 0, .int .i64 0, .string ⟨#[]⟩, .slice none 0 0, .slice none 0 0] 32 42 := (HRR1.out).set 0 (y0)
  have W1 := (HWW1.out).setCell (p := ⟨w.heap.size + 1 + 1, 0, none⟩) (by show w.heap.size ≤ w.heap.size + 1 + 1; omega) (y0)
  have HR1 := hid R1; have HW1 := hid W1; clear R1 W1
  have P1_0 := (Past.refl (w.heap.size + 1 + 1 + 1) w1).set (b := w.heap.size + 1 + 1) (by omega) 0 (y0)
  have R2 : R3 _ w.heap.size [u0, u1, u2, u3, u4, u5, u6, u7, u8] [.string ⟨#[]⟩, .slice none 0 0, .int .i64 0, .int .i64 0, .slice none 0 0, .int .i64 0, .string ⟨#[]⟩, .slice none 0 0, .slice none 0 0] [y0, y1, .int .i64 0, .int .i64 0, .slice none 0 0, .int .i64 0, .string ⟨#[]⟩, .slice none 0 0, .slice none 0 0] 32 42 := (HR1.out).set 1 (y1)
  have W2 := (HW1.out).setCell (p := ⟨w.heap.size + 1 + 1, 1, none⟩) (by show w.heap.size ≤ w.heap.size + 1 + 1; omega) (y1)
  have HR2 := hid R2; have HW2 := hid W2; clear R2 W2
  have P2_0 := P1_0.set (b := w.heap.size + 1 + 1) (by omega) 1 (y1)
  refine (q2 B _ [u2, u3, u4, u5, u6, u7, u8] rfl (all7 (D2.out.frame (below_sameAll HW2.out _)) (D3.out.frame (below_sameAll HW2.out _)) (D4.out.frame (below_sameAll HW2.out _)) (D5.out.frame (below_sameAll HW2.out _)) (D6.out.frame (below_sameAll HW2.out _)) (D7.out.frame (below_sameAll HW2.out _)) (D8.out.frame (below_sameAll HW2.out _)))).mono ?_
  rintro e w2 ⟨vs, rfl, b2, hv⟩
  have hv0 := hv.1
  obtain ⟨y2, l0, rfl, hv1⟩ := len_cons hv0
  obtain ⟨y3, l1, rfl, hv2⟩ := len_cons hv1
  obtain ⟨y4, l2, rfl, hv3⟩ := len_cons hv2
  obtain ⟨y5, l3, rfl, hv4⟩ := len_cons hv3
  obtain ⟨y6, l4, rfl, hv5⟩ := len_cons hv4
  obtain ⟨y7, l5, rfl, hv6⟩ := len_cons hv5
  obtain ⟨y8, l6, rfl, hv7⟩ := len_cons hv6
  obtain rfl := len_zero hv7
  have n2 := hv.2 0 _ _ rfl rfl
  have s2 := fun a m w => run_store Try.prog w a y2 m n2.one
  have n3 := hv.2 1 _ _ rfl rfl
  have s3 := fun a m w => run_store Try.prog w a y3 m n3.one
  have n4 := hv.2 2 _ _ rfl rfl
  have s4 := fun a m w => run_store Try.prog w a y4 m n4.one
  have n5 := hv.2 3 _ _ rfl rfl
  have s5 := fun a m w => run_store Try.prog w a y5 m n5.one
  have n6 := hv.2 4 _ _ rfl rfl
  have s6 := fun a m w => run_store Try.prog w a y6 m n6.one
  have n7 := hv.2 5 _ _ rfl rfl
  have s7 := fun a m w => run_store Try.prog w a y7 m n7.one
  have n8 := hv.2 6 _ _ rfl rfl
  have s8 := fun a m w => run_store Try.prog w a y8 m n8.one
  clear hv hv0 hv1 hv2 hv3 hv4 hv5 hv6 hv7
  have lo2 : w.heap.size + 1 + 1 + 1 ≤ _ := blk_lt HR2.out.c
  have n2 := n2.mono lo2
  have n3 := n3.mono lo2
  have n4 := n4.mono lo2
  have n5 := n5.mono lo2
  have n6 := n6.mono lo2
  have n7 := n7.mono lo2
  have n8 := n8.mono lo2
  have N2 := hid n2; clear n2; have N3 := hid n3; clear n3; have N4 := hid n4; clear n4; have N5 := hid n5; clear n5; have N6 := hid n6; clear n6; have N7 := hid n7; clear n7; have N8 := hid n8; clear n8
  have F2_0 := P2_0.fwd b2
  have RR2 := (HR2.out).fwd b2
  have WW2 := (HW2.out).trans (b2.mono (HW2.out).size)
  have HRR2 := hid RR2; have HWW2 := hid WW2; clear RR2 WW2 lo2
  have b2_0 := HRR2.out.c3 0 rfl
  have g2_0 := HRR2.out.f3 0
  have e2_0 := HRR2.out.c2 0 rfl
  have h2_0 := HRR2.out.f2 0
  have b2_1 := HRR2.out.c3 1 rfl
  have g2_1 := HRR2.out.f3 1
  have e2_1 := HRR2.out.c2 1 rfl
  have h2_1 := HRR2.out.f2 1
  have b2_2 := HRR2.out.c3 2 rfl
  have g2_2 := HRR2.out.f3 2
  have e2_2 := HRR2.out.c2 2 rfl
  have h2_2 := HRR2.out.f2 2
  have b2_3 := HRR2.out.c3 3 rfl
  have g2_3 := HRR2.out.f3 3
  have e2_3 := HRR2.out.c2 3 rfl
  have h2_3 := HRR2.out.f2 3
  have b2_4 := HRR2.out.c3 4 rfl
  have g2_4 := HRR2.out.f3 4
  have e2_4 := HRR2.out.c2 4 rfl
  have h2_4 := HRR2.out.f2 4
  have b2_5 := HRR2.out.c3 5 rfl
  have g2_5 := HRR2.out.f3 5
  have e2_5 := HRR2.out.c2 5 rfl
  have h2_5 := HRR2.out.f2 5
  have b2_6 := HRR2.out.c3 6 rfl
  have g2_6 := HRR2.out.f3 6
  have e2_6 := HRR2.out.c2 6 rfl
  have h2_6 := HRR2.out.f2 6
  have b2_7 := HRR2.out.c3 7 rfl
  have g2_7 := HRR2.out.f3 7
  have e2_7 := HRR2.out.c2 7 rfl
  have h2_7 := HRR2.out.f2 7
  have b2_8 := HRR2.out.c3 8 rfl
  have g2_8 := HRR2.out.f3 8
  have e2_8 := HRR2.out.c2 8 rfl
  have h2_8 := HRR2.out.f2 8
  go_wp2_with fail
  have R3 : R3 _ w.heap.size [u0, u1, u2, u3, u4, u5, u6, u7, u8] [.string ⟨#[]⟩, .slice none 0 0, .int .i64 0, .int .i64 0, .slice none 0 0, .int .i64 0, .string ⟨#[]⟩, .slice none 0 0, .slice none 0 0] [y0, y1, y2, .int .i64 0, .slice none 0 0, .int .i64 0, .string ⟨#[]⟩, .slice none 0 0, .slice none 0 0] 32 42 := (HRR2.out).set 2 (y2)
  have W3 := (HWW2.out).setCell (p := ⟨w.heap.size + 1 + 1, 2, none⟩) (by show w.heap.size ≤ w.heap.size + 1 + 1; omega) (y2)
  have HR3 := hid R3; have HW3 := hid W3; clear R3 W3
  have P3_0 := F2_0.set (b := w.heap.size + 1 + 1) (by omega) 2 (y2)
  have P3_1 := (Past.refl (w.heap.size + 1 + 1 + 1) w2).set (b := w.heap.size + 1 + 1) (by omega) 2 (y2)
  have R4 : R3 _ w.heap.size [u0, u1, u2, u3, u4, u5, u6, u7, u8] [.string ⟨#[]⟩, .slice none 0 0, .int .i64 0, .int .i64 0, .slice none 0 0, .int .i64 0, .string ⟨#[]⟩, .slice none 0 0, .slice none 0 0] [y0, y1, y2, y3, .slice none 0 0, .int .i64 0, .string ⟨#[]⟩, .slice none 0 0, .slice none 0 0] 32 42 := (HR3.out).set 3 (y3)
  have W4 := (HW3.out).setCell (p := ⟨w.heap.size + 1 + 1, 3, none⟩) (by show w.heap.size ≤ w.heap.size + 1 + 1; omega) (y3)
  have HR4 := hid R4; have HW4 := hid W4; clear R4 W4
  have P4_0 := P3_0.set (b := w.heap.size + 1 + 1) (by omega) 3 (y3)
  have P4_1 := P3_1.set (b := w.heap.size + 1 + 1) (by omega) 3 (y3)
  have R5 : R3 _ w.heap.size [u0, u1, u2, u3, u4, u5, u6, u7, u8] [.string ⟨#[]⟩, .slice none 0 0, .int .i64 0, .int .i64 0, .slice none 0 0, .int .i64 0, .string ⟨#[]⟩, .slice none 0 0, .slice none 0 0] [y0, y1, y2, y3, y4, .int .i64 0, .string ⟨#[]⟩, .slice none 0 0, .slice none 0 0] 32 42 := (HR4.out).set 4 (y4)
  have W5 := (HW4.out).setCell (p := ⟨w.heap.size + 1 + 1, 4, none⟩) (by show w.heap.size ≤ w.heap.size + 1 + 1; omega) (y4)
  have HR5 := hid R5; have HW5 := hid W5; clear R5 W5
  have P5_0 := P4_0.set (b := w.heap.size + 1 + 1) (by omega) 4 (y4)
  have P5_1 := P4_1.set (b := w.heap.size + 1 + 1) (by omega) 4 (y4)
  have R6 : R3 _ w.heap.size [u0, u1, u2, u3, u4, u5, u6, u7, u8] [.string ⟨#[]⟩, .slice none 0 0, .int .i64 0, .int .i64 0, .slice none 0 0, .int .i64 0, .string ⟨#[]⟩, .slice none 0 0, .slice none 0 0] [y0, y1, y2, y3, y4, y5, .string ⟨#[]⟩, .slice none 0 0, .slice none 0 0] 32 42 := (HR5.out).set 5 (y5)
  have W6 := (HW5.out).setCell (p := ⟨w.heap.size + 1 + 1, 5, none⟩) (by show w.heap.size ≤ w.heap.size + 1 + 1; omega) (y5)
  have HR6 := hid R6; have HW6 := hid W6; clear R6 W6
  have P6_0 := P5_0.set (b := w.heap.size + 1 + 1) (by omega) 5 (y5)
  have P6_1 := P5_1.set (b := w.heap.size + 1 + 1) (by omega) 5 (y5)
  have R7 : R3 _ w.heap.size [u0, u1, u2, u3, u4, u5, u6, u7, u8] [.string ⟨#[]⟩, .slice none 0 0, .int .i64 0, .int .i64 0, .slice none 0 0, .int .i64 0, .string ⟨#[]⟩, .slice none 0 0, .slice none 0 0] [y0, y1, y2, y3, y4, y5, y6, .slice none 0 0, .slice none 0 0] 32 42 := (HR6.out).set 6 (y6)
  have W7 := (HW6.out).setCell (p := ⟨w.heap.size + 1 + 1, 6, none⟩) (by show w.heap.size ≤ w.heap.size + 1 + 1; omega) (y6)
  have HR7 := hid R7; have HW7 := hid W7; clear R7 W7
  have P7_0 := P6_0.set (b := w.heap.size + 1 + 1) (by omega) 6 (y6)
  have P7_1 := P6_1.set (b := w.heap.size + 1 + 1) (by omega) 6 (y6)
  have R8 : R3 _ w.heap.size [u0, u1, u2, u3, u4, u5, u6, u7, u8] [.string ⟨#[]⟩, .slice none 0 0, .int .i64 0, .int .i64 0, .slice none 0 0, .int .i64 0, .string ⟨#[]⟩, .slice none 0 0, .slice none 0 0] [y0, y1, y2, y3, y4, y5, y6, y7, .slice none 0 0] 32 42 := (HR7.out).set 7 (y7)
  have W8 := (HW7.out).setCell (p := ⟨w.heap.size + 1 + 1, 7, none⟩) (by show w.heap.size ≤ w.heap.size + 1 + 1; omega) (y7)
  have HR8 := hid R8; have HW8 := hid W8; clear R8 W8
  have P8_0 := P7_0.set (b := w.heap.size + 1 + 1) (by omega) 7 (y7)
  have P8_1 := P7_1.set (b := w.heap.size + 1 + 1) (by omega) 7 (y7)
  have R9 : R3 _ w.heap.size [u0, u1, u2, u3, u4, u5, u6, u7, u8] [.string ⟨#[]⟩, .slice none 0 0, .int .i64 0, .int .i64 0, .slice none 0 0, .int .i64 0, .string ⟨#[]⟩, .slice none 0 0, .slice none 0 0] [y0, y1, y2, y3, y4, y5, y6, y7, y8] 32 42 := (HR8.out).set 8 (y8)
  have W9 := (HW8.out).setCell (p := ⟨w.heap.size + 1 + 1, 8, none⟩) (by show w.heap.size ≤ w.heap.size + 1 + 1; omega) (y8)
  have HR9 := hid R9; have HW9 := hid W9; clear R9 W9
  have P9_0 := P8_0.set (b := w.heap.size + 1 + 1) (by omega) 8 (y8)
  have P9_1 := P8_1.set (b := w.heap.size + 1 + 1) (by omega) 8 (y8)
  have RB0 : R3 _ w.heap.size [u0, u1, u2, u3, u4, u5, u6, u7, u8] [y0, .slice none 0 0, .int .i64 0, .int .i64 0, .slice none 0 0, .int .i64 0, .string ⟨#[]⟩, .slice none 0 0, .slice none 0 0] [y0, y1, y2, y3, y4, y5, y6, y7, y8] 32 42 := (HR9.out).setb 0 (y0)
  have RB1 : R3 _ w.heap.size [u0, u1, u2, u3, u4, u5, u6, u7, u8] [y0, y1, .int .i64 0, .int .i64 0, .slice none 0 0, .int .i64 0, .string ⟨#[]⟩, .slice none 0 0, .slice none 0 0] [y0, y1, y2, y3, y4, y5, y6, y7, y8] 32 42 := RB0.setb 1 (y1)
  have RB2 : R3 _ w.heap.size [u0, u1, u2, u3, u4, u5, u6, u7, u8] [y0, y1, y2, .int .i64 0, .slice none 0 0, .int .i64 0, .string ⟨#[]⟩, .slice none 0 0, .slice none 0 0] [y0, y1, y2, y3, y4, y5, y6, y7, y8] 32 42 := RB1.setb 2 (y2)
  have RB3 : R3 _ w.heap.size [u0, u1, u2, u3, u4, u5, u6, u7, u8] [y0, y1, y2, y3, .slice none 0 0, .int .i64 0, .string ⟨#[]⟩, .slice none 0 0, .slice none 0 0] [y0, y1, y2, y3, y4, y5, y6, y7, y8] 32 42 := RB2.setb 3 (y3)
  have RB4 : R3 _ w.heap.size [u0, u1, u2, u3, u4, u5, u6, u7, u8] [y0, y1, y2, y3, y4, .int .i64 0, .string ⟨#[]⟩, .slice none 0 0, .slice none 0 0] [y0, y1, y2, y3, y4, y5, y6, y7, y8] 32 42 := RB3.setb 4 (y4)
  have RB5 : R3 _ w.heap.size [u0, u1, u2, u3, u4, u5, u6, u7, u8] [y0, y1, y2, y3, y4, y5, .string ⟨#[]⟩, .slice none 0 0, .slice none 0 0] [y0, y1, y2, y3, y4, y5, y6, y7, y8] 32 42 := RB4.setb 5 (y5)
  have RB6 : R3 _ w.heap.size [u0, u1, u2, u3, u4, u5, u6, u7, u8] [y0, y1, y2, y3, y4, y5, y6, .slice none 0 0, .slice none 0 0] [y0, y1, y2, y3, y4, y5, y6, y7, y8] 32 42 := RB5.setb 6 (y6)
  have RB7 : R3 _ w.heap.size [u0, u1, u2, u3, u4, u5, u6, u7, u8] [y0, y1, y2, y3, y4, y5, y6, y7, .slice none 0 0] [y0, y1, y2, y3, y4, y5, y6, y7, y8] 32 42 := RB6.setb 7 (y7)
  have RB8 : R3 _ w.heap.size [u0, u1, u2, u3, u4, u5, u6, u7, u8] [y0, y1, y2, y3, y4, y5, y6, y7, y8] [y0, y1, y2, y3, y4, y5, y6, y7, y8] 32 42 := RB7.setb 8 (y8)
  have pp0 := RB8.c2 0 rfl
  have pp1 := RB8.c2 1 rfl
  have pp2 := RB8.c2 2 rfl
  have pp3 := RB8.c2 3 rfl
  have pp4 := RB8.c2 4 rfl
  have pp5 := RB8.c2 5 rfl
  have pp6 := RB8.c2 6 rfl
  have pp7 := RB8.c2 7 rfl
  have pp8 := RB8.c2 8 rfl
  refine bodyPost_ret (v := .agg #[y0, y1, y2, y3, y4, y5, y6, y7, y8]) (by simp [results, Try.results7, go_sem, pp0, pp1, pp2, pp3, pp4, pp5, pp6, pp7, pp8]) rfl ?_
  have Z := setRow_below (g := w.heap.size + 1) [y0, y1, y2, y3, y4, y5, y6, y7, y8] 0 _ (HW9.out) (by omega)
  have Y0 := (((((((((P9_0.set (b := w.heap.size + 1) (by omega) 0 (y0)).set (b := w.heap.size + 1) (by omega) 1 (y1)).set (b := w.heap.size + 1) (by omega) 2 (y2)).set (b := w.heap.size + 1) (by omega) 3 (y3)).set (b := w.heap.size + 1) (by omega) 4 (y4)).set (b := w.heap.size + 1) (by omega) 5 (y5)).set (b := w.heap.size + 1) (by omega) 6 (y6)).set (b := w.heap.size + 1) (by omega) 7 (y7)).set (b := w.heap.size + 1) (by omega) 8 (y8))
  have Y1 := (((((((((P9_1.set (b := w.heap.size + 1) (by omega) 0 (y0)).set (b := w.heap.size + 1) (by omega) 1 (y1)).set (b := w.heap.size + 1) (by omega) 2 (y2)).set (b := w.heap.size + 1) (by omega) 3 (y3)).set (b := w.heap.size + 1) (by omega) 4 (y4)).set (b := w.heap.size + 1) (by omega) 5 (y5)).set (b := w.heap.size + 1) (by omega) 6 (y6)).set (b := w.heap.size + 1) (by omega) 7 (y7)).set (b := w.heap.size + 1) (by omega) 8 (y8))
  exact ⟨[y0, y1, y2, y3, y4, y5, y6, y7, y8], rfl, Z, rfl, all9 ((N0.out.past (Nat.le_refl _) Y0).mono (by omega)) ((N1.out.past (Nat.le_refl _) Y0).mono (by omega)) ((N2.out.past (Nat.le_refl _) Y1).mono (by omega)) ((N3.out.past (Nat.le_refl _) Y1).mono (by omega)) ((N4.out.past (Nat.le_refl _) Y1).mono (by omega)) ((N5.out.past (Nat.le_refl _) Y1).mono (by omega)) ((N6.out.past (Nat.le_refl _) Y1).mono (by omega)) ((N7.out.past (Nat.le_refl _) Y1).mono (by omega)) ((N8.out.past (Nat.le_refl _) Y1).mono (by omega))⟩
set_option maxHeartbeats 3200000 in
theorem markAffineS_k {rows : List (List D)} (h : ∀ r ∈ rows, ∃ (e1 : Value), ∃ (x0 : D), r = [x0, .val e1] ∧ MarkC Try.prog 13 x0) : MarkC Try.prog 67 (.list 2 rows) := by
  intro S w v k hx hk0 hk1
  obtain ⟨ad, cap, rfl, hle⟩ := hx.slice
  obtain ⟨n, hn⟩ : ∃ n, n = rows.length := ⟨_, rfl⟩
  rw [← hn] at hx hle ⊢
  have Hn := hid hn; clear hn
  rw [wgt] at hk1 ⊢
  have Hx := hid hx; clear hx
  have Hk := hid hk1; clear hk1
  go_enter Try.func67, Try.ntmps67
  go_wp2
  go_loopw [1, 5] (fun q i wr => ∃ (j : Nat) (K : Int), j ≤ n ∧ i = .int .i64 j ∧ q = .int .i64 K ∧ Hid (K = k + wgtR (rows.take j)) ∧ Marked S w wr) (fun _ i _ => n - (intOf i).toNat)
  case atStart => exact ⟨0, k, Nat.zero_le _, rfl, rfl, hid (by simp [wgtR]), Marked.refl _ _⟩
  case round =>
    obtain ⟨j, K, hj, rfl, rfl, HK, hm⟩ := hrel
    by_cases hlt : j < n
    · obtain ⟨r, hr⟩ : ∃ r, rows[j]? = some r := ⟨_, List.getElem?_eq_getElem (by rw [← Hn.out]; exact hlt)⟩
      have hs := wgtR_take hr
      obtain ⟨e1, x0, rfl, q0⟩ := h r (List.mem_of_getElem? hr)
      obtain ⟨g0, hg0, q0⟩ : ∃ g, wgt x0 = g ∧ MarkN Try.prog 13 x0 g := ⟨_, rfl, q0⟩
      have hs : wgtR (rows.take (j + 1)) = wgtR (rows.take j) + (g0 + 1) := by rw [hs]; simp only [wgtL, wgt, hg0]; try omega
      have hK0 : 0 ≤ K := by have := HK.out; omega
      have hK1 : K + (g0 + 1 : Nat) ≤ 4611686018427387904 := by have := Hk.out; have := HK.out; have := wgtR_le rows (j + 1); omega
      obtain ⟨b, off, rfl, hS, _, _⟩ := (Hx.out.mark hm).at hr (by simp)
      have Hs := hid hs; clear hs hg0
      have Hr := hid hr; clear hr
      have Hq := hid hK1; clear hK1
      obtain ⟨u1, c1, f1, d1⟩ := (Hx.out.mark hm).row Hr.out 0 rfl (o := off + j * 2) (by omega)
      have hw := Hq.out
      go_wp2_with fail
      clear hw
      refine (q0 S _ _ _ d1 (by omega) (by have := Hq.out; omega)).mono ?_
      rintro e w1 ⟨rfl, b1⟩
      have M1 := hm.trans b1
      obtain ⟨u2, c2, f2, d2⟩ := (Hx.out.mark M1).row Hr.out 1 rfl (o := off + j * 2 + 1) (by omega)
      have d2 := d2.leaf
      have m2 := M1.trans (Marked.set (t := .int .i64 (K + (g0 : Nat))) hS c2 d2 rfl)
      have hw := Hq.out
      go_wp2_with fail
      clear hw
      exact ⟨⟨j + 1, K + (g0 : Nat) + 1, by omega, rfl, rfl, hid (by have := HK.out; have := Hs.out; omega), m2⟩, by simp [intOf]; omega⟩
    · have : j = n := by omega
      subst this
      go_wp2
      go_ret
      exact ⟨ret_int (by rw [HK.out, Hn.out, List.take_length]), hm⟩
set_option maxHeartbeats 3200000 in
theorem markExprS_k {rows : List (List D)} (h : ∀ r ∈ rows, ∃ (e0 e1 e3 e4 : Value), ∃ (x2 x5 x6 : D), r = [.val e0, .val e1, x2, .val e3, .val e4, x5, x6] ∧ MarkC Try.prog 13 x2 ∧ MarkC Try.prog 67 x5 ∧ MarkC Try.prog 69 x6) : MarkC Try.prog 69 (.list 7 rows) := by
  intro S w v k hx hk0 hk1
  obtain ⟨ad, cap, rfl, hle⟩ := hx.slice
  obtain ⟨n, hn⟩ : ∃ n, n = rows.length := ⟨_, rfl⟩
  rw [← hn] at hx hle ⊢
  have Hn := hid hn; clear hn
  rw [wgt] at hk1 ⊢
  have Hx := hid hx; clear hx
  have Hk := hid hk1; clear hk1
  go_enter Try.func69, Try.ntmps69
  go_wp2
  go_loopw [1, 5] (fun q i wr => ∃ (j : Nat) (K : Int), j ≤ n ∧ i = .int .i64 j ∧ q = .int .i64 K ∧ Hid (K = k + wgtR (rows.take j)) ∧ Marked S w wr) (fun _ i _ => n - (intOf i).toNat)
  case atStart => exact ⟨0, k, Nat.zero_le _, rfl, rfl, hid (by simp [wgtR]), Marked.refl _ _⟩
  case round =>
    obtain ⟨j, K, hj, rfl, rfl, HK, hm⟩ := hrel
    by_cases hlt : j < n
    · obtain ⟨r, hr⟩ : ∃ r, rows[j]? = some r := ⟨_, List.getElem?_eq_getElem (by rw [← Hn.out]; exact hlt)⟩
      have hs := wgtR_take hr
      obtain ⟨e0, e1, e3, e4, x2, x5, x6, rfl, q2, q5, q6⟩ := h r (List.mem_of_getElem? hr)
      obtain ⟨g2, hg2, q2⟩ : ∃ g, wgt x2 = g ∧ MarkN Try.prog 13 x2 g := ⟨_, rfl, q2⟩
      obtain ⟨g5, hg5, q5⟩ : ∃ g, wgt x5 = g ∧ MarkN Try.prog 67 x5 g := ⟨_, rfl, q5⟩
      obtain ⟨g6, hg6, q6⟩ : ∃ g, wgt x6 = g ∧ MarkN Try.prog 69 x6 g := ⟨_, rfl, q6⟩
      have hs : wgtR (rows.take (j + 1)) = wgtR (rows.take j) + (1 + 1 + g2 + 1 + 1 + g5 + g6) := by rw [hs]; simp only [wgtL, wgt, hg2, hg5, hg6]; try omega
      have hK0 : 0 ≤ K := by have := HK.out; omega
      have hK1 : K + (1 + 1 + g2 + 1 + 1 + g5 + g6 : Nat) ≤ 4611686018427387904 := by have := Hk.out; have := HK.out; have := wgtR_le rows (j + 1); omega
      obtain ⟨b, off, rfl, hS, _, _⟩ := (Hx.out.mark hm).at hr (by simp)
      have Hs := hid hs; clear hs hg2 hg5 hg6
      have Hr := hid hr; clear hr
      have Hq := hid hK1; clear hK1
      obtain ⟨u1, c1, f1, d1⟩ := (Hx.out.mark hm).row Hr.out 0 rfl (o := off + j * 7) (by omega)
      have d1 := d1.leaf
      have m1 := hm.trans (Marked.set (t := .int .i64 (K)) hS c1 d1 rfl)
      obtain ⟨u2, c2, f2, d2⟩ := (Hx.out.mark m1).row Hr.out 1 rfl (o := off + j * 7 + 1) (by omega)
      have d2 := d2.leaf
      have m2 := m1.trans (Marked.set (t := .int .i64 (K + 1)) hS c2 d2 rfl)
      obtain ⟨u3, c3, f3, d3⟩ := (Hx.out.mark m2).row Hr.out 2 rfl (o := off + j * 7 + 2) (by omega)
      have hw := Hq.out
      go_wp2_with fail
      clear hw
      refine (q2 S _ _ _ d3 (by omega) (by have := Hq.out; omega)).mono ?_
      rintro e w1 ⟨rfl, b1⟩
      have M1 := m2.trans b1
      obtain ⟨u4, c4, f4, d4⟩ := (Hx.out.mark M1).row Hr.out 3 rfl (o := off + j * 7 + 2 + 1) (by omega)
      have d4 := d4.leaf
      have m4 := M1.trans (Marked.set (t := .int .i64 (K + 1 + 1 + (g2 : Nat))) hS c4 d4 rfl)
      have hw := Hq.out
      go_wp2_with fail
      clear hw
      refine (markText_k _ _ (by omega) (by have := Hq.out; omega)).mono ?_
      rintro e w2 ⟨t2, rfl, b2⟩
      have M2 := m4.trans (marked_of b2 S)
      obtain ⟨u5, c5, f5, d5⟩ := (Hx.out.mark M2).row Hr.out 4 rfl (o := off + j * 7 + 4) (by omega)
      have d5 := d5.leaf
      have m5 := M2.trans (Marked.set (t := .string t2) hS c5 d5 rfl)
      obtain ⟨u6, c6, f6, d6⟩ := (Hx.out.mark m5).row Hr.out 5 rfl (o := off + j * 7 + 4 + 1) (by omega)
      have hw := Hq.out
      go_wp2_with fail
      clear hw
      refine (q5 S _ _ _ d6 (by omega) (by have := Hq.out; omega)).mono ?_
      rintro e w3 ⟨rfl, b3⟩
      have M3 := m5.trans b3
      obtain ⟨u7, c7, f7, d7⟩ := (Hx.out.mark M3).row Hr.out 6 rfl (o := off + j * 7 + 6) (by omega)
      have hw := Hq.out
      go_wp2_with fail
      clear hw
      refine (q6 S _ _ _ d7 (by omega) (by have := Hq.out; omega)).mono ?_
      rintro e w4 ⟨rfl, b4⟩
      have M4 := M3.trans b4
      have hw := Hq.out
      go_wp2_with fail
      clear hw
      exact ⟨⟨j + 1, K + 1 + 1 + (g2 : Nat) + 1 + 1 + (g5 : Nat) + (g6 : Nat), by omega, rfl, rfl, hid (by have := HK.out; have := Hs.out; omega), M4⟩, by simp [intOf]; omega⟩
    · have : j = n := by omega
      subst this
      go_wp2
      go_ret
      exact ⟨ret_int (by rw [HK.out, Hn.out, List.take_length]), hm⟩
end Go.Proofs.Ytollooimmfngjaa
