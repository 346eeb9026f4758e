/- Part 2 of 6 of the proof: laws on memory and data, then what the functions compute, in the order in which they build on each other; conditions: those that each theorem names. -/
import Derived.Deep.RegionLaw
import Derived.Maps.OwnSet
import Derived.Lib.SliceRun
import Derived.Shelf.Abstract
import Derived.Deep.RegionHeld3
import Derived.IntWalk
import Derived.Laws.BitsAllLaws
import Derived.Test.YtigdfdhjnadieaaP1

/- What a function does: from its code; a call; condition: what the operands and the boxes hold. -/
namespace Go.Proofs.Ytigdfdhjnadieaa
set_option linter.unusedVariables false
set_option linter.unusedSimpArgs false
open Go.RowKit

section
variable {P : Program} {E : Env} {bx : Nat → Nat × Nat} {a : Act} {w : World} {σ : St}
theorem resV1_ok {r : ResultVar} {x : V1} (h : resV1 σ P r = some x) (hs : SR E bx (lk σ) a w) :
    ∃ v, (match r with | .tmp t => pure (a.tmps.getD t undef) | .cell c t => do loadVar t (← asAddr (a.tmps.getD c undef)) : Sem Value).run P w = .ok v w ∧ V1r bx (Al (lk σ)) (Bf E bx (lk σ)) w x v := by
  cases r with
  | tmp t =>
    simp only [resV1] at h
    split at h
    · rename_i y hy
      cases h
      exact ⟨_, rfl, hs.slot t _ hy⟩
    · cases h
  | cell t ty =>
    simp only [resV1] at h
    split at h
    · rename_i k sz i j m h1 h2
      split at h
      · rename_i e sz' rows hb
        split at h
        · rename_i r' h3 h4
          split at h
          · rename_i h5
            cases h
            have h3' := Nat.eq_of_beq_eq_true h3
            subst h3'
            have h5' := Nat.le_of_ble_eq_true h5
            have hv : Cr bx (Al (lk σ)) (Bf E bx (lk σ)) w (.box k sz i j) (a.tmps.getD t undef) := hs.slot t _ h1
            have hv2 := hv.2 ⟨e, sz, rows, hb⟩
            obtain ⟨cur, q1, q2, q3, q4, q5⟩ := hs.box k e sz rows hb
            have hex : ∀ l : Fin m, ∃ u, w.cell? ⟨(bx k).1, i * sz + j + l, none⟩ = some u ∧ Cr bx (Al (lk σ)) (Bf E bx (lk σ)) w (r'[j + l]'(by omega)) u := fun l => by
              obtain ⟨u, h6, h7⟩ := q5 i r' (j + l) _ h4 (List.getElem?_eq_getElem (by omega))
              exact ⟨u, by rw [cell_of_row w _ _ _ _ _ q1, Nat.add_assoc]; exact h6, h7⟩
            obtain ⟨us, hlen, hus⟩ : ∃ us : List Value, us.length = m ∧ ∀ (l : Nat) u, us[l]? = some u → w.cell? ⟨(bx k).1, i * sz + j + l, none⟩ = some u ∧ ∃ c, r'[j + l]? = some c ∧ Cr bx (Al (lk σ)) (Bf E bx (lk σ)) w c u := by
              refine ⟨List.ofFn fun j => Classical.choose (hex j), List.length_ofFn, fun l u hu => ?_⟩
              have hl : l < m := by have := (List.getElem?_eq_some_iff.1 hu).1; rwa [List.length_ofFn] at this
              rw [List.getElem?_eq_getElem (by rw [List.length_ofFn]; exact hl), List.getElem_ofFn] at hu
              cases hu
              have := Classical.choose_spec (hex ⟨l, hl⟩)
              exact ⟨this.1, _, List.getElem?_eq_getElem (by omega), this.2⟩
            have hrun := run_loadRow h2 w (bx k).1 (i * sz + j) us hlen (fun j u hu => (hus j u hu).1)
            simp only [Instr.loadAt, Instr.sureAddr, Sem.run_bind, Sem.run_pure, Result.andThen_ok] at hrun
            refine ⟨.agg us.toArray, by simp only [hv2, asAddr, Sem.run_bind, Sem.run_pure, Result.andThen_ok]; exact hrun, us, rfl, by simp; omega, fun l c u hc hu => ?_⟩
            have hi : l < m := by rw [← hlen]; exact (List.getElem?_eq_some_iff.1 hu).1
            obtain ⟨_, c', h8, h9⟩ := hus l u hu
            rw [List.getElem?_take, if_pos hi, List.getElem?_drop, h8] at hc
            cases hc
            exact h9
          · cases h
        · cases h
      · cases h
    · rename_i k sz i j m h1 h2
      split at h
      · rename_i e sz' rows hb
        split at h
        · rename_i r' h3 h4
          split at h
          · rename_i c h5
            cases h
            have h3' := Nat.eq_of_beq_eq_true h3
            subst h3'
            have hv : Cr bx (Al (lk σ)) (Bf E bx (lk σ)) w (.box k sz i j) (a.tmps.getD t undef) := hs.slot t _ h1
            have hv2 := hv.2 ⟨e, sz, rows, hb⟩
            obtain ⟨cur, q1, q2, q3, q4, q5⟩ := hs.box k e sz rows hb
            obtain ⟨u, h6, h7⟩ := q5 i r' j c h4 h5
            have hrun := run_load1 h2 w (bx k).1 (i * sz + j) u (by rw [cell_of_row w _ _ _ _ _ q1]; exact h6)
            exact ⟨u, by simp only [hv2, asAddr, Sem.run_bind, Sem.run_pure, Result.andThen_ok]; simpa [Instr.loadAt, Instr.sureAddr] using hrun, h7⟩
          · cases h
        · cases h
      · cases h
    · cases h
theorem resL_ok : ∀ {l : List ResultVar} {xs : List V1}, resL σ P l = some xs → SR E bx (lk σ) a w →
    ∃ vs, (l.mapM fun r => (match r with | .tmp t => pure (a.tmps.getD t undef) | .cell c t => do loadVar t (← asAddr (a.tmps.getD c undef)) : Sem Value)).run P w = .ok vs w ∧ Vals (V1r bx (Al (lk σ)) (Bf E bx (lk σ)) w) xs vs
  | [], xs, h, _ => by cases h; exact ⟨[], by simp, rfl, fun i x v h => by simp at h⟩
  | r :: l, xs, h, hs => by
    unfold resL at h
    split at h
    · rename_i x hx
      split at h
      · rename_i ys hy
        cases h
        obtain ⟨v, h1, h2⟩ := resV1_ok hx hs
        obtain ⟨vs, h3, h4⟩ := resL_ok hy hs
        exact ⟨v :: vs, by rw [List.mapM_cons]; simp only [Sem.run_bind, h1, Result.andThen_ok, h3, Sem.run_pure], .cons h2 h4⟩
      · cases h
    · cases h
theorem results_ok {fn : Func} {xs : List V1} (h : resL σ P fn.results.toList = some xs) (hs : SR E bx (lk σ) a w) :
    ∃ v, (results fn a.tmps).run P w = .ok v w ∧ Vr bx (Al (lk σ)) (Bf E bx (lk σ)) w (tupV xs) v := by
  obtain ⟨vs, h1, h2, h3⟩ := resL_ok h hs
  have hm : (fn.results.mapM fun r => (match r with | .tmp t => pure (a.tmps.getD t undef) | .cell c t => do loadVar t (← asAddr (a.tmps.getD c undef)) : Sem Value)).run P w = .ok vs.toArray w := by
    rw [Array.mapM_eq_mapM_toList]
    simp only [map_eq_pure_bind, Sem.run_bind, h1, Result.andThen_ok, Sem.run_pure]
  refine ⟨if h : vs.toArray.size = 1 then vs.toArray[0] else .tuple vs.toArray, ?_, ?_⟩
  · unfold results
    rw [Sem.run_bind]
    erw [hm]
    rfl
  · match xs, h2, h3 with
    | [x], h2, h3 =>
      match vs, h2, h3 with
      | [v], h2, h3 => exact h3 0 x v rfl rfl
    | [], h2, h3 =>
      match vs, h2, h3 with
      | [], h2, h3 => exact ⟨[], rfl, rfl, h3⟩
    | x :: y :: l, h2, h3 =>
      rw [dif_neg (by simp only [List.size_toArray, h2, List.length_cons]; omega)]
      exact ⟨vs, rfl, h2, h3⟩
end

/-- What the boxes and the values lead to are boxes that are there. -/
def refsOk (hb : St) (xs : List V1) : Bool := xs.all fun x => x.refs.all fun k => match lk hb (.u k) with
  | .u => true
  | _ => false
theorem refsOk_at {hb : St} {xs : List V1} (h : refsOk hb xs = true) {x : V1} (hx : x ∈ xs) {k : Nat} (hk : k ∈ x.refs) : lk hb (.u k) ≠ .no := by
  have := List.all_eq_true.1 (List.all_eq_true.1 h x hx) k hk
  intro e
  rw [e] at this
  cases this
/-- Boxes alone: all are marked as used, all are below n (n = 100: those that are handed); what they lead to are boxes that are marked. -/
structure HB (hb : St) : Prop where
  t : ∀ t, lk hb (.t t) = .no
  al : ∀ k, Al (lk hb) k → lk hb (.u k) ≠ .no
  refs : ∀ k e sz rows, lk hb (.b k) = .b e sz rows → ∀ r ∈ rows, ∀ c ∈ r, ∀ l ∈ c.refs, lk hb (.u l) ≠ .no
theorem HB.nil : HB [] := ⟨fun _ => rfl, fun k ⟨e, sz, rows, h⟩ => (by cases h), fun k e sz rows h => (by cases h)⟩
theorem HB.cons {hb : St} (h : HB hb) {k : Nat} {e : TypeId} {sz : Nat} {rows : List (List C)} (hr : ∀ r ∈ rows, ∀ c ∈ r, ∀ l ∈ c.refs, lk ((.u k, .u) :: hb) (.u l) ≠ .no) : HB ((.b k, .b e sz rows) :: (.u k, .u) :: hb) := by
  have hu : ∀ l, lk hb (.u l) ≠ .no → lk ((.b k, .b e sz rows) :: (.u k, .u) :: hb) (.u l) ≠ .no := fun l hl => by
    rw [lk_cons, upd_other _ _ (by simp), lk_cons]
    by_cases e1 : l = k
    · subst e1; rw [upd_same]; exact fun e => by cases e
    · rw [upd_other _ _ (by simpa using e1)]; exact hl
  refine ⟨fun t => by rw [lk_cons, upd_other _ _ (by simp), lk_cons, upd_other _ _ (by simp)]; exact h.t t, fun l hl => ?_, fun l e' sz' rows' hl r hr' c hc m hm => ?_⟩
  · by_cases e1 : l = k
    · subst e1; rw [lk_cons, upd_other _ _ (by simp), lk_cons, upd_same]; exact fun e => by cases e
    · obtain ⟨e', sz', rows', hl⟩ := hl
      rw [lk_cons, upd_other _ _ (by simpa using e1), lk_cons, upd_other _ _ (by simp)] at hl
      exact hu l (h.al l ⟨_, _, _, hl⟩)
  · by_cases e1 : l = k
    · subst e1
      rw [lk_cons, upd_same] at hl
      cases hl
      have := hr r hr' c hc m hm
      rw [lk_cons, upd_other _ _ (by simp)]
      exact this
    · rw [lk_cons, upd_other _ _ (by simpa using e1), lk_cons, upd_other _ _ (by simp)] at hl
      exact hu m (h.refs l e' sz' rows' hl r hr' c hc m hm)
theorem dR_refs {rows : List (List D)} {r : List C} {c : C} (hr : r ∈ dR rows) (hc : c ∈ r) {l : Nat} (hl : l ∈ c.refs) : False := by
  obtain ⟨r', _, rfl⟩ := List.mem_map.1 hr
  obtain ⟨y, _, rfl⟩ := List.mem_map.1 hc
  cases hl
theorem HB.data {hb : St} (h : HB hb) {k : Nat} {e : TypeId} {sz : Nat} {rows : List (List D)} : HB ((.b k, .b e sz (dR rows)) :: (.u k, .u) :: hb) :=
  h.cons fun _ hr _ hc _ hl => (dR_refs hr hc hl).elim
/-- The boxes that are handed: (number, block). -/
def mtOf (bx : Nat → Nat × Nat) : St → List (Nat × Nat × Nat)
  | [] => []
  | (.b k, .b _ _ _) :: l => (k, bx k) :: mtOf bx l
  | _ :: l => mtOf bx l
theorem mtOf_mem {bx : Nat → Nat × Nat} : ∀ {hb : St} {k : Nat}, Al (lk hb) k → (k, bx k) ∈ mtOf bx hb
  | [], k, ⟨e, sz, rows, h⟩ => by cases h
  | (q, x) :: l, k, ⟨e, sz, rows, h⟩ => by
    rw [lk_cons] at h
    by_cases e1 : Res.b k = q
    · subst e1
      rw [upd_same] at h
      subst h
      exact List.mem_cons_self
    · rw [upd_other _ _ e1] at h
      have := mtOf_mem (bx := bx) (hb := l) ⟨e, sz, rows, h⟩
      cases q <;> cases x <;> first | exact this | exact List.mem_cons_of_mem _ this
/-- All handed boxes have numbers below 100, and stand but once. -/
def low : St → Bool
  | [] => true
  | (.b k, .b _ _ _) :: l => Nat.ble k 99 && (match lk l (.b k) with | .no => true | _ => false) && low l
  | (.u _, _) :: l => low l
  | _ => false
theorem mtOf_of {bx : Nat → Nat × Nat} : ∀ {hb : St}, low hb = true → ∀ {p : Nat × Nat × Nat}, p ∈ mtOf bx hb → p.1 < 100 ∧ Al (lk hb) p.1 ∧ p.2 = bx p.1
  | [], _, p, h => by cases h
  | (q, x) :: l, hl, p, h => by
    have hstep : ∀ (hl : low l = true) (hne : p ∈ mtOf bx l → lk ((q, x) :: l) (.b p.1) = lk l (.b p.1)), p ∈ mtOf bx l → p.1 < 100 ∧ Al (lk ((q, x) :: l)) p.1 ∧ p.2 = bx p.1 := fun hl hne h => by
      obtain ⟨h1, ⟨e, sz, rows, h2⟩, h3⟩ := mtOf_of hl h
      exact ⟨h1, ⟨e, sz, rows, (hne h).trans h2⟩, h3⟩
    cases q with
    | t n => cases x <;> cases hl
    | u n =>
      have hl' : low l = true := by cases x <;> exact hl
      have h' : p ∈ mtOf bx l := by cases x <;> exact h
      exact hstep hl' (fun _ => by rw [lk_cons, upd_other _ _ (by simp)]) h'
    | b k =>
      cases x with
      | b e sz rows =>
        rw [low, Bool.and_eq_true, Bool.and_eq_true] at hl
        rcases List.mem_cons.1 h with rfl | h
        · have := Nat.le_of_ble_eq_true hl.1.1
          exact ⟨by show k < 100; omega, ⟨e, sz, rows, by rw [lk_cons, upd_same]⟩, rfl⟩
        · refine hstep hl.2 (fun h => ?_) h
          rw [lk_cons, upd_other]
          intro e1
          obtain ⟨_, ⟨e', sz', rows', h2⟩, _⟩ := mtOf_of hl.2 h
          have h3 := hl.1.2
          simp only [Res.b.injEq] at e1
          rw [← e1, h2] at h3
          cases h3
      | _ => cases hl

theorem Fn.of_code {P : Program} {f : FuncId} {fn : Func} {c : Code} {hb hb' : St} {args : List V1} {y : V} (hf : P.funcs[f]? = some fn) (hbd : fn.body = some c) (hn : Nat.ble args.length fn.ntmps = true) (hhb : HB hb) (hlow : low hb = true) (hra : refsOk hb args = true)
    (hhb' : HB hb') (hry : refsOk hb' [match y with | .o x => x | .tup xs => .agg (xs.flatMap V1.cells)] = true) (hnum : ∀ k, k < 100 → Al (lk hb') k → Al (lk hb) k)
    (h : ACode P fn.ntmps c (Kfin P fn.results y hb') (argS 0 args ++ hb)) : Fn P f hb args y hb' := by
  intro B bx w vs hh hv
  have hn' := Nat.le_of_ble_eq_true hn
  refine calls_of_wp hf hbd ?_
  let E : Env := { w := w, B := B, n := fn.ntmps, mt := mtOf bx hb }
  have hgt : ∀ r : Res, (∀ t, r ≠ .t t) → lk (argS 0 args ++ hb) r = lk hb r := fun r hr => argS_o hr
  have hgb : ∀ k, lk (argS 0 args ++ hb) (.b k) = lk hb (.b k) := fun k => hgt _ (by simp)
  have hgu : ∀ k, lk (argS 0 args ++ hb) (.u k) = lk hb (.u k) := fun k => hgt _ (by simp)
  have hal : Al (lk (argS 0 args ++ hb)) = Al (lk hb) := by funext k; simp only [Al, hgb]
  have hlt : ∀ k, Al (lk hb) k → (bx k).1 < w.heap.size := fun k ⟨e, sz, rows, hk⟩ => by
    obtain ⟨cur, h1, _⟩ := hh.box k e sz rows hk
    exact (Array.getElem?_eq_some_iff.1 h1).1
  have hB : ∀ b, B b → b < w.heap.size → Bf E bx (lk (argS 0 args ++ hb)) b := fun b h1 _ => ⟨.inl h1, fun k hk e => by
    rw [hal] at hk
    exact hh.exc k hk (e ▸ h1)⟩
  have hto : ∀ k, Al (lk (argS 0 args ++ hb)) k → Al (lk hb) k ∧ bx k = bx k := fun k hk => ⟨by rwa [hal] at hk, rfl⟩
  have hSR : SR E bx (lk (argS 0 args ++ hb)) { tmps := vs.toArray ++ Array.replicate (fn.ntmps - vs.toArray.size) undef, defers := [] } w := by
    refine ⟨fun t x ht => ?_, fun k e sz rows hk => ?_, fun k l hk hl => hh.inj k l (by rwa [hal] at hk) (by rwa [hal] at hl), fun k hk => ?_, ?_, rfl, fun k hk => .inr ⟨?_, ?_⟩, fun p hp => (mtOf_of hlow hp).1, fun k g hm hk => (mtOf_of hlow hm).2.2.symm, rfl, rfl, rfl, Nat.le_refl _, fun b hb hm => rfl⟩
    · obtain ⟨a, _, h1, rfl⟩ := argS_t hhb.t ht
      rw [Nat.sub_zero] at h1
      have hl : t < args.length := (List.getElem?_eq_some_iff.1 h1).1
      have hvl : t < vs.length := by rw [hv.1]; exact hl
      have h2 := hv.2 t a _ h1 (List.getElem?_eq_getElem hvl)
      have h3 : (vs.toArray ++ Array.replicate (fn.ntmps - vs.toArray.size) undef).getD t undef = vs[t] := by
        rw [Array.getD_eq_getD_getElem?, Array.getElem?_append_left (by simpa using hvl)]
        simp [hvl]
      show V1r _ _ _ w a _
      rw [h3]
      exact h2.to (Same.refl _ _) hB (fun k _ hk => hto k hk)
    · rw [hgb] at hk
      obtain ⟨cur, h1, h2, h3, h4, h5⟩ := hh.box k e sz rows hk
      refine ⟨cur, h1, h2, h3, h4, fun i r j c hi hj => ?_⟩
      obtain ⟨u, h6, h7⟩ := h5 i r j c hi hj
      exact ⟨u, h6, h7.to (Same.refl _ _) hB (fun k _ hk => hto k hk)⟩
    · rw [hgu] at hk
      refine ⟨fun hk' => hhb.al k (by rwa [hal] at hk') hk, fun t x ht hr => ?_, fun l e sz rows hl r hr c hc hr' => ?_⟩
      · obtain ⟨a, _, h1, rfl⟩ := argS_t hhb.t ht
        exact refsOk_at hra (List.mem_of_getElem? h1) hr hk
      · rw [hgb] at hl
        exact hhb.refs l e sz rows hl r hr c hc k hr' hk
    · show (vs.toArray ++ Array.replicate (fn.ntmps - vs.toArray.size) undef).size = fn.ntmps
      simp [hv.1]; omega
    · rw [hal] at hk; exact .inl (mtOf_of hlow (mtOf_mem (bx := bx) hk)).1
    · rw [hal] at hk; exact ⟨_, mtOf_mem hk, rfl⟩
  refine wp_mono (h E bx _ w rfl hSR) ?_
  rintro e a' w' ⟨σ', bx', hK, hs⟩
  have key : (∃ σ2 xs, Wk σ' σ2 ∧ resL σ2 P fn.results.toList = some xs ∧ tupV xs = y ∧ (∀ k e sz rows, lk hb' (.b k) = .b e sz rows → lk σ2 (.b k) = .b e sz rows)) → a'.defers = [] ∧ ∃ v, (results fn a'.tmps).run P w' = .ok v w' ∧ ∃ v' bx', Ending.returned v = .returned v' ∧ HPost bx bx' B w w' (lk hb) (lk hb') y v' := by
    rintro ⟨σ2, xs, hwk, hres, hy, hbox⟩
    obtain ⟨bx2, hs2⟩ := hwk E bx' a' w' hs
    obtain ⟨v, hrun, hvr⟩ := results_ok hres hs2
    rw [hy] at hvr
    have hal' : ∀ k, Al (lk hb') k → Al (lk σ2) k := fun k ⟨e, sz, rows, hk⟩ => ⟨e, sz, rows, hbox k e sz rows hk⟩
    have hbaft : ∀ b, Bf E bx2 (lk σ2) b → b < w'.heap.size → Baft bx2 B w (lk hb') b := fun b hb _ => ⟨hb.1, fun k hk => hb.2 k (hal' k hk)⟩
    refine ⟨hs2.defers, v, hrun, v, bx2, rfl, ⟨fun k e sz rows hk => ?_, fun k l hk hl => hs2.inj k l (hal' k hk) (hal' l hl), fun k hk hb => hb.2 k hk rfl⟩, hvr.to (Same.refl _ _) hbaft (fun k hk hk' => ⟨hal' k hk', rfl⟩), hs2.os, hs2.tape, hs2.output, hs2.hsize, fun b hb1 hb2 => hs2.old b hb1 (fun k g hm => ?_), fun k hk hk' => ⟨hnum k hk hk', ?_⟩, fun k hk => ?_⟩
    · obtain ⟨cur, h1, h2, h3, h4, h5⟩ := hs2.box k e sz rows (hbox k e sz rows hk)
      refine ⟨cur, h1, h2, h3, h4, fun i r j c hi hj => ?_⟩
      obtain ⟨u, h6, h7⟩ := h5 i r j c hi hj
      exact ⟨u, h6, h7.to (Same.refl _ _) hbaft (fun k hk hk' => ⟨hal' k hk', rfl⟩)⟩
    · obtain ⟨_, h1, h2⟩ := mtOf_of hlow hm
      have h2' : g = bx k := h2
      rw [h2']; exact hb2 k h1
    · exact hs2.ent k _ (mtOf_mem (bx := bx) (hnum k hk hk')) (hal' k hk')
    · rcases hs2.own k (hal' k hk) with h1 | ⟨_, p, hp, h1⟩
      · exact .inl h1
      · obtain ⟨_, h2, h3⟩ := mtOf_of hlow hp
        exact .inr ⟨p.1, h2, by rw [← h3]; exact h1⟩
  cases e with
  | normal => exact key hK
  | ret => exact key hK
  | _ => exact hK.elim
end Go.Proofs.Ytigdfdhjnadieaa

/- A call, told over abstract states; condition: what the operands and the boxes hold. -/
namespace Go.Proofs.Ytigdfdhjnadieaa
set_option linter.unusedVariables false
set_option linter.unusedSimpArgs false
open Go.RowKit

/-- The caller's number of the callee's box k: (callee, caller). -/
abbrev asc (inv : Inv) : Nat → Nat := oldOf inv
def renR (ρ : Nat → Nat) (rows : List (List C)) : List (List C) := rows.map (·.map (C.ren ρ))
theorem renR_dR (ρ : Nat → Nat) (rows : List (List D)) : renR ρ (dR rows) = dR rows := by
  unfold renR dR
  rw [List.map_map]
  refine List.map_congr_left fun r _ => ?_
  show (r.map C.d).map (C.ren ρ) = r.map C.d
  rw [List.map_map]
  rfl
def hbIn (σ : St) (inv : Inv) : St → Prop
  | [] => True
  | (.b k, .b e sz rows) :: l => lk σ (.b (asc inv k)) = .b e sz (renR (asc inv) rows) ∧ hbIn σ inv l
  | (.u _, .u) :: l => hbIn σ inv l
  | _ => False
def outS (inv : Inv) : St → St
  | [] => []
  | (.b k, .b e sz rows) :: l => (.b (asc inv k), .b e sz (renR (asc inv) rows)) :: outS inv l
  | (.u k, .u) :: l => (.u (asc inv k), .u) :: outS inv l
  | _ :: l => outS inv l
def killS (inv : Inv) : St → St
  | [] => []
  | (.b k, .b _ _ _) :: l => (.b (asc inv k), .no) :: killS inv l
  | _ :: l => killS inv l
def keys (σ : St) : List Res := σ.map (·.1)
/-- Numbers: each that is named stands in inv; what comes anew is new to the caller. -/
def numOk (σ : St) (inv : Inv) (hb hb' : St) : Bool :=
  inv.all (fun p => inv.all fun q => (Nat.beq p.1 q.1) == (Nat.beq p.2 q.2)) &&
  (hb ++ hb').all (fun x => match x.1 with
    | .b k => inv.any fun p => Nat.beq p.1 k
    | .u k => inv.any fun p => Nat.beq p.1 k
    | .t _ => false) &&
  hb'.all (fun x => match x.1 with
    | .b k => Nat.ble k 99 || ((match lk σ (.u (asc inv k)) with | .no => true | _ => false) && Nat.ble 100 (asc inv k) && (Nat.ble 1000 (asc inv k) || hb.all fun y => match y.1 with
      | .b l => Nat.ble 100 (asc inv l) && Nat.ble (asc inv l) 999
      | _ => true))
    | .u k => Nat.ble k 99 || (match lk σ (.u (asc inv k)) with | .no => true | _ => false)
    | .t _ => false)
def callable (P : Program) (f : FuncId) : Bool := match P.funcs[f]? with
  | some fn => !(fn.name == "runtime.NumGoroutine") && !fn.body.isNone
  | none => false
theorem run_callFunc {P : Program} {f : FuncId} (h : callable P f = true) (args : Array Value) (w : World) : (callFunc f args).run P w = .ok (.enter f args) w := by
  unfold callable at h
  cases hf : P.funcs[f]? with
  | none => rw [hf] at h; cases h
  | some fn =>
    rw [hf] at h
    simp only [Bool.and_eq_true, Bool.not_eq_true'] at h
    have h1 : fn.name ≠ "runtime.NumGoroutine" := by simpa using h.1
    have h2 : fn.body ≠ none := by intro e; rw [e] at h; cases h.2
    simp [callFunc, hf, h1, h2]
theorem run_callV {P : Program} {f : FuncId} (h : callable P f = true) {ρ : Operand → Value} {o : Oper} {fo : Operand} {xs : Array Operand} {ts : Array TypeId} (ho : o.op = .call { callee := .value fo, args := xs, argTypes := ts }) {cap : Array Value} (hf : ρ fo = .func (.func f) #[] cap) (w : World) :
    (execOp ρ o).run P w = .ok (.enter f (xs.map ρ ++ cap)) w := by
  simp [execOp, ho, resolve, hf, Deferred.ofValue, invoke, run_callFunc h]

section
variable {inv : Inv} {hb hb' σ : St}
theorem numOk_inj (h : numOk σ inv hb hb' = true) {p q : Nat × Nat} (hp : p ∈ inv) (hq : q ∈ inv) : p.1 = q.1 ↔ p.2 = q.2 := by
  simp only [numOk, Bool.and_eq_true] at h
  have := List.all_eq_true.1 (List.all_eq_true.1 h.1.1 p hp) q hq
  simp only [beq_iff_eq] at this
  constructor
  · intro e
    rw [e, Nat.beq_refl] at this
    exact Nat.eq_of_beq_eq_true this.symm
  · intro e
    rw [e, Nat.beq_refl] at this
    exact Nat.eq_of_beq_eq_true this
theorem asc_mem (h : numOk σ inv hb hb' = true) {k l : Nat} (hm : (k, l) ∈ inv) : asc inv k = l := by
  show oldOf inv k = l
  unfold oldOf
  cases hf : inv.find? fun p => Nat.beq p.1 k with
  | none =>
    have := List.find?_eq_none.1 hf (k, l) hm
    simp at this
  | some p =>
    have h1 := List.mem_of_find?_eq_some hf
    have h2 := List.find?_some hf
    exact ((numOk_inj h h1 hm).1 (Nat.eq_of_beq_eq_true h2))
def Key (inv : Inv) (k : Nat) : Prop := (k, asc inv k) ∈ inv
theorem key_inj (h : numOk σ inv hb hb' = true) {k l : Nat} (hk : Key inv k) (hl : Key inv l) (e : asc inv k = asc inv l) : k = l := (numOk_inj h hk hl).2 e
theorem numOk_key (h : numOk σ inv hb hb' = true) {r : Res} {x : RC} (hm : (r, x) ∈ hb ∨ (r, x) ∈ hb') : (∃ k, r = .b k ∧ Key inv k) ∨ ∃ k, r = .u k ∧ Key inv k := by
  have h0 := h
  simp only [numOk, Bool.and_eq_true] at h
  have h1 := List.all_eq_true.1 h.1.2 (r, x) (List.mem_append.2 hm)
  cases r with
  | t n => cases h1
  | b k =>
    obtain ⟨p, hp, h2⟩ := List.any_eq_true.1 h1
    have := Nat.eq_of_beq_eq_true h2
    subst this
    exact .inl ⟨_, rfl, by rw [Key, asc_mem h0 hp]; exact hp⟩
  | u k =>
    obtain ⟨p, hp, h2⟩ := List.any_eq_true.1 h1
    have := Nat.eq_of_beq_eq_true h2
    subst this
    exact .inr ⟨_, rfl, by rw [Key, asc_mem h0 hp]; exact hp⟩
theorem key_b (h : numOk σ inv hb hb' = true) {k : Nat} {x : RC} (hm : (Res.b k, x) ∈ hb ∨ (Res.b k, x) ∈ hb') : Key inv k := by
  rcases numOk_key h hm with ⟨l, e, hl⟩ | ⟨l, e, hl⟩
  · cases e; exact hl
  · cases e
theorem key_u (h : numOk σ inv hb hb' = true) {k : Nat} {x : RC} (hm : (Res.u k, x) ∈ hb ∨ (Res.u k, x) ∈ hb') : Key inv k := by
  rcases numOk_key h hm with ⟨l, e, hl⟩ | ⟨l, e, hl⟩
  · cases e
  · cases e; exact hl
theorem numOk_new (h : numOk σ inv hb hb' = true) {k : Nat} {x : RC} (hm : (Res.b k, x) ∈ hb') (hk : 100 ≤ k) : lk σ (.u (asc inv k)) = .no ∧ 100 ≤ asc inv k ∧ (1000 ≤ asc inv k ∨ ∀ l x, (Res.b l, x) ∈ hb → 100 ≤ asc inv l ∧ asc inv l < 1000) := by
  simp only [numOk, Bool.and_eq_true] at h
  have h1 := List.all_eq_true.1 h.2 _ hm
  simp only [Bool.or_eq_true, Bool.and_eq_true] at h1
  rcases h1 with h1 | ⟨⟨h1, h2⟩, h3⟩
  · have := Nat.le_of_ble_eq_true h1; omega
  · refine ⟨?_, Nat.le_of_ble_eq_true h2, ?_⟩
    · split at h1
      · assumption
      · cases h1
    · rcases h3 with h3 | h3
      · exact .inl (Nat.le_of_ble_eq_true h3)
      · refine .inr fun l x hl => ?_
        have h4 := List.all_eq_true.1 h3 _ hl
        simp only [Bool.and_eq_true] at h4
        have := Nat.le_of_ble_eq_true h4.1; have := Nat.le_of_ble_eq_true h4.2
        omega
theorem numOk_newU (h : numOk σ inv hb hb' = true) {k : Nat} {x : RC} (hm : (Res.u k, x) ∈ hb') (hk : 100 ≤ k) : lk σ (.u (asc inv k)) = .no := by
  simp only [numOk, Bool.and_eq_true] at h
  have h1 := List.all_eq_true.1 h.2 _ hm
  simp only [Bool.or_eq_true] at h1
  rcases h1 with h1 | h1
  · have := Nat.le_of_ble_eq_true h1; omega
  · split at h1
    · assumption
    · cases h1
end
theorem hbIn_at {σ hb : St} {inv : Inv} : ∀ {l : St}, hbIn σ inv l → ∀ {k : Nat} {e : TypeId} {sz : Nat} {rows : List (List C)}, (Res.b k, RC.b e sz rows) ∈ l → lk σ (.b (asc inv k)) = .b e sz (renR (asc inv) rows)
  | [], _, _, _, _, _, h => by cases h
  | p :: l, hk, k, e, sz, rows, h => by
    rcases List.mem_cons.1 h with rfl | h2
    · exact hk.1
    · clear h
      obtain ⟨r, c⟩ := p
      cases r <;> cases c <;> first | exact hk.elim | exact hbIn_at (hb := hb) hk.2 h2 | exact hbIn_at (hb := hb) (l := l) hk h2
theorem outS_b {inv : Inv} : ∀ {l : St} {m : Nat} {x : RC}, (Res.b m, x) ∈ outS inv l → ∃ k e sz rows, (Res.b k, RC.b e sz rows) ∈ l ∧ m = asc inv k ∧ x = .b e sz (renR (asc inv) rows)
  | [], _, _, h => by cases h
  | p :: l, m, x, h => by
    obtain ⟨r, c⟩ := p
    cases r <;> cases c
    case b.b k e sz rows =>
      rcases List.mem_cons.1 h with h | h
      · cases h; exact ⟨k, e, sz, rows, List.mem_cons_self, rfl, rfl⟩
      · obtain ⟨k, e, sz, rows, h1, h2⟩ := outS_b h; exact ⟨k, e, sz, rows, List.mem_cons_of_mem _ h1, h2⟩
    case u.u k =>
      rcases List.mem_cons.1 h with h | h
      · cases h
      · obtain ⟨k, e, sz, rows, h1, h2⟩ := outS_b h; exact ⟨k, e, sz, rows, List.mem_cons_of_mem _ h1, h2⟩
    all_goals (obtain ⟨k, e, sz, rows, h1, h2⟩ := outS_b (l := l) h; exact ⟨k, e, sz, rows, List.mem_cons_of_mem _ h1, h2⟩)
theorem outS_u {inv : Inv} : ∀ {l : St} {m : Nat} {x : RC}, (Res.u m, x) ∈ outS inv l → ∃ k, (Res.u k, RC.u) ∈ l ∧ m = asc inv k ∧ x = .u
  | [], _, _, h => by cases h
  | p :: l, m, x, h => by
    obtain ⟨r, c⟩ := p
    cases r <;> cases c
    case b.b k e sz rows =>
      rcases List.mem_cons.1 h with h | h
      · cases h
      · obtain ⟨k, h1, h2⟩ := outS_u h; exact ⟨k, List.mem_cons_of_mem _ h1, h2⟩
    case u.u k =>
      rcases List.mem_cons.1 h with h | h
      · cases h; exact ⟨k, List.mem_cons_self, rfl, rfl⟩
      · obtain ⟨k, h1, h2⟩ := outS_u h; exact ⟨k, List.mem_cons_of_mem _ h1, h2⟩
    all_goals (obtain ⟨k, h1, h2⟩ := outS_u (l := l) h; exact ⟨k, List.mem_cons_of_mem _ h1, h2⟩)
/-- Lists of boxes in which each box stands with its contents. -/
def flatS (hb : St) : Prop := (∀ k e sz rows, (Res.b k, RC.b e sz rows) ∈ hb → lk hb (.b k) = .b e sz rows) ∧ (∀ k x, (Res.b k, x) ∈ hb → ∃ e sz rows, x = .b e sz rows) ∧ ∀ k x, (Res.u k, x) ∈ hb → x = .u
theorem flatS.nil : flatS [] := ⟨fun k e sz rows h => (by cases h), fun k x h => (by cases h), fun k x h => (by cases h)⟩
theorem flatS.cons {hb : St} (h : flatS hb) {k : Nat} {e : TypeId} {sz : Nat} {rows : List (List C)} (hk : lk hb (.b k) = .no) : flatS ((.b k, .b e sz rows) :: (.u k, .u) :: hb) := by
  refine ⟨fun l e' sz' rows' hm => ?_, fun l x hm => ?_, fun l x hm => ?_⟩
  · rcases List.mem_cons.1 hm with hm | hm
    · cases hm; rw [lk_cons, upd_same]
    · rcases List.mem_cons.1 hm with hm | hm
      · cases hm
      · have h1 := h.1 l e' sz' rows' hm
        have hne : l ≠ k := fun e1 => by subst e1; rw [hk] at h1; cases h1
        rw [lk_cons, upd_other _ _ (by simpa using hne), lk_cons, upd_other _ _ (by simp)]; exact h1
  · rcases List.mem_cons.1 hm with hm | hm
    · cases hm; exact ⟨_, _, _, rfl⟩
    · rcases List.mem_cons.1 hm with hm | hm
      · cases hm
      · exact h.2.1 l x hm
  · rcases List.mem_cons.1 hm with hm | hm
    · cases hm
    · rcases List.mem_cons.1 hm with hm | hm
      · cases hm; rfl
      · exact h.2.2 l x hm

/-- Behind a call: the state τn tells of the world w'. -/
theorem SR.called {E : Env} {bx bxc : Nat → Nat × Nat} {τ τn : Res → RC} {a : Act} {w w' : World} {hb hb' : St} {ρ : Nat → Nat} {y : V} {v : Value} {K : Nat → Prop} (hs : SR E bx τ a w)
    (hpost : HPost (fun k => bx (ρ k)) bxc (Bf E bx τ) w w' (lk hb) (lk hb') y v)
    (hin : ∀ k, Al (lk hb) k → Al τ (ρ k)) (hinj : ∀ k l, K k → K l → ρ k = ρ l → k = l) (hK : ∀ k, Al (lk hb) k → K k) (hK' : ∀ k, lk hb' (.u k) ≠ .no → K k)
    (hHB' : HB hb') (hyK : ∀ k ∈ y.refs, K k)
    (tt : ∀ t, τn (.t t) = τ (.t t)) (tb : ∀ k e sz rows, lk hb' (.b k) = .b e sz rows → τn (.b (ρ k)) = .b e sz (renR ρ rows))
    (tk : ∀ l e sz rows, τn (.b l) = .b e sz rows → (∃ k rows0, l = ρ k ∧ lk hb' (.b k) = .b e sz rows0 ∧ rows = renR ρ rows0) ∨ ((∀ k, K k → l ≠ ρ k) ∧ τ (.b l) = .b e sz rows))
    (tu : ∀ k, lk hb' (.u k) ≠ .no → τn (.u (ρ k)) ≠ .no) (tu' : ∀ l, τn (.u l) = .no → τ (.u l) = .no)
    (hnew : ∀ k, Al (lk hb') k → 100 ≤ k → τ (.u (ρ k)) = .no ∧ 100 ≤ ρ k ∧ (1000 ≤ ρ k ∨ ∀ l, Al (lk hb) l → 100 ≤ ρ l ∧ ρ l < 1000)) :
    ∃ bxn, SR E bxn τn a w' ∧ Vr bxn (Al τn) (Bf E bxn τn) w' (y.ren ρ) v := by
  have hex : ∃ bxn : Nat → Nat × Nat, (∀ k, K k → Al (lk hb') k → bxn (ρ k) = bxc k) ∧ ∀ l, (¬ ∃ k, K k ∧ ρ k = l ∧ Al (lk hb') k) → bxn l = bx l := by
    classical
    refine ⟨fun l => if h : ∃ k, K k ∧ ρ k = l ∧ Al (lk hb') k then bxc (Classical.choose h) else bx l, fun k h1 h2 => ?_, fun l h => ?_⟩
    · have h : ∃ k', K k' ∧ ρ k' = ρ k ∧ Al (lk hb') k' := ⟨k, h1, rfl, h2⟩
      have h3 := Classical.choose_spec h
      show (if h : ∃ k', K k' ∧ ρ k' = ρ k ∧ Al (lk hb') k' then bxc (Classical.choose h) else bx (ρ k)) = bxc k
      rw [dif_pos h, hinj _ _ h3.1 h1 h3.2.1]
    · show (if h : ∃ k', K k' ∧ ρ k' = l ∧ Al (lk hb') k' then bxc (Classical.choose h) else bx l) = bx l
      rw [dif_neg h]
  obtain ⟨bxn, hbn, hbo⟩ := hex
  have hal : ∀ l, Al τn l → (∃ k, K k ∧ ρ k = l ∧ Al (lk hb') k) ∨ ((∀ k, K k → l ≠ ρ k) ∧ Al τ l) := by
    rintro l ⟨e, sz, rows, h⟩
    rcases tk l e sz rows h with ⟨k, rows0, h1, h2, _⟩ | ⟨h1, h2⟩
    · have h3 : Al (lk hb') k := ⟨_, _, _, h2⟩
      exact .inl ⟨k, hK' k (hHB'.al k h3), h1.symm, h3⟩
    · exact .inr ⟨h1, _, _, _, h2⟩
  have hno : ∀ l, (∀ k, K k → l ≠ ρ k) → bxn l = bx l := fun l h => hbo l fun ⟨k, h1, h2, _⟩ => h k h1 h2.symm
  have hsame : Same (Bf E bx τ) w w' := fun b hb hl => hpost.old b hl fun k hk => hb.2 (ρ k) (hin k hk)
  have hbf : ∀ b, Bf E bx τ b → b < w.heap.size → Bf E bxn τn b := fun b hb hl => by
    refine ⟨hb.1, fun l hl' e => ?_⟩
    rcases hal l hl' with ⟨k, h1, h2, h3⟩ | ⟨h1, h2⟩
    · subst h2
      rw [hbn k h1 h3] at e
      rcases hpost.new k h3 with h4 | ⟨l0, h4, h5⟩
      · omega
      · exact hb.2 (ρ l0) (hin l0 h4) (e.trans h5.symm)
    · rw [hno l h1] at e
      exact hb.2 l h2 e
  have href : ∀ k0, τ (.u k0) ≠ .no → Al τn k0 → Al τ k0 ∧ bxn k0 = bx k0 := fun k0 h1 h2 => by
    rcases hal k0 h2 with ⟨k, h3, h4, h5⟩ | ⟨h3, h4⟩
    · subst h4
      by_cases h100 : k < 100
      · obtain ⟨h6, h7⟩ := hpost.same k h100 h5
        exact ⟨hin k h6, (hbn k h3 h5).trans h7⟩
      · exact absurd (hnew k h5 (by omega)).1 h1
    · exact ⟨h4, hno k0 h3⟩
  have hbaft : ∀ b, Baft bxc (Bf E bx τ) w (lk hb') b → b < w'.heap.size → Bf E bxn τn b := fun b hb _ => by
    refine ⟨?_, fun l hl' e => ?_⟩
    · rcases hb.1 with h1 | h1
      · exact h1.1
      · exact .inr (Nat.le_trans hs.hsize h1)
    · rcases hal l hl' with ⟨k, h1, h2, h3⟩ | ⟨h1, h2⟩
      · subst h2
        rw [hbn k h1 h3] at e
        exact hb.2 k h3 e
      · rw [hno l h1] at e
        rcases hb.1 with h3 | h3
        · exact h3.2 l h2 e
        · have := hs.lt h2; omega
  have hto : ∀ k, K k → Al τn (ρ k) → Al (lk hb') k ∧ bxn (ρ k) = bxc k := fun k h1 h2 => by
    rcases hal _ h2 with ⟨k', h3, h4, h5⟩ | ⟨h3, _⟩
    · have := hinj _ _ h3 h1 h4
      subst this
      exact ⟨h5, hbn _ h3 h5⟩
    · exact absurd rfl (h3 k h1)
  refine ⟨bxn, ⟨fun t x ht => ?_, fun l e sz rows hl => ?_, fun l m hl hm he => ?_, fun l hl => ⟨fun h => ?_, fun t x ht hr => ?_, fun m e sz rows hm r hr c hc hr' => ?_⟩, hs.size, hs.defers, fun l hl => ?_, hs.mtl, fun l g hm hl => ?_, hpost.os.trans hs.os, hpost.tape.trans hs.tape, hpost.output.trans hs.output, Nat.le_trans hs.hsize hpost.size, fun b hb hm => ?_⟩, Vr.ren.1 (hpost.val.to (Same.refl _ _) hbaft (fun k hk h => hto k (hyK k hk) h))⟩
  · rw [tt] at ht
    exact (hs.slot t x ht).to hsame hbf (fun k0 hk0 => href k0 (fun hu => (hs.unused k0 hu).2.1 t x ht hk0))
  · rcases tk l e sz rows hl with ⟨k, rows0, rfl, h2, rfl⟩ | ⟨h1, h2⟩
    · have h3 : Al (lk hb') k := ⟨_, _, _, h2⟩
      rw [hbn k (hK' k (hHB'.al k h3)) h3]
      obtain ⟨cur, q1, q2, q3, q4, q5⟩ := hpost.ok.box k e sz rows0 h2
      refine ⟨cur, q1, q2, by rw [renR, List.length_map]; exact q3, fun i r hi => ?_, fun i r j c hi hj => ?_⟩
      · rw [renR, List.getElem?_map] at hi
        cases hr : rows0[i]? with
        | none => rw [hr] at hi; cases hi
        | some r0 => rw [hr] at hi; cases hi; rw [List.length_map]; exact q4 i r0 hr
      · rw [renR, List.getElem?_map] at hi
        cases hr : rows0[i]? with
        | none => rw [hr] at hi; cases hi
        | some r0 =>
          rw [hr] at hi; cases hi
          rw [List.getElem?_map] at hj
          cases hc : r0[j]? with
          | none => rw [hc] at hj; cases hj
          | some c0 =>
            rw [hc] at hj; cases hj
            obtain ⟨u, h6, h7⟩ := q5 i r0 j c0 hr hc
            exact ⟨u, h6, Cr.ren.1 (h7.to (Same.refl _ _) hbaft (fun k1 hk1 h => hto k1 (hK' k1 (hHB'.refs k e sz rows0 h2 r0 (List.mem_of_getElem? hr) c0 (List.mem_of_getElem? hc) k1 hk1)) h))⟩
    · rw [hno l h1]
      obtain ⟨cur, q1, q2, q3, q4, q5⟩ := hs.box l e sz rows h2
      have h3 : Al τ l := ⟨_, _, _, h2⟩
      refine ⟨cur, (hpost.old _ (hs.lt h3) (fun k hk e1 => h1 k (hK k hk) (hs.inj _ _ h3 (hin k hk) e1))).trans q1, q2, q3, q4, fun i r j c hi hj => ?_⟩
      obtain ⟨u, h6, h7⟩ := q5 i r j c hi hj
      exact ⟨u, h6, h7.to hsame hbf (fun k0 hk0 => href k0 (fun hu => (hs.unused k0 hu).2.2 l e sz rows h2 r (List.mem_of_getElem? hi) c (List.mem_of_getElem? hj) hk0))⟩
  · have hsep : ∀ k m, K k → Al (lk hb') k → (∀ k, K k → m ≠ ρ k) → Al τ m → (bxc k).1 ≠ (bx m).1 := fun k m h1 h2 h3 h4 e => by
      rcases hpost.new k h2 with h5 | ⟨l0, h5, h6⟩
      · have := hs.lt h4; omega
      · exact h3 l0 (hK l0 h5) (hs.inj _ _ h4 (hin l0 h5) (e.symm.trans h6.symm))
    rcases hal l hl with ⟨k, h1, rfl, h3⟩ | ⟨h1, h2⟩ <;> rcases hal m hm with ⟨k2, g1, rfl, g3⟩ | ⟨g1, g2⟩
    · rw [hbn k h1 h3, hbn k2 g1 g3] at he
      rw [hpost.ok.inj k k2 h3 g3 he]
    · rw [hbn k h1 h3, hno m g1] at he
      exact absurd he (hsep k m h1 h3 g1 g2)
    · rw [hbn k2 g1 g3, hno l h1] at he
      exact absurd he.symm (hsep k2 l g1 g3 h1 h2)
    · rw [hno l h1, hno m g1] at he
      exact hs.inj l m h2 g2 he
  · rcases hal l h with ⟨k, h1, rfl, h3⟩ | ⟨h1, h2⟩
    · exact tu k (hHB'.al k h3) hl
    · exact (hs.unused l (tu' l hl)).1 h2
  · rw [tt] at ht
    exact (hs.unused l (tu' l hl)).2.1 t x ht hr
  · rcases tk m e sz rows hm with ⟨k, rows0, rfl, h2, rfl⟩ | ⟨h1, h2⟩
    · obtain ⟨r0, hr0, rfl⟩ := List.mem_map.1 hr
      obtain ⟨c0, hc0, rfl⟩ := List.mem_map.1 hc
      obtain ⟨k1, hk1, rfl⟩ := C.refs_ren hr'
      exact tu k1 (hHB'.refs k e sz rows0 h2 r0 hr0 c0 hc0 k1 hk1) hl
    · exact (hs.unused l (tu' l hl)).2.2 m e sz rows h2 r hr c hc hr'
  · rcases hal l hl with ⟨k, h1, rfl, h3⟩ | ⟨h1, h2⟩
    · rw [hbn k h1 h3]
      by_cases h100 : k < 100
      · obtain ⟨h6, h7⟩ := hpost.same k h100 h3
        rw [h7]; exact hs.own (ρ k) (hin k h6)
      · obtain ⟨_, h7, h8⟩ := hnew k h3 (by omega)
        rcases hpost.new k h3 with h9 | ⟨l0, h9, h10⟩
        · exact .inl (Nat.le_trans hs.hsize h9)
        · rw [← h10]
          rcases hs.own (ρ l0) (hin l0 h9) with g1 | ⟨g1, g2⟩
          · exact .inl g1
          · rcases h8 with h8 | h8
            · exact .inr ⟨.inr h8, g2⟩
            · have := h8 l0 h9; omega
    · rw [hno l h1]; exact hs.own l h2
  · rcases hal l hl with ⟨k, h1, rfl, h3⟩ | ⟨h1, h2⟩
    · rw [hbn k h1 h3]
      by_cases h100 : k < 100
      · obtain ⟨h6, h7⟩ := hpost.same k h100 h3
        rw [h7]; exact hs.ent (ρ k) g hm (hin k h6)
      · have h7 := hs.mtl _ hm
        have h8 := (hnew k h3 (by omega)).2.1
        simp at h7; omega
    · rw [hno l h1]; exact hs.ent l g hm h2
  · refine (hpost.old b (Nat.lt_of_lt_of_le hb hs.hsize) fun k hk e => ?_).trans (hs.old b hb hm)
    rcases hs.own (ρ k) (hin k hk) with h1 | ⟨_, p, hp, h1⟩
    · have e' : b = (bx (ρ k)).1 := e
      omega
    · exact hm p.1 p.2 hp (e.trans h1.symm)
end Go.Proofs.Ytigdfdhjnadieaa

/- A call as an operation, told over abstract states; condition: what the operands and the boxes hold. -/
namespace Go.Proofs.Ytigdfdhjnadieaa
set_option linter.unusedVariables false
set_option linter.unusedSimpArgs false
open Go.RowKit

theorem lk_app_o : ∀ {l1 l2 : St} {r : Res}, r ∉ keys l1 → lk (l1 ++ l2) r = lk l2 r
  | [], _, _, _ => rfl
  | (q, x) :: l, l2, r, h => by
    simp only [keys, List.map_cons, List.mem_cons, not_or] at h
    rw [List.cons_append, lk_cons, upd_other _ _ h.1]
    exact lk_app_o h.2
theorem lk_app_s : ∀ {l1 l2 : St} {r : Res}, r ∈ keys l1 → lk (l1 ++ l2) r = lk l1 r
  | [], _, _, h => by cases h
  | (q, x) :: l, l2, r, h => by
    rw [List.cons_append, lk_cons, lk_cons]
    by_cases e : r = q
    · subst e; rw [upd_same, upd_same]
    · rw [upd_other _ _ e, upd_other _ _ e]
      simp only [keys, List.map_cons, List.mem_cons] at h
      exact lk_app_s (h.resolve_left e)
theorem lk_key : ∀ {l : St} {r : Res}, r ∈ keys l → (r, lk l r) ∈ l
  | [], _, h => by cases h
  | (q, x) :: l, r, h => by
    rw [lk_cons]
    by_cases e : r = q
    · subst e; rw [upd_same]; exact List.mem_cons_self
    · rw [upd_other _ _ e]
      simp only [keys, List.map_cons, List.mem_cons] at h
      exact List.mem_cons_of_mem _ (lk_key (h.resolve_left e))
theorem key_of {l : St} {r : Res} {x : RC} (h : (r, x) ∈ l) : r ∈ keys l := List.mem_map.2 ⟨_, h, rfl⟩
theorem outS_b' {inv : Inv} : ∀ {l : St} {k : Nat} {e : TypeId} {sz : Nat} {rows : List (List C)}, (Res.b k, RC.b e sz rows) ∈ l → (Res.b (asc inv k), RC.b e sz (renR (asc inv) rows)) ∈ outS inv l
  | [], _, _, _, _, h => by cases h
  | p :: l, k, e, sz, rows, h => by
    rcases List.mem_cons.1 h with rfl | h2
    · exact List.mem_cons_self
    · clear h
      obtain ⟨r, c⟩ := p
      cases r <;> cases c <;> first | exact List.mem_cons_of_mem _ (outS_b' h2) | exact outS_b' (l := l) h2
theorem outS_u' {inv : Inv} : ∀ {l : St} {k : Nat}, (Res.u k, RC.u) ∈ l → (Res.u (asc inv k), RC.u) ∈ outS inv l
  | [], _, h => by cases h
  | p :: l, k, h => by
    rcases List.mem_cons.1 h with rfl | h2
    · exact List.mem_cons_self
    · clear h
      obtain ⟨r, c⟩ := p
      cases r <;> cases c <;> first | exact List.mem_cons_of_mem _ (outS_u' h2) | exact outS_u' (l := l) h2
theorem killS_b {inv : Inv} : ∀ {l : St} {r : Res} {x : RC}, (r, x) ∈ killS inv l → x = .no ∧ ∃ k e sz rows, (Res.b k, RC.b e sz rows) ∈ l ∧ r = .b (asc inv k)
  | [], _, _, h => by cases h
  | p :: l, r', x, h => by
    obtain ⟨r, c⟩ := p
    cases r <;> cases c
    case b.b k e sz rows =>
      rcases List.mem_cons.1 h with h | h
      · cases h; exact ⟨rfl, k, e, sz, rows, List.mem_cons_self, rfl⟩
      · obtain ⟨h0, k, e, sz, rows, h1, h2⟩ := killS_b h; exact ⟨h0, k, e, sz, rows, List.mem_cons_of_mem _ h1, h2⟩
    all_goals (obtain ⟨h0, k, e, sz, rows, h1, h2⟩ := killS_b (l := l) h; exact ⟨h0, k, e, sz, rows, List.mem_cons_of_mem _ h1, h2⟩)
theorem killS_b' {inv : Inv} : ∀ {l : St} {k : Nat} {e : TypeId} {sz : Nat} {rows : List (List C)}, (Res.b k, RC.b e sz rows) ∈ l → Res.b (asc inv k) ∈ keys (killS inv l)
  | [], _, _, _, _, h => by cases h
  | p :: l, k, e, sz, rows, h => by
    rcases List.mem_cons.1 h with rfl | h2
    · exact List.mem_cons_self
    · clear h
      obtain ⟨r, c⟩ := p
      cases r <;> cases c <;> first | exact List.mem_cons_of_mem _ (killS_b' h2) | exact killS_b' (l := l) h2
/-- Each mark has its box. -/
def pairs : St → Bool
  | [] => true
  | (.b k, .b _ _ _) :: (.u l, .u) :: r => Nat.beq k l && pairs r
  | _ => false
theorem pairs_u : ∀ {l : St}, pairs l = true → ∀ {k : Nat} {x : RC}, (Res.u k, x) ∈ l → ∃ e sz rows, (Res.b k, RC.b e sz rows) ∈ l
  | [], _, k, x, h => by cases h
  | [p], hp, k, x, h => by obtain ⟨r, c⟩ := p; cases r <;> cases c <;> cases hp
  | p :: q :: l, hp, k, x, h => by
    obtain ⟨r, c⟩ := p
    obtain ⟨r2, c2⟩ := q
    cases r <;> cases c <;> cases r2 <;> cases c2 <;> first
      | (cases hp; done)
      | (rename_i k0 e sz rows k1
         rw [pairs, Bool.and_eq_true] at hp
         have hk := Nat.eq_of_beq_eq_true hp.1
         subst hk
         rcases List.mem_cons.1 h with h | h
         · cases h
         · rcases List.mem_cons.1 h with h | h
           · cases h; exact ⟨_, _, _, List.mem_cons_self⟩
           · obtain ⟨e, sz, rows, h⟩ := pairs_u hp.2 h
             exact ⟨e, sz, rows, List.mem_cons_of_mem _ (List.mem_cons_of_mem _ h)⟩)

/-- What a function value brings along. -/
def fnx : C → Option (FuncId × List V1)
  | .fn f cap => some (f, cap.map fun c => .c (.ptr c))
  | .fb f k sz => some (f, [.c (.box k sz 0 0)])
  | _ => none
theorem fnx_ok {bx : Nat → Nat × Nat} {al B : Nat → Prop} {w : World} {fc : C} {f : FuncId} {ex : List V1} {v : Value} (h : fnx fc = some (f, ex)) (hv : Cr bx al B w fc v) : ∃ cvs : List Value, v = .func (.func f) #[] cvs.toArray ∧ cvs.length = ex.length ∧ ∀ (i : Nat) x u, ex[i]? = some x → cvs[i]? = some u → V1r bx al B w x u := by
  cases fc with
  | fn f cap =>
    cases h
    obtain ⟨vs, rfl, hl, h⟩ := hv
    refine ⟨vs, rfl, by rw [hl, List.length_map], fun i x u hx hu => ?_⟩
    rw [List.getElem?_map] at hx
    cases hc : cap[i]? with
    | none => rw [hc] at hx; cases hx
    | some c => rw [hc] at hx; cases hx; exact h i c u hc hu
  | fb f k sz =>
    cases h
    obtain ⟨u, rfl, h1, h⟩ := hv
    refine ⟨[u], rfl, rfl, fun i x u' hx hu => ?_⟩
    cases i with
    | zero => cases hx; cases hu; exact ⟨h1, fun hk => by rw [h hk]; simp⟩
    | succ i => simp at hx
  | d x => cases h
  | ptr c => cases h
  | box k sz i j => cases h
  | own k sz n => cases h
theorem St1.callX {P : Program} {n : Nat} {ops : Array Oper} {o : Oper} {σ : St} {d : Nat} {fo : Operand} {ar : Array Operand} {ts : Array TypeId} {xs : List Operand} {vs : List V1} {fc : C} {f : FuncId} {ex : List V1} {hb hb' : St} {args : List V1} {y : V} (inv : Inv)
    (ho : o.op = .call { callee := .value fo, args := ar, argTypes := ts }) (hg : o.guard = none) (hd : o.dst = some d) (hn : Nat.blt d n = true) (has : ar = xs.toArray) (hfo : ev σ fo = some (.o (.c fc))) (hfx : fnx fc = some (f, ex)) (hcall : callable P f = true) (hx : evL σ xs = some vs) (hF : Fn P f hb args y hb')
    (hargs : args.map (V1.ren (asc inv)) = vs ++ ex) (hbox : hbIn σ inv hb) (hnum : numOk σ inv hb hb' = true) (hfl : flatS hb) (hfl' : flatS hb') (hHB' : HB hb') (hpr : pairs hb' = true) (hy : (y.refs.all fun k => match lk hb' (.u k) with | .u => true | _ => false) = true) :
    St1 P n ops o σ ((rd fo ++ rdL xs) ++ (keys (outS inv hb') ++ keys (killS inv hb))) (.t d :: (keys (outS inv hb') ++ keys (killS inv hb))) ((.t d, .v (y.ren (asc inv))) :: (outS inv hb' ++ (killS inv hb ++ σ))) := by
  have hdis : ∀ r, r ∉ keys (outS inv hb') ++ keys (killS inv hb) → lk (outS inv hb' ++ (killS inv hb ++ σ)) r = lk σ r := fun r hr => by
    rw [List.mem_append, not_or] at hr
    rw [lk_app_o hr.1, lk_app_o hr.2]
  refine ⟨fun r hr => ?_, fun E bx τ a w hE hR hs => OW.plain hg fun Q => ?_⟩
  · rw [List.mem_cons, not_or] at hr
    rw [lk_other _ _ _ _ (fun e => hr.1 e.symm)]
    exact hdis r hr.2
  · have hR1 : ∀ r ∈ rd fo, τ r = lk σ r := rd_l (rd_l hR)
    have hR2 : ∀ r ∈ rdL xs, τ r = lk σ r := rd_r (rd_l hR)
    have hR3 : ∀ r ∈ keys (outS inv hb') ++ keys (killS inv hb), τ r = lk σ r := rd_r hR
    obtain ⟨cvs, hfe, hcl, hcv⟩ := fnx_ok hfx (ev_ok hfo hR1 hs).1
    obtain ⟨⟨q1, q2⟩, _⟩ := evL_ok hx hR2 hs
    subst has
    -- the boxes that are handed
    have hmem : ∀ k e sz rows, lk hb (.b k) = .b e sz rows → (Res.b k, RC.b e sz rows) ∈ hb := fun k e sz rows h => lk_mem h (by simp)
    have hmem' : ∀ k e sz rows, lk hb' (.b k) = .b e sz rows → (Res.b k, RC.b e sz rows) ∈ hb' := fun k e sz rows h => lk_mem h (by simp)
    have hτ : ∀ k e sz rows, lk hb (.b k) = .b e sz rows → τ (.b (asc inv k)) = .b e sz (renR (asc inv) rows) := fun k e sz rows h => by
      rw [hR3 _ (List.mem_append_right _ (killS_b' (hmem k e sz rows h)))]
      exact hbIn_at (hb := hb) hbox (hmem k e sz rows h)
    have hin : ∀ k, Al (lk hb) k → Al τ (asc inv k) := fun k ⟨e, sz, rows, h⟩ => ⟨e, sz, _, hτ k e sz rows h⟩
    have hkey : ∀ k, Al (lk hb) k → Key inv k := fun k ⟨e, sz, rows, h⟩ => key_b hnum (.inl (hmem k e sz rows h))
    have hto : ∀ k, Al (lk hb) k → Al τ (asc inv k) ∧ bx (asc inv k) = bx (asc inv k) := fun k hk => ⟨hin k hk, rfl⟩
    have hHOk : HOk (fun k => bx (asc inv k)) (Bf E bx τ) w (lk hb) := by
      refine ⟨fun k e sz rows h => ?_, fun k l hk hl e => key_inj hnum (hkey k hk) (hkey l hl) (hs.inj _ _ (hin k hk) (hin l hl) e), fun k hk hB => hB.2 _ (hin k hk) rfl⟩
      obtain ⟨cur, h1, h2, h3, h4, h5⟩ := hs.box _ e sz _ (hτ k e sz rows h)
      refine ⟨cur, h1, h2, by rw [renR, List.length_map] at h3; exact h3, fun i r hi => ?_, fun i r j c hi hj => ?_⟩
      · have := h4 i (r.map (C.ren (asc inv))) (by rw [renR, List.getElem?_map, hi]; rfl); rwa [List.length_map] at this
      · obtain ⟨u, h6, h7⟩ := h5 i (r.map (C.ren (asc inv))) j (c.ren (asc inv)) (by rw [renR, List.getElem?_map, hi]; rfl) (by rw [List.getElem?_map, hj]; rfl)
        exact ⟨u, h6, (Cr.ren.2 h7).to (Same.refl _ _) (fun _ h _ => h) (fun k _ hk => hto k hk)⟩
    have hvals : Vals (V1r (fun k => bx (asc inv k)) (Al (lk hb)) (Bf E bx τ) w) args (xs.map a.eval ++ cvs) := by
      have hlen : args.length = vs.length + ex.length := by have := congrArg List.length hargs; simpa using this
      refine ⟨by rw [List.length_append, q1, hcl, hlen], fun i x v hx hv => ?_⟩
      have hxi : (vs ++ ex)[i]? = some (x.ren (asc inv)) := by rw [← hargs, List.getElem?_map, hx]; rfl
      have h1 : V1r bx (Al τ) (Bf E bx τ) w (x.ren (asc inv)) v := by
        rw [List.getElem?_append] at hxi hv
        by_cases hi : i < vs.length
        · rw [if_pos hi] at hxi
          rw [if_pos (by rw [q1]; exact hi)] at hv
          exact q2 i _ v hxi hv
        · rw [if_neg hi] at hxi
          rw [if_neg (by rw [q1]; exact hi), q1] at hv
          exact hcv _ _ v hxi hv
      exact (V1r.ren.2 h1).to (Same.refl _ _) (fun _ h _ => h) (fun k _ hk => hto k hk)
    unfold Oper.wp
    rw [run_callV hcall ho hfe w, Oper.upon_enter, hd, show xs.toArray.map a.eval ++ cvs.toArray = (xs.map a.eval ++ cvs).toArray by simp]
    refine (hF (Bf E bx τ) (fun k => bx (asc inv k)) w _ hHOk hvals).mono ?_
    rintro e w' ⟨v, bxc, rfl, hpost⟩
    -- the state behind it
    let Kk : Nat → Prop := fun k => (∃ e sz rows, (Res.b k, RC.b e sz rows) ∈ hb) ∨ ∃ e sz rows, (Res.b k, RC.b e sz rows) ∈ hb'
    have hKkey : ∀ k, Kk k → Key inv k := fun k h => by
      rcases h with ⟨e, sz, rows, h⟩ | ⟨e, sz, rows, h⟩
      · exact key_b hnum (.inl h)
      · exact key_b hnum (.inr h)
    have hKu : ∀ k, lk hb' (.u k) ≠ .no → Kk k := fun k h => .inr (pairs_u hpr (lk_mem rfl h))
    have hτm : ∀ r, ovr τ (keys (outS inv hb') ++ keys (killS inv hb)) (outS inv hb' ++ (killS inv hb ++ σ)) r = if r ∈ keys (outS inv hb') then lk (outS inv hb') r else if r ∈ keys (killS inv hb) then .no else τ r := fun r => by
      unfold ovr
      by_cases h1 : r ∈ keys (outS inv hb')
      · rw [if_pos (List.mem_append_left _ h1), if_pos h1, lk_app_s h1]
      · rw [if_neg h1]
        by_cases h2 : r ∈ keys (killS inv hb)
        · rw [if_pos (List.mem_append_right _ h2), if_pos h2, lk_app_o h1, lk_app_s h2, (killS_b (lk_key h2)).1]
        · rw [if_neg (by rw [List.mem_append]; exact fun h => h.elim h1 h2), if_neg h2]
    have hob : ∀ k e sz rows, (Res.b k, RC.b e sz rows) ∈ hb' → lk (outS inv hb') (.b (asc inv k)) = .b e sz (renR (asc inv) rows) := fun k e sz rows h => by
      obtain ⟨k2, e2, sz2, rows2, h1, h2, h3⟩ := outS_b (lk_key (key_of (outS_b' (inv := inv) h)))
      have hk : k2 = k := key_inj hnum (key_b hnum (.inr h1)) (key_b hnum (.inr h)) h2.symm
      subst hk
      have h4 := hfl'.1 _ _ _ _ h
      rw [hfl'.1 _ _ _ _ h1] at h4
      cases h4
      exact h3
    obtain ⟨bxn, hsn, hvn⟩ := SR.called (τn := ovr τ (keys (outS inv hb') ++ keys (killS inv hb)) (outS inv hb' ++ (killS inv hb ++ σ))) (ρ := asc inv) (K := Kk) hs hpost hin (fun k l hk hl e => key_inj hnum (hKkey k hk) (hKkey l hl) e) (fun k ⟨e, sz, rows, h⟩ => .inl ⟨e, sz, rows, hmem k e sz rows h⟩) hKu hHB'
      (fun k hk => hKu k (by
        have := List.all_eq_true.1 hy k hk
        intro e; rw [e] at this; cases this))
      (fun t => by
        rw [hτm]
        rw [if_neg (fun h => ?_), if_neg (fun h => ?_)]
        · obtain ⟨_, k, e, sz, rows, _, h2⟩ := killS_b (lk_key h); cases h2
        · have hm := lk_key h
          generalize lk (outS inv hb') (.t t) = x at hm
          exact (show ∀ {l : St} {x : RC}, (Res.t t, x) ∉ outS inv l from by
            intro l
            induction l with
            | nil => intro x h; cases h
            | cons p l ih =>
              intro x h
              obtain ⟨r, c⟩ := p
              cases r <;> cases c <;> first
                | (rcases List.mem_cons.1 h with h | h; (cases h); exact ih h)
                | exact ih h) hm)
      (fun k e sz rows h => by
        have hm := hmem' k e sz rows h
        rw [hτm, if_pos (key_of (outS_b' hm))]
        exact hob k e sz rows hm)
      (fun l e sz rows h => by
        rw [hτm] at h
        by_cases h1 : Res.b l ∈ keys (outS inv hb')
        · rw [if_pos h1] at h
          obtain ⟨k, e2, sz2, rows2, g1, g2, g3⟩ := outS_b (lk_key h1)
          rw [h] at g3
          cases g3
          exact .inl ⟨k, rows2, g2, hfl'.1 _ _ _ _ g1, rfl⟩
        · rw [if_neg h1] at h
          by_cases h2 : Res.b l ∈ keys (killS inv hb)
          · rw [if_pos h2] at h; cases h
          · rw [if_neg h2] at h
            refine .inr ⟨fun k hk e1 => ?_, h⟩
            subst e1
            rcases hk with ⟨e, sz, rows, hk⟩ | ⟨e, sz, rows, hk⟩
            · exact h2 (killS_b' hk)
            · exact h1 (key_of (outS_b' hk)))
      (fun k h => by
        have hm : (Res.u k, lk hb' (.u k)) ∈ hb' := lk_mem rfl h
        have hu := hfl'.2.2 _ _ hm
        rw [hu] at hm
        have h1 := key_of (outS_u' (inv := inv) hm)
        rw [hτm, if_pos h1]
        obtain ⟨_, _, _, h2⟩ := outS_u (lk_key h1)
        rw [h2]; exact fun e => by cases e)
      (fun l h => by
        rw [hτm] at h
        by_cases h1 : Res.u l ∈ keys (outS inv hb')
        · rw [if_pos h1] at h
          obtain ⟨_, _, _, h2⟩ := outS_u (lk_key h1)
          rw [h] at h2; cases h2
        · rw [if_neg h1, if_neg (fun h2 => by obtain ⟨_, k, e, sz, rows, _, h3⟩ := killS_b (lk_key h2); cases h3)] at h
          exact h)
      (fun k ⟨e, sz, rows, h⟩ h100 => by
        have hm := hmem' k e sz rows h
        obtain ⟨h1, h2, h3⟩ := numOk_new hnum hm h100
        have hmu : (Res.u k, lk hb' (.u k)) ∈ hb' := lk_mem rfl (hHB'.al k ⟨e, sz, rows, h⟩)
        have hu := hfl'.2.2 _ _ hmu
        rw [hu] at hmu
        refine ⟨(hR3 _ (List.mem_append_left _ (key_of (outS_u' hmu)))).trans h1, h2, h3.imp id fun h4 l ⟨e', sz', rows', hl⟩ => h4 l _ (hmem l _ _ _ hl)⟩)
    have hyu : ∀ l ∈ (y.ren (asc inv)).refs, ovr τ (keys (outS inv hb') ++ keys (killS inv hb)) (outS inv hb' ++ (killS inv hb ++ σ)) (.u l) ≠ .no := fun l hl => by
      obtain ⟨k, hk, rfl⟩ := V.refs_ren hl
      have h0 : lk hb' (.u k) ≠ .no := by
        have := List.all_eq_true.1 hy k hk
        intro e; rw [e] at this; cases this
      have hm : (Res.u k, lk hb' (.u k)) ∈ hb' := lk_mem rfl h0
      have hu := hfl'.2.2 _ _ hm
      rw [hu] at hm
      have h1 := key_of (outS_u' (inv := inv) hm)
      rw [hτm, if_pos h1]
      obtain ⟨_, _, _, h2⟩ := outS_u (lk_key h1)
      rw [h2]; exact fun e => by cases e
    refine ⟨bxn, ?_⟩
    have e1 : ovr τ (.t d :: (keys (outS inv hb') ++ keys (killS inv hb))) ((.t d, .v (y.ren (asc inv))) :: (outS inv hb' ++ (killS inv hb ++ σ))) = upd (ovr τ (keys (outS inv hb') ++ keys (killS inv hb)) (outS inv hb' ++ (killS inv hb ++ σ))) (.t d) (.v (y.ren (asc inv))) := by
      funext r
      by_cases hr : r = .t d
      · subst hr; rw [upd_same]; simp [ovr, lk_same]
      · rw [upd_other _ _ hr]
        unfold ovr
        by_cases h1 : r ∈ keys (outS inv hb') ++ keys (killS inv hb)
        · rw [if_pos h1, if_pos (List.mem_cons_of_mem _ h1), lk_other _ _ _ _ (fun e => hr e.symm)]
        · rw [if_neg h1, if_neg (fun h => (List.mem_cons.1 h).elim hr h1)]
    rw [e1]
    exact hsn.put (by rw [hE]; simpa using hn) hvn hyu
theorem St1.call {P : Program} {n : Nat} {ops : Array Oper} {o : Oper} {σ : St} {d : Nat} {fo : Operand} {ar : Array Operand} {ts : Array TypeId} {xs : List Operand} {vs : List V1} {f : FuncId} {cap : List (List D)} {hb hb' : St} {args : List V1} {y : V} (inv : Inv)
    (ho : o.op = .call { callee := .value fo, args := ar, argTypes := ts }) (hg : o.guard = none) (hd : o.dst = some d) (hn : Nat.blt d n = true) (has : ar = xs.toArray) (hfo : ev σ fo = some (.o (.c (.fn f cap)))) (hcall : callable P f = true) (hx : evL σ xs = some vs) (hF : Fn P f hb args y hb')
    (hargs : args.map (V1.ren (asc inv)) = vs ++ cap.map fun c => .c (.ptr c)) (hbox : hbIn σ inv hb) (hnum : numOk σ inv hb hb' = true) (hfl : flatS hb) (hfl' : flatS hb') (hHB' : HB hb') (hpr : pairs hb' = true) (hy : (y.refs.all fun k => match lk hb' (.u k) with | .u => true | _ => false) = true) :
    St1 P n ops o σ ((rd fo ++ rdL xs) ++ (keys (outS inv hb') ++ keys (killS inv hb))) (.t d :: (keys (outS inv hb') ++ keys (killS inv hb))) ((.t d, .v (y.ren (asc inv))) :: (outS inv hb' ++ (killS inv hb ++ σ))) :=
  St1.callX inv ho hg hd hn has hfo rfl hcall hx hF hargs hbox hnum hfl hfl' hHB' hpr hy
theorem outS_one {inv : Inv} {k : Nat} {e : TypeId} {sz : Nat} {rows : List (List D)} : outS inv [(.b k, .b e sz (dR rows)), (.u k, .u)] = [(.b (asc inv k), .b e sz (dR rows)), (.u (asc inv k), .u)] := by simp [outS, renR_dR]
theorem St1.callO {P : Program} {n : Nat} {ops : Array Oper} {o : Oper} {σ : St} {d : Nat} {fo : Operand} {ar : Array Operand} {ts : Array TypeId} {xs : List Operand} {vs : List V1} {f : FuncId} {cap : List (List D)} {hb hb' : St} {args : List V1} {y : V} {out : St} (inv : Inv)
    (ho : o.op = .call { callee := .value fo, args := ar, argTypes := ts }) (hg : o.guard = none) (hd : o.dst = some d) (hn : Nat.blt d n = true) (has : ar = xs.toArray) (hfo : ev σ fo = some (.o (.c (.fn f cap)))) (hcall : callable P f = true) (hx : evL σ xs = some vs) (hF : Fn P f hb args y hb')
    (hargs : args.map (V1.ren (asc inv)) = vs ++ cap.map fun c => .c (.ptr c)) (hbox : hbIn σ inv hb) (hnum : numOk σ inv hb hb' = true) (hfl : flatS hb) (hfl' : flatS hb') (hHB' : HB hb') (hpr : pairs hb' = true) (hy : (y.refs.all fun k => match lk hb' (.u k) with | .u => true | _ => false) = true) (hout : outS inv hb' = out) :
    St1 P n ops o σ ((rd fo ++ rdL xs) ++ (keys out ++ keys (killS inv hb))) (.t d :: (keys out ++ keys (killS inv hb))) ((.t d, .v (y.ren (asc inv))) :: (out ++ (killS inv hb ++ σ))) := by
  subst hout
  exact St1.call inv ho hg hd hn has hfo hcall hx hF hargs hbox hnum hfl hfl' hHB' hpr hy
/-- A function that is handed no box and leaves none. -/
theorem St1.callP {P : Program} {n : Nat} {ops : Array Oper} {o : Oper} {σ : St} {d : Nat} {fo : Operand} {ar : Array Operand} {ts : Array TypeId} {xs : List Operand} {vs : List V1} {f : FuncId} {cap : List (List D)} {y : V}
    (ho : o.op = .call { callee := .value fo, args := ar, argTypes := ts }) (hg : o.guard = none) (hd : o.dst = some d) (hn : Nat.blt d n = true) (has : ar = xs.toArray) (hfo : ev σ fo = some (.o (.c (.fn f cap)))) (hcall : callable P f = true) (hx : evL σ xs = some vs) (hF : Fn P f [] (vs ++ cap.map fun c => .c (.ptr c)) y [])
    (hy : y.refs = []) : St1 P n ops o σ (rd fo ++ rdL xs) [.t d] ((.t d, .v y) :: σ) := by
  have hid : ∀ c : C, c.ren (asc []) = c := fun c => by cases c <;> rfl
  have hid1 : ∀ x : V1, x.ren (asc []) = x := fun x => by
    cases x with
    | c c => exact congrArg V1.c (hid c)
    | agg cs => exact congrArg V1.agg (List.map_id'' hid cs)
  have hid2 : y.ren (asc []) = y := by
    cases y with
    | o x => exact congrArg V.o (hid1 x)
    | tup xs => exact congrArg V.tup (List.map_id'' hid1 xs)
  have := St1.call (ops := ops) (n := n) (σ := σ) (hb := []) (hb' := []) [] ho hg hd hn has hfo hcall hx hF (List.map_id'' hid1 _) trivial rfl flatS.nil flatS.nil HB.nil rfl (by rw [hy]; rfl)
  rw [hid2] at this
  simpa [keys, outS, killS] using this

/-! ### A region in any order, operation by operation -/
def RunK (P : Program) (n : Nat) (ops : Array Oper) (l : List Oper) (σ : St) (acc : List (List Res × List Res × St)) (G : List (List Res × List Res × St) → St → Prop) : Prop := ∃ tr σ', Run P n ops l σ tr σ' ∧ G (acc ++ tr) σ'
section
variable {P : Program} {n : Nat} {ops : Array Oper} {l : List Oper} {o : Oper} {σ σ' : St} {R W : List Res} {acc : List (List Res × List Res × St)} {G : List (List Res × List Res × St) → St → Prop}
theorem RunK.nil (h : G acc σ) : RunK P n ops [] σ acc G := ⟨[], σ, .nil σ, by rw [List.append_nil]; exact h⟩
theorem RunK.cons (h : St1 P n ops o σ R W σ') (k : RunK P n ops l σ' (acc ++ [(R, W, σ')]) G) : RunK P n ops (o :: l) σ acc G := by
  obtain ⟨tr, σ2, h1, h2⟩ := k
  exact ⟨_, σ2, .cons h h1, by simpa using h2⟩
theorem RunK.same {σ1 : St} (he : lk σ1 = lk σ) (h : RunK P n ops (o :: l) σ1 acc G) : RunK P n ops (o :: l) σ acc G := by
  obtain ⟨tr, σ2, h1, h2⟩ := h
  cases h1 with
  | cons h k => exact ⟨_, σ2, .cons ⟨fun r hr => by rw [← he]; exact h.1 r hr, fun E bx τ a w hE hR hs => h.2 E bx τ a w hE (fun r hr => by rw [he]; exact hR r hr) hs⟩ k, h2⟩
theorem RunK.cases (t : Nat) (b : Bool) (hv : lk σ (.t t) = .v (.o (bo1 b))) (h1 : b = true → RunK P n ops (o :: l) ((.t t, .v (.o (bo1 true))) :: σ) acc G) (h0 : b = false → RunK P n ops (o :: l) ((.t t, .v (.o (bo1 false))) :: σ) acc G) : RunK P n ops (o :: l) σ acc G := by
  have e : ∀ c, b = c → lk ((.t t, .v (.o (bo1 c))) :: σ) = lk σ := by
    rintro c rfl
    funext r
    rw [lk_cons]
    by_cases h : r = .t t
    · subst h; rw [upd_same, hv]
    · rw [upd_other _ _ h]
  cases b
  · exact RunK.same (e false rfl) (h0 rfl)
  · exact RunK.same (e true rfl) (h1 rfl)
theorem ACode.drawK {id : Nat} {K : Exit → St → Prop} (hm : P.follows .mixedOrders = true) (he : edgesOk l.toArray 0 l = true) (h : RunK P n l.toArray l σ [] (fun tr σ' => chk l.toArray 0 tr = true ∧ K .normal σ')) : ACode P n (.region id l.toArray true) K σ := by
  obtain ⟨tr, σ', h1, h2, h3⟩ := h
  exact ACode.draw hm h1 h2 he h3
end
end Go.Proofs.Ytigdfdhjnadieaa

/- Slices of ints: those that are read, those of the call's own; appends, stores, slice expressions; no condition. -/
namespace Go.Proofs.Ytigdfdhjnadieaa
set_option linter.unusedVariables false
set_option linter.unusedSimpArgs false
open Go.RowKit

/-- A slice of ints of the call's own, its array from block B on. -/
def OwnI (B : Nat) (w : World) (v : Value) (xs : List Int) : Prop := OwnL Sh.int 3 B 0 w v xs
section
variable {B B' C : Nat} {P : Nat → Prop} {w w' : World} {v v' : Value} {xs ys : List Int} {a : Option Addr} {n c : Nat}
theorem ownI_of {D : Nat} (h : OwnL Sh.int 3 B D w v xs) : OwnI B w v xs := h.base (Nat.le_refl _) (Nat.zero_le _)
theorem OwnI.ownL {D : Nat} (h : OwnI B w v xs) : OwnL Sh.int 3 B D w v xs := by
  obtain ⟨css, h1, h2, h3⟩ := h
  exact ⟨css, h1, h2, h3⟩
theorem OwnI.nil (B : Nat) (w : World) : OwnI B w (.slice none 0 0) [] := OwnL.nil _ _ _ _ _
theorem OwnI.frame (h : OwnI B w v xs) (hv : ∀ k, v.ownBlock = some k → w'.heap[k]? = w.heap[k]?) : OwnI B w' v xs := by
  obtain ⟨css, h1, h2, h3⟩ := h
  exact ⟨css, h1, h2.frame hv, fun i x cs hx hc => h3 i x cs hx hc⟩
theorem OwnI.lt (h : OwnI B w v xs) : ∀ g, v.ownBlock = some g → B ≤ g ∧ g < w.heap.size := OwnL.lt h
theorem OwnI.below (h : OwnI B w v xs) (hb : Below w.heap.size w w') : OwnI B w' v xs := h.frame fun k hk => hb.block k (h.lt k hk).2
theorem OwnI.belowLt {D : Nat} (h : OwnI B w v xs) (hb : Below D w w') (hD : ∀ k, v.ownBlock = some k → k < D) : OwnI B w' v xs := h.frame fun k hk => hb.block k (hD k hk)
theorem OwnI.alloc (h : OwnI B w v xs) (o : Obj) : OwnI B (w.alloc o) v xs := h.below ((Below.refl _ _).alloc (Nat.le_refl _) o)
theorem OwnI.drewN {m : Nat} (h : OwnI B w v xs) : OwnI B (w.drewN m) v xs := h.below (belowN (Below.refl _ _))
theorem OwnI.drew (h : OwnI B w v xs) : OwnI B w.drew v xs := h.below ((Below.refl _ _).drew)
theorem OwnI.quiet (h : OwnI B w v xs) (hq : Quiet w w') : OwnI B w' v xs := h.below (hq.below _)
theorem OwnI.grown {r : Option Nat} (h : OwnI B w v xs) (hg : w.grownBy w' r) (hv : ∀ g, r = some g → v.ownBlock ≠ some g) : OwnI B w' v xs :=
  h.frame (fun k hk => hg.block k (h.lt k hk).2 (fun e => hv k e.symm hk))
theorem OwnI.base (h : OwnI B w v xs) (hB : B' ≤ B) : OwnI B' w v xs := OwnL.base h hB (Nat.le_refl _)
theorem OwnI.shape (h : OwnI B w v xs) : ∃ a cap, v = .slice a xs.length cap ∧ xs.length ≤ cap := OwnL.shape h
theorem OwnI.len (h : OwnI B w (.slice a n c) xs) : xs.length = n := by
  obtain ⟨a', c', e, _⟩ := h.shape
  simp only [Value.slice.injEq] at e
  exact e.2.1.symm
theorem OwnI.sl (h : OwnI B w v xs) (hn : xs.length ≤ 17592186044416) : Sl Sh.int (fun b => v.ownBlock = some b) w v xs := by
  obtain ⟨css, h1, h2, h3⟩ := h
  have h' : OwnL Sh.int 3 B 0 w v xs := ⟨css, h1, h2, h3⟩
  have hs := h'.sl hn (P := fun _ => True) (fun _ _ _ => trivial) (fun _ _ => trivial)
  obtain ⟨a, cap, rfl, e1, e2, e3, e4⟩ := hs
  refine ⟨a, cap, rfl, e1, e2, e3, fun i x hx => ?_⟩
  obtain ⟨b, off, cs, rfl, _, hr, hc⟩ := e4 i x hx
  exact ⟨b, off, cs, rfl, rfl, hr, hc⟩
theorem OwnI.at (h : OwnI B w (.slice a n c) xs) (hn : 0 < n) : ∃ g off, a = some ⟨g, off, none⟩ ∧ B ≤ g ∧ g < w.heap.size ∧ n ≤ c ∧ (∀ j, j < n → w.cell? ⟨g, off + j, none⟩ = some (.int .i64 (xs.getD j 0))) ∧ ∀ j, w.frozen? ⟨g, j, none⟩ = false := by
  obtain ⟨hl, g, off, ha, hB, hg, hc, hf, h1⟩ := OwnL.at h hn
  refine ⟨g, off, ha, hB, hg, hc, fun j hj => ?_, hf⟩
  obtain ⟨cs, hr, hcell⟩ := h1 j (xs.getD j 0) (by rw [List.getD, List.getElem?_eq_getElem (by omega)]; rfl)
  have : cs = [.int .i64 (xs.getD j 0)] := hr
  subst this
  have := hcell 0 _ rfl
  simpa [Sh.int] using this

/-- A slice of ints, in terms of its cells. -/
theorem sl_ints (h : Sl Sh.int P w (.slice a n c) xs) : IntsA w a n c xs := by
  refine ⟨h.len, h.le.1, h.le.2, fun i hi => ?_⟩
  obtain ⟨b, off, ha, _, _, hc⟩ := h.at (by omega)
  have hl := h.len
  obtain ⟨cs, hr, hcell⟩ := hc i (xs.getD i 0) (by rw [List.getD, List.getElem?_eq_getElem (by omega)]; rfl)
  have : cs = [.int .i64 (xs.getD i 0)] := hr
  subst this
  have := hcell 0 _ rfl
  exact ⟨b, off, ha, by simpa [Sh.int] using this⟩
theorem ints_sl (h : IntsA w a n c xs) (hnil : a = none → c = 0) : Sl Sh.int (fun _ => True) w (.slice a n c) xs := by
  refine ⟨a, c, by rw [h.len], by rw [h.len]; exact h.2.1, by rw [h.len]; exact h.le, hnil, fun i x hx => ?_⟩
  have hi : i < xs.length := (List.getElem?_eq_some_iff.1 hx).1
  obtain ⟨b, off, ha, hc⟩ := h.2.2.2 i (by rw [← h.len]; exact hi)
  refine ⟨b, off, [.int .i64 x], ha, trivial, rfl, fun j cc hj => ?_⟩
  cases j with
  | succ j => simp at hj
  | zero =>
    simp only [List.getElem?_cons_zero, Option.some.injEq] at hj
    subst hj
    rw [List.getD, hx] at hc
    simpa [Sh.int] using hc
theorem Sl.intAt (h : Sl Sh.int P w (.slice a n c) xs) (hn : 0 < n) : ∃ b off, a = some ⟨b, off, none⟩ ∧ P b ∧ b < w.heap.size ∧ ∀ i, i < n → w.cell? ⟨b, off + i, none⟩ = some (.int .i64 (xs.getD i 0)) := by
  obtain ⟨b, off, ha, hb, hlt, _⟩ := h.at hn
  refine ⟨b, off, ha, hb, hlt, fun i hi => ?_⟩
  obtain ⟨b', off', e, hc⟩ := (sl_ints h).2.2.2 i hi
  rw [ha] at e
  cases e
  exact hc

/-- New rows. -/
theorem OwnI.made (w : World) (vs : List Int) (hB : B ≤ w.heap.size) (hn : vs.length ≤ 17592186044416) : OwnI B (w.alloc (.cells (vs.map (Value.int .i64)).toArray 3)) (.slice (some ⟨w.heap.size, 0, none⟩) vs.length vs.length) vs := by
  have hf : (vs.map fun x => [Value.int .i64 x]).flatten = vs.map (Value.int .i64) := by
    induction vs with
    | nil => rfl
    | cons x r ih => rw [List.map_cons, List.flatten_cons, ih (by rw [List.length_cons] at hn; omega)]; rfl
  refine ⟨vs.map fun x => [.int .i64 x], by simp, ?_, fun i x cs hx hc => ?_⟩
  · rw [hf]
    exact ⟨by simp [Sh.int], .inr ⟨w.heap.size, 0, vs.length, _, rfl, hB, heap_alloc_new w _, Nat.le_refl _, by unfold maxLen; omega, by simp [Sh.int], by simp [Sh.int, List.take_of_length_le]⟩⟩
  · rw [List.getElem?_map, hx] at hc
    simp only [Option.map_some, Option.some.injEq] at hc
    exact hc.symm
theorem OwnI.one (w : World) (hB : B ≤ w.heap.size) (x : Int) : OwnI B (w.alloc (.cells #[.int .i64 x] 3)) (.slice (some ⟨w.heap.size, 0, none⟩) 1 1) [x] := OwnI.made w [x] hB (by simp)
theorem OwnI.empty (w : World) (hB : B ≤ w.heap.size) : OwnI B (w.alloc (.cells #[] 3)) (.slice (some ⟨w.heap.size, 0, none⟩) 0 0) [] := OwnI.made w [] hB (by simp)
theorem OwnI.zeros (w : World) (n : Nat) (hB : B ≤ w.heap.size) (hn : n ≤ 17592186044416) : OwnI B (w.alloc (.cells (madeCells #[.int .i64 0] n) 3)) (.slice (some ⟨w.heap.size, 0, none⟩) n n) (List.replicate n 0) := by
  have h := OwnI.made (B := B) w (List.replicate n 0) hB (by simpa using hn)
  rw [List.length_replicate] at h
  have e : madeCells #[.int .i64 0] n = ((List.replicate n (0 : Int)).map (Value.int .i64)).toArray := by
    apply Array.toList_inj.1
    rw [toList_madeCells_one]; simp
  rw [e]
  exact h
/-- A store. -/
theorem OwnI.set {g off : Nat} (h : OwnI B w (.slice (some ⟨g, off, none⟩) n c) xs) (j : Nat) (x : Int) : OwnI B (w.setCell ⟨g, off + j, none⟩ (.int .i64 x)) (.slice (some ⟨g, off, none⟩) n c) (xs.set j x) := by
  have hl := h.len
  obtain ⟨css, h1, h2, h3⟩ := h
  refine ⟨css.set j [.int .i64 x], by rw [List.length_set, List.length_set, h1], ?_, fun i y cs hy hc => ?_⟩
  · have h2' := h2
    rw [hl] at h2'
    have := h2'.set j (.int .i64 x)
    rw [List.length_set, hl]
    have e : (css.set j [.int .i64 x]).flatten = css.flatten.set j (.int .i64 x) := by
      have hcs : ∀ cs ∈ css, cs.length = 1 := OwnL.lens h1 h3
      clear h1 h2 h2' h3 this
      induction css generalizing j with
      | nil => rfl
      | cons cs css ih =>
        have h0 := hcs cs (List.mem_cons_self ..)
        obtain ⟨c0, rfl⟩ := List.length_eq_one_iff.1 h0
        cases j with
        | zero => rfl
        | succ j =>
          rw [List.set_cons_succ, List.flatten_cons, List.flatten_cons, ih j (fun c hc => hcs c (List.mem_cons_of_mem _ hc))]
          rfl
    rw [e]
    exact this
  · rw [List.getElem?_set] at hy hc
    by_cases e : j = i
    · subst e
      rw [if_pos rfl] at hy hc
      split at hy
      · split at hc
        · cases hy; cases hc; rfl
        · cases hc
      · cases hy
    · rw [if_neg e] at hy hc
      exact h3 i y cs hy hc
end

/-- append(s, y), s the call's own. -/
theorem wpList_app1I (w : World) {ops : Array Oper} {rest : List Oper} {o : Oper} {a : Act} {Q : Exit → Act → World → Prop} (hgd : o.guard = none) (s x : Operand)
    (ho : o.op = .call { callee := .builtin .append, args := #[s, x], argTypes := #[26, 26] })
    (B : Nat) (v : Value) (xs : List Int) (hs : a.eval s = v) (w0 : World) (y : Int) (hw : w = w0.alloc (.cells #[.int .i64 y] 3)) (hown : OwnI B w0 v xs) (hx : a.eval x = .slice (some ⟨w0.heap.size, 0, none⟩) 1 1)
    (h : ∀ v' w', OwnI B w' v' (xs ++ [y]) → w.grownBy w' v.ownBlock → Below B w w' → (∀ b, v'.ownBlock = some b → v.ownBlock = some b ∨ w0.heap.size < b) → wpList Try.prog ops Q rest (a.put o.dst v') w')
    (hn : xs.length + 1 ≤ 4294967296) (hbase : B ≤ w0.heap.size) : wpList Try.prog ops Q (o :: rest) a w := by
  subst hw
  have hsz : (w0.alloc (.cells #[.int .i64 y] 3)).heap.size = w0.heap.size + 1 := World.size_alloc _ _
  refine wpList_appL _ Sh.int hgd s x 26 ho B 0 3 _ 8 Try.underlying26 Try.infoInt rfl v xs hs (hown.alloc _) _ 1 1 [y] hx (Sl.one (S := Sh.int) (cs := [.int .i64 y]) rfl ⟨Nat.zero_le _, fun e => by have := (hown.lt _ e).2; omega⟩) (fun v' w' hp => h v' w' hp.own hp.grown ?_ ?_) hn (by decide) (by omega)
  · exact hp.below (OwnI.alloc hown _) (Below.refl _ _) (Nat.le_refl _) (by omega)
  · intro b hb
    rcases hp.blk' hb with h | h
    · exact .inl h
    · exact .inr (by omega)
/-- append(s, y0, y1, ..), s the call's own: the new ones lie in a block of their own. -/
theorem wpList_appVI (w : World) {ops : Array Oper} {rest : List Oper} {o : Oper} {a : Act} {Q : Exit → Act → World → Prop} (hgd : o.guard = none) (s x : Operand)
    (ho : o.op = .call { callee := .builtin .append, args := #[s, x], argTypes := #[26, 26] })
    (B : Nat) (v : Value) (xs : List Int) (hs : a.eval s = v) (w0 : World) (ys : List Int) (cells : Array Value) (b m : Nat) (hw : w = w0.alloc (.cells cells 3)) (hcells : cells = (ys.map (Value.int .i64)).toArray) (hown : OwnI B w0 v xs) (hx : a.eval x = .slice (some ⟨b, 0, none⟩) m m)
    (h : ∀ v' w', OwnI B w' v' (xs ++ ys) → w.grownBy w' v.ownBlock → Below B w w' → (∀ b, v'.ownBlock = some b → v.ownBlock = some b ∨ w0.heap.size < b) → wpList Try.prog ops Q rest (a.put o.dst v') w')
    (hb : b = w0.heap.size) (hm : m = ys.length) (hn : xs.length + m ≤ 4294967296) (hbase : B ≤ w0.heap.size) : wpList Try.prog ops Q (o :: rest) a w := by
  subst hw hcells hb hm
  have hsz : (w0.alloc (.cells (ys.map (Value.int .i64)).toArray 3)).heap.size = w0.heap.size + 1 := World.size_alloc _ _
  have hsrc : Sl Sh.int (fun b => 0 ≤ b ∧ v.ownBlock ≠ some b) (w0.alloc (.cells (ys.map (Value.int .i64)).toArray 3)) (.slice (some ⟨w0.heap.size, 0, none⟩) ys.length ys.length) ys :=
    ((OwnI.made (B := w0.heap.size) w0 ys (Nat.le_refl _) (by omega)).sl (by omega)).mono fun b hb _ => ⟨Nat.zero_le _, fun e => by have h1 := (hown.lt _ e).2; have h2 := Option.some.inj hb; simp at h2; omega⟩
  refine wpList_appL _ Sh.int hgd s x 26 ho B 0 3 _ 8 Try.underlying26 Try.infoInt rfl v xs hs (hown.alloc _) _ _ _ ys hx hsrc (fun v' w' hp => h v' w' hp.own hp.grown ?_ ?_) hn (by decide) (by omega)
  · exact hp.below (OwnI.alloc hown _) (Below.refl _ _) (Nat.le_refl _) (by omega)
  · intro b hb
    rcases hp.blk' hb with h | h
    · exact .inl h
    · exact .inr (by omega)
/-- append(s, ys...), s the call's own, ys read elsewhere. -/
theorem wpList_appSI (w : World) {ops : Array Oper} {rest : List Oper} {o : Oper} {a : Act} {Q : Exit → Act → World → Prop} (hgd : o.guard = none) (s x : Operand)
    (ho : o.op = .call { callee := .builtin .append, args := #[s, x], argTypes := #[26, 26] })
    (B : Nat) (v : Value) (xs : List Int) (hs : a.eval s = v) (hown : OwnI B w v xs) (b : Option Addr) (m c : Nat) (ys : List Int) (P : Nat → Prop) (hx : a.eval x = .slice b m c) (hy : Sl Sh.int P w (.slice b m c) ys) (hP : ∀ b, P b → b < w.heap.size → v.ownBlock ≠ some b)
    (h : ∀ v' w', OwnI B w' v' (xs ++ ys) → w.grownBy w' v.ownBlock → Below B w w' → (∀ b, v'.ownBlock = some b → v.ownBlock = some b ∨ w.heap.size ≤ b) → wpList Try.prog ops Q rest (a.put o.dst v') w')
    (hn : xs.length + m ≤ 4294967296) (hbase : B ≤ w.heap.size) : wpList Try.prog ops Q (o :: rest) a w :=
  wpList_appL _ Sh.int hgd s x 26 ho B 0 3 _ 8 Try.underlying26 Try.infoInt rfl v xs hs hown _ m c ys hx (hy.mono fun b hb hl => ⟨Nat.zero_le _, hP b hb hl⟩)
    (fun v' w' hp => h v' w' hp.own hp.grown (hp.below hown (Below.refl _ _) (Nat.le_refl _) hbase) (fun _ hb => hp.blk' hb)) hn (by decide) hbase
/-- The same, as a step of a region that draws its order. -/
theorem step_appSI {w : World} {ops : Array Oper} {o : Oper} {a : Act} {K : Act → World → Prop} {Q : Exit → Act → World → Prop} {E : Prop} (hgd : o.guard = none) (s x : Operand)
    (ho : o.op = .call { callee := .builtin .append, args := #[s, x], argTypes := #[26, 26] })
    (B : Nat) (v : Value) (xs : List Int) (hs : a.eval s = v) (hown : OwnI B w v xs) (b : Option Addr) (m c : Nat) (ys : List Int) (P : Nat → Prop) (hx : a.eval x = .slice b m c) (hy : Sl Sh.int P w (.slice b m c) ys) (_ : ∀ b, P b → b < w.heap.size → v.ownBlock ≠ some b)
    (hn : xs.length + m ≤ 4294967296) (hbase : B ≤ w.heap.size)
    (h : ∀ v' w', OwnI B w' v' (xs ++ ys) → w.grownBy w' v.ownBlock → Below B w w' → (∀ b, v'.ownBlock = some b → v.ownBlock = some b ∨ w.heap.size ≤ b) → K (a.put o.dst v') w') :
    if Region.wanted o (yielded ops a.tmps) = true then Oper.wp Try.prog o a w K Q else E := by
  have hw : Region.wanted o (yielded ops a.tmps) = true := by simp [Region.wanted, hgd]
  rw [if_pos hw]
  obtain ⟨i, hi, hz0, hz1, hz2⟩ := info_parts Try.infoInt
  obtain ⟨css, c1, c2, c3⟩ := hown
  have hown : OwnI B w v xs := ⟨css, c1, c2, c3⟩
  have hcl := OwnL.lens c1 c3
  have hlen := hy.len
  cases b with
  | none =>
    have hm : c = 0 := by
      obtain ⟨a', cap', e, _, _, h3, _⟩ := hy
      simp only [Value.slice.injEq] at e
      obtain ⟨rfl, _, rfl⟩ := e
      exact h3 rfl
    have hm0 : m = 0 := by have := hy.le.1; omega
    subst hm hm0
    have hys : ys = [] := List.eq_nil_of_length_eq_zero hlen
    subst hys
    have hr := run_appO_none (P := Try.prog) w B 26 o.type 3 i Sh.int.sz Try.underlying26 hi v _ _ c2
    unfold Oper.wp
    simp [execOp, ho, resolve, invoke, builtin, hs, hx, hr, Result.andThen]
    exact h v w (by rw [List.append_nil]; exact hown) (World.grownBy.refl _ _) (Below.refl _ _) (fun b hb => .inl hb)
  | some ad =>
    obtain ⟨dss, d1, d2, d3⟩ := hy.flat
    have hdl := OwnL.lens d1 d2
    obtain ⟨v', w', hr, hp⟩ := run_appO (P := Try.prog) w B 26 o.type 3 i (.int .i64 0) Sh.int.sz 8 Try.underlying26 hi hz0 hz1 hz2 rfl Sh.int.pos v xs.length css.flatten c2 ad m c dss.flatten (by rw [flatten_len _ hdl, d1, hlen]) d3
      (fun u hu => by
        obtain ⟨cs, hcs, hu⟩ := List.mem_flatten.1 hu
        obtain ⟨k, hk⟩ := List.mem_iff_getElem?.1 hcs
        have hkl : k < dss.length := (List.getElem?_eq_some_iff.1 hk).1
        exact Sh.int.one (d2 k ys[k] cs (List.getElem?_eq_getElem (by omega)) hk) u hu)
      (by unfold maxLen; omega) (by omega) hbase
    unfold Oper.wp
    simp [execOp, ho, resolve, invoke, builtin, hs, hx, hr, Result.andThen]
    refine h v' w' ⟨css ++ dss, by rw [List.length_append, List.length_append, c1, d1], ?_, fun i x cs hi hcs => ?_⟩ hp.grown ((Below.refl _ _).grown hp.grown hbase (fun k hk => (hown.lt k hk).1)) (fun b hb => ?_)
    · rw [List.flatten_append, List.length_append, hlen]; exact hp.own
    · rw [List.getElem?_append] at hi hcs
      by_cases hlt : i < xs.length
      · rw [if_pos hlt] at hi
        rw [if_pos (by omega)] at hcs
        exact c3 i x cs hi hcs
      · rw [if_neg hlt] at hi
        rw [if_neg (by omega), c1] at hcs
        exact d2 _ x cs hi hcs
    · rcases hp.blk with h | ⟨k, hk, hle⟩
      · exact .inl (h ▸ hb)
      · rw [hk] at hb; cases hb; exact .inr hle
end Go.Proofs.Ytigdfdhjnadieaa

/- Plain law: the different numbers of a list, counted; no condition. -/
namespace Go.Proofs.Ytigdfdhjnadieaa
set_option linter.unusedVariables false
set_option linter.unusedSimpArgs false
open Go.RowKit Go.Maps

def addI (acc : List Int) (x : Int) : List Int := if acc.contains x then acc else acc ++ [x]
/-- The different numbers of xs, in the order of their first occurrence. -/
def uniq (xs : List Int) : List Int := xs.foldl addI []
theorem uniq_snoc (xs : List Int) (x : Int) : uniq (xs ++ [x]) = addI (uniq xs) x := by simp [uniq, List.foldl_append]
theorem mem_addI {acc : List Int} {x y : Int} : y ∈ addI acc x ↔ y ∈ acc ∨ y = x := by
  unfold addI
  split
  · rename_i h
    rw [List.contains_eq_mem, decide_eq_true_iff] at h
    constructor
    · exact .inl
    · rintro (h' | rfl)
      · exact h'
      · exact h
  · simp
theorem mem_foldl_addI (xs : List Int) : ∀ (acc : List Int) (y : Int), y ∈ xs.foldl addI acc ↔ y ∈ acc ∨ y ∈ xs := by
  induction xs with
  | nil => simp
  | cons x xs ih => intro acc y; rw [List.foldl_cons, ih, mem_addI]; simp [or_assoc]
theorem mem_uniq {xs : List Int} {y : Int} : y ∈ uniq xs ↔ y ∈ xs := by simp [uniq, mem_foldl_addI]
theorem contains_uniq (xs : List Int) (y : Int) : (uniq xs).contains y = xs.contains y := by simp only [List.contains_eq_mem, mem_uniq]
theorem uniq_old {xs : List Int} {x : Int} (h : xs.contains x = true) : (uniq (xs ++ [x])).length = (uniq xs).length := by
  rw [uniq_snoc, addI, contains_uniq, h, if_pos rfl]
theorem uniq_fresh {xs : List Int} {x : Int} (h : xs.contains x = false) : (uniq (xs ++ [x])).length = (uniq xs).length + 1 := by
  rw [uniq_snoc, addI, contains_uniq, h, if_neg (by simp), List.length_append, List.length_singleton]
theorem uniq_le (xs : List Int) : (uniq xs).length ≤ xs.length := by
  suffices h : ∀ acc : List Int, (xs.foldl addI acc).length ≤ acc.length + xs.length by simpa [uniq] using h []
  induction xs with
  | nil => simp
  | cons x xs ih =>
    intro acc
    rw [List.foldl_cons, List.length_cons]
    have := ih (addI acc x)
    have h2 : (addI acc x).length ≤ acc.length + 1 := by unfold addI; split <;> simp
    omega
theorem take_snoc {xs : List Int} {k : Nat} (h : k < xs.length) : xs.take (k + 1) = xs.take k ++ [xs[k]?.getD 0] := by
  rw [List.take_succ_eq_append_getElem h, List.getElem?_eq_getElem h]; rfl

/-- The set of a map[int]bool that holds true at each of xs. -/
def setI (xs : List Int) : DataW Unit := setOf (.lit (.bool true)) (xs.map (Lit.int .i64))
theorem setI_nil : setI [] = .map [] := by simp [setI, setOf]
theorem setI_snoc (xs : List Int) (x : Int) : setI (xs ++ [x]) = (setI xs).put (.int .i64 x) (.lit (.bool true)) := by
  unfold setI
  rw [List.map_append, List.map_singleton, setOf_snoc]
theorem sameKey_int (x y : Int) : (Lit.int .i64 y).sameKey (.int .i64 x) = (x == y) := by
  show decide (IntKind.i64 = IntKind.i64 ∧ y = x) = (x == y)
  by_cases e : y = x
  · subst e; simp
  · have e' : ¬ x = y := fun h => e h.symm
    simp [e, e']
theorem any_sameKey (x : Int) : ∀ l : List Int, (l.map (Lit.int .i64)).any (fun y => y.sameKey (.int .i64 x)) = l.contains x
  | [] => rfl
  | a :: r => by rw [List.map_cons, List.any_cons, List.contains_cons, any_sameKey x r, sameKey_int]
theorem foldl_addKey (xs : List Int) : ∀ acc : List Int, (xs.map (Lit.int .i64)).foldl addKey (acc.map (Lit.int .i64)) = (xs.foldl addI acc).map (Lit.int .i64) := by
  induction xs with
  | nil => simp
  | cons x xs ih =>
    intro acc
    rw [List.map_cons, List.foldl_cons, List.foldl_cons, ← ih]
    congr 1
    unfold addKey addI
    rw [any_sameKey]
    split <;> simp
theorem size_setI (xs : List Int) : Maps.size (setI xs) = (uniq xs).length := by
  unfold setI
  rw [size_setOf _ _ (fun x hx => by obtain ⟨_, _, rfl⟩ := List.mem_map.1 hx; trivial)]
  have := foldl_addKey xs []
  rw [List.map_nil] at this
  rw [this, List.length_map]; rfl
end Go.Proofs.Ytigdfdhjnadieaa

/- Functions of the library over slices of ints: Index, Delete of one element; condition: what the slices hold. -/
namespace Go.Proofs.Ytigdfdhjnadieaa
set_option linter.unusedVariables false
set_option linter.unusedSimpArgs false
open Go.RowKit

/-- The place of the first element that p holds of, or -1. -/
def findI (p : Int → Bool) (xs : List Int) : Int := if xs.any p then (xs.findIdx p : Int) else -1
theorem findI_none {p : Int → Bool} {xs : List Int} (h : ∀ x ∈ xs, p x = false) : findI p xs = -1 := by
  rw [findI, if_neg]
  rw [List.any_eq_true]
  rintro ⟨x, hx, hp⟩
  rw [h x hx] at hp
  cases hp
theorem findI_hit {p : Int → Bool} {xs : List Int} {k : Nat} (h : ∀ x ∈ xs.take k, p x = false) (hk : k < xs.length) (hp : p (xs.getD k 0) = true) : findI p xs = k := by
  rw [List.getD, List.getElem?_eq_getElem hk] at hp
  simp only [Option.getD_some] at hp
  rw [findI, if_pos (List.any_eq_true.2 ⟨_, List.getElem_mem hk, hp⟩)]
  congr 1
  rw [List.findIdx_eq hk]
  refine ⟨hp, fun j hj => h _ ?_⟩
  rw [List.mem_take_iff_getElem]
  exact ⟨j, by omega, rfl⟩
theorem take_step {p : Int → Bool} {xs : List Int} {k : Nat} (h : ∀ x ∈ xs.take k, p x = false) (hk : k < xs.length) (hp : p (xs.getD k 0) = false) : ∀ x ∈ xs.take (k + 1), p x = false := by
  intro x hx
  rw [List.take_succ_eq_append_getElem hk, List.mem_append, List.mem_singleton] at hx
  rcases hx with hx | rfl
  · exact h x hx
  · rw [List.getD, List.getElem?_eq_getElem hk] at hp
    exact hp

set_option maxHeartbeats 400000 in
theorem indexFunc_any (P : Nat → Prop) (g : Nat) (lb : Array Value) (eg : ∀ args w, (callFunc g args).run Try.prog w = .ok (.enter g args) w) (p : Int → Bool) (a : Option Addr) (n c : Nat) (xs : List Int) (w : World) (hx : Sl Sh.int P w (.slice a n c) xs)
    (hp : ∀ x, Calls Try.prog g (#[.int .i64 x] ++ lb) w fun e w' => e = .returned (.bool (p x)) ∧ w = w') :
    Calls Try.prog 137 #[.slice a n c, .func (.func g) #[] lb] w fun e w' => e = .returned (.int .i64 (findI p xs)) ∧ w = w' := by
  have hle := hx.le
  have hlen := hx.len
  have Hp := hid hp; clear hp
  have Hlen := hid hlen; clear hlen
  go_enter Try.func137, Try.ntmps137
  go_wp2
  go_loop [5, 8] (fun _ i => ∃ k : Nat, k ≤ n ∧ i = .int .i64 k ∧ Hid (∀ x ∈ xs.take k, p x = false)) (fun _ i => n - (intOf i).toNat)
  case atStart => exact ⟨0, Nat.zero_le _, rfl, hid (by simp)⟩
  case round =>
    obtain ⟨k, hk, rfl, ht⟩ := hrel
    by_cases hlt : k < n
    · obtain ⟨ba, oa, ha, _, _, hca⟩ := hx.intAt (by omega)
      subst ha
      have h1 := hca k hlt
      generalize hy : xs.getD k 0 = y at h1
      have Hy := hid hy; clear hy hca
      have hcall := Hp.out y
      have hltz : (k : Int) < (n : Int) := by omega
      cases hq : p y with
      | true =>
        rw [hq] at hcall
        have Hq := hid hq; clear hq
        have Hc := hid hcall; clear hcall
        go_wp2_with (go_at_fn g; refine Hc.out.mono ?_; rintro e w' ⟨rfl, rfl⟩)
        go_ret
        exact ⟨ret_int (findI_hit ht.out (by rw [Hlen.out]; exact hlt) (by rw [Hy.out]; exact Hq.out)).symm, rfl⟩
      | false =>
        rw [hq] at hcall
        have Hq := hid hq; clear hq
        have Hc := hid hcall; clear hcall
        go_wp2_with (go_at_fn g; refine Hc.out.mono ?_; rintro e w' ⟨rfl, rfl⟩)
        exact ⟨⟨k + 1, by omega, rfl, hid (take_step ht.out (by rw [Hlen.out]; exact hlt) (by rw [Hy.out]; exact Hq.out))⟩, by simp [intOf]; omega⟩
    · have : k = n := by omega
      subst this
      go_wp2
      go_ret
      exact ⟨ret_int (findI_none (by have h := ht.out; rw [List.take_of_length_le (by rw [Hlen.out]; omega)] at h; exact h)).symm, rfl⟩


end Go.Proofs.Ytigdfdhjnadieaa

/- impl.within; no condition. -/
namespace Go.Proofs.Ytigdfdhjnadieaa
set_option linter.unusedVariables false
set_option linter.unusedSimpArgs false
open Go.RowKit

def inB (n lo hi : Int) : Bool := decide (lo ≤ n ∧ n ≤ hi)
set_option maxHeartbeats 400000 in
theorem within_any (n lo hi : Int) (w : World) : Calls Try.prog 53 #[.int .i64 n, .int .i64 lo, .int .i64 hi] w fun e w' => e = .returned (.bool (inB n lo hi)) ∧ w = w' := by
  by_cases h1 : lo ≤ n
  · have h1' : decide (lo ≤ n) = true := by simpa using h1
    by_cases h2 : n ≤ hi
    · have h2' : decide (n ≤ hi) = true := by simpa using h2
      have hf : inB n lo hi = true := by simp [inB, h1, h2]
      rw [hf]
      clear hf
      go_enter Try.func53, Try.ntmps53
      go_wp2
      go_ret
      exact ⟨rfl, rfl⟩
    · have h2' : decide (n ≤ hi) = false := by simpa using h2
      have hf : inB n lo hi = false := by simp [inB, h2]
      rw [hf]
      clear hf
      go_enter Try.func53, Try.ntmps53
      go_wp2
      go_ret
      exact ⟨rfl, rfl⟩
  · have h1' : decide (lo ≤ n) = false := by simpa using h1
    have hf : inB n lo hi = false := by simp [inB, h1]
    rw [hf]
    clear hf
    go_enter Try.func53, Try.ntmps53
    go_wp2
    go_ret
    exact ⟨rfl, rfl⟩
end Go.Proofs.Ytigdfdhjnadieaa

/- Affine expressions: how they lie in memory; the small tests; validity; condition: what the arguments hold. -/
namespace Go.Proofs.Ytigdfdhjnadieaa
set_option linter.unusedVariables false
set_option linter.unusedSimpArgs false
open Go.RowKit

/-- An affine expression: coefficients and constant. -/
abbrev Aff := List Int × Int
def AffR (P : Nat → Prop) (w : World) (v : Value) (x : Aff) : Prop := ∃ va, v = .agg #[va, .int .i64 x.2] ∧ Sl Sh.int P w va x.1
theorem AffR.below {P : Nat → Prop} {w w' : World} {v : Value} {x : Aff} (h : AffR P w v x) (hb : Below w.heap.size w w') : AffR P w' v x := by
  obtain ⟨va, e, hs⟩ := h
  exact ⟨va, e, hs.below hb⟩
theorem AffR.mono {P Q : Nat → Prop} {w : World} {v : Value} {x : Aff} (hp : ∀ b, P b → b < w.heap.size → Q b) (h : AffR P w v x) : AffR Q w v x := by
  obtain ⟨va, e, hs⟩ := h
  exact ⟨va, e, hs.mono hp⟩
theorem AffR.any {P : Nat → Prop} {w : World} {v : Value} {x : Aff} (h : AffR P w v x) : AffR (fun _ => True) w v x := h.mono fun _ _ _ => trivial
theorem AffR.grown {P : Nat → Prop} {w w' : World} {v : Value} {x : Aff} {r : Option Nat} (h : AffR P w v x) (hg : w.grownBy w' r) (hP : ∀ b, P b → r ≠ some b) : AffR P w' v x := by
  obtain ⟨va, e, hs⟩ := h
  exact ⟨va, e, hs.grown hg hP⟩
theorem AffR.shape {P : Nat → Prop} {w : World} {v : Value} {x : Aff} (h : AffR P w v x) : ∃ a c, v = .agg #[.slice a x.1.length c, .int .i64 x.2] ∧ x.1.length ≤ c ∧ x.1.length ≤ 17592186044416 ∧ Sl Sh.int P w (.slice a x.1.length c) x.1 := by
  obtain ⟨va, rfl, hs⟩ := h
  obtain ⟨a, c, rfl, h1, h2, _⟩ := hs.form
  exact ⟨a, c, rfl, h1, h2, hs⟩

def affV (x : Aff) : Bool := decide (x.1.length = 4) && inB x.2 (-99) 99 && !x.1.any (fun c => !inB c (-9) 9)
theorem affV_len {x : Aff} (h : affV x = true) : x.1.length = 4 := by
  simp [affV] at h
  exact h.1.1
theorem affV_const {x : Aff} (h : affV x = true) : -99 ≤ x.2 ∧ x.2 ≤ 99 := by
  simp [affV, inB] at h
  exact h.1.2
theorem affV_coef {x : Aff} (h : affV x = true) : ∀ c ∈ x.1, -9 ≤ c ∧ c ≤ 9 := by
  simp [affV, inB] at h
  exact h.2
theorem affV_getD {x : Aff} (h : affV x = true) (i : Nat) : -9 ≤ x.1.getD i 0 ∧ x.1.getD i 0 ≤ 9 := by
  rw [List.getD]
  cases e : x.1[i]? with
  | none => simp
  | some c => exact affV_coef h c (List.mem_of_getElem? e)

set_option maxHeartbeats 400000 in
theorem isConst_any (n : Int) (w : World) : Calls Try.prog 84 #[.int .i64 n] w fun e w' => e = .returned (.bool (inB n (-99) 99)) ∧ w = w' := by
  go_enter Try.func84, Try.ntmps84
  go_wp2_with (go_at_call 53; refine (within_any _ _ _ _).mono ?_; rintro e w' ⟨rfl, rfl⟩)
  go_ret
  exact ⟨rfl, rfl⟩
set_option maxHeartbeats 400000 in
theorem affV1_any (n : Int) (w : World) : Calls Try.prog 86 #[.int .i64 n] w fun e w' => e = .returned (.bool (!inB n (-9) 9)) ∧ w = w' := by
  go_enter Try.func86, Try.ntmps86
  go_wp2_with (go_at_call 53; refine (within_any _ _ _ _).mono ?_; rintro e w' ⟨rfl, rfl⟩)
  go_ret
  exact ⟨rfl, rfl⟩
theorem Try.egAffV1 : ∀ args w, (callFunc 86 args).run Try.prog w = .ok (.enter 86 args) w := fun _ _ => by kernel_rfl
set_option maxHeartbeats 400000 in
theorem containsFunc_any (P : Nat → Prop) (g : Nat) (lb : Array Value) (eg : ∀ args w, (callFunc g args).run Try.prog w = .ok (.enter g args) w) (p : Int → Bool) (a : Option Addr) (n c : Nat) (xs : List Int) (w : World) (hx : Sl Sh.int P w (.slice a n c) xs)
    (hp : ∀ x, Calls Try.prog g (#[.int .i64 x] ++ lb) w fun e w' => e = .returned (.bool (p x)) ∧ w = w') :
    Calls Try.prog 85 #[.slice a n c, .func (.func g) #[] lb] w fun e w' => e = .returned (.bool (xs.any p)) ∧ w = w' := by
  have hd : decide (0 ≤ findI p xs) = xs.any p := by
    unfold findI
    cases h : xs.any p
    · simp
    · simp
  have Hd := hid hd
  have Hp := hid hp
  clear hd hp
  go_enter Try.func85, Try.ntmps85
  go_wp2_with (go_at_call 137; refine (indexFunc_any P g lb eg p _ _ _ xs _ hx Hp.out).mono ?_; rintro e w' ⟨rfl, rfl⟩)
  go_ret
  exact ⟨ret_bool Hd.out, rfl⟩

set_option maxHeartbeats 800000 in
theorem implAffV_any (P : Nat → Prop) (v : Value) (x : Aff) (w : World) (h : AffR P w v x) :
    Calls Try.prog 33 #[v] w fun e w' => e = .returned (.bool (affV x)) ∧ Below w.heap.size w w' := by
  obtain ⟨a, c, rfl, h1, h2, hs⟩ := h.shape
  obtain ⟨co, k⟩ := x
  simp only at hs h1 h2 ⊢
  have haf : affV (co, k) = (decide (co.length = 4) && inB k (-99) 99 && !co.any (fun c => !inB c (-9) 9)) := rfl
  have Haf := hid haf; clear haf
  have hs' := hs.alloc (.cells #[.slice a co.length c, .int .i64 k] 28)
  by_cases h4 : co.length = 4
  · have h4' : (((co.length : Nat) : Int) == 4) = true := by simp; omega
    have H4 := hid h4
    clear h4
    cases hk : inB k (-99) 99
    · go_enter Try.func33, Try.ntmps33
      go_wp2_with (go_at_call 84; refine (isConst_any _ _).mono ?_; rintro e w' ⟨rfl, rfl⟩; rw [hk])
      go_ret
      exact ⟨ret_bool (by rw [Haf.out, hk]; simp), (Below.refl _ _).alloc (Nat.le_refl _) _⟩
    · go_enter Try.func33, Try.ntmps33
      go_wp2_with (first
        | (go_at_call 84; refine (isConst_any _ _).mono ?_; rintro e w' ⟨rfl, rfl⟩; rw [hk])
        | (go_at_call 85; refine (containsFunc_any P 86 #[] Try.egAffV1 (fun c => !inB c (-9) 9) _ _ _ co _ hs' (fun x => affV1_any x _)).mono ?_; rintro e w' ⟨rfl, rfl⟩))
      go_ret
      exact ⟨ret_bool (by rw [Haf.out, hk, H4.out]; simp), (Below.refl _ _).alloc (Nat.le_refl _) _⟩
  · have h4' : (((co.length : Nat) : Int) == 4) = false := by simp; omega
    have H4 := hid h4
    clear h4
    go_enter Try.func33, Try.ntmps33
    go_wp2
    go_ret
    exact ⟨ret_bool (by rw [Haf.out, decide_eq_false H4.out]; simp), (Below.refl _ _).alloc (Nat.le_refl _) _⟩
end Go.Proofs.Ytigdfdhjnadieaa

/- Loops and nests: how they lie in memory; no condition. -/
namespace Go.Proofs.Ytigdfdhjnadieaa
set_option linter.unusedVariables false
set_option linter.unusedSimpArgs false
open Go.RowKit

def affSh : Sh Aff := Sh.pair (Sh.slice Sh.int) Sh.int
/-- A loop: its lower and its upper bounds. -/
abbrev Lp := List Aff × List Aff
def loopSh : Sh Lp := Sh.pair (Sh.slice affSh) (Sh.slice affSh)
theorem affSh_sz : affSh.sz = 2 := rfl
theorem loopSh_sz : loopSh.sz = 2 := rfl
section
variable {P : Nat → Prop} {w : World} {cs : List Value} {a : Option Addr} {n c : Nat}
theorem aff_rep {x : Aff} : affSh.rep P w cs x ↔ ∃ va, cs = [va, .int .i64 x.2] ∧ Sl Sh.int P w va x.1 := by
  constructor
  · rintro ⟨c1, c2, rfl, ⟨va, rfl, h⟩, h2⟩
    have : c2 = [.int .i64 x.2] := h2
    subst this
    exact ⟨va, rfl, h⟩
  · rintro ⟨va, rfl, h⟩
    exact ⟨[va], [.int .i64 x.2], rfl, ⟨va, rfl, h⟩, rfl⟩
theorem loop_rep {x : Lp} : loopSh.rep P w cs x ↔ ∃ va vb, cs = [va, vb] ∧ Sl affSh P w va x.1 ∧ Sl affSh P w vb x.2 := by
  constructor
  · rintro ⟨c1, c2, rfl, ⟨va, rfl, h⟩, ⟨vb, rfl, h2⟩⟩
    exact ⟨va, vb, rfl, h, h2⟩
  · rintro ⟨va, vb, rfl, h, h2⟩
    exact ⟨[va], [vb], rfl, ⟨va, rfl, h⟩, ⟨vb, rfl, h2⟩⟩
theorem Sl.affAt {xs : List Aff} (h : Sl affSh P w (.slice a n c) xs) (hn : 0 < n) : ∃ b off, a = some ⟨b, off, none⟩ ∧ P b ∧ b < w.heap.size ∧
    ∀ (i : Nat) x, xs[i]? = some x → ∃ va, w.cell? ⟨b, off + i * 2, none⟩ = some va ∧ w.cell? ⟨b, off + (i * 2 + 1), none⟩ = some (.int .i64 x.2) ∧ Sl Sh.int P w va x.1 := by
  obtain ⟨b, off, ha, hb, hlt, hc⟩ := h.at hn
  refine ⟨b, off, ha, hb, hlt, fun i x hx => ?_⟩
  obtain ⟨cs, hr, hcell⟩ := hc i x hx
  obtain ⟨va, rfl, hs⟩ := aff_rep.1 hr
  exact ⟨va, hcell 0 _ rfl, hcell 1 _ rfl, hs⟩
theorem Sl.loopAt {xs : List Lp} (h : Sl loopSh P w (.slice a n c) xs) (hn : 0 < n) : ∃ b off, a = some ⟨b, off, none⟩ ∧ P b ∧ b < w.heap.size ∧
    ∀ (i : Nat) x, xs[i]? = some x → ∃ va vb, w.cell? ⟨b, off + i * 2, none⟩ = some va ∧ w.cell? ⟨b, off + (i * 2 + 1), none⟩ = some vb ∧ Sl affSh P w va x.1 ∧ Sl affSh P w vb x.2 := by
  obtain ⟨b, off, ha, hb, hlt, hc⟩ := h.at hn
  refine ⟨b, off, ha, hb, hlt, fun i x hx => ?_⟩
  obtain ⟨cs, hr, hcell⟩ := hc i x hx
  obtain ⟨va, vb, rfl, h1, h2⟩ := loop_rep.1 hr
  exact ⟨va, vb, hcell 0 _ rfl, hcell 1 _ rfl, h1, h2⟩
end
end Go.Proofs.Ytigdfdhjnadieaa

/- The functions that compare two slices of ints element by element; condition: what the slices hold. -/
namespace Go.Proofs.Ytigdfdhjnadieaa
set_option linter.unusedVariables false
set_option linter.unusedSimpArgs false
open Go.RowKit

theorem take_eq_stepE {xs ys : List Int} {k : Nat} (hk : xs.take k = ys.take k) (h1 : k < xs.length) (h2 : k < ys.length) (h : xs.getD k 0 = ys.getD k 0) : xs.take (k+1) = ys.take (k+1) := by
  rw [List.take_succ_eq_append_getElem h1, List.take_succ_eq_append_getElem h2, hk]
  simp only [List.getD, List.getElem?_eq_getElem h1, List.getElem?_eq_getElem h2, Option.getD_some] at h
  rw [h]
theorem ne_of_getDE {xs ys : List Int} {k : Nat} (h : ¬ xs.getD k 0 = ys.getD k 0) : xs ≠ ys := fun e => h (by rw [e])
theorem decide_selfE (xs : List Int) : decide (xs = xs) = true := by simp

set_option maxHeartbeats 800000 in
theorem eqIntS2_any (P Q : Nat → Prop) (a b : Option Addr) (m n c1 c2 : Nat) (xs ys : List Int) (w : World) (hx : Sl Sh.int P w (.slice a m c1) xs) (hy : Sl Sh.int Q w (.slice b n c2) ys) :
    Calls Try.prog 157 #[.slice a m c1, .slice b n c2] w fun e w' => e = .returned (.bool (decide (xs = ys))) ∧ Quiet w w' := by
  have hxl := hid hx.len
  have hyl := hid hy.len
  by_cases hmn : m = n
  · subst hmn
    have hle := hx.le
    go_enter Try.func157, Try.ntmps157
    go_wp2
    go_loopw [5] (fun i wr => ∃ k : Nat, k ≤ m ∧ i = .int .i64 k ∧ Hid (xs.take k = ys.take k) ∧ Quiet w wr) (fun i _ => m - (intOf i).toNat)
    case atStart => exact ⟨0, Nat.zero_le _, rfl, hid (by simp), Quiet.refl w⟩
    case round =>
      obtain ⟨k, hk, rfl, Ht, hq⟩ := hrel
      by_cases hlt : k < m
      · obtain ⟨ba, oa, ha, _, _, hca⟩ := (hx.quiet hq).intAt (by omega)
        obtain ⟨bb, ob, hb, _, _, hcb⟩ := (hy.quiet hq).intAt (by omega)
        subst ha hb
        have h1 := hca k hlt
        have h2 := hcb k hlt
        clear hca hcb
        generalize hu : xs.getD k 0 = u at h1
        generalize hv : ys.getD k 0 = v at h2
        have Hu := hid hu; have Hv := hid hv
        clear hu hv
        cases he : (u != v)
        · have hee : u = v := by simpa using he
          have Hst := hid (take_eq_stepE Ht.out (by rw [hxl.out]; exact hlt) (by rw [hyl.out]; exact hlt) (by rw [Hu.out, Hv.out, hee]))
          clear hee
          go_wp2
          go_quiet (fail)
          go_wp2
          exact ⟨⟨k + 1, by omega, rfl, Hst, hq.drewN⟩, by simp [intOf]; omega⟩
        · have hne : u ≠ v := by simpa using he
          have Hne := hid (ne_of_getDE (xs := xs) (ys := ys) (k := k) (by rw [Hu.out, Hv.out]; exact hne))
          clear hne
          go_wp2
          go_quiet (fail)
          go_wp2
          go_ret
          exact ⟨ret_bool (decide_eq_false Hne.out).symm, hq.drewN⟩
      · have : k = m := by omega
        subst this
        go_wp2
        go_ret
        exact ⟨ret_bool (by have h := Ht.out; rw [List.take_of_length_le (by rw [hxl.out]; omega), List.take_of_length_le (by rw [hyl.out]; omega)] at h; exact (decide_eq_true h).symm), hq⟩
  · have hne : (((m : Int) != (n : Int)) = true) := by simp; omega
    go_enter Try.func157, Try.ntmps157
    go_wp2
    go_ret
    exact ⟨ret_bool (decide_eq_false (fun e => hmn (by rw [← hxl.out, ← hyl.out, e]))).symm, Quiet.refl _⟩


set_option maxHeartbeats 800000 in
theorem l1Ints_any (P Q : Nat → Prop) (a b : Option Addr) (m n c1 c2 : Nat) (xs ys : List Int) (w : World) (hx : Sl Sh.int P w (.slice a m c1) xs) (hy : Sl Sh.int Q w (.slice b n c2) ys) :
    Calls Try.prog 167 #[.slice a m c1, .slice b n c2] w fun e w' => e = .returned (.bool (decide (xs = ys))) ∧ Quiet w w' := by
  have hxl := hid hx.len
  have hyl := hid hy.len
  by_cases hmn : m = n
  · subst hmn
    have hle := hx.le
    go_enter Try.func167, Try.ntmps167
    go_wp2
    go_loopw [5] (fun i wr => ∃ k : Nat, k ≤ m ∧ i = .int .i64 k ∧ Hid (xs.take k = ys.take k) ∧ Quiet w wr) (fun i _ => m - (intOf i).toNat)
    case atStart => exact ⟨0, Nat.zero_le _, rfl, hid (by simp), Quiet.refl w⟩
    case round =>
      obtain ⟨k, hk, rfl, Ht, hq⟩ := hrel
      by_cases hlt : k < m
      · obtain ⟨ba, oa, ha, _, _, hca⟩ := (hx.quiet hq).intAt (by omega)
        obtain ⟨bb, ob, hb, _, _, hcb⟩ := (hy.quiet hq).intAt (by omega)
        subst ha hb
        have h1 := hca k hlt
        have h2 := hcb k hlt
        clear hca hcb
        generalize hu : xs.getD k 0 = u at h1
        generalize hv : ys.getD k 0 = v at h2
        have Hu := hid hu; have Hv := hid hv
        clear hu hv
        cases he : (u != v)
        · have hee : u = v := by simpa using he
          have Hst := hid (take_eq_stepE Ht.out (by rw [hxl.out]; exact hlt) (by rw [hyl.out]; exact hlt) (by rw [Hu.out, Hv.out, hee]))
          clear hee
          go_wp2
          go_quiet (fail)
          go_wp2
          exact ⟨⟨k + 1, by omega, rfl, Hst, hq.drewN⟩, by simp [intOf]; omega⟩
        · have hne : u ≠ v := by simpa using he
          have Hne := hid (ne_of_getDE (xs := xs) (ys := ys) (k := k) (by rw [Hu.out, Hv.out]; exact hne))
          clear hne
          go_wp2
          go_quiet (fail)
          go_wp2
          go_ret
          exact ⟨ret_bool (decide_eq_false Hne.out).symm, hq.drewN⟩
      · have : k = m := by omega
        subst this
        go_wp2
        go_ret
        exact ⟨ret_bool (by have h := Ht.out; rw [List.take_of_length_le (by rw [hxl.out]; omega), List.take_of_length_le (by rw [hyl.out]; omega)] at h; exact (decide_eq_true h).symm), hq⟩
  · have hne : (((m : Int) != (n : Int)) = true) := by simp; omega
    go_enter Try.func167, Try.ntmps167
    go_wp2
    go_ret
    exact ⟨ret_bool (decide_eq_false (fun e => hmn (by rw [← hxl.out, ← hyl.out, e]))).symm, Quiet.refl _⟩
end Go.Proofs.Ytigdfdhjnadieaa

/- Affine expressions: validity in the reference, depths, values, points; condition: what the arguments hold. -/
namespace Go.Proofs.Ytigdfdhjnadieaa
set_option linter.unusedVariables false
set_option linter.unusedSimpArgs false
open Go.RowKit

set_option maxHeartbeats 400000 in
theorem l1Within_any (n m : Int) (w : World) (h0 : 0 ≤ m) (h1 : m ≤ 1000000) : Calls Try.prog 95 #[.int .i64 n, .int .i64 m] w fun e w' => e = .returned (.bool (inB n (-m) m)) ∧ w = w' := by
  by_cases h1 : -m ≤ n
  · have h1' : decide (-m ≤ n) = true := by simpa using h1
    by_cases h2 : n ≤ m
    · have h2' : decide (n ≤ m) = true := by simpa using h2
      have hf := hid (show inB n (-m) m = true by simp [inB, h1, h2])
      go_enter Try.func95, Try.ntmps95
      go_wp2
      go_ret
      exact ⟨ret_bool hf.out.symm, rfl⟩
    · have h2' : decide (n ≤ m) = false := by simpa using h2
      have hf := hid (show inB n (-m) m = false by simp [inB, h2])
      go_enter Try.func95, Try.ntmps95
      go_wp2
      go_ret
      exact ⟨ret_bool hf.out.symm, rfl⟩
  · have h1' : decide (-m ≤ n) = false := by simpa using h1
    have hf := hid (show inB n (-m) m = false by simp [inB]; omega)
    go_enter Try.func95, Try.ntmps95
    go_wp2
    go_ret
    exact ⟨ret_bool hf.out.symm, rfl⟩

set_option maxHeartbeats 1600000 in
theorem specAffV_any (P : Nat → Prop) (v : Value) (x : Aff) (w : World) (h : AffR P w v x) :
    Calls Try.prog 82 #[v] w fun e w' => e = .returned (.bool (affV x)) ∧ Below w.heap.size w w' := by
  obtain ⟨a, c, rfl, h1, h2, hs⟩ := h.shape
  obtain ⟨co, k⟩ := x
  simp only at hs h1 h2 ⊢
  have haf : affV (co, k) = (decide (co.length = 4) && inB k (-99) 99 && !co.any (fun c => !inB c (-9) 9)) := rfl
  have Haf := hid haf; clear haf
  have hs' := hs.alloc (.cells #[.slice a co.length c, .int .i64 k] 28)
  go_enter Try.func82, Try.ntmps82
  go_wp2
  go_loop [3] (fun i => ∃ j : Nat, j ≤ co.length ∧ i = .int .i64 j ∧ Hid (∀ x ∈ co.take j, (!inB x (-9) 9) = false)) (fun i => co.length - (intOf i).toNat)
  case atStart => exact ⟨0, Nat.zero_le _, rfl, hid (by simp)⟩
  case round =>
    obtain ⟨j, hj, rfl, ht⟩ := hrel
    by_cases hlt : j < co.length
    · obtain ⟨ba, oa, ha, _, _, hca⟩ := hs'.intAt (by omega)
      subst ha
      have q1 := hca j hlt
      generalize hy : co.getD j 0 = y at q1
      have Hy := hid hy; clear hy hca
      cases hq : inB y (-9) 9
      · have Hq : Hid (inB y (-9) 9 = false) := hid hq
        have hany : Hid (co.any (fun c => !inB c (-9) 9) = true) := hid (List.any_eq_true.2 ⟨y, by rw [← Hy.out, List.getD, List.getElem?_eq_getElem hlt]; exact List.getElem_mem _, by rw [Hq.out]; rfl⟩)
        go_wp2_with (go_at_call 95; refine (l1Within_any _ _ _ (by omega) (by omega)).mono ?_; rintro e w' ⟨rfl, rfl⟩; rw [Hq.out])
        go_ret
        exact ⟨ret_bool (by rw [Haf.out, hany.out]; simp), (Below.refl _ _).alloc (Nat.le_refl _) _⟩
      · have Hq : Hid (inB y (-9) 9 = true) := hid hq
        have Ht := hid (take_step (p := fun c => !inB c (-9) 9) ht.out hlt (by rw [Hy.out, Hq.out]; rfl))
        go_wp2_with (go_at_call 95; refine (l1Within_any _ _ _ (by omega) (by omega)).mono ?_; rintro e w' ⟨rfl, rfl⟩; rw [Hq.out])
        exact ⟨⟨j + 1, by omega, rfl, Ht⟩, by simp [intOf]; omega⟩
    · have hje : j = co.length := by omega
      subst hje
      have hany : Hid (co.any (fun c => !inB c (-9) 9) = false) := hid (by
        have := ht.out
        rw [List.take_length] at this
        rw [List.any_eq_false]
        intro x hx
        rw [this x hx]; simp)
      by_cases h4 : co.length = 4
      · have h4' : (((co.length : Nat) : Int) == 4) = true := by simp; omega
        have H4 := hid h4
        clear h4
        go_wp2_with (go_at_call 95; refine (l1Within_any _ _ _ (by omega) (by omega)).mono ?_; rintro e w' ⟨rfl, rfl⟩)
        go_ret
        exact ⟨ret_bool (by rw [Haf.out, hany.out, decide_eq_true H4.out]; simp), (Below.refl _ _).alloc (Nat.le_refl _) _⟩
      · have h4' : (((co.length : Nat) : Int) == 4) = false := by simp; omega
        have H4 := hid h4
        clear h4
        go_wp2
        go_ret
        exact ⟨ret_bool (by rw [Haf.out, hany.out, decide_eq_false H4.out]; simp), (Below.refl _ _).alloc (Nat.le_refl _) _⟩

/-- One more than the place of the last coefficient among the first k that is not zero. -/
def depthTo (co : List Int) : Nat → Nat
  | 0 => 0
  | k + 1 => if co.getD k 0 = 0 then depthTo co k else k + 1
def affDepth (x : Aff) : Nat := depthTo x.1 x.1.length
theorem depthTo_le (co : List Int) : ∀ k, depthTo co k ≤ k
  | 0 => Nat.le_refl _
  | k + 1 => by
    rw [depthTo]
    have := depthTo_le co k
    split <;> omega
set_option maxHeartbeats 1600000 in
theorem depth_any (P : Nat → Prop) (v : Value) (x : Aff) (w : World) (h : AffR P w v x) :
    Calls Try.prog 62 #[v] w fun e w' => e = .returned (.int .i64 (affDepth x)) ∧ Below w.heap.size w w' := by
  obtain ⟨a, c, rfl, h1, h2, hs⟩ := h.shape
  obtain ⟨co, k⟩ := x
  simp only at hs h1 h2 ⊢
  have hs' := hs.alloc (.cells #[.slice a co.length c, .int .i64 k] 28)
  go_enter Try.func62, Try.ntmps62
  go_wp2
  go_loop [3] (fun i => ∃ j : Nat, j ≤ co.length ∧ i = .int .i64 j ∧ Hid (depthTo co co.length = depthTo co j)) (fun i => (intOf i).toNat)
  case atStart => exact ⟨co.length, Nat.le_refl _, rfl, rfl⟩
  case round =>
    obtain ⟨j, hj, rfl, ht⟩ := hrel
    cases j with
    | zero =>
      have e0 : ((0 : Nat) : Int) = 0 := rfl
      rw [e0]
      go_wp2
      go_ret
      exact ⟨ret_int (by rw [affDepth, ht.out]; rfl), (Below.refl _ _).alloc (Nat.le_refl _) _⟩
    | succ j =>
      have e1 : ((j + 1 : Nat) : Int) = (j : Int) + 1 := by omega
      rw [e1]
      obtain ⟨ba, oa, ha, _, _, hca⟩ := hs'.intAt (by omega)
      subst ha
      have q1 := hca j (by omega)
      generalize hy : co.getD j 0 = y at q1
      have Hy := hid hy; clear hy hca e1
      cases hq : (y == 0)
      · have Ht : Hid (depthTo co co.length = j + 1) := hid (by rw [ht.out, depthTo, Hy.out, if_neg (by simpa using hq)])
        go_wp2
        go_ret
        exact ⟨ret_int (by rw [affDepth, Ht.out]; rfl), (Below.refl _ _).alloc (Nat.le_refl _) _⟩
      · have Ht : Hid (depthTo co co.length = depthTo co j) := hid (by rw [ht.out, depthTo, Hy.out, if_pos (by simpa using hq)])
        go_wp2
        exact ⟨⟨j, by omega, rfl, Ht⟩, by simp [intOf]⟩
set_option maxHeartbeats 1600000 in
theorem l1Depth_any (P : Nat → Prop) (v : Value) (x : Aff) (w : World) (h : AffR P w v x) :
    Calls Try.prog 117 #[v] w fun e w' => e = .returned (.int .i64 (affDepth x)) ∧ Below w.heap.size w w' := by
  obtain ⟨a, c, rfl, h1, h2, hs⟩ := h.shape
  obtain ⟨co, k⟩ := x
  simp only at hs h1 h2 ⊢
  have hs' := hs.alloc (.cells #[.slice a co.length c, .int .i64 k] 28)
  go_enter Try.func117, Try.ntmps117
  go_wp2
  go_loop [3, 4] (fun q i => ∃ j : Nat, j ≤ co.length ∧ i = .int .i64 j ∧ q = .int .i64 (depthTo co j : Nat)) (fun _ i => co.length - (intOf i).toNat)
  case atStart => exact ⟨0, Nat.zero_le _, rfl, rfl⟩
  case round =>
    obtain ⟨j, hj, rfl, rfl⟩ := hrel
    by_cases hlt : j < co.length
    · obtain ⟨ba, oa, ha, _, _, hca⟩ := hs'.intAt (by omega)
      subst ha
      have q1 := hca j hlt
      have hd : depthTo co (j + 1) = if co.getD j 0 = 0 then depthTo co j else j + 1 := rfl
      generalize co.getD j 0 = y at q1 hd
      clear hca
      cases hq : (y != 0)
      · rw [if_pos (by simpa using hq)] at hd
        have Hd := hid hd; clear hd
        go_wp2
        exact ⟨⟨j + 1, by omega, rfl, by rw [Hd.out]⟩, by simp [intOf]; omega⟩
      · rw [if_neg (by simpa using hq)] at hd
        have Hd := hid hd; clear hd
        go_wp2
        exact ⟨⟨j + 1, by omega, rfl, by rw [Hd.out]; rfl⟩, by simp [intOf]; omega⟩
    · have hje : j = co.length := by omega
      subst hje
      go_wp2
      go_ret
      exact ⟨rfl, (Below.refl _ _).alloc (Nat.le_refl _) _⟩

/-- The value of the first k terms. -/
def evalTo (co p : List Int) : Nat → Int
  | 0 => 0
  | k + 1 => evalTo co p k + co.getD k 0 * p.getD k 0
def affEval (x : Aff) (p : List Int) : Int := x.2 + evalTo x.1 p p.length
def Small (p : List Int) : Prop := ∀ n ∈ p, -1099511627776 ≤ n ∧ n ≤ 1099511627776
theorem Small.getD {p : List Int} (h : Small p) (i : Nat) : -1099511627776 ≤ p.getD i 0 ∧ p.getD i 0 ≤ 1099511627776 := by
  rw [List.getD]
  cases e : p[i]? with
  | none => simp
  | some c => exact h c (List.mem_of_getElem? e)
theorem mul_bd {c x : Int} (h : -9 ≤ c ∧ c ≤ 9) (hx : -1099511627776 ≤ x ∧ x ≤ 1099511627776) : -9895604649984 ≤ c * x ∧ c * x ≤ 9895604649984 := by
  obtain ⟨h1, h2⟩ := h
  have : c = -9 ∨ c = -8 ∨ c = -7 ∨ c = -6 ∨ c = -5 ∨ c = -4 ∨ c = -3 ∨ c = -2 ∨ c = -1 ∨ c = 0 ∨ c = 1 ∨ c = 2 ∨ c = 3 ∨ c = 4 ∨ c = 5 ∨ c = 6 ∨ c = 7 ∨ c = 8 ∨ c = 9 := by omega
  rcases this with h | h | h | h | h | h | h | h | h | h | h | h | h | h | h | h | h | h | h <;> subst h <;> omega
theorem evalTo_bd {co p : List Int} (hc : ∀ i, -9 ≤ co.getD i 0 ∧ co.getD i 0 ≤ 9) (hp : Small p) : ∀ k : Nat, -9895604649984 * (k : Int) ≤ evalTo co p k ∧ evalTo co p k ≤ 9895604649984 * (k : Int)
  | 0 => by simp [evalTo]
  | k + 1 => by
    rw [evalTo]
    have h1 := evalTo_bd hc hp k
    have h2 := mul_bd (hc k) (hp.getD k)
    omega

def coB (x : Aff) : Prop := ∀ i, -9 ≤ x.1.getD i 0 ∧ x.1.getD i 0 ≤ 9
set_option maxHeartbeats 1600000 in
theorem eval_any (P Q : Nat → Prop) (v : Value) (x : Aff) (a2 : Option Addr) (n c2 : Nat) (p : List Int) (w : World) (h : AffR P w v x) (hp : Sl Sh.int Q w (.slice a2 n c2) p) (hV : affV x = true) (hS : Small p) (hn : n ≤ 4) :
    Calls Try.prog 92 #[v, .slice a2 n c2] w fun e w' => e = .returned (.int .i64 (affEval x p)) ∧ Below w.heap.size w w' := by
  have hco := affV_getD hV
  have hk := affV_const hV
  have hlen := affV_len hV
  obtain ⟨a, c, rfl, h1, h2, hs⟩ := h.shape
  obtain ⟨co, k⟩ := x
  simp only at hs h1 h2 hco hk hlen ⊢
  rw [hlen] at hs
  have hs' := hs.alloc (.cells #[.slice a 4 c, .int .i64 k] 28)
  have hp' := hp.alloc (.cells #[.slice a 4 c, .int .i64 k] 28)
  have hbd := evalTo_bd hco hS
  have hpl := hid hp.len
  have Hlen := hid hlen; have Hco := hid hco; have HS := hid hS; have Hbd := hid hbd
  have hax : Hid (affEval (co, k) p = k + evalTo co p n) := hid (by rw [affEval, hpl.out])
  clear hlen hco hS hbd hV h1
  obtain ⟨ba, oa, ha, _, _, hca⟩ := hs'.intAt (by omega)
  subst ha
  have Hca := hid hca; clear hca
  go_enter Try.func92, Try.ntmps92
  rw [Hlen.out]
  go_wp2
  go_loop [5, 12] (fun q i => ∃ j : Nat, j ≤ n ∧ i = .int .i64 j ∧ q = .int .i64 (k + evalTo co p j)) (fun _ i => n - (intOf i).toNat)
  case atStart => exact ⟨0, Nat.zero_le _, rfl, by simp [evalTo]⟩
  case round =>
    obtain ⟨j, hj, rfl, rfl⟩ := hrel
    by_cases hlt : j < n
    · obtain ⟨bb, ob, hb, _, _, hcb⟩ := hp'.intAt (by omega)
      subst hb
      have q1 := Hca.out j (by omega)
      have q2 := hcb j hlt
      have b0 := Hbd.out j
      have b1 := Hco.out j
      have b2 := HS.out.getD j
      have b3 := mul_bd b1 b2
      have he : evalTo co p (j + 1) = evalTo co p j + co.getD j 0 * p.getD j 0 := rfl
      generalize co.getD j 0 = y at q1 b3 he
      generalize p.getD j 0 = z at q2 b3 he
      generalize evalTo co p j = f at b0 he
      have He := hid he
      clear he hcb b1 b2
      go_wp2
      exact ⟨⟨j + 1, by omega, rfl, int_i64 (by rw [He.out]; omega)⟩, by simp [intOf]; omega⟩
    · have hje : j = n := by omega
      subst hje
      go_wp2
      go_ret
      exact ⟨ret_int hax.out.symm, (Below.refl _ _).alloc (Nat.le_refl _) _⟩
end Go.Proofs.Ytigdfdhjnadieaa

/- Affine expressions that are made: constants, copies; condition: what the arguments hold. -/
namespace Go.Proofs.Ytigdfdhjnadieaa
set_option linter.unusedVariables false
set_option linter.unusedSimpArgs false
open Go.RowKit

/-- An affine expression whose coefficients are the call's own. -/
def AffO (B : Nat) (w : World) (v : Value) (x : Aff) : Prop := ∃ va, v = .agg #[va, .int .i64 x.2] ∧ OwnI B w va x.1
theorem AffO.r {B : Nat} {w : World} {v : Value} {x : Aff} (h : AffO B w v x) (hn : x.1.length ≤ 17592186044416) : AffR (fun b => B ≤ b) w v x := by
  obtain ⟨va, e, ho⟩ := h
  exact ⟨va, e, (ho.sl hn).mono fun b hb _ => (ho.lt b hb).1⟩
theorem AffO.any {B : Nat} {w : World} {v : Value} {x : Aff} (h : AffO B w v x) (hn : x.1.length ≤ 17592186044416) : AffR (fun _ => True) w v x := (h.r hn).any
theorem AffO.below {B : Nat} {w w' : World} {v : Value} {x : Aff} (h : AffO B w v x) (hb : Below w.heap.size w w') : AffO B w' v x := by
  obtain ⟨va, e, ho⟩ := h
  exact ⟨va, e, ho.below hb⟩
theorem AffO.base {B B' : Nat} {w : World} {v : Value} {x : Aff} (h : AffO B w v x) (hB : B' ≤ B) : AffO B' w v x := by
  obtain ⟨va, e, ho⟩ := h
  exact ⟨va, e, ho.base hB⟩
theorem AffO.grown {B : Nat} {w w' : World} {v : Value} {x : Aff} {r : Option Nat} (h : AffO B w v x) (hg : w.grownBy w' r) (hr : ∀ g, r = some g → g < B) : AffO B w' v x := by
  obtain ⟨va, e, ho⟩ := h
  exact ⟨va, e, ho.grown hg (fun g hg e => by have := hr g hg; have := (ho.lt g e).1; omega)⟩
theorem AffO.zero (B : Nat) (w : World) : AffO B w (.agg #[.slice none 0 0, .int .i64 0]) ([], 0) := ⟨_, rfl, OwnI.nil _ _⟩
/-- The call hands back the expression x, in memory of its own. -/
def RetAff (x : Aff) (w : World) (e : Ending) (w' : World) : Prop := ∃ v, e = .returned v ∧ AffO w.heap.size w' v x ∧ Below w.heap.size w w'

/-- A list of numbers, in memory of the call's own. -/
def RetInts (xs : List Int) (w : World) (e : Ending) (w' : World) : Prop := ∃ v, e = .returned v ∧ OwnI w.heap.size w' v xs ∧ Below w.heap.size w w'
set_option maxHeartbeats 800000 in
theorem clone_any (P : Nat → Prop) (a : Option Addr) (n c : Nat) (xs : List Int) (w : World) (hx : Sl Sh.int P w (.slice a n c) xs) (hn : n ≤ 4294967296) :
    Calls Try.prog 154 #[.slice a n c] w (RetInts xs w) := by
  have heq := fun (w : World) => Lib.run_eql_slice_nil (P := Try.prog) w 26 3 a n c 0 0 Try.underlying26
  cases a with
  | none =>
    have hx0 : xs = [] := by
      cases xs with
      | nil => rfl
      | cons x xs => obtain ⟨b, off, e, _⟩ := hx.at (by have := hx.len; simp at this; omega); cases e
    subst hx0
    go_enter Try.func154, Try.ntmps154
    go_wp2
    go_ret
    exact ⟨_, rfl, OwnI.nil _ _, Below.refl _ _⟩
  | some ad =>
    have hx' := hx.alloc (.cells #[] 3)
    have hx2 : Sl Sh.int (fun b => b < w.heap.size) (w.alloc (.cells #[] 3)) (.slice (some ad) n c) xs := ((hx.mono (Q := fun b => b < w.heap.size) fun b _ hb => hb).alloc _)
    go_enter Try.func154, Try.ntmps154
    go_wp2_with (at_builtin; go_must (refine wpList_appSI _ rfl _ _ rfl w.heap.size _ [] rfl (OwnI.empty w (Nat.le_refl _)) _ _ _ xs (fun b => b < w.heap.size) rfl hx2 ?_ ?_ ?c1 ?c2))
    case c1 => simp; omega
    case c2 => simp
    · intro b hb _ e
      have := Option.some.inj e
      simp at this
      omega
    intro v' w' o g b _
    try rw [List.nil_append] at o
    have Hb := hid (((Below.refl w.heap.size w).alloc (Nat.le_refl _) (.cells #[] 3)).trans b)
    have Ho := hid o
    clear o g b
    go_wp2
    go_ret
    exact ⟨_, rfl, Ho.out, Hb.out⟩

theorem zero4 (w : World) : OwnI w.heap.size (w.alloc (.cells #[.int .i64 0, .int .i64 0, .int .i64 0, .int .i64 0] 3)) (.slice (some ⟨w.heap.size, 0, none⟩) 4 4) [0, 0, 0, 0] :=
  OwnI.made w [0, 0, 0, 0] (Nat.le_refl _) (by simp)
set_option maxHeartbeats 800000 in
theorem constant_any (n : Int) (w : World) : Calls Try.prog 91 #[.int .i64 n] w (RetAff ([0, 0, 0, 0], n) w) := by
  have hmk : ∀ w, (Instr.makeSlice 26 (.int .i64 4) (.int .i64 4)).run Try.prog w = .ok (.slice (some ⟨w.heap.size, 0, none⟩) 4 4) (w.alloc (.cells (madeCells #[.int .i64 0] 4) 3)) := run_make_ints 4 (by omega)
  go_enter Try.func91, Try.ntmps91
  go_wp2
  refine bodyPost_ret (v := .agg #[.slice (some ⟨w.heap.size + 1, 0, none⟩) 4 4, .int .i64 n]) (by simp [results, Try.results91, go_sem]) rfl ?_
  have ho := OwnI.zeros (B := w.heap.size) (w.alloc (.cells #[.slice (some ⟨w.heap.size + 1, 0, none⟩) 4 4, .int .i64 n] 28)) 4 (by simp) (by omega)
  rw [World.size_alloc] at ho
  exact ⟨_, rfl, ⟨_, rfl, ho⟩, ((Below.refl _ _).alloc (Nat.le_refl _) _).alloc (by simp) _⟩

/-- A block for a result of a struct of two fields that was laid ahead of a call: what is known of it behind the call. -/
theorem res_facts {w w1 : World} {u0 u1 : Value} {T : TypeId} (hb : Below (w.heap.size + 1) (w.alloc (.cells #[u0, u1] T)) w1) :
    w1.cell? ⟨w.heap.size, 0, none⟩ = some u0 ∧ w1.cell? ⟨w.heap.size, 1, none⟩ = some u1 ∧ w1.frozen? ⟨w.heap.size, 0, none⟩ = false ∧ w1.frozen? ⟨w.heap.size, 1, none⟩ = false ∧ w.heap.size < w1.heap.size := by
  have hn := heap_alloc_new w (.cells #[u0, u1] T)
  have hs := hb.size
  rw [World.size_alloc] at hs
  refine ⟨(hb.cell (p := ⟨w.heap.size, 0, none⟩) (by simp)).trans (cell_of_row _ _ 0 _ _ _ hn), (hb.cell (p := ⟨w.heap.size, 1, none⟩) (by simp)).trans (cell_of_row _ _ 1 _ _ _ hn), ?_, ?_, by omega⟩
  · rw [hb.frozen (p := ⟨w.heap.size, 0, none⟩) (by simp)]; unfold World.frozen?; rw [hn]; rfl
  · rw [hb.frozen (p := ⟨w.heap.size, 1, none⟩) (by simp)]; unfold World.frozen?; rw [hn]; rfl
theorem OwnI.store {B : Nat} {w : World} {v u : Value} {xs : List Int} {p : Addr} (h : OwnI B w v xs) (hne : v.ownBlock ≠ some p.block) : OwnI B (w.setCell p u) v xs :=
  h.grown (setCell_grown w p u) (fun g hg => by cases hg; exact hne)
theorem Sl.store {α : Type} {S : Sh α} {P : Nat → Prop} {w : World} {v u : Value} {xs : List α} {p : Addr} (h : Sl S P w v xs) (hne : ¬ P p.block) : Sl S P (w.setCell p u) v xs :=
  h.grown (setCell_grown w p u) (fun b hb e => hne (by cases e; exact hb))

set_option maxHeartbeats 1600000 in
theorem variable_any (v : Nat) (k : Int) (w : World) (hv : v < 4) : Calls Try.prog 101 #[.int .i64 v, .int .i64 k] w (RetAff ([0, 0, 0, 0].set v k, 0) w) := by
  go_enter Try.func101, Try.ntmps101
  go_wp2_with fail
  refine (constant_any 0 _).mono ?_
  rintro e w1 ⟨v1, rfl, ⟨va, rfl, ho⟩, hb⟩
  rw [World.size_alloc] at ho hb
  obtain ⟨r0, r1, f0, f1, hsz⟩ := res_facts hb
  obtain ⟨a1, c1, rfl, hc1⟩ := ho.shape
  obtain ⟨g, off, rfl, hgB, hgl, _, hcell, hfr⟩ := ho.at (by decide)
  have q1 := hcell v (by simpa using hv)
  have q2 := hfr (off + v)
  have hne : g ≠ w.heap.size := by omega
  have hset := (((ho.set v k).store (p := ⟨w.heap.size, 0, none⟩) (u := .slice (some ⟨g, off, none⟩) 4 c1) (fun e => by have := Option.some.inj e; simp at this; omega)).store (p := ⟨w.heap.size, 1, none⟩) (u := .int .i64 0) (fun e => by have := Option.some.inj e; simp at this; omega)).alloc (.cells #[.slice (some ⟨g, off, none⟩) 4 c1, .int .i64 0] 28)
  have Hset := hid hset
  have Hb := hid hb
  have hv4 : (v : Int) < 4 := by omega
  clear hset hcell hfr hb ho
  simp only [List.length_cons, List.length_nil, Nat.zero_add, Nat.reduceAdd] at *
  go_wp2_with fail
  refine bodyPost_ret (v := .agg #[.slice (some ⟨g, off, none⟩) 4 c1, .int .i64 0]) (by simp [results, Try.results101, go_sem, r0, r1, hsz, hne]) rfl ?_
  exact ⟨_, rfl, ⟨_, rfl, Hset.out.base (Nat.le_succ _)⟩, ((((((Below.refl _ _).alloc (Nat.le_refl _) _).trans (Hb.out.mono (Nat.le_succ _))).setCell (by simp; omega) _).setCell (by simp) _).setCell (by simp) _).alloc (by simp; omega) _⟩

set_option maxHeartbeats 800000 in
theorem l1Zero_any (w : World) : Calls Try.prog 108 #[] w (RetAff ([0, 0, 0, 0], 0) w) := by
  go_enter Try.func108, Try.ntmps108
  go_wp2
  refine bodyPost_ret (v := .agg #[.slice (some ⟨w.heap.size + 1, 0, none⟩) 4 4, .int .i64 0]) (by simp [results, Try.results108, go_sem]) rfl ?_
  have ho := OwnI.made (B := w.heap.size) (w.alloc (.cells #[.slice (some ⟨w.heap.size + 1, 0, none⟩) 4 4, .int .i64 0] 28)) [0, 0, 0, 0] (by simp) (by simp)
  rw [World.size_alloc] at ho
  exact ⟨_, rfl, ⟨_, rfl, ho⟩, ((Below.refl _ _).alloc (Nat.le_refl _) _).alloc (by simp) _⟩
set_option maxHeartbeats 1600000 in
theorem l1Var_any (v : Nat) (w : World) (hv : v < 4) : Calls Try.prog 107 #[.int .i64 v] w (RetAff ([0, 0, 0, 0].set v 1, 0) w) := by
  go_enter Try.func107, Try.ntmps107
  go_wp2_with fail
  refine (l1Zero_any _).mono ?_
  rintro e w1 ⟨v1, rfl, ⟨va, rfl, ho⟩, hb⟩
  rw [World.size_alloc] at ho hb
  obtain ⟨r0, r1, f0, f1, hsz⟩ := res_facts hb
  obtain ⟨a1, c1, rfl, hc1⟩ := ho.shape
  obtain ⟨g, off, rfl, hgB, hgl, _, hcell, hfr⟩ := ho.at (by decide)
  have q1 := hcell v (by simpa using hv)
  have q2 := hfr (off + v)
  have hne : g ≠ w.heap.size := by omega
  have hset := (((ho.set v 1).store (p := ⟨w.heap.size, 0, none⟩) (u := .slice (some ⟨g, off, none⟩) 4 c1) (fun e => by have := Option.some.inj e; simp at this; omega)).store (p := ⟨w.heap.size, 1, none⟩) (u := .int .i64 0) (fun e => by have := Option.some.inj e; simp at this; omega)).alloc (.cells #[.slice (some ⟨g, off, none⟩) 4 c1, .int .i64 0] 28)
  have Hset := hid hset
  have Hb := hid hb
  have hv4 : (v : Int) < 4 := by omega
  clear hset hcell hfr hb ho
  simp only [List.length_cons, List.length_nil, Nat.zero_add, Nat.reduceAdd] at *
  go_wp2_with fail
  refine bodyPost_ret (v := .agg #[.slice (some ⟨g, off, none⟩) 4 c1, .int .i64 0]) (by simp [results, Try.results107, go_sem, r0, r1, hsz, hne]) rfl ?_
  exact ⟨_, rfl, ⟨_, rfl, Hset.out.base (Nat.le_succ _)⟩, ((((((Below.refl _ _).alloc (Nat.le_refl _) _).trans (Hb.out.mono (Nat.le_succ _))).setCell (by simp; omega) _).setCell (by simp) _).setCell (by simp) _).alloc (by simp; omega) _⟩
set_option maxHeartbeats 1600000 in
theorem l1Const_any (n : Int) (w : World) : Calls Try.prog 96 #[.int .i64 n] w (RetAff ([0, 0, 0, 0], n) w) := by
  go_enter Try.func96, Try.ntmps96
  go_wp2_with fail
  refine (l1Zero_any _).mono ?_
  rintro e w1 ⟨v1, rfl, ⟨va, rfl, ho⟩, hb⟩
  rw [World.size_alloc] at ho hb
  obtain ⟨r0, r1, f0, f1, hsz⟩ := res_facts hb
  obtain ⟨a1, c1, rfl, hc1⟩ := ho.shape
  have hne : ∀ b, (Value.slice a1 4 c1).ownBlock = some b → b ≠ w.heap.size := fun b hb e => by have := (ho.lt b hb).1; omega
  have hset := ((ho.store (p := ⟨w.heap.size, 0, none⟩) (u := .slice a1 4 c1) (fun e => hne _ e rfl)).store (p := ⟨w.heap.size, 1, none⟩) (u := .int .i64 n) (fun e => hne _ e rfl)).alloc (.cells #[.slice a1 4 c1, .int .i64 n] 28)
  have Hset := hid hset
  have Hb := hid hb
  clear hset hb ho hne
  simp only [List.length_cons, List.length_nil, Nat.zero_add, Nat.reduceAdd] at *
  go_wp2_with fail
  refine bodyPost_ret (v := .agg #[.slice a1 4 c1, .int .i64 n]) (by simp [results, Try.results96, go_sem, r0, r1, hsz]) rfl ?_
  exact ⟨_, rfl, ⟨_, rfl, Hset.out.base (Nat.le_succ _)⟩, (((((Below.refl _ _).alloc (Nat.le_refl _) _).trans (Hb.out.mono (Nat.le_succ _))).setCell (by simp) _).setCell (by simp) _).alloc (by simp; omega) _⟩

/-- A block of two cells that is there, and not frozen. -/
structure Box2 (w : World) (g : Nat) (u0 u1 : Value) : Prop where
  c0 : w.cell? ⟨g, 0, none⟩ = some u0
  c1 : w.cell? ⟨g, 1, none⟩ = some u1
  f0 : w.frozen? ⟨g, 0, none⟩ = false
  f1 : w.frozen? ⟨g, 1, none⟩ = false
  lt : g < w.heap.size
theorem Box2.new (w : World) (u0 u1 : Value) (T : TypeId) : Box2 (w.alloc (.cells #[u0, u1] T)) w.heap.size u0 u1 := by
  have hn := heap_alloc_new w (.cells #[u0, u1] T)
  refine ⟨cell_of_row _ _ 0 _ _ _ hn, cell_of_row _ _ 1 _ _ _ hn, ?_, ?_, by simp⟩
  · unfold World.frozen?; rw [hn]; rfl
  · unfold World.frozen?; rw [hn]; rfl
theorem Box2.belowLt {w w' : World} {g D : Nat} {u0 u1 : Value} (h : Box2 w g u0 u1) (hb : Below D w w') (hD : g < D) : Box2 w' g u0 u1 :=
  ⟨(hb.cell (p := ⟨g, 0, none⟩) hD).trans h.c0, (hb.cell (p := ⟨g, 1, none⟩) hD).trans h.c1, (hb.frozen (p := ⟨g, 0, none⟩) hD).trans h.f0, (hb.frozen (p := ⟨g, 1, none⟩) hD).trans h.f1, Nat.lt_of_lt_of_le h.lt hb.size⟩
theorem Box2.below {w w' : World} {g : Nat} {u0 u1 : Value} (h : Box2 w g u0 u1) (hb : Below w.heap.size w w') : Box2 w' g u0 u1 := h.belowLt hb h.lt
theorem Box2.alloc {w : World} {g : Nat} {u0 u1 : Value} (h : Box2 w g u0 u1) (o : Obj) : Box2 (w.alloc o) g u0 u1 := h.below ((Below.refl _ _).alloc (Nat.le_refl _) o)
theorem Box2.drew {w : World} {g : Nat} {u0 u1 : Value} (h : Box2 w g u0 u1) : Box2 w.drew g u0 u1 := ⟨h.c0, h.c1, h.f0, h.f1, h.lt⟩
theorem Box2.quiet {w w' : World} {g : Nat} {u0 u1 : Value} (h : Box2 w g u0 u1) (hq : Quiet w w') : Box2 w' g u0 u1 := h.below (hq.below _)

set_option maxHeartbeats 1600000 in
theorem ownAff_any (P : Nat → Prop) (v : Value) (x : Aff) (w : World) (h : AffR P w v x) (hn : x.1.length ≤ 4294967296) : Calls Try.prog 122 #[v] w (RetAff x w) := by
  obtain ⟨a, c, rfl, h1, h2, hs⟩ := h.shape
  obtain ⟨co, k⟩ := x
  simp only at hs h1 h2 hn ⊢
  have hs' := (hs.alloc (.cells #[.slice a co.length c, .int .i64 k] 28)).alloc (.cells #[.slice none 0 0, .int .i64 0] 28)
  have B1 := (Box2.new w (.slice a co.length c) (.int .i64 k) 28).alloc (.cells #[.slice none 0 0, .int .i64 0] 28)
  have B2 := Box2.new (w.alloc (.cells #[.slice a co.length c, .int .i64 k] 28)) (.slice none 0 0) (.int .i64 0) 28
  rw [World.size_alloc] at B2
  have hb := ((Below.refl w.heap.size w).alloc (Nat.le_refl _) (.cells #[.slice a co.length c, .int .i64 k] 28)).alloc (by simp) (.cells #[.slice none 0 0, .int .i64 0] 28)
  go_enter Try.func122, Try.ntmps122
  go_wp2_with fail
  generalize (w.alloc (.cells #[.slice a co.length c, .int .i64 k] 28)).alloc (.cells #[.slice none 0 0, .int .i64 0] 28) = w2 at hs' B1 B2 hb
  obtain ⟨p0, p1, _, _, l1⟩ := B1
  have HB1 : Hid (Box2 w2 w.heap.size (.slice a co.length c) (.int .i64 k)) := hid ⟨p0, p1, by assumption, by assumption, l1⟩
  have HB2 := hid B2
  clear B2
  go_region_with (go_at_call 154; refine (clone_any P _ _ _ co _ hs'.drew hn).mono ?_; rintro e w1 ⟨v1, rfl, o1, b1⟩; obtain ⟨a1, c1, rfl, hc1⟩ := o1.shape; have B11 := HB1.out.drew.below b1; obtain ⟨s0, s1, _, _, m1⟩ := B11; obtain ⟨t0, t1, t2, t3, m2⟩ := HB2.out.drew.below b1)
  all_goals
    have l3 : w.heap.size + 1 < w2.heap.size := HB2.out.lt
    have hne : (Value.slice a1 co.length c1).ownBlock ≠ some (w.heap.size + 1) := fun e => by have := (o1.lt _ e).1; have h5 : w2.heap.size ≤ w.heap.size + 1 := this; omega
    have Ho := hid ((o1.store (p := ⟨w.heap.size + 1, 0, none⟩) (u := .slice a1 co.length c1) hne).store (p := ⟨w.heap.size + 1, 1, none⟩) (u := .int .i64 k) hne)
    have Hb := hid (((hb.drew.trans (b1.mono hb.size)).setCell (p := ⟨w.heap.size + 1, 0, none⟩) (Nat.le_succ _) (.slice a1 co.length c1)).setCell (p := ⟨w.heap.size + 1, 1, none⟩) (Nat.le_succ _) (.int .i64 k))
    clear hne o1 b1 hb hs'
    go_wp2
    refine bodyPost_ret (v := .agg #[.slice a1 co.length c1, .int .i64 k]) (by simp [results, Try.results122, go_sem, t0, t1, m2]) rfl ?_
    exact ⟨_, rfl, ⟨_, rfl, Ho.out.base (Nat.le_of_lt (Nat.lt_of_lt_of_le l1 (Nat.le_refl _)))⟩, Hb.out⟩

/-- An expression if it is valid. -/
def RetChk (P : Nat → Prop) (x : Aff) (w : World) (e : Ending) (w' : World) : Prop :=
  ∃ v, e = .returned (.tuple #[v, .bool (affV x)]) ∧ AffR P w' v (if affV x then x else ([], 0)) ∧ Below w.heap.size w w'
set_option maxHeartbeats 1600000 in
theorem checked_any (P : Nat → Prop) (v : Value) (x : Aff) (w : World) (h : AffR P w v x) : Calls Try.prog 99 #[v] w (RetChk P x w) := by
  obtain ⟨a, c, rfl, h1, h2, hs⟩ := h.shape
  obtain ⟨co, k⟩ := x
  simp only at hs h1 h2 ⊢
  have hb0 := (Below.refl w.heap.size w).alloc (Nat.le_refl _) (.cells #[.slice a co.length c, .int .i64 k] 28)
  have hb := hb0.alloc (by simp) (.cells #[.slice none 0 0, .int .i64 0] 28)
  have B1 := (Box2.new w (.slice a co.length c) (.int .i64 k) 28).alloc (.cells #[.slice none 0 0, .int .i64 0] 28)
  have B2 := Box2.new (w.alloc (.cells #[.slice a co.length c, .int .i64 k] 28)) (.slice none 0 0) (.int .i64 0) 28
  rw [World.size_alloc] at B2
  go_enter Try.func99, Try.ntmps99
  go_wp2_with fail
  generalize (w.alloc (.cells #[.slice a co.length c, .int .i64 k] 28)).alloc (.cells #[.slice none 0 0, .int .i64 0] 28) = w2 at B1 B2 hb
  have h3 : AffR P w2 _ (co, k) := h.below hb
  refine (implAffV_any P _ (co, k) w2 h3).mono ?_
  rintro e w3 ⟨rfl, b3⟩
  have hbb := hb.trans (b3.mono hb.size)
  obtain ⟨s0, s1, _, _, m1⟩ := B1.below b3
  obtain ⟨t0, t1, t2, t3, m2⟩ := B2.below b3
  have H3 := hid (h3.below b3)
  clear B1 B2 h3 b3
  cases hV : affV (co, k)
  · have HV := hid hV; clear hV
    have Hb := hid ((hbb.setCell (p := ⟨w.heap.size + 1, 0, none⟩) (Nat.le_succ _) (.slice none 0 0)).setCell (p := ⟨w.heap.size + 1, 1, none⟩) (Nat.le_succ _) (.int .i64 0))
    clear hbb hb
    go_wp2_with fail
    refine bodyPost_ret (v := .tuple #[.agg #[.slice none 0 0, .int .i64 0], .bool false]) (by simp [results, Try.results99, go_sem, t0, t1, m2]) rfl ?_
    exact ⟨_, by rw [HV.out], by rw [HV.out]; exact ⟨_, rfl, Sl.nil _ _ _⟩, Hb.out⟩
  · have HV := hid hV; clear hV
    have Hb := hid ((hbb.setCell (p := ⟨w.heap.size + 1, 0, none⟩) (Nat.le_succ _) (.slice a co.length c)).setCell (p := ⟨w.heap.size + 1, 1, none⟩) (Nat.le_succ _) (.int .i64 k))
    clear hbb hb
    go_wp2_with fail
    refine bodyPost_ret (v := .tuple #[.agg #[.slice a co.length c, .int .i64 k], .bool true]) (by simp [results, Try.results99, go_sem, t0, t1, m2]) rfl ?_
    exact ⟨_, by rw [HV.out], by rw [HV.out]; exact h.below Hb.out, Hb.out⟩
end Go.Proofs.Ytigdfdhjnadieaa

/- Sums of multiples of affine expressions, substitution in the program; condition: what the arguments hold. -/
namespace Go.Proofs.Ytigdfdhjnadieaa
set_option linter.unusedVariables false
set_option linter.unusedSimpArgs false
open Go.RowKit

theorem grownBy_transK {w w' w'' : World} {r : Option Nat} (h : w.grownBy w' r) (h' : w'.grownBy w'' r) : w.grownBy w'' r :=
  ⟨h'.os.trans h.os, h'.tape.trans h.tape, h'.output.trans h.output, Nat.le_trans h.size h'.size, fun k hk hr => (h'.block k (Nat.lt_of_lt_of_le hk h.size) hr).trans (h.block k hk hr)⟩
theorem mul_abs {c x M N : Int} (h : -M ≤ c ∧ c ≤ M) (hx : -N ≤ x ∧ x ≤ N) (hM : 0 ≤ M) (hN : 0 ≤ N) : -(M * N) ≤ c * x ∧ c * x ≤ M * N := by
  have h1 : c.natAbs ≤ M.toNat := by omega
  have h2 : x.natAbs ≤ N.toNat := by omega
  have h3 : (c * x).natAbs ≤ M.toNat * N.toNat := by rw [Int.natAbs_mul]; exact Nat.mul_le_mul h1 h2
  have h4 : ((M.toNat * N.toNat : Nat) : Int) = M * N := by rw [Int.natCast_mul, Int.toNat_of_nonneg hM, Int.toNat_of_nonneg hN]
  omega
def affSum (a : Aff) (k : Int) (b : Aff) : Aff := ([a.1.getD 0 0 + k * b.1.getD 0 0, a.1.getD 1 0 + k * b.1.getD 1 0, a.1.getD 2 0 + k * b.1.getD 2 0, a.1.getD 3 0 + k * b.1.getD 3 0], a.2 + k * b.2)
def sumTo (a : List Int) (k : Int) (b : List Int) (j : Nat) : List Int := (List.range 4).map fun i => if i < j then a.getD i 0 + k * b.getD i 0 else a.getD i 0
theorem sumTo_four (a : List Int) (k : Int) (b : List Int) (j : Nat) : sumTo a k b j = [if 0 < j then a.getD 0 0 + k * b.getD 0 0 else a.getD 0 0, if 1 < j then a.getD 1 0 + k * b.getD 1 0 else a.getD 1 0, if 2 < j then a.getD 2 0 + k * b.getD 2 0 else a.getD 2 0, if 3 < j then a.getD 3 0 + k * b.getD 3 0 else a.getD 3 0] := rfl
theorem list4 {a : List Int} (h : a.length = 4) : a = [a.getD 0 0, a.getD 1 0, a.getD 2 0, a.getD 3 0] := by
  match a, h with
  | [_, _, _, _], _ => rfl
theorem sumTo_zero {a : List Int} (h : a.length = 4) (k : Int) (b : List Int) : sumTo a k b 0 = a := by
  rw [sumTo_four]
  simp only [Nat.not_lt_zero, if_false]
  exact (list4 h).symm
theorem sumTo_end (a : List Int) (k : Int) (b : List Int) : sumTo a k b 4 = [a.getD 0 0 + k * b.getD 0 0, a.getD 1 0 + k * b.getD 1 0, a.getD 2 0 + k * b.getD 2 0, a.getD 3 0 + k * b.getD 3 0] := by
  rw [sumTo_four]
  simp
theorem sumTo_at (a : List Int) (k : Int) (b : List Int) (j : Nat) (hj : j < 4) : (sumTo a k b j).getD j 0 = a.getD j 0 := by
  rw [sumTo_four]
  match j, hj with
  | 0, _ => rfl
  | 1, _ => rfl
  | 2, _ => rfl
  | 3, _ => rfl
theorem sumTo_set (a : List Int) (k : Int) (b : List Int) (j : Nat) (hj : j < 4) : (sumTo a k b j).set j (a.getD j 0 + k * b.getD j 0) = sumTo a k b (j + 1) := by
  rw [sumTo_four, sumTo_four]
  match j, hj with
  | 0, _ => rfl
  | 1, _ => rfl
  | 2, _ => rfl
  | 3, _ => rfl
theorem sumTo_len (a : List Int) (k : Int) (b : List Int) (j : Nat) : (sumTo a k b j).length = 4 := rfl

/-- Four coefficients and a constant that are not great. -/
def affM (x : Aff) : Prop := x.1.length = 4 ∧ (∀ i, -99 ≤ x.1.getD i 0 ∧ x.1.getD i 0 ≤ 99) ∧ -99 ≤ x.2 ∧ x.2 ≤ 99
theorem affM_of {x : Aff} (h : affV x = true) : affM x := ⟨affV_len h, fun i => by have := affV_getD h i; omega, affV_const h⟩
theorem affM_const {n : Int} (h : -99 ≤ n ∧ n ≤ 99) : affM ([0, 0, 0, 0], n) := by
  refine ⟨rfl, fun i => ?_, h⟩
  match i with
  | 0 => simp
  | 1 => simp
  | 2 => simp
  | 3 => simp
  | i + 4 => simp
theorem affM_set {x : Aff} (h : affM x) (v : Nat) : affM (x.1.set v 0, x.2) := by
  refine ⟨by rw [List.length_set]; exact h.1, fun i => ?_, h.2.2⟩
  rw [List.getD, List.getElem?_set]
  by_cases e : v = i
  · subst e
    rw [if_pos rfl]
    split <;> simp
  · rw [if_neg e]
    exact h.2.1 i
theorem Box2.grown {w w' : World} {g : Nat} {u0 u1 : Value} {r : Option Nat} (h : Box2 w g u0 u1) (hg : w.grownBy w' r) (hr : r ≠ some g) : Box2 w' g u0 u1 := by
  have hb : w'.heap[g]? = w.heap[g]? := hg.block g h.lt (fun e => hr e.symm)
  exact ⟨(World.cell?_of_block (a := ⟨g, 0, none⟩) hb).trans h.c0, (World.cell?_of_block (a := ⟨g, 1, none⟩) hb).trans h.c1, (World.frozen?_of_block (a := ⟨g, 0, none⟩) hb).trans h.f0, (World.frozen?_of_block (a := ⟨g, 1, none⟩) hb).trans h.f1, Nat.lt_of_lt_of_le h.lt hg.size⟩

theorem box2_set0 {w : World} {g : Nat} {u0 u1 : Value} (h : Box2 w g u0 u1) (u : Value) : Box2 (w.setCell ⟨g, 0, none⟩ u) g u u1 :=
  ⟨World.cell?_setCell_same _ _ _ h.c0, (World.cell?_setCell_other _ _ _ _ (by simp)).trans h.c1, (World.frozen?_setCell _ _ _ _).trans h.f0, (World.frozen?_setCell _ _ _ _).trans h.f1, by simp; exact h.lt⟩
theorem box2_sets {w : World} {g : Nat} {u0 u1 : Value} (h : Box2 w g u0 u1) (v0 v1 : Value) : Box2 ((w.setCell ⟨g, 0, none⟩ v0).setCell ⟨g, 1, none⟩ v1) g v0 v1 := by
  have h0 := box2_set0 h v0
  exact ⟨(World.cell?_setCell_other _ _ _ _ (by simp)).trans h0.c0, World.cell?_setCell_same _ _ _ h0.c1, (World.frozen?_setCell _ _ _ _).trans h0.f0, (World.frozen?_setCell _ _ _ _).trans h0.f1, by simp; exact h.lt⟩

set_option maxHeartbeats 3200000 in
theorem sum_any (P Q : Nat → Prop) (v u : Value) (x y : Aff) (k : Int) (w : World) (hx : AffR P w v x) (hy : AffR Q w u y) (mx : affM x) (my : affM y) (hk : -99 ≤ k ∧ k ≤ 99) :
    Calls Try.prog 134 #[v, .int .i64 k, u] w (RetAff (affSum x k y) w) := by
  obtain ⟨a, c, rfl, _, _, hs⟩ := hx.shape
  obtain ⟨b, d, rfl, _, _, ht⟩ := hy.shape
  obtain ⟨co, xk⟩ := x
  obtain ⟨cp, yk⟩ := y
  obtain ⟨lx, bx, kx⟩ := mx
  obtain ⟨ly, by', ky⟩ := my
  simp only at hs ht lx bx kx ly by' ky ⊢
  rw [lx] at hs hx ⊢
  rw [ly] at ht hy ⊢
  have hb0 := (Below.refl w.heap.size w).alloc (Nat.le_refl _) (.cells #[.slice a 4 c, .int .i64 xk] 28)
  have hb1 := hb0.alloc (by simp) (.cells #[.slice b 4 d, .int .i64 yk] 28)
  have hb := hb1.alloc (by simp; omega) (.cells #[.slice none 0 0, .int .i64 0] 28)
  have B1 := ((Box2.new w (.slice a 4 c) (.int .i64 xk) 28).alloc (.cells #[.slice b 4 d, .int .i64 yk] 28)).alloc (.cells #[.slice none 0 0, .int .i64 0] 28)
  have B2 := (Box2.new (w.alloc (.cells #[.slice a 4 c, .int .i64 xk] 28)) (.slice b 4 d) (.int .i64 yk) 28).alloc (.cells #[.slice none 0 0, .int .i64 0] 28)
  have B3 := Box2.new ((w.alloc (.cells #[.slice a 4 c, .int .i64 xk] 28)).alloc (.cells #[.slice b 4 d, .int .i64 yk] 28)) (.slice none 0 0) (.int .i64 0) 28
  rw [World.size_alloc] at B2
  rw [World.size_alloc, World.size_alloc] at B3
  have Lx := hid lx; have Ly := hid ly; have Bx := hid bx; have By := hid by'
  clear lx ly bx by'
  go_enter Try.func134, Try.ntmps134
  go_wp2_with fail
  generalize ((w.alloc (.cells #[.slice a 4 c, .int .i64 xk] 28)).alloc (.cells #[.slice b 4 d, .int .i64 yk] 28)).alloc (.cells #[.slice none 0 0, .int .i64 0] 28) = w3 at B1 B2 B3 hb
  have hx3 : AffR P w3 _ (co, xk) := hx.below hb
  have ht3 := ht.below hb
  have l3 := B3.lt
  refine (ownAff_any P _ (co, xk) w3 hx3 (by rw [Lx.out]; omega)).mono ?_
  rintro e w4 ⟨v4, rfl, ⟨va4, rfl, o4⟩, b4⟩
  simp only at o4
  obtain ⟨g, off, c4, rfl, hgB, hgl⟩ : ∃ g off c4, va4 = .slice (some ⟨g, off, none⟩) 4 c4 ∧ w3.heap.size ≤ g ∧ g < w4.heap.size := by
    obtain ⟨a4, c4, rfl, _⟩ := o4.shape
    rw [Lx.out] at o4 ⊢
    obtain ⟨g, off, rfl, h1, h2, _⟩ := o4.at (by omega)
    exact ⟨g, off, c4, rfl, h1, h2⟩
  have hbb := hb.trans (b4.mono hb.size)
  have hB2 := (B2.below b4).alloc (.cells #[.slice (some ⟨g, off, none⟩) 4 c4, .int .i64 xk] 28)
  have hB3 := (B3.below b4).alloc (.cells #[.slice (some ⟨g, off, none⟩) 4 c4, .int .i64 xk] 28)
  have hB5 := Box2.new w4 (.slice (some ⟨g, off, none⟩) 4 c4) (.int .i64 xk) 28
  have ht5 := ((ht3.mono (Q := fun q => q < w3.heap.size) (fun q _ h => h)).below b4).alloc (.cells #[.slice (some ⟨g, off, none⟩) 4 c4, .int .i64 xk] 28)
  have o5 : OwnI w3.heap.size (w4.alloc (.cells #[.slice (some ⟨g, off, none⟩) 4 c4, .int .i64 xk] 28)) (.slice (some ⟨g, off, none⟩) 4 c4) (sumTo co k cp 0) := by rw [sumTo_zero Lx.out]; exact o4.alloc _
  have hb5 := hbb.alloc hbb.size (.cells #[.slice (some ⟨g, off, none⟩) 4 c4, .int .i64 xk] 28)
  have hs5 : (w4.alloc (.cells #[.slice (some ⟨g, off, none⟩) 4 c4, .int .i64 xk] 28)).heap.size = w4.heap.size + 1 := World.size_alloc _ _
  have Hs5 := hid hs5
  have l5 := b4.size
  have hbs3 := hb.size
  obtain ⟨p0, _, _, _, _⟩ := hB2
  have HB2 : Hid (Box2 (w4.alloc (.cells #[.slice (some ⟨g, off, none⟩) 4 c4, .int .i64 xk] 28)) (w.heap.size + 1) (.slice b 4 d) (.int .i64 yk)) := hid ⟨by assumption, by assumption, by assumption, by assumption, by assumption⟩
  clear hs5 B1 B2 B3 hx3 ht3 o4 b4 hbb hb hx hy hs ht hb0 hb1
  go_wp2_with fail
  generalize w4.alloc (.cells #[.slice (some ⟨g, off, none⟩) 4 c4, .int .i64 xk] 28) = w5 at hB3 hB5 HB2 ht5 o5 hb5 Hs5
  have HB3 := hid hB3; have HB5 := hid hB5
  clear hB3 hB5 p0
  go_loopw [15] (fun i wr => ∃ j : Nat, j ≤ 4 ∧ i = .int .i64 j ∧ OwnI w3.heap.size wr (.slice (some ⟨g, off, none⟩) 4 c4) (sumTo co k cp j) ∧ w5.grownBy wr (some g)) (fun i _ => 4 - (intOf i).toNat)
  case atStart => exact ⟨0, by omega, rfl, o5, World.grownBy.refl _ _⟩
  case round =>
    obtain ⟨j, hj, rfl, ho, hg⟩ := hrel
    have hne5 : some g ≠ some w4.heap.size := fun e => by cases e; omega
    have hne2 : some g ≠ some (w.heap.size + 1) := fun e => by cases e; have := HB2.out.lt; omega
    have hne3 : some g ≠ some (w.heap.size + 1 + 1) := fun e => by cases e; omega
    obtain ⟨e0, e1, e2, e3, e4⟩ := HB5.out.grown hg hne5
    obtain ⟨d0, d1, _, _, d4⟩ := HB2.out.grown hg hne2
    obtain ⟨q0, q1, q2, q3, q4⟩ := HB3.out.grown hg hne3
    by_cases hlt : j < 4
    · obtain ⟨g', off', e, _, _, _, hcell, hfr⟩ := ho.at (by omega)
      cases e
      have r1 := hcell j hlt
      rw [sumTo_at co k cp j hlt] at r1
      have r2 := hfr (off + j)
      obtain ⟨bb, ob, hbb, _, _, hcb⟩ := (ht5.grown hg (fun q hq e => by cases e; omega)).intAt (by omega)
      subst hbb
      have r3 := hcb j hlt
      have m1 := Bx.out j
      have m2 := By.out j
      have m3 := mul_abs (M := 99) (N := 99) hk m2 (by omega) (by omega)
      have hset := ho.set j (co.getD j 0 + k * cp.getD j 0)
      rw [sumTo_set co k cp j hlt] at hset
      generalize co.getD j 0 = s at r1 m1 hset m3
      generalize cp.getD j 0 = t at r3 m2 hset m3
      have Hset := hid hset
      have hg2 := hid (grownBy_transK hg (setCell_grown wr ⟨g, off + j, none⟩ (.int .i64 (s + k * t))))
      clear hcell hfr hcb hset
      go_wp2
      exact ⟨⟨j + 1, by omega, rfl, Hset.out, hg2.out⟩, by simp [intOf]; omega⟩
    · have hje : j = 4 := by omega
      subst hje
      have m3 := mul_abs (M := 99) (N := 99) hk ky (by omega) (by omega)
      have hgs := hg.size
      have hl4 := Hs5.out
      have hn5 : (Value.slice (some ⟨g, off, none⟩) 4 c4).ownBlock ≠ some w4.heap.size := fun e => hne5 e
      have hn3 : (Value.slice (some ⟨g, off, none⟩) 4 c4).ownBlock ≠ some (w.heap.size + 1 + 1) := fun e => hne3 e
      have Ho := hid (((ho.store (p := ⟨w4.heap.size, 1, none⟩) (u := .int .i64 (xk + k * yk)) hn5).store (p := ⟨w.heap.size + 1 + 1, 0, none⟩) (u := .slice (some ⟨g, off, none⟩) 4 c4) hn3).store (p := ⟨w.heap.size + 1 + 1, 1, none⟩) (u := .int .i64 (xk + k * yk)) hn3)
      have Hb := hid ((((hb5.grown hg hb5.size (fun q hq => by cases hq; omega)).setCell (p := ⟨w4.heap.size, 1, none⟩) (by show _ ≤ w4.heap.size; omega) (.int .i64 (xk + k * yk))).setCell (p := ⟨w.heap.size + 1 + 1, 0, none⟩) (by show _ ≤ w.heap.size + 1 + 1; omega) (.slice (some ⟨g, off, none⟩) 4 c4)).setCell (p := ⟨w.heap.size + 1 + 1, 1, none⟩) (by show _ ≤ w.heap.size + 1 + 1; omega) (.int .i64 (xk + k * yk)))
      have hne43 : w4.heap.size ≠ w.heap.size + 1 + 1 := by omega
      have hne34 : w.heap.size + 1 + 1 ≠ w4.heap.size := by omega
      clear ho hg hb5 ht5 o5 hn5 hn3 hl4
      go_wp2_with fail
      refine bodyPost_ret (v := .agg #[.slice (some ⟨g, off, none⟩) 4 c4, .int .i64 (xk + k * yk)]) (by simp [results, Try.results134, go_sem, q0, q1, q4, hne43, hne34]) rfl ?_
      exact ⟨_, rfl, ⟨_, rfl, by have := Ho.out.base hbs3; rw [sumTo_end] at this; exact this⟩, Hb.out⟩

def affSubst (a : Aff) (v : Nat) (b : Aff) : Aff := affSum (a.1.set v 0, a.2) (a.1.getD v 0) b
set_option maxHeartbeats 3200000 in
theorem subst_any (P Q : Nat → Prop) (v u : Value) (x y : Aff) (j : Nat) (w : World) (hx : AffR P w v x) (hy : AffR Q w u y) (mx : affM x) (my : affM y) (hj : j < 4) :
    Calls Try.prog 81 #[v, .int .i64 j, u] w (RetAff (affSubst x j y) w) := by
  obtain ⟨a, c, rfl, _, _, hs⟩ := hx.shape
  obtain ⟨b, d, rfl, _, _, ht⟩ := hy.shape
  have hk := mx.2.1 j
  have mset := hid (affM_set mx j)
  have hdef := hid (show affSubst x j y = affSum (x.1.set j 0, x.2) (x.1.getD j 0) y from rfl)
  obtain ⟨co, xk⟩ := x
  obtain ⟨cp, yk⟩ := y
  obtain ⟨lx, bx, kx⟩ := mx
  have ly := my.1
  simp only at hs ht lx bx kx ly hk ⊢
  rw [lx] at hs hx ⊢
  rw [ly] at ht hy ⊢
  have hb0 := (Below.refl w.heap.size w).alloc (Nat.le_refl _) (.cells #[.slice a 4 c, .int .i64 xk] 28)
  have hb1 := hb0.alloc (by simp) (.cells #[.slice b 4 d, .int .i64 yk] 28)
  have hb := hb1.alloc (by simp; omega) (.cells #[.slice none 0 0, .int .i64 0] 28)
  have B2 := (Box2.new (w.alloc (.cells #[.slice a 4 c, .int .i64 xk] 28)) (.slice b 4 d) (.int .i64 yk) 28).alloc (.cells #[.slice none 0 0, .int .i64 0] 28)
  have B3 := Box2.new ((w.alloc (.cells #[.slice a 4 c, .int .i64 xk] 28)).alloc (.cells #[.slice b 4 d, .int .i64 yk] 28)) (.slice none 0 0) (.int .i64 0) 28
  rw [World.size_alloc] at B2
  rw [World.size_alloc, World.size_alloc] at B3
  have Lx := hid lx; have Ly := hid ly
  clear lx ly bx
  go_enter Try.func81, Try.ntmps81
  go_wp2_with fail
  generalize ((w.alloc (.cells #[.slice a 4 c, .int .i64 xk] 28)).alloc (.cells #[.slice b 4 d, .int .i64 yk] 28)).alloc (.cells #[.slice none 0 0, .int .i64 0] 28) = w3 at B2 B3 hb
  have hx3 : AffR P w3 _ (co, xk) := hx.below hb
  have hy3 : AffR Q w3 _ (cp, yk) := hy.below hb
  have l3 := B3.lt
  refine (ownAff_any P _ (co, xk) w3 hx3 (by rw [Lx.out]; omega)).mono ?_
  rintro e w4 ⟨v4, rfl, ⟨va4, rfl, o4⟩, b4⟩
  simp only at o4
  obtain ⟨g, off, c4, rfl, hgB, hgl, hcell, hfr⟩ : ∃ g off c4, va4 = .slice (some ⟨g, off, none⟩) 4 c4 ∧ w3.heap.size ≤ g ∧ g < w4.heap.size ∧ (∀ i, i < 4 → w4.cell? ⟨g, off + i, none⟩ = some (.int .i64 (co.getD i 0))) ∧ ∀ i, w4.frozen? ⟨g, i, none⟩ = false := by
    obtain ⟨a4, c4, rfl, _⟩ := o4.shape
    rw [Lx.out] at o4 ⊢
    obtain ⟨g, off, rfl, h1, h2, _, h3, h4⟩ := o4.at (by omega)
    exact ⟨g, off, c4, rfl, h1, h2, h3, h4⟩
  have hbb := hb.trans (b4.mono hb.size)
  have hB2 := B2.below b4
  have hB3 := B3.below b4
  have hy4 := hy3.mono (Q := fun q => q < w3.heap.size) (fun q _ h => h)
  have hy4 := hy4.below b4
  have l4 := b4.size
  have r1 := hcell j hj
  have r2 := hfr (off + j)
  have hset := o4.set j 0
  generalize hkk : co.getD j 0 = k at r1 hk
  have Hkk := hid hkk
  have hst := setCell_grown w4 ⟨g, off + j, none⟩ (.int .i64 0)
  have hB2' := ((hB2.grown hst (fun e => by have := Option.some.inj e; have h5 := B2.lt; have h6 : g = w.heap.size + 1 := this; omega))).alloc (.cells #[.slice (some ⟨g, off, none⟩) 4 c4, .int .i64 xk] 28)
  have hB3' := ((hB3.grown hst (fun e => by have := Option.some.inj e; have h6 : g = w.heap.size + 1 + 1 := this; omega))).alloc (.cells #[.slice (some ⟨g, off, none⟩) 4 c4, .int .i64 xk] 28)
  have hy5 := (hy4.grown hst (fun q hq e => by have := Option.some.inj e; have h6 : g = q := this; omega)).below ((Below.refl _ _).alloc (Nat.le_refl _) (.cells #[.slice (some ⟨g, off, none⟩) 4 c4, .int .i64 xk] 28))
  have hset' := hset.alloc (.cells #[.slice (some ⟨g, off, none⟩) 4 c4, .int .i64 xk] 28)
  have hb5 := (hbb.setCell (p := ⟨g, off + j, none⟩) (by show _ ≤ g; have := hb.size; omega) (.int .i64 0)).alloc (by simp; exact hbb.size) (.cells #[.slice (some ⟨g, off, none⟩) 4 c4, .int .i64 xk] 28)
  have HY := hid hy5; have HS := hid hset'; have HB := hid hb5; have H2 := hid hB2'; have H3 := hid hB3'
  have hj4 : (j : Int) < 4 := by omega
  clear hkk hcell hfr hset hst hB2 hB3 hB2' hB3' hy4 hy5 hset' hb5 o4 b4 hbb hb hx hy hs ht hb0 hb1 B2 B3 hx3 hy3
  have d0 := H2.out.c0
  have d1 := H2.out.c1
  go_wp2_with fail
  clear d0 d1 r1 r2
  generalize (w4.setCell ⟨g, off + j, none⟩ (.int .i64 0)).alloc (.cells #[.slice (some ⟨g, off, none⟩) 4 c4, .int .i64 xk] 28) = w6 at HY HS HB H2 H3
  have hS6 : AffR (fun _ => True) w6 (.agg #[.slice (some ⟨g, off, none⟩) 4 c4, .int .i64 xk]) (co.set j 0, xk) := ⟨_, rfl, (HS.out.sl (by rw [List.length_set, Lx.out]; omega)).any⟩
  refine (sum_any _ _ _ _ (co.set j 0, xk) (cp, yk) k w6 hS6 HY.out mset.out my hk).mono ?_
  rintro e w7 ⟨v7, rfl, ⟨va7, rfl, o7⟩, b7⟩
  obtain ⟨a7, c7, rfl, _⟩ := o7.shape
  obtain ⟨t0, t1, t2, t3, m2⟩ := H3.out.below b7
  have hB7 := HB.out.trans (b7.mono HB.out.size)
  have l6 := H3.out.lt
  have hne : (Value.slice a7 (affSum (co.set j 0, xk) k (cp, yk)).1.length c7).ownBlock ≠ some (w.heap.size + 1 + 1) := fun e => by have := (o7.lt _ e).1; omega
  simp only [hdef.out, Hkk.out] at *
  generalize hres : affSum (co.set j 0, xk) k (cp, yk) = res at o7 hne
  obtain ⟨rc, rk⟩ := res
  simp only at o7 hne
  have Ho := hid ((o7.store (p := ⟨w.heap.size + 1 + 1, 0, none⟩) (u := .slice a7 rc.length c7) hne).store (p := ⟨w.heap.size + 1 + 1, 1, none⟩) (u := .int .i64 rk) hne)
  have Hb := hid ((hB7.setCell (p := ⟨w.heap.size + 1 + 1, 0, none⟩) (by show _ ≤ w.heap.size + 1 + 1; omega) (.slice a7 rc.length c7)).setCell (p := ⟨w.heap.size + 1 + 1, 1, none⟩) (by show _ ≤ w.heap.size + 1 + 1; omega) (.int .i64 rk))
  have hs6 := HB.out.size
  have Hres := hid hres
  clear o7 b7 hne hB7 HY HS HB H2 H3 hS6 hres
  go_wp2_with fail
  refine bodyPost_ret (v := .agg #[.slice a7 rc.length c7, .int .i64 rk]) (by simp [results, Try.results81, go_sem, t0, t1, m2]) rfl ?_
  refine ⟨_, rfl, ?_, Hb.out⟩
  try rw [hdef.out, Hkk.out]
  rw [Hres.out]
  exact ⟨_, rfl, Ho.out.base hs6⟩
end Go.Proofs.Ytigdfdhjnadieaa

/- Sums, multiples and substitutions of affine expressions that are checked; condition: what the arguments hold. -/
namespace Go.Proofs.Ytigdfdhjnadieaa
set_option linter.unusedVariables false
set_option linter.unusedSimpArgs false
open Go.RowKit

/-- The call hands back an expression and whether there is one. -/
def RetA2 (P : Nat → Prop) (x : Aff) (ok : Bool) (w : World) (e : Ending) (w' : World) : Prop :=
  ∃ v, e = .returned (.tuple #[v, .bool ok]) ∧ AffR P w' v x ∧ Below w.heap.size w w'
def chkOf (ok : Bool) (z : Aff) : Aff × Bool := if ok && affV z then (z, true) else (([], 0), false)
theorem chkOf_false (z : Aff) : chkOf false z = (([], 0), false) := rfl
theorem chkOf_true (z : Aff) : chkOf true z = (if affV z then z else ([], 0), affV z) := by
  unfold chkOf
  cases affV z <;> rfl
def addOf (x y : Aff) : Aff × Bool := chkOf (affV x && affV y) (affSum x 1 y)
def scaleOf (x : Aff) (k : Int) : Aff × Bool := chkOf (affV x && inB k (-99) 99) (affSum ([0, 0, 0, 0], 0) k x)
def substOf (x : Aff) (j : Int) (y : Aff) : Aff × Bool := chkOf (affV x && affV y && inB j 0 3) (affSubst x j.toNat y)
def varOf (j : Int) : Aff × Bool := if inB j 0 3 then (([0, 0, 0, 0].set j.toNat 1, 0), true) else (([], 0), false)



set_option maxHeartbeats 400000 in
theorem isVar_any (n : Int) (w : World) : Calls Try.prog 79 #[.int .i64 n] w fun e w' => e = .returned (.bool (inB n 0 3)) ∧ w = w' := by
  go_enter Try.func79, Try.ntmps79
  go_wp2_with (go_at_call 53; refine (within_any _ _ _ _).mono ?_; rintro e w' ⟨rfl, rfl⟩)
  go_ret
  exact ⟨rfl, rfl⟩

set_option maxHeartbeats 3200000 in
theorem implSubst_any (Px : Nat → Prop) (Py : Nat → Prop) (v : Value) (x : Aff) (u : Value) (y : Aff) (j : Int) (w : World) (hx : AffR Px w v x) (hy : AffR Py w u y) :
    Calls Try.prog 42 #[v, .int .i64 j, u] w (RetA2 (fun b => w.heap.size ≤ b) (substOf x j y).1 (substOf x j y).2 w) := by
  obtain ⟨a0, c0, rfl, _, _, hs0⟩ := hx.shape
  obtain ⟨a1, c1, rfl, _, _, hs1⟩ := hy.shape
  have hb0 := (Below.refl w.heap.size w).alloc (by simp) (.cells #[.slice a0 x.1.length c0, .int .i64 x.2] 28)
  have hb1 := hb0.alloc (by simp) (.cells #[.slice a1 y.1.length c1, .int .i64 y.2] 28)
  have hb2 := hb1.alloc (by simp; omega) (.cells #[.slice none 0 0, .int .i64 0] 28)
  have B0 := (((Box2.new w (.slice a0 x.1.length c0) (.int .i64 x.2) 28).alloc (.cells #[.slice a1 y.1.length c1, .int .i64 y.2] 28)).alloc (.cells #[.slice none 0 0, .int .i64 0] 28))
  have B1 := ((Box2.new (w.alloc (.cells #[.slice a0 x.1.length c0, .int .i64 x.2] 28)) (.slice a1 y.1.length c1) (.int .i64 y.2) 28).alloc (.cells #[.slice none 0 0, .int .i64 0] 28))
  rw [World.size_alloc] at B1
  have B2 := (Box2.new ((w.alloc (.cells #[.slice a0 x.1.length c0, .int .i64 x.2] 28)).alloc (.cells #[.slice a1 y.1.length c1, .int .i64 y.2] 28)) (.slice none 0 0) (.int .i64 0) 28)
  rw [World.size_alloc, World.size_alloc] at B2
  go_enter Try.func42, Try.ntmps42
  go_wp2_with fail
  generalize (((w.alloc (.cells #[.slice a0 x.1.length c0, .int .i64 x.2] 28)).alloc (.cells #[.slice a1 y.1.length c1, .int .i64 y.2] 28)).alloc (.cells #[.slice none 0 0, .int .i64 0] 28)) = W at B0 B1 B2 hb2
  have Hb := hid hb2
  have HB0 := hid B0
  have HB1 := hid B1
  have HB2 := hid B2
  have Hx := hid (hx.below hb2)
  have Hy := hid (hy.below hb2)
  have hk : Below W.heap.size W W := Below.refl _ _
  clear hb0 hb1 hb2 B0 B1 B2 hs0 hs1
  obtain ⟨p00, p01, _, _, p04⟩ := HB0.out.below hk
  obtain ⟨p10, p11, _, _, p14⟩ := HB1.out.below hk
  obtain ⟨p20, p21, _, _, p24⟩ := HB2.out.below hk
  refine (implAffV_any _ _ x _ (Hx.out.below hk)).mono ?_
  rintro e w1 ⟨rfl, b1⟩
  replace hk := hk.trans (b1.mono hk.size)
  clear p00 p01 p04 p10 p11 p14 p20 p21 p24
  obtain ⟨p00, p01, _, _, p04⟩ := HB0.out.below hk
  obtain ⟨p10, p11, _, _, p14⟩ := HB1.out.below hk
  obtain ⟨p20, p21, _, _, p24⟩ := HB2.out.below hk
  cases c0 : affV x
  · have Cc0 := hid c0; clear c0
    have hsz := Hb.out.size
    have Hr := hid (((Hb.out.trans (hk.mono hsz)).setCell (p := ⟨w.heap.size + 1 + 1, 0, none⟩) (by show _ ≤ w.heap.size + 1 + 1; omega) (.slice none 0 0)).setCell (p := ⟨w.heap.size + 1 + 1, 1, none⟩) (by show _ ≤ w.heap.size + 1 + 1; omega) (.int .i64 0))
    clear hk hsz
    go_wp2_with fail
    refine bodyPost_ret (v := .tuple #[.agg #[.slice none 0 0, .int .i64 0], .bool false]) (by simp [results, Try.results42, go_sem, p20, p21, p24]) rfl ?_
    exact ⟨_, by rw [show substOf x j y = (([], 0), false) from by rw [substOf, Cc0.out]; simp [chkOf]], by rw [show substOf x j y = (([], 0), false) from by rw [substOf, Cc0.out]; simp [chkOf]]; exact ⟨_, rfl, Sl.nil _ _ _⟩, Hr.out⟩
  · have Cc0 := hid c0; clear c0
    go_wp2_with fail
    refine (implAffV_any _ _ y _ (Hy.out.below hk)).mono ?_
    rintro e w2 ⟨rfl, b2⟩
    replace hk := hk.trans (b2.mono hk.size)
    clear p00 p01 p04 p10 p11 p14 p20 p21 p24
    obtain ⟨p00, p01, _, _, p04⟩ := HB0.out.below hk
    obtain ⟨p10, p11, _, _, p14⟩ := HB1.out.below hk
    obtain ⟨p20, p21, _, _, p24⟩ := HB2.out.below hk
    cases c1 : affV y
    · have Cc1 := hid c1; clear c1
      have hsz := Hb.out.size
      have Hr := hid (((Hb.out.trans (hk.mono hsz)).setCell (p := ⟨w.heap.size + 1 + 1, 0, none⟩) (by show _ ≤ w.heap.size + 1 + 1; omega) (.slice none 0 0)).setCell (p := ⟨w.heap.size + 1 + 1, 1, none⟩) (by show _ ≤ w.heap.size + 1 + 1; omega) (.int .i64 0))
      clear hk hsz
      go_wp2_with fail
      refine bodyPost_ret (v := .tuple #[.agg #[.slice none 0 0, .int .i64 0], .bool false]) (by simp [results, Try.results42, go_sem, p20, p21, p24]) rfl ?_
      exact ⟨_, by rw [show substOf x j y = (([], 0), false) from by rw [substOf, Cc0.out, Cc1.out]; simp [chkOf]], by rw [show substOf x j y = (([], 0), false) from by rw [substOf, Cc0.out, Cc1.out]; simp [chkOf]]; exact ⟨_, rfl, Sl.nil _ _ _⟩, Hr.out⟩
    · have Cc1 := hid c1; clear c1
      go_wp2_with fail
      refine (isVar_any j _).mono ?_
      rintro e w' ⟨rfl, rfl⟩
      cases c2 : inB j 0 3
      · have Cc2 := hid c2; clear c2
        have hsz := Hb.out.size
        have Hr := hid (((Hb.out.trans (hk.mono hsz)).setCell (p := ⟨w.heap.size + 1 + 1, 0, none⟩) (by show _ ≤ w.heap.size + 1 + 1; omega) (.slice none 0 0)).setCell (p := ⟨w.heap.size + 1 + 1, 1, none⟩) (by show _ ≤ w.heap.size + 1 + 1; omega) (.int .i64 0))
        clear hk hsz
        go_wp2_with fail
        refine bodyPost_ret (v := .tuple #[.agg #[.slice none 0 0, .int .i64 0], .bool false]) (by simp [results, Try.results42, go_sem, p20, p21, p24]) rfl ?_
        exact ⟨_, by rw [show substOf x j y = (([], 0), false) from by rw [substOf, Cc0.out, Cc1.out, Cc2.out]; simp [chkOf]], by rw [show substOf x j y = (([], 0), false) from by rw [substOf, Cc0.out, Cc1.out, Cc2.out]; simp [chkOf]]; exact ⟨_, rfl, Sl.nil _ _ _⟩, Hr.out⟩
      · have Cc2 := hid c2; clear c2
        obtain ⟨jn, rfl⟩ : ∃ jn : Nat, j = jn := ⟨j.toNat, by have := Cc2.out; simp [inB] at this; omega⟩
        have jn4 : jn < 4 := by have := Cc2.out; simp [inB] at this; omega
        go_wp2_with fail
        refine (subst_any _ _ _ _ x y jn _ (Hx.out.below hk) (Hy.out.below hk) (affM_of Cc0.out) (affM_of Cc1.out) jn4).mono ?_
        rintro e wz ⟨vz, rfl, hz, bz⟩
        have Hz : Hid (AffR (fun b => W.heap.size ≤ b) wz vz _) := hid ((hz.r (by simp [affSubst, affSum])).mono fun b h _ => Nat.le_trans hk.size h)
        replace hk := hk.trans (bz.mono hk.size)
        clear p00 p01 p04 p10 p11 p14 p20 p21 p24
        obtain ⟨p00, p01, _, _, p04⟩ := HB0.out.below hk; obtain ⟨p10, p11, _, _, p14⟩ := HB1.out.below hk; obtain ⟨p20, p21, _, _, p24⟩ := HB2.out.below hk
        obtain ⟨az, cz, rfl, _, _, _⟩ := Hz.out.shape
        clear hz bz
        go_wp2_with fail
        refine (checked_any _ _ _ _ Hz.out).mono ?_
        rintro e wc ⟨vc, rfl, hc, bc⟩
        replace hk := hk.trans (bc.mono hk.size)
        clear p00 p01 p04 p10 p11 p14 p20 p21 p24
        obtain ⟨p00, p01, _, _, p04⟩ := HB0.out.below hk
        obtain ⟨p10, p11, _, _, p14⟩ := HB1.out.below hk
        obtain ⟨p20, p21, _, _, p24⟩ := HB2.out.below hk
        generalize hzz : (if affV (affSubst x jn y) then (affSubst x jn y) else (([], 0) : Aff)) = zz at hc
        have Hzz := hid hzz; clear hzz
        obtain ⟨ac, cc, rfl, _, _, hsc⟩ := hc.shape
        have hsz := Hb.out.size
        have Hr := hid (((Hb.out.trans (hk.mono hsz)).setCell (p := ⟨w.heap.size + 1 + 1, 0, none⟩) (by show _ ≤ w.heap.size + 1 + 1; omega) (.slice ac zz.1.length cc)).setCell (p := ⟨w.heap.size + 1 + 1, 1, none⟩) (by show _ ≤ w.heap.size + 1 + 1; omega) (.int .i64 zz.2))
        have Hs := hid ((hsc.store (p := ⟨w.heap.size + 1 + 1, 0, none⟩) (u := .slice ac zz.1.length cc) (fun h => by have h5 : W.heap.size ≤ w.heap.size + 1 + 1 := h; have h6 := HB2.out.lt; omega)).store (p := ⟨w.heap.size + 1 + 1, 1, none⟩) (u := .int .i64 zz.2) (fun h => by have h5 : W.heap.size ≤ w.heap.size + 1 + 1 := h; have h6 := HB2.out.lt; omega))
        clear hk hc hsc bc
        have Hsz := hid hsz; clear hsz
        go_wp2_with fail
        refine bodyPost_ret (v := .tuple #[.agg #[.slice ac zz.1.length cc, .int .i64 zz.2], .bool (affV (affSubst x jn y))]) (by simp [results, Try.results42, go_sem, p20, p21, p24]) rfl ?_
        have hp : substOf x (jn : Int) y = (zz, affV (affSubst x jn y)) := by rw [substOf, Cc0.out, Cc1.out, Cc2.out]; exact (chkOf_true _).trans (by (try simp only [Int.toNat_natCast]); rw [Hzz.out])
        exact ⟨_, by rw [hp], by rw [hp]; exact ⟨_, rfl, Hs.out.mono fun b (h : W.heap.size ≤ b) _ => Nat.le_trans Hsz.out h⟩, Hr.out⟩

end Go.Proofs.Ytigdfdhjnadieaa

/- Variables as affine expressions, equality of affine expressions; condition: what the arguments hold. -/
namespace Go.Proofs.Ytigdfdhjnadieaa
set_option linter.unusedVariables false
set_option linter.unusedSimpArgs false
open Go.RowKit

set_option maxHeartbeats 1600000 in
theorem implVar_any (j : Int) (w : World) : Calls Try.prog 44 #[.int .i64 j] w (RetA2 (fun b => w.heap.size ≤ b) (varOf j).1 (varOf j).2 w) := by
  have hb := (Below.refl w.heap.size w).alloc (Nat.le_refl _) (.cells #[.slice none 0 0, .int .i64 0] 28)
  have B0 := Box2.new w (.slice none 0 0) (.int .i64 0) 28
  go_enter Try.func44, Try.ntmps44

  go_wp2_with fail
  generalize w.alloc (.cells #[.slice none 0 0, .int .i64 0] 28) = W at B0 hb
  have HB := hid B0
  obtain ⟨p0, p1, p2, p3, p4⟩ := B0
  refine (isVar_any j _).mono ?_
  rintro e w' ⟨rfl, rfl⟩
  cases c0 : inB j 0 3
  · have C := hid c0; clear c0
    have Hr := hid ((hb.setCell (p := ⟨w.heap.size, 0, none⟩) (Nat.le_refl _) (.slice none 0 0)).setCell (p := ⟨w.heap.size, 1, none⟩) (Nat.le_refl _) (.int .i64 0))
    clear hb HB
    go_wp2_with fail
    refine bodyPost_ret (v := .tuple #[.agg #[.slice none 0 0, .int .i64 0], .bool false]) (by simp [results, Try.results44, go_sem, p0, p1, p4]) rfl ?_
    exact ⟨_, by rw [varOf, C.out]; rfl, by rw [varOf, C.out]; exact ⟨_, rfl, Sl.nil _ _ _⟩, by first | exact Hr.out | exact (Below.refl w.heap.size w).alloc (Nat.le_refl _) _⟩
  · have C := hid c0; clear c0
    obtain ⟨jn, rfl⟩ : ∃ jn : Nat, j = jn := ⟨j.toNat, by have := C.out; simp [inB] at this; omega⟩
    have jn4 : jn < 4 := by have := C.out; simp [inB] at this; omega
    go_wp2_with fail

    refine (variable_any jn 1 _ jn4).mono ?_
    rintro e w1 ⟨v1, rfl, ho, b1⟩
    obtain ⟨t0, t1, t2, t3, t4⟩ := HB.out.below b1
    have hs := ho.r (by simp)
    obtain ⟨a1, c1, rfl, _, _, hs1⟩ := hs.shape
    have hlt := HB.out.lt
    have Hr := hid (((hb.trans (b1.mono hb.size)).setCell (p := ⟨w.heap.size, 0, none⟩) (Nat.le_refl _) (.slice a1 4 c1)).setCell (p := ⟨w.heap.size, 1, none⟩) (Nat.le_refl _) (.int .i64 0))
    have Hs := hid ((hs1.store (p := ⟨w.heap.size, 0, none⟩) (u := .slice a1 4 c1) (fun h => by have h5 : W.heap.size ≤ w.heap.size := h; omega)).store (p := ⟨w.heap.size, 1, none⟩) (u := .int .i64 0) (fun h => by have h5 : W.heap.size ≤ w.heap.size := h; omega))
    have hsz := hb.size
    clear ho b1 hs hs1 hb
    go_wp2_with fail
    refine bodyPost_ret (v := .tuple #[.agg #[.slice a1 4 c1, .int .i64 0], .bool true]) (by simp [results, Try.results44, go_sem, t0, t1, t4]) rfl ?_
    exact ⟨_, by rw [varOf, C.out]; rfl, by rw [varOf, C.out]; exact ⟨_, by simp, Hs.out.mono fun b (h : W.heap.size ≤ b) _ => Nat.le_trans hsz h⟩, Hr.out⟩


/-- Equal expressions: coefficients and constants. -/
def sameOf (x y : Aff) : Bool := decide (x.1 = y.1) && (x.2 == y.2)
theorem sameOf_iff (x y : Aff) : sameOf x y = true ↔ x = y := by
  unfold sameOf
  constructor
  · intro h
    simp at h
    exact Prod.ext h.1 h.2
  · intro h; subst h; simp
theorem sameOf_eq (x y : Aff) : sameOf x y = decide (x = y) := by
  rw [Bool.eq_iff_iff, sameOf_iff, decide_eq_true_eq]
end Go.Proofs.Ytigdfdhjnadieaa

/- Equality of slices of ints and of affine expressions; condition: what the arguments hold. -/
namespace Go.Proofs.Ytigdfdhjnadieaa
set_option linter.unusedVariables false
set_option linter.unusedSimpArgs false
open Go.RowKit

set_option maxHeartbeats 800000 in
theorem slEq_any (P Q : Nat → Prop) (a b : Option Addr) (m n c1 c2 : Nat) (xs ys : List Int) (w : World) (hx : Sl Sh.int P w (.slice a m c1) xs) (hy : Sl Sh.int Q w (.slice b n c2) ys) :
    Calls Try.prog 100 #[.slice a m c1, .slice b n c2] w fun e w' => e = .returned (.bool (decide (xs = ys))) ∧ Quiet w w' := by
  have hxl := hid hx.len
  have hyl := hid hy.len
  by_cases hmn : m = n
  · subst hmn
    have hle := hx.le
    go_enter Try.func100, Try.ntmps100
    go_wp2
    go_loopw [5, 13] (fun _ i wr => ∃ k : Nat, k ≤ m ∧ i = .int .i64 k ∧ Hid (xs.take k = ys.take k) ∧ Quiet w wr) (fun _ i _ => m - (intOf i).toNat)
    case atStart => exact ⟨0, Nat.zero_le _, rfl, hid (by simp), Quiet.refl w⟩
    case round =>
      obtain ⟨k, hk, rfl, Ht, hq⟩ := hrel
      by_cases hlt : k < m
      · obtain ⟨ba, oa, ha, _, _, hca⟩ := (hx.quiet hq).intAt (by omega)
        obtain ⟨bb, ob, hb, _, _, hcb⟩ := (hy.quiet hq).intAt (by omega)
        subst ha hb
        have h1 := hca k hlt
        have h2 := hcb k hlt
        clear hca hcb
        generalize hu : xs.getD k 0 = u at h1
        generalize hv : ys.getD k 0 = v at h2
        have Hu := hid hu; have Hv := hid hv
        clear hu hv
        cases he : (u != v)
        · have hee : u = v := by simpa using he
          have Hst := hid (take_eq_stepE Ht.out (by rw [hxl.out]; exact hlt) (by rw [hyl.out]; exact hlt) (by rw [Hu.out, Hv.out, hee]))
          clear hee
          go_wp2
          go_quiet (fail)
          go_wp2
          exact ⟨⟨k + 1, by omega, rfl, Hst, hq.drewN⟩, by simp [intOf]; omega⟩
        · have hne : u ≠ v := by simpa using he
          have Hne := hid (ne_of_getDE (xs := xs) (ys := ys) (k := k) (by rw [Hu.out, Hv.out]; exact hne))
          clear hne
          go_wp2
          go_quiet (fail)
          go_wp2
          go_ret
          exact ⟨ret_bool (decide_eq_false Hne.out).symm, hq.drewN⟩
      · have : k = m := by omega
        subst this
        go_wp2
        go_ret
        exact ⟨ret_bool (by have h := Ht.out; rw [List.take_of_length_le (by rw [hxl.out]; omega), List.take_of_length_le (by rw [hyl.out]; omega)] at h; exact (decide_eq_true h).symm), hq⟩
  · have hne : (((m : Int) != (n : Int)) = true) := by simp; omega
    go_enter Try.func100, Try.ntmps100
    go_wp2
    go_ret
    exact ⟨ret_bool (decide_eq_false (fun e => hmn (by rw [← hxl.out, ← hyl.out, e]))).symm, Quiet.refl _⟩
set_option maxHeartbeats 1600000 in
theorem implSame_any (P Q : Nat → Prop) (v u : Value) (x y : Aff) (w : World) (hx : AffR P w v x) (hy : AffR Q w u y) :
    Calls Try.prog 43 #[v, u] w fun e w' => e = .returned (.bool (sameOf x y)) ∧ Below w.heap.size w w' := by
  obtain ⟨a, c, rfl, _, _, hs⟩ := hx.shape
  obtain ⟨b, d, rfl, _, _, ht⟩ := hy.shape
  have hs' := (hs.alloc (.cells #[.slice a x.1.length c, .int .i64 x.2] 28)).alloc (.cells #[.slice b y.1.length d, .int .i64 y.2] 28)
  have ht' := (ht.alloc (.cells #[.slice a x.1.length c, .int .i64 x.2] 28)).alloc (.cells #[.slice b y.1.length d, .int .i64 y.2] 28)
  have hb0 := (Below.refl w.heap.size w).alloc (Nat.le_refl _) (.cells #[.slice a x.1.length c, .int .i64 x.2] 28)
  have hb := hb0.alloc (by simp) (.cells #[.slice b y.1.length d, .int .i64 y.2] 28)
  have B1 := (Box2.new w (.slice a x.1.length c) (.int .i64 x.2) 28).alloc (.cells #[.slice b y.1.length d, .int .i64 y.2] 28)
  have B2 := Box2.new (w.alloc (.cells #[.slice a x.1.length c, .int .i64 x.2] 28)) (.slice b y.1.length d) (.int .i64 y.2) 28
  rw [World.size_alloc] at B2
  have Hdef := hid (show sameOf x y = (decide (x.1 = y.1) && (x.2 == y.2)) from rfl)
  go_enter Try.func43, Try.ntmps43
  go_wp2_with fail
  generalize (w.alloc (.cells #[.slice a x.1.length c, .int .i64 x.2] 28)).alloc (.cells #[.slice b y.1.length d, .int .i64 y.2] 28) = W at hs' ht' hb B1 B2
  have HB1 := hid B1; have HB2 := hid B2
  clear B1 B2 hb0
  refine (slEq_any P Q _ _ _ _ _ _ x.1 y.1 W hs' ht').mono ?_
  rintro e w1 ⟨rfl, q⟩
  obtain ⟨p0, p1, _, _, _⟩ := HB1.out.quiet q
  obtain ⟨r0, r1, _, _, _⟩ := HB2.out.quiet q
  generalize hdd : decide (x.1 = y.1) = dd
  have Hdd := hid hdd; clear hdd
  have Hb := hid (hb.trans (q.below _))
  clear hb q hs' ht' hs ht hx hy
  cases dd
  · go_wp2_with fail
    go_ret
    exact ⟨ret_bool (by rw [Hdef.out, Hdd.out]; rfl), Hb.out⟩
  · go_wp2_with fail
    go_ret
    exact ⟨ret_bool (by rw [Hdef.out, Hdd.out]; simp), Hb.out⟩
set_option maxHeartbeats 1600000 in
theorem specSame_any (P Q : Nat → Prop) (v u : Value) (x y : Aff) (w : World) (hx : AffR P w v x) (hy : AffR Q w u y) :
    Calls Try.prog 165 #[v, u] w fun e w' => e = .returned (.bool (sameOf x y)) ∧ Below w.heap.size w w' := by
  obtain ⟨a, c, rfl, _, _, hs⟩ := hx.shape
  obtain ⟨b, d, rfl, _, _, ht⟩ := hy.shape
  have hs' := (hs.alloc (.cells #[.slice a x.1.length c, .int .i64 x.2] 28)).alloc (.cells #[.slice b y.1.length d, .int .i64 y.2] 28)
  have ht' := (ht.alloc (.cells #[.slice a x.1.length c, .int .i64 x.2] 28)).alloc (.cells #[.slice b y.1.length d, .int .i64 y.2] 28)
  have hb0 := (Below.refl w.heap.size w).alloc (Nat.le_refl _) (.cells #[.slice a x.1.length c, .int .i64 x.2] 28)
  have hb := hb0.alloc (by simp) (.cells #[.slice b y.1.length d, .int .i64 y.2] 28)
  have B1 := (Box2.new w (.slice a x.1.length c) (.int .i64 x.2) 28).alloc (.cells #[.slice b y.1.length d, .int .i64 y.2] 28)
  have B2 := Box2.new (w.alloc (.cells #[.slice a x.1.length c, .int .i64 x.2] 28)) (.slice b y.1.length d) (.int .i64 y.2) 28
  rw [World.size_alloc] at B2
  have Hdef := hid (show sameOf x y = (decide (x.1 = y.1) && (x.2 == y.2)) from rfl)
  cases hk : (x.2 == y.2)
  · have Hk := hid hk
    go_enter Try.func165, Try.ntmps165
    go_wp2_with fail
    go_ret
    exact ⟨ret_bool (by rw [Hdef.out, Hk.out]; simp), hb⟩
  · have Hk := hid hk
    go_enter Try.func165, Try.ntmps165
    go_wp2_with fail
    refine (l1Ints_any P Q _ _ _ _ _ _ x.1 y.1 _ hs' ht').mono ?_
    rintro e w1 ⟨rfl, q⟩
    have Hb := hid (hb.trans (q.below _))
    clear hb q hs' ht' hs ht hx hy
    go_wp2_with fail
    go_ret
    exact ⟨ret_bool (by rw [Hdef.out, Hk.out]; simp), Hb.out⟩
end Go.Proofs.Ytigdfdhjnadieaa

/- Values of affine expressions in the reference; points; EvalAffine, AffineDepth; condition: what the arguments hold. -/
namespace Go.Proofs.Ytigdfdhjnadieaa
set_option linter.unusedVariables false
set_option linter.unusedSimpArgs false
open Go.RowKit


def isPt (p : List Int) : Bool := decide (p.length ≤ 4) && !p.any (fun n => !inB n (-9999) 9999)
theorem isPt_len {p : List Int} (h : isPt p = true) : p.length ≤ 4 := by
  simp [isPt] at h
  exact h.1
theorem isPt_small {p : List Int} (h : isPt p = true) : Small p := by
  intro n hn
  simp [isPt, inB] at h
  have := h.2 n hn
  omega
set_option maxHeartbeats 400000 in
theorem isPoint1_any (n : Int) (w : World) : Calls Try.prog 143 #[.int .i64 n] w fun e w' => e = .returned (.bool (!inB n (-9999) 9999)) ∧ w = w' := by
  go_enter Try.func143, Try.ntmps143
  go_wp2_with (go_at_call 53; refine (within_any _ _ _ _).mono ?_; rintro e w' ⟨rfl, rfl⟩)
  go_ret
  exact ⟨rfl, rfl⟩
theorem Try.egPoint1 : ∀ args w, (callFunc 143 args).run Try.prog w = .ok (.enter 143 args) w := fun _ _ => by kernel_rfl
set_option maxHeartbeats 400000 in
theorem isPoint_any (Q : Nat → Prop) (a2 : Option Addr) (n c2 : Nat) (p : List Int) (w : World) (hp : Sl Sh.int Q w (.slice a2 n c2) p) :
    Calls Try.prog 97 #[.slice a2 n c2] w fun e w' => e = .returned (.bool (isPt p)) ∧ w = w' := by
  by_cases h4 : n ≤ 4
  · have hd : decide ((n : Int) ≤ 4) = true := by simp; omega
    have hr := hid (show isPt p = !p.any (fun n => !inB n (-9999) 9999) by rw [isPt, hp.len, decide_eq_true h4]; rfl)
    go_enter Try.func97, Try.ntmps97
    go_wp2_with (go_at_call 85; refine (containsFunc_any Q 143 #[] Try.egPoint1 (fun n => !inB n (-9999) 9999) _ _ _ p _ hp (fun x => isPoint1_any x _)).mono ?_; rintro e w' ⟨rfl, rfl⟩)
    go_ret
    exact ⟨ret_bool hr.out.symm, rfl⟩
  · have hd : decide ((n : Int) ≤ 4) = false := by simp; omega
    have hr := hid (show isPt p = false by rw [isPt, hp.len, decide_eq_false h4]; rfl)
    go_enter Try.func97, Try.ntmps97
    go_wp2
    go_ret
    exact ⟨ret_bool hr.out.symm, rfl⟩
set_option maxHeartbeats 800000 in
theorem l1Point_any (Q : Nat → Prop) (a2 : Option Addr) (n c2 : Nat) (p : List Int) (w : World) (hp : Sl Sh.int Q w (.slice a2 n c2) p) :
    Calls Try.prog 93 #[.slice a2 n c2] w fun e w' => e = .returned (.bool (isPt p)) ∧ w = w' := by
  have hle := hp.le
  have hpl := hid hp.len
  go_enter Try.func93, Try.ntmps93
  go_wp2
  go_loop [3] (fun i => ∃ j : Nat, j ≤ n ∧ i = .int .i64 j ∧ Hid (∀ x ∈ p.take j, (!inB x (-9999) 9999) = false)) (fun i => n - (intOf i).toNat)
  case atStart => exact ⟨0, Nat.zero_le _, rfl, hid (by simp)⟩
  case round =>
    obtain ⟨j, hj, rfl, ht⟩ := hrel
    by_cases hlt : j < n
    · obtain ⟨ba, oa, ha, _, _, hca⟩ := hp.intAt (by omega)
      subst ha
      have q1 := hca j hlt
      generalize hy : p.getD j 0 = y at q1
      have Hy := hid hy; clear hy hca
      cases hq : inB y (-9999) 9999
      · have Hq : Hid (inB y (-9999) 9999 = false) := hid hq
        have hany : Hid (p.any (fun c => !inB c (-9999) 9999) = true) := hid (List.any_eq_true.2 ⟨y, by rw [← Hy.out, List.getD, List.getElem?_eq_getElem (by rw [hpl.out]; exact hlt)]; exact List.getElem_mem _, by rw [Hq.out]; rfl⟩)
        go_wp2_with (go_at_call 95; refine (l1Within_any _ _ _ (by omega) (by omega)).mono ?_; rintro e w' ⟨rfl, rfl⟩; rw [Hq.out])
        go_ret
        exact ⟨ret_bool (by rw [isPt, hany.out]; simp), rfl⟩
      · have Hq : Hid (inB y (-9999) 9999 = true) := hid hq
        have Ht := hid (take_step (p := fun c => !inB c (-9999) 9999) ht.out (by rw [hpl.out]; exact hlt) (by rw [Hy.out, Hq.out]; rfl))
        go_wp2_with (go_at_call 95; refine (l1Within_any _ _ _ (by omega) (by omega)).mono ?_; rintro e w' ⟨rfl, rfl⟩; rw [Hq.out])
        exact ⟨⟨j + 1, by omega, rfl, Ht⟩, by simp [intOf]; omega⟩
    · have hje : j = n := by omega
      subst hje
      have hany : Hid (p.any (fun c => !inB c (-9999) 9999) = false) := hid (by
        have := ht.out
        rw [List.take_of_length_le (by rw [hpl.out]; omega)] at this
        rw [List.any_eq_false]
        intro x hx
        rw [this x hx]; simp)
      have hr := hid (show isPt p = decide (j ≤ 4) by rw [isPt, hany.out, hpl.out]; simp)
      by_cases h4 : j ≤ 4
      · have hd : decide ((j : Int) ≤ 4) = true := by simp; omega
        have hr2 := hid (show isPt p = true by rw [hr.out]; exact decide_eq_true h4)
        go_wp2
        go_ret
        exact ⟨ret_bool hr2.out.symm, rfl⟩
      · have hd : decide ((j : Int) ≤ 4) = false := by simp; omega
        have hr2 := hid (show isPt p = false by rw [hr.out]; exact decide_eq_false h4)
        go_wp2
        go_ret
        exact ⟨ret_bool hr2.out.symm, rfl⟩
def evalOf (x : Aff) (p : List Int) : Int := if affV x && isPt p then affEval x p else 0
def depthOf (x : Aff) : Int := if affV x then (affDepth x : Int) else 0

set_option maxHeartbeats 1600000 in
theorem implEval_any (P Q : Nat → Prop) (v : Value) (x : Aff) (a2 : Option Addr) (n c2 : Nat) (p : List Int) (w : World) (h : AffR P w v x) (hp : Sl Sh.int Q w (.slice a2 n c2) p) :
    Calls Try.prog 39 #[v, .slice a2 n c2] w fun e w' => e = .returned (.int .i64 (evalOf x p)) ∧ Below w.heap.size w w' := by
  obtain ⟨a, c, rfl, _, _, hs⟩ := h.shape
  have hb0 := (Below.refl w.heap.size w).alloc (Nat.le_refl _) (.cells #[.slice a x.1.length c, .int .i64 x.2] 28)
  have h0 := h.below hb0
  have p0 := hp.below hb0
  have hpl := hp.len
  generalize hw1 : w.alloc (.cells #[.slice a x.1.length c, .int .i64 x.2] 28) = w1 at h0 p0 hb0
  have c0 : w1.cell? ⟨w.heap.size, 0, none⟩ = some (.slice a x.1.length c) := by rw [← hw1]; exact cell_of_row _ _ 0 _ _ _ (heap_alloc_new w _)
  have c1 : w1.cell? ⟨w.heap.size, 1, none⟩ = some (.int .i64 x.2) := by rw [← hw1]; exact cell_of_row _ _ 1 _ _ _ (heap_alloc_new w _)
  have hsz : w.heap.size < w1.heap.size := by rw [← hw1, World.size_alloc]; omega
  have Hw1 := hid hw1; clear hw1
  cases hV : affV x
  · have hr := hid (show evalOf x p = 0 by rw [evalOf, hV]; rfl)
    have HV := hid hV; clear hV
    go_enter Try.func39, Try.ntmps39
    go_wp2_with fail
    rw [Hw1.out]
    refine (implAffV_any P _ x _ h0).mono ?_
    rintro e w2 ⟨rfl, b2⟩
    rw [HV.out]
    go_wp2_with fail
    go_ret
    exact ⟨ret_int hr.out.symm, hb0.trans (b2.mono hb0.size)⟩
  · cases hT : isPt p
    · have hr := hid (show evalOf x p = 0 by rw [evalOf, hT]; simp)
      have HV := hid hV; have HT := hid hT; clear hV hT
      go_enter Try.func39, Try.ntmps39
      go_wp2_with fail
      rw [Hw1.out]
      refine (implAffV_any P _ x _ h0).mono ?_
      rintro e w2 ⟨rfl, b2⟩
      rw [HV.out]
      have p2 := p0.below b2
      go_wp2_with fail
      refine (isPoint_any Q _ _ _ p _ p2).mono ?_
      rintro e w' ⟨rfl, rfl⟩
      rw [HT.out]
      go_wp2_with fail
      go_ret
      exact ⟨ret_int hr.out.symm, hb0.trans (b2.mono hb0.size)⟩
    · have hr := hid (show evalOf x p = affEval x p by rw [evalOf, hT, hV]; rfl)
      have h4 := isPt_len hT
      have HV := hid hV; have HT := hid hT; clear hV hT
      have hS := hid (isPt_small HT.out)
      go_enter Try.func39, Try.ntmps39
      go_wp2_with fail
      rw [Hw1.out]
      refine (implAffV_any P _ x _ h0).mono ?_
      rintro e w2 ⟨rfl, b2⟩
      rw [HV.out]
      have p2 := p0.below b2
      have h2 := h0.below b2
      have d0 : w2.cell? ⟨w.heap.size, 0, none⟩ = _ := (b2.cell (p := ⟨w.heap.size, 0, none⟩) hsz).trans c0
      have d1 : w2.cell? ⟨w.heap.size, 1, none⟩ = _ := (b2.cell (p := ⟨w.heap.size, 1, none⟩) hsz).trans c1
      go_wp2_with fail
      refine (isPoint_any Q _ _ _ p _ p2).mono ?_
      rintro e w' ⟨rfl, rfl⟩
      rw [HT.out]
      go_wp2_with fail
      refine (eval_any P Q _ x _ _ _ p _ h2 p2 HV.out hS.out (by omega)).mono ?_
      rintro e w3 ⟨rfl, b3⟩
      go_wp2_with fail
      go_ret
      exact ⟨ret_int hr.out.symm, (hb0.trans (b2.mono hb0.size)).trans (b3.mono (Nat.le_trans hb0.size b2.size))⟩



end Go.Proofs.Ytigdfdhjnadieaa

/- The reader spec.l16Rd: open, pick, num; condition: what the reader's block holds. -/
namespace Go.Proofs.Ytigdfdhjnadieaa
set_option linter.unusedVariables false
set_option linter.unusedSimpArgs false
open Go.RowKit

theorem i64_xor_nat (a b : Nat) (ha : a < 9223372036854775808) (hb : b < 9223372036854775808) : bits .xor .i64 (a : Int) (b : Int) = ((a ^^^ b : Nat) : Int) := by
  have hx : a ^^^ b < 2 ^ 63 := Nat.xor_lt_two_pow (by omega) (by omega)
  show IntKind.i64.wrap ((BitVec.ofInt 64 (a : Int) ^^^ BitVec.ofInt 64 (b : Int)).toNat : Int) = _
  rw [BitVec.toNat_xor, ofInt_u64 a (by omega), ofInt_u64 b (by omega)]
  simp [IntKind.wrap, IntKind.bits, IntKind.signed]
  omega
theorem i64_xor_nonneg (a b : Int) (h1 : 0 ≤ a) (h2 : a < 9223372036854775808) (h3 : 0 ≤ b) (h4 : b < 9223372036854775808) : 0 ≤ bits .xor .i64 a b ∧ bits .xor .i64 a b < 9223372036854775808 := by
  obtain ⟨A, rfl⟩ := Int.eq_ofNat_of_zero_le h1
  obtain ⟨B, rfl⟩ := Int.eq_ofNat_of_zero_le h3
  have hx : A ^^^ B < 2 ^ 63 := Nat.xor_lt_two_pow (by omega) (by omega)
  rw [i64_xor_nat A B (by omega) (by omega)]
  omega

/-- Block g is a reader that has been asked p times; its bytes lie ahead of it. -/
def Rd (w : World) (g p : Nat) : Prop :=
  ∃ a n c bs, w.heap[g]? = some (.cells #[.slice a n c, .int .i64 (p : Int)] 113 (0, 0)) ∧ n ≤ 2000 ∧ Sl Sh.byte (fun b => b < g) w (.slice a n c) bs ∧ ∀ x ∈ bs, 0 ≤ x ∧ x ≤ 255
theorem Rd.lt {w : World} {g p : Nat} (h : Rd w g p) : g < w.heap.size := by
  obtain ⟨_, _, _, _, h, _⟩ := h
  exact (Array.getElem?_eq_some_iff.1 h).1
theorem Rd.frame {w w' : World} {g p : Nat} (h : Rd w g p) (hs : ∀ b, b ≤ g → w'.heap[b]? = w.heap[b]?) : Rd w' g p := by
  obtain ⟨a, n, c, bs, h1, h2, h3, h4⟩ := h
  exact ⟨a, n, c, bs, by rw [hs g (Nat.le_refl _)]; exact h1, h2, h3.frame (fun b hb _ => hs b (Nat.le_of_lt hb)), h4⟩
theorem Rd.below {w w' : World} {g p : Nat} (h : Rd w g p) (hb : Below w.heap.size w w') : Rd w' g p := h.frame fun b hle => hb.block b (Nat.lt_of_le_of_lt hle h.lt)
theorem Rd.alloc {w : World} {g p : Nat} (h : Rd w g p) (o : Obj) : Rd (w.alloc o) g p := h.below ((Below.refl _ _).alloc (Nat.le_refl _) o)
theorem Rd.belowLt {w w' : World} {g p D : Nat} (h : Rd w g p) (hb : Below D w w') (hD : g < D) : Rd w' g p := h.frame fun b hle => hb.block b (Nat.lt_of_le_of_lt hle hD)
/-- What lies behind the reader may change. -/
theorem Rd.grown {w w' : World} {g p : Nat} {r : Option Nat} (h : Rd w g p) (hg : w.grownBy w' r) (hr : ∀ k, r = some k → g < k) : Rd w' g p :=
  h.frame fun b hle => hg.block b (Nat.lt_of_le_of_lt hle h.lt) (fun e => by have := hr b e.symm; omega)
theorem Sl.byteAt {P : Nat → Prop} {w : World} {a : Option Addr} {n c : Nat} {xs : List Int} (h : Sl Sh.byte P w (.slice a n c) xs) (hn : 0 < n) : ∃ b off, a = some ⟨b, off, none⟩ ∧ P b ∧ b < w.heap.size ∧ ∀ i, i < n → w.cell? ⟨b, off + i, none⟩ = some (.int .u8 (xs.getD i 0)) := by
  obtain ⟨b, off, ha, hb, hlt, hc⟩ := h.at hn
  have hl := h.len
  refine ⟨b, off, ha, hb, hlt, fun i hi => ?_⟩
  obtain ⟨cs, hr, hcell⟩ := hc i (xs.getD i 0) (by rw [List.getD, List.getElem?_eq_getElem (by omega)]; rfl)
  have : cs = [.int .u8 (xs.getD i 0)] := hr
  subst this
  have := hcell 0 _ rfl
  simpa [Sh.byte] using this

/-- What pick answers. -/
def Picked (m : Int) (g p : Nat) (w : World) (e : Ending) (w' : World) : Prop :=
  ∃ k : Int, e = .returned (.int .i64 k) ∧ 0 ≤ k ∧ (1 ≤ m → k < m) ∧ (m < 1 → k = 0) ∧ Rd w' g (p + 1) ∧ w.grownBy w' (some g)

theorem Rd.step {w : World} {g p : Nat} (h : Rd w g p) : Rd (w.setCell ⟨g, 1, none⟩ (.int .i64 ((p : Int) + 1))) g (p + 1) ∧ w.grownBy (w.setCell ⟨g, 1, none⟩ (.int .i64 ((p : Int) + 1))) (some g) := by
  obtain ⟨a, n, c, bs, h1, h2, h3, h4⟩ := h
  have hg := setCell_grown w ⟨g, 1, none⟩ (.int .i64 ((p : Int) + 1))
  refine ⟨⟨a, n, c, bs, ?_, h2, h3.grown hg (fun b hb e => by cases e; exact absurd hb (Nat.lt_irrefl _)), h4⟩, hg⟩
  have := heap_setCell_same w g 1 _ _ (.int .i64 ((p : Int) + 1)) h1
  simpa using this
theorem Rd.drewN {w : World} {g p n : Nat} (h : Rd w g p) : Rd (w.drewN n) g p := h.below (belowN (Below.refl _ _))
theorem grown_drewN {w w' : World} {r : Option Nat} {n : Nat} (h : w.grownBy w' r) : w.grownBy (w'.drewN n) r := ⟨h.os, h.tape, h.output, h.size, h.block⟩
theorem mod_bd {x m : Int} (h0 : 0 ≤ x) (hm : 1 ≤ m) : 0 ≤ x.tmod m ∧ x.tmod m < m := by
  rw [Int.tmod_eq_emod_of_nonneg h0]
  exact ⟨Int.emod_nonneg _ (by omega), Int.emod_lt_of_pos _ (by omega)⟩

set_option maxHeartbeats 1600000 in
set_option maxRecDepth 100000 in
theorem pick_any (g p : Nat) (m : Int) (w : World) (h : Rd w g p) (hp : p < 1099511627776) :
    Calls Try.prog 51 #[.pointer (some ⟨g, 0, none⟩), .int .i64 m] w (Picked m g p w) := by
  have hst := h.step
  obtain ⟨a, n, c, bs, h1, h2, h3, h4⟩ := h
  have hc0 : w.cell? ⟨g, 0, none⟩ = some (.slice a n c) := cell_of_row w g 0 _ _ _ h1
  have hc1 : w.cell? ⟨g, 1, none⟩ = some (.int .i64 (p : Int)) := cell_of_row w g 1 _ _ _ h1
  have hf1 : w.frozen? ⟨g, 1, none⟩ = false := by simp [World.frozen?, h1]
  have Hst := hid hst; have H4 := hid h4; clear h1 h4 hst
  by_cases hm : m < 1
  · have hm' : decide (m < 1) = true := by simpa using hm
    go_enter Try.func51, Try.ntmps51
    go_wp2
    go_ret
    exact ⟨0, rfl, Int.le_refl _, fun h => by omega, fun _ => rfl, Hst.out.1, Hst.out.2⟩
  · have hm' : decide (m < 1) = false := by simpa using hm
    by_cases hn : n = 0
    · subst hn
      go_enter Try.func51, Try.ntmps51
      go_wp2
      go_ret
      exact ⟨0, rfl, Int.le_refl _, fun h => by omega, fun _ => rfl, Hst.out.1, Hst.out.2⟩
    · have hn0 : ((n : Int) == 0) = false := by simp; omega
      obtain ⟨b, off, ha, hb, hlt, hcell⟩ := h3.byteAt (by omega)
      subst ha
      by_cases hpn : p < n
      · have h5 := hcell p hpn
        have h6 := H4.out (bs.getD p 0) (by rw [List.getD, List.getElem?_eq_getElem (by rw [h3.len]; exact hpn)]; exact List.getElem_mem _)
        generalize bs.getD p 0 = x at h5 h6
        have hbg : b ≠ g := by omega
        clear hcell
        go_enter Try.func51, Try.ntmps51
        go_wp2
        go_ret
        exact ⟨x % m, rfl, Int.emod_nonneg _ (by omega), fun _ => Int.emod_lt_of_pos _ (by omega), fun h => by omega, Hst.out.1, Hst.out.2⟩
      · have hnpos : (0 : Int) < (n : Int) := by omega
        have e1 := Int.emod_nonneg (p : Int) (show (n : Int) ≠ 0 by omega)
        have e2 := Int.emod_lt_of_pos (p : Int) hnpos
        have e3 := Int.emod_nonneg ((p : Int) * 7 + 3) (show (n : Int) ≠ 0 by omega)
        have e4 := Int.emod_lt_of_pos ((p : Int) * 7 + 3) hnpos
        have e5 : 0 ≤ (p : Int) / (n : Int) := Int.ediv_nonneg (by omega) (by omega)
        have e6 : (p : Int) / (n : Int) ≤ (p : Int) := Int.ediv_le_self _ (by omega)
        obtain ⟨i1, hi1⟩ : ∃ i : Nat, (p : Int) % (n : Int) = i := ⟨((p : Int) % (n : Int)).toNat, by omega⟩
        obtain ⟨i2, hi2⟩ : ∃ i : Nat, ((p : Int) * 7 + 3) % (n : Int) = i := ⟨(((p : Int) * 7 + 3) % (n : Int)).toNat, by omega⟩
        obtain ⟨i3, hi3⟩ : ∃ i : Nat, (p : Int) / (n : Int) = i := ⟨((p : Int) / (n : Int)).toNat, by omega⟩
        rw [hi1] at e1 e2
        rw [hi2] at e3 e4
        rw [hi3] at e5 e6
        have q1 := hcell i1 (by omega)
        have q2 := hcell i2 (by omega)
        have h6 := H4.out (bs.getD i1 0) (by rw [List.getD, List.getElem?_eq_getElem (by rw [h3.len]; omega)]; exact List.getElem_mem _)
        have h7 := H4.out (bs.getD i2 0) (by rw [List.getD, List.getElem?_eq_getElem (by rw [h3.len]; omega)]; exact List.getElem_mem _)
        generalize bs.getD i1 0 = x at q1 h6
        generalize bs.getD i2 0 = y at q2 h7
        have hbg : b ≠ g := by omega
        clear hcell
        go_enter Try.func51, Try.ntmps51
        go_wp2
        go_quiet (fail)
        go_wp2
        go_ret
        have hX : 0 ≤ x * 131 + y * 1117 + (p : Int) * 29 + (i3 : Int) * 53 ∧ x * 131 + y * 1117 + (p : Int) * 29 + (i3 : Int) * 53 < 9223372036854775808 := by omega
        have hx := i64_xor_nonneg _ ((x * 131 + y * 1117 + (p : Int) * 29 + (i3 : Int) * 53) / 64) hX.1 hX.2 (by omega) (by omega)
        have hb := mod_bd hx.1 hm
        exact ⟨_, rfl, hb.1, fun _ => hb.2, fun h => by omega, Hst.out.1.drewN, grown_drewN Hst.out.2⟩

set_option maxHeartbeats 800000 in
theorem l16Open_any (a : Option Addr) (n c : Nat) (bs : List Int) (w : World) (hx : Sl Sh.byte (fun b => b < w.heap.size) w (.slice a n c) bs) (hbs : ∀ x ∈ bs, 0 ≤ x ∧ x ≤ 255) :
    Calls Try.prog 48 #[.slice a n c] w fun e w' => e = .returned (.pointer (some ⟨w.heap.size, 0, none⟩)) ∧ Rd w' w.heap.size 0 ∧ Below w.heap.size w w' := by
  have hcap := hx.le.1
  have key : ∀ k (ys : List Int), k ≤ 2000 → Sl Sh.byte (fun b => b < w.heap.size) w (.slice a k c) ys → (∀ x ∈ ys, 0 ≤ x ∧ x ≤ 255) → Rd (w.alloc (.cells #[.slice a k c, .int .i64 0] 113)) w.heap.size 0 := by
    intro k ys hk hs hb
    exact ⟨a, k, c, ys, heap_alloc_new w _, hk, hs.alloc _, hb⟩
  have Key := hid key; clear key
  by_cases hn : 2000 < n
  · have hn' : decide ((2000 : Int) < (n : Int)) = true := by simp; omega
    have hs := hx.take 2000 (by omega)
    have hb : ∀ x ∈ bs.take 2000, 0 ≤ x ∧ x ≤ 255 := fun x hx => hbs x (List.mem_of_mem_take hx)
    have Hb := hid hb; clear hb hbs
    have h1 : (2000 : Int) ≤ (c : Int) := by omega
    have h2 : 2000 ≤ c := by omega
    go_enter Try.func48, Try.ntmps48
    go_wp2
    go_ret
    exact ⟨rfl, Key.out 2000 _ (by omega) hs Hb.out, (Below.refl _ _).alloc (Nat.le_refl _) _⟩
  · have hn' : decide ((2000 : Int) < (n : Int)) = false := by simp; omega
    have Hb := hid hbs; clear hbs
    go_enter Try.func48, Try.ntmps48
    go_wp2
    go_ret
    exact ⟨rfl, Key.out n _ (by omega) hx Hb.out, (Below.refl _ _).alloc (Nat.le_refl _) _⟩

/-- What num answers: an element of the list. -/
def Numbered (xs : List Int) (g p : Nat) (w : World) (e : Ending) (w' : World) : Prop :=
  ∃ k : Int, e = .returned (.int .i64 k) ∧ k ∈ xs ∧ Rd w' g (p + 1) ∧ w.grownBy w' (some g)
set_option maxHeartbeats 800000 in
theorem num_any (g p n c b off : Nat) (xs : List Int) (w : World) (h : Rd w g p) (hp : p < 1099511627776) (hn : 0 < n) (hx : Sl Sh.int (fun k => k ≠ g) w (.slice (some ⟨b, off, none⟩) n c) xs) :
    Calls Try.prog 52 #[.pointer (some ⟨g, 0, none⟩), .slice (some ⟨b, off, none⟩) n c] w (Numbered xs g p w) := by
  have hle := hx.le
  have hl := hx.len
  go_enter Try.func52, Try.ntmps52
  go_wp2_with fail
  refine (pick_any g p n w h hp).mono ?_
  rintro e w1 ⟨k, rfl, hk0, hk1, _, hr, hg⟩
  have hk2 := hk1 (by omega)
  obtain ⟨i, rfl⟩ : ∃ i : Nat, k = i := ⟨k.toNat, by omega⟩
  obtain ⟨b', off', e, _, _, hc⟩ := (hx.grown hg (fun k hk e => hk (by cases e; rfl))).intAt hn
  cases e
  have h5 := hc i (by omega)
  have h6 : xs.getD i 0 ∈ xs := by rw [List.getD, List.getElem?_eq_getElem (by omega)]; exact List.getElem_mem _
  generalize xs.getD i 0 = x at h5 h6
  have Hl := hid hl
  clear hc hk1 hl
  go_wp2
  go_ret
  exact ⟨x, rfl, h6, hr, hg⟩

/-- num of a list that has just been written out: an element of the list; from the world ahead of the list on. -/
def NumOf (vs : List Int) (g p : Nat) (w : World) (e : Ending) (w' : World) : Prop :=
  ∃ k : Int, e = .returned (.int .i64 k) ∧ k ∈ vs ∧ Rd w' g (p + 1) ∧ w.grownBy w' (some g)
theorem grown_trans {w w' w'' : World} {r : Option Nat} (h : w.grownBy w' r) (h' : w'.grownBy w'' r) : w.grownBy w'' r :=
  ⟨h'.os.trans h.os, h'.tape.trans h.tape, h'.output.trans h.output, Nat.le_trans h.size h'.size, fun k hk hr => (h'.block k (Nat.lt_of_lt_of_le hk h.size) hr).trans (h.block k hk hr)⟩
theorem num_lit (g p b n : Nat) (vs : List Int) (cells : Array Value) (w : World) (h : Rd w g p) (hp : p < 1099511627776) (hb : b = w.heap.size) (hc : cells = (vs.map (Value.int .i64)).toArray) (hn : n = vs.length) (h0 : 0 < n) (hs : n ≤ 1000) :
    Calls Try.prog 52 #[.pointer (some ⟨g, 0, none⟩), .slice (some ⟨b, 0, none⟩) n n] (w.alloc (.cells cells 3)) (NumOf vs g p w) := by
  subst hb hc hn
  have hg := h.lt
  refine (num_any g p _ _ _ _ vs _ (h.alloc _) hp h0 (((OwnI.made (B := w.heap.size) w vs (Nat.le_refl _) (by omega)).sl (by omega)).mono fun b hb _ e => by subst e; have := Option.some.inj hb; simp at this; omega)).mono ?_
  rintro e w' ⟨k, rfl, hk, hr, hgr⟩
  exact ⟨k, rfl, hk, hr, grown_trans (World.grownBy_alloc w _ _) hgr⟩
end Go.Proofs.Ytigdfdhjnadieaa

/- Small steps of the abstract walk; data of loops; condition: none. -/
namespace Go.Proofs.Ytigdfdhjnadieaa
set_option linter.unusedVariables false
set_option linter.unusedSimpArgs false
open Go.RowKit

section
variable {P : Program} {n : Nat} {y : Code} {K : Exit → St → Prop} {σ : St} {id i : Nat} {I : Nat → St → Prop} {m : Nat}
theorem ks_n (h : ACode P n y K σ) : kseq P n y K .normal σ := h
theorem ks_e (h : K (.exit i) σ) : kseq P n y K (.exit i) σ := h
theorem ks_r (h : K .ret σ) : kseq P n y K .ret σ := h
theorem kb_n (h : K .normal σ) : kblock id K .normal σ := h
theorem kb_r (h : K .ret σ) : kblock id K .ret σ := h
theorem kb_hit (h : K .normal σ) : kblock id K (.exit id) σ := by simpa [kblock] using h
theorem kb_miss (hne : Nat.beq i id = false) (h : K (.exit i) σ) : kblock id K (.exit i) σ := by
  have : i ≠ id := fun e => by subst e; simp at hne
  simpa [kblock, this] using h
theorem kl_e (h : K (.exit i) σ) : kloop I m K (.exit i) σ := h
theorem kl_r (h : K .ret σ) : kloop I m K .ret σ := h
theorem kl_n {σ2 : St} (m' : Nat) (hm : m' < m) (hw : Wk σ σ2) (hI : I m' σ2) : kloop I m K .normal σ := ⟨m', σ2, hm, hw, hI⟩
/-- What lies behind a piece of code, said once for all its ways. -/
def kcut (σm : St) (K : Exit → St → Prop) : Exit → St → Prop
  | .normal, σ => Wk σ σm
  | e, σ => K e σ
theorem kc_n {σm : St} (h : Wk σ σm) : kcut σm K .normal σ := h
theorem kc_r {σm : St} (h : K .ret σ) : kcut σm K .ret σ := h
theorem kc_e {σm : St} (h : K (.exit i) σ) : kcut σm K (.exit i) σ := h
theorem ACode.cut {P : Program} {n : Nat} {c : Code} {K : Exit → St → Prop} {σ : St} (σm : St) (h : ACode P n c (kcut σm K) σ) (h2 : K .normal σm) : ACode P n c K σ := by
  intro E bx a w hE hs
  refine wp_mono (h E bx a w hE hs) ?_
  rintro e a' w' ⟨σ', bx', h3, h4⟩
  cases e with
  | normal => obtain ⟨bx2, h5⟩ := h3 E bx' a' w' h4; exact ⟨σm, bx2, h2, h5⟩
  | _ => exact ⟨σ', bx', h3, h4⟩
theorem vB {a b : Bool} (h : a = b) : V.o (bo1 a) = .o (bo1 b) := by rw [h]
theorem vI {a b : Int} (h : a = b) : V.o (nat1 a) = .o (nat1 b) := by rw [h]
theorem kf_ret {res : Array ResultVar} {y : V} {hb' : St} {xs : List V1} (hr : resL σ P res.toList = some xs) (hy : tupV xs = y) (hb : ∀ k e sz rows, lk hb' (.b k) = .b e sz rows → lk σ (.b k) = .b e sz rows) : Kfin P res y hb' .ret σ := ⟨σ, xs, Wk.refl σ, hr, hy, hb⟩
theorem kf_norm {res : Array ResultVar} {y : V} {hb' : St} {xs : List V1} (hr : resL σ P res.toList = some xs) (hy : tupV xs = y) (hb : ∀ k e sz rows, lk hb' (.b k) = .b e sz rows → lk σ (.b k) = .b e sz rows) : Kfin P res y hb' .normal σ := ⟨σ, xs, Wk.refl σ, hr, hy, hb⟩
theorem kf_wret {res : Array ResultVar} {y : V} {hb' : St} {xs : List V1} (σ2 : St) (hw : Wk σ σ2) (hr : resL σ2 P res.toList = some xs) (hy : tupV xs = y) (hb : ∀ k e sz rows, lk hb' (.b k) = .b e sz rows → lk σ2 (.b k) = .b e sz rows) : Kfin P res y hb' .ret σ := ⟨σ2, xs, hw, hr, hy, hb⟩
theorem kf_wnorm {res : Array ResultVar} {y : V} {hb' : St} {xs : List V1} (σ2 : St) (hw : Wk σ σ2) (hr : resL σ2 P res.toList = some xs) (hy : tupV xs = y) (hb : ∀ k e sz rows, lk hb' (.b k) = .b e sz rows → lk σ2 (.b k) = .b e sz rows) : Kfin P res y hb' .normal σ := ⟨σ2, xs, hw, hr, hy, hb⟩
theorem nobox : ∀ (k : Nat) (e : TypeId) (sz : Nat) (rows : List (List C)), lk [] (.b k) = .b e sz rows → lk σ (.b k) = .b e sz rows := fun k e sz rows h => by cases h
theorem nonum : ∀ k, k < 100 → Al (lk []) k → Al (lk σ) k := fun k _ ⟨e, sz, rows, h⟩ => by cases h
end
/-- A function without boxes. -/
theorem Fn.code0 {P : Program} {f : FuncId} {fn : Func} {c : Code} {args : List V1} {y : V} (hf : P.funcs[f]? = some fn) (hbd : fn.body = some c) (hn : Nat.ble args.length fn.ntmps = true) (hra : refsOk [] args = true)
    (hry : refsOk [] [match y with | .o x => x | .tup xs => .agg (xs.flatMap V1.cells)] = true) (h : ACode P fn.ntmps c (Kfin P fn.results y []) (argS 0 args)) : Fn P f [] args y [] :=
  Fn.of_code hf hbd hn HB.nil rfl hra HB.nil hry (fun k _ ⟨e, sz, rows, h⟩ => by cases h) (by rw [List.append_nil]; exact h)
/-- From a contract of the older kind. -/
theorem Fn.pure {P : Program} {f : FuncId} {args : List V1} {y : V} (h : ∀ (B : Nat → Prop) (bx : Nat → Nat × Nat) (al : Nat → Prop) (w : World) (vs : List Value), Vals (V1r bx al B w) args vs →
    Calls P f vs.toArray w fun e w' => ∃ v, e = .returned v ∧ Below w.heap.size w w' ∧ Vr bx al (fun b => B b ∨ w.heap.size ≤ b) w' y v) : Fn P f [] args y [] := by
  intro B bx w vs hh hv
  refine (h B bx _ w vs hv).mono ?_
  rintro e w' ⟨v, rfl, hb, hr⟩
  exact ⟨v, bx, rfl, ⟨fun k e sz rows h => (by cases h), fun k l ⟨e, sz, rows, h⟩ => (by cases h), fun k ⟨e, sz, rows, h⟩ => (by cases h)⟩, hr.to (Same.refl _ _) (fun b hb _ => ⟨hb, fun k ⟨e, sz, rows, h⟩ => (by cases h)⟩) (fun k _ h => ⟨h, rfl⟩), hb.os, hb.tape, hb.output, hb.size, fun b hl _ => hb.block b hl, fun k _ ⟨e, sz, rows, h⟩ => (by cases h), fun k ⟨e, sz, rows, h⟩ => (by cases h)⟩

/-! ### Data of affine expressions and nests -/
@[reducible] def dI (n : Int) : D := .val (.int .i64 n)
@[reducible] def dB (b : Bool) : D := .val (.bool b)
def rI (n : Int) : List D := [dI n]
def dIs (xs : List Int) : D := .list 1 (xs.map rI)
def rA (x : Aff) : List D := [dIs x.1, dI x.2]
def dAs (l : List Aff) : D := .list 2 (l.map rA)
def rL (l : Lp) : List D := [dAs l.1, dAs l.2]
def dLs (ns : List Lp) : D := .list 2 (ns.map rL)
abbrev vD (x : D) : V1 := .c (.d x)
theorem map_at {α β : Type} {f : α → β} {l : List α} {i : Nat} {x : α} (h : l[i]? = some x) : (l.map f)[i]? = some (f x) := by rw [List.getElem?_map, h]; rfl
theorem dr_int {B : Nat → Prop} {w : World} {n : Int} {v : Value} (h : Dr B w (dI n) v) : v = .int .i64 n := by cases h; rfl
theorem dr_ints {B : Nat → Prop} {w : World} {xs : List Int} {v : Value} (h : Dr B w (dIs xs) v) : Sl Sh.int B w v xs := by
  obtain ⟨ad, cap, rfl, h1, h2, h3, h4⟩ := h.slice
  rw [List.length_map] at h1 h2 h4 ⊢
  refine ⟨ad, cap, rfl, h1, h2, h3, fun i x hx => ?_⟩
  obtain ⟨b, off, rfl, h5⟩ := h4 (by have := (List.getElem?_eq_some_iff.1 hx).1; omega)
  obtain ⟨_, u, h6, h7, h8⟩ := h5 i (rI x) 0 (dI x) (map_at hx) rfl
  refine ⟨b, off, [.int .i64 x], rfl, h6, rfl, fun j c hj => ?_⟩
  cases j with
  | zero => simp at hj; subst hj; rw [← dr_int h8]; exact h7
  | succ j => simp at hj
theorem ints_dr {B : Nat → Prop} {w : World} {xs : List Int} {v : Value} (h : Sl Sh.int B w v xs) : Dr B w (dIs xs) v := by
  obtain ⟨a, cap, rfl, h1, h2, h3, h4⟩ := h
  by_cases h0 : xs.length = 0
  · have : xs = [] := List.eq_nil_of_length_eq_zero h0
    subst this
    exact Dr.list 1 [] a 0 cap 0 0 (fun _ _ => undef) rfl (Nat.zero_le _) (Nat.zero_le _) h3 (fun h => absurd h (Nat.lt_irrefl _)) (fun i r h => by simp at h) (fun i r j x h => by simp at h) (fun i r j x h => by simp at h)
  · obtain ⟨b, off, cs, rfl, _⟩ := h4 0 xs[0] (List.getElem?_eq_getElem (by omega))
    have hr : ∀ (i : Nat) r, (xs.map rI)[i]? = some r → ∃ x, xs[i]? = some x ∧ r = rI x := fun i r hr => by
      rw [List.getElem?_map] at hr
      cases hx : xs[i]? with
      | none => rw [hx] at hr; cases hr
      | some x => rw [hx] at hr; cases hr; exact ⟨x, rfl, rfl⟩
    refine Dr.list 1 (xs.map rI) (some ⟨b, off, none⟩) xs.length cap b off (fun i _ => .int .i64 (xs.getD i 0)) (by rw [List.length_map]) h1 h2 (fun h => by cases h) (fun _ => rfl) (fun i r hi => ?_) (fun i r j y hi hj => ?_) (fun i r j y hi hj => ?_)
    · obtain ⟨x, _, rfl⟩ := hr i r hi; rfl
    all_goals
      obtain ⟨x, hx, rfl⟩ := hr i r hi
      have hj0 : j = 0 ∧ y = dI x := by
        cases j with
        | zero => simp [rI] at hj; exact ⟨rfl, hj.symm⟩
        | succ j => simp [rI] at hj
      obtain ⟨rfl, rfl⟩ := hj0
      have hg : xs.getD i 0 = x := by rw [List.getD, hx]; rfl
    · obtain ⟨b', off', cs, e, hb, hr', hc⟩ := h4 i x hx
      cases e
      have hr2 : cs = [.int .i64 x] := hr'
      subst hr2
      exact ⟨hb, by rw [hg]; exact hc 0 _ rfl⟩
    · show Dr B w (dI x) (.int .i64 (xs.getD i 0))
      rw [hg]; exact .val _ rfl
theorem dr_aff {bx : Nat → Nat × Nat} {al B : Nat → Prop} {w : World} {x : Aff} {v : Value} (h : V1r bx al B w (ad (rA x)) v) : AffR B w v x := by
  obtain ⟨vs, rfl, hl, h⟩ := h
  match vs, hl with
  | [u0, u1], _ =>
    have h0 : Dr B w (dIs x.1) u0 := h 0 _ u0 rfl rfl
    have h1 : Dr B w (dI x.2) u1 := h 1 _ u1 rfl rfl
    rw [dr_int h1]
    exact ⟨u0, rfl, dr_ints h0⟩
theorem aff_dr {bx : Nat → Nat × Nat} {al B : Nat → Prop} {w : World} {x : Aff} {v : Value} (h : AffR B w v x) : V1r bx al B w (ad (rA x)) v := by
  obtain ⟨u, rfl, h⟩ := h
  refine ⟨[u, .int .i64 x.2], rfl, rfl, fun i c u' hc hu => ?_⟩
  match i, hc, hu with
  | 0, hc, hu => cases hc; cases hu; exact ints_dr h
  | 1, hc, hu => cases hc; cases hu; exact Dr.val _ rfl
theorem vals1 {R : V1 → Value → Prop} {x : V1} {vs : List Value} (h : Vals R [x] vs) : ∃ v, vs = [v] ∧ R x v := by
  obtain ⟨hl, h⟩ := h
  match vs, hl with
  | [v], _ => exact ⟨v, rfl, h 0 x v rfl rfl⟩
theorem vals2 {R : V1 → Value → Prop} {x y : V1} {vs : List Value} (h : Vals R [x, y] vs) : ∃ u v, vs = [u, v] ∧ R x u ∧ R y v := by
  obtain ⟨hl, h⟩ := h
  match vs, hl with
  | [u, v], _ => exact ⟨u, v, rfl, h 0 x u rfl rfl, h 1 y v rfl rfl⟩
theorem specAffV_fn (x : Aff) : Fn Try.prog 82 [] [ad (rA x)] (.o (bo1 (affV x))) [] :=
  Fn.pure fun B bx al w vs hv => by
    obtain ⟨v, rfl, h⟩ := vals1 hv
    exact (specAffV_any B v x w (dr_aff h)).mono fun e w' ⟨h1, h2⟩ => ⟨_, h1, h2, .val _ rfl⟩
theorem l1Depth_fn (x : Aff) : Fn Try.prog 117 [] [ad (rA x)] (.o (nat1 (affDepth x : Nat))) [] :=
  Fn.pure fun B bx al w vs hv => by
    obtain ⟨v, rfl, h⟩ := vals1 hv
    exact (l1Depth_any B v x w (dr_aff h)).mono fun e w' ⟨h1, h2⟩ => ⟨_, h1, h2, .val _ rfl⟩
end Go.Proofs.Ytigdfdhjnadieaa

/- More operations over abstract states: remainders, conversions, comparisons of truth values; the reader's data; condition: what the operands hold. -/
namespace Go.Proofs.Ytigdfdhjnadieaa
set_option linter.unusedVariables false
set_option linter.unusedSimpArgs false
open Go.RowKit

section
variable {P : Program} {n : Nat} {ops : Array Oper} {o : Oper} {σ : St} {d : Nat} {t t2 : TypeId} {x y : Operand} {p q : Int}
theorem St1.rem (ho : o.op = .binOp .rem t x y t2) (hg : o.guard = none) (hd : o.dst = some d) (hn : Nat.blt d n = true) (hx : ev σ x = some (.o (nat1 p))) (hy : ev σ y = some (.o (nat1 q))) (hr : q ≠ 0) :
    St1 P n ops o σ (rd x ++ rd y) [.t d] ((.t d, .v (.o (nat1 (p.tmod q)))) :: σ) :=
  St1.bin ho hg hd hn hx hy (fun w => by simp [eqGuard, binOp, Op.intDiv, hr]) rfl
theorem St1.quo (ho : o.op = .binOp .quo t x y t2) (hg : o.guard = none) (hd : o.dst = some d) (hn : Nat.blt d n = true) (hx : ev σ x = some (.o (nat1 p))) (hy : ev σ y = some (.o (nat1 q))) (hr : q ≠ 0 ∧ -9223372036854775808 ≤ p.tdiv q ∧ p.tdiv q ≤ 9223372036854775807) :
    St1 P n ops o σ (rd x ++ rd y) [.t d] ((.t d, .v (.o (nat1 (p.tdiv q)))) :: σ) :=
  St1.bin ho hg hd hn hx hy (fun w => by simp [eqGuard, binOp, Op.intDiv, hr.1, IntWalk.i64_in _ hr.2]) rfl
def xorI (a b : Int) : Int := IntKind.i64.wrap ((BitVec.ofInt 64 a ^^^ BitVec.ofInt 64 b).toNat : Int)
theorem St1.xor (ho : o.op = .binOp .xor t x y t2) (hg : o.guard = none) (hd : o.dst = some d) (hn : Nat.blt d n = true) (hx : ev σ x = some (.o (nat1 p))) (hy : ev σ y = some (.o (nat1 q))) :
    St1 P n ops o σ (rd x ++ rd y) [.t d] ((.t d, .v (.o (nat1 (xorI p q)))) :: σ) :=
  St1.bin ho hg hd hn hx hy (fun w => by simp [eqGuard, binOp, Op.intBits, xorI]; rfl) rfl
/-- Adding, multiplying and negating where the number may be too large: it wraps. -/
theorem St1.addW (ho : o.op = .binOp .add t x y t2) (hg : o.guard = none) (hd : o.dst = some d) (hn : Nat.blt d n = true) (hx : ev σ x = some (.o (nat1 p))) (hy : ev σ y = some (.o (nat1 q))) :
    St1 P n ops o σ (rd x ++ rd y) [.t d] ((.t d, .v (.o (nat1 (IntKind.i64.wrap (p + q))))) :: σ) :=
  St1.bin ho hg hd hn hx hy (fun w => by simp [eqGuard, binOp, Op.intArith]) rfl
theorem St1.mulW (ho : o.op = .binOp .mul t x y t2) (hg : o.guard = none) (hd : o.dst = some d) (hn : Nat.blt d n = true) (hx : ev σ x = some (.o (nat1 p))) (hy : ev σ y = some (.o (nat1 q))) :
    St1 P n ops o σ (rd x ++ rd y) [.t d] ((.t d, .v (.o (nat1 (IntKind.i64.wrap (p * q))))) :: σ) :=
  St1.bin ho hg hd hn hx hy (fun w => by simp [eqGuard, binOp, Op.intArith]) rfl
theorem St1.eqlB {a b : Bool} (ho : o.op = .binOp .eql t x y t2) (hg : o.guard = none) (hd : o.dst = some d) (hn : Nat.blt d n = true) (ht : P.underlying t = some .bool) (hx : ev σ x = some (.o (bo1 a))) (hy : ev σ y = some (.o (bo1 b))) :
    St1 P n ops o σ (rd x ++ rd y) [.t d] ((.t d, .v (.o (bo1 (a == b)))) :: σ) :=
  St1.bin ho hg hd hn hx hy (fun w => by simp [eqGuard, binOp, Op.equal, show Op.maxDepth = 9999 + 1 from rfl, run_equalIn_bool' w 9999 t a b ht]) rfl
theorem St1.neqB {a b : Bool} (ho : o.op = .binOp .neq t x y t2) (hg : o.guard = none) (hd : o.dst = some d) (hn : Nat.blt d n = true) (ht : P.underlying t = some .bool) (hx : ev σ x = some (.o (bo1 a))) (hy : ev σ y = some (.o (bo1 b))) :
    St1 P n ops o σ (rd x ++ rd y) [.t d] ((.t d, .v (.o (bo1 (!(a == b))))) :: σ) :=
  St1.bin ho hg hd hn hx hy (fun w => by simp [eqGuard, binOp, Op.equal, show Op.maxDepth = 9999 + 1 from rfl, run_equalIn_bool' w 9999 t a b ht]) rfl
theorem St1.convU {s t : TypeId} {ds : TypeDesc} {k : IntKind} {p : Int} (ho : o.op = .convert s t x) (hg : o.guard = none) (hd : o.dst = some d) (hn : Nat.blt d n = true) (hs' : P.underlying s = some ds) (ht : P.underlying t = some (.int .i64)) (hx : ev σ x = some (.o (.c (.d (.val (.int k p)))))) (hr : -9223372036854775808 ≤ p ∧ p ≤ 9223372036854775807) :
    St1 P n ops o σ (rd x) [.t d] ((.t d, .v (.o (nat1 p))) :: σ) :=
  St1.value hg hd hn fun E bx τ a w hR hs => ⟨⟨.int .i64 p, by
    have hv := ev_val hx hR hs
    simp [execOp, ho, hv, convert, run_underlying hs', run_underlying ht, Conv.intToInt, IntWalk.i64_in _ hr], .val _ rfl⟩, fun k hk => by cases hk⟩
/-- append to nil; what comes of it is not written again. -/
theorem St1.appND {e : TypeId} {ts : Array TypeId} {s : Operand} {sz by' : Nat} {news : List (List D)} (ho : o.op = .call { callee := .builtin .append, args := #[s, x], argTypes := ts }) (hg : o.guard = none) (hd : o.dst = some d) (hn : Nat.blt d n = true) (hts : ts = #[t, t])
    (ht : tyA P t = some (e, sz + 1, by', sz + 1)) (hby : Nat.ble by' 32768 = true) (hs' : ev σ s = some (.o (.c (.d (.val (.slice none 0 0)))))) (hx : ev σ x = some (.o (.c (.d (.list (sz + 1) news))))) (hl : 0 < news.length ∧ news.length ≤ 4294967296) :
    St1 P n ops o σ (rd s ++ rd x) [.t d] ((.t d, .v (.o (.c (.d (.list (sz + 1) news))))) :: σ) :=
  St1.fresh hg hd hn fun E bx τ a w hR hs => by
    subst hts
    obtain ⟨w', g', cap', cur', r1, r2, r3, r4, r5, r6, r7, r9, r10⟩ := run_appN (ty := o.type) ht w (ev_list hx (rd_r hR) hs) hl.1 hl.2 (Nat.le_of_ble_eq_true hby)
    have hbel : Below w.heap.size w w' := ⟨r2.os, r2.tape, r2.output, r2.size, fun b hb => r2.block b hb (by simp)⟩
    refine ⟨⟨_, w', exec_app ho w w' _ (by rw [ev_val hs' (rd_l hR) hs]; exact r1), hbel, ?_⟩, fun k hk => by cases hk⟩
    refine Dr.list _ news _ _ _ g' 0 (fun i j => cur'.getD (i * (sz + 1) + j) undef) rfl r5 (by omega) (fun h => by cases h) (fun _ => rfl) (fun i r hi => r9 r (List.mem_of_getElem? hi)) (fun i r j y hi hj => ⟨.inr r3, ?_⟩) (fun i r j y hi hj => ?_)
    · obtain ⟨u, h6, _⟩ := r10 i r j y hi hj
      rw [cell_of_row _ _ _ _ _ _ r4, Nat.zero_add, h6]
      simp [Array.getD_eq_getD_getElem?, h6]
    · obtain ⟨u, h6, h7⟩ := r10 i r j y hi hj
      simp only [Array.getD_eq_getD_getElem?, h6, Option.getD_some]
      exact (h7.frame (below_sameAll hbel _)).mono fun b hb _ => .inl hb
end
theorem leafB {a b : Bool} (h : a = b) : tupV [bo1 a] = .o (bo1 b) := by rw [h]; rfl
theorem leafI {a b : Int} (h : a = b) : tupV [nat1 a] = .o (nat1 b) := by rw [h]; rfl

/-! ### The reader's data -/
def rY (b : Int) : List D := [.val (.int .u8 b)]
def dYs (bs : List Int) : D := .list 1 (bs.map rY)
def rRd (bs : List Int) (p : Nat) : List D := [dYs bs, dI (p : Nat)]
/-- The reader in box k, asked p times. -/
def hbR (bs : List Int) (p : Nat) : St := [(.b 0, .b 113 2 (dR [rRd bs p])), (.u 0, .u)]
theorem hbR_HB (bs : List Int) (p : Nat) : HB (hbR bs p) := HB.nil.data
theorem hbR_flat (bs : List Int) (p : Nat) : flatS (hbR bs p) := flatS.nil.cons rfl
theorem hbR_num (bs : List Int) (p q : Nat) : ∀ k, k < 100 → Al (lk (hbR bs q)) k → Al (lk (hbR bs p)) k := fun k _ ⟨e, sz, rows, h⟩ => by
  have : k = 0 := by
    have hm := lk_mem h (by simp)
    rcases List.mem_cons.1 hm with hm | hm
    · cases hm; rfl
    · rcases List.mem_cons.1 hm with hm | hm
      · cases hm
      · cases hm
  subst this
  exact ⟨_, _, _, rfl⟩
theorem one_box {σ : St} {k0 : Nat} {e0 : TypeId} {sz0 : Nat} {rows0 : List (List C)} (h : lk σ (.b k0) = .b e0 sz0 rows0) : ∀ k e sz rows, lk [(.b k0, .b e0 sz0 rows0), (.u k0, .u)] (.b k) = .b e sz rows → lk σ (.b k) = .b e sz rows := fun k e sz rows h1 => by
  have hm := lk_mem h1 (by simp)
  rcases List.mem_cons.1 hm with hm | hm
  · cases hm; exact h
  · rcases List.mem_cons.1 hm with hm | hm
    · cases hm
    · cases hm
theorem one_num {σ : St} {k0 : Nat} {e0 : TypeId} {sz0 : Nat} {rows0 : List (List C)} (hk : Nat.ble 100 k0 = true) : ∀ k, k < 100 → Al (lk [(.b k0, .b e0 sz0 rows0), (.u k0, .u)]) k → Al (lk σ) k := fun k h ⟨e, sz, rows, h1⟩ => by
  have hm := lk_mem h1 (by simp)
  have := Nat.le_of_ble_eq_true hk
  rcases List.mem_cons.1 hm with hm | hm
  · cases hm; omega
  · rcases List.mem_cons.1 hm with hm | hm
    · cases hm
    · cases hm
theorem hbR_box {σ : St} {bs : List Int} {p : Nat} (h : lk σ (.b 0) = .b 113 2 (dR [rRd bs p])) : ∀ k e sz rows, lk (hbR bs p) (.b k) = .b e sz rows → lk σ (.b k) = .b e sz rows := one_box h
theorem tmod_nat {a b : Int} {m n : Nat} (h : a = (m : Int)) (h' : b = (n : Int)) : a.tmod b = ((m % n : Nat) : Int) := by subst h h'; exact (Int.ofNat_tmod m n).symm
theorem tdiv_nat {a b : Int} {m n : Nat} (h : a = (m : Int)) (h' : b = (n : Int)) : a.tdiv b = ((m / n : Nat) : Int) := by subst h h'; exact (Int.ofNat_tdiv m n).symm
theorem tdiv64 {x : Int} (h0 : 0 ≤ x) (h1 : x ≤ 9223372036854775807) : -9223372036854775808 ≤ x.tdiv 64 ∧ x.tdiv 64 ≤ 9223372036854775807 := by rw [Int.tdiv_eq_ediv_of_nonneg h0]; omega
theorem getD_at {l : List Int} {i : Nat} (h : i < l.length) : l[i]? = some (l.getD i 0) := by rw [List.getD, List.getElem?_eq_getElem h]; rfl
abbrev vR : V1 := .c (.box 0 2 0 0)
/-- What pick answers. -/
def mixV (bs : List Int) (p : Nat) : Int :=
  let x := bs.getD (p % bs.length) 0 * 131 + bs.getD ((p * 7 + 3) % bs.length) 0 * 1117 + (p : Int) * 29 + ((p / bs.length : Nat) : Int) * 53
  xorI x (x.tdiv 64)
def pickV (bs : List Int) (p : Nat) (n : Int) : Int :=
  if n < 1 then 0 else if bs.length = 0 then 0 else if p < bs.length then (bs.getD p 0).tmod n else (mixV bs p).tmod n
def numV (bs : List Int) (p : Nat) (xs : List Int) : Int := xs.getD (pickV bs p xs.length).toNat 0
def Bytes (bs : List Int) : Prop := bs.length ≤ 2000 ∧ ∀ b ∈ bs, 0 ≤ b ∧ b ≤ 255
theorem xorI_nonneg {a b : Int} (h1 : 0 ≤ a) (h2 : a < 9223372036854775808) (h3 : 0 ≤ b) (h4 : b < 9223372036854775808) : 0 ≤ xorI a b := (i64_xor_nonneg a b h1 h2 h3 h4).1
theorem Bytes.at {bs : List Int} (h : Bytes bs) (i : Nat) : 0 ≤ bs.getD i 0 ∧ bs.getD i 0 ≤ 255 := by
  rw [List.getD]
  cases hb : bs[i]? with
  | none => simp
  | some b => exact h.2 b (List.mem_of_getElem? hb)
theorem mixV_nonneg {bs : List Int} (h : Bytes bs) {p : Nat} (hp : p ≤ 1099511627776) : 0 ≤ mixV bs p := by
  have h1 := h.at (p % bs.length)
  have h2 := h.at ((p * 7 + 3) % bs.length)
  have h3 : p / bs.length ≤ p := Nat.div_le_self _ _
  unfold mixV
  generalize hq : p / bs.length = q at h3
  have hx : 0 ≤ bs.getD (p % bs.length) 0 * 131 + bs.getD ((p * 7 + 3) % bs.length) 0 * 1117 + (p : Int) * 29 + (q : Int) * 53 ∧ bs.getD (p % bs.length) 0 * 131 + bs.getD ((p * 7 + 3) % bs.length) 0 * 1117 + (p : Int) * 29 + (q : Int) * 53 < 9223372036854775808 := by omega
  have h4 := Int.tdiv_nonneg hx.1 (show (0 : Int) ≤ 64 by omega)
  have h5 : (bs.getD (p % bs.length) 0 * 131 + bs.getD ((p * 7 + 3) % bs.length) 0 * 1117 + (p : Int) * 29 + (q : Int) * 53).tdiv 64 < 9223372036854775808 := by
    rw [Int.tdiv_eq_ediv_of_nonneg hx.1]
    omega
  exact xorI_nonneg hx.1 hx.2 h4 h5
theorem pickV_bd {bs : List Int} (h : Bytes bs) {p : Nat} (hp : p ≤ 1099511627776) (n : Int) : 0 ≤ pickV bs p n ∧ (1 ≤ n → pickV bs p n < n) := by
  unfold pickV
  split
  · exact ⟨Int.le_refl _, fun h => by omega⟩
  · split
    · exact ⟨Int.le_refl _, fun h => by omega⟩
    · split
      · exact ⟨(mod_bd (h.at p).1 (by omega)).1, fun _ => (mod_bd (h.at p).1 (by omega)).2⟩
      · exact ⟨(mod_bd (mixV_nonneg h hp) (by omega)).1, fun _ => (mod_bd (mixV_nonneg h hp) (by omega)).2⟩
theorem numV_mem {bs : List Int} (h : Bytes bs) {p : Nat} (hp : p ≤ 1099511627776) {xs : List Int} (hx : 0 < xs.length) : numV bs p xs ∈ xs := by
  have h1 := pickV_bd h hp xs.length
  have h2 := h1.2 (by omega)
  unfold numV
  rw [List.getD, List.getElem?_eq_getElem (by omega)]
  exact List.getElem_mem _
theorem numV_at {bs : List Int} (h : Bytes bs) {p : Nat} (hp : p ≤ 1099511627776) {xs : List Int} (hx : 0 < xs.length) : pickV bs p xs.length = ((pickV bs p xs.length).toNat : Int) ∧ xs[(pickV bs p xs.length).toNat]? = some (numV bs p xs) := by
  have h1 := pickV_bd h hp xs.length
  have h2 := h1.2 (by omega)
  refine ⟨by omega, ?_⟩
  unfold numV
  rw [List.getD, List.getElem?_eq_getElem (by omega)]; rfl
end Go.Proofs.Ytigdfdhjnadieaa

/- append of what lies in a box of the call's own, over abstract states; condition: what the operands and the boxes hold. -/
namespace Go.Proofs.Ytigdfdhjnadieaa
set_option linter.unusedVariables false
set_option linter.unusedSimpArgs false
open Go.RowKit

section
variable {P : Program} {n : Nat} {ops : Array Oper} {o : Oper} {σ : St} {d : Nat}
theorem run_appG {t ty e : TypeId} {sz by' : Nat} (ht : tyA P t = some (e, sz + 1, by', sz + 1)) (w : World) (g m cap : Nat) (cur : Array Value) (hg : w.heap[g]? = some (.cells cur e (0, 0))) (hmc : m ≤ cap) (hcm : cap ≤ maxLen) (hcs : cap * (sz + 1) = cur.size)
    (ad : Addr) (q c : Nat) (vss : List (List Value)) (f1 : vss.length = q) (f2 : ∀ r ∈ vss, r.length = sz + 1) (f5 : ∀ (j : Nat) u, vss.flatten[j]? = some u → w.cell? (ad.add j) = some u) (f6 : ∀ u ∈ vss.flatten, u.oneCell' = true) (hn : m + q ≤ 4294967296) (hby : by' ≤ 32768) :
    ∃ (w' : World) (g' cap' : Nat) (cur' : Array Value), (Builtin.append_ #[t, t] ty #[.slice (some ⟨g, 0, none⟩) m cap, .slice (some ad) q c]).run P w = .ok (.slice (some ⟨g', 0, none⟩) (m + q) cap') w' ∧ w.grownBy w' (some g) ∧ (g' = g ∨ w.heap.size ≤ g') ∧ w'.heap[g']? = some (.cells cur' e (0, 0)) ∧
      m + q ≤ cap' ∧ cap' ≤ maxLen ∧ cap' * (sz + 1) = cur'.size ∧ (∀ p, p < m * (sz + 1) → cur'[p]? = cur[p]?) ∧ ∀ (i : Nat) vs (j : Nat) u, vss[i]? = some vs → vs[j]? = some u → cur'[(m + i) * (sz + 1) + j]? = some u := by
  obtain ⟨hu, i, z, hi, hz, hs1, hs2, hs3⟩ := tyA_out ht
  have hown : w.ownsRow 0 e (sz + 1) (.slice (some ⟨g, 0, none⟩) m cap) m (cur.toList.take (m * (sz + 1))) := by
    refine ⟨?_, .inr ⟨g, cap, cur, rfl, Nat.zero_le _, hg, hmc, hcm, hcs.symm, rfl⟩⟩
    have := Nat.mul_le_mul_right (sz + 1) hmc
    rw [List.length_take, Array.length_toList]; omega
  have hfl : vss.flatten.length = q * (sz + 1) := by rw [flat_len f2, f1]
  obtain ⟨v', w', hr, hp⟩ := run_app (P := P) w 0 t ty e i z (sz + 1) by' hu hi hz hs1 hs2 hs3 (by omega) (.slice (some ⟨g, 0, none⟩) m cap) m _ hown ad q c vss.flatten hfl f5 f6
    (by unfold maxLen; omega) (by have := Nat.mul_le_mul hn hby; omega) (Nat.zero_le _)
  obtain ⟨p1, p2, p3⟩ := hp
  have hol : m * (sz + 1) ≤ cur.size := by have := Nat.mul_le_mul_right (sz + 1) hmc; omega
  rcases p1.2 with ⟨rfl, h0⟩ | ⟨g', cap', cur', rfl, _, k1, k2, k3, k4, k5⟩
  · rcases p3 with h | ⟨k, h, _⟩ <;> cases h
  · have hat : ∀ p, p < (m + q) * (sz + 1) → cur'[p]? = (cur.toList.take (m * (sz + 1)) ++ vss.flatten)[p]? := fun p hp => by
      rw [← k5, List.getElem?_take, if_pos hp, Array.getElem?_toList]
    have htl : (cur.toList.take (m * (sz + 1))).length = m * (sz + 1) := by rw [List.length_take, Array.length_toList]; omega
    refine ⟨w', g', cap', cur', hr, p2, ?_, k1, k2, k3, k4.symm, fun p hp => ?_, fun l vs j u hl hj => ?_⟩
    · rcases p3 with h | ⟨k, h, h2⟩
      · exact .inl (Option.some.inj h)
      · exact .inr (by have := Option.some.inj h; simp only at this; omega)
    · rw [hat p (by rw [Nat.add_mul]; omega), List.getElem?_append_left (by omega), List.getElem?_take, if_pos hp, Array.getElem?_toList]
    · have hll := (List.getElem?_eq_some_iff.1 hl).1
      have hjl : j < sz + 1 := by have := f2 vs (List.mem_of_getElem? hl); have := (List.getElem?_eq_some_iff.1 hj).1; omega
      have hlt : (m + l) * (sz + 1) + j < (m + q) * (sz + 1) := by
        have := Nat.mul_le_mul_right (sz + 1) (show m + l + 1 ≤ m + q by omega)
        rw [Nat.add_mul (m + l)] at this; omega
      rw [hat _ hlt, List.getElem?_append_right (by rw [Nat.add_mul]; omega), htl, show (m + l) * (sz + 1) + j - m * (sz + 1) = l * (sz + 1) + j by rw [Nat.add_mul]; omega, flat_get f2 _ _ hjl, hl]
      exact hj
/-- append of rows that lie in another box. -/
theorem St1.appBB {t e e2 : TypeId} {s x : Operand} {ts : Array TypeId} {sz by' k k2 k' m q : Nat} {rows rows2 : List (List C)} (ho : o.op = .call { callee := .builtin .append, args := #[s, x], argTypes := ts }) (hg : o.guard = none) (hd : o.dst = some d) (hn : Nat.blt d n = true) (hts : ts = #[t, t])
    (ht : tyA P t = some (e, sz + 1, by', sz + 1)) (hby : Nat.ble by' 32768 = true) (hs' : ev σ s = some (.o (.c (.own k (sz + 1) m)))) (hb : lk σ (.b k) = .b e (sz + 1) rows) (hx : ev σ x = some (.o (.c (.own k2 (sz + 1) q)))) (hb2 : lk σ (.b k2) = .b e2 (sz + 1) rows2) (hm : rows.length = m) (hq : rows2.length = q) (hl : rows.length + rows2.length ≤ 4294967296) (hf : lk σ (.u k') = .no) (h100 : Nat.ble 100 k' = true) (hkk : okk k k' = true) :
    St1 P n ops o σ (.u k' :: ((rd s ++ rd x) ++ [.b k, .b k2])) [.t d, .u k', .b k', .b k] ((.t d, .v (.o (.c (.own k' (sz + 1) (m + q))))) :: (.u k', .u) :: (.b k', .b e (sz + 1) (rows ++ rows2)) :: (.b k, .no) :: σ) :=
  St1.place hg hd hn hf h100 hkk rfl fun E bx τ a w hR hs => by
    subst hts hm hq
    have hk : τ (.b k) = .b e (sz + 1) rows := (rd_r hR _ (by simp)).trans hb
    have hk2 : τ (.b k2) = .b e2 (sz + 1) rows2 := (rd_r hR _ (by simp)).trans hb2
    obtain ⟨cap, e1, c1, c2, c3⟩ := ev_own hs' (rd_l (rd_l hR)) hs (Al_of hk)
    obtain ⟨cap2, e3, d1, d2, d3⟩ := ev_own hx (rd_r (rd_l hR)) hs (Al_of hk2)
    obtain ⟨cur, h1, h2, h3, h4, h5⟩ := hs.box k e _ rows hk
    obtain ⟨cur2, g1, g2, g3, g4, g5⟩ := hs.box k2 e2 _ rows2 hk2
    have hvl : ∀ r ∈ (List.range rows2.length).map fun i => (List.range (sz + 1)).map fun j => cur2.getD (i * (sz + 1) + j) undef, r.length = sz + 1 := fun r hr => by
      obtain ⟨i, _, rfl⟩ := List.mem_map.1 hr
      simp
    have hflat : ∀ (p : Nat) u, (((List.range rows2.length).map fun i => (List.range (sz + 1)).map fun j => cur2.getD (i * (sz + 1) + j) undef).flatten)[p]? = some u → ∃ r c, r ∈ rows2 ∧ c ∈ r ∧ cur2[p]? = some u ∧ Cr bx (Al τ) (Bf E bx τ) w c u := fun p u hp => by
      have hpl := (List.getElem?_eq_some_iff.1 hp).1
      rw [flat_len hvl, List.length_map, List.length_range] at hpl
      have hs0 : 0 < sz + 1 := by omega
      have hdiv : p / (sz + 1) < rows2.length := (Nat.div_lt_iff_lt_mul hs0).2 hpl
      have hmod := Nat.mod_lt p hs0
      have hdm : p = p / (sz + 1) * (sz + 1) + p % (sz + 1) := by rw [Nat.mul_comm]; exact (Nat.div_add_mod p (sz + 1)).symm
      rw [hdm, flat_get hvl _ _ hmod] at hp
      have hrow := g4 _ _ (List.getElem?_eq_getElem hdiv)
      obtain ⟨u', h6, h7⟩ := g5 (p / (sz + 1)) _ (p % (sz + 1)) _ (List.getElem?_eq_getElem hdiv) (List.getElem?_eq_getElem (by rw [hrow]; exact hmod))
      simp [hdiv, hmod] at hp
      rw [h6] at hp
      simp at hp
      subst hp
      exact ⟨_, _, List.getElem_mem hdiv, List.getElem_mem _, by rw [hdm]; exact h6, h7⟩
    obtain ⟨w', g', cap', cur', r1, r2, r3, r4, r5, r6, r7, r8, r10⟩ := run_appG (ty := o.type) ht w (bx k).1 rows.length cap cur h1 c1 c2 (by rw [h2]; exact c3) ⟨(bx k2).1, 0, none⟩ rows2.length cap2 ((List.range rows2.length).map fun i => (List.range (sz + 1)).map fun j => cur2.getD (i * (sz + 1) + j) undef) (by simp) hvl
      (fun p u hp => by
        obtain ⟨_, _, _, _, h6, _⟩ := hflat p u hp
        rw [Addr.add_mid, cell_of_row w _ _ _ _ _ g1, Nat.zero_add]; exact h6)
      (fun u hu => by
        obtain ⟨p, hp⟩ := List.mem_iff_getElem?.1 hu
        obtain ⟨_, _, _, _, _, h7⟩ := hflat p u hp
        exact h7.one) hl (Nat.le_of_ble_eq_true hby)
    have hrl : (rows ++ rows2).length = rows.length + rows2.length := by simp
    refine ⟨_, w', g', (bx k).1, cur', exec_app ho w w' _ (by rw [e1, e3]; exact r1), ?_, r2, .inr ⟨Al_of hk, rfl⟩, r4, by rw [hrl, ← r7]; exact Nat.mul_le_mul_right _ r5, fun i r hi => ?_, fun i r j c hi hj => ?_, fun r hr c hc l hl => ?_, fun bx' al B w2 hbx => ⟨rfl, fun _ => ⟨cap', by rw [hbx], r5, r6, by rw [hbx]; exact r7⟩⟩⟩
    · exact r3.imp (fun h => ⟨Al_of hk, h⟩) id
    · rw [List.getElem?_append] at hi
      split at hi
      · exact h4 i r hi
      · exact g4 _ r hi
    · rw [List.getElem?_append] at hi
      split at hi
      · rename_i hlt
        obtain ⟨u, h6, h7⟩ := h5 i r j c hi hj
        have hjl : j < sz + 1 := by have := h4 i r hi; have := (List.getElem?_eq_some_iff.1 hj).1; omega
        have := Nat.mul_le_mul_right (sz + 1) (show i + 1 ≤ rows.length by omega)
        rw [Nat.add_mul] at this
        exact ⟨u, (r8 _ (by omega)).trans h6, h7⟩
      · rename_i hge
        obtain ⟨u, h6, h7⟩ := g5 (i - rows.length) r j c hi hj
        have hil := (List.getElem?_eq_some_iff.1 hi).1
        have hjl : j < sz + 1 := by have := g4 _ r hi; have := (List.getElem?_eq_some_iff.1 hj).1; omega
        refine ⟨u, ?_, h7⟩
        rw [show i = rows.length + (i - rows.length) by omega]
        exact r10 (i - rows.length) _ j u (by simp [hil]; rfl) (by simp [hjl, h6])
    · rw [List.mem_append] at hr
      rcases hr with hr | hr
      · exact fun hu => (hs.unused l hu).2.2 k e _ rows hk r hr c hc hl
      · exact fun hu => (hs.unused l hu).2.2 k2 e2 _ rows2 hk2 r hr c hc hl
end
end Go.Proofs.Ytigdfdhjnadieaa

/- Short forms of the steps of the abstract walk; condition: that of the step. -/
namespace Go.Proofs.Ytigdfdhjnadieaa
set_option linter.unusedVariables false
set_option linter.unusedSimpArgs false
open Go.RowKit

section
variable {P : Program} {n : Nat} {ops : Array Oper} {o : Oper} {σ : St} {d : Nat}
theorem St1.mv {x : Operand} {v : V} (h4 : (o.op, o.guard, o.dst, Nat.blt d n) = (Op.move x, none, some d, true)) (hx : ev σ x = some v) :
    St1 P n ops o σ (rd x) [.t d] ((.t d, .v (v)) :: σ) := by
  simp only [Prod.mk.injEq] at h4
  exact St1.move  h4.1 h4.2.1 h4.2.2.1 h4.2.2.2 hx
theorem St1.asg {x : Operand} {v : V} (h4 : (o.op, o.guard, o.dst, Nat.blt d n) = (Op.assign x, none, some d, true)) (hx : ev σ x = some v) :
    St1 P n ops o σ (rd x) [.t d] ((.t d, .v (v)) :: σ) := by
  simp only [Prod.mk.injEq] at h4
  exact St1.assign  h4.1 h4.2.1 h4.2.2.1 h4.2.2.2 hx
theorem St1.pT {c x y : Operand} {v : V} (h4 : (o.op, o.guard, o.dst, Nat.blt d n) = (Op.pick c x y, none, some d, true)) (hc : ev σ c = some (.o (bo1 true))) (hx : ev σ x = some v) :
    St1 P n ops o σ (rd c ++ rd x) [.t d] ((.t d, .v (v)) :: σ) := by
  simp only [Prod.mk.injEq] at h4
  exact St1.pickT  h4.1 h4.2.1 h4.2.2.1 h4.2.2.2 hc hx
theorem St1.pF {c x y : Operand} {v : V} (h4 : (o.op, o.guard, o.dst, Nat.blt d n) = (Op.pick c x y, none, some d, true)) (hc : ev σ c = some (.o (bo1 false))) (hy : ev σ y = some v) :
    St1 P n ops o σ (rd c ++ rd y) [.t d] ((.t d, .v (v)) :: σ) := by
  simp only [Prod.mk.injEq] at h4
  exact St1.pickF  h4.1 h4.2.1 h4.2.2.1 h4.2.2.2 hc hy
theorem St1.pl {x y : Operand} {p q : Int} {t t2 : TypeId} (h4 : (o.op, o.guard, o.dst, Nat.blt d n) = (Op.binOp .add t x y t2, none, some d, true)) (hx : ev σ x = some (.o (nat1 p))) (hy : ev σ y = some (.o (nat1 q))) (hr : -9223372036854775808 ≤ p + q ∧ p + q ≤ 9223372036854775807 := by omega) :
    St1 P n ops o σ (rd x ++ rd y) [.t d] ((.t d, .v (.o (nat1 (p + q)))) :: σ) := by
  simp only [Prod.mk.injEq] at h4
  exact St1.add  h4.1 h4.2.1 h4.2.2.1 h4.2.2.2 hx hy hr
theorem St1.sb {x y : Operand} {p q : Int} {t t2 : TypeId} (h4 : (o.op, o.guard, o.dst, Nat.blt d n) = (Op.binOp .sub t x y t2, none, some d, true)) (hx : ev σ x = some (.o (nat1 p))) (hy : ev σ y = some (.o (nat1 q))) (hr : -9223372036854775808 ≤ p - q ∧ p - q ≤ 9223372036854775807 := by omega) :
    St1 P n ops o σ (rd x ++ rd y) [.t d] ((.t d, .v (.o (nat1 (p - q)))) :: σ) := by
  simp only [Prod.mk.injEq] at h4
  exact St1.sub  h4.1 h4.2.1 h4.2.2.1 h4.2.2.2 hx hy hr
theorem St1.ml {x y : Operand} {p q : Int} {t t2 : TypeId} (h4 : (o.op, o.guard, o.dst, Nat.blt d n) = (Op.binOp .mul t x y t2, none, some d, true)) (hx : ev σ x = some (.o (nat1 p))) (hy : ev σ y = some (.o (nat1 q))) (hr : -9223372036854775808 ≤ p * q ∧ p * q ≤ 9223372036854775807 := by omega) :
    St1 P n ops o σ (rd x ++ rd y) [.t d] ((.t d, .v (.o (nat1 (p * q)))) :: σ) := by
  simp only [Prod.mk.injEq] at h4
  exact St1.mul  h4.1 h4.2.1 h4.2.2.1 h4.2.2.2 hx hy hr
theorem St1.ls {x y : Operand} {p q : Int} {t t2 : TypeId} (h4 : (o.op, o.guard, o.dst, Nat.blt d n) = (Op.binOp .lss t x y t2, none, some d, true)) (hx : ev σ x = some (.o (nat1 p))) (hy : ev σ y = some (.o (nat1 q))) :
    St1 P n ops o σ (rd x ++ rd y) [.t d] ((.t d, .v (.o (bo1 (decide (p < q))))) :: σ) := by
  simp only [Prod.mk.injEq] at h4
  exact St1.lss  h4.1 h4.2.1 h4.2.2.1 h4.2.2.2 hx hy
theorem St1.le {x y : Operand} {p q : Int} {t t2 : TypeId} (h4 : (o.op, o.guard, o.dst, Nat.blt d n) = (Op.binOp .leq t x y t2, none, some d, true)) (hx : ev σ x = some (.o (nat1 p))) (hy : ev σ y = some (.o (nat1 q))) :
    St1 P n ops o σ (rd x ++ rd y) [.t d] ((.t d, .v (.o (bo1 (decide (p ≤ q))))) :: σ) := by
  simp only [Prod.mk.injEq] at h4
  exact St1.leq  h4.1 h4.2.1 h4.2.2.1 h4.2.2.2 hx hy
theorem St1.gt {x y : Operand} {p q : Int} {t t2 : TypeId} (h4 : (o.op, o.guard, o.dst, Nat.blt d n) = (Op.binOp .gtr t x y t2, none, some d, true)) (hx : ev σ x = some (.o (nat1 p))) (hy : ev σ y = some (.o (nat1 q))) :
    St1 P n ops o σ (rd x ++ rd y) [.t d] ((.t d, .v (.o (bo1 (decide (q < p))))) :: σ) := by
  simp only [Prod.mk.injEq] at h4
  exact St1.gtr  h4.1 h4.2.1 h4.2.2.1 h4.2.2.2 hx hy
theorem St1.ge {x y : Operand} {p q : Int} {t t2 : TypeId} (h4 : (o.op, o.guard, o.dst, Nat.blt d n) = (Op.binOp .geq t x y t2, none, some d, true)) (hx : ev σ x = some (.o (nat1 p))) (hy : ev σ y = some (.o (nat1 q))) :
    St1 P n ops o σ (rd x ++ rd y) [.t d] ((.t d, .v (.o (bo1 (decide (q ≤ p))))) :: σ) := by
  simp only [Prod.mk.injEq] at h4
  exact St1.geq  h4.1 h4.2.1 h4.2.2.1 h4.2.2.2 hx hy
theorem St1.eq {x y : Operand} {p q : Int} {t t2 : TypeId} (h4 : (o.op, o.guard, o.dst, Nat.blt d n) = (Op.binOp .eql t x y t2, none, some d, true)) (hx : ev σ x = some (.o (nat1 p))) (hy : ev σ y = some (.o (nat1 q))) :
    St1 P n ops o σ (rd x ++ rd y) [.t d] ((.t d, .v (.o (bo1 (decide (p = q))))) :: σ) := by
  simp only [Prod.mk.injEq] at h4
  exact St1.eql  h4.1 h4.2.1 h4.2.2.1 h4.2.2.2 hx hy
theorem St1.ne {x y : Operand} {p q : Int} {t t2 : TypeId} (h4 : (o.op, o.guard, o.dst, Nat.blt d n) = (Op.binOp .neq t x y t2, none, some d, true)) (hx : ev σ x = some (.o (nat1 p))) (hy : ev σ y = some (.o (nat1 q))) :
    St1 P n ops o σ (rd x ++ rd y) [.t d] ((.t d, .v (.o (bo1 (!decide (p = q))))) :: σ) := by
  simp only [Prod.mk.injEq] at h4
  exact St1.neq  h4.1 h4.2.1 h4.2.2.1 h4.2.2.2 hx hy
theorem St1.nt {x : Operand} {t : TypeId} {b : Bool} (h4 : (o.op, o.guard, o.dst, Nat.blt d n) = (Op.unOp .not t x, none, some d, true)) (hx : ev σ x = some (.o (bo1 b))) :
    St1 P n ops o σ (rd x) [.t d] ((.t d, .v (.o (bo1 (!b)))) :: σ) := by
  simp only [Prod.mk.injEq] at h4
  exact St1.not  h4.1 h4.2.1 h4.2.2.1 h4.2.2.2 hx
theorem St1.l1 (m : Nat) {t : TypeId} {x : Operand} {c : D} {rest : List D} (h4 : (o.op, o.guard, o.dst, Nat.blt d n) = (Op.load t x, none, some d, true)) (hx : ev σ x = some (.o (.c (.ptr (c :: rest))))) (ht : tyL P t = some (false, m) := by kernel_rfl) :
    St1 P n ops o σ (rd x) [.t d] ((.t d, .v (.o (.c (.d c)))) :: σ) := by
  simp only [Prod.mk.injEq] at h4
  exact St1.loadP1 (m := m) h4.1 h4.2.1 h4.2.2.1 h4.2.2.2 ht hx
theorem St1.lN (m : Nat) {t : TypeId} {x : Operand} {cells : List D} (h4 : (o.op, o.guard, o.dst, Nat.blt d n) = (Op.load t x, none, some d, true)) (hx : ev σ x = some (.o (.c (.ptr cells)))) (hm : Nat.ble m cells.length = true) (ht : tyL P t = some (true, m) := by kernel_rfl) :
    St1 P n ops o σ (rd x) [.t d] ((.t d, .v (.o (ad (cells.take m)))) :: σ) := by
  simp only [Prod.mk.injEq] at h4
  exact St1.loadPN (m := m) h4.1 h4.2.1 h4.2.2.1 h4.2.2.2 ht hx hm
theorem St1.b1 (m : Nat) {t : TypeId} {x : Operand} {k sz sz' i j : Nat} {e : TypeId} {rows : List (List C)} {r : List C} {c : C} (h4 : (o.op, o.guard, o.dst, Nat.blt d n) = (Op.load t x, none, some d, true)) (hx : ev σ x = some (.o (.c (.box k sz i j)))) (hb : lk σ (.b k) = .b e sz' rows) (hsz : sz' = sz) (hi : rows[i]? = some r) (hj : r[j]? = some c) (ht : tyL P t = some (false, m) := by kernel_rfl) :
    St1 P n ops o σ (rd x ++ [.b k]) [.t d] ((.t d, .v (.o (.c c))) :: σ) := by
  simp only [Prod.mk.injEq] at h4
  exact St1.loadB1 (m := m) h4.1 h4.2.1 h4.2.2.1 h4.2.2.2 ht hx hb hsz hi hj
theorem St1.bN (m : Nat) {t : TypeId} {x : Operand} {k sz sz' i j : Nat} {e : TypeId} {rows : List (List C)} {r : List C} (h4 : (o.op, o.guard, o.dst, Nat.blt d n) = (Op.load t x, none, some d, true)) (hx : ev σ x = some (.o (.c (.box k sz i j)))) (hb : lk σ (.b k) = .b e sz' rows) (hsz : sz' = sz) (hi : rows[i]? = some r) (hj : Nat.ble (j + m) r.length = true) (ht : tyL P t = some (true, m) := by kernel_rfl) :
    St1 P n ops o σ (rd x ++ [.b k]) [.t d] ((.t d, .v (.o (.agg ((r.drop j).take m)))) :: σ) := by
  simp only [Prod.mk.injEq] at h4
  exact St1.loadBN (m := m) h4.1 h4.2.1 h4.2.2.1 h4.2.2.2 ht hx hb hsz hi hj
theorem St1.fP (off : Nat) (m : Nat) (r : Bool) {t : TypeId} {x : Operand} {f : Nat} {cells : List D} (h4 : (o.op, o.guard, o.dst, Nat.blt d n) = (Op.fieldAddr t x f, none, some d, true)) (hx : ev σ x = some (.o (.c (.ptr cells)))) (ht : tyF P t f = some (off, r, m + 1) := by kernel_rfl) :
    St1 P n ops o σ (rd x) [.t d] ((.t d, .v (.o (.c (.ptr (cells.drop off))))) :: σ) := by
  simp only [Prod.mk.injEq] at h4
  exact St1.fieldP (off := off) (m := m) (r := r) h4.1 h4.2.1 h4.2.2.1 h4.2.2.2 ht hx
theorem St1.fB (off : Nat) (m : Nat) (r : Bool) {t : TypeId} {x : Operand} {f k sz i j : Nat} {e : TypeId} {sz' : Nat} {rows : List (List C)} (h4 : (o.op, o.guard, o.dst, Nat.blt d n) = (Op.fieldAddr t x f, none, some d, true)) (hx : ev σ x = some (.o (.c (.box k sz i j)))) (hb : lk σ (.b k) = .b e sz' rows) (ht : tyF P t f = some (off, r, m + 1) := by kernel_rfl) :
    St1 P n ops o σ (rd x ++ [.b k]) [.t d] ((.t d, .v (.o (.c (.box k sz i (j + off))))) :: σ) := by
  simp only [Prod.mk.injEq] at h4
  exact St1.fieldB (off := off) (m := m) (r := r) h4.1 h4.2.1 h4.2.2.1 h4.2.2.2 ht hx hb
theorem St1.f1 (off : Nat) (m : Nat) {t : TypeId} {x : Operand} {f : Nat} {cs : List C} {c : C} (h4 : (o.op, o.guard, o.dst, Nat.blt d n) = (Op.field t x f, none, some d, true)) (hx : ev σ x = some (.o (.agg cs))) (hc : cs[off]? = some c) (ht : tyF P t f = some (off, false, m) := by kernel_rfl) :
    St1 P n ops o σ (rd x) [.t d] ((.t d, .v (.o (.c c))) :: σ) := by
  simp only [Prod.mk.injEq] at h4
  exact St1.field1 (off := off) (m := m) h4.1 h4.2.1 h4.2.2.1 h4.2.2.2 ht hx hc
theorem St1.fN (off : Nat) (m : Nat) {t : TypeId} {x : Operand} {f : Nat} {cs : List C} (h4 : (o.op, o.guard, o.dst, Nat.blt d n) = (Op.field t x f, none, some d, true)) (hx : ev σ x = some (.o (.agg cs))) (ht : tyF P t f = some (off, true, m) := by kernel_rfl) :
    St1 P n ops o σ (rd x) [.t d] ((.t d, .v (.o (.agg ((cs.drop off).take m)))) :: σ) := by
  simp only [Prod.mk.injEq] at h4
  exact St1.fieldN (off := off) (m := m) h4.1 h4.2.1 h4.2.2.1 h4.2.2.2 ht hx
theorem St1.xL (e : TypeId) (sz : Nat) (by' : Nat) {t : TypeId} {x y : Operand} {sz' i : Nat} {rows : List (List D)} {r : List D} {z : Int} (h4 : (o.op, o.guard, o.dst, Nat.blt d n) = (Op.indexAddr t x y, none, some d, true)) (hx : ev σ x = some (.o (.c (.d (.list sz' rows))))) (hsz : sz' = sz) (hy : ev σ y = some (.o (nat1 z))) (hz : z = (i : Int)) (hi : rows[i]? = some r := by first | exact map_at (by assumption) | rfl) (ht : tyS P t = some (e, sz, by') := by kernel_rfl) :
    St1 P n ops o σ (rd x ++ rd y) [.t d] ((.t d, .v (.o (.c (.ptr r)))) :: σ) := by
  simp only [Prod.mk.injEq] at h4
  exact St1.indexL (e := e) (sz := sz) (by' := by') h4.1 h4.2.1 h4.2.2.1 h4.2.2.2 ht hx hsz hy hz hi
theorem St1.xB (e : TypeId) (sz : Nat) (by' : Nat) {t e' : TypeId} {x y : Operand} {sz' sz2 i k m : Nat} {rows : List (List C)} {z : Int} (h4 : (o.op, o.guard, o.dst, Nat.blt d n) = (Op.indexAddr t x y, none, some d, true)) (hx : ev σ x = some (.o (.c (.own k sz' m)))) (hsz : sz' = sz) (hb : lk σ (.b k) = .b e' sz2 rows) (hy : ev σ y = some (.o (nat1 z))) (hz : z = (i : Int)) (hi : i < m := by omega) (ht : tyS P t = some (e, sz, by') := by kernel_rfl) :
    St1 P n ops o σ ((rd x ++ rd y) ++ [.b k]) [.t d] ((.t d, .v (.o (.c (.box k sz' i 0)))) :: σ) := by
  simp only [Prod.mk.injEq] at h4
  exact St1.indexB (e := e) (sz := sz) (by' := by') h4.1 h4.2.1 h4.2.2.1 h4.2.2.2 ht hx hsz hb hy hz hi
theorem St1.ln (e : TypeId) (m : Nat) (by' : Nat) {t : TypeId} {x : Operand} {sz l : Nat} {rows : List (List D)} {ts : Array TypeId} (h4 : (o.op, o.guard, o.dst, Nat.blt d n) = (Op.call { callee := .builtin .len, args := #[x], argTypes := ts }, none, some d, true)) (hts : ts = #[t]) (hx : ev σ x = some (.o (.c (.d (.list sz rows))))) (hl : rows.length = l := by first | exact List.length_map _ | rfl) (ht : tyS P t = some (e, m, by') := by kernel_rfl) :
    St1 P n ops o σ (rd x) [.t d] ((.t d, .v (.o (nat1 (l : Nat)))) :: σ) := by
  simp only [Prod.mk.injEq] at h4
  exact St1.lenL (e := e) (m := m) (by' := by') h4.1 h4.2.1 h4.2.2.1 h4.2.2.2 hts ht hx hl
theorem St1.lB (e : TypeId) (m : Nat) (by' : Nat) {t e' : TypeId} {x : Operand} {sz sz' k l : Nat} {rows : List (List C)} {ts : Array TypeId} (h4 : (o.op, o.guard, o.dst, Nat.blt d n) = (Op.call { callee := .builtin .len, args := #[x], argTypes := ts }, none, some d, true)) (hts : ts = #[t]) (hx : ev σ x = some (.o (.c (.own k sz l)))) (hb : lk σ (.b k) = .b e' sz' rows) (ht : tyS P t = some (e, m, by') := by kernel_rfl) :
    St1 P n ops o σ (rd x ++ [.b k]) [.t d] ((.t d, .v (.o (nat1 (l : Nat)))) :: σ) := by
  simp only [Prod.mk.injEq] at h4
  exact St1.lenB (e := e) (m := m) (by' := by') h4.1 h4.2.1 h4.2.2.1 h4.2.2.2 hts ht hx hb
theorem St1.ex {x : Operand} {i : Nat} {xs : List V1} {y : V1} (h4 : (o.op, o.guard, o.dst, Nat.blt d n) = (Op.extract x i, none, some d, true)) (hx : ev σ x = some (.tup xs)) (hi : xs[i]? = some y) :
    St1 P n ops o σ (rd x) [.t d] ((.t d, .v (.o y)) :: σ) := by
  simp only [Prod.mk.injEq] at h4
  exact St1.extract  h4.1 h4.2.1 h4.2.2.1 h4.2.2.2 hx hi
theorem St1.nP {x : Operand} {cells : List D} (h4 : (o.op, o.guard, o.dst, Nat.blt d n) = (Op.nilCheck x, none, some d, true)) (hx : ev σ x = some (.o (.c (.ptr cells)))) :
    St1 P n ops o σ (rd x) [.t d] ((.t d, .v (.o (.c (.ptr cells)))) :: σ) := by
  simp only [Prod.mk.injEq] at h4
  exact St1.nilP  h4.1 h4.2.1 h4.2.2.1 h4.2.2.2 hx
theorem St1.nB {x : Operand} {k sz i j : Nat} {e : TypeId} {sz' : Nat} {rows : List (List C)} (h4 : (o.op, o.guard, o.dst, Nat.blt d n) = (Op.nilCheck x, none, some d, true)) (hx : ev σ x = some (.o (.c (.box k sz i j)))) (hb : lk σ (.b k) = .b e sz' rows) :
    St1 P n ops o σ (rd x ++ [.b k]) [.t d] ((.t d, .v (.o (.c (.box k sz i j)))) :: σ) := by
  simp only [Prod.mk.injEq] at h4
  exact St1.nilB  h4.1 h4.2.1 h4.2.2.1 h4.2.2.2 hx hb
theorem St1.al (k' : Nat) (zs : List Value) {P : Program} {n : Nat} {ops : Array Oper} {o : Oper} {σ : St} {d : Nat} {t : TypeId} (h4 : (o.op, o.guard, o.dst, Nat.blt d n) = (Op.alloc t, none, some d, true)) (hz : zs.all (·.oneCell') = true) (hf : (lk σ (.u k'), Nat.ble 100 k') = (.no, true)) (ht : tyZ P t = some zs := by kernel_rfl) :
    St1 P n ops o σ [.u k'] [.t d, .u k', .b k', .b k'] ((.t d, .v (.o (.c (.box k' zs.length 0 0)))) :: (.u k', .u) :: (.b k', .b t zs.length [zs.map fun z => C.d (.val z)]) :: (.b k', .no) :: σ) := by
  simp only [Prod.mk.injEq] at h4 hf
  exact St1.alloc h4.1 h4.2.1 h4.2.2.1 h4.2.2.2 ht hz hf.1 hf.2
theorem St1.gF {P : Program} {n : Nat} {ops : Array Oper} {o : Oper} {σ : St} {d : Nat} {i : Nat} {b c : Bool} {t : Tmp} (h4 : (o.guard, o.dst, (ops[i]?).bind (·.dst), Nat.blt t n, Nat.blt d n) = (some (i, b), some d, some t, true, true)) (hv : (lk σ (.t t)) = .v (.o (bo1 c))) (hc : c = !b) : St1 P n ops o σ [.t t] [.t d] ((.t d, .v (.tup [])) :: σ) := by
  simp only [Prod.mk.injEq] at h4
  exact St1.guardF h4.1 h4.2.1 h4.2.2.1 h4.2.2.2.1 h4.2.2.2.2 hv hc
theorem St1.gU {P : Program} {n : Nat} {ops : Array Oper} {o : Oper} {σ : St} {d : Nat} {i : Nat} {b : Bool} {t : Tmp} (h4 : (o.guard, o.dst, (ops[i]?).bind (·.dst), Nat.blt t n, Nat.blt d n) = (some (i, b), some d, some t, true, true)) (hv : (lk σ (.t t)) = .v (.tup [])) : St1 P n ops o σ [.t t] [.t d] ((.t d, .v (.tup [])) :: σ) := by
  simp only [Prod.mk.injEq] at h4
  exact St1.guardU h4.1 h4.2.1 h4.2.2.1 h4.2.2.2.1 h4.2.2.2.2 hv
theorem St1.gT {P : Program} {n : Nat} {ops : Array Oper} {o : Oper} {σ : St} {i : Nat} {b c : Bool} {t : Tmp} {R W : List Res} {σ' : St} (h4 : (o.guard, (ops[i]?).bind (·.dst), Nat.blt t n) = (some (i, b), some t, true)) (hv : lk σ (.t t) = .v (.o (bo1 c))) (hc : c = b) (h : St1 P n ops { o with guard := none } σ R W σ') : St1 P n ops o σ (.t t :: R) W σ' := by
  simp only [Prod.mk.injEq] at h4
  exact St1.guardT h4.1 h4.2.1 h4.2.2 hv hc h
theorem St1.sT (m : Nat) (rw' : Bool) {P : Program} {n : Nat} {ops : Array Oper} {o : Oper} {σ : St} {t : TypeId} {x y : Operand} {k sz sz' i j : Nat} {e : TypeId} {rows : List (List C)} {r : List C} {v : V1} (h4 : (o.op, o.guard, o.dst) = (Op.store t x y, none, none)) (hx : ev σ x = some (.o (.c (.box k sz i j)))) (hb : lk σ (.b k) = .b e sz' rows) (hsz : sz' = sz) (hi : rows[i]? = some r) (hy : ev σ y = some (.o v)) (hj : (Nat.ble (j + m) r.length, Nat.beq v.cells.length m) = (true, true)) (ht : tyL P t = some (rw', m) := by kernel_rfl) :
    St1 P n ops o σ ((rd x ++ rd y) ++ [.b k]) [.b k] ((.b k, .b e sz' (rows.set i (place1 r j v.cells))) :: σ) := by
  simp only [Prod.mk.injEq] at h4 hj
  exact St1.store h4.1 h4.2.1 h4.2.2 ht hx hb hsz hi hj.1 hy hj.2
theorem St1.cP (xs : List Operand) {P : Program} {n : Nat} {ops : Array Oper} {o : Oper} {σ : St} {d : Nat} {fo : Operand} {ar : Array Operand} {ts : Array TypeId} {vs : List V1} {f : FuncId} {cap : List (List D)} {y : V} (h4 : (o.op, o.guard, o.dst, Nat.blt d n) = (Op.call { callee := .value fo, args := ar, argTypes := ts }, none, some d, true)) (has : ar = xs.toArray) (hfo : ev σ fo = some (.o (.c (.fn f cap)))) (hx : evL σ xs = some vs) (hF : Fn P f [] (vs ++ cap.map fun c => .c (.ptr c)) y [])
    (hy : y.refs = []) (hcall : callable P f = true := by kernel_rfl) : St1 P n ops o σ (rd fo ++ rdL xs) [.t d] ((.t d, .v y) :: σ) := by
  simp only [Prod.mk.injEq] at h4
  exact St1.callP h4.1 h4.2.1 h4.2.2.1 h4.2.2.2 has hfo hcall hx hF hy
theorem St1.bu (pl : List (Nat × Operand)) (places : List (Nat × Nat)) (zs : List Value) {P : Program} {n : Nat} {ops : Array Oper} {o : Oper} {σ : St} {d : Nat} {t : TypeId} {parts : Array (Nat × Operand)} {ps : List (Nat × V1)} {cs : List C} (h4 : (o.op, o.guard, o.dst, Nat.blt d n) = (Op.build t parts, none, some d, true)) (hpl : parts = pl.toArray) (hz : zs.all (·.oneCell') = true) (hp : evP σ pl = some ps) (hf : fillA (places[·]?) (zs.map fun z => C.d (.val z)) ps = some cs) (ht : tyB P t = some (places, zs) := by kernel_rfl) :
    St1 P n ops o σ (rdP pl) [.t d] ((.t d, .v (.o (.agg cs))) :: σ) := by
  simp only [Prod.mk.injEq] at h4
  exact St1.build h4.1 h4.2.1 h4.2.2.1 h4.2.2.2 hpl ht hz hp hf
theorem St1.li (e : TypeId) (sz m : Nat) (xs : List Operand) {P : Program} {n : Nat} {ops : Array Oper} {o : Oper} {σ : St} {d : Nat} {t : TypeId} {parts : Array (Nat × Operand)} {vs : List V1} {rows : List (List D)} (h4 : (o.op, o.guard, o.dst, Nat.blt d n) = (Op.buildSlice t (m + 1) parts, none, some d, true)) (hpl : parts = ((xs.zipIdx 0).map fun x => (x.2, x.1)).toArray)
    (hx : evL σ xs = some vs) (hl : (Nat.beq vs.length (m + 1) && Nat.ble m 1000 && Nat.ble sz 1000) = true) (hr : rowsOk (sz + 1) vs = true) (hds : datR vs = some rows) (ht : tyE P t = some (e, sz + 1, true) := by kernel_rfl) : St1 P n ops o σ (rdL xs) [.t d] ((.t d, .v (.o (.c (.d (.list (sz + 1) rows))))) :: σ) := by
  simp only [Prod.mk.injEq] at h4
  exact St1.lit h4.1 h4.2.1 h4.2.2.1 h4.2.2.2 hpl ht hx hl hr hds
end

/-! ### A state told anew: short forms -/
section
variable {σ : St} {inv : Inv}
theorem Vto.dt {v v' : V} (h : v = v' := by first | rfl | exact congrArg (fun z => V.o (nat1 z)) (by omega) | (simp; done) | omega) (hr : v.refs = [] := by rfl) : Vto σ inv v v' := .dat _ _ h hr
theorem Cto.dt {x y : D} (h : x = y := by first | rfl | exact congrArg (fun z => D.val (.int .i64 z)) (by omega) | (simp; done) | omega) : Cto σ inv (.d x) (.d y) := .d _ _ h
theorem Cto.ow {k k' sz n m : Nat} (hn : n = m := by first | rfl | omega | (simp; done) | (simp; omega)) (h : (k', k) ∈ inv := by first | decide | simp) : Cto σ inv (.own k sz n) (.own k' sz m) := .own _ _ _ _ _ h hn
theorem Cto.bx {k k' sz i j : Nat} (h : (k', k) ∈ inv := by first | decide | simp) : Cto σ inv (.box k sz i j) (.box k' sz i j) := .box _ _ _ _ _ _ h rfl
theorem Cto.fz {k sz n : Nat} {e : TypeId} {rows : List (List C)} {rows' : List (List D)} (h : lk σ (.b k) = .b e sz rows) (hr : rows = dR rows' := by first | rfl | simp [dR]) (hn : n = rows'.length := by first | rfl | (simp; done) | omega | (simp; omega)) (hs : n ≤ 17592186044416 := by first | (simp; done) | (simp; omega) | omega)
    (hk : (Nat.ble 100 k && Nat.ble k 999) = true := by rfl) (hi : (inv.all fun p => !Nat.beq p.2 k) = true := by rfl) : Cto σ inv (.own k sz n) (.d (.list sz rows')) := .frz _ _ _ _ _ _ h hr hk hi hn hs
theorem Rto.dt {rows rows' : List (List C)} {l : List (List D)} (h' : rows' = dR l) (h : rows = dR l := by first | rfl | simp [dR]) : Rto σ inv rows rows' := .dat _ _ _ h h'
theorem kb {k' : Nat} {e : TypeId} {sz : Nat} {rows' : List (List C)} (k : Nat) {rows : List (List C)} (hl : lk σ (.b k) = .b e sz rows) (hr : Rto σ inv rows rows') (hm : (k', k) ∈ inv := by first | decide | simp) : ∃ k rows, (k', k) ∈ inv ∧ lk σ (.b k) = .b e sz rows ∧ Rto σ inv rows rows' := ⟨k, rows, hm, hl, hr⟩
theorem ks {t : Nat} {x' x : V} (h : lk σ (.t t) = .v x) (hv : Vto σ inv x x') : ∃ x, lk σ (.t t) = .v x ∧ Vto σ inv x x' := ⟨x, h, hv⟩
theorem kl_k {I : Nat → St → Prop} {m m' : Nat} {K : Exit → St → Prop} {σ2 : St} (inv : Inv) (hI : I m' σ2) (hk : KeepOk σ inv σ2) (hm : m' < m := by omega) (hi : invOk inv = true := by rfl) (hu : usedOk σ2 inv = true := by rfl) : kloop I m K .normal σ := ⟨m', σ2, hm, Wk.keep inv hi hu hk, hI⟩
theorem ACode.loopK {P : Program} {n : Nat} {b : Code} {K : Exit → St → Prop} (I : Nat → St → Prop) {m : Nat} {σ' : St} (inv : Inv) (hI : I m σ') (hk : KeepOk σ inv σ') (h : ∀ m σ, I m σ → ACode P n b (kloop I m K) σ) (hi : invOk inv = true := by rfl) (hu : usedOk σ' inv = true := by rfl) : ACode P n (.loop b) K σ :=
  ACode.wk (Wk.keep inv hi hu hk) (ACode.loop I m hI h)
theorem ACode.keep {P : Program} {n : Nat} {c : Code} {K : Exit → St → Prop} (σ' : St) (inv : Inv) (hk : KeepOk σ inv σ') (h : ACode P n c K σ') (hi : invOk inv = true := by rfl) (hu : usedOk σ' inv = true := by rfl) : ACode P n c K σ := ACode.wk (Wk.keep inv hi hu hk) h
end
/-! ### Branches on what is told as a proposition -/
section
variable {P : Program} {n t : Nat} {p : Prop} [Decidable p] {b : Bool} {x y : Code} {K : Exit → St → Prop} {σ : St}
theorem ACode.cD (hc : lk σ (.t t) = .v (.o (bo1 (decide p)))) (hx : p → ACode P n x K σ) (hy : ¬ p → ACode P n y K σ) : ACode P n (.cond (.tmp t) x y) K σ := ACode.condT hc (fun h => hx (of_decide_eq_true h)) (fun h => hy (of_decide_eq_false h))
theorem ACode.cN (hc : lk σ (.t t) = .v (.o (bo1 (!b)))) (hx : b = false → ACode P n x K σ) (hy : b = true → ACode P n y K σ) : ACode P n (.cond (.tmp t) x y) K σ := ACode.condT hc (fun h => hx (by simpa using h)) (fun h => hy (by simpa using h))
theorem ACode.cND (hc : lk σ (.t t) = .v (.o (bo1 (!decide p)))) (hx : ¬ p → ACode P n x K σ) (hy : p → ACode P n y K σ) : ACode P n (.cond (.tmp t) x y) K σ := ACode.condT hc (fun h => hx (by simpa using h)) (fun h => hy (by simpa using h))
variable {ops : Array Oper} {o : Oper} {l : List Oper} {acc : List (List Res × List Res × St)} {G : List (List Res × List Res × St) → St → Prop} {K : Exit → St → Prop}
theorem AOps.cD {K : St → Prop} (t : Nat) (hv : lk σ (.t t) = .v (.o (bo1 (decide p)))) (h1 : p → AOps P n ops l K ((.t t, .v (.o (bo1 true))) :: σ)) (h0 : ¬ p → AOps P n ops l K ((.t t, .v (.o (bo1 false))) :: σ)) : AOps P n ops l K σ := AOps.cases t _ hv (fun h => h1 (of_decide_eq_true h)) (fun h => h0 (of_decide_eq_false h))
theorem AOps.cND {K : St → Prop} (t : Nat) (hv : lk σ (.t t) = .v (.o (bo1 (!decide p)))) (h1 : ¬ p → AOps P n ops l K ((.t t, .v (.o (bo1 true))) :: σ)) (h0 : p → AOps P n ops l K ((.t t, .v (.o (bo1 false))) :: σ)) : AOps P n ops l K σ := AOps.cases t _ hv (fun h => h1 (by simpa using h)) (fun h => h0 (by simpa using h))
theorem RunK.cD (t : Nat) (hv : lk σ (.t t) = .v (.o (bo1 (decide p)))) (h1 : p → RunK P n ops (o :: l) ((.t t, .v (.o (bo1 true))) :: σ) acc G) (h0 : ¬ p → RunK P n ops (o :: l) ((.t t, .v (.o (bo1 false))) :: σ) acc G) : RunK P n ops (o :: l) σ acc G := RunK.cases t _ hv (fun h => h1 (of_decide_eq_true h)) (fun h => h0 (of_decide_eq_false h))
theorem RunK.cND (t : Nat) (hv : lk σ (.t t) = .v (.o (bo1 (!decide p)))) (h1 : ¬ p → RunK P n ops (o :: l) ((.t t, .v (.o (bo1 true))) :: σ) acc G) (h0 : p → RunK P n ops (o :: l) ((.t t, .v (.o (bo1 false))) :: σ) acc G) : RunK P n ops (o :: l) σ acc G := RunK.cases t _ hv (fun h => h1 (by simpa using h)) (fun h => h0 (by simpa using h))
end
theorem St1.cO (xs : List Operand) (inv : Inv) {P : Program} {n : Nat} {ops : Array Oper} {o : Oper} {σ : St} {d : Nat} {fo : Operand} {ar : Array Operand} {ts : Array TypeId} {vs : List V1} {f : FuncId} {cap : List (List D)} {hb hb' : St} {args : List V1} {y : V} {out : St}
    (h4 : (o.op, o.guard, o.dst, Nat.blt d n) = (Op.call { callee := .value fo, args := ar, argTypes := ts }, none, some d, true)) (has : ar = xs.toArray) (hfo : ev σ fo = some (.o (.c (.fn f cap)))) (hx : evL σ xs = some vs) (hF : Fn P f hb args y hb')
    (hargs : args.map (V1.ren (asc inv)) = vs ++ cap.map fun c => .c (.ptr c)) (hbox : hbIn σ inv hb) (hfl : flatS hb) (hfl' : flatS hb') (hHB' : HB hb') (hout : outS inv hb' = out) (hnum : numOk σ inv hb hb' = true := by rfl) (hpr : pairs hb' = true := by rfl) (hy : (y.refs.all fun k => match lk hb' (.u k) with | .u => true | _ => false) = true := by rfl) (hcall : callable P f = true := by kernel_rfl) :
    St1 P n ops o σ ((rd fo ++ rdL xs) ++ (keys out ++ keys (killS inv hb))) (.t d :: (keys out ++ keys (killS inv hb))) ((.t d, .v (y.ren (asc inv))) :: (out ++ (killS inv hb ++ σ))) := by
  simp only [Prod.mk.injEq] at h4
  exact St1.callO inv h4.1 h4.2.1 h4.2.2.1 h4.2.2.2 has hfo hcall hx hF hargs hbox hnum hfl hfl' hHB' hpr hy hout
theorem St1.cX (xs : List Operand) (inv : Inv) {P : Program} {n : Nat} {ops : Array Oper} {o : Oper} {σ : St} {d : Nat} {fo : Operand} {ar : Array Operand} {ts : Array TypeId} {vs : List V1} {fc : C} {f : FuncId} {ex : List V1} {hb hb' : St} {args : List V1} {y : V} {out : St}
    (h4 : (o.op, o.guard, o.dst, Nat.blt d n) = (Op.call { callee := .value fo, args := ar, argTypes := ts }, none, some d, true)) (has : ar = xs.toArray) (hfo : ev σ fo = some (.o (.c fc))) (hfx : fnx fc = some (f, ex)) (hx : evL σ xs = some vs) (hF : Fn P f hb args y hb')
    (hargs : args.map (V1.ren (asc inv)) = vs ++ ex) (hbox : hbIn σ inv hb) (hfl : flatS hb) (hfl' : flatS hb') (hHB' : HB hb') (hout : outS inv hb' = out) (hnum : numOk σ inv hb hb' = true := by rfl) (hpr : pairs hb' = true := by rfl) (hy : (y.refs.all fun k => match lk hb' (.u k) with | .u => true | _ => false) = true := by rfl) (hcall : callable P f = true := by kernel_rfl) :
    St1 P n ops o σ ((rd fo ++ rdL xs) ++ (keys out ++ keys (killS inv hb))) (.t d :: (keys out ++ keys (killS inv hb))) ((.t d, .v (y.ren (asc inv))) :: (out ++ (killS inv hb ++ σ))) := by
  simp only [Prod.mk.injEq] at h4
  subst hout
  exact St1.callX inv h4.1 h4.2.1 h4.2.2.1 h4.2.2.2 has hfo hfx hcall hx hF hargs hbox hnum hfl hfl' hHB' hpr hy
theorem St1.cR (xs : List Operand) (k : Nat) {P : Program} {n : Nat} {ops : Array Oper} {o : Oper} {σ : St} {d : Nat} {fo : Operand} {ar : Array Operand} {ts : Array TypeId} {vs : List V1} {f : FuncId} {cap : List (List D)} {bs : List Int} {p q : Nat} {args : List V1} {y : V}
    (h4 : (o.op, o.guard, o.dst, Nat.blt d n) = (Op.call { callee := .value fo, args := ar, argTypes := ts }, none, some d, true)) (has : ar = xs.toArray) (hfo : ev σ fo = some (.o (.c (.fn f cap)))) (hx : evL σ xs = some vs) (hF : Fn P f (hbR bs p) args y (hbR bs q))
    (hargs : args.map (V1.ren (asc [(0, k)])) = vs ++ cap.map fun c => .c (.ptr c)) (hbox : hbIn σ [(0, k)] (hbR bs p)) (hnum : numOk σ [(0, k)] (hbR bs p) (hbR bs q) = true := by rfl) (hy : (y.refs.all fun k => match lk (hbR bs q) (.u k) with | .u => true | _ => false) = true := by rfl) (hcall : callable P f = true := by kernel_rfl) :
    St1 P n ops o σ ((rd fo ++ rdL xs) ++ (keys [(.b (asc [(0, k)] 0), .b 113 2 (dR [rRd bs q])), (.u (asc [(0, k)] 0), .u)] ++ keys (killS [(0, k)] (hbR bs p)))) (.t d :: (keys [(.b (asc [(0, k)] 0), .b 113 2 (dR [rRd bs q])), (.u (asc [(0, k)] 0), .u)] ++ keys (killS [(0, k)] (hbR bs p)))) ((.t d, .v (y.ren (asc [(0, k)]))) :: ([(.b (asc [(0, k)] 0), .b 113 2 (dR [rRd bs q])), (.u (asc [(0, k)] 0), .u)] ++ (killS [(0, k)] (hbR bs p) ++ σ))) := by
  simp only [Prod.mk.injEq] at h4
  exact St1.callO [(0, k)] h4.1 h4.2.1 h4.2.2.1 h4.2.2.2 has hfo hcall hx hF hargs hbox hnum (hbR_flat _ _) (hbR_flat _ _) (hbR_HB _ _) rfl hy outS_one
end Go.Proofs.Ytigdfdhjnadieaa

/- Small laws on rows of data; the affine expressions of the draws; no condition. -/
namespace Go.Proofs.Ytigdfdhjnadieaa
set_option linter.unusedVariables false
set_option linter.unusedSimpArgs false
open Go.RowKit

theorem dR_at {rows : List (List D)} {i : Nat} {r : List D} (h : rows[i]? = some r) : (dR rows)[i]? = some (r.map C.d) := by rw [dR, List.getElem?_map, h]; rfl
theorem dR_setI (l : List Int) (i : Nat) (x y : Int) : (dR (l.map rI)).set i (place1 ((rI x).map C.d) 0 (nat1 y).cells) = dR ((l.set i y).map rI) := by
  unfold dR
  rw [List.map_set, List.map_set]
  rfl
theorem dR_app (a b : List (List D)) : dR a ++ b.map (·.map C.d) = dR (a ++ b) := by rw [dR, dR, List.map_append]
theorem dR_len (a : List (List D)) : (dR a).length = a.length := by rw [dR, List.length_map]
theorem mulb {x y : Int} (hx : -1000 ≤ x ∧ x ≤ 1000) (hy : -1000 ≤ y ∧ y ≤ 1000) : -1000000 ≤ x * y ∧ x * y ≤ 1000000 := by
  have h1 : 0 ≤ (1000 - x) * (1000 + y) := Int.mul_nonneg (by omega) (by omega)
  have h2 : 0 ≤ (1000 + x) * (1000 - y) := Int.mul_nonneg (by omega) (by omega)
  have h3 : 0 ≤ (1000 - x) * (1000 - y) := Int.mul_nonneg (by omega) (by omega)
  have h4 : 0 ≤ (1000 + x) * (1000 + y) := Int.mul_nonneg (by omega) (by omega)
  simp only [Int.sub_mul, Int.add_mul, Int.mul_sub, Int.mul_add] at h1 h2 h3 h4
  omega
theorem dR_take {α : Type} (f : α → List D) {l : List α} {k : Nat} {x : α} (h : l[k]? = some x) : dR ((l.take k).map f) ++ [f x].map (·.map C.d) = dR ((l.take (k + 1)).map f) := by
  rw [dR_app, List.take_add_one, h, List.map_append]; rfl
theorem dR_take1 {α : Type} (f : α → List D) {l : List α} {x : α} (h : l[0]? = some x) : [f x].map (·.map C.d) = dR ((l.take 1).map f) := by
  rw [List.take_one, List.head?_eq_getElem?, h]; rfl
def cmbTo (a : List Int) (x : Int) (b : List Int) (y : Int) (j : Nat) : List Int := (List.range j).map fun i => x * a.getD i 0 + y * b.getD i 0
def cmbA (a : Aff) (x : Int) (b : Aff) (y : Int) : Aff := (cmbTo a.1 x b.1 y 4, x * a.2 + y * b.2)
def zA : Aff := ([0, 0, 0, 0], 0)
def cA (n : Int) : Aff := ([0, 0, 0, 0], n)
def varA (v : Nat) : Aff := (([0, 0, 0, 0] : List Int).set v 1, 0)
end Go.Proofs.Ytigdfdhjnadieaa

/- Constants, variables, sums; condition: small numbers. -/
namespace Go.Proofs.Ytigdfdhjnadieaa
set_option linter.unusedVariables false
set_option linter.unusedSimpArgs false
open Go.RowKit

set_option maxRecDepth 100000 in
set_option maxHeartbeats 1600000 in
theorem l1Zero_own  : Fn Try.prog 108 [] [] (.o (.agg [.own 101 1 4, .d (dI 0)])) [(.b 101, .b 3 1 (dR (([0, 0, 0, 0] : List Int).map rI))), (.u 101, .u)] := by
  refine Fn.of_code Try.func108 rfl rfl HB.nil rfl rfl HB.nil.data rfl (one_num rfl) ?_
  refine ACode.seq ?_
  refine ACode.region ?_
  refine .cons (.al 100 [.slice none 0 0, .int .i64 0] rfl rfl rfl) ?_
  refine .nil ?_
  refine ks_n ?_
  refine ACode.seq ?_
  refine ACode.region ?_
  refine .cons (St1.litB (k' := 101) (e := 3) (sz := 0) (m := 3) (xs := [.const (.int .i64 (0)), .const (.int .i64 (0)), .const (.int .i64 (0)), .const (.int .i64 (0))]) rfl rfl rfl rfl rfl (by kernel_rfl) rfl rfl rfl rfl rfl) ?_
  refine .cons (.bu [(0, .tmp 1)] [(0, 1), (1, 1)] [.slice none 0 0, .int .i64 0] rfl rfl rfl rfl rfl) ?_
  refine .cons (.sT 2 true rfl rfl rfl rfl rfl rfl rfl) ?_
  refine .nil ?_
  refine ks_n ?_
  refine ACode.ret ?_
  refine kf_wret [(.t 0, .v (.o (.c (.box 100 2 0 0)))), (.b 101, .b 3 1 (dR (([0, 0, 0, 0] : List Int).map rI))), (.u 101, .u), (.b 100, .b 28 2 [[.own 101 1 (4), .d (dI (0))]]), (.u 100, .u)] (Wk.keep [(100, 100), (101, 101)] rfl rfl ⟨ks rfl (.c .bx), kb 101 rfl (.dt rfl), kb 100 rfl (.cons (.cons .ow (.cons .dt Ctos.nil)) .nil), trivial⟩) rfl ?_ (one_box rfl)
  rfl

set_option maxRecDepth 100000 in
set_option maxHeartbeats 1600000 in
theorem l1Zero_fn  : Fn Try.prog 108 [] [] (.o (ad (rA zA))) [] := by
  refine Fn.code0 Try.func108 rfl rfl rfl rfl ?_
  refine ACode.seq ?_
  refine ACode.region ?_
  refine .cons (.al 100 [.slice none 0 0, .int .i64 0] rfl rfl rfl) ?_
  refine .nil ?_
  refine ks_n ?_
  refine ACode.seq ?_
  refine ACode.region ?_
  refine .cons (St1.litB (k' := 101) (e := 3) (sz := 0) (m := 3) (xs := [.const (.int .i64 (0)), .const (.int .i64 (0)), .const (.int .i64 (0)), .const (.int .i64 (0))]) rfl rfl rfl rfl rfl (by kernel_rfl) rfl rfl rfl rfl rfl) ?_
  refine .cons (.bu [(0, .tmp 1)] [(0, 1), (1, 1)] [.slice none 0 0, .int .i64 0] rfl rfl rfl rfl rfl) ?_
  refine .cons (.sT 2 true rfl rfl rfl rfl rfl rfl rfl) ?_
  refine .nil ?_
  refine ks_n ?_
  refine ACode.ret ?_
  refine kf_wret [(.t 0, .v (.o (.c (.box 100 2 0 0)))), (.b 100, .b 28 2 [[.d (dIs (([0, 0, 0, 0] : List Int))), .d (dI (0))]]), (.u 100, .u)] (Wk.keep [(100, 100)] rfl rfl ⟨ks rfl (.c .bx), kb 100 rfl (.cons (.cons (.fz rfl) (.cons .dt Ctos.nil)) .nil), trivial⟩) rfl ?_ nobox
  rfl

set_option maxRecDepth 100000 in
set_option maxHeartbeats 1600000 in
theorem l1Const_own (n : Int) : Fn Try.prog 96 [] [nat1 n] (.o (.agg [.own 101 1 4, .d (dI n)])) [(.b 101, .b 3 1 (dR (([0, 0, 0, 0] : List Int).map rI))), (.u 101, .u)] := by
  refine Fn.of_code Try.func96 rfl rfl HB.nil rfl rfl HB.nil.data rfl (one_num rfl) ?_
  refine ACode.seq ?_
  refine ACode.region ?_
  refine .cons (.al 102 [.slice none 0 0, .int .i64 0] rfl rfl rfl) ?_
  refine .nil ?_
  refine ks_n ?_
  refine ACode.seq ?_
  refine ACode.region ?_
  refine .cons (.cO [] [(101, 104)] rfl rfl rfl rfl (l1Zero_own) rfl trivial flatS.nil (flatS.nil.cons rfl) HB.nil.data outS_one) ?_
  refine .cons (.al 103 [.slice none 0 0, .int .i64 0] rfl rfl rfl) ?_
  refine .cons (.sT 2 true rfl rfl rfl rfl rfl rfl rfl) ?_
  refine .nil ?_
  refine ks_n ?_
  refine ACode.seq ?_
  refine ACode.region ?_
  refine .cons (.mv rfl rfl) ?_
  refine .cons (.fB 1 0 false rfl rfl rfl) ?_
  refine .cons (.sT 1 false rfl rfl rfl rfl rfl rfl rfl) ?_
  refine .nil ?_
  refine ks_n ?_
  refine ACode.seq ?_
  refine ACode.region ?_
  refine .cons (.bN 2 rfl rfl rfl rfl rfl rfl) ?_
  refine .cons (.sT 2 true rfl rfl rfl rfl rfl rfl rfl) ?_
  refine .nil ?_
  refine ks_n ?_
  refine ACode.ret ?_
  refine kf_wret [(.t 2, .v (.o (.c (.box 100 2 0 0)))), (.b 101, .b 3 1 (dR (([0, 0, 0, 0] : List Int).map rI))), (.u 101, .u), (.b 100, .b 28 2 [[.own 101 1 (4), .d (dI (n))]]), (.u 100, .u)] (Wk.keep [(100, 102), (101, 104)] rfl rfl ⟨ks rfl (.c .bx), kb 104 rfl (.dt rfl), kb 102 rfl (.cons (.cons .ow (.cons .dt Ctos.nil)) .nil), trivial⟩) rfl ?_ (one_box rfl)
  rfl

set_option maxRecDepth 100000 in
set_option maxHeartbeats 1600000 in
theorem l1Const_fn (n : Int) : Fn Try.prog 96 [] [nat1 n] (.o (ad (rA (cA n)))) [] := by
  refine Fn.code0 Try.func96 rfl rfl rfl rfl ?_
  refine ACode.seq ?_
  refine ACode.region ?_
  refine .cons (.al 102 [.slice none 0 0, .int .i64 0] rfl rfl rfl) ?_
  refine .nil ?_
  refine ks_n ?_
  refine ACode.seq ?_
  refine ACode.region ?_
  refine .cons (.cO [] [(101, 104)] rfl rfl rfl rfl (l1Zero_own) rfl trivial flatS.nil (flatS.nil.cons rfl) HB.nil.data outS_one) ?_
  refine .cons (.al 103 [.slice none 0 0, .int .i64 0] rfl rfl rfl) ?_
  refine .cons (.sT 2 true rfl rfl rfl rfl rfl rfl rfl) ?_
  refine .nil ?_
  refine ks_n ?_
  refine ACode.seq ?_
  refine ACode.region ?_
  refine .cons (.mv rfl rfl) ?_
  refine .cons (.fB 1 0 false rfl rfl rfl) ?_
  refine .cons (.sT 1 false rfl rfl rfl rfl rfl rfl rfl) ?_
  refine .nil ?_
  refine ks_n ?_
  refine ACode.seq ?_
  refine ACode.region ?_
  refine .cons (.bN 2 rfl rfl rfl rfl rfl rfl) ?_
  refine .cons (.sT 2 true rfl rfl rfl rfl rfl rfl rfl) ?_
  refine .nil ?_
  refine ks_n ?_
  refine ACode.ret ?_
  refine kf_wret [(.t 2, .v (.o (.c (.box 100 2 0 0)))), (.b 100, .b 28 2 [[.d (dIs (([0, 0, 0, 0] : List Int))), .d (dI (n))]]), (.u 100, .u)] (Wk.keep [(100, 102)] rfl rfl ⟨ks rfl (.c .bx), kb 102 rfl (.cons (.cons (.fz rfl) (.cons .dt Ctos.nil)) .nil), trivial⟩) rfl ?_ nobox
  rfl

set_option maxRecDepth 100000 in
set_option maxHeartbeats 1600000 in
theorem l1Var_own (v : Int) (hv : 0 ≤ v ∧ v < 4) : Fn Try.prog 107 [] [nat1 v] (.o (.agg [.own 101 1 4, .d (dI 0)])) [(.b 101, .b 3 1 (dR ((([0, 0, 0, 0] : List Int).set v.toNat 1).map rI))), (.u 101, .u)] := by
  refine Fn.of_code Try.func107 rfl rfl HB.nil rfl rfl HB.nil.data rfl (one_num rfl) ?_
  refine ACode.seq ?_
  refine ACode.region ?_
  refine .cons (.al 102 [.slice none 0 0, .int .i64 0] rfl rfl rfl) ?_
  refine .nil ?_
  refine ks_n ?_
  refine ACode.seq ?_
  refine ACode.region ?_
  refine .cons (.cO [] [(101, 104)] rfl rfl rfl rfl (l1Zero_own) rfl trivial flatS.nil (flatS.nil.cons rfl) HB.nil.data outS_one) ?_
  refine .cons (.al 103 [.slice none 0 0, .int .i64 0] rfl rfl rfl) ?_
  refine .cons (.sT 2 true rfl rfl rfl rfl rfl rfl rfl) ?_
  refine .nil ?_
  refine ks_n ?_
  refine ACode.seq ?_
  refine ACode.region ?_
  refine .cons (.fB 0 0 false rfl rfl rfl) ?_
  refine .cons (.b1 1 rfl rfl rfl rfl rfl rfl) ?_
  refine .cons (.mv rfl rfl) ?_
  refine .cons (.xB 3 1 8 (i := v.toNat) rfl rfl rfl rfl rfl (by omega)) ?_
  refine .cons (.sT 1 false rfl rfl rfl rfl (dR_at (map_at (getD_at (l := [0, 0, 0, 0]) (i := v.toNat) (by simp; omega)))) rfl rfl) ?_
  refine .nil ?_
  refine ks_n ?_
  refine ACode.seq ?_
  refine ACode.region ?_
  refine .cons (.bN 2 rfl rfl rfl rfl rfl rfl) ?_
  refine .cons (.sT 2 true rfl rfl rfl rfl rfl rfl rfl) ?_
  refine .nil ?_
  refine ks_n ?_
  refine ACode.ret ?_
  refine kf_wret [(.t 2, .v (.o (.c (.box 100 2 0 0)))), (.b 101, .b 3 1 (dR ((([0, 0, 0, 0] : List Int).set v.toNat 1).map rI))), (.u 101, .u), (.b 100, .b 28 2 [[.own 101 1 (4), .d (dI (0))]]), (.u 100, .u)] (Wk.keep [(100, 102), (101, 104)] rfl rfl ⟨ks rfl (.c .bx), kb 104 rfl (.dt rfl (dR_setI _ _ _ _)), kb 102 rfl (.cons (.cons .ow (.cons .dt Ctos.nil)) .nil), trivial⟩) rfl ?_ (one_box rfl)
  rfl

set_option maxRecDepth 100000 in
set_option maxHeartbeats 1600000 in
theorem l1Var_fn (v : Int) (hv : 0 ≤ v ∧ v < 4) : Fn Try.prog 107 [] [nat1 v] (.o (ad (rA (varA v.toNat)))) [] := by
  refine Fn.code0 Try.func107 rfl rfl rfl rfl ?_
  refine ACode.seq ?_
  refine ACode.region ?_
  refine .cons (.al 102 [.slice none 0 0, .int .i64 0] rfl rfl rfl) ?_
  refine .nil ?_
  refine ks_n ?_
  refine ACode.seq ?_
  refine ACode.region ?_
  refine .cons (.cO [] [(101, 104)] rfl rfl rfl rfl (l1Zero_own) rfl trivial flatS.nil (flatS.nil.cons rfl) HB.nil.data outS_one) ?_
  refine .cons (.al 103 [.slice none 0 0, .int .i64 0] rfl rfl rfl) ?_
  refine .cons (.sT 2 true rfl rfl rfl rfl rfl rfl rfl) ?_
  refine .nil ?_
  refine ks_n ?_
  refine ACode.seq ?_
  refine ACode.region ?_
  refine .cons (.fB 0 0 false rfl rfl rfl) ?_
  refine .cons (.b1 1 rfl rfl rfl rfl rfl rfl) ?_
  refine .cons (.mv rfl rfl) ?_
  refine .cons (.xB 3 1 8 (i := v.toNat) rfl rfl rfl rfl rfl (by omega)) ?_
  refine .cons (.sT 1 false rfl rfl rfl rfl (dR_at (map_at (getD_at (l := [0, 0, 0, 0]) (i := v.toNat) (by simp; omega)))) rfl rfl) ?_
  refine .nil ?_
  refine ks_n ?_
  refine ACode.seq ?_
  refine ACode.region ?_
  refine .cons (.bN 2 rfl rfl rfl rfl rfl rfl) ?_
  refine .cons (.sT 2 true rfl rfl rfl rfl rfl rfl rfl) ?_
  refine .nil ?_
  refine ks_n ?_
  refine ACode.ret ?_
  refine kf_wret [(.t 2, .v (.o (.c (.box 100 2 0 0)))), (.b 100, .b 28 2 [[.d (dIs (([0, 0, 0, 0] : List Int).set v.toNat 1)), .d (dI (0))]]), (.u 100, .u)] (Wk.keep [(100, 102)] rfl rfl ⟨ks rfl (.c .bx), kb 102 rfl (.cons (.cons (.fz rfl (dR_setI _ _ _ _)) (.cons .dt Ctos.nil)) .nil), trivial⟩) rfl ?_ nobox
  rfl

set_option maxRecDepth 100000 in
set_option maxHeartbeats 1600000 in
theorem l1Combine_fn (a b : Aff) (x y : Int) (hx : -1000 ≤ x ∧ x ≤ 1000) (hy : -1000 ≤ y ∧ y ≤ 1000) (ha : a.1.length = 4) (hb : b.1.length = 4) (ha2 : -1000 ≤ a.2 ∧ a.2 ≤ 1000) (hb2 : -1000 ≤ b.2 ∧ b.2 ≤ 1000) (hac : ∀ i, -1000 ≤ a.1.getD i 0 ∧ a.1.getD i 0 ≤ 1000) (hbc : ∀ i, -1000 ≤ b.1.getD i 0 ∧ b.1.getD i 0 ≤ 1000) : Fn Try.prog 149 [] [ad (rA a), nat1 x, ad (rA b), nat1 y] (.o (ad (rA (cmbA a x b y)))) [] := by
  have hm1 := mulb hx ha2
  have hm2 := mulb hy hb2
  refine Fn.code0 Try.func149 rfl rfl rfl rfl ?_
  refine ACode.seq ?_
  refine ACode.region ?_
  refine .cons (St1.boxP rfl rfl rfl rfl rfl rfl) ?_
  refine .cons (St1.boxP rfl rfl rfl rfl rfl rfl) ?_
  refine .cons (.al 108 [.slice none 0 0, .int .i64 0] rfl rfl rfl) ?_
  refine .nil ?_
  refine ks_n ?_
  refine ACode.seq ?_
  refine ACode.region ?_
  refine .cons (.mv rfl rfl) ?_
  refine .cons (.fP 1 0 false rfl rfl) ?_
  refine .cons (.l1 1 rfl rfl) ?_
  refine .cons (.ml rfl rfl rfl) ?_
  refine .cons (.mv rfl rfl) ?_
  refine .cons (.fP 1 0 false rfl rfl) ?_
  refine .cons (.l1 1 rfl rfl) ?_
  refine .cons (.ml rfl rfl rfl) ?_
  refine .cons (.pl rfl rfl rfl) ?_
  refine .cons (.bu [(1, .tmp 19)] [(0, 1), (1, 1)] [.slice none 0 0, .int .i64 0] rfl rfl rfl rfl rfl) ?_
  refine .cons (.al 109 [.slice none 0 0, .int .i64 0] rfl rfl rfl) ?_
  refine .cons (.sT 2 true rfl rfl rfl rfl rfl rfl rfl) ?_
  refine .nil ?_
  refine ks_n ?_
  refine ACode.seq ?_
  refine ACode.seq ?_
  refine ACode.region ?_
  refine .cons (.asg rfl rfl) ?_
  refine .nil ?_
  refine ks_n ?_
  refine ACode.block ?_
  refine .loopK (fun m σ => (∃ i : Nat, m = 4 - i ∧ (i = 0) ∧ σ = [(.t 1, .v (.o (nat1 x))), (.t 3, .v (.o (nat1 y))), (.t 4, .v (.o (.c (.ptr (rA a))))), (.t 6, .v (.o (.c (.ptr (rA b))))), (.t 8, .v (.o (.c (.box 110 2 0 0)))), (.t 9, .v (.o (.c (.box 111 2 0 0)))), (.t 10, .v (.o (nat1 (i : Nat)))), (.b 110, .b 28 2 [[.d (.val (.slice none 0 0)), .d (dI 0)]]), (.u 110, .u), (.b 111, .b 28 2 [[.d (.val (.slice none 0 0)), .d (dI (x * a.2 + y * b.2))]]), (.u 111, .u)]) ∨ (∃ i : Nat, m = 4 - i ∧ (1 ≤ i) ∧ (i ≤ 4) ∧ σ = [(.t 1, .v (.o (nat1 x))), (.t 3, .v (.o (nat1 y))), (.t 4, .v (.o (.c (.ptr (rA a))))), (.t 6, .v (.o (.c (.ptr (rA b))))), (.t 8, .v (.o (.c (.box 110 2 0 0)))), (.t 9, .v (.o (.c (.box 111 2 0 0)))), (.t 10, .v (.o (nat1 (i : Nat)))), (.b 110, .b 28 2 [[.d (.val (.slice none 0 0)), .d (dI 0)]]), (.u 110, .u), (.b 112, .b 3 1 (dR ((cmbTo a.1 x b.1 y i).map rI))), (.u 112, .u), (.b 111, .b 28 2 [[.own 112 1 (i), .d (dI (x * a.2 + y * b.2))]]), (.u 111, .u)])) [(110, 108), (111, 109)] (.inl ⟨0, rfl, rfl, rfl⟩) ⟨ks rfl .dt, ks rfl .dt, ks rfl .dt, ks rfl .dt, ks rfl (.c .bx), ks rfl (.c .bx), ks rfl .dt, kb 108 rfl (.cons (.cons .dt (.cons .dt Ctos.nil)) .nil), kb 109 rfl (.cons (.cons .dt (.cons .dt Ctos.nil)) .nil), trivial⟩ ?_
  rintro m σ (⟨i, hm0, rfl, rfl⟩ | ⟨i, hm0, hi1, hi4, rfl⟩)
  · skip
    have hm3 := mulb hx (hac 0)
    have hm4 := mulb hy (hbc 0)
    refine ACode.seq ?_
    refine ACode.seq ?_
    refine ACode.region ?_
    refine .cons (.mv rfl rfl) ?_
    refine .cons (.ls rfl rfl rfl) ?_
    refine .nil ?_
    refine ks_n ?_
    refine .cD rfl (fun h22 => ?_) (fun h22 => ?_)
    · skip
      refine ACode.skip ?_
      refine ks_n ?_
      refine ACode.seq ?_
      refine ACode.block ?_
      refine ACode.drawK (by kernel_rfl) (by kernel_rfl) ?_
      refine .cons (.fB 0 0 false rfl rfl rfl) ?_
      refine .cons (.b1 1 rfl rfl rfl rfl rfl rfl) ?_
      refine .cons (.mv rfl rfl) ?_
      refine .cons (.fP 0 0 false rfl rfl) ?_
      refine .cons (.l1 1 rfl rfl) ?_
      refine .cons (.mv rfl rfl) ?_
      refine .cons (.xL 3 1 8 rfl rfl rfl rfl rfl (map_at (getD_at (by rw [ha]; omega)))) ?_
      refine .cons (.l1 1 rfl rfl) ?_
      refine .cons (.ml rfl rfl rfl) ?_
      refine .cons (.mv rfl rfl) ?_
      refine .cons (.fP 0 0 false rfl rfl) ?_
      refine .cons (.l1 1 rfl rfl) ?_
      refine .cons (.mv rfl rfl) ?_
      refine .cons (.xL 3 1 8 rfl rfl rfl rfl rfl (map_at (getD_at (by rw [hb]; omega)))) ?_
      refine .cons (.l1 1 rfl rfl) ?_
      refine .cons (.ml rfl rfl rfl) ?_
      refine .cons (.pl rfl rfl rfl) ?_
      refine .cons (.li 3 0 0 [.tmp 41] rfl rfl rfl rfl rfl rfl) ?_
      refine .cons (St1.appN (k' := 143) (e := 3) (sz := 0) (by' := 8) rfl rfl rfl rfl rfl (by kernel_rfl) rfl rfl rfl (by simp) (by simp [dR, cmbTo] <;> omega) rfl rfl) ?_
      refine .cons (.fB 0 0 false rfl rfl rfl) ?_
      refine .cons (.sT 1 false rfl rfl rfl rfl rfl rfl rfl) ?_
      refine .nil ⟨by kernel_rfl, ?_⟩
      refine kb_n ?_
      refine ks_n ?_
      refine ACode.region ?_
      refine .cons (.mv rfl rfl) ?_
      refine .cons (.pl rfl rfl rfl) ?_
      refine .cons (.asg rfl rfl) ?_
      refine .nil ?_
      refine kl_k [(110, 110), (111, 111), (112, 143)] (.inr ⟨1, rfl, by omega, by omega, rfl⟩) ⟨ks rfl .dt, ks rfl .dt, ks rfl .dt, ks rfl .dt, ks rfl (.c .bx), ks rfl (.c .bx), ks rfl .dt, kb 110 rfl (.cons (.cons .dt (.cons .dt Ctos.nil)) .nil), kb 143 rfl (.dt rfl (by first | (rw [dR_app]; simp [cmbTo, List.range_succ]; done) | (simp [dR, cmbTo, List.range_succ]; done) | (simp [dR, cmbTo, List.range_succ]; rfl))), kb 111 rfl (.cons (.cons .ow (.cons .dt Ctos.nil)) .nil), trivial⟩
    · skip
      simp at h22
  · skip
    have hm3 := mulb hx (hac i)
    have hm4 := mulb hy (hbc i)
    refine ACode.seq ?_
    refine ACode.seq ?_
    refine ACode.region ?_
    refine .cons (.mv rfl rfl) ?_
    refine .cons (.ls rfl rfl rfl) ?_
    refine .nil ?_
    refine ks_n ?_
    refine .cD rfl (fun h22 => ?_) (fun h22 => ?_)
    · skip
      refine ACode.skip ?_
      refine ks_n ?_
      refine ACode.seq ?_
      refine ACode.block ?_
      refine ACode.drawK (by kernel_rfl) (by kernel_rfl) ?_
      refine .cons (.fB 0 0 false rfl rfl rfl) ?_
      refine .cons (.b1 1 rfl rfl rfl rfl rfl rfl) ?_
      refine .cons (.mv rfl rfl) ?_
      refine .cons (.fP 0 0 false rfl rfl) ?_
      refine .cons (.l1 1 rfl rfl) ?_
      refine .cons (.mv rfl rfl) ?_
      refine .cons (.xL 3 1 8 rfl rfl rfl rfl rfl (map_at (getD_at (by rw [ha]; omega)))) ?_
      refine .cons (.l1 1 rfl rfl) ?_
      refine .cons (.ml rfl rfl rfl) ?_
      refine .cons (.mv rfl rfl) ?_
      refine .cons (.fP 0 0 false rfl rfl) ?_
      refine .cons (.l1 1 rfl rfl) ?_
      refine .cons (.mv rfl rfl) ?_
      refine .cons (.xL 3 1 8 rfl rfl rfl rfl rfl (map_at (getD_at (by rw [hb]; omega)))) ?_
      refine .cons (.l1 1 rfl rfl) ?_
      refine .cons (.ml rfl rfl rfl) ?_
      refine .cons (.pl rfl rfl rfl) ?_
      refine .cons (.li 3 0 0 [.tmp 41] rfl rfl rfl rfl rfl rfl) ?_
      refine .cons (St1.appB (k' := 143) (e := 3) (sz := 0) (by' := 8) rfl rfl rfl rfl rfl (by kernel_rfl) rfl rfl rfl rfl (by simp [dR, cmbTo]) (by simp [dR, cmbTo] <;> omega) rfl rfl rfl) ?_
      refine .cons (.fB 0 0 false rfl rfl rfl) ?_
      refine .cons (.sT 1 false rfl rfl rfl rfl rfl rfl rfl) ?_
      refine .nil ⟨by kernel_rfl, ?_⟩
      refine kb_n ?_
      refine ks_n ?_
      refine ACode.region ?_
      refine .cons (.mv rfl rfl) ?_
      refine .cons (.pl rfl rfl rfl) ?_
      refine .cons (.asg rfl rfl) ?_
      refine .nil ?_
      refine kl_k [(110, 110), (111, 111), (112, 143)] (.inr ⟨i + 1, rfl, by omega, by omega, rfl⟩) ⟨ks rfl .dt, ks rfl .dt, ks rfl .dt, ks rfl .dt, ks rfl (.c .bx), ks rfl (.c .bx), ks rfl .dt, kb 110 rfl (.cons (.cons .dt (.cons .dt Ctos.nil)) .nil), kb 143 rfl (.dt rfl (by first | (rw [dR_app]; simp [cmbTo, List.range_succ]; done) | (simp [dR, cmbTo, List.range_succ]; done) | (simp [dR, cmbTo, List.range_succ]; rfl))), kb 111 rfl (.cons (.cons .ow (.cons .dt Ctos.nil)) .nil), trivial⟩
    · skip
      obtain rfl : i = 4 := by omega
      refine ACode.exit ?_
      refine ks_e ?_
      refine kl_e ?_
      refine kb_hit ?_
      refine ks_n ?_
      refine ACode.seq ?_
      refine ACode.region ?_
      refine .cons (.bN 2 rfl rfl rfl rfl rfl rfl) ?_
      refine .cons (.sT 2 true rfl rfl rfl rfl rfl rfl rfl) ?_
      refine .nil ?_
      refine ks_n ?_
      refine ACode.ret ?_
      refine kf_wret [(.t 8, .v (.o (.c (.box 100 2 0 0)))), (.b 100, .b 28 2 [[.d (dIs (cmbTo a.1 x b.1 y 4)), .d (dI (x * a.2 + y * b.2))]]), (.u 100, .u)] (Wk.keep [(100, 110)] rfl rfl ⟨ks rfl (.c .bx), kb 110 rfl (.cons (.cons (.fz rfl rfl (by simp [cmbTo])) (.cons .dt Ctos.nil)) .nil), trivial⟩) rfl ?_ nobox
      rfl

end Go.Proofs.Ytigdfdhjnadieaa
