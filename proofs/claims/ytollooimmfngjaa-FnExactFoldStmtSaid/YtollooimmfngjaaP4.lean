/- Part 4 of 5 of the proof: laws on memory and data, then what the functions compute, in the order in which they build on each other; conditions: those that each theorem names. -/
import Derived.Test.YtollooimmfngjaaP3
set_option maxRecDepth 100000
set_option maxHeartbeats 1600000

namespace Go.Proofs.Ytollooimmfngjaa
set_option linter.unusedVariables false
set_option linter.unusedSimpArgs false
open Go.RowKit
section
variable {E : Env} {bx : Nat → Nat × Nat} {τ : Res → RC} {a : Act} {w : World}
/-- Of a slot something else is told. -/
theorem SR.tell (h : SR E bx τ a w) {t : Nat} {x : V} (hv : Vr bx (Al τ) (Bf E bx τ) w x (a.tmps.getD t undef)) (hr : ∀ k ∈ x.refs, τ (.u k) ≠ .no) : SR E bx (upd τ (.t t) (.v x)) a w := by
  have hbf := Bf_upd_t (E := E) (bx := bx) τ t (.v x)
  have hal := Al_upd_t τ t (.v x)
  refine ⟨fun s y ht => ?_, fun k e sz rows hk => ?_, by rw [hal]; exact h.inj, fun k hk => ?_, h.size, h.defers, by rw [hal]; exact h.own, h.mtl, by rw [hal]; exact h.ent, h.os, h.tape, h.output, h.hsize, h.old⟩
  · rw [hal, hbf]
    by_cases e : s = t
    · subst e
      rw [upd_same] at ht
      cases ht
      exact hv
    · rw [upd_other _ _ (by simpa using e)] at ht
      exact h.slot s y ht
  · rw [upd_other _ _ (by simp)] at hk
    rw [hal, hbf]
    exact h.box k e sz rows hk
  · rw [upd_other _ _ (by simp)] at hk
    obtain ⟨h1, h2, h3⟩ := h.unused k hk
    refine ⟨by rw [hal]; exact h1, fun s y ht => ?_, fun l e sz rows hl => ?_⟩
    · by_cases e : s = t
      · subst e
        rw [upd_same] at ht
        cases ht
        exact fun hm => hr k hm hk
      · rw [upd_other _ _ (by simpa using e)] at ht
        exact h2 s y ht
    · rw [upd_other _ _ (by simp)] at hl
      exact h3 l e sz rows hl
/-- Of one cell of a box something else is told. -/
theorem SR.tellB (h : SR E bx τ a w) {k0 : Nat} {e0 : TypeId} {sz0 : Nat} {rows0 : List (List C)} {i j : Nat} {r : List C} {d : D} (hk : τ (.b k0) = .b e0 sz0 rows0) (hi : rows0[i]? = some r) (hj : j < r.length)
    (hu : ∀ (cur : Array Value) u, w.heap[(bx k0).1]? = some (.cells cur e0 (0, 0)) → cur[i * sz0 + j]? = some u → Dr (Bf E bx τ) w d u) : SR E bx (upd τ (.b k0) (.b e0 sz0 (rows0.set i (r.set j (.d d))))) a w := by
  have hal : Al (upd τ (.b k0) (.b e0 sz0 (rows0.set i (r.set j (.d d))))) = Al τ := Al_upd_b ⟨e0, sz0, rows0, hk⟩
  have hbf : Bf E bx (upd τ (.b k0) (.b e0 sz0 (rows0.set i (r.set j (.d d))))) = Bf E bx τ := by funext b; simp only [Bf, hal]
  have hil := (List.getElem?_eq_some_iff.1 hi).1
  refine ⟨fun s y ht => ?_, fun k e sz rows hk' => ?_, by rw [hal]; exact h.inj, fun k hk' => ?_, h.size, h.defers, by rw [hal]; exact h.own, h.mtl, by rw [hal]; exact h.ent, h.os, h.tape, h.output, h.hsize, h.old⟩
  · rw [upd_other _ _ (by simp)] at ht
    rw [hal, hbf]; exact h.slot s y ht
  · rw [hal, hbf]
    by_cases e1 : k = k0
    · subst e1
      rw [upd_same] at hk'
      cases hk'
      obtain ⟨cur, h1, h2, h3, h4, h5⟩ := h.box k e0 sz0 rows0 hk
      refine ⟨cur, h1, h2, by rw [List.length_set]; exact h3, fun i' r' hi' => ?_, fun i' r' j' c hi' hj' => ?_⟩
      · rw [List.getElem?_set] at hi'
        by_cases e2 : i = i'
        · subst e2; rw [if_pos rfl, if_pos hil] at hi'; cases hi'; rw [List.length_set]; exact h4 i r hi
        · rw [if_neg e2] at hi'; exact h4 i' r' hi'
      · rw [List.getElem?_set] at hi'
        by_cases e2 : i = i'
        · subst e2; rw [if_pos rfl, if_pos hil] at hi'; cases hi'
          rw [List.getElem?_set] at hj'
          by_cases e3 : j = j'
          · subst e3; rw [if_pos rfl, if_pos hj] at hj'; cases hj'
            obtain ⟨u, h6, _⟩ := h5 i r j r[j] hi (List.getElem?_eq_getElem hj)
            exact ⟨u, h6, hu cur u h1 h6⟩
          · rw [if_neg e3] at hj'; exact h5 i r j' c hi hj'
        · rw [if_neg e2] at hi'; exact h5 i' r' j' c hi' hj'
    · rw [upd_other _ _ (by simpa using e1)] at hk'
      exact h.box k e sz rows hk'
  · rw [upd_other _ _ (by simp)] at hk'
    obtain ⟨h1, h2, h3⟩ := h.unused k hk'
    refine ⟨by rw [hal]; exact h1, fun s y ht => ?_, fun l e sz rows hl r' hr' c hc => ?_⟩
    · rw [upd_other _ _ (by simp)] at ht; exact h2 s y ht
    · by_cases e1 : l = k0
      · subst e1
        rw [upd_same] at hl
        cases hl
        rcases List.mem_or_eq_of_mem_set hr' with hr' | rfl
        · exact h3 l e0 sz0 rows0 hk r' hr' c hc
        · rcases List.mem_or_eq_of_mem_set hc with hc | rfl
          · exact h3 l e0 sz0 rows0 hk r (List.mem_of_getElem? hi) c hc
          · exact fun hm => by cases hm
      · rw [upd_other _ _ (by simpa using e1)] at hl
        exact h3 l e sz rows hl r' hr' c hc
end
/-- The positions that hold trees. -/
def isPos (rows : List (List D)) (i j : Nat) : Prop := ∃ r m rs, rows[i]? = some r ∧ r[j]? = some (.list m rs)
def plain (rows : List (List D)) : Prop := ∀ r ∈ rows, ∀ x ∈ r, noTree x = true
structure Pk (σ : St) (k : Nat) (F : Nat → Nat → Nat → Prop) (rows : List (List D)) (N : Nat → Prop) : Prop where
  fr : ∀ b, N b → (∃ i j, isPos rows i j ∧ F i j b) ∨ ∀ S, Has σ S → ¬ S b
section
variable {E : Env} {bx : Nat → Nat × Nat} {a : Act} {w : World} {σ : St} {k : Nat} {e : TypeId} {sz : Nat} {rows : List (List D)} {F : Nat → Nat → Nat → Prop}
theorem SR.tree (hs : SR E bx (lk σ) a w) (hb : lk σ (.b k) = .b e sz (dR (tagRs F 0 rows))) (hk : (Nat.ble 100 k && Nat.ble k 999) = true) (hp : plain rows) (hl : rows.length ≤ 17592186044416)
    (hd : ∀ i j i' j' b, isPos rows i j → isPos rows i' j' → F i j b → F i' j' b → i = i' ∧ j = j') :
    ∃ N, Pk σ k F rows N ∧ ∀ v, Cr bx (Al (lk σ)) (Bf E bx (lk σ)) w (.own k sz rows.length) v → Dr (Bf E bx (upd (lk σ) (.b k) .no)) w (.tree N (.list sz rows)) v := by
  rw [Bool.and_eq_true] at hk
  have hk1 := Nat.le_of_ble_eq_true hk.1
  have hk2 := Nat.le_of_ble_eq_true hk.2
  have hal : Al (lk σ) k := ⟨e, sz, _, hb⟩
  have hblk : ∀ S, Has σ S → ¬ S (bx k).1 := fun S hS h => (hs.has hS _ h).1.2 k hal rfl
  have hbf : ∀ b, Bf E bx (lk σ) b → Bf E bx (upd (lk σ) (.b k) .no) b := fun b h => ⟨h.1, fun l ⟨e', sz', rows', hl⟩ => by
    by_cases e1 : l = k
    · subst e1; rw [upd_same] at hl; cases hl
    · rw [upd_other _ _ (by simpa using e1)] at hl; exact h.2 l ⟨e', sz', rows', hl⟩⟩
  have hown : Bf E bx (upd (lk σ) (.b k) .no) (bx k).1 := ⟨.inr ((hs.own k hal).resolve_right fun h => by omega), fun l ⟨e', sz', rows', hl⟩ h => by
    by_cases e1 : l = k
    · subst e1; rw [upd_same] at hl; cases hl
    · rw [upd_other _ _ (by simpa using e1)] at hl
      exact e1 (hs.inj k l hal ⟨e', sz', rows', hl⟩ h).symm⟩
  have hhas : ∀ {i j}, isPos rows i j → Has σ (F i j) := fun {i j} ⟨r, m, rs, hr, hj⟩ => Has.rows hb hr hj
  obtain ⟨cur, c1, c2, c3, c4, c5⟩ := hs.box k e sz _ hb
  have hrow : ∀ {i : Nat} {r : List D}, rows[i]? = some r → r.length = sz := fun {i r} hr => by
    have := c4 i ((tagL (F i) 0 r).map C.d) (by rw [dR, List.getElem?_map, tagRs_at hr, Nat.zero_add]; rfl)
    rwa [List.length_map, tagL_len] at this
  have hcell : ∀ {i j : Nat} {r : List D} {x : D}, rows[i]? = some r → r[j]? = some x → ∃ u, cur[i * sz + j]? = some u ∧ Dr (Bf E bx (lk σ)) w (tg (F i j) x) u := fun {i j r x} hr hx => by
    obtain ⟨u, h1, h2⟩ := c5 i ((tagL (F i) 0 r).map C.d) j (.d (tg (F i j) x)) (by rw [dR, List.getElem?_map, tagRs_at hr, Nat.zero_add]; rfl) (by rw [List.getElem?_map, tagL_at hx, Nat.zero_add]; rfl)
    exact ⟨u, h1, h2⟩
  refine ⟨fun b => b = (bx k).1 ∨ ∃ i j, isPos rows i j ∧ F i j b, ⟨fun b hb => ?_⟩, fun v hv => ?_⟩
  · rcases hb with rfl | h
    · exact .inr hblk
    · exact .inl h
  · obtain ⟨cap, rfl, q1, q2, q3⟩ := hv.2 hal
    refine Dr.tree _ _ _ (fun b hb => ?_) (fun b hb => ?_) (DrU.list _ sz rows _ _ cap (bx k).1 0 (fun i j => cur.getD (i * sz + j) undef) (fun i j b => isPos rows i j ∧ F i j b) rfl q1 hl (fun h => by cases h) (fun _ => rfl) (fun i r hr => hrow hr) (fun i r j x hr hx => ?_) (fun i j c hc => ⟨.inr ⟨i, j, hc⟩, fun h => hblk _ (hhas hc.1) (h ▸ hc.2)⟩) (fun i j i' j' c h1 h2 => hd i j i' j' c h1.1 h2.1 h1.2 h2.2) (fun i r j x hr hx => ?_))
    · rcases hb with rfl | ⟨i, j, h1, h2⟩
      · exact hown
      · exact hbf _ (hs.has (hhas h1) b h2).1
    · rcases hb with rfl | ⟨i, j, h1, h2⟩
      · exact hs.lt hal
      · exact (hs.has (hhas h1) b h2).2
    · obtain ⟨u, h1, _⟩ := hcell hr hx
      refine ⟨.inl rfl, ?_, by simp [World.frozen?, c1]⟩
      rw [cell_of_row w _ _ _ _ _ c1, Nat.zero_add, h1, Array.getD_eq_getD_getElem?, h1]; rfl
    · obtain ⟨u, h1, h2⟩ := hcell hr hx
      rw [Array.getD_eq_getD_getElem?, h1, Option.getD_some]
      have hpx := hp r (List.mem_of_getElem? hr) x (List.mem_of_getElem? hx)
      cases x with
      | val v => cases h2; exact .val _ _ hpx
      | list m rs =>
        cases h2 with
        | tree _ _ _ _ _ h2 => exact h2.subS fun b hb => ⟨⟨r, m, rs, hr, hx⟩, hb⟩
      | tree S y => cases hpx
variable {P : Program} {n : Nat} {c : Code} {K : Exit → St → Prop}
/-- A slice of the own in a cell of a box becomes a tree. -/
theorem ACode.packB (k0 i j k : Nat) {e0 : TypeId} {sz0 : Nat} {rows0 : List (List C)} {r : List C} (h0 : lk σ (.b k0) = .b e0 sz0 rows0) (hne : Nat.beq k0 k = false) (hi : rows0[i]? = some r) (hj : r[j]? = some (.own k sz rows.length)) (hb : lk σ (.b k) = .b e sz (dR (tagRs F 0 rows))) (hp : plain rows) (hd : ∀ i j i' j' b, isPos rows i j → isPos rows i' j' → F i j b → F i' j' b → i = i' ∧ j = j') (hl : rows.length ≤ 17592186044416)
    (h : ∀ N, Pk σ k F rows N → ACode P n c K ((.b k0, .b e0 sz0 (rows0.set i (r.set j (.d (.tree N (.list sz rows)))))) :: (.b k, .no) :: σ)) (hk : (Nat.ble 100 k && Nat.ble k 999) = true := by rfl) : ACode P n c K σ := by
  intro E bx a w hE hs
  obtain ⟨N, h1, h2⟩ := hs.tree hb hk hp hl hd
  have hs1 := hs.kill k
  have hne' : k0 ≠ k := fun e => by subst e; simp at hne
  obtain ⟨cur, c1, _, _, _, c5⟩ := hs.box k0 e0 sz0 rows0 h0
  obtain ⟨u, u1, u2⟩ := c5 i r j _ hi hj
  have hs2 := hs1.tellB (d := .tree N (.list sz rows)) (k0 := k0) (by rw [upd_other _ _ (by simpa using hne')]; exact h0) hi (List.getElem?_eq_some_iff.1 hj).1 (fun cur' u' q1 q2 => by
    rw [c1] at q1
    cases q1
    rw [u1] at q2
    cases q2
    exact h2 u u2)
  rw [← lk_cons, ← lk_cons] at hs2
  exact h N h1 E bx a w hE hs2
/-- A tree in a field of a struct in a slot becomes a slice of trees. -/
theorem ACode.unpackA (t j : Nat) {cs : List C} {S : Nat → Prop} (ht : lk σ (.t t) = .v (.o (.agg cs))) (hj : cs[j]? = some (.d (.tree S (.list sz rows)))) (hp : plain rows)
    (h : ∀ T : Nat → Nat → Nat → Prop, (∀ i j b, T i j b → S b ∧ isPos rows i j) → (∀ i j i' j' b, T i j b → T i' j' b → i = i' ∧ j = j') → ACode P n c K ((.t t, .v (.o (.agg (cs.set j (.d (.list sz (tagRs T 0 rows))))))) :: σ)) : ACode P n c K σ := by
  intro E bx a w hE hs
  obtain ⟨vs, e1, hvl, hv⟩ := hs.slot t _ ht
  have hjl := (List.getElem?_eq_some_iff.1 hj).1
  have hu := hv j _ _ hj (List.getElem?_eq_getElem (by omega))
  have key : ∃ T : Nat → Nat → Nat → Prop, (∀ i j b, T i j b → S b ∧ isPos rows i j) ∧ (∀ i j i' j' b, T i j b → T i' j' b → i = i' ∧ j = j') ∧ Dr (Bf E bx (lk σ)) w (.list sz (tagRs T 0 rows)) (vs[j]'(by omega)) := by
    have hu' : Dr (Bf E bx (lk σ)) w (.tree S (.list sz rows)) (vs[j]'(by omega)) := hu
    generalize vs[j]'(by omega) = v at hu'
    cases hu' with
    | tree _ _ _ hB hlt hU =>
      cases hU with
      | list _ _ _ ad m cap b off f T0 hn q1 q2 q3 q4 q5 q6 hT0 hD0 q70 =>
        obtain ⟨T, hTe⟩ : ∃ T : Nat → Nat → Nat → Prop, T = fun i j b => T0 i j b ∧ isPos rows i j := ⟨_, rfl⟩
        have hT : ∀ i j c, T i j c → S c := fun i j c hc => by rw [hTe] at hc; exact (hT0 i j c hc.1).1
        have hTp : ∀ i j c, T i j c → isPos rows i j := fun i j c hc => by rw [hTe] at hc; exact hc.2
        have hD : ∀ i j i' j' c, T i j c → T i' j' c → i = i' ∧ j = j' := fun i j i' j' c h1 h2 => by rw [hTe] at h1 h2; exact hD0 i j i' j' c h1.1 h2.1
        have q7 : ∀ (i : Nat) r (j : Nat) x, rows[i]? = some r → r[j]? = some x → (∃ m rs, x = .list m rs) → DrU w (T i j) x (f i j) := fun i r j x hr hx he => (q70 i r j x hr hx).subS fun b hb => by rw [hTe]; obtain ⟨m, rs, rfl⟩ := he; exact ⟨hb, r, m, rs, hr, hx⟩
        refine ⟨T, fun i j b hb => ⟨hT i j b hb, hTp i j b hb⟩, hD, Dr.list sz _ ad m cap b off f (by rw [tagRs_len]; exact hn) q1 q2 q3 q4 (fun i r hr => ?_) (fun i r j x hr hx => ?_) (fun i r j x hr hx => ?_)⟩
        all_goals
          obtain ⟨r0, hr0, rfl⟩ : ∃ r0, rows[i]? = some r0 ∧ r = tagL (T i) 0 r0 := by
            have hil := (List.getElem?_eq_some_iff.1 hr).1
            rw [tagRs_len] at hil
            refine ⟨rows[i], List.getElem?_eq_getElem hil, ?_⟩
            rw [tagRs_at (List.getElem?_eq_getElem hil), Nat.zero_add] at hr
            exact (Option.some.inj hr).symm
        · rw [tagL_len]; exact q5 i r0 hr0
        all_goals
          obtain ⟨x0, hx0, rfl⟩ : ∃ x0, r0[j]? = some x0 ∧ x = tg (T i j) x0 := by
            have hjl := (List.getElem?_eq_some_iff.1 hx).1
            rw [tagL_len] at hjl
            refine ⟨r0[j], List.getElem?_eq_getElem hjl, ?_⟩
            rw [tagL_at (List.getElem?_eq_getElem hjl), Nat.zero_add] at hx
            exact (Option.some.inj hx).symm
        · obtain ⟨g1, g2, _⟩ := q6 i r0 j x0 hr0 hx0
          exact ⟨hB b g1, g2⟩
        · have h70 := q70 i r0 j x0 hr0 hx0
          have hpx := hp r0 (List.mem_of_getElem? hr0) x0 (List.mem_of_getElem? hx0)
          have h7 := q7 i r0 j x0 hr0 hx0
          cases x0 with
          | val v => cases h70 with | val _ _ h7 => exact .val _ (nsl_one h7)
          | list m2 rs => exact .tree _ _ _ (fun b hb => hB b (hT i j b hb)) (fun b hb => hlt b (hT i j b hb)) (h7 ⟨_, _, rfl⟩)
          | tree S2 y => cases hpx
  obtain ⟨T, t1, t2, t3⟩ := key
  have hs2 := hs.tell (t := t) (x := .o (.agg (cs.set j (.d (.list sz (tagRs T 0 rows)))))) ⟨vs, e1, by rw [List.length_set]; exact hvl, fun i x u hx hu => by
    rw [List.getElem?_set] at hx
    by_cases e2 : j = i
    · subst e2
      rw [if_pos rfl, if_pos hjl] at hx
      cases hx
      rw [List.getElem?_eq_getElem (by omega)] at hu
      cases hu
      exact t3
    · rw [if_neg e2] at hx
      exact hv i x u hx hu⟩ (fun l hl => by
    obtain ⟨x, hx, hl⟩ := List.mem_flatMap.1 (show l ∈ (cs.set j (.d (.list sz (tagRs T 0 rows)))).flatMap C.refs from hl)
    rcases List.mem_or_eq_of_mem_set hx with hx | rfl
    · exact hs.used ht l (List.mem_flatMap.2 ⟨x, hx, hl⟩)
    · cases hl)
  rw [← lk_cons] at hs2
  exact h T t1 t2 E bx a w hE hs2
end
/-- What the makers of a region made: (operation, column) to a set. -/
abbrev Rho := Nat → Nat → Nat → Prop
def setR (ρ : Rho) (i : Nat) (R : Nat → Nat → Prop) : Rho := fun k => if k = i then R else ρ k
theorem setR_same (ρ : Rho) (i : Nat) (R : Nat → Nat → Prop) : setR ρ i R i = R := if_pos rfl
theorem setR_other (ρ : Rho) {i k : Nat} (R : Nat → Nat → Prop) (h : k ≠ i) : setR ρ i R k = ρ k := if_neg h
/-- The slot that tells what operation i made. -/
abbrev ghR (i : Nat) : Res := .t (20000 + i)
def un (R : Nat → Nat → Prop) (b : Nat) : Prop := ∃ j, R j b
structure TrE where
  R : List Res
  W : List Res
  s : Rho → St
  mkr : Option ((Nat → Prop) × (Nat → Prop))
def trAt (tr : List TrE) (ρ : Rho) : List (List Res × List Res × St) := tr.map fun x => (x.R, x.W, x.s ρ)
def TStep (P : Program) (n : Nat) (ops : Array Oper) (o : Oper) (i : Nat) (σ : Rho → St) (R W : List Res) (σ' : Rho → St) (src : (Nat → Prop) × (Nat → Prop)) : Prop :=
  (∀ ρ r, r ∉ W → lk (σ' ρ) r = lk (σ ρ) r) ∧ ghR i ∈ W ∧ (∀ ρ, lk (σ' ρ) (ghR i) = .v (.gh (un (ρ i)))) ∧
  ∀ (ρ : Rho) (E : Env) (bx : Nat → Nat × Nat) (τ : Res → RC) (a : Act) (w : World), E.n = n → (∀ r ∈ R, τ r = lk (σ ρ) r) → SR E bx τ a w →
    OW P ops o a w fun a' w' => ∃ Rn : Nat → Nat → Prop, (∀ j b, Rn j b → src.1 b ∨ w.heap.size ≤ b) ∧ (∀ j k b, Rn j b → Rn k b → j = k) ∧ (∀ j b, Rn j b → src.2 j) ∧ ∃ bx', SR E bx' (ovr τ W (σ' (setR ρ i Rn))) a' w'
inductive RunR (P : Program) (n : Nat) (ops : Array Oper) : Nat → List Oper → (Rho → St) → List TrE → (Rho → St) → Prop
  | nil (i : Nat) (σ : Rho → St) : RunR P n ops i [] σ [] σ
  | cons {i : Nat} {o : Oper} {l : List Oper} {σ σ' σ'' : Rho → St} {R W : List Res} {tr : List TrE} (h : ∀ ρ, St1 P n ops o (σ ρ) R W (σ' ρ)) (k : RunR P n ops (i + 1) l σ' tr σ'') : RunR P n ops i (o :: l) σ (⟨R, W, σ', none⟩ :: tr) σ''
  | mk {i : Nat} {o : Oper} {l : List Oper} {σ σ' σ'' : Rho → St} {R W : List Res} {tr : List TrE} {src : (Nat → Prop) × (Nat → Prop)} (h : TStep P n ops o i σ R W σ' src) (k : RunR P n ops (i + 1) l σ' tr σ'') : RunR P n ops i (o :: l) σ (⟨R, W, σ', some src⟩ :: tr) σ''
def preR (σ0 : Rho → St) (tr : List TrE) : Nat → Rho → St
  | 0 => σ0
  | i + 1 => match tr[i]? with
    | some x => x.s
    | none => σ0
def StepOk (P : Program) (n : Nat) (ops : Array Oper) (o : Oper) (i : Nat) (σ : Rho → St) (x : TrE) : Prop :=
  match x.mkr with
  | none => ∀ ρ, St1 P n ops o (σ ρ) x.R x.W (x.s ρ)
  | some src => TStep P n ops o i σ x.R x.W x.s src
theorem RunR.at {P : Program} {n : Nat} {ops : Array Oper} {i : Nat} {l : List Oper} {σ0 σ1 : Rho → St} {tr : List TrE} (h : RunR P n ops i l σ0 tr σ1) : tr.length = l.length ∧ preR σ0 tr l.length = σ1 ∧
    ∀ (k : Nat) o, l[k]? = some o → ∃ x, tr[k]? = some x ∧ StepOk P n ops o (i + k) (preR σ0 tr k) x := by
  have hp : ∀ {x : TrE} {tr : List TrE} {σ : Rho → St} (j : Nat), j ≤ tr.length → preR σ (x :: tr) (j + 1) = preR x.s tr j := by
    intro x tr σ j hj
    cases j with
    | zero => rfl
    | succ j =>
      have hj' : j < tr.length := by omega
      simp [preR, hj']
  induction h with
  | nil i σ => exact ⟨rfl, rfl, fun k o h => by simp at h⟩
  | @cons i o l σ σ' σ'' R W tr h k ih =>
    obtain ⟨h1, h2, h3⟩ := ih
    refine ⟨by simp [h1], by rw [List.length_cons, hp _ (by omega)]; exact h2, fun q o' ho => ?_⟩
    cases q with
    | zero => simp only [List.getElem?_cons_zero, Option.some.injEq] at ho; subst ho; exact ⟨_, rfl, h⟩
    | succ q =>
      rw [List.getElem?_cons_succ] at ho
      obtain ⟨x, h4, h5⟩ := h3 q o' ho
      have hi : q < l.length := (List.getElem?_eq_some_iff.1 ho).1
      exact ⟨x, by rw [List.getElem?_cons_succ]; exact h4, by rw [hp _ (by omega), show i + (q + 1) = i + 1 + q by omega]; exact h5⟩
  | @mk i o l σ σ' σ'' R W tr src h k ih =>
    obtain ⟨h1, h2, h3⟩ := ih
    refine ⟨by simp [h1], by rw [List.length_cons, hp _ (by omega)]; exact h2, fun q o' ho => ?_⟩
    cases q with
    | zero => simp only [List.getElem?_cons_zero, Option.some.injEq] at ho; subst ho; exact ⟨_, rfl, h⟩
    | succ q =>
      rw [List.getElem?_cons_succ] at ho
      obtain ⟨x, h4, h5⟩ := h3 q o' ho
      have hi : q < l.length := (List.getElem?_eq_some_iff.1 ho).1
      exact ⟨x, by rw [List.getElem?_cons_succ]; exact h4, by rw [hp _ (by omega), show i + (q + 1) = i + 1 + q by omega]; exact h5⟩
theorem StepOk.same {P : Program} {n : Nat} {ops : Array Oper} {o : Oper} {i : Nat} {σ : Rho → St} {x : TrE} (h : StepOk P n ops o i σ x) (ρ : Rho) {r : Res} (hr : r ∉ x.W) : lk (x.s ρ) r = lk (σ ρ) r := by
  unfold StepOk at h
  split at h
  · exact (h ρ).1 r hr
  · exact h.1 ρ r hr
theorem cur_allR {P : Program} {n : Nat} {ops : Array Oper} {l : List Oper} {σ0 σ1 : Rho → St} {tr : List TrE} (h : RunR P n ops 0 l σ0 tr σ1) (ρ : Rho) {D : Nat → Bool} {i : Nat} (hi : i ≤ l.length) (hD : ∀ j, j < i → D j = true) (r : Res) :
    cur (σ0 ρ) (trAt tr ρ) D i r = lk (preR σ0 tr i ρ) r := by
  obtain ⟨h1, _, h3⟩ := h.at
  induction i with
  | zero => rfl
  | succ i ih =>
    obtain ⟨o, ho⟩ : ∃ o, l[i]? = some o := ⟨_, List.getElem?_eq_getElem (by omega)⟩
    obtain ⟨x, h4, h5⟩ := h3 i o ho
    have h6 : (trAt tr ρ)[i]? = some (x.R, x.W, x.s ρ) := by rw [trAt, List.getElem?_map, h4]; rfl
    simp only [cur, preR, h4, h6, hD i (by omega), true_and]
    split
    · rfl
    · rename_i hr
      rw [ih (by omega) (fun j hj => hD j (by omega))]
      exact (h5.same ρ hr).symm
/-- What a maker made is told by those alone that wait for it. -/
def Ind (ops : Array Oper) (tr : List TrE) : Prop := ∀ k y, tr[k]? = some y → ∀ i x, tr[i]? = some x → x.mkr ≠ none → bef ops ops.size k i = true ∨ k = i ∨ ∀ (ρ : Rho) (R : Nat → Nat → Prop), ∀ r ∈ y.W, lk (y.s (setR ρ i R)) r = lk (y.s ρ) r
/-- No other operation turns the slots that tell. -/
def Gho (tr : List TrE) : Prop := ∀ k y, tr[k]? = some y → (Res.t 9998) ∉ y.W ∧ ∀ i x, tr[i]? = some x → x.mkr ≠ none → k ≠ i → ghR i ∉ y.W
/-- What is known of what was made. -/
def Facts (U : Nat → Prop) (tr : List TrE) (ρ : Rho) (N : Nat → Nat → Prop) (D : Nat → Bool) : Prop := ∀ i x src, tr[i]? = some x → x.mkr = some src → D i = true →
  (∀ j b, ρ i j b → (src.1 b ∨ N i b) ∧ src.2 j) ∧ (∀ j k b, ρ i j b → ρ i k b → j = k) ∧ (∀ b, N i b → un (ρ i) b) ∧ (∀ b, N i b → ¬ U b) ∧ ∀ k y src', tr[k]? = some y → y.mkr = some src' → D k = true → k ≠ i → ∀ b, N i b → ¬ N k b
section
variable {P : Program} {n : Nat} {l : List Oper} {s0 : St} {σ1 : Rho → St} {tr : List TrE} {U : Nat → Prop}
theorem wpAny_runR (h : RunR P n l.toArray 0 l (fun _ => s0) tr σ1) (hc : ∀ ρ, chk l.toArray 0 (trAt tr ρ) = true) (he : edgesOk l.toArray 0 l = true) (hind : Ind l.toArray tr) (hgh : Gho tr) (hU : lk s0 (.t 9998) = .v (.gh U)) {E : Env} (hE : E.n = n) {Q : Exit → Act → World → Prop}
    (hQ : ∀ ρ N bx a w, Facts U tr ρ N (fun _ => true) → SR E bx (lk (σ1 ρ)) a w → Q .normal a w) : ∀ (fuel : Nat) (listed : Array Bool) (a : Act) (w : World), listed.size = l.length → listed.toList.count false = fuel →
    (∀ j o, l.toArray[j]? = some o → listed.getD j false = true → ∀ e ∈ o.after, Region.binds .any e = true → listed.getD e.on false = true) →
    (∃ ρ N bx, Facts U tr ρ N (fun i => listed.getD i false) ∧ SR E bx (cur s0 (trAt tr ρ) (fun i => listed.getD i false) l.length) a w) → wpAny P .any l.toArray Q fuel listed a w := by
  obtain ⟨hlen, hlast, hat⟩ := h.at
  have hat' : ∀ ρ {i : Nat} {x : TrE}, tr[i]? = some x → (trAt tr ρ)[i]? = some (x.R, x.W, x.s ρ) := fun ρ {i x} hx => by rw [trAt, List.getElem?_map, hx]; rfl
  have hof : ∀ ρ {j : Nat} {y : List Res × List Res × St}, (trAt tr ρ)[j]? = some y → ∃ x, tr[j]? = some x ∧ y = (x.R, x.W, x.s ρ) := fun ρ {j y} hy => by
    rw [trAt, List.getElem?_map] at hy
    cases hx : tr[j]? with
    | none => rw [hx] at hy; cases hy
    | some x => rw [hx] at hy; cases hy; exact ⟨x, rfl, rfl⟩
  have hfin : ∀ (listed : Array Bool) a w, listed.size = l.length → (∀ i, i < l.length → listed.getD i false = true) → (∃ ρ N bx, Facts U tr ρ N (fun i => listed.getD i false) ∧ SR E bx (cur s0 (trAt tr ρ) (fun i => listed.getD i false) l.length) a w) → Q .normal a w := by
    intro listed a w hs hall ⟨ρ, N, bx, hF, hsr⟩
    have : cur s0 (trAt tr ρ) (fun i => listed.getD i false) l.length = lk (σ1 ρ) := by
      funext r
      rw [show cur s0 (trAt tr ρ) (fun i => listed.getD i false) l.length r = lk (preR (fun _ => s0) tr l.length ρ) r from cur_allR h ρ (Nat.le_refl _) hall r, hlast]
    rw [this] at hsr
    refine hQ ρ N bx a w (fun i x src hx hm _ => ?_) hsr
    have hil : ∀ {i : Nat} {x : TrE}, tr[i]? = some x → listed.getD i false = true := fun {i x} hx => hall i (by have := (List.getElem?_eq_some_iff.1 hx).1; omega)
    obtain ⟨f1, f2, f3, f4, f5⟩ := hF i x src hx hm (hil hx)
    exact ⟨f1, f2, f3, f4, fun k y src' hy hm' _ => f5 k y src' hy hm' (hil hy)⟩
  intro fuel
  induction fuel with
  | zero =>
    intro listed a w hs hcount hdown hsr
    have hall : ∀ i, i < l.length → listed.getD i false = true := by
      intro i hi
      have hn : false ∉ listed.toList := List.count_eq_zero.1 hcount
      have hi' : i < listed.size := by omega
      cases e : listed[i] with
      | true => simp [hi', e]
      | false => exact absurd (by rw [← e]; exact Array.mem_toList_iff.2 (Array.getElem_mem hi')) hn
    refine ⟨?_, hfin listed a w hs hall hsr⟩
    apply List.eq_nil_iff_forall_not_mem.2
    intro j hj
    obtain ⟨h1, o, ho, _⟩ := mem_ready.1 hj
    have hj' : j < l.length := by have := (Array.getElem?_eq_some_iff.1 ho).1; simpa using this
    have := hall j hj'
    have hj2 : j < listed.size := by omega
    simp [hj2] at this h1
    rw [this] at h1; cases h1
  | succ fuel ih =>
    intro listed a w hs hcount hdown hsr
    refine ⟨fun hnil => ?_, fun i hi => ?_⟩
    · refine hfin listed a w hs ?_ hsr
      intro i
      induction i using Nat.strongRecOn with
      | _ i ih2 =>
        intro hi
        cases hli : listed.getD i false with
        | true => rfl
        | false =>
          exfalso
          obtain ⟨o, ho⟩ : ∃ o, l[i]? = some o := ⟨_, List.getElem?_eq_getElem hi⟩
          have hmem : i ∈ Region.ready .any l.toArray listed := by
            refine mem_ready.2 ⟨?_, o, by simpa using ho, fun e he' hb => ?_⟩
            · have hi2 : i < listed.size := by omega
              simp [hi2] at hli ⊢
              exact hli
            · have := edgesOk_at he i o ho e he' hb
              rw [Nat.zero_add] at this
              exact ih2 e.on this (by omega)
          rw [hnil] at hmem
          cases hmem
    · obtain ⟨hun, o, ho, hall⟩ := mem_ready.1 hi
      have ho' : l[i]? = some o := by simpa using ho
      have hil : i < l.length := (List.getElem?_eq_some_iff.1 ho').1
      have hil2 : i < listed.size := by omega
      have hunf : listed.getD i false = false := by simp [hil2] at hun ⊢; exact hun
      obtain ⟨x, h4, h5⟩ := hat i o ho'
      rw [Nat.zero_add] at h5
      obtain ⟨ρ, N, bx, hF, hsr⟩ := hsr
      have hlater : ∀ (ρ : Rho) j (y : List Res × List Res × St), i ≤ j → j < l.length → (trAt tr ρ)[j]? = some y → (meet x.W y.1 = true ∨ meet x.W y.2.1 = true ∨ meet x.R y.2.1 = true) → listed.getD j false = false := by
        intro ρ j y hij hj hy hm
        by_cases e : j = i
        · subst e; exact hunf
        · cases hl : listed.getD j false with
          | false => rfl
          | true =>
            exfalso
            have hb := chk_at (hc ρ) i j _ y (by omega) (hat' ρ h4) hy hm
            rw [Nat.zero_add, Nat.zero_add] at hb
            obtain ⟨oj, hoj⟩ : ∃ oj, l[j]? = some oj := ⟨_, List.getElem?_eq_getElem hj⟩
            have hoj' : l.toArray[j]? = some oj := by simpa using hoj
            have := bef_listed hdown _ j i oj hoj' (hdown j oj hoj' hl) hb
            rw [hunf] at this; cases this
      have hearlier : ∀ (ρ : Rho) j (y : List Res × List Res × St), j < i → (trAt tr ρ)[j]? = some y → (meet y.2.1 x.R = true ∨ meet y.2.1 x.W = true ∨ meet y.1 x.W = true) → listed.getD j false = true := by
        intro ρ j y hji hy hm
        have hb := chk_at (hc ρ) j i y _ hji hy (hat' ρ h4) hm
        rw [Nat.zero_add, Nat.zero_add] at hb
        exact bef_listed hdown _ i j o ho hall hb
      have hread : ∀ r ∈ x.R, cur s0 (trAt tr ρ) (fun i => listed.getD i false) l.length r = lk (preR (fun _ => s0) tr i ρ) r := by
        intro r hr
        rw [cur_stop (i := i) (by omega) (fun j y h1 h2 hy hrx => hlater ρ j y h1 h2 hy (.inr (.inr (meet_of hr hrx))))]
        rw [cur_same (D' := fun _ => true) (fun j y hj hy hrx => hearlier ρ j y hj hy (.inl (meet_of hrx hr)))]
        exact cur_allR h ρ (by omega) (fun _ _ => rfl) r
      have hset : ∀ j, (listed.setIfInBounds i true).getD j false = if j = i then true else listed.getD j false := by
        intro j
        by_cases e : j = i
        · subst e; simp [hil2]
        · simp only [e, if_false, Array.getD_eq_getD_getElem?]
          rw [Array.getElem?_setIfInBounds_ne (fun e' => e e'.symm)]
      have hnew : ∀ ρ, cur s0 (trAt tr ρ) (fun j => (listed.setIfInBounds i true).getD j false) l.length = ovr (cur s0 (trAt tr ρ) (fun i => listed.getD i false) l.length) x.W (x.s ρ) := by
        intro ρ
        funext r
        unfold ovr
        by_cases hr : r ∈ x.W
        · rw [if_pos hr]
          have h1 : cur s0 (trAt tr ρ) (fun j => (listed.setIfInBounds i true).getD j false) l.length r = cur s0 (trAt tr ρ) (fun j => (listed.setIfInBounds i true).getD j false) (i + 1) r :=
            cur_stop (by omega) (fun j y h1 h2 hy hrx => by
              show (listed.setIfInBounds i true).getD j false = false
              rw [hset, if_neg (by omega)]
              exact hlater ρ j y (by omega) h2 hy (.inr (.inl (meet_of hr hrx))))
          rw [h1]
          show (match (trAt tr ρ)[i]? with | some x => if (listed.setIfInBounds i true).getD i false = true ∧ r ∈ x.2.1 then lk x.2.2 r else _ | none => _) = _
          rw [hat' ρ h4, hset, if_pos rfl]
          simp [hr]
        · rw [if_neg hr]
          refine cur_same (fun j y hj hy hrx => ?_)
          show (listed.setIfInBounds i true).getD j false = listed.getD j false
          rw [hset, if_neg]
          rintro rfl
          rw [hat' ρ h4] at hy
          cases hy
          exact hr hrx
      have hdown' : ∀ j o, l.toArray[j]? = some o → (listed.setIfInBounds i true).getD j false = true → ∀ e ∈ o.after, Region.binds .any e = true → (listed.setIfInBounds i true).getD e.on false = true := by
        intro j oj hoj hl e he' hb
        rw [hset]
        split
        · rfl
        · rw [hset] at hl
          split at hl
          · rename_i e2; subst e2; rw [ho] at hoj; cases hoj; exact hall e he' hb
          · exact hdown j oj hoj hl e he' hb
      have hcount' : (listed.setIfInBounds i true).toList.count false = fuel := by
        have hli : listed.toList[i] = false := by
          simp [hil2] at hunf
          simpa using hunf
        rw [Array.toList_setIfInBounds, List.count_set (by simpa using hil2), hcount, hli]
        simp
      have hK : ∀ a' w', (∃ ρ N bx', Facts U tr ρ N (fun j => (listed.setIfInBounds i true).getD j false) ∧ SR E bx' (cur s0 (trAt tr ρ) (fun j => (listed.setIfInBounds i true).getD j false) l.length) a' w') → wpAny P .any l.toArray Q fuel (listed.setIfInBounds i true) a' w' :=
        fun a' w' h' => ih _ a' w' (by simpa using hs) hcount' hdown' h'
      unfold wpOp
      simp only [ho]
      have hstep : OW P l.toArray o a w fun a' w' => ∃ ρ N bx', Facts U tr ρ N (fun j => (listed.setIfInBounds i true).getD j false) ∧ SR E bx' (cur s0 (trAt tr ρ) (fun j => (listed.setIfInBounds i true).getD j false) l.length) a' w' := by
        unfold StepOk at h5
        cases hmk : x.mkr with
        | none =>
          rw [hmk] at h5
          refine ((h5 ρ).2 E bx _ a w hE hread hsr).mono ?_
          rintro a' w' ⟨bx', h'⟩
          refine ⟨ρ, N, bx', fun k y src hy hm hk => ?_, by rw [hnew]; exact h'⟩
          have hki : ∀ {k : Nat} {y : TrE} {src : (Nat → Prop) × (Nat → Prop)}, tr[k]? = some y → y.mkr = some src → (listed.setIfInBounds i true).getD k false = true → listed.getD k false = true := fun {k y src} hy hm hk => by
            rw [hset] at hk
            by_cases e : k = i
            · subst e; rw [h4] at hy; cases hy; rw [hmk] at hm; cases hm
            · rwa [if_neg e] at hk
          obtain ⟨f1, f2, f3, f4, f5⟩ := hF k y src hy hm (hki hy hm hk)
          exact ⟨f1, f2, f3, f4, fun k' y' src' hy' hm' hk' => f5 k' y' src' hy' hm' (hki hy' hm' hk')⟩
        | some src =>
          rw [hmk] at h5
          obtain ⟨t1, t2, t3, t4⟩ := h5
          refine (t4 ρ E bx _ a w hE hread hsr).mono ?_
          rintro a' w' ⟨Rn, r1, r2, r3, bx', h'⟩
          have hmk' : x.mkr ≠ none := by rw [hmk]; exact fun e => by cases e
          have hsame : cur s0 (trAt tr (setR ρ i Rn)) (fun i => listed.getD i false) l.length = cur s0 (trAt tr ρ) (fun i => listed.getD i false) l.length := by
            funext r
            have key : ∀ m, m ≤ l.length → cur s0 (trAt tr (setR ρ i Rn)) (fun i => listed.getD i false) m r = cur s0 (trAt tr ρ) (fun i => listed.getD i false) m r := by
              intro m
              induction m with
              | zero => intro _; rfl
              | succ m ihm =>
                intro hm
                obtain ⟨om, hom⟩ : ∃ om, l[m]? = some om := ⟨_, List.getElem?_eq_getElem (by omega)⟩
                obtain ⟨y, hy, _⟩ := hat m om hom
                simp only [cur, hat' (setR ρ i Rn) hy, hat' ρ hy, ihm (by omega)]
                by_cases hc2 : listed.getD m false = true ∧ r ∈ y.W
                · rw [if_pos hc2, if_pos hc2]
                  rcases hind m y hy i x h4 hmk' with q | q | q
                  · have hom' : l.toArray[m]? = some om := by simpa using hom
                    have := bef_listed hdown _ m i om hom' (hdown m om hom' hc2.1) q
                    rw [hunf] at this; cases this
                  · subst q; rw [hunf] at hc2; cases hc2.1
                  · exact q ρ Rn r hc2.2
                · rw [if_neg hc2, if_neg hc2]
            exact key _ (Nat.le_refl _)
          -- what is told at this moment
          have htold : ∀ {r : Res} {S : Nat → Prop}, (∃ t, r = .t t) → cur s0 (trAt tr ρ) (fun i => listed.getD i false) l.length r = .v (.gh S) → ∀ b, S b → b < w.heap.size := by
            rintro r S ⟨t, rfl⟩ hr b hb
            exact (hsr.slot t _ hr b hb).2
          have hUt : cur s0 (trAt tr ρ) (fun i => listed.getD i false) l.length (.t 9998) = .v (.gh U) := by
            rw [cur_stop (i := 0) (Nat.zero_le _) (fun j y _ _ hy hrx => by
              obtain ⟨x', hx', rfl⟩ := hof ρ hy
              exact absurd hrx (hgh j x' hx').1)]
            exact hU
          have hgt : ∀ {k : Nat} {y : TrE} {src' : (Nat → Prop) × (Nat → Prop)}, tr[k]? = some y → y.mkr = some src' → listed.getD k false = true → cur s0 (trAt tr ρ) (fun i => listed.getD i false) l.length (ghR k) = .v (.gh (un (ρ k))) := fun {k y src'} hy hm hk => by
            have hkl : k < l.length := by have := (List.getElem?_eq_some_iff.1 hy).1; omega
            have hne : y.mkr ≠ none := by rw [hm]; exact fun e => by cases e
            rw [cur_stop (i := k + 1) (by omega) (fun j z h1 h2 hz hrx => by
              obtain ⟨x', hx', rfl⟩ := hof ρ hz
              exact absurd hrx ((hgh j x' hx').2 k y hy hne (by omega)))]
            obtain ⟨ok, hok⟩ : ∃ ok, l[k]? = some ok := ⟨_, List.getElem?_eq_getElem hkl⟩
            obtain ⟨y', hy', h6⟩ := hat k ok hok
            rw [hy] at hy'; cases hy'
            unfold StepOk at h6
            rw [hm, Nat.zero_add] at h6
            simp only [cur, hat' ρ hy]
            rw [if_pos ⟨hk, h6.2.1⟩]
            exact h6.2.2.1 ρ
          refine ⟨setR ρ i Rn, fun k => if k = i then (fun b => un Rn b ∧ w.heap.size ≤ b) else N k, bx', fun k y srck hy hm hk => ?_, by rw [hnew, hsame]; exact h'⟩
          have hlisted : ∀ {k : Nat}, k ≠ i → (listed.setIfInBounds i true).getD k false = true → listed.getD k false = true := fun {k} e hk => by rw [hset, if_neg e] at hk; exact hk
          by_cases e : k = i
          · subst e
            rw [h4] at hy; cases hy
            rw [hmk] at hm; cases hm
            simp only [setR_same, if_pos]
            refine ⟨fun j b hb => ⟨(r1 j b hb).imp id fun h => ⟨⟨j, hb⟩, h⟩, r3 j b hb⟩, r2, fun b hb => hb.1, fun b hb hUb => by have := htold ⟨_, rfl⟩ hUt b hUb; omega, fun k' y' src' hy' hm' hk' hne b hb hNk => ?_⟩
            rw [if_neg hne] at hNk
            obtain ⟨_, _, f3, _, _⟩ := hF k' y' src' hy' hm' (hlisted hne hk')
            have := htold ⟨_, rfl⟩ (hgt hy' hm' (hlisted hne hk')) b (f3 b hNk)
            omega
          · obtain ⟨f1, f2, f3, f4, f5⟩ := hF k y srck hy hm (hlisted e hk)
            rw [setR_other _ _ e]
            simp only [if_neg e]
            refine ⟨f1, f2, f3, f4, fun k' y' src' hy' hm' hk' hne b hb hNk => ?_⟩
            by_cases e2 : k' = i
            · subst e2
              rw [if_pos rfl] at hNk
              have := htold ⟨_, rfl⟩ (hgt hy hm (hlisted e hk)) b (f3 b hb)
              omega
            · rw [if_neg e2] at hNk
              exact f5 k' y' src' hy' hm' (hlisted e2 hk') hne b hb hNk
      have hq := (hstep.mono hK) Q
      split
      · rename_i hw; rw [if_pos hw] at hq; exact .inl hq
      · rename_i hw; rw [if_neg hw] at hq; exact hq
end
def RunRK (P : Program) (n : Nat) (ops : Array Oper) (i : Nat) (l : List Oper) (σ : Rho → St) (acc : List TrE) (G : List TrE → (Rho → St) → Prop) : Prop := ∃ tr σ', RunR P n ops i l σ tr σ' ∧ G (acc ++ tr) σ'
def IndR (ops : Array Oper) (i : Nat) : Nat → List TrE → Prop
  | _, [] => True
  | k, y :: t => (bef ops ops.size k i = true ∨ k = i ∨ ∀ (ρ : Rho) (R : Nat → Nat → Prop), y.W.map (lk (y.s (setR ρ i R))) = y.W.map (lk (y.s ρ))) ∧ IndR ops i (k + 1) t
def IndA (ops : Array Oper) (tr : List TrE) : Nat → List TrE → Prop
  | _, [] => True
  | i, x :: t => (match x.mkr with | none => True | some _ => IndR ops i 0 tr) ∧ IndA ops tr (i + 1) t
theorem IndR.at {ops : Array Oper} {i : Nat} : ∀ {tr : List TrE} {k0 k : Nat} {y : TrE}, IndR ops i k0 tr → tr[k]? = some y → bef ops ops.size (k0 + k) i = true ∨ k0 + k = i ∨ ∀ (ρ : Rho) (R : Nat → Nat → Prop), ∀ r ∈ y.W, lk (y.s (setR ρ i R)) r = lk (y.s ρ) r
  | [], _, _, _, _, h => by simp at h
  | z :: t, k0, 0, y, h, hy => by
    simp only [List.getElem?_cons_zero, Option.some.injEq] at hy
    subst hy
    refine h.1.imp id fun h => h.imp id fun h ρ R r hr => ?_
    obtain ⟨q, hq⟩ := List.mem_iff_getElem?.1 hr
    have := congrArg (fun l => l[q]?) (h ρ R)
    simp only [List.getElem?_map, hq, Option.map_some, Option.some.injEq] at this
    exact this
  | z :: t, k0, k + 1, y, h, hy => by
    have := IndR.at h.2 (by simpa using hy)
    rwa [show k0 + 1 + k = k0 + (k + 1) by omega] at this
theorem IndA.at {ops : Array Oper} {tr : List TrE} : ∀ {t : List TrE} {i0 i : Nat} {x : TrE}, IndA ops tr i0 t → t[i]? = some x → x.mkr ≠ none → IndR ops (i0 + i) 0 tr
  | [], _, _, _, _, h, _ => by simp at h
  | z :: t, i0, 0, x, h, hx, hm => by
    simp only [List.getElem?_cons_zero, Option.some.injEq] at hx
    subst hx
    have h1 := h.1
    cases hz : z.mkr with
    | none => exact absurd hz hm
    | some s => rw [hz] at h1; exact h1
  | z :: t, i0, i + 1, x, h, hx, hm => by
    have := IndA.at h.2 (by simpa using hx) hm
    rwa [show i0 + 1 + i = i0 + (i + 1) by omega] at this
theorem ind_of {ops : Array Oper} {tr : List TrE} (h : IndA ops tr 0 tr) : Ind ops tr := fun k y hy i x hx hm => by
  have h1 := (h.at hx hm).at hy
  rw [Nat.zero_add, Nat.zero_add] at h1
  exact h1
def ghoB : Nat → List TrE → Bool
  | _, [] => true
  | k, y :: t => y.W.all (fun r => match r with | .t m => !(Nat.beq m 9998) && (Nat.blt m 20000 || Nat.beq m (20000 + k)) | _ => true) && ghoB (k + 1) t
theorem ghoB_at : ∀ {t : List TrE} {k0 k : Nat} {y : TrE}, ghoB k0 t = true → t[k]? = some y → ∀ m, Res.t m ∈ y.W → m ≠ 9998 ∧ (m < 20000 ∨ m = 20000 + (k0 + k))
  | [], _, _, _, _, h, _, _ => by simp at h
  | z :: t, k0, 0, y, h, hy, m, hm => by
    simp only [List.getElem?_cons_zero, Option.some.injEq] at hy
    subst hy
    rw [ghoB, Bool.and_eq_true] at h
    have := List.all_eq_true.1 h.1 _ hm
    simp only [Bool.and_eq_true, Bool.or_eq_true, Bool.not_eq_true'] at this
    exact ⟨fun e => by subst e; simp at this, this.2.imp (fun h => by simpa using h) fun h => by rw [Nat.add_zero]; exact Nat.eq_of_beq_eq_true h⟩
  | z :: t, k0, k + 1, y, h, hy, m, hm => by
    rw [ghoB, Bool.and_eq_true] at h
    have := ghoB_at h.2 (by simpa using hy) m hm
    exact ⟨this.1, this.2.imp id fun h => by omega⟩
theorem gho_of {tr : List TrE} (h : ghoB 0 tr = true) : Gho tr := fun k y hy => by
  refine ⟨fun hm => ((ghoB_at h hy _ hm).1 rfl).elim, fun i x hx hne hki hm => ?_⟩
  have := (ghoB_at h hy _ hm).2
  omega
section
variable {P : Program} {n : Nat} {ops : Array Oper} {l : List Oper} {o : Oper} {i : Nat} {σ σ' : Rho → St} {R W : List Res} {acc : List TrE} {G : List TrE → (Rho → St) → Prop}
theorem RunRK.nil (h : G acc σ) : RunRK P n ops i [] σ acc G := ⟨[], σ, .nil i σ, by rw [List.append_nil]; exact h⟩
theorem RunRK.cons (h : ∀ ρ, St1 P n ops o (σ ρ) R W (σ' ρ)) (k : RunRK P n ops (i + 1) l σ' (acc ++ [⟨R, W, σ', none⟩]) G) : RunRK P n ops i (o :: l) σ acc G := by
  obtain ⟨tr, σ2, h1, h2⟩ := k
  exact ⟨_, σ2, .cons h h1, by simpa using h2⟩
theorem TStep.call {d : Nat} {fo : Operand} {ar : Array Operand} {ts : Array TypeId} (xs : List Operand) {vs : List V1} {f : FuncId} {cap : List (List D)} {src : Nat → Prop} {r : TRes}
    (h4 : (o.op, o.guard, o.dst, Nat.blt d n && Nat.blt d 9000) = (Op.call { callee := .value fo, args := ar, argTypes := ts }, none, some d, true)) (has : ar = xs.toArray) (hfo : ∀ ρ, ev (σ ρ) fo = some (.o (.c (.fn f cap)))) (hx : ∀ ρ, evL (σ ρ) xs = some vs)
    (hF : FnT P f (vs ++ cap.map fun c => .c (.ptr c)) src r) (href : noRefs vs = true) (hok : r.ok = true) (hsrc : ∀ b, src b → ∃ x ∈ vs, ∃ S, HasV S (.o x) ∧ S b) (hcall : callable P f = true) :
    TStep P n ops o i σ (rd fo ++ rdL xs) [.t d, ghR i] (fun ρ => (.t d, .v (vT (ρ i) r)) :: (ghR i, .v (.gh (un (ρ i)))) :: σ ρ) (src, r.pos) := by
  simp only [Prod.mk.injEq, Bool.and_eq_true] at h4
  obtain ⟨ho, hg, hd, hn, hd9⟩ := h4
  have hd9' : d < 9000 := by simpa using hd9
  refine ⟨fun ρ q hq => ?_, by simp, fun ρ => ?_, fun ρ E bx τ a w hE hR hs => OW.plain hg fun Q => ?_⟩
  · rw [List.mem_cons, List.mem_singleton, not_or] at hq
    rw [lk_other _ _ _ _ (fun e => hq.1 e.symm), lk_other _ _ _ _ (fun e => hq.2 e.symm)]
  · rw [lk_other _ _ _ _ (by simp; omega), lk_same]
  · have hR1 : ∀ q ∈ rd fo, τ q = lk (σ ρ) q := rd_l hR
    have hR2 : ∀ q ∈ rdL xs, τ q = lk (σ ρ) q := rd_r hR
    obtain ⟨cvs, hfe, hcl, hcv⟩ := fnx_ok (bx := bx) (al := Al τ) (show fnx (.fn f cap) = some (f, cap.map fun c => .c (.ptr c)) from rfl) (ev_ok (hfo ρ) hR1 hs).1
    obtain ⟨⟨q1, q2⟩, _⟩ := evL_ok (hx ρ) hR2 hs
    subst has
    have hvals : Vals (V1r (fun _ => (0, 0)) (fun _ => False) (fun _ => True) w) (vs ++ cap.map fun c => .c (.ptr c)) (xs.map a.eval ++ cvs) := by
      refine ⟨by rw [List.length_append, q1, hcl, List.length_append], fun i x v hx hv => ?_⟩
      rw [List.getElem?_append] at hx hv
      by_cases hi : i < vs.length
      · rw [if_pos hi] at hx
        rw [if_pos (by rw [q1]; exact hi)] at hv
        exact (q2 i x v hx hv).to (Same.refl _ _) (fun _ _ _ => trivial) (fun k hk => by rw [noRefs_at href (List.mem_of_getElem? hx)] at hk; cases hk)
      · rw [if_neg hi] at hx
        rw [if_neg (by rw [q1]; exact hi), q1] at hv
        refine (hcv _ _ v hx hv).to (Same.refl _ _) (fun _ _ _ => trivial) (fun k hk => ?_)
        obtain ⟨c, _, rfl⟩ := List.mem_map.1 (List.mem_of_getElem? hx)
        cases hk
    unfold Oper.wp
    rw [run_callV hcall ho hfe w, Oper.upon_enter, hd, show xs.toArray.map a.eval ++ cvs.toArray = (xs.map a.eval ++ cvs).toArray by simp]
    refine (hF.full hok w _ hvals).mono ?_
    rintro e w' ⟨v, Rn, rfl, hb, h1, h2, hps, h3⟩
    have hlt : ∀ j b, Rn j b → b < w'.heap.size := fun j b hj => (hps j b hj).1
    have hs' := hs.world hb
    have hbf : ∀ j b, Rn j b → Bf E bx τ b := fun j b hj => by
      rcases h1 j b hj with h | h
      · obtain ⟨x, hx1, S, hS, hSb⟩ := hsrc b h
        obtain ⟨q, hq⟩ := List.mem_iff_getElem?.1 hx1
        have hql := (List.getElem?_eq_some_iff.1 hq).1
        exact (hS.lt (q2 q x _ hq (List.getElem?_eq_getElem (by omega))) b hSb).1
      · exact ⟨.inr (Nat.le_trans hs.hsize h), fun k hk e => by have := hs.lt hk; omega⟩
    have hp0 := hs'.tell (t := 20000 + i) (x := .gh (un Rn)) (fun b ⟨j, hj⟩ => ⟨hbf j b hj, hlt j b hj⟩) (fun k hk => by cases hk)
    have hp := hp0.put (d := d) (by rw [hE]; simpa using hn) (vT_to (bx' := bx) (al' := Al (upd τ (ghR i) (.v (.gh (un Rn))))) (B' := Bf E bx (upd τ (ghR i) (.v (.gh (un Rn))))) hok h3 (fun j b hj => by rw [Bf_upd_t]; exact hbf j b hj)) (fun k hk => by rw [vT_refs] at hk; cases hk)
    refine ⟨Rn, h1, h2, fun j b hj => (hps j b hj).2, bx, ?_⟩
    show SR E bx (ovr τ [.t d, ghR i] ((.t d, .v (vT (setR ρ i Rn i) r)) :: (ghR i, .v (.gh (un (setR ρ i Rn i)))) :: σ (setR ρ i Rn))) (a.put (some d) v) w'
    rw [setR_same]
    have e1 : ovr τ [.t d, ghR i] ((.t d, .v (vT Rn r)) :: (ghR i, .v (.gh (un Rn))) :: σ (setR ρ i Rn)) = upd (upd τ (ghR i) (.v (.gh (un Rn)))) (.t d) (.v (vT Rn r)) := by
      funext q
      unfold ovr
      by_cases e1 : q = .t d
      · subst e1; rw [if_pos (by simp), lk_same, upd_same]
      · rw [upd_other _ _ e1]
        by_cases e2 : q = ghR i
        · subst e2; rw [if_pos (by simp), lk_other _ _ _ _ (fun e => e1 e.symm), lk_same, upd_same]
        · rw [if_neg (by simp [e1, e2]), upd_other _ _ e2]
    rw [e1]
    exact hp
theorem RunRK.cT {d : Nat} {fo : Operand} {ar : Array Operand} {ts : Array TypeId} (xs : List Operand) {vs : List V1} {f : FuncId} {cap : List (List D)} {src : Nat → Prop} {r : TRes}
    (h4 : (o.op, o.guard, o.dst, Nat.blt d n && Nat.blt d 9000) = (Op.call { callee := .value fo, args := ar, argTypes := ts }, none, some d, true)) (has : ar = xs.toArray) (hfo : ∀ ρ, ev (σ ρ) fo = some (.o (.c (.fn f cap)))) (hx : ∀ ρ, evL (σ ρ) xs = some vs)
    (hF : FnT P f (vs ++ cap.map fun c => .c (.ptr c)) src r) (href : noRefs vs = true) (hok : r.ok = true) (hsrc : ∀ b, src b → ∃ x ∈ vs, ∃ S, HasV S (.o x) ∧ S b)
    (k : RunRK P n ops (i + 1) l (fun ρ => (.t d, .v (vT (ρ i) r)) :: (ghR i, .v (.gh (un (ρ i)))) :: σ ρ) (acc ++ [⟨rd fo ++ rdL xs, [.t d, ghR i], fun ρ => (.t d, .v (vT (ρ i) r)) :: (ghR i, .v (.gh (un (ρ i)))) :: σ ρ, some (src, r.pos)⟩]) G) (hcall : callable P f = true := by kernel_rfl) : RunRK P n ops i (o :: l) σ acc G := by
  obtain ⟨tr, σ2, h1, h2⟩ := k
  exact ⟨_, σ2, .mk (TStep.call xs h4 has hfo hx hF href hok hsrc hcall) h1, by simpa using h2⟩
end
theorem nosrcV {vs : List V1} : ∀ b, none' b → ∃ x ∈ vs, ∃ S, HasV S (.o x) ∧ S b := fun _ h => h.elim
theorem ACode.drawT {P : Program} {n : Nat} {K : Exit → St → Prop} {σ : St} {id : Nat} {l : List Oper} (hm : P.follows .mixedOrders = true) (he : edgesOk l.toArray 0 l = true)
    (h : ∀ U : Nat → Prop, RunRK P n l.toArray 0 l (fun _ => (.t 9998, .v (.gh U)) :: σ) [] fun tr σ1 => ((∀ ρ, chk l.toArray 0 (trAt tr ρ) = true) ∧ IndA l.toArray tr 0 tr ∧ ghoB 0 tr = true) ∧ ∀ ρ N, Facts U tr ρ N (fun _ => true) → (∀ S, Has σ S → ∀ b, S b → U b) → K .normal (σ1 ρ)) : ACode P n (.region id l.toArray true) K σ := by
  intro E bx a w hE hs
  refine wp_region_any hm ?_
  obtain ⟨U, hU⟩ : ∃ U : Nat → Prop, U = fun b => Bf E bx (lk σ) b ∧ b < w.heap.size := ⟨_, rfl⟩
  have hs0 : SR E bx (lk ((.t 9998, .v (.gh U)) :: σ)) a { w with drawn := w.drawn + 1 } := by
    rw [lk_cons]
    exact hs.drew.tell (t := 9998) (x := .gh U) (fun b hb => by rw [hU] at hb; exact hb) (fun k hk => by cases hk)
  obtain ⟨tr, σ1, h1, ⟨h2, h3, h4⟩, h5⟩ := h U
  have hcur : ∀ ρ, cur ((.t 9998, .v (.gh U)) :: σ) (trAt tr ρ) (fun i => (Array.replicate l.length false).getD i false) l.length = lk ((.t 9998, .v (.gh U)) :: σ) := by
    intro ρ
    funext r
    refine (cur_stop (i := 0) (Nat.zero_le _) (fun j x _ hj _ _ => ?_)).trans rfl
    simp [hj]
  simp only [List.nil_append] at h2 h3 h4 h5
  refine wpAny_runR h1 h2 he (ind_of h3) (gho_of h4) (by rw [lk_same]) hE (fun ρ N bx' a' w' hF hs' => ⟨σ1 ρ, bx', h5 ρ N hF (fun S hS b hb => by rw [hU]; exact hs.has hS b hb), hs'⟩) _ _ a _ (by simp) (by simp) (fun j o ho hl => ?_) ⟨fun _ _ _ => False, fun _ _ => False, bx, fun i x src hx _ hi => ?_, ?_⟩
  · have hj : j < l.length := by have := (Array.getElem?_eq_some_iff.1 ho).1; simpa using this
    simp [hj] at hl
  · by_cases hil : i < l.length
    · simp [hil] at hi
    · simp [hil] at hi
  · have : (Array.replicate l.toArray.size false) = Array.replicate l.length false := by simp
    rw [this, hcur]
    exact hs0
theorem Facts.hR {U : Nat → Prop} {tr : List TrE} {ρ : Rho} {N : Nat → Nat → Prop} {σ : St} (hF : Facts U tr ρ N fun _ => true) (hU : ∀ S, Has σ S → ∀ b, S b → U b) (i : Nat) {x : TrE} {src : (Nat → Prop) × (Nat → Prop)} (hx : tr[i]? = some x) (hm : x.mkr = some src) :
    (∀ j b, ρ i j b → src.1 b ∨ ∀ S, Has σ S → ¬ S b) ∧ (∀ j k b, ρ i j b → ρ i k b → j = k) ∧ ∀ j b, ρ i j b → src.2 j := by
  obtain ⟨f1, f2, _, f4, _⟩ := hF i x src hx hm rfl
  exact ⟨fun j b hj => (f1 j b hj).1.imp id fun h S hS hb => f4 b h (hU S hS b hb), f2, fun j b hj => (f1 j b hj).2⟩
/-- Two makers: what both hold came to both. -/
theorem Facts.two {U : Nat → Prop} {tr : List TrE} {ρ : Rho} {N : Nat → Nat → Prop} (hF : Facts U tr ρ N fun _ => true) (i k : Nat) {x y : TrE} {src src' : (Nat → Prop) × (Nat → Prop)} (hx : tr[i]? = some x) (hm : x.mkr = some src) (hy : tr[k]? = some y) (hm' : y.mkr = some src') (hne : Nat.beq k i = false)
    (h1 : ∀ b, src.1 b → U b) (h2 : ∀ b, src'.1 b → U b) : ∀ j j' b, ρ i j b → ρ k j' b → src.1 b ∧ src'.1 b := by
  intro j j' b hi hk
  have hne' : k ≠ i := fun e => by subst e; simp at hne
  obtain ⟨f1, _, _, f4, f5⟩ := hF i x src hx hm rfl
  obtain ⟨g1, _, _, g4, _⟩ := hF k y src' hy hm' rfl
  rcases (f1 j b hi).1 with a1 | a1
  · rcases (g1 j' b hk).1 with a2 | a2
    · exact ⟨a1, a2⟩
    · exact absurd (h1 b a1) (g4 b a2)
  · rcases (g1 j' b hk).1 with a2 | a2
    · exact absurd (h2 b a2) (f4 b a1)
    · exact absurd a2 (f5 k y src' hy hm' rfl hne' b a1)
/-- Boxes that stand: block, type, values. -/
def Bxs (w : World) (l : List (Nat × TypeId × List Value)) : Prop := ∀ b ∈ l, w.heap[b.1]? = some (.cells b.2.2.toArray b.2.1 (0, 0))
section
variable {w w' : World} {l : List (Nat × TypeId × List Value)}
theorem Bxs.lt (h : Bxs w l) {b : Nat × TypeId × List Value} (hb : b ∈ l) : b.1 < w.heap.size := (Array.getElem?_eq_some_iff.1 (h b hb)).1
theorem Bxs.fwd (h : Bxs w l) (hb : Below w.heap.size w w') : Bxs w' l := fun b hm => (hb.block _ (h.lt hm)).trans (h b hm)
theorem Bxs.mark {S : Nat → Prop} (h : Bxs w l) (hm : Marked S w w') (hS : ∀ b ∈ l, ¬ S b.1) : Bxs w' l := fun b hb => (hm.old _ (h.lt hb) (hS b hb)).trans (h b hb)
theorem Bxs.add (h : Bxs w l) (us : List Value) (e : TypeId) : Bxs (w.alloc (.cells us.toArray e)) ((w.heap.size, e, us) :: l) := fun b hb => by
  rcases List.mem_cons.1 hb with rfl | hb
  · exact heap_alloc_new w _
  · exact h.fwd ((Below.refl _ _).alloc (Nat.le_refl _) _) b hb
theorem Bxs.c (h : Bxs w l) (i : Nat) {b : Nat × TypeId × List Value} (hb : l[i]? = some b) (j : Nat) {v : Value} (hv : b.2.2[j]? = some v) : w.cell? ⟨b.1, j, none⟩ = some v := by
  rw [cell_of_row w _ _ _ _ _ (h b (List.mem_of_getElem? hb)), List.getElem?_toArray]; exact hv
end
/-- The values vs read as ds, within B. -/
def Drs (B : Nat → Prop) (w : World) (ds : List D) (vs : List Value) : Prop := vs.length = ds.length ∧ ∀ (i : Nat) d u, ds[i]? = some d → vs[i]? = some u → Dr B w d u
section
variable {B B' : Nat → Prop} {w w' : World} {ds : List D} {vs : List Value}
theorem Drs.v {bx : Nat → Nat × Nat} {al : Nat → Prop} (h : Drs B w ds vs) : V1r bx al B w (ad ds) (.agg vs.toArray) := ⟨vs, rfl, by rw [h.1, List.length_map], fun i c u hc hu => by
  rw [List.getElem?_map] at hc
  cases hx : ds[i]? with
  | none => rw [hx] at hc; cases hc
  | some x => rw [hx] at hc; cases hc; exact h.2 i x u hx hu⟩
theorem Drs.same (h : Drs B w ds vs) (hs : Same B w w') : Drs B w' ds vs := ⟨h.1, fun i d u hd hu => (h.2 i d u hd hu).frame hs⟩
theorem Drs.fwd (h : Drs B w ds vs) (hb : Below w.heap.size w w') : Drs B w' ds vs := h.same (below_sameAll hb _)
theorem Drs.lo {n : Nat} (h : Drs (fun b => b < n) w ds vs) (hb : Below n w w') : Drs (fun b => b < n) w' ds vs := h.same fun b hl _ => hb.block b hl
theorem Drs.mono (h : Drs B w ds vs) (hs : ∀ b, B b → b < w.heap.size → B' b) : Drs B' w ds vs := ⟨h.1, fun i d u hd hu => (h.2 i d u hd hu).mono hs⟩
theorem DrNs.drs {lo : Nat} (h : DrNs lo w ds vs) : Drs (fun _ => True) w ds vs := ⟨h.1, fun i d u hd hu => (h.2 i d u hd hu).dr.mono fun _ _ _ => trivial⟩
theorem DrNs.k {lo : Nat} {S : Nat → Prop} (h : DrNs lo w ds vs) (hS : ∀ b, lo ≤ b → b < w.heap.size → S b) : DrKs w S ds vs := ⟨h.1, fun i d u hd hu => (h.2 i d u hd hu).k hS⟩
theorem DrUs.drs {S : Nat → Prop} (h : DrUs w S ds vs) : Drs (fun _ => True) w ds vs := ⟨h.1, fun i d u hd hu => (h.dr hd hu).mono fun _ _ _ => trivial⟩
end
/-- A call that answers a struct and a flag. -/
theorem Fn.callsS {P : Program} {f : FuncId} {args : List V1} {ds : List D} {b : Bool} {vs : List Value} {w : World} {B : Nat → Prop} (h : Fn P f [] args (.tup [ad ds, bo1 b]) []) (hv : Vals (V1r bx0 al0 B w) args vs) :
    Calls P f vs.toArray w fun e w' => ∃ ys : List Value, e = .returned (.tuple #[.agg ys.toArray, .bool b]) ∧ Below w.heap.size w w' ∧ Drs (fun c => c < w'.heap.size) w' ds ys := by
  refine (h.calls hv).mono ?_
  rintro e w' ⟨⟨v, B', rfl, us, rfl, hl, hx⟩, hb⟩
  obtain ⟨u0, l0, rfl, h0⟩ := len_cons (show us.length = 1 + 1 from hl)
  obtain ⟨u1, l1, rfl, h1⟩ := len_cons (show l0.length = 0 + 1 from h0)
  obtain rfl := len_zero h1
  obtain ⟨ys, rfl, hyl, hy⟩ := hx 0 (ad ds) u0 rfl rfl
  have hb1 : Dr _ w' (.val (.bool b)) u1 := hx 1 (bo1 b) u1 rfl rfl
  cases hb1
  refine ⟨ys, rfl, hb, by rw [hyl, List.length_map], fun i d u hd hu => ?_⟩
  exact Dr.mono (fun c _ hc => hc) (hy i (.d d) u (by rw [List.getElem?_map, hd]; rfl) hu)
theorem FnT.callsS {P : Program} {f : FuncId} {args : List V1} {ds : List D} {b : Bool} {vs : List Value} {w : World} (h : FnT P f args none' (.strB ds b)) (hok : ds.all noTree = true) (hn : ∀ v, D.val v ∈ ds → nsl v = true)
    (hv : Vals (V1r (fun _ => (0, 0)) (fun _ => False) (fun _ => True) w) args vs) :
    Calls P f vs.toArray w fun e w' => ∃ (gs : List Value) (S : Nat → Prop), e = .returned (.tuple #[.agg gs.toArray, .bool b]) ∧ Below w.heap.size w w' ∧ (∀ c, S c → w.heap.size ≤ c ∧ c < w'.heap.size) ∧ DrUs w' S ds gs := by
  refine (h.full hok w vs hv).mono ?_
  rintro e w' ⟨v, R, rfl, hb, h1, h2, h3, us, rfl, hl, hx⟩
  obtain ⟨u0, l0, rfl, h0⟩ := len_cons (show us.length = 1 + 1 from hl)
  obtain ⟨u1, l1, rfl, hl1⟩ := len_cons (show l0.length = 0 + 1 from h0)
  obtain rfl := len_zero hl1
  obtain ⟨gs, rfl, hgl, hg⟩ := hx 0 (ad (tagL R 0 ds)) u0 rfl rfl
  have hb1 : Dr _ w' (.val (.bool b)) u1 := hx 1 (bo1 b) u1 rfl rfl
  cases hb1
  refine ⟨gs, un R, rfl, hb, fun c ⟨j, hj⟩ => ⟨(h1 j c hj).resolve_left id, (h3 j c hj).1⟩, by rw [hgl, List.length_map, tagL_len], R, fun j c hc => ⟨j, hc⟩, fun j j' c => h2 j j' c, fun j d u hd hu => ?_⟩
  have h4 : Dr _ w' (tg (R j) d) u := hg j (.d (tg (R j) d)) u (by rw [List.getElem?_map, tagL_at hd, Nat.zero_add]; rfl) hu
  cases d with
  | val v => cases h4; exact .val _ _ (hn _ (List.mem_of_getElem? hd))
  | list sz rows => cases h4 with | tree _ _ _ _ _ h => exact h
  | tree S x => exact absurd (List.all_eq_true.1 hok _ (List.mem_of_getElem? hd)) (by simp [noTree])
theorem rS_plain (s : Stm) : (rS s).all noTree = true := rfl
theorem rS_nsl (s : Stm) : ∀ v, D.val v ∈ rS s → nsl v = true := fun v hv => by
  have : rS s = [dS s.1.1, dAs s.1.2, dI s.2.k, dI s.2.n, dIs s.2.i.1, dI s.2.i.2, dS s.2.r.1, dAs s.2.r.2, dEs s.2.ks] := rfl
  rw [this] at hv
  simp only [List.mem_cons, dS, dI, dAs, dIs, dEs, D.val.injEq, reduceCtorEq, false_or, or_false, List.not_mem_nil] at hv
  rcases hv with rfl | rfl | rfl | rfl | rfl <;> rfl
theorem wgtV_le : ∀ ds : List D, wgtV ds ≤ wgtL ds
  | [] => Nat.le_refl _
  | .val _ :: ds => by rw [wgtV, wgtL]; have := wgtV_le ds; omega
  | .list _ rows :: ds => by rw [wgtV, wgtL, wgt]; have := wgtV_le ds; omega
  | .tree _ _ :: ds => by rw [wgtV, wgtL]; have := wgtV_le ds; omega
theorem copyStm {s : Stm} (h : szS s ≤ 1048576) : CopyS Try.prog 7 (rS s) := toStmt_c (copyAcc (by rw [szS] at h; omega)) (copyEx s.2 (by rw [szS] at h; omega))
theorem e0_drs {w : World} {B : Nat → Prop} {ds : List D} {v : Value} (h : V1r bx0 al0 B w (ad ds) v) : ∃ us, v = .agg us.toArray ∧ Drs B w ds us := by
  obtain ⟨vs, rfl, hl, h⟩ := h
  exact ⟨vs, rfl, by rw [hl, List.length_map], fun i d u hd hu => h i (.d d) u (by rw [List.getElem?_map, hd]; rfl) hu⟩
theorem tm_at {α β : Type} {l : List α} {fn : α → β} {i q : Nat} (hi : i ≤ l.length) (hq : q < i) : ∃ y ∈ l, ((l.take i).map fn)[q]? = some (fn y) := by
  have h : l[q]? = some l[q] := List.getElem?_eq_getElem (by omega)
  exact ⟨l[q], List.getElem_mem _, by rw [List.getElem?_map, List.getElem?_take, if_pos hq, h]; rfl⟩
def noF : Nat → Nat → Nat → Prop := fun _ _ _ => False
section
variable {α : Type} {fn : α → List D} {l : List α} {i : Nat} {x : α} {F : Nat → Nat → Nat → Prop} {R : Nat → Nat → Prop}
theorem dR_tagT (hx : l[i]? = some x) : dR (tagRs F 0 ((l.take i).map fn)) ++ [(tagL R 0 (fn x)).map C.d] = dR (tagRs (nextF F i R) 0 ((l.take (i + 1)).map fn)) := by
  have hil := (List.getElem?_eq_some_iff.1 hx).1
  have hl : ((l.take i).map fn).length = i := by rw [List.length_map, List.length_take]; omega
  rw [List.take_add_one, hx, List.map_append]
  have := tagRs_snoc (F := F) (R := R) (l := (l.take i).map fn) (r := fn x)
  rw [hl] at this
  show _ = dR (tagRs (nextF F i R) 0 ((l.take i).map fn ++ [fn x]))
  rw [this, dR, dR, List.map_append]; rfl
theorem dR_tag0 (hx : l[0]? = some x) : [(tagL R 0 (fn x)).map C.d] = dR (tagRs (nextF F 0 R) 0 ((l.take (0 + 1)).map fn)) := by
  have := dR_tagT (fn := fn) (F := F) (R := R) hx
  rw [← this]; rfl
theorem isPos_lt {rows : List (List D)} {i j : Nat} (h : isPos rows i j) : i < rows.length := by
  obtain ⟨r, m, rs, h1, _⟩ := h
  exact (List.getElem?_eq_some_iff.1 h1).1
theorem isPos_L {L : Nat → Prop} (hL : ∀ (y : α) j m rs, (fn y)[j]? = some (.list m rs) → L j) {i j : Nat} (h : isPos (l.map fn) i j) : L j := by
  obtain ⟨r, m, rs, h1, h2⟩ := h
  rw [List.getElem?_map] at h1
  cases hy : l[i]? with
  | none => rw [hy] at h1; cases h1
  | some y => rw [hy] at h1; cases h1; exact hL y j m rs h2
theorem FD.pos {O L : Nat → Prop} {rows : List (List D)} {n : Nat} (h : FD O L n F) (hn : rows.length = n) (hL : ∀ i j, isPos rows i j → L j) : ∀ i j i' j' b, isPos rows i j → isPos rows i' j' → F i j b → F i' j' b → i = i' ∧ j = j' := fun i j i' j' b h1 h2 h3 h4 =>
  h.dis i j i' j' b (hn ▸ isPos_lt h1) (hn ▸ isPos_lt h2) (hL i j h1) (hL i' j' h2) h3 h4
theorem Pk.out {σ : St} {k : Nat} {rows : List (List D)} {N O : Nat → Prop} (h : Pk σ k F rows N) (hO : Has σ O) (hF : ∀ i j b, isPos rows i j → F i j b → ¬ O b) : ∀ b, N b → ¬ O b := fun b hb =>
  (h.fr b hb).elim (fun ⟨i, j, h1, h2⟩ => hF i j b h1 h2) fun h => h O hO
end
theorem Cto.nilTE {σ : St} {inv : Inv} {x : D} (sz : Nat) (h : x = .list sz []) : Cto σ inv (.d (.val (.slice none 0 0))) (.d (.tree none' x)) := by subst h; exact .nilT sz

/-! ### The columns that hold trees -/
def colA (j : Nat) : Prop := j = 0
def colX (j : Nat) : Prop := j = 2 ∨ j = 5 ∨ j = 6
def colS (j : Nat) : Prop := j = 1 ∨ j = 4 ∨ j = 7 ∨ j = 8
theorem posA (x : Aff) (j m : Nat) (rs : List (List D)) (h : (rA x)[j]? = some (.list m rs)) : colA j := by
  match j, h with
  | 0, h => rfl
  | 1, h => cases h
theorem posX (x : Ex) (j m : Nat) (rs : List (List D)) (h : (rX x)[j]? = some (.list m rs)) : colX j := by
  cases x with
  | mk k n i r ks =>
    match j, h with
    | 0, h => cases h
    | 1, h => cases h
    | 2, h => exact .inl rfl
    | 3, h => cases h
    | 4, h => cases h
    | 5, h => exact .inr (.inl rfl)
    | 6, h => exact .inr (.inr rfl)
theorem posS (x : Stm) (j m : Nat) (rs : List (List D)) (h : (rS x)[j]? = some (.list m rs)) : colS j := by
  match j, h with
  | 0, h => cases h
  | 1, h => exact .inl rfl
  | 2, h => cases h
  | 3, h => cases h
  | 4, h => exact .inr (.inl rfl)
  | 5, h => cases h
  | 6, h => cases h
  | 7, h => exact .inr (.inr (.inl rfl))
  | 8, h => exact .inr (.inr (.inr rfl))
theorem plain_map {α : Type} {fn : α → List D} {l : List α} (h : ∀ y : α, (fn y).all noTree = true) : plain (l.map fn) := by
  intro r hr x hx
  obtain ⟨y, _, rfl⟩ := List.mem_map.1 hr
  exact List.all_eq_true.1 (h y) x hx
theorem plA : ∀ y : Aff, (rA y).all noTree = true := fun _ => rfl
theorem plX : ∀ y : Ex, (rX y).all noTree = true := fun y => by cases y; rfl
theorem ownI_tree {lo : Nat} {w : World} {v : Value} {xs : List Int} (h : OwnI lo w v xs) (hn : xs.length ≤ 17592186044416) : DrU w (fun b => v.ownBlock = some b) (dIs xs) v := by
  obtain ⟨a, cap, rfl, hc⟩ := h.shape
  by_cases h0 : xs.length = 0
  · have : xs = [] := List.eq_nil_of_length_eq_zero h0
    subst this
    obtain ⟨a', cap', e, _, _, h3, _⟩ := h.sl hn
    cases e
    exact .list _ 1 [] a 0 cap 0 0 (fun _ _ => undef) (fun _ _ _ => False) rfl (Nat.zero_le _) (Nat.zero_le _) h3 (fun h => absurd h (Nat.lt_irrefl _)) (fun i r h => by simp at h) (fun i r j x h => by simp at h) (fun _ _ _ h => h.elim) (fun _ _ _ _ _ h => h.elim) (fun i r j x h => by simp at h)
  · obtain ⟨g, off, rfl, q1, q2, q3, q4, q5⟩ := h.at (by omega)
    obtain ⟨a', cap', e, _, _, h3, h4⟩ := h.sl hn
    cases e
    have hrow : ∀ (i : Nat) r, (xs.map rI)[i]? = some r → ∃ x, xs[i]? = some x ∧ r = rI x := fun i r hr => by
      rw [List.getElem?_map] at hr
      cases hx : xs[i]? with
      | none => rw [hx] at hr; cases hr
      | some x => rw [hx] at hr; cases hr; exact ⟨x, rfl, rfl⟩
    have hob : ∀ i, i < xs.length → Value.ownBlock (.slice (some ⟨g, off, none⟩) xs.length cap) = some g := fun i hi => by
      obtain ⟨b, o, cs, e, hb, _⟩ := h4 i xs[i] (List.getElem?_eq_getElem hi)
      cases e
      exact hb
    refine .list _ 1 (xs.map rI) _ xs.length cap g off (fun i _ => .int .i64 (xs.getD i 0)) (fun _ _ _ => False) (by rw [List.length_map]) hc hn (fun h => by cases h) (fun _ => rfl) (fun i r hr => ?_) (fun i r j x hr hx => ?_) (fun _ _ _ h => h.elim) (fun _ _ _ _ _ h => h.elim) (fun i r j x hr hx => ?_)
    · obtain ⟨x, _, rfl⟩ := hrow i r hr; rfl
    all_goals
      obtain ⟨y, hy, rfl⟩ := hrow i r hr
      have hi := (List.getElem?_eq_some_iff.1 hy).1
      have hj0 : j = 0 ∧ x = dI y := by
        cases j with
        | zero => simp [rI] at hx; exact ⟨rfl, hx.symm⟩
        | succ j => simp [rI] at hx
      obtain ⟨rfl, rfl⟩ := hj0
    · refine ⟨hob i hi, ?_, q5 _⟩
      rw [show off + (i * 1 + 0) = off + i by omega]; exact q4 i hi
    · rw [List.getD, hy]; exact .val _ _ rfl
/-- From a call that leaves a slice of ints of its own. -/
theorem FnT.ofI {P : Program} {f : FuncId} {args : List V1} {xs : List Int} (hn : xs.length ≤ 17592186044416) (h : ∀ (w : World) (vs : List Value), Vals (V1r (fun _ => (0, 0)) (fun _ => False) (fun _ => True) w) args vs → Calls P f vs.toArray w fun e w' => ∃ v, e = .returned v ∧ OwnI w.heap.size w' v xs ∧ Below w.heap.size w w') : FnT P f args none' (.one (dIs xs)) := by
  intro w vs hv
  refine (h w vs hv).mono ?_
  rintro e w' ⟨v, rfl, ho, hb⟩
  exact ⟨v, nthS [fun b => v.ownBlock = some b], rfl, hb, nthS_all (fun S hS b hb => .inr (by rw [List.mem_singleton] at hS; subst hS; exact (ho.lt b hb).1)), nthS_dis (by simp), Dr.tree _ _ _ (fun _ _ => trivial) (fun b hb => (ho.lt b hb).2) (ownI_tree ho hn)⟩
theorem clone_T (p : List Int) (hp : p.length ≤ 4294967296) : FnT Try.prog 105 [vD (dIs p)] none' (.one (dIs p)) :=
  FnT.ofI (by omega) fun w vs hv => by
    obtain ⟨v, rfl, h⟩ := vals1 hv
    have h3 := dr_ints h
    obtain ⟨a, n, c, rfl, rfl⟩ := sl_form h3
    exact (clone_any _ a _ c p w h3 hp).mono fun e w' ⟨v, h1, h2, h4⟩ => ⟨v, h1, h2, h4⟩
/-- Sets that a state holds. -/
def HasE (σ : St) (U : Nat → Prop) : Prop := ∀ b, U b → ∃ S, Has σ S ∧ S b
theorem HasE.of {σ : St} {S : Nat → Prop} (h : Has σ S) : HasE σ S := fun b hb => ⟨S, h, hb⟩
theorem HasE.no {σ : St} : HasE σ none' := fun _ h => h.elim
theorem HasE.or {σ : St} {S T : Nat → Prop} (h : HasE σ S) (h' : HasE σ T) : HasE σ (fun b => S b ∨ T b) := fun b hb => hb.elim (h b) (h' b)
theorem new_ofE {R : Nat → Nat → Prop} {σ : St} {src U : Nat → Prop} (h : ∀ j b, R j b → src b ∨ ∀ S, Has σ S → ¬ S b) (hU : HasE σ U) : ∀ j b, R j b → src b ∨ ¬ U b := fun j b hj => (h j b hj).imp id fun h hb => by
  obtain ⟨S, h1, h2⟩ := hU b hb
  exact h S h1 h2
theorem new_E {R : Nat → Nat → Prop} {σ : St} {U : Nat → Prop} (h : ∀ j b, R j b → none' b ∨ ∀ S, Has σ S → ¬ S b) (hU : HasE σ U) : ∀ j b, R j b → ¬ U b := fun j b hj => (new_ofE h hU j b hj).resolve_left id
theorem Pk.outE {σ : St} {k n : Nat} {F : Nat → Nat → Nat → Prop} {rows : List (List D)} {N U L : Nat → Prop} (h : Pk σ k F rows N) (hU : HasE σ U) (hF : FD U L n F) (hn : rows.length = n) (hL : ∀ i j, isPos rows i j → L j) : ∀ b, N b → ¬ U b := fun b hb hUb => by
  rcases h.fr b hb with ⟨i, j, h1, h2⟩ | h1
  · exact hF.out i j b (hn ▸ isPos_lt h1) (hL i j h1) h2 hUb
  · obtain ⟨S, h2, h3⟩ := hU b hUb
    exact h1 S h2 h3
abbrev or2 (S T : Nat → Prop) : Nat → Prop := fun b => S b ∨ T b

theorem ownAff_T (x : Aff) (hx : x.1.length ≤ 1073741824) : FnT Try.prog 96 [ad (rA x)] (none') (.str (rA x)) := by
 refine FnT.of_code Try.func96 rfl rfl rfl (fun O => ?_)
 refine .seq <| .region <| .cons (St1.boxP rfl rfl rfl rfl rfl rfl) <| .cons (.al 102 [.slice none 0 0, .int .i64 0] rfl rfl rfl) <| .nil <| ks_n <| .seq ?_
 refine ACode.drawT (by kernel_rfl) (by kernel_rfl) (fun Uq1_0 => ?_)
 refine .cons (fun _ => (.fP 0 0 false rfl rfl)) <| .cons (fun _ => (.l1 1 rfl rfl)) ?_
 refine .cT [.tmp 4] rfl rfl (fun _ => rfl) (fun _ => rfl) (clone_T x.1 (by omega)) rfl rfl nosrcV ?_
 refine .cons (fun _ => (.fP 1 0 false rfl rfl)) <| .cons (fun _ => (.l1 1 rfl rfl)) <| .cons (fun _ => (.bu [(0, .tmp 5), (1, .tmp 7)] [(0, 1), (1, 1)] [.slice none 0 0, .int .i64 0] rfl rfl rfl rfl rfl)) <| .cons (fun _ => (.sT 2 true rfl rfl rfl rfl rfl rfl rfl)) ?_
 refine .nil ⟨⟨fun _ => by kernel_rfl, by repeat' (first | exact trivial | exact .inr (.inl rfl) | exact .inr (.inr fun _ _ => rfl) | refine ⟨?_, ?_⟩ | exact .inl (by kernel_rfl)), rfl⟩, fun ρq1_0 Nq1_0 Fq1_0 Wq1_0 => ?_⟩
 obtain ⟨hR5, dR5, pR5⟩ := Fq1_0.hR Wq1_0 2 rfl rfl
 refine ks_n <| .ret ?_
 refine kt_ret (nthS [(ρq1_0 2) 0]) rfl ?_ ?_ ?_
 ·rfl
 ·exact nthS_dis (by first | (simp only [List.pairwise_cons, List.forall_mem_cons, List.not_mem_nil, false_implies, implies_true, and_true, List.Pairwise.nil]; done) | (simp only [List.pairwise_cons, List.forall_mem_cons, List.not_mem_nil, false_implies, implies_true, and_true, List.Pairwise.nil]; simp [none']; done))
 ·exact nthS_all (by simp only [List.forall_mem_cons, List.not_mem_nil, false_implies, implies_true, and_true]; exact (fun b h => .inr (new_of hR5 (gh_has rfl) 0 b h)))

theorem accMap_T {f : FuncId} {cap : List (List D)} (hc : callable Try.prog f = true) (g : Aff → Aff) (a : Acc) (ha : a.2.length ≤ 1073741824) (hg : ∀ x ∈ a.2, FnT Try.prog f (ad (rA x) :: cap.map fun c => .c (.ptr c)) none' (.str (rA (g x)))) : FnT Try.prog 62 [ad (rC a), .c (.fn f cap)] (none') (.str (rC (mapC g a))) := by
 refine FnT.of_code Try.func62 rfl rfl rfl (fun O => ?_)
 refine .seq <| .region <| .cons (St1.boxP rfl rfl rfl rfl rfl rfl) <| .cons (.al 104 [.string ByteArray.empty, .slice none 0 0] rfl rfl rfl) <| .nil <| ks_n <| .seq <| .region <| .cons (.fP 0 0 false rfl rfl) <| .cons (.l1 1 rfl rfl) <| .cons (.bu [(0, .tmp 9)] [(0, 1), (1, 1)] [.string ByteArray.empty, .slice none 0 0] rfl rfl rfl rfl rfl) <| .cons (.al 105 [.string ByteArray.empty, .slice none 0 0] rfl rfl rfl) <| .cons (.sT 2 true rfl rfl rfl rfl rfl rfl rfl) <| .nil <| ks_n <| .seq <| .seq <| .region <| .cons (.fP 1 0 false rfl rfl) <| .cons (.l1 1 rfl rfl) <| .cons (.ln 37 2 32 rfl rfl rfl) <| .cons (.mv rfl rfl) <| .nil <| ks_n <| .block ?_
 refine .loopK (fun m σ => (∃ i : Nat, m = a.2.length - i ∧ (i = 0) ∧ σ = [(.t 1, .v (.o (.c (.fn f cap)))), (.t 2, .v (.o (.c (.ptr (rC a))))), (.t 4, .v (.o (.c (.box 110 2 0 0)))), (.t 5, .v (.o (.c (.box 111 2 0 0)))), (.t 12, .v (.o (vD (dAs a.2)))), (.t 13, .v (.o (nat1 (a.2.length : Nat)))), (.t 14, .v (.o (nat1 (i : Nat)))), (.t 9999, .v (.gh O)), (.b 110, .b 36 2 [[.d (dS ByteArray.empty), .d (.val (.slice none 0 0))]]), (.u 110, .u), (.b 111, .b 36 2 [[.d (dS a.1), .d (.val (.slice none 0 0))]]), (.u 111, .u)]) ∨ (∃ (i : Nat) (F : Nat → Nat → Nat → Prop), m = a.2.length - i ∧ (1 ≤ i) ∧ (i ≤ a.2.length) ∧ (FD (O) colA i F) ∧ σ = [(.t 1, .v (.o (.c (.fn f cap)))), (.t 2, .v (.o (.c (.ptr (rC a))))), (.t 4, .v (.o (.c (.box 110 2 0 0)))), (.t 5, .v (.o (.c (.box 111 2 0 0)))), (.t 12, .v (.o (vD (dAs a.2)))), (.t 13, .v (.o (nat1 (a.2.length : Nat)))), (.t 14, .v (.o (nat1 (i : Nat)))), (.t 9999, .v (.gh O)), (.b 110, .b 36 2 [[.d (dS ByteArray.empty), .d (.val (.slice none 0 0))]]), (.u 110, .u), (.b 112, .b 37 2 (dR (tagRs F 0 ((a.2.take i).map fun x => rA (g x))))), (.u 112, .u), (.b 111, .b 36 2 [[.d (dS a.1), .own 112 2 (i)]]), (.u 111, .u)])) [(110, 104), (111, 105)] (.inl ⟨0, rfl, rfl, rfl⟩) ⟨ks rfl .dt, ks rfl .dt, ks rfl (.c .bx), ks rfl (.c .bx), ks rfl .dt, ks rfl .dt, ks rfl .dt, ks rfl .dt, kb 104 rfl (.cons (.cons .dt (.cons .dt Ctos.nil)) .nil), kb 105 rfl (.cons (.cons .dt (.cons .dt Ctos.nil)) .nil), trivial⟩ ?_
 rintro m σ (⟨i, hm0, rfl, rfl⟩ | ⟨i, F, hm0, hi1, hi2, hFD, rfl⟩)
 ·skip
  refine .seq <| .region <| .cons (.ls rfl rfl rfl) <| .nil <| ks_n <| .seq ?_
  refine .cD rfl (fun h15 => ?_) (fun h15 => ?_)
  ·skip
   obtain ⟨x, hx1⟩ : ∃ x, a.2[0]? = some x := ⟨_, List.getElem?_eq_getElem (by omega)⟩
   refine .skip <| ks_n <| .seq <| .block <| .seq <| .region <| .cons (.xL 37 2 32 rfl rfl rfl rfl rfl) ?_
   refine .cons (.lN 2 rfl rfl rfl) <| .cons (.al 107 [.slice none 0 0, .int .i64 0] rfl rfl rfl) <| .cons (.sT 2 true rfl rfl rfl rfl rfl rfl rfl) <| .nil <| ks_n ?_
   refine ACode.drawT (by kernel_rfl) (by kernel_rfl) (fun Uq5_0 => ?_)
   refine .cons (fun _ => (.fB 1 0 false rfl rfl rfl)) <| .cons (fun _ => (.b1 1 rfl rfl rfl rfl rfl rfl)) <| .cons (fun _ => (.mv rfl rfl)) <| .cons (fun _ => (.bN 2 rfl rfl rfl rfl rfl rfl)) ?_
   refine .cT [.tmp 21] rfl rfl (fun _ => rfl) (fun _ => rfl) (hg x (List.mem_of_getElem? hx1)) rfl rfl nosrcV ?_ hc
   refine .cons (fun _ => (.li 37 1 0 [.tmp 22] rfl rfl rfl rfl rfl rfl)) <| .cons (fun _ => (St1.appN (k' := 124) (e := 37) (sz := 1) (by' := 32) rfl rfl rfl rfl rfl (by kernel_rfl) rfl rfl rfl (by simp) (by first | (simp [dR, tagRs_len]; done) | (simp [dR, tagRs_len]; omega)) rfl rfl)) ?_
   refine .cons (fun _ => (.fB 1 0 false rfl rfl rfl)) <| .cons (fun _ => (.sT 1 false rfl rfl rfl rfl rfl rfl rfl)) ?_
   refine .nil ⟨⟨fun _ => by kernel_rfl, by repeat' (first | exact trivial | exact .inr (.inl rfl) | exact .inr (.inr fun _ _ => rfl) | refine ⟨?_, ?_⟩ | exact .inl (by kernel_rfl)), rfl⟩, fun ρq5_0 Nq5_0 Fq5_0 Wq5_0 => ?_⟩
   obtain ⟨hR22, dR22, pR22⟩ := Fq5_0.hR Wq5_0 4 rfl rfl
   refine kb_n <| ks_n <| .region <| .cons (.pl rfl rfl rfl) <| .cons (.mv rfl rfl) <| .nil ?_
   refine kl_k [(110, 110), (111, 111), (112, 124)] (.inr ⟨1, nextF noF 0 (ρq5_0 4), rfl, by omega, by omega, (FD.zero (O) colA noF).next (new_E hR22 (.of (gh_has rfl))) dR22 (fun _ _ _ _ h => by omega), rfl⟩) ⟨ks rfl .dt, ks rfl .dt, ks rfl (.c .bx), ks rfl (.c .bx), ks rfl .dt, ks rfl .dt, ks rfl .dt, ks rfl .dt, kb 110 rfl (.cons (.cons .dt (.cons .dt Ctos.nil)) .nil), kb 124 rfl (.dt rfl (by first | rfl | (rw [← dR_tagT hx1]; rfl) | (rw [← dR_tag0 hx1]; rfl))), kb 111 rfl (.cons (.cons .dt (.cons .ow Ctos.nil)) .nil), trivial⟩
  ·skip
   have hn : a.2 = [] := List.eq_nil_of_length_eq_zero (by omega)
   refine .exit <| ks_e <| kl_e <| kb_hit <| ks_n <| .seq <| .region <| .cons (.bN 2 rfl rfl rfl rfl rfl rfl) <| .cons (.sT 2 true rfl rfl rfl rfl rfl rfl rfl) <| .nil <| ks_n <| .ret ?_
   refine kt_wret (nthS [none', none']) [(.t 4, .v (.o (.c (.box 100 2 0 0)))), (.b 100, .b 36 2 [[.d (dS a.1), (.d (.tree none' (dAs (a.2.map g))))]]), (.u 100, .u)] (Wk.keep [(100, 110)] rfl rfl ⟨ks rfl (.c .bx), kb 110 rfl (.cons (.cons .dt (.cons (Cto.nilTE 2 (by rw [hn]; rfl)) Ctos.nil)) .nil), trivial⟩) rfl ?_ ?_ ?_
   ·rfl
   ·exact nthS_dis (by first | (simp only [List.pairwise_cons, List.forall_mem_cons, List.not_mem_nil, false_implies, implies_true, and_true, List.Pairwise.nil]; done) | (simp only [List.pairwise_cons, List.forall_mem_cons, List.not_mem_nil, false_implies, implies_true, and_true, List.Pairwise.nil]; simp [none']; done))
   ·exact nthS_all (by simp only [List.forall_mem_cons, List.not_mem_nil, false_implies, implies_true, and_true]; exact ⟨(fun b h => h.elim), (fun b h => h.elim)⟩)
 ·skip
  refine .seq <| .region <| .cons (.ls rfl rfl rfl) <| .nil <| ks_n <| .seq ?_
  refine .cD rfl (fun h15 => ?_) (fun h15 => ?_)
  ·skip
   obtain ⟨x, hx1⟩ : ∃ x, a.2[i]? = some x := ⟨_, List.getElem?_eq_getElem (by omega)⟩
   refine .skip <| ks_n <| .seq <| .block <| .seq <| .region <| .cons (.xL 37 2 32 rfl rfl rfl rfl rfl) ?_
   refine .cons (.lN 2 rfl rfl rfl) <| .cons (.al 107 [.slice none 0 0, .int .i64 0] rfl rfl rfl) <| .cons (.sT 2 true rfl rfl rfl rfl rfl rfl rfl) <| .nil <| ks_n ?_
   refine ACode.drawT (by kernel_rfl) (by kernel_rfl) (fun Uq5_1 => ?_)
   refine .cons (fun _ => (.fB 1 0 false rfl rfl rfl)) <| .cons (fun _ => (.b1 1 rfl rfl rfl rfl rfl rfl)) <| .cons (fun _ => (.mv rfl rfl)) <| .cons (fun _ => (.bN 2 rfl rfl rfl rfl rfl rfl)) ?_
   refine .cT [.tmp 21] rfl rfl (fun _ => rfl) (fun _ => rfl) (hg x (List.mem_of_getElem? hx1)) rfl rfl nosrcV ?_ hc
   refine .cons (fun _ => (.li 37 1 0 [.tmp 22] rfl rfl rfl rfl rfl rfl)) <| .cons (fun _ => (St1.appB (k' := 124) (e := 37) (sz := 1) (by' := 32) rfl rfl rfl rfl rfl (by kernel_rfl) rfl rfl rfl rfl (by first | (simp [dR, tagRs_len]; done) | (simp [dR, tagRs_len]; omega)) (by first | (simp [dR, tagRs_len]; done) | (simp [dR, tagRs_len]; omega)) rfl rfl rfl)) ?_
   refine .cons (fun _ => (.fB 1 0 false rfl rfl rfl)) <| .cons (fun _ => (.sT 1 false rfl rfl rfl rfl rfl rfl rfl)) ?_
   refine .nil ⟨⟨fun _ => by kernel_rfl, by repeat' (first | exact trivial | exact .inr (.inl rfl) | exact .inr (.inr fun _ _ => rfl) | refine ⟨?_, ?_⟩ | exact .inl (by kernel_rfl)), rfl⟩, fun ρq5_1 Nq5_1 Fq5_1 Wq5_1 => ?_⟩
   obtain ⟨hR22, dR22, pR22⟩ := Fq5_1.hR Wq5_1 4 rfl rfl
   have hRF : ∀ q c c' b, q < i → colA c → F q c b → ¬ (ρq5_1 4) c' b := fun q c c' b hq hc hF hb => by
    obtain ⟨y, _, hy⟩ := tm_at (fn := (fun x => rA (g x))) hi2 hq
    have hc : c = 0 := hc
    subst hc
    exact new_of hR22 (Has.rows (k := 112) rfl hy rfl) c' b hb hF
   refine kb_n <| ks_n <| .region <| .cons (.pl rfl rfl rfl) <| .cons (.mv rfl rfl) <| .nil ?_
   refine kl_k [(110, 110), (111, 111), (112, 124)] (.inr ⟨i + 1, nextF F i (ρq5_1 4), rfl, by omega, by omega, hFD.next (new_E hR22 (.of (gh_has rfl))) dR22 hRF, rfl⟩) ⟨ks rfl .dt, ks rfl .dt, ks rfl (.c .bx), ks rfl (.c .bx), ks rfl .dt, ks rfl .dt, ks rfl .dt, ks rfl .dt, kb 110 rfl (.cons (.cons .dt (.cons .dt Ctos.nil)) .nil), kb 124 rfl (.dt rfl (by first | rfl | (rw [← dR_tagT hx1]; rfl) | (rw [← dR_tag0 hx1]; rfl))), kb 111 rfl (.cons (.cons .dt (.cons .ow Ctos.nil)) .nil), trivial⟩
  ·skip
   obtain rfl : i = a.2.length := by omega
   refine .exit <| ks_e <| kl_e <| kb_hit <| ks_n <| .seq ?_
   refine .keep [(.t 4, .v (.o (.c (.box 570 2 0 0)))), (.t 5, .v (.o (.c (.box 571 2 0 0)))), (.t 9999, .v (.gh O)), (.b 570, .b 36 2 [[.d (dS ByteArray.empty), .d (.val (.slice none 0 0))]]), (.u 570, .u), (.b 572, .b 37 2 (dR (tagRs F 0 ((a.2.map g).map rA)))), (.u 572, .u), (.b 571, .b 36 2 [[.d (dS a.1), .own 572 2 (((a.2.map g).map rA).length)]]), (.u 571, .u)] [(570, 110), (571, 111), (572, 112)] ⟨ks rfl (.c .bx), ks rfl (.c .bx), ks rfl .dt, kb 110 rfl (.cons (.cons .dt (.cons .dt Ctos.nil)) .nil), kb 112 rfl (.dt rfl (by rw [List.take_length, List.map_map]; rfl)), kb 111 rfl (.cons (.cons .dt (.cons .ow Ctos.nil)) .nil), trivial⟩ ?_
   refine ACode.packB 571 0 1 572 (rows := (a.2.map g).map rA) (F := F) rfl rfl rfl rfl rfl (plain_map plA) (hFD.pos (by simp) (fun i j h => isPos_L posA h)) (by simp; omega) (fun N hN => ?_)
   have hNO := hN.outE (.of (gh_has rfl)) hFD (by simp) (fun i j h => isPos_L posA h)
   refine .region <| .cons (.bN 2 rfl rfl rfl rfl rfl rfl) <| .cons (.sT 2 true rfl rfl rfl rfl rfl rfl rfl) <| .nil <| ks_n <| .ret ?_
   refine kt_ret (nthS [none', N]) rfl ?_ ?_ ?_
   ·rfl
   ·exact nthS_dis (by first | (simp only [List.pairwise_cons, List.forall_mem_cons, List.not_mem_nil, false_implies, implies_true, and_true, List.Pairwise.nil]; done) | (simp only [List.pairwise_cons, List.forall_mem_cons, List.not_mem_nil, false_implies, implies_true, and_true, List.Pairwise.nil]; simp [none']; done))
   ·exact nthS_all (by simp only [List.forall_mem_cons, List.not_mem_nil, false_implies, implies_true, and_true]; exact ⟨(fun b h => h.elim), (fun b h => .inr (hNO b h))⟩)

theorem posE (x : Ex) (j m : Nat) (rs : List (List D)) (h : (rE x)[j]? = some (.list m rs)) : colX j := posX x j m rs (by rw [← rE_eq]; exact h)
theorem plE (y : Ex) : (rE y).all noTree = true := by rw [rE_eq]; exact plX y
theorem tag_ex {F : Nat → Nat → Nat → Prop} (f : Ex → Ex) (l : List Ex) : tagRs F 0 ((l.take l.length).map fun x => rX (f x)) = tagRs F 0 ((l.map f).map rE) := by
  rw [List.take_length, List.map_map]
  congr 1
  exact List.map_congr_left fun x _ => (rE_eq _).symm

theorem exprMap_T1 {f : FuncId} {cap : List (List D)} (hc : callable Try.prog f = true) (g : Aff → Aff) (e : Ex) (hr : e.r.2.length ≤ 1073741824) (hk : e.ks.length ≤ 1073741824) (hg : ∀ x ∈ affsE e, FnT Try.prog f (ad (rA x) :: cap.map fun c => .c (.ptr c)) none' (.str (rA (g x)))) (ih : ∀ x ∈ e.ks, FnT Try.prog 63 [ad (rX x), .c (.fn f cap)] none' (.str (rX (mapE g x)))) : FnT Try.prog 63 [ad (rX e), .c (.fn f cap)] (none') (.str (rX (mapE g e))) := by
 refine FnT.of_code Try.func63 rfl rfl rfl (fun O => ?_)
 refine .seq <| .region <| .cons (St1.boxP rfl rfl rfl rfl rfl rfl) <| .cons (.al 104 [.int .i64 0, .int .i64 0, .slice none 0 0, .int .i64 0, .string ByteArray.empty, .slice none 0 0, .slice none 0 0] rfl rfl rfl) <| .nil <| ks_n <| .seq <| .region <| .cons (.fP 0 0 false rfl rfl) <| .cons (.l1 1 rfl rfl) <| .cons (.fP 1 0 false rfl rfl) <| .cons (.l1 1 rfl rfl) <| .cons (.bu [(0, .tmp 9), (1, .tmp 11)] [(0, 1), (1, 1), (2, 2), (4, 2), (6, 1)] [.int .i64 0, .int .i64 0, .slice none 0 0, .int .i64 0, .string ByteArray.empty, .slice none 0 0, .slice none 0 0] rfl rfl rfl rfl rfl) <| .cons (.al 105 [.int .i64 0, .int .i64 0, .slice none 0 0, .int .i64 0, .string ByteArray.empty, .slice none 0 0, .slice none 0 0] rfl rfl rfl) <| .cons (.sT 7 true rfl rfl rfl rfl rfl rfl rfl) <| .nil <| ks_n <| .seq <| .seq <| .region <| .cons (.fP 0 0 false rfl rfl) <| .cons (.l1 1 rfl rfl) <| .nil <| ks_n <| .block <| .seq <| .region <| .cons (.eq rfl rfl rfl) <| .cons (.asg rfl rfl) <| .nil <| ks_n ?_
 refine .cD rfl (fun h15 => ?_) (fun h15 => ?_)
 ·skip
  refine .region <| .cons (.mv rfl rfl) <| .cons (.fP 2 1 true rfl rfl) <| .cons (.lN 2 rfl rfl rfl) ?_
  refine AOps.cT [.tmp 19] rfl rfl rfl rfl (hg _ (affsE_i h15)) rfl rfl nosrc (fun R20 hR20 dR20 pR20 => ?_) hc
  refine .cons (.fB 2 1 true rfl rfl rfl) <| .cons (.sT 2 true rfl rfl rfl rfl rfl rfl rfl) <| .nil <| kb_n <| ks_n <| .seq <| .seq <| .region <| .cons (.fP 6 0 false rfl rfl) <| .cons (.l1 1 rfl rfl) <| .cons (.ln 40 7 112 rfl rfl rfl) <| .cons (.mv rfl rfl) <| .nil <| ks_n <| .block ?_
  refine .loopK (fun m σ => (∃ i : Nat, m = e.ks.length - i ∧ (i = 0) ∧ σ = [(.t 1, .v (.o (.c (.fn f cap)))), (.t 2, .v (.o (.c (.ptr (rX e))))), (.t 4, .v (.o (.c (.box 110 7 0 0)))), (.t 5, .v (.o (.c (.box 111 7 0 0)))), (.t 30, .v (.o (vD (dEs e.ks)))), (.t 31, .v (.o (nat1 (e.ks.length : Nat)))), (.t 32, .v (.o (nat1 (i : Nat)))), (.t 9999, .v (.gh O)), (.b 110, .b 40 7 [[.d (dI 0), .d (dI 0), .d (.val (.slice none 0 0)), .d (dI 0), .d (dS ByteArray.empty), .d (.val (.slice none 0 0)), .d (.val (.slice none 0 0))]]), (.u 110, .u), (.b 111, .b 40 7 [[.d (dI e.k), .d (dI e.n), .d (.tree (R20 0) (dIs (g e.i).1)), .d (dI (g e.i).2), .d (dS ByteArray.empty), .d (.val (.slice none 0 0)), .d (.val (.slice none 0 0))]]), (.u 111, .u)]) ∨ (∃ (i : Nat) (F : Nat → Nat → Nat → Prop), m = e.ks.length - i ∧ (1 ≤ i) ∧ (i ≤ e.ks.length) ∧ (FD (or2 O (R20 0)) colX i F) ∧ σ = [(.t 1, .v (.o (.c (.fn f cap)))), (.t 2, .v (.o (.c (.ptr (rX e))))), (.t 4, .v (.o (.c (.box 110 7 0 0)))), (.t 5, .v (.o (.c (.box 111 7 0 0)))), (.t 30, .v (.o (vD (dEs e.ks)))), (.t 31, .v (.o (nat1 (e.ks.length : Nat)))), (.t 32, .v (.o (nat1 (i : Nat)))), (.t 9999, .v (.gh O)), (.b 110, .b 40 7 [[.d (dI 0), .d (dI 0), .d (.val (.slice none 0 0)), .d (dI 0), .d (dS ByteArray.empty), .d (.val (.slice none 0 0)), .d (.val (.slice none 0 0))]]), (.u 110, .u), (.b 112, .b 40 7 (dR (tagRs F 0 ((e.ks.take i).map fun x => rX (mapE g x))))), (.u 112, .u), (.b 111, .b 40 7 [[.d (dI e.k), .d (dI e.n), .d (.tree (R20 0) (dIs (g e.i).1)), .d (dI (g e.i).2), .d (dS ByteArray.empty), .d (.val (.slice none 0 0)), .own 112 7 (i)]]), (.u 111, .u)])) [(110, 104), (111, 105)] (.inl ⟨0, rfl, rfl, rfl⟩) ⟨ks rfl .dt, ks rfl .dt, ks rfl (.c .bx), ks rfl (.c .bx), ks rfl .dt, ks rfl .dt, ks rfl .dt, ks rfl .dt, kb 104 rfl (.cons (.cons .dt (.cons .dt (.cons .dt (.cons .dt (.cons .dt (.cons .dt (.cons .dt Ctos.nil))))))) .nil), kb 105 rfl (.cons (.cons .dt (.cons .dt (.cons .dt (.cons .dt (.cons .dt (.cons .dt (.cons .dt Ctos.nil))))))) .nil), trivial⟩ ?_
  rintro m σ (⟨i, hm0, rfl, rfl⟩ | ⟨i, F, hm0, hi1, hi2, hFD, rfl⟩)
  ·skip
   refine .seq <| .region <| .cons (.ls rfl rfl rfl) <| .nil <| ks_n <| .seq ?_
   refine .cD rfl (fun h33 => ?_) (fun h33 => ?_)
   ·skip
    obtain ⟨x, hx1⟩ : ∃ x, e.ks[0]? = some x := ⟨_, List.getElem?_eq_getElem (by omega)⟩
    refine .skip <| ks_n <| .seq <| .block <| .seq <| .region <| .cons (.xL 40 7 112 rfl rfl rfl rfl rfl (rE_at hx1)) ?_
    refine .cons (.lN 7 rfl rfl rfl) <| .cons (.al 107 [.int .i64 0, .int .i64 0, .slice none 0 0, .int .i64 0, .string ByteArray.empty, .slice none 0 0, .slice none 0 0] rfl rfl rfl) <| .cons (.sT 7 true rfl rfl rfl rfl rfl rfl rfl) <| .nil <| ks_n ?_
    refine ACode.drawT (by kernel_rfl) (by kernel_rfl) (fun Uq10_0 => ?_)
    refine .cons (fun _ => (.fB 6 0 false rfl rfl rfl)) <| .cons (fun _ => (.b1 1 rfl rfl rfl rfl rfl rfl)) <| .cons (fun _ => (.bN 7 rfl rfl rfl rfl rfl rfl)) <| .cons (fun _ => (.mv rfl rfl)) ?_
    refine .cT [.tmp 38, .tmp 39] rfl rfl (fun _ => rfl) (fun _ => rfl) (ih x (List.mem_of_getElem? hx1)) rfl rfl nosrcV ?_
    refine .cons (fun _ => (.li 40 6 0 [.tmp 40] rfl rfl rfl rfl rfl rfl)) <| .cons (fun _ => (St1.appN (k' := 142) (e := 40) (sz := 6) (by' := 112) rfl rfl rfl rfl rfl (by kernel_rfl) rfl rfl rfl (by simp) (by first | (simp [dR, tagRs_len]; done) | (simp [dR, tagRs_len]; omega)) rfl rfl)) ?_
    refine .cons (fun _ => (.fB 6 0 false rfl rfl rfl)) <| .cons (fun _ => (.sT 1 false rfl rfl rfl rfl rfl rfl rfl)) ?_
    refine .nil ⟨⟨fun _ => by kernel_rfl, by repeat' (first | exact trivial | exact .inr (.inl rfl) | exact .inr (.inr fun _ _ => rfl) | refine ⟨?_, ?_⟩ | exact .inl (by kernel_rfl)), rfl⟩, fun ρq10_0 Nq10_0 Fq10_0 Wq10_0 => ?_⟩
    obtain ⟨hR40, dR40, pR40⟩ := Fq10_0.hR Wq10_0 4 rfl rfl
    refine kb_n <| ks_n <| .region <| .cons (.pl rfl rfl rfl) <| .cons (.mv rfl rfl) <| .nil ?_
    refine kl_k [(110, 110), (111, 111), (112, 142)] (.inr ⟨1, nextF noF 0 (ρq10_0 4), rfl, by omega, by omega, (FD.zero (or2 O (R20 0)) colX noF).next (new_E hR40 ((HasE.of (gh_has rfl)).or (.of (Has.box (i := 0) (j := 2) 111 rfl rfl rfl (.d (.tree _)))))) dR40 (fun _ _ _ _ h => by omega), rfl⟩) ⟨ks rfl .dt, ks rfl .dt, ks rfl (.c .bx), ks rfl (.c .bx), ks rfl .dt, ks rfl .dt, ks rfl .dt, ks rfl .dt, kb 110 rfl (.cons (.cons .dt (.cons .dt (.cons .dt (.cons .dt (.cons .dt (.cons .dt (.cons .dt Ctos.nil))))))) .nil), kb 142 rfl (.dt rfl (by first | rfl | (rw [← dR_tagT hx1]; rfl) | (rw [← dR_tag0 hx1]; rfl))), kb 111 rfl (.cons (.cons .dt (.cons .dt (.cons .dt (.cons .dt (.cons .dt (.cons .dt (.cons .ow Ctos.nil))))))) .nil), trivial⟩
   ·skip
    have hn : e.ks = [] := List.eq_nil_of_length_eq_zero (by omega)
    refine .exit <| ks_e <| kl_e <| kb_hit <| ks_n <| .seq <| .region <| .cons (.bN 7 rfl rfl rfl rfl rfl rfl) <| .cons (.sT 7 true rfl rfl rfl rfl rfl rfl rfl) <| .nil <| ks_n <| .ret ?_
    refine kt_wret (nthS [none', none', R20 0, none', none', none', none']) [(.t 4, .v (.o (.c (.box 100 7 0 0)))), (.b 100, .b 40 7 [[.d (dI e.k), .d (dI e.n), (.d (.tree (R20 0) (dIs (if e.k = 2 then g e.i else ([], 0)).1))), .d (dI (if e.k = 2 then g e.i else ([], 0)).2), .d (dS (if e.k = 3 then mapC g e.r else (ByteArray.empty, [])).1), (.d (.tree none' (dAs (if e.k = 3 then mapC g e.r else (ByteArray.empty, [])).2))), (.d (.tree none' (dEs (e.ks.map (mapE g)))))]]), (.u 100, .u)] (Wk.keep [(100, 110)] rfl rfl ⟨ks rfl (.c .bx), kb 110 rfl (.cons (.cons .dt (.cons .dt (.cons (.dt (by rw [if_pos h15])) (.cons (.dt (by first | (rw [if_pos h15]; done) | (rw [if_pos h22]; done) | (rw [if_neg (show ¬ e.k = 2 by omega)]; done) | (rw [if_neg (show ¬ e.k = 3 by omega)]; done))) (.cons (.dt (by first | (rw [if_pos h15]; done) | (rw [if_pos h22]; done) | (rw [if_neg (show ¬ e.k = 2 by omega)]; done) | (rw [if_neg (show ¬ e.k = 3 by omega)]; done))) (.cons (Cto.nilTE 2 (by rw [if_neg (show ¬ e.k = 3 by first | assumption | omega)]; rfl)) (.cons (Cto.nilTE 7 (by rw [hn]; rfl)) Ctos.nil))))))) .nil), trivial⟩) rfl ?_ ?_ ?_
    ·rw [rX_map]; rfl
    ·exact nthS_dis (by first | (simp only [List.pairwise_cons, List.forall_mem_cons, List.not_mem_nil, false_implies, implies_true, and_true, List.Pairwise.nil]; done) | (simp only [List.pairwise_cons, List.forall_mem_cons, List.not_mem_nil, false_implies, implies_true, and_true, List.Pairwise.nil]; simp [none']; done) | (simp only [List.pairwise_cons, List.forall_mem_cons, List.not_mem_nil, false_implies, implies_true, and_true, List.Pairwise.nil]; simp [none']; exact fun b h1 h2 => hNO b h2 (.inr h1)))
    ·exact nthS_all (by simp only [List.forall_mem_cons, List.not_mem_nil, false_implies, implies_true, and_true]; exact ⟨(fun b h => h.elim), (fun b h => h.elim), (fun b h => .inr ((new_of hR20 (gh_has rfl) 0) b h)), (fun b h => h.elim), (fun b h => h.elim), (fun b h => h.elim), (fun b h => h.elim)⟩)
  ·skip
   refine .seq <| .region <| .cons (.ls rfl rfl rfl) <| .nil <| ks_n <| .seq ?_
   refine .cD rfl (fun h33 => ?_) (fun h33 => ?_)
   ·skip
    obtain ⟨x, hx1⟩ : ∃ x, e.ks[i]? = some x := ⟨_, List.getElem?_eq_getElem (by omega)⟩
    refine .skip <| ks_n <| .seq <| .block <| .seq <| .region <| .cons (.xL 40 7 112 rfl rfl rfl rfl rfl (rE_at hx1)) ?_
    refine .cons (.lN 7 rfl rfl rfl) <| .cons (.al 107 [.int .i64 0, .int .i64 0, .slice none 0 0, .int .i64 0, .string ByteArray.empty, .slice none 0 0, .slice none 0 0] rfl rfl rfl) <| .cons (.sT 7 true rfl rfl rfl rfl rfl rfl rfl) <| .nil <| ks_n ?_
    refine ACode.drawT (by kernel_rfl) (by kernel_rfl) (fun Uq10_1 => ?_)
    refine .cons (fun _ => (.fB 6 0 false rfl rfl rfl)) <| .cons (fun _ => (.b1 1 rfl rfl rfl rfl rfl rfl)) <| .cons (fun _ => (.bN 7 rfl rfl rfl rfl rfl rfl)) <| .cons (fun _ => (.mv rfl rfl)) ?_
    refine .cT [.tmp 38, .tmp 39] rfl rfl (fun _ => rfl) (fun _ => rfl) (ih x (List.mem_of_getElem? hx1)) rfl rfl nosrcV ?_
    refine .cons (fun _ => (.li 40 6 0 [.tmp 40] rfl rfl rfl rfl rfl rfl)) <| .cons (fun _ => (St1.appB (k' := 142) (e := 40) (sz := 6) (by' := 112) rfl rfl rfl rfl rfl (by kernel_rfl) rfl rfl rfl rfl (by first | (simp [dR, tagRs_len]; done) | (simp [dR, tagRs_len]; omega)) (by first | (simp [dR, tagRs_len]; done) | (simp [dR, tagRs_len]; omega)) rfl rfl rfl)) ?_
    refine .cons (fun _ => (.fB 6 0 false rfl rfl rfl)) <| .cons (fun _ => (.sT 1 false rfl rfl rfl rfl rfl rfl rfl)) ?_
    refine .nil ⟨⟨fun _ => by kernel_rfl, by repeat' (first | exact trivial | exact .inr (.inl rfl) | exact .inr (.inr fun _ _ => rfl) | refine ⟨?_, ?_⟩ | exact .inl (by kernel_rfl)), rfl⟩, fun ρq10_1 Nq10_1 Fq10_1 Wq10_1 => ?_⟩
    obtain ⟨hR40, dR40, pR40⟩ := Fq10_1.hR Wq10_1 4 rfl rfl
    have hRF : ∀ q c c' b, q < i → colX c → F q c b → ¬ (ρq10_1 4) c' b := fun q c c' b hq hc hF hb => by
     obtain ⟨y, _, hy⟩ := tm_at (fn := (fun x => rX (mapE g x))) hi2 hq
     rcases hc with rfl | rfl | rfl
     ·exact new_of hR40 (Has.rows (k := 112) rfl hy rfl) c' b hb hF
     ·exact new_of hR40 (Has.rows (k := 112) rfl hy rfl) c' b hb hF
     ·exact new_of hR40 (Has.rows (k := 112) rfl hy rfl) c' b hb hF
    refine kb_n <| ks_n <| .region <| .cons (.pl rfl rfl rfl) <| .cons (.mv rfl rfl) <| .nil ?_
    refine kl_k [(110, 110), (111, 111), (112, 142)] (.inr ⟨i + 1, nextF F i (ρq10_1 4), rfl, by omega, by omega, hFD.next (new_E hR40 ((HasE.of (gh_has rfl)).or (.of (Has.box (i := 0) (j := 2) 111 rfl rfl rfl (.d (.tree _)))))) dR40 hRF, rfl⟩) ⟨ks rfl .dt, ks rfl .dt, ks rfl (.c .bx), ks rfl (.c .bx), ks rfl .dt, ks rfl .dt, ks rfl .dt, ks rfl .dt, kb 110 rfl (.cons (.cons .dt (.cons .dt (.cons .dt (.cons .dt (.cons .dt (.cons .dt (.cons .dt Ctos.nil))))))) .nil), kb 142 rfl (.dt rfl (by first | rfl | (rw [← dR_tagT hx1]; rfl) | (rw [← dR_tag0 hx1]; rfl))), kb 111 rfl (.cons (.cons .dt (.cons .dt (.cons .dt (.cons .dt (.cons .dt (.cons .dt (.cons .ow Ctos.nil))))))) .nil), trivial⟩
   ·skip
    obtain rfl : i = e.ks.length := by omega
    refine .exit <| ks_e <| kl_e <| kb_hit <| ks_n <| .seq ?_
    refine .keep [(.t 4, .v (.o (.c (.box 570 7 0 0)))), (.t 5, .v (.o (.c (.box 571 7 0 0)))), (.t 9999, .v (.gh O)), (.b 570, .b 40 7 [[.d (dI 0), .d (dI 0), .d (.val (.slice none 0 0)), .d (dI 0), .d (dS ByteArray.empty), .d (.val (.slice none 0 0)), .d (.val (.slice none 0 0))]]), (.u 570, .u), (.b 572, .b 40 7 (dR (tagRs F 0 ((e.ks.map (mapE g)).map rE)))), (.u 572, .u), (.b 571, .b 40 7 [[.d (dI e.k), .d (dI e.n), .d (.tree (R20 0) (dIs (g e.i).1)), .d (dI (g e.i).2), .d (dS ByteArray.empty), .d (.val (.slice none 0 0)), .own 572 7 (((e.ks.map (mapE g)).map rE).length)]]), (.u 571, .u)] [(570, 110), (571, 111), (572, 112)] ⟨ks rfl (.c .bx), ks rfl (.c .bx), ks rfl .dt, kb 110 rfl (.cons (.cons .dt (.cons .dt (.cons .dt (.cons .dt (.cons .dt (.cons .dt (.cons .dt Ctos.nil))))))) .nil), kb 112 rfl (.dt rfl (by rw [tag_ex])), kb 111 rfl (.cons (.cons .dt (.cons .dt (.cons .dt (.cons .dt (.cons .dt (.cons .dt (.cons .ow Ctos.nil))))))) .nil), trivial⟩ ?_
    refine ACode.packB 571 0 6 572 (rows := (e.ks.map (mapE g)).map rE) (F := F) rfl rfl rfl rfl rfl (plain_map plE) (hFD.pos (by simp) (fun i j h => isPos_L posE h)) (by simp; omega) (fun N hN => ?_)
    have hNO := hN.outE ((HasE.of (gh_has rfl)).or (.of (Has.box (i := 0) (j := 2) 571 rfl rfl rfl (.d (.tree _))))) hFD (by simp) (fun i j h => isPos_L posE h)
    refine .region <| .cons (.bN 7 rfl rfl rfl rfl rfl rfl) <| .cons (.sT 7 true rfl rfl rfl rfl rfl rfl rfl) <| .nil <| ks_n <| .ret ?_
    refine kt_wret (nthS [none', none', R20 0, none', none', none', N]) [(.t 4, .v (.o (.c (.box 100 7 0 0)))), (.b 100, .b 40 7 [[.d (dI e.k), .d (dI e.n), (.d (.tree (R20 0) (dIs (if e.k = 2 then g e.i else ([], 0)).1))), .d (dI (if e.k = 2 then g e.i else ([], 0)).2), .d (dS (if e.k = 3 then mapC g e.r else (ByteArray.empty, [])).1), (.d (.tree none' (dAs (if e.k = 3 then mapC g e.r else (ByteArray.empty, [])).2))), .d (.tree N (dEs (e.ks.map (mapE g))))]]), (.u 100, .u)] (Wk.keep [(100, 570)] rfl rfl ⟨ks rfl (.c .bx), kb 570 rfl (.cons (.cons .dt (.cons .dt (.cons (.dt (by rw [if_pos h15])) (.cons (.dt (by first | (rw [if_pos h15]; done) | (rw [if_pos h22]; done) | (rw [if_neg (show ¬ e.k = 2 by omega)]; done) | (rw [if_neg (show ¬ e.k = 3 by omega)]; done))) (.cons (.dt (by first | (rw [if_pos h15]; done) | (rw [if_pos h22]; done) | (rw [if_neg (show ¬ e.k = 2 by omega)]; done) | (rw [if_neg (show ¬ e.k = 3 by omega)]; done))) (.cons (Cto.nilTE 2 (by rw [if_neg (show ¬ e.k = 3 by first | assumption | omega)]; rfl)) (.cons .dt Ctos.nil))))))) .nil), trivial⟩) rfl ?_ ?_ ?_
    ·rw [rX_map]; rfl
    ·exact nthS_dis (by first | (simp only [List.pairwise_cons, List.forall_mem_cons, List.not_mem_nil, false_implies, implies_true, and_true, List.Pairwise.nil]; done) | (simp only [List.pairwise_cons, List.forall_mem_cons, List.not_mem_nil, false_implies, implies_true, and_true, List.Pairwise.nil]; simp [none']; done) | (simp only [List.pairwise_cons, List.forall_mem_cons, List.not_mem_nil, false_implies, implies_true, and_true, List.Pairwise.nil]; simp [none']; exact fun b h1 h2 => hNO b h2 (.inr h1)))
    ·exact nthS_all (by simp only [List.forall_mem_cons, List.not_mem_nil, false_implies, implies_true, and_true]; exact ⟨(fun b h => h.elim), (fun b h => h.elim), (fun b h => .inr ((new_of hR20 (gh_has rfl) 0) b h)), (fun b h => h.elim), (fun b h => h.elim), (fun b h => h.elim), (fun b h => .inr (fun hO => hNO b h (.inl hO)))⟩)
 ·skip
  refine .seq <| .region <| .cons (.eq rfl rfl rfl) <| .cons (.asg rfl rfl) <| .nil <| ks_n ?_
  refine .cD rfl (fun h22 => ?_) (fun h22 => ?_)
  ·skip
   refine .region <| .cons (.fP 4 1 true rfl rfl) <| .cons (.lN 2 rfl rfl rfl) <| .cons (.mv rfl rfl) ?_
   refine AOps.cT [.tmp 25, .tmp 26] rfl rfl rfl rfl (accMap_T hc g e.r hr (fun x hx => hg x (affsE_r h22 hx))) rfl rfl nosrc (fun R27 hR27 dR27 pR27 => ?_)
   refine .cons (.fB 4 1 true rfl rfl rfl) <| .cons (.sT 2 true rfl rfl rfl rfl rfl rfl rfl) <| .nil <| kb_n <| ks_n <| .seq <| .seq <| .region <| .cons (.fP 6 0 false rfl rfl) <| .cons (.l1 1 rfl rfl) <| .cons (.ln 40 7 112 rfl rfl rfl) <| .cons (.mv rfl rfl) <| .nil <| ks_n <| .block ?_
   refine .loopK (fun m σ => (∃ i : Nat, m = e.ks.length - i ∧ (i = 0) ∧ σ = [(.t 1, .v (.o (.c (.fn f cap)))), (.t 2, .v (.o (.c (.ptr (rX e))))), (.t 4, .v (.o (.c (.box 110 7 0 0)))), (.t 5, .v (.o (.c (.box 111 7 0 0)))), (.t 30, .v (.o (vD (dEs e.ks)))), (.t 31, .v (.o (nat1 (e.ks.length : Nat)))), (.t 32, .v (.o (nat1 (i : Nat)))), (.t 9999, .v (.gh O)), (.b 110, .b 40 7 [[.d (dI 0), .d (dI 0), .d (.val (.slice none 0 0)), .d (dI 0), .d (dS ByteArray.empty), .d (.val (.slice none 0 0)), .d (.val (.slice none 0 0))]]), (.u 110, .u), (.b 111, .b 40 7 [[.d (dI e.k), .d (dI e.n), .d (.val (.slice none 0 0)), .d (dI 0), .d (dS (mapC g e.r).1), .d (.tree (R27 1) (dAs (mapC g e.r).2)), .d (.val (.slice none 0 0))]]), (.u 111, .u)]) ∨ (∃ (i : Nat) (F : Nat → Nat → Nat → Prop), m = e.ks.length - i ∧ (1 ≤ i) ∧ (i ≤ e.ks.length) ∧ (FD (or2 O (R27 1)) colX i F) ∧ σ = [(.t 1, .v (.o (.c (.fn f cap)))), (.t 2, .v (.o (.c (.ptr (rX e))))), (.t 4, .v (.o (.c (.box 110 7 0 0)))), (.t 5, .v (.o (.c (.box 111 7 0 0)))), (.t 30, .v (.o (vD (dEs e.ks)))), (.t 31, .v (.o (nat1 (e.ks.length : Nat)))), (.t 32, .v (.o (nat1 (i : Nat)))), (.t 9999, .v (.gh O)), (.b 110, .b 40 7 [[.d (dI 0), .d (dI 0), .d (.val (.slice none 0 0)), .d (dI 0), .d (dS ByteArray.empty), .d (.val (.slice none 0 0)), .d (.val (.slice none 0 0))]]), (.u 110, .u), (.b 112, .b 40 7 (dR (tagRs F 0 ((e.ks.take i).map fun x => rX (mapE g x))))), (.u 112, .u), (.b 111, .b 40 7 [[.d (dI e.k), .d (dI e.n), .d (.val (.slice none 0 0)), .d (dI 0), .d (dS (mapC g e.r).1), .d (.tree (R27 1) (dAs (mapC g e.r).2)), .own 112 7 (i)]]), (.u 111, .u)])) [(110, 104), (111, 105)] (.inl ⟨0, rfl, rfl, rfl⟩) ⟨ks rfl .dt, ks rfl .dt, ks rfl (.c .bx), ks rfl (.c .bx), ks rfl .dt, ks rfl .dt, ks rfl .dt, ks rfl .dt, kb 104 rfl (.cons (.cons .dt (.cons .dt (.cons .dt (.cons .dt (.cons .dt (.cons .dt (.cons .dt Ctos.nil))))))) .nil), kb 105 rfl (.cons (.cons .dt (.cons .dt (.cons .dt (.cons .dt (.cons .dt (.cons .dt (.cons .dt Ctos.nil))))))) .nil), trivial⟩ ?_
   rintro m σ (⟨i, hm0, rfl, rfl⟩ | ⟨i, F, hm0, hi1, hi2, hFD, rfl⟩)
   ·skip
    refine .seq <| .region <| .cons (.ls rfl rfl rfl) <| .nil <| ks_n <| .seq ?_
    refine .cD rfl (fun h33 => ?_) (fun h33 => ?_)
    ·skip
     obtain ⟨x, hx1⟩ : ∃ x, e.ks[0]? = some x := ⟨_, List.getElem?_eq_getElem (by omega)⟩
     refine .skip <| ks_n <| .seq <| .block <| .seq <| .region <| .cons (.xL 40 7 112 rfl rfl rfl rfl rfl (rE_at hx1)) ?_
     refine .cons (.lN 7 rfl rfl rfl) <| .cons (.al 107 [.int .i64 0, .int .i64 0, .slice none 0 0, .int .i64 0, .string ByteArray.empty, .slice none 0 0, .slice none 0 0] rfl rfl rfl) <| .cons (.sT 7 true rfl rfl rfl rfl rfl rfl rfl) <| .nil <| ks_n ?_
     refine ACode.drawT (by kernel_rfl) (by kernel_rfl) (fun Uq10_2 => ?_)
     refine .cons (fun _ => (.fB 6 0 false rfl rfl rfl)) <| .cons (fun _ => (.b1 1 rfl rfl rfl rfl rfl rfl)) <| .cons (fun _ => (.bN 7 rfl rfl rfl rfl rfl rfl)) <| .cons (fun _ => (.mv rfl rfl)) ?_
     refine .cT [.tmp 38, .tmp 39] rfl rfl (fun _ => rfl) (fun _ => rfl) (ih x (List.mem_of_getElem? hx1)) rfl rfl nosrcV ?_
     refine .cons (fun _ => (.li 40 6 0 [.tmp 40] rfl rfl rfl rfl rfl rfl)) <| .cons (fun _ => (St1.appN (k' := 142) (e := 40) (sz := 6) (by' := 112) rfl rfl rfl rfl rfl (by kernel_rfl) rfl rfl rfl (by simp) (by first | (simp [dR, tagRs_len]; done) | (simp [dR, tagRs_len]; omega)) rfl rfl)) ?_
     refine .cons (fun _ => (.fB 6 0 false rfl rfl rfl)) <| .cons (fun _ => (.sT 1 false rfl rfl rfl rfl rfl rfl rfl)) ?_
     refine .nil ⟨⟨fun _ => by kernel_rfl, by repeat' (first | exact trivial | exact .inr (.inl rfl) | exact .inr (.inr fun _ _ => rfl) | refine ⟨?_, ?_⟩ | exact .inl (by kernel_rfl)), rfl⟩, fun ρq10_2 Nq10_2 Fq10_2 Wq10_2 => ?_⟩
     obtain ⟨hR40, dR40, pR40⟩ := Fq10_2.hR Wq10_2 4 rfl rfl
     refine kb_n <| ks_n <| .region <| .cons (.pl rfl rfl rfl) <| .cons (.mv rfl rfl) <| .nil ?_
     refine kl_k [(110, 110), (111, 111), (112, 142)] (.inr ⟨1, nextF noF 0 (ρq10_2 4), rfl, by omega, by omega, (FD.zero (or2 O (R27 1)) colX noF).next (new_E hR40 ((HasE.of (gh_has rfl)).or (.of (Has.box (i := 0) (j := 5) 111 rfl rfl rfl (.d (.tree _)))))) dR40 (fun _ _ _ _ h => by omega), rfl⟩) ⟨ks rfl .dt, ks rfl .dt, ks rfl (.c .bx), ks rfl (.c .bx), ks rfl .dt, ks rfl .dt, ks rfl .dt, ks rfl .dt, kb 110 rfl (.cons (.cons .dt (.cons .dt (.cons .dt (.cons .dt (.cons .dt (.cons .dt (.cons .dt Ctos.nil))))))) .nil), kb 142 rfl (.dt rfl (by first | rfl | (rw [← dR_tagT hx1]; rfl) | (rw [← dR_tag0 hx1]; rfl))), kb 111 rfl (.cons (.cons .dt (.cons .dt (.cons .dt (.cons .dt (.cons .dt (.cons .dt (.cons .ow Ctos.nil))))))) .nil), trivial⟩
    ·skip
     have hn : e.ks = [] := List.eq_nil_of_length_eq_zero (by omega)
     refine .exit <| ks_e <| kl_e <| kb_hit <| ks_n <| .seq <| .region <| .cons (.bN 7 rfl rfl rfl rfl rfl rfl) <| .cons (.sT 7 true rfl rfl rfl rfl rfl rfl rfl) <| .nil <| ks_n <| .ret ?_
     refine kt_wret (nthS [none', none', none', none', none', R27 1, none']) [(.t 4, .v (.o (.c (.box 100 7 0 0)))), (.b 100, .b 40 7 [[.d (dI e.k), .d (dI e.n), (.d (.tree none' (dIs (if e.k = 2 then g e.i else ([], 0)).1))), .d (dI (if e.k = 2 then g e.i else ([], 0)).2), .d (dS (if e.k = 3 then mapC g e.r else (ByteArray.empty, [])).1), (.d (.tree (R27 1) (dAs (if e.k = 3 then mapC g e.r else (ByteArray.empty, [])).2))), (.d (.tree none' (dEs (e.ks.map (mapE g)))))]]), (.u 100, .u)] (Wk.keep [(100, 110)] rfl rfl ⟨ks rfl (.c .bx), kb 110 rfl (.cons (.cons .dt (.cons .dt (.cons (Cto.nilTE 1 (by rw [if_neg (show ¬ e.k = 2 by first | assumption | omega)]; rfl)) (.cons (.dt (by first | (rw [if_pos h15]; done) | (rw [if_pos h22]; done) | (rw [if_neg (show ¬ e.k = 2 by omega)]; done) | (rw [if_neg (show ¬ e.k = 3 by omega)]; done))) (.cons (.dt (by first | (rw [if_pos h15]; done) | (rw [if_pos h22]; done) | (rw [if_neg (show ¬ e.k = 2 by omega)]; done) | (rw [if_neg (show ¬ e.k = 3 by omega)]; done))) (.cons (.dt (by rw [if_pos h22])) (.cons (Cto.nilTE 7 (by rw [hn]; rfl)) Ctos.nil))))))) .nil), trivial⟩) rfl ?_ ?_ ?_
     ·rw [rX_map]; rfl
     ·exact nthS_dis (by first | (simp only [List.pairwise_cons, List.forall_mem_cons, List.not_mem_nil, false_implies, implies_true, and_true, List.Pairwise.nil]; done) | (simp only [List.pairwise_cons, List.forall_mem_cons, List.not_mem_nil, false_implies, implies_true, and_true, List.Pairwise.nil]; simp [none']; done) | (simp only [List.pairwise_cons, List.forall_mem_cons, List.not_mem_nil, false_implies, implies_true, and_true, List.Pairwise.nil]; simp [none']; exact fun b h1 h2 => hNO b h2 (.inr h1)))
     ·exact nthS_all (by simp only [List.forall_mem_cons, List.not_mem_nil, false_implies, implies_true, and_true]; exact ⟨(fun b h => h.elim), (fun b h => h.elim), (fun b h => h.elim), (fun b h => h.elim), (fun b h => h.elim), (fun b h => .inr ((new_of hR27 (gh_has rfl) 1) b h)), (fun b h => h.elim)⟩)
   ·skip
    refine .seq <| .region <| .cons (.ls rfl rfl rfl) <| .nil <| ks_n <| .seq ?_
    refine .cD rfl (fun h33 => ?_) (fun h33 => ?_)
    ·skip
     obtain ⟨x, hx1⟩ : ∃ x, e.ks[i]? = some x := ⟨_, List.getElem?_eq_getElem (by omega)⟩
     refine .skip <| ks_n <| .seq <| .block <| .seq <| .region <| .cons (.xL 40 7 112 rfl rfl rfl rfl rfl (rE_at hx1)) ?_
     refine .cons (.lN 7 rfl rfl rfl) <| .cons (.al 107 [.int .i64 0, .int .i64 0, .slice none 0 0, .int .i64 0, .string ByteArray.empty, .slice none 0 0, .slice none 0 0] rfl rfl rfl) <| .cons (.sT 7 true rfl rfl rfl rfl rfl rfl rfl) <| .nil <| ks_n ?_
     refine ACode.drawT (by kernel_rfl) (by kernel_rfl) (fun Uq10_3 => ?_)
     refine .cons (fun _ => (.fB 6 0 false rfl rfl rfl)) <| .cons (fun _ => (.b1 1 rfl rfl rfl rfl rfl rfl)) <| .cons (fun _ => (.bN 7 rfl rfl rfl rfl rfl rfl)) <| .cons (fun _ => (.mv rfl rfl)) ?_
     refine .cT [.tmp 38, .tmp 39] rfl rfl (fun _ => rfl) (fun _ => rfl) (ih x (List.mem_of_getElem? hx1)) rfl rfl nosrcV ?_
     refine .cons (fun _ => (.li 40 6 0 [.tmp 40] rfl rfl rfl rfl rfl rfl)) <| .cons (fun _ => (St1.appB (k' := 142) (e := 40) (sz := 6) (by' := 112) rfl rfl rfl rfl rfl (by kernel_rfl) rfl rfl rfl rfl (by first | (simp [dR, tagRs_len]; done) | (simp [dR, tagRs_len]; omega)) (by first | (simp [dR, tagRs_len]; done) | (simp [dR, tagRs_len]; omega)) rfl rfl rfl)) ?_
     refine .cons (fun _ => (.fB 6 0 false rfl rfl rfl)) <| .cons (fun _ => (.sT 1 false rfl rfl rfl rfl rfl rfl rfl)) ?_
     refine .nil ⟨⟨fun _ => by kernel_rfl, by repeat' (first | exact trivial | exact .inr (.inl rfl) | exact .inr (.inr fun _ _ => rfl) | refine ⟨?_, ?_⟩ | exact .inl (by kernel_rfl)), rfl⟩, fun ρq10_3 Nq10_3 Fq10_3 Wq10_3 => ?_⟩
     obtain ⟨hR40, dR40, pR40⟩ := Fq10_3.hR Wq10_3 4 rfl rfl
     have hRF : ∀ q c c' b, q < i → colX c → F q c b → ¬ (ρq10_3 4) c' b := fun q c c' b hq hc hF hb => by
      obtain ⟨y, _, hy⟩ := tm_at (fn := (fun x => rX (mapE g x))) hi2 hq
      rcases hc with rfl | rfl | rfl
      ·exact new_of hR40 (Has.rows (k := 112) rfl hy rfl) c' b hb hF
      ·exact new_of hR40 (Has.rows (k := 112) rfl hy rfl) c' b hb hF
      ·exact new_of hR40 (Has.rows (k := 112) rfl hy rfl) c' b hb hF
     refine kb_n <| ks_n <| .region <| .cons (.pl rfl rfl rfl) <| .cons (.mv rfl rfl) <| .nil ?_
     refine kl_k [(110, 110), (111, 111), (112, 142)] (.inr ⟨i + 1, nextF F i (ρq10_3 4), rfl, by omega, by omega, hFD.next (new_E hR40 ((HasE.of (gh_has rfl)).or (.of (Has.box (i := 0) (j := 5) 111 rfl rfl rfl (.d (.tree _)))))) dR40 hRF, rfl⟩) ⟨ks rfl .dt, ks rfl .dt, ks rfl (.c .bx), ks rfl (.c .bx), ks rfl .dt, ks rfl .dt, ks rfl .dt, ks rfl .dt, kb 110 rfl (.cons (.cons .dt (.cons .dt (.cons .dt (.cons .dt (.cons .dt (.cons .dt (.cons .dt Ctos.nil))))))) .nil), kb 142 rfl (.dt rfl (by first | rfl | (rw [← dR_tagT hx1]; rfl) | (rw [← dR_tag0 hx1]; rfl))), kb 111 rfl (.cons (.cons .dt (.cons .dt (.cons .dt (.cons .dt (.cons .dt (.cons .dt (.cons .ow Ctos.nil))))))) .nil), trivial⟩
    ·skip
     obtain rfl : i = e.ks.length := by omega
     refine .exit <| ks_e <| kl_e <| kb_hit <| ks_n <| .seq ?_
     refine .keep [(.t 4, .v (.o (.c (.box 570 7 0 0)))), (.t 5, .v (.o (.c (.box 571 7 0 0)))), (.t 9999, .v (.gh O)), (.b 570, .b 40 7 [[.d (dI 0), .d (dI 0), .d (.val (.slice none 0 0)), .d (dI 0), .d (dS ByteArray.empty), .d (.val (.slice none 0 0)), .d (.val (.slice none 0 0))]]), (.u 570, .u), (.b 572, .b 40 7 (dR (tagRs F 0 ((e.ks.map (mapE g)).map rE)))), (.u 572, .u), (.b 571, .b 40 7 [[.d (dI e.k), .d (dI e.n), .d (.val (.slice none 0 0)), .d (dI 0), .d (dS (mapC g e.r).1), .d (.tree (R27 1) (dAs (mapC g e.r).2)), .own 572 7 (((e.ks.map (mapE g)).map rE).length)]]), (.u 571, .u)] [(570, 110), (571, 111), (572, 112)] ⟨ks rfl (.c .bx), ks rfl (.c .bx), ks rfl .dt, kb 110 rfl (.cons (.cons .dt (.cons .dt (.cons .dt (.cons .dt (.cons .dt (.cons .dt (.cons .dt Ctos.nil))))))) .nil), kb 112 rfl (.dt rfl (by rw [tag_ex])), kb 111 rfl (.cons (.cons .dt (.cons .dt (.cons .dt (.cons .dt (.cons .dt (.cons .dt (.cons .ow Ctos.nil))))))) .nil), trivial⟩ ?_
     refine ACode.packB 571 0 6 572 (rows := (e.ks.map (mapE g)).map rE) (F := F) rfl rfl rfl rfl rfl (plain_map plE) (hFD.pos (by simp) (fun i j h => isPos_L posE h)) (by simp; omega) (fun N hN => ?_)
     have hNO := hN.outE ((HasE.of (gh_has rfl)).or (.of (Has.box (i := 0) (j := 5) 571 rfl rfl rfl (.d (.tree _))))) hFD (by simp) (fun i j h => isPos_L posE h)
     refine .region <| .cons (.bN 7 rfl rfl rfl rfl rfl rfl) <| .cons (.sT 7 true rfl rfl rfl rfl rfl rfl rfl) <| .nil <| ks_n <| .ret ?_
     refine kt_wret (nthS [none', none', none', none', none', R27 1, N]) [(.t 4, .v (.o (.c (.box 100 7 0 0)))), (.b 100, .b 40 7 [[.d (dI e.k), .d (dI e.n), (.d (.tree none' (dIs (if e.k = 2 then g e.i else ([], 0)).1))), .d (dI (if e.k = 2 then g e.i else ([], 0)).2), .d (dS (if e.k = 3 then mapC g e.r else (ByteArray.empty, [])).1), (.d (.tree (R27 1) (dAs (if e.k = 3 then mapC g e.r else (ByteArray.empty, [])).2))), .d (.tree N (dEs (e.ks.map (mapE g))))]]), (.u 100, .u)] (Wk.keep [(100, 570)] rfl rfl ⟨ks rfl (.c .bx), kb 570 rfl (.cons (.cons .dt (.cons .dt (.cons (Cto.nilTE 1 (by rw [if_neg (show ¬ e.k = 2 by first | assumption | omega)]; rfl)) (.cons (.dt (by first | (rw [if_pos h15]; done) | (rw [if_pos h22]; done) | (rw [if_neg (show ¬ e.k = 2 by omega)]; done) | (rw [if_neg (show ¬ e.k = 3 by omega)]; done))) (.cons (.dt (by first | (rw [if_pos h15]; done) | (rw [if_pos h22]; done) | (rw [if_neg (show ¬ e.k = 2 by omega)]; done) | (rw [if_neg (show ¬ e.k = 3 by omega)]; done))) (.cons (.dt (by rw [if_pos h22])) (.cons .dt Ctos.nil))))))) .nil), trivial⟩) rfl ?_ ?_ ?_
     ·rw [rX_map]; rfl
     ·exact nthS_dis (by first | (simp only [List.pairwise_cons, List.forall_mem_cons, List.not_mem_nil, false_implies, implies_true, and_true, List.Pairwise.nil]; done) | (simp only [List.pairwise_cons, List.forall_mem_cons, List.not_mem_nil, false_implies, implies_true, and_true, List.Pairwise.nil]; simp [none']; done) | (simp only [List.pairwise_cons, List.forall_mem_cons, List.not_mem_nil, false_implies, implies_true, and_true, List.Pairwise.nil]; simp [none']; exact fun b h1 h2 => hNO b h2 (.inr h1)))
     ·exact nthS_all (by simp only [List.forall_mem_cons, List.not_mem_nil, false_implies, implies_true, and_true]; exact ⟨(fun b h => h.elim), (fun b h => h.elim), (fun b h => h.elim), (fun b h => h.elim), (fun b h => h.elim), (fun b h => .inr ((new_of hR27 (gh_has rfl) 1) b h)), (fun b h => .inr (fun hO => hNO b h (.inl hO)))⟩)
  ·skip
   refine .skip <| kb_n <| ks_n <| .seq <| .seq <| .region <| .cons (.fP 6 0 false rfl rfl) <| .cons (.l1 1 rfl rfl) <| .cons (.ln 40 7 112 rfl rfl rfl) <| .cons (.mv rfl rfl) <| .nil <| ks_n <| .block ?_
   refine .loopK (fun m σ => (∃ i : Nat, m = e.ks.length - i ∧ (i = 0) ∧ σ = [(.t 1, .v (.o (.c (.fn f cap)))), (.t 2, .v (.o (.c (.ptr (rX e))))), (.t 4, .v (.o (.c (.box 110 7 0 0)))), (.t 5, .v (.o (.c (.box 111 7 0 0)))), (.t 30, .v (.o (vD (dEs e.ks)))), (.t 31, .v (.o (nat1 (e.ks.length : Nat)))), (.t 32, .v (.o (nat1 (i : Nat)))), (.t 9999, .v (.gh O)), (.b 110, .b 40 7 [[.d (dI 0), .d (dI 0), .d (.val (.slice none 0 0)), .d (dI 0), .d (dS ByteArray.empty), .d (.val (.slice none 0 0)), .d (.val (.slice none 0 0))]]), (.u 110, .u), (.b 111, .b 40 7 [[.d (dI e.k), .d (dI e.n), .d (.val (.slice none 0 0)), .d (dI 0), .d (dS ByteArray.empty), .d (.val (.slice none 0 0)), .d (.val (.slice none 0 0))]]), (.u 111, .u)]) ∨ (∃ (i : Nat) (F : Nat → Nat → Nat → Prop), m = e.ks.length - i ∧ (1 ≤ i) ∧ (i ≤ e.ks.length) ∧ (FD (O) colX i F) ∧ σ = [(.t 1, .v (.o (.c (.fn f cap)))), (.t 2, .v (.o (.c (.ptr (rX e))))), (.t 4, .v (.o (.c (.box 110 7 0 0)))), (.t 5, .v (.o (.c (.box 111 7 0 0)))), (.t 30, .v (.o (vD (dEs e.ks)))), (.t 31, .v (.o (nat1 (e.ks.length : Nat)))), (.t 32, .v (.o (nat1 (i : Nat)))), (.t 9999, .v (.gh O)), (.b 110, .b 40 7 [[.d (dI 0), .d (dI 0), .d (.val (.slice none 0 0)), .d (dI 0), .d (dS ByteArray.empty), .d (.val (.slice none 0 0)), .d (.val (.slice none 0 0))]]), (.u 110, .u), (.b 112, .b 40 7 (dR (tagRs F 0 ((e.ks.take i).map fun x => rX (mapE g x))))), (.u 112, .u), (.b 111, .b 40 7 [[.d (dI e.k), .d (dI e.n), .d (.val (.slice none 0 0)), .d (dI 0), .d (dS ByteArray.empty), .d (.val (.slice none 0 0)), .own 112 7 (i)]]), (.u 111, .u)])) [(110, 104), (111, 105)] (.inl ⟨0, rfl, rfl, rfl⟩) ⟨ks rfl .dt, ks rfl .dt, ks rfl (.c .bx), ks rfl (.c .bx), ks rfl .dt, ks rfl .dt, ks rfl .dt, ks rfl .dt, kb 104 rfl (.cons (.cons .dt (.cons .dt (.cons .dt (.cons .dt (.cons .dt (.cons .dt (.cons .dt Ctos.nil))))))) .nil), kb 105 rfl (.cons (.cons .dt (.cons .dt (.cons .dt (.cons .dt (.cons .dt (.cons .dt (.cons .dt Ctos.nil))))))) .nil), trivial⟩ ?_
   rintro m σ (⟨i, hm0, rfl, rfl⟩ | ⟨i, F, hm0, hi1, hi2, hFD, rfl⟩)
   ·skip
    refine .seq <| .region <| .cons (.ls rfl rfl rfl) <| .nil <| ks_n <| .seq ?_
    refine .cD rfl (fun h33 => ?_) (fun h33 => ?_)
    ·skip
     obtain ⟨x, hx1⟩ : ∃ x, e.ks[0]? = some x := ⟨_, List.getElem?_eq_getElem (by omega)⟩
     refine .skip <| ks_n <| .seq <| .block <| .seq <| .region <| .cons (.xL 40 7 112 rfl rfl rfl rfl rfl (rE_at hx1)) ?_
     refine .cons (.lN 7 rfl rfl rfl) <| .cons (.al 107 [.int .i64 0, .int .i64 0, .slice none 0 0, .int .i64 0, .string ByteArray.empty, .slice none 0 0, .slice none 0 0] rfl rfl rfl) <| .cons (.sT 7 true rfl rfl rfl rfl rfl rfl rfl) <| .nil <| ks_n ?_
     refine ACode.drawT (by kernel_rfl) (by kernel_rfl) (fun Uq10_4 => ?_)
     refine .cons (fun _ => (.fB 6 0 false rfl rfl rfl)) <| .cons (fun _ => (.b1 1 rfl rfl rfl rfl rfl rfl)) <| .cons (fun _ => (.bN 7 rfl rfl rfl rfl rfl rfl)) <| .cons (fun _ => (.mv rfl rfl)) ?_
     refine .cT [.tmp 38, .tmp 39] rfl rfl (fun _ => rfl) (fun _ => rfl) (ih x (List.mem_of_getElem? hx1)) rfl rfl nosrcV ?_
     refine .cons (fun _ => (.li 40 6 0 [.tmp 40] rfl rfl rfl rfl rfl rfl)) <| .cons (fun _ => (St1.appN (k' := 142) (e := 40) (sz := 6) (by' := 112) rfl rfl rfl rfl rfl (by kernel_rfl) rfl rfl rfl (by simp) (by first | (simp [dR, tagRs_len]; done) | (simp [dR, tagRs_len]; omega)) rfl rfl)) ?_
     refine .cons (fun _ => (.fB 6 0 false rfl rfl rfl)) <| .cons (fun _ => (.sT 1 false rfl rfl rfl rfl rfl rfl rfl)) ?_
     refine .nil ⟨⟨fun _ => by kernel_rfl, by repeat' (first | exact trivial | exact .inr (.inl rfl) | exact .inr (.inr fun _ _ => rfl) | refine ⟨?_, ?_⟩ | exact .inl (by kernel_rfl)), rfl⟩, fun ρq10_4 Nq10_4 Fq10_4 Wq10_4 => ?_⟩
     obtain ⟨hR40, dR40, pR40⟩ := Fq10_4.hR Wq10_4 4 rfl rfl
     refine kb_n <| ks_n <| .region <| .cons (.pl rfl rfl rfl) <| .cons (.mv rfl rfl) <| .nil ?_
     refine kl_k [(110, 110), (111, 111), (112, 142)] (.inr ⟨1, nextF noF 0 (ρq10_4 4), rfl, by omega, by omega, (FD.zero (O) colX noF).next (new_E hR40 (.of (gh_has rfl))) dR40 (fun _ _ _ _ h => by omega), rfl⟩) ⟨ks rfl .dt, ks rfl .dt, ks rfl (.c .bx), ks rfl (.c .bx), ks rfl .dt, ks rfl .dt, ks rfl .dt, ks rfl .dt, kb 110 rfl (.cons (.cons .dt (.cons .dt (.cons .dt (.cons .dt (.cons .dt (.cons .dt (.cons .dt Ctos.nil))))))) .nil), kb 142 rfl (.dt rfl (by first | rfl | (rw [← dR_tagT hx1]; rfl) | (rw [← dR_tag0 hx1]; rfl))), kb 111 rfl (.cons (.cons .dt (.cons .dt (.cons .dt (.cons .dt (.cons .dt (.cons .dt (.cons .ow Ctos.nil))))))) .nil), trivial⟩
    ·skip
     have hn : e.ks = [] := List.eq_nil_of_length_eq_zero (by omega)
     refine .exit <| ks_e <| kl_e <| kb_hit <| ks_n <| .seq <| .region <| .cons (.bN 7 rfl rfl rfl rfl rfl rfl) <| .cons (.sT 7 true rfl rfl rfl rfl rfl rfl rfl) <| .nil <| ks_n <| .ret ?_
     refine kt_wret (nthS [none', none', none', none', none', none', none']) [(.t 4, .v (.o (.c (.box 100 7 0 0)))), (.b 100, .b 40 7 [[.d (dI e.k), .d (dI e.n), (.d (.tree none' (dIs (if e.k = 2 then g e.i else ([], 0)).1))), .d (dI (if e.k = 2 then g e.i else ([], 0)).2), .d (dS (if e.k = 3 then mapC g e.r else (ByteArray.empty, [])).1), (.d (.tree none' (dAs (if e.k = 3 then mapC g e.r else (ByteArray.empty, [])).2))), (.d (.tree none' (dEs (e.ks.map (mapE g)))))]]), (.u 100, .u)] (Wk.keep [(100, 110)] rfl rfl ⟨ks rfl (.c .bx), kb 110 rfl (.cons (.cons .dt (.cons .dt (.cons (Cto.nilTE 1 (by rw [if_neg (show ¬ e.k = 2 by first | assumption | omega)]; rfl)) (.cons (.dt (by first | (rw [if_pos h15]; done) | (rw [if_pos h22]; done) | (rw [if_neg (show ¬ e.k = 2 by omega)]; done) | (rw [if_neg (show ¬ e.k = 3 by omega)]; done))) (.cons (.dt (by first | (rw [if_pos h15]; done) | (rw [if_pos h22]; done) | (rw [if_neg (show ¬ e.k = 2 by omega)]; done) | (rw [if_neg (show ¬ e.k = 3 by omega)]; done))) (.cons (Cto.nilTE 2 (by rw [if_neg (show ¬ e.k = 3 by first | assumption | omega)]; rfl)) (.cons (Cto.nilTE 7 (by rw [hn]; rfl)) Ctos.nil))))))) .nil), trivial⟩) rfl ?_ ?_ ?_
     ·rw [rX_map]; rfl
     ·exact nthS_dis (by first | (simp only [List.pairwise_cons, List.forall_mem_cons, List.not_mem_nil, false_implies, implies_true, and_true, List.Pairwise.nil]; done) | (simp only [List.pairwise_cons, List.forall_mem_cons, List.not_mem_nil, false_implies, implies_true, and_true, List.Pairwise.nil]; simp [none']; done) | (simp only [List.pairwise_cons, List.forall_mem_cons, List.not_mem_nil, false_implies, implies_true, and_true, List.Pairwise.nil]; simp [none']; exact fun b h1 h2 => hNO b h2 (.inr h1)))
     ·exact nthS_all (by simp only [List.forall_mem_cons, List.not_mem_nil, false_implies, implies_true, and_true]; exact ⟨(fun b h => h.elim), (fun b h => h.elim), (fun b h => h.elim), (fun b h => h.elim), (fun b h => h.elim), (fun b h => h.elim), (fun b h => h.elim)⟩)
   ·skip
    refine .seq <| .region <| .cons (.ls rfl rfl rfl) <| .nil <| ks_n <| .seq ?_
    refine .cD rfl (fun h33 => ?_) (fun h33 => ?_)
    ·skip
     obtain ⟨x, hx1⟩ : ∃ x, e.ks[i]? = some x := ⟨_, List.getElem?_eq_getElem (by omega)⟩
     refine .skip <| ks_n <| .seq <| .block <| .seq <| .region <| .cons (.xL 40 7 112 rfl rfl rfl rfl rfl (rE_at hx1)) ?_
     refine .cons (.lN 7 rfl rfl rfl) <| .cons (.al 107 [.int .i64 0, .int .i64 0, .slice none 0 0, .int .i64 0, .string ByteArray.empty, .slice none 0 0, .slice none 0 0] rfl rfl rfl) <| .cons (.sT 7 true rfl rfl rfl rfl rfl rfl rfl) <| .nil <| ks_n ?_
     refine ACode.drawT (by kernel_rfl) (by kernel_rfl) (fun Uq10_5 => ?_)
     refine .cons (fun _ => (.fB 6 0 false rfl rfl rfl)) <| .cons (fun _ => (.b1 1 rfl rfl rfl rfl rfl rfl)) <| .cons (fun _ => (.bN 7 rfl rfl rfl rfl rfl rfl)) <| .cons (fun _ => (.mv rfl rfl)) ?_
     refine .cT [.tmp 38, .tmp 39] rfl rfl (fun _ => rfl) (fun _ => rfl) (ih x (List.mem_of_getElem? hx1)) rfl rfl nosrcV ?_
     refine .cons (fun _ => (.li 40 6 0 [.tmp 40] rfl rfl rfl rfl rfl rfl)) <| .cons (fun _ => (St1.appB (k' := 142) (e := 40) (sz := 6) (by' := 112) rfl rfl rfl rfl rfl (by kernel_rfl) rfl rfl rfl rfl (by first | (simp [dR, tagRs_len]; done) | (simp [dR, tagRs_len]; omega)) (by first | (simp [dR, tagRs_len]; done) | (simp [dR, tagRs_len]; omega)) rfl rfl rfl)) ?_
     refine .cons (fun _ => (.fB 6 0 false rfl rfl rfl)) <| .cons (fun _ => (.sT 1 false rfl rfl rfl rfl rfl rfl rfl)) ?_
     refine .nil ⟨⟨fun _ => by kernel_rfl, by repeat' (first | exact trivial | exact .inr (.inl rfl) | exact .inr (.inr fun _ _ => rfl) | refine ⟨?_, ?_⟩ | exact .inl (by kernel_rfl)), rfl⟩, fun ρq10_5 Nq10_5 Fq10_5 Wq10_5 => ?_⟩
     obtain ⟨hR40, dR40, pR40⟩ := Fq10_5.hR Wq10_5 4 rfl rfl
     have hRF : ∀ q c c' b, q < i → colX c → F q c b → ¬ (ρq10_5 4) c' b := fun q c c' b hq hc hF hb => by
      obtain ⟨y, _, hy⟩ := tm_at (fn := (fun x => rX (mapE g x))) hi2 hq
      rcases hc with rfl | rfl | rfl
      ·exact new_of hR40 (Has.rows (k := 112) rfl hy rfl) c' b hb hF
      ·exact new_of hR40 (Has.rows (k := 112) rfl hy rfl) c' b hb hF
      ·exact new_of hR40 (Has.rows (k := 112) rfl hy rfl) c' b hb hF
     refine kb_n <| ks_n <| .region <| .cons (.pl rfl rfl rfl) <| .cons (.mv rfl rfl) <| .nil ?_
     refine kl_k [(110, 110), (111, 111), (112, 142)] (.inr ⟨i + 1, nextF F i (ρq10_5 4), rfl, by omega, by omega, hFD.next (new_E hR40 (.of (gh_has rfl))) dR40 hRF, rfl⟩) ⟨ks rfl .dt, ks rfl .dt, ks rfl (.c .bx), ks rfl (.c .bx), ks rfl .dt, ks rfl .dt, ks rfl .dt, ks rfl .dt, kb 110 rfl (.cons (.cons .dt (.cons .dt (.cons .dt (.cons .dt (.cons .dt (.cons .dt (.cons .dt Ctos.nil))))))) .nil), kb 142 rfl (.dt rfl (by first | rfl | (rw [← dR_tagT hx1]; rfl) | (rw [← dR_tag0 hx1]; rfl))), kb 111 rfl (.cons (.cons .dt (.cons .dt (.cons .dt (.cons .dt (.cons .dt (.cons .dt (.cons .ow Ctos.nil))))))) .nil), trivial⟩
    ·skip
     obtain rfl : i = e.ks.length := by omega
     refine .exit <| ks_e <| kl_e <| kb_hit <| ks_n <| .seq ?_
     refine .keep [(.t 4, .v (.o (.c (.box 570 7 0 0)))), (.t 5, .v (.o (.c (.box 571 7 0 0)))), (.t 9999, .v (.gh O)), (.b 570, .b 40 7 [[.d (dI 0), .d (dI 0), .d (.val (.slice none 0 0)), .d (dI 0), .d (dS ByteArray.empty), .d (.val (.slice none 0 0)), .d (.val (.slice none 0 0))]]), (.u 570, .u), (.b 572, .b 40 7 (dR (tagRs F 0 ((e.ks.map (mapE g)).map rE)))), (.u 572, .u), (.b 571, .b 40 7 [[.d (dI e.k), .d (dI e.n), .d (.val (.slice none 0 0)), .d (dI 0), .d (dS ByteArray.empty), .d (.val (.slice none 0 0)), .own 572 7 (((e.ks.map (mapE g)).map rE).length)]]), (.u 571, .u)] [(570, 110), (571, 111), (572, 112)] ⟨ks rfl (.c .bx), ks rfl (.c .bx), ks rfl .dt, kb 110 rfl (.cons (.cons .dt (.cons .dt (.cons .dt (.cons .dt (.cons .dt (.cons .dt (.cons .dt Ctos.nil))))))) .nil), kb 112 rfl (.dt rfl (by rw [tag_ex])), kb 111 rfl (.cons (.cons .dt (.cons .dt (.cons .dt (.cons .dt (.cons .dt (.cons .dt (.cons .ow Ctos.nil))))))) .nil), trivial⟩ ?_
     refine ACode.packB 571 0 6 572 (rows := (e.ks.map (mapE g)).map rE) (F := F) rfl rfl rfl rfl rfl (plain_map plE) (hFD.pos (by simp) (fun i j h => isPos_L posE h)) (by simp; omega) (fun N hN => ?_)
     have hNO := hN.outE (.of (gh_has rfl)) hFD (by simp) (fun i j h => isPos_L posE h)
     refine .region <| .cons (.bN 7 rfl rfl rfl rfl rfl rfl) <| .cons (.sT 7 true rfl rfl rfl rfl rfl rfl rfl) <| .nil <| ks_n <| .ret ?_
     refine kt_wret (nthS [none', none', none', none', none', none', N]) [(.t 4, .v (.o (.c (.box 100 7 0 0)))), (.b 100, .b 40 7 [[.d (dI e.k), .d (dI e.n), (.d (.tree none' (dIs (if e.k = 2 then g e.i else ([], 0)).1))), .d (dI (if e.k = 2 then g e.i else ([], 0)).2), .d (dS (if e.k = 3 then mapC g e.r else (ByteArray.empty, [])).1), (.d (.tree none' (dAs (if e.k = 3 then mapC g e.r else (ByteArray.empty, [])).2))), .d (.tree N (dEs (e.ks.map (mapE g))))]]), (.u 100, .u)] (Wk.keep [(100, 570)] rfl rfl ⟨ks rfl (.c .bx), kb 570 rfl (.cons (.cons .dt (.cons .dt (.cons (Cto.nilTE 1 (by rw [if_neg (show ¬ e.k = 2 by first | assumption | omega)]; rfl)) (.cons (.dt (by first | (rw [if_pos h15]; done) | (rw [if_pos h22]; done) | (rw [if_neg (show ¬ e.k = 2 by omega)]; done) | (rw [if_neg (show ¬ e.k = 3 by omega)]; done))) (.cons (.dt (by first | (rw [if_pos h15]; done) | (rw [if_pos h22]; done) | (rw [if_neg (show ¬ e.k = 2 by omega)]; done) | (rw [if_neg (show ¬ e.k = 3 by omega)]; done))) (.cons (Cto.nilTE 2 (by rw [if_neg (show ¬ e.k = 3 by first | assumption | omega)]; rfl)) (.cons .dt Ctos.nil))))))) .nil), trivial⟩) rfl ?_ ?_ ?_
     ·rw [rX_map]; rfl
     ·exact nthS_dis (by first | (simp only [List.pairwise_cons, List.forall_mem_cons, List.not_mem_nil, false_implies, implies_true, and_true, List.Pairwise.nil]; done) | (simp only [List.pairwise_cons, List.forall_mem_cons, List.not_mem_nil, false_implies, implies_true, and_true, List.Pairwise.nil]; simp [none']; done) | (simp only [List.pairwise_cons, List.forall_mem_cons, List.not_mem_nil, false_implies, implies_true, and_true, List.Pairwise.nil]; simp [none']; exact fun b h1 h2 => hNO b h2 (.inr h1)))
     ·exact nthS_all (by simp only [List.forall_mem_cons, List.not_mem_nil, false_implies, implies_true, and_true]; exact ⟨(fun b h => h.elim), (fun b h => h.elim), (fun b h => h.elim), (fun b h => h.elim), (fun b h => h.elim), (fun b h => h.elim), (fun b h => .inr (hNO b h))⟩)

theorem exprMap_T {f : FuncId} {cap : List (List D)} (hc : callable Try.prog f = true) (g : Aff → Aff) : ∀ e : Ex, szE e ≤ 1073741824 → (∀ x ∈ affsE e, FnT Try.prog f (ad (rA x) :: cap.map fun c => .c (.ptr c)) none' (.str (rA (g x)))) → FnT Try.prog 63 [ad (rX e), .c (.fn f cap)] none' (.str (rX (mapE g e))) := by
  intro e
  induction e using Ex.rec' with
  | h e ih =>
    intro hs hg
    rw [szE_eq, szC] at hs
    have := szAs_len e.r.2
    exact exprMap_T1 hc g e (by omega) (by omega) hg fun x hx => ih x hx (by have := szEs_mem hx; omega) fun a ha => hg a (affsE_k hx ha)
def numE (n : Int) : Ex := .mk 1 n ([], 0) (ByteArray.empty, []) []
def isN (e : Ex) (n : Int) : Bool := decide (e.k = 1) && decide (e.n = n)
/-- The value of an operator on numbers. -/
def valN (k a b : Int) : Int := if k = 5 then a - b else if k = 6 then a * b else a + b
/-- A node whose operands are simple. -/
def foldN (e x y : Ex) : Ex :=
  if (decide (x.k = 1) && decide (y.k = 1)) = true then (if inB (valN e.k x.n y.n) 0 99 = true then numE (valN e.k x.n y.n) else e)
  else if (!decide (e.k = 6) && isN y 0 || decide (e.k = 6) && isN y 1) = true then x
  else if (decide (e.k = 4) && isN x 0 || decide (e.k = 6) && isN x 1) = true then y
  else if (decide (e.k = 6) && (isN x 0 || isN y 0)) = true then numE 0 else e
def outE (k : Int) (x y : Ex) : Ex := .mk k 0 ([], 0) (ByteArray.empty, []) [x, y]
def idxV (e : Ex) : Bool := decide (e.k = 2) && decide (affDepth e.i = 0) && decide (0 ≤ e.i.2)
mutual
def foldE : Ex → Ex
  | .mk k n i r ks => if idxV (.mk k n i r ks) = true then numE i.2 else if 4 ≤ k ∧ k ≤ 6 then
    match foldEs ks with
    | [x, y] => foldN (outE k x y) x y
    | _ => .mk k n i r ks
    else .mk k n i r ks
def foldEs : List Ex → List Ex
  | [] => []
  | e :: l => foldE e :: foldEs l
end
theorem idxV_no {e : Ex} (h : ¬ e.k = 2) : idxV e = false := by rw [idxV, decide_eq_false h]; rfl
theorem foldE_leaf {e : Ex} (h : ¬ (4 ≤ e.k ∧ e.k ≤ 6)) : foldE e = if idxV e = true then numE e.i.2 else e := by
  cases e with
  | mk k n i r ks =>
    rw [foldE]
    have h' : ¬ (4 ≤ k ∧ k ≤ 6) := h
    rw [if_neg h']; rfl
theorem foldE_op {e x y : Ex} (h : 4 ≤ e.k ∧ e.k ≤ 6) (hks : e.ks = [x, y]) : foldE e = foldN (outE e.k (foldE x) (foldE y)) (foldE x) (foldE y) := by
  cases e with
  | mk k n i r ks =>
    have h' : 4 ≤ k ∧ k ≤ 6 := h
    have hk' : ks = [x, y] := hks
    subst hk'
    rw [foldE, idxV_no (show ¬ (Ex.mk k n i r [x, y]).k = 2 by show ¬ k = 2; omega), if_neg (by simp), if_pos h', foldEs, foldEs, foldEs]; rfl
theorem foldN_num {k : Int} {X Y : Ex} (h : (decide (X.k = 1) && decide (Y.k = 1)) = true) (h2 : inB (valN k X.n Y.n) 0 99 = true) : foldN (outE k X Y) X Y = numE (valN k X.n Y.n) := by rw [foldN, if_pos h]; exact if_pos h2
theorem foldN_out {k : Int} {X Y : Ex} (h : (decide (X.k = 1) && decide (Y.k = 1)) = true) (h2 : inB (valN k X.n Y.n) 0 99 = false) : foldN (outE k X Y) X Y = outE k X Y := by rw [foldN, if_pos h]; exact if_neg (by intro h3; exact absurd (h2.symm.trans h3) (by decide))
theorem foldN_x {k : Int} {X Y : Ex} (h : (decide (X.k = 1) && decide (Y.k = 1)) = false) (h2 : (!decide (k = 6) && isN Y 0 || decide (k = 6) && isN Y 1) = true) : foldN (outE k X Y) X Y = X := by rw [foldN, if_neg (by rw [h]; decide)]; exact if_pos h2
theorem foldN_y {k : Int} {X Y : Ex} (h : (decide (X.k = 1) && decide (Y.k = 1)) = false) (h2 : (!decide (k = 6) && isN Y 0 || decide (k = 6) && isN Y 1) = false) (h3 : (decide (k = 4) && isN X 0 || decide (k = 6) && isN X 1) = true) : foldN (outE k X Y) X Y = Y := by
  rw [foldN, if_neg (by rw [h]; decide)]
  exact (if_neg (fun h4 => absurd (h2.symm.trans h4) (by decide))).trans (if_pos h3)
theorem foldN_z {k : Int} {X Y : Ex} (h : (decide (X.k = 1) && decide (Y.k = 1)) = false) (h2 : (!decide (k = 6) && isN Y 0 || decide (k = 6) && isN Y 1) = false) (h3 : (decide (k = 4) && isN X 0 || decide (k = 6) && isN X 1) = false) (h5 : (decide (k = 6) && (isN X 0 || isN Y 0)) = true) : foldN (outE k X Y) X Y = numE 0 := by
  rw [foldN, if_neg (by rw [h]; decide)]
  exact (if_neg (fun h4 => absurd (h2.symm.trans h4) (by decide))).trans ((if_neg (fun h4 => absurd (h3.symm.trans h4) (by decide))).trans (if_pos h5))
theorem foldN_e {k : Int} {X Y : Ex} (h : (decide (X.k = 1) && decide (Y.k = 1)) = false) (h2 : (!decide (k = 6) && isN Y 0 || decide (k = 6) && isN Y 1) = false) (h3 : (decide (k = 4) && isN X 0 || decide (k = 6) && isN X 1) = false) (h5 : (decide (k = 6) && (isN X 0 || isN Y 0)) = false) : foldN (outE k X Y) X Y = outE k X Y := by
  rw [foldN, if_neg (by rw [h]; decide)]
  exact (if_neg (fun h4 => absurd (h2.symm.trans h4) (by decide))).trans ((if_neg (fun h4 => absurd (h3.symm.trans h4) (by decide))).trans (if_neg (fun h4 => absurd (h5.symm.trans h4) (by decide))))
theorem inB_mul {a b : Int} (ha : -1000 ≤ a ∧ a ≤ 1000) (hb : -1000 ≤ b ∧ b ≤ 1000) : -1000000 ≤ a * b ∧ a * b ≤ 1000000 := mulb ha hb

theorem l13Num_fn (n : Int) : Fn Try.prog 93 [] [nat1 n] (.o (ad (rX (numE n)))) [] := by
  refine Fn.code0 Try.func93 rfl rfl rfl rfl ?_
  refine .seq <| .region <| .cons (.al 102 [.int .i64 0, .int .i64 0, .slice none 0 0, .int .i64 0, .string ByteArray.empty, .slice none 0 0, .slice none 0 0] rfl rfl rfl) <| .nil <| ks_n <| .seq <| .region <| .cons (.mv rfl rfl) <| .cons (.bu [(0, .const (.int .i64 (1))), (1, .tmp 3)] [(0, 1), (1, 1), (2, 2), (4, 2), (6, 1)] [.int .i64 0, .int .i64 0, .slice none 0 0, .int .i64 0, .string ByteArray.empty, .slice none 0 0, .slice none 0 0] rfl rfl rfl rfl rfl) <| .cons (.sT 7 true rfl rfl rfl rfl rfl rfl rfl) <| .nil <| ks_n <| .ret ?_
  refine kf_wret [(.t 2, .v (.o (.c (.box 100 7 0 0)))), (.b 100, .b 40 7 [[.d (dI 1), .d (dI n), .d (dIs []), .d (dI 0), .d (dS ByteArray.empty), .d (dAs []), .d (dEs [])]]), (.u 100, .u)] (Wk.keep [(100, 102)] rfl rfl ⟨ks rfl (.c .bx), kb 102 rfl (.cons (.cons .dt (.cons .dt (.cons (Cto.nil _) (.cons .dt (.cons .dt (.cons (Cto.nil _) (.cons (Cto.nil _) Ctos.nil))))))) .nil), trivial⟩) rfl ?_ nobox
  rfl

theorem implIsNum_fn (e : Ex) (n : Int) : Fn Try.prog 98 [] [ad (rX e), nat1 n] (.o (bo1 (isN e n))) [] := by
  refine Fn.code0 Try.func98 rfl rfl rfl rfl ?_
  refine .seq <| .region <| .cons (St1.boxP rfl rfl rfl rfl rfl rfl) <| .cons (.asg rfl rfl) <| .nil <| ks_n <| .seq <| .region <| .cons (.fP 0 0 false rfl rfl) <| .cons (.l1 1 rfl rfl) <| .cons (.eq rfl rfl rfl) <| .cons (.mv rfl rfl) ?_
  refine .cD 8 rfl (fun g8 => ?_) (fun g8 => ?_)
  · skip
    refine .cons (.gT rfl rfl rfl (.fP 1 0 false rfl rfl)) <| .cons (.gT rfl rfl rfl (.l1 1 rfl rfl)) <| .cons (.gT rfl rfl rfl (.mv rfl rfl)) <| .cons (.gT rfl rfl rfl (.eq rfl rfl rfl)) <| .cons (.pT rfl rfl rfl) <| .cons (.asg rfl rfl) <| .nil <| ks_n <| .ret ?_
    refine kf_ret rfl ?_ nobox
    exact leafB (by rw [isN]; first | rfl | grind)
  · skip
    refine .cons (.gF rfl rfl rfl) <| .cons (.gF rfl rfl rfl) <| .cons (.gF rfl rfl rfl) <| .cons (.gF rfl rfl rfl) <| .cons (.pF rfl rfl rfl) <| .cons (.asg rfl rfl) <| .nil <| ks_n <| .ret ?_
    refine kf_ret rfl ?_ nobox
    exact leafB (by rw [isN]; first | rfl | grind)

theorem l13Is_fn (e : Ex) (n : Int) : Fn Try.prog 95 [] [ad (rX e), nat1 n] (.o (bo1 (isN e n))) [] := by
  refine Fn.code0 Try.func95 rfl rfl rfl rfl ?_
  refine .seq <| .region <| .cons (St1.boxP rfl rfl rfl rfl rfl rfl) <| .cons (.asg rfl rfl) <| .nil <| ks_n <| .seq <| .region <| .cons (.fP 0 0 false rfl rfl) <| .cons (.l1 1 rfl rfl) <| .cons (.eq rfl rfl rfl) <| .cons (.mv rfl rfl) ?_
  refine .cD 8 rfl (fun g8 => ?_) (fun g8 => ?_)
  · skip
    refine .cons (.gT rfl rfl rfl (.fP 1 0 false rfl rfl)) <| .cons (.gT rfl rfl rfl (.l1 1 rfl rfl)) <| .cons (.gT rfl rfl rfl (.mv rfl rfl)) <| .cons (.gT rfl rfl rfl (.eq rfl rfl rfl)) <| .cons (.pT rfl rfl rfl) <| .cons (.asg rfl rfl) <| .nil <| ks_n <| .ret ?_
    refine kf_ret rfl ?_ nobox
    exact leafB (by rw [isN]; first | rfl | grind)
  · skip
    refine .cons (.gF rfl rfl rfl) <| .cons (.gF rfl rfl rfl) <| .cons (.gF rfl rfl rfl) <| .cons (.gF rfl rfl rfl) <| .cons (.pF rfl rfl rfl) <| .cons (.asg rfl rfl) <| .nil <| ks_n <| .ret ?_
    refine kf_ret rfl ?_ nobox
    exact leafB (by rw [isN]; first | rfl | grind)
theorem exV_up {d : Nat} : ∀ {L : Nat} {e : Ex}, exV d L e = true → exV d (L + 1) e = true
  | 0, e, h => by cases h
  | L + 1, e, h => by
    rw [exV, Bool.and_eq_true] at h
    rw [exV, Bool.and_eq_true]
    exact ⟨h.1, List.all_eq_true.2 fun x hx => exV_up (List.all_eq_true.1 h.2 x hx)⟩
theorem exV_n {d L : Nat} {e : Ex} (h : exV d L e = true) : 0 ≤ e.n ∧ e.n ≤ 99 := by
  cases L with
  | zero => cases h
  | succ L =>
    rw [exV, Bool.and_eq_true, Bool.and_eq_true] at h
    have h1 := h.1.2
    unfold fldV at h1
    split at h1
    · simp only [Bool.and_eq_true, inB, decide_eq_true_eq] at h1; exact h1.1.1
    · split at h1
      · simp only [Bool.and_eq_true, decide_eq_true_eq] at h1; omega
      · split at h1
        · simp only [Bool.and_eq_true, decide_eq_true_eq] at h1; omega
        · simp only [Bool.and_eq_true, decide_eq_true_eq] at h1; omega
theorem numE_ok {d L : Nat} {n : Int} (h : 0 ≤ n ∧ n ≤ 99) : exV d (L + 1) (numE n) = true := by
  have h1 : nonC (ByteArray.empty, []) = true := nonC_iff.2 rfl
  have h2 : nonA ([], 0) = true := nonA_iff.2 rfl
  show (kidV 1 0 && fldV d 1 n ([], 0) (ByteArray.empty, []) && true) = true
  rw [fldV, if_pos rfl, h1, h2, inB, decide_eq_true h]; rfl
theorem outE_ok {d L : Nat} {k : Int} {X Y : Ex} (hk : 4 ≤ k ∧ k ≤ 6) (hX : exV d L X = true) (hY : exV d L Y = true) : exV d (L + 1) (outE k X Y) = true := by
  have h1 : nonC (ByteArray.empty, []) = true := nonC_iff.2 rfl
  have h2 : nonA ([], 0) = true := nonA_iff.2 rfl
  show (kidV k 2 && fldV d k 0 ([], 0) (ByteArray.empty, []) && (exV d L X && (exV d L Y && true))) = true
  rw [kidV, if_neg (by omega), if_pos hk, fldV, if_neg (by omega), if_neg (by omega), if_neg (by omega), h1, h2, hX, hY]; rfl
theorem foldN_cases (k : Int) (X Y : Ex) : (∃ n, 0 ≤ n ∧ n ≤ 99 ∧ foldN (outE k X Y) X Y = numE n) ∨ foldN (outE k X Y) X Y = X ∨ foldN (outE k X Y) X Y = Y ∨ foldN (outE k X Y) X Y = outE k X Y := by
  unfold foldN
  split
  · split
    · rename_i h; simp only [inB, decide_eq_true_eq] at h; exact .inl ⟨_, h.1, h.2, rfl⟩
    · exact .inr (.inr (.inr rfl))
  · split
    · exact .inr (.inl rfl)
    · split
      · exact .inr (.inr (.inl rfl))
      · split
        · exact .inl ⟨0, by omega, by omega, rfl⟩
        · exact .inr (.inr (.inr rfl))
/-- What holds of numbers, of what lies below, and of nodes over simple operands, holds of what is simplified. -/
theorem fold_ind {d : Nat} {p : Nat → Ex → Ex → Prop} (hnum : ∀ L n e, exV d (L + 1) e = true → 0 ≤ n → n ≤ 99 → p (L + 1) e (numE n)) (hsame : ∀ L e, exV d (L + 1) e = true → ¬ (4 ≤ e.k ∧ e.k ≤ 6) → idxV e = false → p (L + 1) e e)
    (hx : ∀ L e x y X, exV d (L + 1) e = true → 4 ≤ e.k ∧ e.k ≤ 6 → e.ks = [x, y] → p L x X → p (L + 1) e X) (hy : ∀ L e x y Y, exV d (L + 1) e = true → 4 ≤ e.k ∧ e.k ≤ 6 → e.ks = [x, y] → p L y Y → p (L + 1) e Y)
    (ho : ∀ L e x y, exV d (L + 1) e = true → 4 ≤ e.k ∧ e.k ≤ 6 → e.ks = [x, y] → p L x (foldE x) → p L y (foldE y) → foldN (outE e.k (foldE x) (foldE y)) (foldE x) (foldE y) = outE e.k (foldE x) (foldE y) → p (L + 1) e (outE e.k (foldE x) (foldE y))) : ∀ {L : Nat} {e : Ex}, exV d L e = true → p L e (foldE e)
  | 0, e, h => by cases h
  | L + 1, e, h => by
    by_cases hk : 4 ≤ e.k ∧ e.k ≤ 6
    · obtain ⟨x, y, hks⟩ := op_two h hk
      have hkv := (exV_kids h).2
      have ihx := fold_ind hnum hsame hx hy ho (hkv x (by rw [hks]; simp))
      have ihy := fold_ind hnum hsame hx hy ho (hkv y (by rw [hks]; simp))
      rw [foldE_op hk hks]
      rcases foldN_cases e.k (foldE x) (foldE y) with ⟨n, h1, h2, e1⟩ | e1 | e1 | e1
      · rw [e1]; exact hnum L n e h h1 h2
      · rw [e1]; exact hx L e x y _ h hk hks ihx
      · rw [e1]; exact hy L e x y _ h hk hks ihy
      · have e2 := e1; rw [e1]; exact ho L e x y h hk hks ihx ihy e2
    · rw [foldE_leaf hk]
      split
      · rename_i hi
        simp only [idxV, Bool.and_eq_true, decide_eq_true_eq] at hi
        refine hnum L _ e h hi.2 ?_
        have h2 := h
        rw [exV, Bool.and_eq_true, Bool.and_eq_true] at h2
        have h3 := (fld_aff h2.1.2).1 hi.1.1
        rw [bndV, Bool.and_eq_true] at h3
        exact (affV_const h3.1).2
      · rename_i hi
        exact hsame L e h hk (by simpa using hi)
theorem fold_ok {d L : Nat} {e : Ex} (h : exV d L e = true) : exV d L (foldE e) = true :=
  fold_ind (p := fun L _ X => exV d L X = true) (fun L n e _ h1 h2 => numE_ok ⟨h1, h2⟩) (fun L e h _ _ => h) (fun L e x y X _ _ _ h => exV_up h) (fun L e x y Y _ _ _ h => exV_up h) (fun L e x y _ hk _ h1 h2 _ => outE_ok hk h1 h2) h
def foldS (s : Stm) : Stm := (s.1, foldE s.2)
def foldT (s : Stm) : Stm × Bool := if stmtV 4 s = true then (foldS s, true) else (zS, false)
theorem foldT_yes {s : Stm} (h : stmtV 4 s = true) : foldT s = (foldS s, true) := if_pos h
theorem foldT_no {s : Stm} (h : stmtV 4 s = false) : foldT s = (zS, false) := if_neg (by rw [h]; decide)
theorem l13Two_fn {e : Ex} {a b : Int} (hk : 4 ≤ e.k ∧ e.k ≤ 6) (ha : -1000 ≤ a ∧ a ≤ 1000) (hb : -1000 ≤ b ∧ b ≤ 1000) : Fn Try.prog 94 [] [ad (rX e), nat1 a, nat1 b] (.o (ad (rX (if inB (valN e.k a b) 0 99 = true then numE (valN e.k a b) else e)))) [] := by
 have hm := inB_mul ha hb
 refine Fn.code0 Try.func94 rfl rfl rfl rfl ?_
 refine .seq <| .region <| .cons (St1.boxP rfl rfl rfl rfl rfl rfl) <| .cons (.al 106 [.int .i64 0, .int .i64 0, .slice none 0 0, .int .i64 0, .string ByteArray.empty, .slice none 0 0, .slice none 0 0] rfl rfl rfl) <| .nil <| ks_n <| .seq <| .region <| .cons (.mv rfl rfl) <| .cons (.mv rfl rfl) <| .cons (.ml rfl rfl rfl) <| .cons (.asg rfl rfl) <| .nil <| ks_n <| .seq ?_
 refine ACode.cut [(.t 3, .v (.o (.c (.ptr (rX e))))), (.t 6, .v (.o (.c (.box 820 7 0 0)))), (.t 7, .v (.o (nat1 (valN e.k a b)))), (.b 820, .b 40 7 [[.d (dI 0), .d (dI 0), .d (.val (.slice none 0 0)), .d (dI 0), .d (dS ByteArray.empty), .d (.val (.slice none 0 0)), .d (.val (.slice none 0 0))]]), (.u 820, .u)] ?_ ?_
 ·skip
  refine .seq <| .region <| .cons (.fP 0 0 false rfl rfl) <| .cons (.l1 1 rfl rfl) <| .nil <| ks_n <| .block <| .seq <| .region <| .cons (.eq rfl rfl rfl) <| .cons (.asg rfl rfl) <| .nil <| ks_n ?_
  refine .cD rfl (fun h13 => ?_) (fun h13 => ?_)
  ·skip
   refine .region <| .cons (.mv rfl rfl) <| .cons (.mv rfl rfl) <| .cons (.pl rfl rfl rfl) <| .cons (.asg rfl rfl) <| .nil <| kb_n ?_
   exact kc_n (Wk.keep [(820, 106)] rfl rfl ⟨ks rfl .dt, ks rfl (.c .bx), ks rfl (.dt (vI (by rw [valN]; first | (rw [if_pos (by assumption)]; done) | (rw [if_neg (by omega), if_neg (by omega)]; done) | (rw [if_neg (by assumption), if_pos (by omega)])))), kb 106 rfl (.cons (.cons .dt (.cons .dt (.cons .dt (.cons .dt (.cons .dt (.cons .dt (.cons .dt Ctos.nil))))))) .nil), trivial⟩)
  ·skip
   refine .seq <| .region <| .cons (.eq rfl rfl rfl) <| .cons (.asg rfl rfl) <| .nil <| ks_n ?_
   refine .cD rfl (fun h18 => ?_) (fun h18 => ?_)
   ·skip
    refine .region <| .cons (.mv rfl rfl) <| .cons (.mv rfl rfl) <| .cons (.sb rfl rfl rfl) <| .cons (.asg rfl rfl) <| .nil <| kb_n ?_
    exact kc_n (Wk.keep [(820, 106)] rfl rfl ⟨ks rfl .dt, ks rfl (.c .bx), ks rfl (.dt (vI (by rw [valN]; first | (rw [if_pos (by assumption)]; done) | (rw [if_neg (by omega), if_neg (by omega)]; done) | (rw [if_neg (by assumption), if_pos (by omega)])))), kb 106 rfl (.cons (.cons .dt (.cons .dt (.cons .dt (.cons .dt (.cons .dt (.cons .dt (.cons .dt Ctos.nil))))))) .nil), trivial⟩)
   ·skip
    refine .skip <| kb_n ?_
    exact kc_n (Wk.keep [(820, 106)] rfl rfl ⟨ks rfl .dt, ks rfl (.c .bx), ks rfl (.dt (vI (by rw [valN]; first | (rw [if_pos (by assumption)]; done) | (rw [if_neg (by omega), if_neg (by omega)]; done) | (rw [if_neg (by assumption), if_pos (by omega)])))), kb 106 rfl (.cons (.cons .dt (.cons .dt (.cons .dt (.cons .dt (.cons .dt (.cons .dt (.cons .dt Ctos.nil))))))) .nil), trivial⟩)
 refine ks_n <| .seq <| .seq ?_
 refine ACode.cut [(.t 3, .v (.o (.c (.ptr (rX e))))), (.t 6, .v (.o (.c (.box 870 7 0 0)))), (.t 7, .v (.o (nat1 (valN e.k a b)))), (.t 28, .v (.o (bo1 (!inB (valN e.k a b) 0 99)))), (.b 870, .b 40 7 [[.d (dI 0), .d (dI 0), .d (.val (.slice none 0 0)), .d (dI 0), .d (dS ByteArray.empty), .d (.val (.slice none 0 0)), .d (.val (.slice none 0 0))]]), (.u 870, .u)] ?_ ?_
 ·skip
  refine .region <| .cons (.mv rfl rfl) <| .cons (.ls rfl rfl rfl) <| .cons (.mv rfl rfl) ?_
  refine .cD 25 rfl (fun g25 => ?_) (fun g25 => ?_)
  ·skip
   refine .cons (.gF rfl rfl rfl) <| .cons (.gF rfl rfl rfl) <| .cons (.pT rfl rfl rfl) <| .nil ?_
   exact kc_n (Wk.keep [(870, 820)] rfl rfl ⟨ks rfl .dt, ks rfl (.c .bx), ks rfl .dt, ks rfl (.dt (vB (by rw [inB]; first | rfl | grind))), kb 820 rfl (.cons (.cons .dt (.cons .dt (.cons .dt (.cons .dt (.cons .dt (.cons .dt (.cons .dt Ctos.nil))))))) .nil), trivial⟩)
  ·skip
   refine .cons (.gT rfl rfl rfl (.mv rfl rfl)) <| .cons (.gT rfl rfl rfl (.gt rfl rfl rfl)) <| .cons (.pF rfl rfl rfl) <| .nil ?_
   exact kc_n (Wk.keep [(870, 820)] rfl rfl ⟨ks rfl .dt, ks rfl (.c .bx), ks rfl .dt, ks rfl (.dt (vB (by rw [inB]; first | rfl | grind))), kb 820 rfl (.cons (.cons .dt (.cons .dt (.cons .dt (.cons .dt (.cons .dt (.cons .dt (.cons .dt Ctos.nil))))))) .nil), trivial⟩)
 refine ks_n ?_
 refine ACode.condT rfl (fun h28 => ?_) (fun h28 => ?_)
 ·try simp only [zs1, zs2, zs3, zs4, zs5, zs6, zs7] at h28
  refine .seq <| .region <| .cons (.lN 7 rfl rfl rfl) <| .cons (.sT 7 true rfl rfl rfl rfl rfl rfl rfl) <| .nil <| ks_n <| .ret <| ks_r ?_
  refine kf_ret rfl ?_ nobox
  rw [if_neg (by rw [h28]; decide)]; rfl
 ·try simp only [zs1, zs2, zs3, zs4, zs5, zs6, zs7] at h28
  refine .skip <| ks_n <| .seq <| .region <| .cons (.mv rfl rfl) <| .cons (.cP [.tmp 30] rfl rfl rfl rfl (l13Num_fn _) rfl) ?_
  refine .cons (.sT 7 true rfl rfl rfl rfl rfl rfl rfl) <| .nil <| ks_n <| .ret ?_
  refine kf_ret rfl ?_ nobox
  rw [if_pos h28]; rfl

theorem node_leaf {e : Ex} (hks : e.ks = []) : Fn Try.prog 74 [] [ad (rX e)] (.o (ad (rX (if idxV e = true then numE e.i.2 else e)))) [] := by
 refine Fn.code0 Try.func74 rfl rfl rfl rfl ?_
 refine .seq <| .region <| .cons (St1.boxP rfl rfl rfl rfl rfl rfl) <| .cons (.al 102 [.int .i64 0, .int .i64 0, .slice none 0 0, .int .i64 0, .string ByteArray.empty, .slice none 0 0, .slice none 0 0] rfl rfl rfl) <| .nil <| ks_n <| .seq <| .seq ?_
 refine ACode.cut [(.t 1, .v (.o (.c (.ptr (rX e))))), (.t 2, .v (.o (.c (.box 810 7 0 0)))), (.t 19, .v (.o (bo1 (idxV e)))), (.b 810, .b 40 7 [[.d (dI 0), .d (dI 0), .d (.val (.slice none 0 0)), .d (dI 0), .d (dS ByteArray.empty), .d (.val (.slice none 0 0)), .d (.val (.slice none 0 0))]]), (.u 810, .u)] ?_ ?_
 ·skip
  refine .region <| .cons (.fP 0 0 false rfl rfl) <| .cons (.l1 1 rfl rfl) <| .cons (.eq rfl rfl rfl) <| .cons (.mv rfl rfl) ?_
  refine .cD 8 rfl (fun g8 => ?_) (fun g8 => ?_)
  ·skip
   refine .cons (.gT rfl rfl rfl (.fP 2 1 true rfl rfl)) <| .cons (.gT rfl rfl rfl (.lN 2 rfl rfl rfl)) <| .cons (.gT rfl rfl rfl (.cP [.tmp 10] rfl rfl rfl rfl (l1Depth_fn _) rfl)) ?_
   refine .cons (.gT rfl rfl rfl (.eq rfl rfl rfl)) <| .cons (.pT rfl rfl rfl) <| .cons (.mv rfl rfl) ?_
   refine AOps.cases 14 _ rfl (fun g14 => ?_) (fun g14 => ?_)
   ·try simp only [zs1, zs2, zs3, zs4, zs5, zs6, zs7] at g14
    refine .cons (.gT rfl rfl rfl (.fP 2 1 true rfl rfl)) <| .cons (.gT rfl rfl rfl (.fP 1 0 false rfl rfl)) <| .cons (.gT rfl rfl rfl (.l1 1 rfl rfl)) <| .cons (.gT rfl rfl rfl (.ge rfl rfl rfl)) <| .cons (.pT rfl rfl rfl) <| .nil ?_
    exact kc_n (Wk.keep [(810, 102)] rfl rfl ⟨ks rfl .dt, ks rfl (.c .bx), ks rfl (.dt (vB (by rw [idxV]; first | rfl | (simp [*]; done) | grind))), kb 102 rfl (.cons (.cons .dt (.cons .dt (.cons .dt (.cons .dt (.cons .dt (.cons .dt (.cons .dt Ctos.nil))))))) .nil), trivial⟩)
   ·try simp only [zs1, zs2, zs3, zs4, zs5, zs6, zs7] at g14
    refine .cons (.gF rfl rfl rfl) <| .cons (.gF rfl rfl rfl) <| .cons (.gF rfl rfl rfl) <| .cons (.gF rfl rfl rfl) <| .cons (.pF rfl rfl rfl) <| .nil ?_
    exact kc_n (Wk.keep [(810, 102)] rfl rfl ⟨ks rfl .dt, ks rfl (.c .bx), ks rfl (.dt (vB (by rw [idxV]; first | rfl | (simp [*]; done) | grind))), kb 102 rfl (.cons (.cons .dt (.cons .dt (.cons .dt (.cons .dt (.cons .dt (.cons .dt (.cons .dt Ctos.nil))))))) .nil), trivial⟩)
  ·skip
   refine .cons (.gF rfl rfl rfl) <| .cons (.gF rfl rfl rfl) <| .cons (.gF rfl rfl rfl) <| .cons (.gF rfl rfl rfl) <| .cons (.pF rfl rfl rfl) <| .cons (.mv rfl rfl) <| .cons (.gF rfl rfl rfl) <| .cons (.gF rfl rfl rfl) <| .cons (.gF rfl rfl rfl) <| .cons (.gF rfl rfl rfl) <| .cons (.pF rfl rfl rfl) <| .nil ?_
   exact kc_n (Wk.keep [(810, 102)] rfl rfl ⟨ks rfl .dt, ks rfl (.c .bx), ks rfl (.dt (vB (by rw [idxV]; first | rfl | (simp [*]; done) | grind))), kb 102 rfl (.cons (.cons .dt (.cons .dt (.cons .dt (.cons .dt (.cons .dt (.cons .dt (.cons .dt Ctos.nil))))))) .nil), trivial⟩)
 refine ks_n ?_
 refine ACode.condT rfl (fun h19 => ?_) (fun h19 => ?_)
 ·try simp only [zs1, zs2, zs3, zs4, zs5, zs6, zs7] at h19
  refine .seq <| .region <| .cons (.fP 2 1 true rfl rfl) <| .cons (.fP 1 0 false rfl rfl) <| .cons (.l1 1 rfl rfl) <| .cons (.cP [.tmp 22] rfl rfl rfl rfl (l13Num_fn _) rfl) ?_
  refine .cons (.sT 7 true rfl rfl rfl rfl rfl rfl rfl) <| .nil <| ks_n <| .ret <| ks_r ?_
  refine kf_ret rfl ?_ nobox
  rw [if_pos h19]; rfl
 ·try simp only [zs1, zs2, zs3, zs4, zs5, zs6, zs7] at h19
  refine .skip <| ks_n <| .seq <| .seq <| .region <| .cons (.fP 6 0 false rfl rfl) <| .cons (.l1 1 rfl rfl) <| .cons (.ln 40 7 112 rfl rfl rfl) <| .cons (.eq rfl rfl rfl) <| .nil <| ks_n ?_
  refine .cD rfl (fun h27 => ?_) (fun h27 => ?_)
  ·skip
   refine .seq <| .region <| .cons (.lN 7 rfl rfl rfl) <| .cons (.sT 7 true rfl rfl rfl rfl rfl rfl rfl) <| .nil <| ks_n <| .ret <| ks_r ?_
   refine kf_ret rfl ?_ nobox
   rw [if_neg (by rw [h19]; decide)]; rfl
  ·skip
   exact absurd (by rw [hks]; rfl) h27

theorem node_op {e X Y : Ex} (hk : 4 ≤ e.k ∧ e.k ≤ 6) (hks : e.ks = [X, Y]) (hX : -1000 ≤ X.n ∧ X.n ≤ 1000) (hY : -1000 ≤ Y.n ∧ Y.n ≤ 1000) : Fn Try.prog 74 [] [ad (rX e)] (.o (ad (rX (foldN e X Y)))) [] := by
 refine Fn.code0 Try.func74 rfl rfl rfl rfl ?_
 refine .seq <| .region <| .cons (St1.boxP rfl rfl rfl rfl rfl rfl) <| .cons (.al 102 [.int .i64 0, .int .i64 0, .slice none 0 0, .int .i64 0, .string ByteArray.empty, .slice none 0 0, .slice none 0 0] rfl rfl rfl) <| .nil <| ks_n <| .seq <| .seq ?_
 refine ACode.cut [(.t 1, .v (.o (.c (.ptr (rX e))))), (.t 2, .v (.o (.c (.box 810 7 0 0)))), (.t 19, .v (.o (bo1 (idxV e)))), (.b 810, .b 40 7 [[.d (dI 0), .d (dI 0), .d (.val (.slice none 0 0)), .d (dI 0), .d (dS ByteArray.empty), .d (.val (.slice none 0 0)), .d (.val (.slice none 0 0))]]), (.u 810, .u)] ?_ ?_
 ·skip
  refine .region <| .cons (.fP 0 0 false rfl rfl) <| .cons (.l1 1 rfl rfl) <| .cons (.eq rfl rfl rfl) <| .cons (.mv rfl rfl) ?_
  refine .cD 8 rfl (fun g8 => ?_) (fun g8 => ?_)
  ·skip
   refine .cons (.gT rfl rfl rfl (.fP 2 1 true rfl rfl)) <| .cons (.gT rfl rfl rfl (.lN 2 rfl rfl rfl)) <| .cons (.gT rfl rfl rfl (.cP [.tmp 10] rfl rfl rfl rfl (l1Depth_fn _) rfl)) ?_
   refine .cons (.gT rfl rfl rfl (.eq rfl rfl rfl)) <| .cons (.pT rfl rfl rfl) <| .cons (.mv rfl rfl) ?_
   refine AOps.cases 14 _ rfl (fun g14 => ?_) (fun g14 => ?_)
   ·try simp only [zs1, zs2, zs3, zs4, zs5, zs6, zs7] at g14
    refine .cons (.gT rfl rfl rfl (.fP 2 1 true rfl rfl)) <| .cons (.gT rfl rfl rfl (.fP 1 0 false rfl rfl)) <| .cons (.gT rfl rfl rfl (.l1 1 rfl rfl)) <| .cons (.gT rfl rfl rfl (.ge rfl rfl rfl)) <| .cons (.pT rfl rfl rfl) <| .nil ?_
    exact kc_n (Wk.keep [(810, 102)] rfl rfl ⟨ks rfl .dt, ks rfl (.c .bx), ks rfl (.dt (vB (by rw [idxV]; first | rfl | (simp [*]; done) | grind))), kb 102 rfl (.cons (.cons .dt (.cons .dt (.cons .dt (.cons .dt (.cons .dt (.cons .dt (.cons .dt Ctos.nil))))))) .nil), trivial⟩)
   ·try simp only [zs1, zs2, zs3, zs4, zs5, zs6, zs7] at g14
    refine .cons (.gF rfl rfl rfl) <| .cons (.gF rfl rfl rfl) <| .cons (.gF rfl rfl rfl) <| .cons (.gF rfl rfl rfl) <| .cons (.pF rfl rfl rfl) <| .nil ?_
    exact kc_n (Wk.keep [(810, 102)] rfl rfl ⟨ks rfl .dt, ks rfl (.c .bx), ks rfl (.dt (vB (by rw [idxV]; first | rfl | (simp [*]; done) | grind))), kb 102 rfl (.cons (.cons .dt (.cons .dt (.cons .dt (.cons .dt (.cons .dt (.cons .dt (.cons .dt Ctos.nil))))))) .nil), trivial⟩)
  ·skip
   refine .cons (.gF rfl rfl rfl) <| .cons (.gF rfl rfl rfl) <| .cons (.gF rfl rfl rfl) <| .cons (.gF rfl rfl rfl) <| .cons (.pF rfl rfl rfl) <| .cons (.mv rfl rfl) <| .cons (.gF rfl rfl rfl) <| .cons (.gF rfl rfl rfl) <| .cons (.gF rfl rfl rfl) <| .cons (.gF rfl rfl rfl) <| .cons (.pF rfl rfl rfl) <| .nil ?_
   exact kc_n (Wk.keep [(810, 102)] rfl rfl ⟨ks rfl .dt, ks rfl (.c .bx), ks rfl (.dt (vB (by rw [idxV]; first | rfl | (simp [*]; done) | grind))), kb 102 rfl (.cons (.cons .dt (.cons .dt (.cons .dt (.cons .dt (.cons .dt (.cons .dt (.cons .dt Ctos.nil))))))) .nil), trivial⟩)
 refine ks_n ?_
 refine ACode.condT rfl (fun h19 => ?_) (fun h19 => ?_)
 ·try simp only [zs1, zs2, zs3, zs4, zs5, zs6, zs7] at h19
  exact absurd (h19.symm.trans (idxV_no (by omega))) (by decide)
 ·try simp only [zs1, zs2, zs3, zs4, zs5, zs6, zs7] at h19
  refine .skip <| ks_n <| .seq <| .seq <| .region <| .cons (.fP 6 0 false rfl rfl) <| .cons (.l1 1 rfl rfl) <| .cons (.ln 40 7 112 rfl rfl rfl) <| .cons (.eq rfl rfl rfl) <| .nil <| ks_n ?_
  refine .cD rfl (fun h27 => ?_) (fun h27 => ?_)
  ·skip
   exact absurd h27 (by rw [hks]; simp)
  ·skip
   refine .skip <| ks_n <| .seq <| .region <| .cons (.fP 6 0 false rfl rfl) <| .cons (.l1 1 rfl rfl) <| .cons (.xL 40 7 112 (i := 0) rfl rfl rfl rfl rfl (by rw [hks]; exact rE_at rfl)) ?_
   refine .cons (.lN 7 rfl rfl rfl) <| .cons (.al 103 [.int .i64 0, .int .i64 0, .slice none 0 0, .int .i64 0, .string ByteArray.empty, .slice none 0 0, .slice none 0 0] rfl rfl rfl) <| .cons (.sT 7 true rfl rfl rfl rfl rfl rfl rfl) <| .nil <| ks_n <| .seq <| .region <| .cons (.fP 6 0 false rfl rfl) <| .cons (.l1 1 rfl rfl) <| .cons (.xL 40 7 112 (i := 1) rfl rfl rfl rfl rfl (by rw [hks]; exact rE_at rfl)) ?_
   refine .cons (.lN 7 rfl rfl rfl) <| .cons (.al 104 [.int .i64 0, .int .i64 0, .slice none 0 0, .int .i64 0, .string ByteArray.empty, .slice none 0 0, .slice none 0 0] rfl rfl rfl) <| .cons (.sT 7 true rfl rfl rfl rfl rfl rfl rfl) <| .nil <| ks_n <| .seq <| .block <| .seq ?_
   refine ACode.cut [(.t 1, .v (.o (.c (.ptr (rX e))))), (.t 2, .v (.o (.c (.box 870 7 0 0)))), (.t 3, .v (.o (.c (.box 871 7 0 0)))), (.t 4, .v (.o (.c (.box 872 7 0 0)))), (.t 37, .v (.o (bo1 ((decide (X.k = 1) && decide (Y.k = 1)))))), (.b 870, .b 40 7 [[.d (dI 0), .d (dI 0), .d (.val (.slice none 0 0)), .d (dI 0), .d (dS ByteArray.empty), .d (.val (.slice none 0 0)), .d (.val (.slice none 0 0))]]), (.u 870, .u), (.b 871, .b 40 7 (dR ([rX X]))), (.u 871, .u), (.b 872, .b 40 7 (dR ([rX Y]))), (.u 872, .u)] ?_ ?_
   ·skip
    refine .region <| .cons (.fB 0 0 false rfl rfl rfl) <| .cons (.b1 1 rfl rfl rfl rfl rfl rfl) <| .cons (.eq rfl rfl rfl) <| .cons (.mv rfl rfl) ?_
    refine .cD 41 rfl (fun g41 => ?_) (fun g41 => ?_)
    ·skip
     refine .cons (.gT rfl rfl rfl (.fB 0 0 false rfl rfl rfl)) <| .cons (.gT rfl rfl rfl (.b1 1 rfl rfl rfl rfl rfl rfl)) <| .cons (.gT rfl rfl rfl (.eq rfl rfl rfl)) <| .cons (.pT rfl rfl rfl) <| .cons (.asg rfl rfl) <| .nil ?_
     exact kc_n (Wk.keep [(870, 810), (871, 103), (872, 104)] rfl rfl ⟨ks rfl .dt, ks rfl (.c .bx), ks rfl (.c .bx), ks rfl (.c .bx), ks rfl (.dt (vB (by first | rfl | (simp [*]; done) | grind))), kb 810 rfl (.cons (.cons .dt (.cons .dt (.cons .dt (.cons .dt (.cons .dt (.cons .dt (.cons .dt Ctos.nil))))))) .nil), kb 103 rfl (.dt rfl), kb 104 rfl (.dt rfl), trivial⟩)
    ·skip
     refine .cons (.gF rfl rfl rfl) <| .cons (.gF rfl rfl rfl) <| .cons (.gF rfl rfl rfl) <| .cons (.pF rfl rfl rfl) <| .cons (.asg rfl rfl) <| .nil ?_
     exact kc_n (Wk.keep [(870, 810), (871, 103), (872, 104)] rfl rfl ⟨ks rfl .dt, ks rfl (.c .bx), ks rfl (.c .bx), ks rfl (.c .bx), ks rfl (.dt (vB (by first | rfl | (simp [*]; done) | grind))), kb 810 rfl (.cons (.cons .dt (.cons .dt (.cons .dt (.cons .dt (.cons .dt (.cons .dt (.cons .dt Ctos.nil))))))) .nil), kb 103 rfl (.dt rfl), kb 104 rfl (.dt rfl), trivial⟩)
   refine ks_n ?_
   refine ACode.condT rfl (fun h37 => ?_) (fun h37 => ?_)
   ·try simp only [zs1, zs2, zs3, zs4, zs5, zs6, zs7] at h37
    refine .seq <| .region <| .cons (.lN 7 rfl rfl rfl) <| .cons (.fB 1 0 false rfl rfl rfl) <| .cons (.b1 1 rfl rfl rfl rfl rfl rfl) <| .cons (.fB 1 0 false rfl rfl rfl) <| .cons (.b1 1 rfl rfl rfl rfl rfl rfl) <| .cons (.cP [.tmp 46, .tmp 48, .tmp 50] rfl rfl rfl rfl (l13Two_fn hk hX hY) rfl) ?_
    refine .cons (.sT 7 true rfl rfl rfl rfl rfl rfl rfl) <| .nil <| ks_n <| .ret <| kb_r <| ks_r ?_
    refine kf_ret rfl ?_ nobox
    rw [foldN, if_pos h37]; rfl
   ·try simp only [zs1, zs2, zs3, zs4, zs5, zs6, zs7] at h37
    refine .seq ?_
    refine ACode.cut [(.t 1, .v (.o (.c (.ptr (rX e))))), (.t 2, .v (.o (.c (.box 890 7 0 0)))), (.t 3, .v (.o (.c (.box 891 7 0 0)))), (.t 4, .v (.o (.c (.box 892 7 0 0)))), (.t 52, .v (.o (bo1 ((!decide (e.k = 6) && isN Y 0 || decide (e.k = 6) && isN Y 1))))), (.b 890, .b 40 7 [[.d (dI 0), .d (dI 0), .d (.val (.slice none 0 0)), .d (dI 0), .d (dS ByteArray.empty), .d (.val (.slice none 0 0)), .d (.val (.slice none 0 0))]]), (.u 890, .u), (.b 891, .b 40 7 (dR ([rX X]))), (.u 891, .u), (.b 892, .b 40 7 (dR ([rX Y]))), (.u 892, .u)] ?_ ?_
    ·skip
     refine .seq <| .region <| .cons (.fP 0 0 false rfl rfl) <| .cons (.l1 1 rfl rfl) <| .cons (.ne rfl rfl rfl) <| .cons (.mv rfl rfl) ?_
     refine .cND 56 rfl (fun g56 => ?_) (fun g56 => ?_)
     ·skip
      refine .cons (.gT rfl rfl rfl (.bN 7 rfl rfl rfl rfl rfl rfl)) <| .cons (.gT rfl rfl rfl (.cP [.tmp 57, .const (.int .i64 (0))] rfl rfl rfl rfl (l13Is_fn _ 0) rfl)) ?_
      refine .cons (.pT rfl rfl rfl) <| .cons (.asg rfl rfl) <| .nil <| ks_n ?_
      refine ACode.condT rfl (fun h52 => ?_) (fun h52 => ?_)
      ·try simp only [zs1, zs2, zs3, zs4, zs5, zs6, zs7] at h52
       refine .skip ?_
       exact kc_n (Wk.keep [(890, 870), (891, 871), (892, 872)] rfl rfl ⟨ks rfl .dt, ks rfl (.c .bx), ks rfl (.c .bx), ks rfl (.c .bx), ks rfl (.dt (vB (by first | rfl | (simp [*]; done) | grind))), kb 870 rfl (.cons (.cons .dt (.cons .dt (.cons .dt (.cons .dt (.cons .dt (.cons .dt (.cons .dt Ctos.nil))))))) .nil), kb 871 rfl (.dt rfl), kb 872 rfl (.dt rfl), trivial⟩)
      ·try simp only [zs1, zs2, zs3, zs4, zs5, zs6, zs7] at h52
       refine .region <| .cons (.fP 0 0 false rfl rfl) <| .cons (.l1 1 rfl rfl) <| .cons (.eq rfl rfl rfl) <| .cons (.mv rfl rfl) ?_
       refine .cD 63 rfl (fun g63 => ?_) (fun g63 => ?_)
       ·skip
        refine .cons (.gT rfl rfl rfl (.bN 7 rfl rfl rfl rfl rfl rfl)) <| .cons (.gT rfl rfl rfl (.cP [.tmp 64, .const (.int .i64 (1))] rfl rfl rfl rfl (l13Is_fn _ 1) rfl)) ?_
        refine .cons (.pT rfl rfl rfl) <| .cons (.asg rfl rfl) <| .nil ?_
        exact kc_n (Wk.keep [(890, 870), (891, 871), (892, 872)] rfl rfl ⟨ks rfl .dt, ks rfl (.c .bx), ks rfl (.c .bx), ks rfl (.c .bx), ks rfl (.dt (vB (by first | rfl | (simp [*]; done) | grind))), kb 870 rfl (.cons (.cons .dt (.cons .dt (.cons .dt (.cons .dt (.cons .dt (.cons .dt (.cons .dt Ctos.nil))))))) .nil), kb 871 rfl (.dt rfl), kb 872 rfl (.dt rfl), trivial⟩)
       ·skip
        refine .cons (.gF rfl rfl rfl) <| .cons (.gF rfl rfl rfl) <| .cons (.pF rfl rfl rfl) <| .cons (.asg rfl rfl) <| .nil ?_
        exact kc_n (Wk.keep [(890, 870), (891, 871), (892, 872)] rfl rfl ⟨ks rfl .dt, ks rfl (.c .bx), ks rfl (.c .bx), ks rfl (.c .bx), ks rfl (.dt (vB (by first | rfl | (simp [*]; done) | grind))), kb 870 rfl (.cons (.cons .dt (.cons .dt (.cons .dt (.cons .dt (.cons .dt (.cons .dt (.cons .dt Ctos.nil))))))) .nil), kb 871 rfl (.dt rfl), kb 872 rfl (.dt rfl), trivial⟩)
     ·skip
      refine .cons (.gF rfl rfl rfl) <| .cons (.gF rfl rfl rfl) <| .cons (.pF rfl rfl rfl) <| .cons (.asg rfl rfl) <| .nil <| ks_n ?_
      refine ACode.condT rfl (fun h => by first | (cases h; done) | (simp [*] at h; done) | (exfalso; simp_all; done)) (fun _ => ?_)
      refine .region <| .cons (.fP 0 0 false rfl rfl) <| .cons (.l1 1 rfl rfl) <| .cons (.eq rfl rfl rfl) <| .cons (.mv rfl rfl) ?_
      refine .cD 63 rfl (fun g63 => ?_) (fun g63 => ?_)
      ·skip
       refine .cons (.gT rfl rfl rfl (.bN 7 rfl rfl rfl rfl rfl rfl)) <| .cons (.gT rfl rfl rfl (.cP [.tmp 64, .const (.int .i64 (1))] rfl rfl rfl rfl (l13Is_fn _ 1) rfl)) ?_
       refine .cons (.pT rfl rfl rfl) <| .cons (.asg rfl rfl) <| .nil ?_
       exact kc_n (Wk.keep [(890, 870), (891, 871), (892, 872)] rfl rfl ⟨ks rfl .dt, ks rfl (.c .bx), ks rfl (.c .bx), ks rfl (.c .bx), ks rfl (.dt (vB (by first | rfl | (simp [*]; done) | grind))), kb 870 rfl (.cons (.cons .dt (.cons .dt (.cons .dt (.cons .dt (.cons .dt (.cons .dt (.cons .dt Ctos.nil))))))) .nil), kb 871 rfl (.dt rfl), kb 872 rfl (.dt rfl), trivial⟩)
      ·skip
       refine .cons (.gF rfl rfl rfl) <| .cons (.gF rfl rfl rfl) <| .cons (.pF rfl rfl rfl) <| .cons (.asg rfl rfl) <| .nil ?_
       exact kc_n (Wk.keep [(890, 870), (891, 871), (892, 872)] rfl rfl ⟨ks rfl .dt, ks rfl (.c .bx), ks rfl (.c .bx), ks rfl (.c .bx), ks rfl (.dt (vB (by first | rfl | (simp [*]; done) | grind))), kb 870 rfl (.cons (.cons .dt (.cons .dt (.cons .dt (.cons .dt (.cons .dt (.cons .dt (.cons .dt Ctos.nil))))))) .nil), kb 871 rfl (.dt rfl), kb 872 rfl (.dt rfl), trivial⟩)
    refine ks_n ?_
    refine ACode.condT rfl (fun h52 => ?_) (fun h52 => ?_)
    ·try simp only [zs1, zs2, zs3, zs4, zs5, zs6, zs7] at h52
     refine .seq <| .region <| .cons (.bN 7 rfl rfl rfl rfl rfl rfl) <| .cons (.sT 7 true rfl rfl rfl rfl rfl rfl rfl) <| .nil <| ks_n <| .ret <| kb_r <| ks_r ?_
     refine kf_ret rfl ?_ nobox
     rw [foldN, if_neg (by rw [h37]; decide), if_pos h52]; rfl
    ·try simp only [zs1, zs2, zs3, zs4, zs5, zs6, zs7] at h52
     refine .seq ?_
     refine ACode.cut [(.t 1, .v (.o (.c (.ptr (rX e))))), (.t 2, .v (.o (.c (.box 920 7 0 0)))), (.t 3, .v (.o (.c (.box 921 7 0 0)))), (.t 4, .v (.o (.c (.box 922 7 0 0)))), (.t 68, .v (.o (bo1 ((decide (e.k = 4) && isN X 0 || decide (e.k = 6) && isN X 1))))), (.b 920, .b 40 7 [[.d (dI 0), .d (dI 0), .d (.val (.slice none 0 0)), .d (dI 0), .d (dS ByteArray.empty), .d (.val (.slice none 0 0)), .d (.val (.slice none 0 0))]]), (.u 920, .u), (.b 921, .b 40 7 (dR ([rX X]))), (.u 921, .u), (.b 922, .b 40 7 (dR ([rX Y]))), (.u 922, .u)] ?_ ?_
     ·skip
      refine .seq <| .region <| .cons (.fP 0 0 false rfl rfl) <| .cons (.l1 1 rfl rfl) <| .cons (.eq rfl rfl rfl) <| .cons (.mv rfl rfl) ?_
      refine .cD 72 rfl (fun g72 => ?_) (fun g72 => ?_)
      ·skip
       refine .cons (.gT rfl rfl rfl (.bN 7 rfl rfl rfl rfl rfl rfl)) <| .cons (.gT rfl rfl rfl (.cP [.tmp 73, .const (.int .i64 (0))] rfl rfl rfl rfl (l13Is_fn _ 0) rfl)) ?_
       refine .cons (.pT rfl rfl rfl) <| .cons (.asg rfl rfl) <| .nil <| ks_n ?_
       refine ACode.condT rfl (fun h68 => ?_) (fun h68 => ?_)
       ·try simp only [zs1, zs2, zs3, zs4, zs5, zs6, zs7] at h68
        refine .skip ?_
        exact kc_n (Wk.keep [(920, 890), (921, 891), (922, 892)] rfl rfl ⟨ks rfl .dt, ks rfl (.c .bx), ks rfl (.c .bx), ks rfl (.c .bx), ks rfl (.dt (vB (by first | rfl | (simp [*]; done) | grind))), kb 890 rfl (.cons (.cons .dt (.cons .dt (.cons .dt (.cons .dt (.cons .dt (.cons .dt (.cons .dt Ctos.nil))))))) .nil), kb 891 rfl (.dt rfl), kb 892 rfl (.dt rfl), trivial⟩)
       ·try simp only [zs1, zs2, zs3, zs4, zs5, zs6, zs7] at h68
        refine .region <| .cons (.fP 0 0 false rfl rfl) <| .cons (.l1 1 rfl rfl) <| .cons (.eq rfl rfl rfl) <| .cons (.mv rfl rfl) ?_
        refine .cD 79 rfl (fun g79 => ?_) (fun g79 => ?_)
        ·skip
         refine .cons (.gT rfl rfl rfl (.bN 7 rfl rfl rfl rfl rfl rfl)) <| .cons (.gT rfl rfl rfl (.cP [.tmp 80, .const (.int .i64 (1))] rfl rfl rfl rfl (l13Is_fn _ 1) rfl)) ?_
         refine .cons (.pT rfl rfl rfl) <| .cons (.asg rfl rfl) <| .nil ?_
         exact kc_n (Wk.keep [(920, 890), (921, 891), (922, 892)] rfl rfl ⟨ks rfl .dt, ks rfl (.c .bx), ks rfl (.c .bx), ks rfl (.c .bx), ks rfl (.dt (vB (by first | rfl | (simp [*]; done) | grind))), kb 890 rfl (.cons (.cons .dt (.cons .dt (.cons .dt (.cons .dt (.cons .dt (.cons .dt (.cons .dt Ctos.nil))))))) .nil), kb 891 rfl (.dt rfl), kb 892 rfl (.dt rfl), trivial⟩)
        ·skip
         refine .cons (.gF rfl rfl rfl) <| .cons (.gF rfl rfl rfl) <| .cons (.pF rfl rfl rfl) <| .cons (.asg rfl rfl) <| .nil ?_
         exact kc_n (Wk.keep [(920, 890), (921, 891), (922, 892)] rfl rfl ⟨ks rfl .dt, ks rfl (.c .bx), ks rfl (.c .bx), ks rfl (.c .bx), ks rfl (.dt (vB (by first | rfl | (simp [*]; done) | grind))), kb 890 rfl (.cons (.cons .dt (.cons .dt (.cons .dt (.cons .dt (.cons .dt (.cons .dt (.cons .dt Ctos.nil))))))) .nil), kb 891 rfl (.dt rfl), kb 892 rfl (.dt rfl), trivial⟩)
      ·skip
       refine .cons (.gF rfl rfl rfl) <| .cons (.gF rfl rfl rfl) <| .cons (.pF rfl rfl rfl) <| .cons (.asg rfl rfl) <| .nil <| ks_n ?_
       refine ACode.condT rfl (fun h => by first | (cases h; done) | (simp [*] at h; done) | (exfalso; simp_all; done)) (fun _ => ?_)
       refine .region <| .cons (.fP 0 0 false rfl rfl) <| .cons (.l1 1 rfl rfl) <| .cons (.eq rfl rfl rfl) <| .cons (.mv rfl rfl) ?_
       refine .cD 79 rfl (fun g79 => ?_) (fun g79 => ?_)
       ·skip
        refine .cons (.gT rfl rfl rfl (.bN 7 rfl rfl rfl rfl rfl rfl)) <| .cons (.gT rfl rfl rfl (.cP [.tmp 80, .const (.int .i64 (1))] rfl rfl rfl rfl (l13Is_fn _ 1) rfl)) ?_
        refine .cons (.pT rfl rfl rfl) <| .cons (.asg rfl rfl) <| .nil ?_
        exact kc_n (Wk.keep [(920, 890), (921, 891), (922, 892)] rfl rfl ⟨ks rfl .dt, ks rfl (.c .bx), ks rfl (.c .bx), ks rfl (.c .bx), ks rfl (.dt (vB (by first | rfl | (simp [*]; done) | grind))), kb 890 rfl (.cons (.cons .dt (.cons .dt (.cons .dt (.cons .dt (.cons .dt (.cons .dt (.cons .dt Ctos.nil))))))) .nil), kb 891 rfl (.dt rfl), kb 892 rfl (.dt rfl), trivial⟩)
       ·skip
        refine .cons (.gF rfl rfl rfl) <| .cons (.gF rfl rfl rfl) <| .cons (.pF rfl rfl rfl) <| .cons (.asg rfl rfl) <| .nil ?_
        exact kc_n (Wk.keep [(920, 890), (921, 891), (922, 892)] rfl rfl ⟨ks rfl .dt, ks rfl (.c .bx), ks rfl (.c .bx), ks rfl (.c .bx), ks rfl (.dt (vB (by first | rfl | (simp [*]; done) | grind))), kb 890 rfl (.cons (.cons .dt (.cons .dt (.cons .dt (.cons .dt (.cons .dt (.cons .dt (.cons .dt Ctos.nil))))))) .nil), kb 891 rfl (.dt rfl), kb 892 rfl (.dt rfl), trivial⟩)
     refine ks_n ?_
     refine ACode.condT rfl (fun h68 => ?_) (fun h68 => ?_)
     ·try simp only [zs1, zs2, zs3, zs4, zs5, zs6, zs7] at h68
      refine .seq <| .region <| .cons (.bN 7 rfl rfl rfl rfl rfl rfl) <| .cons (.sT 7 true rfl rfl rfl rfl rfl rfl rfl) <| .nil <| ks_n <| .ret <| kb_r <| ks_r ?_
      refine kf_ret rfl ?_ nobox
      rw [foldN, if_neg (by rw [h37]; decide), if_neg (by rw [h52]; decide), if_pos h68]; rfl
     ·try simp only [zs1, zs2, zs3, zs4, zs5, zs6, zs7] at h68
      refine .seq ?_
      refine ACode.cut [(.t 1, .v (.o (.c (.ptr (rX e))))), (.t 2, .v (.o (.c (.box 950 7 0 0)))), (.t 3, .v (.o (.c (.box 951 7 0 0)))), (.t 4, .v (.o (.c (.box 952 7 0 0)))), (.t 84, .v (.o (bo1 ((decide (e.k = 6) && (isN X 0 || isN Y 0)))))), (.b 950, .b 40 7 [[.d (dI 0), .d (dI 0), .d (.val (.slice none 0 0)), .d (dI 0), .d (dS ByteArray.empty), .d (.val (.slice none 0 0)), .d (.val (.slice none 0 0))]]), (.u 950, .u), (.b 951, .b 40 7 (dR ([rX X]))), (.u 951, .u), (.b 952, .b 40 7 (dR ([rX Y]))), (.u 952, .u)] ?_ ?_
      ·skip
       refine .region <| .cons (.fP 0 0 false rfl rfl) <| .cons (.l1 1 rfl rfl) <| .cons (.eq rfl rfl rfl) <| .cons (.mv rfl rfl) ?_
       refine .cD 88 rfl (fun g88 => ?_) (fun g88 => ?_)
       ·skip
        refine .cons (.gT rfl rfl rfl (.bN 7 rfl rfl rfl rfl rfl rfl)) <| .cons (.gT rfl rfl rfl (.cP [.tmp 89, .const (.int .i64 (0))] rfl rfl rfl rfl (l13Is_fn _ 0) rfl)) ?_
        refine .cons (.gT rfl rfl rfl (.mv rfl rfl)) ?_
        refine AOps.cases 91 _ rfl (fun g91 => ?_) (fun g91 => ?_)
        ·try simp only [zs1, zs2, zs3, zs4, zs5, zs6, zs7] at g91
         refine .cons (.gF rfl rfl rfl) <| .cons (.gF rfl rfl rfl) <| .cons (.gT rfl rfl rfl (.pT rfl rfl rfl)) <| .cons (.pT rfl rfl rfl) <| .cons (.asg rfl rfl) <| .nil ?_
         exact kc_n (Wk.keep [(950, 920), (951, 921), (952, 922)] rfl rfl ⟨ks rfl .dt, ks rfl (.c .bx), ks rfl (.c .bx), ks rfl (.c .bx), ks rfl (.dt (vB (by first | rfl | (simp [*]; done) | grind))), kb 920 rfl (.cons (.cons .dt (.cons .dt (.cons .dt (.cons .dt (.cons .dt (.cons .dt (.cons .dt Ctos.nil))))))) .nil), kb 921 rfl (.dt rfl), kb 922 rfl (.dt rfl), trivial⟩)
        ·try simp only [zs1, zs2, zs3, zs4, zs5, zs6, zs7] at g91
         refine .cons (.gT rfl rfl rfl (.bN 7 rfl rfl rfl rfl rfl rfl)) <| .cons (.gT rfl rfl rfl (.cP [.tmp 92, .const (.int .i64 (0))] rfl rfl rfl rfl (l13Is_fn _ 0) rfl)) ?_
         refine .cons (.gT rfl rfl rfl (.pF rfl rfl rfl)) <| .cons (.pT rfl rfl rfl) <| .cons (.asg rfl rfl) <| .nil ?_
         exact kc_n (Wk.keep [(950, 920), (951, 921), (952, 922)] rfl rfl ⟨ks rfl .dt, ks rfl (.c .bx), ks rfl (.c .bx), ks rfl (.c .bx), ks rfl (.dt (vB (by first | rfl | (simp [*]; done) | grind))), kb 920 rfl (.cons (.cons .dt (.cons .dt (.cons .dt (.cons .dt (.cons .dt (.cons .dt (.cons .dt Ctos.nil))))))) .nil), kb 921 rfl (.dt rfl), kb 922 rfl (.dt rfl), trivial⟩)
       ·skip
        refine .cons (.gF rfl rfl rfl) <| .cons (.gF rfl rfl rfl) <| .cons (.gF rfl rfl rfl) <| .cons (.gU rfl rfl) <| .cons (.gU rfl rfl) <| .cons (.gF rfl rfl rfl) <| .cons (.pF rfl rfl rfl) <| .cons (.asg rfl rfl) <| .nil ?_
        exact kc_n (Wk.keep [(950, 920), (951, 921), (952, 922)] rfl rfl ⟨ks rfl .dt, ks rfl (.c .bx), ks rfl (.c .bx), ks rfl (.c .bx), ks rfl (.dt (vB (by first | rfl | (simp [*]; done) | grind))), kb 920 rfl (.cons (.cons .dt (.cons .dt (.cons .dt (.cons .dt (.cons .dt (.cons .dt (.cons .dt Ctos.nil))))))) .nil), kb 921 rfl (.dt rfl), kb 922 rfl (.dt rfl), trivial⟩)
      refine ks_n ?_
      refine ACode.condT rfl (fun h84 => ?_) (fun h84 => ?_)
      ·try simp only [zs1, zs2, zs3, zs4, zs5, zs6, zs7] at h84
       refine .seq <| .region <| .cons (.cP [.const (.int .i64 (0))] rfl rfl rfl rfl (l13Num_fn 0) rfl) ?_
       refine .cons (.sT 7 true rfl rfl rfl rfl rfl rfl rfl) <| .nil <| ks_n <| .ret <| kb_r <| ks_r ?_
       refine kf_ret rfl ?_ nobox
       rw [foldN, if_neg (by rw [h37]; decide), if_neg (by rw [h52]; decide), if_neg (by rw [h68]; decide), if_pos h84]; rfl
      ·try simp only [zs1, zs2, zs3, zs4, zs5, zs6, zs7] at h84
       refine .skip <| kb_n <| ks_n <| .seq <| .region <| .cons (.lN 7 rfl rfl rfl) <| .cons (.sT 7 true rfl rfl rfl rfl rfl rfl rfl) <| .nil <| ks_n <| .ret ?_
       refine kf_ret rfl ?_ nobox
       rw [foldN, if_neg (by rw [h37]; decide), if_neg (by rw [h52]; decide), if_neg (by rw [h68]; decide), if_neg (by rw [h84]; decide)]; rfl

theorem l13Fold_one {e : Ex} (hi : e.i.1.length ≤ 1073741824) (hr : e.r.2.length ≤ 1073741824) (hq : ∀ x ∈ e.r.2, x.1.length ≤ 1073741824) (hk : e.ks.length ≤ 1073741824) (ih : ∀ x ∈ e.ks, Fn Try.prog 42 [] [ad (rX x)] (.o (ad (rX (foldE x)))) []) (hnd : Fn Try.prog 74 [] [ad (rX (.mk e.k e.n e.i e.r (e.ks.map foldE) : Ex))] (.o (ad (rX (foldE e)))) []) : Fn Try.prog 42 [] [ad (rX e)] (.o (ad (rX (foldE e)))) [] := by
 refine Fn.code0 Try.func42 rfl rfl rfl rfl ?_
 refine .seq <| .region <| .cons (St1.boxP rfl rfl rfl rfl rfl rfl) <| .cons (.al 102 [.int .i64 0, .int .i64 0, .slice none 0 0, .int .i64 0, .string ByteArray.empty, .slice none 0 0, .slice none 0 0] rfl rfl rfl) <| .nil <| ks_n <| .seq ?_
 refine ACode.drawK (by kernel_rfl) (by kernel_rfl) ?_
 refine .cons (.fP 0 0 false rfl rfl) <| .cons (.l1 1 rfl rfl) <| .cons (.fP 1 0 false rfl rfl) <| .cons (.l1 1 rfl rfl) <| .cons (.fP 2 1 true rfl rfl) <| .cons (.lN 2 rfl rfl rfl) <| .cons (.cP [.tmp 10] rfl rfl rfl rfl (l3CopyAff_fn hi) rfl) ?_
 refine .cons (.fP 4 1 true rfl rfl) <| .cons (.lN 2 rfl rfl rfl) <| .cons (.cP [.tmp 13] rfl rfl rfl rfl (l3CopyAcc_fn e.r hr hq) rfl) ?_
 refine .cons (.bu [(0, .tmp 6), (1, .tmp 8), (2, .tmp 11), (3, .tmp 14)] [(0, 1), (1, 1), (2, 2), (4, 2), (6, 1)] [.int .i64 0, .int .i64 0, .slice none 0 0, .int .i64 0, .string ByteArray.empty, .slice none 0 0, .slice none 0 0] rfl rfl rfl rfl rfl) <| .cons (.al 103 [.int .i64 0, .int .i64 0, .slice none 0 0, .int .i64 0, .string ByteArray.empty, .slice none 0 0, .slice none 0 0] rfl rfl rfl) <| .cons (.sT 7 true rfl rfl rfl rfl rfl rfl rfl) ?_
 refine .nil ⟨by kernel_rfl, ?_⟩
 refine ks_n <| .seq <| .seq <| .region <| .cons (.asg rfl rfl) <| .nil <| ks_n <| .block ?_
 refine .loopK (fun m σ => (∃ i : Nat, m = e.ks.length - i ∧ (i = 0) ∧ σ = [(.t 1, .v (.o (.c (.ptr (rX e))))), (.t 2, .v (.o (.c (.box 110 7 0 0)))), (.t 3, .v (.o (.c (.box 111 7 0 0)))), (.t 4, .v (.o (nat1 (i : Nat)))), (.b 110, .b 40 7 [[.d (dI 0), .d (dI 0), .d (.val (.slice none 0 0)), .d (dI 0), .d (dS ByteArray.empty), .d (.val (.slice none 0 0)), .d (.val (.slice none 0 0))]]), (.u 110, .u), (.b 111, .b 40 7 [[.d (dI e.k), .d (dI e.n), .d (dIs e.i.1), .d (dI e.i.2), .d (dS e.r.1), .d (dAs e.r.2), .d (.val (.slice none 0 0))]]), (.u 111, .u)]) ∨ (∃ i : Nat, m = e.ks.length - i ∧ (1 ≤ i) ∧ (i ≤ e.ks.length) ∧ σ = [(.t 1, .v (.o (.c (.ptr (rX e))))), (.t 2, .v (.o (.c (.box 110 7 0 0)))), (.t 3, .v (.o (.c (.box 111 7 0 0)))), (.t 4, .v (.o (nat1 (i : Nat)))), (.b 110, .b 40 7 [[.d (dI 0), .d (dI 0), .d (.val (.slice none 0 0)), .d (dI 0), .d (dS ByteArray.empty), .d (.val (.slice none 0 0)), .d (.val (.slice none 0 0))]]), (.u 110, .u), (.b 112, .b 40 7 (dR ((e.ks.take i).map fun x => rX (foldE x)))), (.u 112, .u), (.b 111, .b 40 7 [[.d (dI e.k), .d (dI e.n), .d (dIs e.i.1), .d (dI e.i.2), .d (dS e.r.1), .d (dAs e.r.2), .own 112 7 (i)]]), (.u 111, .u)])) [(110, 102), (111, 103)] (.inl ⟨0, rfl, rfl, rfl⟩) ⟨ks rfl .dt, ks rfl (.c .bx), ks rfl (.c .bx), ks rfl .dt, kb 102 rfl (.cons (.cons .dt (.cons .dt (.cons .dt (.cons .dt (.cons .dt (.cons .dt (.cons .dt Ctos.nil))))))) .nil), kb 103 rfl (.cons (.cons .dt (.cons .dt (.cons .dt (.cons .dt (.cons .dt (.cons .dt (.cons .dt Ctos.nil))))))) .nil), trivial⟩ ?_
 rintro m σ (⟨i, hm0, rfl, rfl⟩ | ⟨i, hm0, hi1, hi2, rfl⟩)
 ·skip
  refine .seq <| .seq <| .region <| .cons (.mv rfl rfl) <| .cons (.fP 6 0 false rfl rfl) <| .cons (.l1 1 rfl rfl) <| .cons (.ln 40 7 112 rfl rfl rfl) <| .cons (.ls rfl rfl rfl) <| .nil <| ks_n ?_
  refine .cD rfl (fun h20 => ?_) (fun h20 => ?_)
  ·skip
   obtain ⟨x, hx1⟩ : ∃ x, e.ks[0]? = some x := ⟨_, List.getElem?_eq_getElem (by omega)⟩
   refine .skip <| ks_n <| .seq <| .block ?_
   refine ACode.drawK (by kernel_rfl) (by kernel_rfl) ?_
   refine .cons (.fB 6 0 false rfl rfl rfl) <| .cons (.b1 1 rfl rfl rfl rfl rfl rfl) <| .cons (.fP 6 0 false rfl rfl) <| .cons (.l1 1 rfl rfl) <| .cons (.mv rfl rfl) <| .cons (.xL 40 7 112 rfl rfl rfl rfl rfl (rE_at hx1)) ?_
   refine .cons (.lN 7 rfl rfl rfl) <| .cons (.cP [.tmp 29] rfl rfl rfl rfl (ih x (List.mem_of_getElem? hx1)) rfl) ?_
   refine .cons (.li 40 6 0 [.tmp 30] rfl rfl rfl rfl rfl rfl) <| .cons (St1.appN (k' := 132) (e := 40) (sz := 6) (by' := 112) rfl rfl rfl rfl rfl (by kernel_rfl) rfl rfl rfl (by simp) (by first | (simp [dR]; done) | (simp [dR]; omega)) rfl rfl) ?_
   refine .cons (.fB 6 0 false rfl rfl rfl) <| .cons (.sT 1 false rfl rfl rfl rfl rfl rfl rfl) ?_
   refine .nil ⟨by kernel_rfl, ?_⟩
   refine kb_n <| ks_n <| .region <| .cons (.mv rfl rfl) <| .cons (.pl rfl rfl rfl) <| .cons (.asg rfl rfl) <| .nil ?_
   refine kl_k [(110, 110), (111, 111), (112, 132)] (.inr ⟨1, rfl, by omega, by omega, rfl⟩) ⟨ks rfl .dt, ks rfl (.c .bx), ks rfl (.c .bx), ks rfl .dt, kb 110 rfl (.cons (.cons .dt (.cons .dt (.cons .dt (.cons .dt (.cons .dt (.cons .dt (.cons .dt Ctos.nil))))))) .nil), kb 132 rfl (.dt rfl (by first | exact dR_take (fun x => rX (foldE x)) hx1 | exact dR_take1 (fun x => rX (foldE x)) hx1 | rfl | (simp [dR]; done))), kb 111 rfl (.cons (.cons .dt (.cons .dt (.cons .dt (.cons .dt (.cons .dt (.cons .dt (.cons .ow Ctos.nil))))))) .nil), trivial⟩
  ·skip
   have hn : e.ks = [] := List.eq_nil_of_length_eq_zero (by omega)
   refine .exit <| ks_e <| kl_e <| kb_hit <| ks_n <| .seq ?_
   refine .keep [(.t 1, .v (.o (.c (.ptr (rX e))))), (.t 2, .v (.o (.c (.box 760 7 0 0)))), (.t 3, .v (.o (.c (.box 761 7 0 0)))), (.b 760, .b 40 7 [[.d (dI 0), .d (dI 0), .d (.val (.slice none 0 0)), .d (dI 0), .d (dS ByteArray.empty), .d (.val (.slice none 0 0)), .d (.val (.slice none 0 0))]]), (.u 760, .u), (.b 761, .b 40 7 [[.d (dI e.k), .d (dI e.n), .d (dIs e.i.1), .d (dI e.i.2), .d (dS e.r.1), .d (dAs e.r.2), .d (dEs (e.ks.map foldE))]]), (.u 761, .u)] [(760, 110), (761, 111)] ⟨ks rfl .dt, ks rfl (.c .bx), ks rfl (.c .bx), kb 110 rfl (.cons (.cons .dt (.cons .dt (.cons .dt (.cons .dt (.cons .dt (.cons .dt (.cons .dt Ctos.nil))))))) .nil), kb 111 rfl (.cons (.cons .dt (.cons .dt (.cons .dt (.cons .dt (.cons .dt (.cons .dt (.cons (Cto.nilE 7 (by rw [hn]; rfl)) Ctos.nil))))))) .nil), trivial⟩ ?_
   refine .region <| .cons (.bN 7 rfl rfl rfl rfl rfl rfl) <| .cons (.cP [.tmp 34] rfl rfl rfl rfl (hnd) rfl) ?_
   refine .cons (.sT 7 true rfl rfl rfl rfl rfl rfl rfl) <| .nil <| ks_n <| .ret ?_
   refine kf_ret rfl ?_ nobox
   rfl
 ·skip
  refine .seq <| .seq <| .region <| .cons (.mv rfl rfl) <| .cons (.fP 6 0 false rfl rfl) <| .cons (.l1 1 rfl rfl) <| .cons (.ln 40 7 112 rfl rfl rfl) <| .cons (.ls rfl rfl rfl) <| .nil <| ks_n ?_
  refine .cD rfl (fun h20 => ?_) (fun h20 => ?_)
  ·skip
   obtain ⟨x, hx1⟩ : ∃ x, e.ks[i]? = some x := ⟨_, List.getElem?_eq_getElem (by omega)⟩
   refine .skip <| ks_n <| .seq <| .block ?_
   refine ACode.drawK (by kernel_rfl) (by kernel_rfl) ?_
   refine .cons (.fB 6 0 false rfl rfl rfl) <| .cons (.b1 1 rfl rfl rfl rfl rfl rfl) <| .cons (.fP 6 0 false rfl rfl) <| .cons (.l1 1 rfl rfl) <| .cons (.mv rfl rfl) <| .cons (.xL 40 7 112 rfl rfl rfl rfl rfl (rE_at hx1)) ?_
   refine .cons (.lN 7 rfl rfl rfl) <| .cons (.cP [.tmp 29] rfl rfl rfl rfl (ih x (List.mem_of_getElem? hx1)) rfl) ?_
   refine .cons (.li 40 6 0 [.tmp 30] rfl rfl rfl rfl rfl rfl) <| .cons (St1.appB (k' := 132) (e := 40) (sz := 6) (by' := 112) rfl rfl rfl rfl rfl (by kernel_rfl) rfl rfl rfl rfl (by first | (simp [dR]; done) | (simp [dR]; omega)) (by first | (simp [dR]; done) | (simp [dR]; omega)) rfl rfl rfl) ?_
   refine .cons (.fB 6 0 false rfl rfl rfl) <| .cons (.sT 1 false rfl rfl rfl rfl rfl rfl rfl) ?_
   refine .nil ⟨by kernel_rfl, ?_⟩
   refine kb_n <| ks_n <| .region <| .cons (.mv rfl rfl) <| .cons (.pl rfl rfl rfl) <| .cons (.asg rfl rfl) <| .nil ?_
   refine kl_k [(110, 110), (111, 111), (112, 132)] (.inr ⟨i + 1, rfl, by omega, by omega, rfl⟩) ⟨ks rfl .dt, ks rfl (.c .bx), ks rfl (.c .bx), ks rfl .dt, kb 110 rfl (.cons (.cons .dt (.cons .dt (.cons .dt (.cons .dt (.cons .dt (.cons .dt (.cons .dt Ctos.nil))))))) .nil), kb 132 rfl (.dt rfl (by first | exact dR_take (fun x => rX (foldE x)) hx1 | exact dR_take1 (fun x => rX (foldE x)) hx1 | rfl | (simp [dR]; done))), kb 111 rfl (.cons (.cons .dt (.cons .dt (.cons .dt (.cons .dt (.cons .dt (.cons .dt (.cons .ow Ctos.nil))))))) .nil), trivial⟩
  ·skip
   obtain rfl : i = e.ks.length := by omega
   refine .exit <| ks_e <| kl_e <| kb_hit <| ks_n <| .seq ?_
   refine .keep [(.t 1, .v (.o (.c (.ptr (rX e))))), (.t 2, .v (.o (.c (.box 760 7 0 0)))), (.t 3, .v (.o (.c (.box 761 7 0 0)))), (.b 760, .b 40 7 [[.d (dI 0), .d (dI 0), .d (.val (.slice none 0 0)), .d (dI 0), .d (dS ByteArray.empty), .d (.val (.slice none 0 0)), .d (.val (.slice none 0 0))]]), (.u 760, .u), (.b 761, .b 40 7 [[.d (dI e.k), .d (dI e.n), .d (dIs e.i.1), .d (dI e.i.2), .d (dS e.r.1), .d (dAs e.r.2), .d (dEs (e.ks.map foldE))]]), (.u 761, .u)] [(760, 110), (761, 111)] ⟨ks rfl .dt, ks rfl (.c .bx), ks rfl (.c .bx), kb 110 rfl (.cons (.cons .dt (.cons .dt (.cons .dt (.cons .dt (.cons .dt (.cons .dt (.cons .dt Ctos.nil))))))) .nil), kb 111 rfl (.cons (.cons .dt (.cons .dt (.cons .dt (.cons .dt (.cons .dt (.cons .dt (.cons (.fz rfl (by first | rfl | exact dR_ex foldE _ | (rw [List.take_length]; done)) (by first | rfl | (simp; done) | (simp; omega)) (by omega)) Ctos.nil))))))) .nil), trivial⟩ ?_
   refine .region <| .cons (.bN 7 rfl rfl rfl rfl rfl rfl) <| .cons (.cP [.tmp 34] rfl rfl rfl rfl (hnd) rfl) ?_
   refine .cons (.sT 7 true rfl rfl rfl rfl rfl rfl rfl) <| .nil <| ks_n <| .ret ?_
   refine kf_ret rfl ?_ nobox
   rfl

theorem mk_op {d L : Nat} {e X Y : Ex} (h : exV d L e = true) (hk : 4 ≤ e.k ∧ e.k ≤ 6) : (.mk e.k e.n e.i e.r [X, Y] : Ex) = outE e.k X Y := by
  cases L with
  | zero => cases h
  | succ L =>
    rw [exV, Bool.and_eq_true, Bool.and_eq_true] at h
    have h1 := h.1.2
    rw [fldV, if_neg (by omega), if_neg (by omega), if_neg (by omega), Bool.and_eq_true, Bool.and_eq_true, decide_eq_true_eq] at h1
    rw [h1.1.1, nonA_iff.1 h1.1.2, nonC_iff.1 h1.2]; rfl
theorem l13Fold_fn {d : Nat} : ∀ {L : Nat} (e : Ex), szE e ≤ 1073741824 → exV d L e = true → Fn Try.prog 42 [] [ad (rX e)] (.o (ad (rX (foldE e)))) []
  | 0, e, _, h => by cases h
  | L + 1, e, hs, h => by
    have hs2 := hs
    rw [szE_eq, szC] at hs2
    have := szAs_len e.r.2
    refine l13Fold_one (by omega) (by omega) (fun x hx => by have := szAs_mem hx; omega) (by omega) (fun x hx => l13Fold_fn (L := L) x (by have := szEs_mem hx; omega) ((exV_kids h).2 x hx)) ?_
    by_cases hk : 4 ≤ e.k ∧ e.k ≤ 6
    · obtain ⟨x, y, hks⟩ := op_two h hk
      have b1 := exV_n (fold_ok ((exV_kids h).2 x (by rw [hks]; simp)))
      have b2 := exV_n (fold_ok ((exV_kids h).2 y (by rw [hks]; simp)))
      rw [foldE_op hk hks, hks, List.map_cons, List.map_cons, List.map_nil, mk_op h hk]
      exact node_op hk rfl (by omega) (by omega)
    · have hks : e.ks = [] := by
        have := mt (op_kids h).2 hk
        exact List.eq_nil_of_length_eq_zero (by omega)
      have hE : (.mk e.k e.n e.i e.r [] : Ex) = e := by rw [← hks, Ex.eta]
      rw [foldE_leaf hk, hks, List.map_nil, hE]
      exact node_leaf hks

theorem specFold_fn (s : Stm) (hs : szS s ≤ 1073741824) : Fn Try.prog 15 [] [ad (rS s)] (.tup [ad (rS (foldT s).1), bo1 (foldT s).2]) [] := by
 have hs2 := hs
 rw [szS, szC] at hs2
 have := szAs_len s.1.2
 refine Fn.code0 Try.func15 rfl rfl rfl rfl ?_
 refine .seq <| .region <| .cons (St1.boxP rfl rfl rfl rfl rfl rfl) <| .cons (.al 102 [.string ByteArray.empty, .slice none 0 0, .int .i64 0, .int .i64 0, .slice none 0 0, .int .i64 0, .string ByteArray.empty, .slice none 0 0, .slice none 0 0] rfl rfl rfl) <| .cons (.asg rfl rfl) <| .nil <| ks_n <| .seq <| .seq <| .region <| .cons (.lN 9 rfl rfl rfl) <| .cons (.cP [.tmp 4, .const (.int .i64 (4))] rfl rfl rfl rfl (specStmtV_fn 4 s (by omega)) rfl) ?_
 refine .cons (.nt rfl rfl) <| .nil <| ks_n ?_
 refine ACode.condT rfl (fun h6 => ?_) (fun h6 => ?_)
 ·try simp only [zs1, zs2, zs3, zs4, zs5, zs6, zs7] at h6
  refine .seq <| .region <| .cons (.bu [] [(0, 2), (2, 7)] [.string ByteArray.empty, .slice none 0 0, .int .i64 0, .int .i64 0, .slice none 0 0, .int .i64 0, .string ByteArray.empty, .slice none 0 0, .slice none 0 0] rfl rfl rfl rfl rfl) <| .cons (.sT 9 true rfl rfl rfl rfl rfl rfl rfl) <| .cons (.asg rfl rfl) <| .nil <| ks_n <| .ret <| ks_r ?_
  refine kf_wret [(.t 2, .v (.o (.c (.box 100 9 0 0)))), (.t 3, .v (.o (bo1 false))), (.b 100, .b 42 9 [[.d (dS ByteArray.empty), .d (dAs []), .d (dI 0), .d (dI 0), .d (dIs []), .d (dI 0), .d (dS ByteArray.empty), .d (dAs []), .d (dEs [])]]), (.u 100, .u)] (Wk.keep [(100, 102)] rfl rfl ⟨ks rfl (.c .bx), ks rfl .dt, kb 102 rfl (.cons (.cons .dt (.cons (Cto.nil _) (.cons .dt (.cons .dt (.cons (Cto.nil _) (.cons .dt (.cons .dt (.cons (Cto.nil _) (.cons (Cto.nil _) Ctos.nil))))))))) .nil), trivial⟩) rfl ?_ nobox
  rw [foldT_no h6]; rfl
 ·try simp only [zs1, zs2, zs3, zs4, zs5, zs6, zs7] at h6
  refine .skip <| ks_n <| .seq ?_
  refine ACode.drawK (by kernel_rfl) (by kernel_rfl) ?_
  refine .cons (.fP 0 1 true rfl rfl) <| .cons (.lN 2 rfl rfl rfl) <| .cons (.cP [.tmp 9] rfl rfl rfl rfl (l3CopyAcc_fn s.1 (by omega) (fun x hx => by have := szAs_mem hx; omega)) rfl) ?_
  refine .cons (.fP 2 6 true rfl rfl) <| .cons (.lN 7 rfl rfl rfl) <| .cons (.cP [.tmp 12] rfl rfl rfl rfl (l13Fold_fn (d := 4) (L := 5) s.2 (by omega) (stmtV_ex h6).1) rfl) ?_
  refine .cons (.bu [(0, .tmp 10), (1, .tmp 13)] [(0, 2), (2, 7)] [.string ByteArray.empty, .slice none 0 0, .int .i64 0, .int .i64 0, .slice none 0 0, .int .i64 0, .string ByteArray.empty, .slice none 0 0, .slice none 0 0] rfl rfl rfl rfl rfl) <| .cons (.sT 9 true rfl rfl rfl rfl rfl rfl rfl) <| .cons (.asg rfl rfl) ?_
  refine .nil ⟨by kernel_rfl, ?_⟩
  refine ks_n <| .ret ?_
  refine kf_ret rfl ?_ nobox
  rw [foldT_yes h6]; rfl



def shR (A : Nat → Prop) (R : Nat → Nat → Prop) : Nat → Nat → Prop
  | 0 => none'
  | 1 => A
  | j + 2 => R j
theorem shR_all {A : Nat → Prop} {R : Nat → Nat → Prop} {Q : Nat → Prop} (h1 : ∀ b, A b → Q b) (h2 : ∀ j b, R j b → Q b) : ∀ j b, shR A R j b → Q b
  | 0, b, h => h.elim
  | 1, b, h => h1 b h
  | j + 2, b, h => h2 j b h
theorem shR_dis {A : Nat → Prop} {R : Nat → Nat → Prop} (h : ∀ i j b, R i b → R j b → i = j) (h2 : ∀ j b, A b → ¬ R j b) : ∀ i j b, shR A R i b → shR A R j b → i = j
  | 0, j, b, h1, _ => h1.elim
  | 1, 0, b, _, h3 => h3.elim
  | 1, 1, b, _, _ => rfl
  | 1, j + 2, b, h1, h3 => absurd h3 (h2 j b h1)
  | i + 2, 0, b, _, h3 => h3.elim
  | i + 2, 1, b, h1, h3 => absurd h1 (h2 i b h3)
  | i + 2, j + 2, b, h1, h3 => by rw [h i j b h1 h3]
/-- A struct of trees, told as plain data. -/
theorem Wk.er {σ : St} (t : Nat) (R : Nat → Nat → Prop) (ds : List D) (h : lk σ (.t t) = .v (.o (ad (tagL R 0 ds)))) : Wk σ ((.t t, .v (.o (ad ds))) :: σ) := fun E bx a w hs => by
  obtain ⟨vs, e, hl, hv⟩ := hs.slot t _ h
  refine ⟨bx, ?_⟩
  rw [lk_cons]
  refine hs.tell ⟨vs, e, by rw [hl, List.length_map, tagL_len, List.length_map], fun i c u hc hu => ?_⟩ (fun k hk => by rw [show (V.o (ad ds)).refs = [] from refs_ad ds] at hk; cases hk)
  rw [List.getElem?_map] at hc
  cases hx : ds[i]? with
  | none => rw [hx] at hc; cases hc
  | some x =>
    rw [hx] at hc; cases hc
    have h1 : Dr (Bf E bx (lk σ)) w (tg (R i) x) u := hv i (.d (tg (R i) x)) u (by rw [List.getElem?_map, tagL_at hx, Nat.zero_add]; rfl) hu
    cases x with
    | val v => exact h1
    | list sz rows => cases h1 with | tree _ _ _ hB hl h => exact h.dr.mono fun b hb _ => hB b hb
    | tree S y => exact h1
theorem hasD_rows {T : Nat → Nat → Nat → Prop} {rows : List (List D)} {sz p q : Nat} (h : isPos rows p q) : HasD (T p q) (.list sz (tagRs T 0 rows)) := by
  obtain ⟨r, m, rs, hr, hj⟩ := h
  refine .row (i := p) (j := q) (r := tagL (T p) 0 r) (d := .tree (T p q) (.list m rs)) ?_ ?_ (.tree _)
  · rw [tagRs_at hr, Nat.zero_add]
  · rw [tagL_at hj, Nat.zero_add]; rfl
theorem unV {R : Nat → Nat → Prop} {ds : List D} (h : ∀ j b, R j b → ∃ m rs, ds[j]? = some (.list m rs)) : ∀ b, un R b → ∃ x ∈ [(ad (tagL R 0 ds) : V1)], ∃ S, HasV S (.o x) ∧ S b := fun b ⟨j, hj⟩ => by
  obtain ⟨m, rs, e⟩ := h j b hj
  refine ⟨_, List.mem_singleton.2 rfl, R j, .agg (i := j) (c := .d (.tree (R j) (.list m rs))) ?_ (.d (.tree _)), hj⟩
  rw [List.getElem?_map, tagL_at e, Nat.zero_add]; rfl
theorem unS {σ : St} (t : Nat) {R : Nat → Nat → Prop} {ds : List D} (ht : lk σ (.t t) = .v (.o (ad (tagL R 0 ds)))) (h : ∀ j b, R j b → ∃ m rs, ds[j]? = some (.list m rs)) : ∀ b, un R b → ∃ S, Has σ S ∧ S b := fun b ⟨j, hj⟩ => by
  obtain ⟨m, rs, e⟩ := h j b hj
  refine ⟨R j, .slot t ht (.agg (i := j) (c := .d (.tree (R j) (.list m rs))) ?_ (.d (.tree _))), hj⟩
  rw [List.getElem?_map, tagL_at e, Nat.zero_add]; rfl
theorem colX_list {e : Ex} {j : Nat} (h : colX j) : ∃ m rs, (rX e)[j]? = some (.list m rs) := by
  rcases h with rfl | rfl | rfl
  · exact ⟨_, _, rfl⟩
  · exact ⟨_, _, rfl⟩
  · exact ⟨_, _, rfl⟩

theorem stmtMap_T {f : FuncId} {cap : List (List D)} (hc : callable Try.prog f = true) (g : Aff → Aff) (s : Stm) (hs : szS s ≤ 1073741824) (hg : ∀ x ∈ affsS s, FnT Try.prog f (ad (rA x) :: cap.map fun c => .c (.ptr c)) none' (.str (rA (g x)))) : FnT Try.prog 31 [ad (rS s), .c (.fn f cap)] (none') (.str (rS (mapS g s))) := by
 have h1 : s.1.2.length ≤ 1073741824 := by rw [szS, szC] at hs; have := szAs_len s.1.2; omega
 have h2 : szE s.2 ≤ 1073741824 := by rw [szS] at hs; omega
 refine FnT.of_code Try.func31 rfl rfl rfl (fun O => ?_)
 refine .seq <| .region <| .cons (St1.boxP rfl rfl rfl rfl rfl rfl) <| .cons (.al 104 [.string ByteArray.empty, .slice none 0 0, .int .i64 0, .int .i64 0, .slice none 0 0, .int .i64 0, .string ByteArray.empty, .slice none 0 0, .slice none 0 0] rfl rfl rfl) <| .nil <| ks_n <| .seq ?_
 refine ACode.drawT (by kernel_rfl) (by kernel_rfl) (fun Uq1_0 => ?_)
 refine .cons (fun _ => (.fP 0 1 true rfl rfl)) <| .cons (fun _ => (.lN 2 rfl rfl rfl)) <| .cons (fun _ => (.mv rfl rfl)) ?_
 refine .cT [.tmp 6, .tmp 7] rfl rfl (fun _ => rfl) (fun _ => rfl) (accMap_T hc g s.1 h1 (fun x hx => hg x (by rw [affsS]; exact List.mem_append_left _ hx))) rfl rfl nosrcV ?_
 refine .cons (fun _ => (.fP 2 6 true rfl rfl)) <| .cons (fun _ => (.lN 7 rfl rfl rfl)) <| .cons (fun _ => (.mv rfl rfl)) ?_
 refine .cT [.tmp 10, .tmp 11] rfl rfl (fun _ => rfl) (fun _ => rfl) (exprMap_T hc g s.2 h2 (fun x hx => hg x (by rw [affsS]; exact List.mem_append_right _ hx))) rfl rfl nosrcV ?_
 refine .cons (fun _ => (.bu [(0, .tmp 8), (1, .tmp 12)] [(0, 2), (2, 7)] [.string ByteArray.empty, .slice none 0 0, .int .i64 0, .int .i64 0, .slice none 0 0, .int .i64 0, .string ByteArray.empty, .slice none 0 0, .slice none 0 0] rfl rfl rfl rfl rfl)) <| .cons (fun _ => (.sT 9 true rfl rfl rfl rfl rfl rfl rfl)) ?_
 refine .nil ⟨⟨fun _ => by kernel_rfl, by repeat' (first | exact trivial | exact .inr (.inl rfl) | exact .inl (by decide +kernel) | exact .inr (.inr fun _ _ => rfl) | refine ⟨?_, ?_⟩), rfl⟩, fun ρq1_0 Nq1_0 Fq1_0 Wq1_0 => ?_⟩
 obtain ⟨hR8, dR8, pR8⟩ := Fq1_0.hR Wq1_0 3 rfl rfl
 obtain ⟨hR12, dR12, pR12⟩ := Fq1_0.hR Wq1_0 7 rfl rfl
 refine ks_n <| .ret ?_
 refine kt_ret (shR ((ρq1_0 3) 1) (ρq1_0 7)) rfl ?_ ?_ ?_
 ·rfl
 ·exact shR_dis dR12 (fun j b h1 h2 => (Fq1_0.two 3 7 rfl rfl rfl rfl rfl (fun b h => h.elim) (fun b h => h.elim) 1 j b h1 h2).1.elim)
 ·exact shR_all (fun b h => .inr (new_of hR8 (gh_has rfl) 1 b h)) (fun j b h => .inr (new_of hR12 (gh_has rfl) j b h))

theorem ownStmt_T (s : Stm) (hs : szS s ≤ 1073741824) : FnT Try.prog 75 [ad (rS s)] (none') (.str (rS (mapS id s))) := by
  refine FnT.of_code Try.func75 rfl rfl rfl (fun O => ?_)
  refine .seq <| .region <| .cons (St1.boxP rfl rfl rfl rfl rfl rfl) <| .cons (.al 102 [.string ByteArray.empty, .slice none 0 0, .int .i64 0, .int .i64 0, .slice none 0 0, .int .i64 0, .string ByteArray.empty, .slice none 0 0, .slice none 0 0] rfl rfl rfl) <| .nil <| ks_n <| .seq <| .region <| .cons (.lN 9 rfl rfl rfl) ?_
  refine AOps.cT [.tmp 3, .func 96] rfl rfl rfl rfl (stmtMap_T (f := 96) (cap := []) (by kernel_rfl) id s hs (fun x hx => ownAff_T x (szS_aff hs x hx))) rfl rfl nosrc (fun R4 hR4 dR4 pR4 => ?_)
  refine .cons (.sT 9 true rfl rfl rfl rfl rfl rfl rfl) <| .nil <| ks_n <| .ret ?_
  refine kt_ret (R4) rfl ?_ ?_ ?_
  · rfl
  · exact dR4
  · exact fun j b h => .inr (new_of hR4 (gh_has rfl) j b h)

theorem num_T (n : Int) : FnT Try.prog 97 [nat1 n] (none') (.str (rX (numE n))) := by
  refine FnT.of_code Try.func97 rfl rfl rfl (fun O => ?_)
  refine .seq <| .region <| .cons (.al 102 [.int .i64 0, .int .i64 0, .slice none 0 0, .int .i64 0, .string ByteArray.empty, .slice none 0 0, .slice none 0 0] rfl rfl rfl) <| .nil <| ks_n <| .seq <| .region <| .cons (.mv rfl rfl) <| .cons (.bu [(0, .const (.int .i64 (1))), (1, .tmp 3)] [(0, 1), (1, 1), (2, 2), (4, 2), (6, 1)] [.int .i64 0, .int .i64 0, .slice none 0 0, .int .i64 0, .string ByteArray.empty, .slice none 0 0, .slice none 0 0] rfl rfl rfl rfl rfl) <| .cons (.sT 7 true rfl rfl rfl rfl rfl rfl rfl) <| .nil <| ks_n <| .ret ?_
  refine kt_wret (nthS [none', none', none', none', none', none', none']) [(.t 2, .v (.o (.c (.box 100 7 0 0)))), (.b 100, .b 40 7 [[.d (dI 1), .d (dI n), (.d (.tree none' (dIs []))), .d (dI 0), .d (dS ByteArray.empty), (.d (.tree none' (dAs []))), (.d (.tree none' (dEs [])))]]), (.u 100, .u)] (Wk.keep [(100, 102)] rfl rfl ⟨ks rfl (.c .bx), kb 102 rfl (.cons (.cons .dt (.cons .dt (.cons (Cto.nilTE 1 rfl) (.cons .dt (.cons .dt (.cons (Cto.nilTE 2 rfl) (.cons (Cto.nilTE 7 rfl) Ctos.nil))))))) .nil), trivial⟩) rfl ?_ ?_ ?_
  · rfl
  · exact nthS_dis (by first | (simp only [List.pairwise_cons, List.forall_mem_cons, List.not_mem_nil, false_implies, implies_true, and_true, List.Pairwise.nil]; done) | (simp only [List.pairwise_cons, List.forall_mem_cons, List.not_mem_nil, false_implies, implies_true, and_true, List.Pairwise.nil]; simp [none']; done))
  · exact nthS_all (by simp only [List.forall_mem_cons, List.not_mem_nil, false_implies, implies_true, and_true]; exact ⟨(fun b h => h.elim), (fun b h => h.elim), (fun b h => h.elim), (fun b h => h.elim), (fun b h => h.elim), (fun b h => h.elim), (fun b h => h.elim)⟩)

theorem tag_two {A B : Nat → Nat → Prop} {X Y : Ex} : tagRs (nextF (nextF noF 0 A) 1 B) 0 ([X, Y].map rE) = [tagL A 0 (rX X), tagL B 0 (rX Y)] := by
  rw [List.map_cons, List.map_singleton, rE_eq, rE_eq]; rfl
theorem fold_out {A B : Nat → Nat → Prop} {U O N : Nat → Prop} {σ : St} {k : Nat} {rows : List (List D)} (hA : ∀ j b, A j b → U b ∨ ¬ O b) (hB : ∀ j b, B j b → U b ∨ ¬ O b) (hN : Pk σ k (nextF (nextF noF 0 A) 1 B) rows N) (hO : Has σ O) : ∀ b, N b → U b ∨ ¬ O b := fun b hb => by
  rcases hN.fr b hb with ⟨i, j, _, h⟩ | h
  · unfold nextF at h
    split at h
    · exact hB j b h
    · split at h
      · exact hA j b h
      · exact h.elim
  · exact .inr (h O hO)

set_option maxHeartbeats 12800000 in
theorem fold_leafT {S : Nat → Nat → Prop} (hS : ∀ i j b, S i b → S j b → i = j) (hX : ∀ j b, S j b → colX j) {e : Ex} (hk : ¬ (4 ≤ e.k ∧ e.k ≤ 6)) : FnT Try.prog 76 [ad (tagL S 0 (rX e))] (un S) (.str (rX (if idxV e = true then numE e.i.2 else e))) := by
 refine FnT.of_code Try.func76 rfl rfl rfl (fun O => ?_)
 refine .seq <| .region <| .cons (St1.boxP rfl rfl rfl rfl rfl rfl) <| .cons (.al 102 [.int .i64 0, .int .i64 0, .slice none 0 0, .int .i64 0, .string ByteArray.empty, .slice none 0 0, .slice none 0 0] rfl rfl rfl) <| .nil <| ks_n <| .seq <| .seq ?_
 refine ACode.cut [(.t 1, .v (.o (.c (.ptr [dI e.k, dI e.n, .tree (S 2) (dIs e.i.1), dI e.i.2, dS e.r.1, .tree (S 5) (dAs e.r.2), .tree (S 6) (dEs e.ks)])))), (.t 2, .v (.o (.c (.box 810 7 0 0)))), (.t 22, .v (.o (bo1 (idxV e)))), (.t 9999, .v (.gh O)), (.b 810, .b 40 7 [[.d (dI 0), .d (dI 0), .d (.val (.slice none 0 0)), .d (dI 0), .d (dS ByteArray.empty), .d (.val (.slice none 0 0)), .d (.val (.slice none 0 0))]]), (.u 810, .u)] ?_ ?_
 ·skip
  refine .region <| .cons (.fP 0 0 false rfl rfl) <| .cons (.l1 1 rfl rfl) <| .cons (.eq rfl rfl rfl) <| .cons (.mv rfl rfl) ?_
  refine .cD 11 rfl (fun g11 => ?_) (fun g11 => ?_)
  ·skip
   refine .cons (.gT rfl rfl rfl (.fP 2 1 true rfl rfl)) <| .cons (.gT rfl rfl rfl (.lN 2 rfl rfl rfl)) ?_
   refine AOps.wk (Wk.er 13 (fun _ => S 2) (rA e.i) rfl) ?_
   refine .cons (.gT rfl rfl rfl (.cP [.tmp 13] rfl rfl rfl rfl (depth_fn _) rfl)) ?_
   refine .cons (.gT rfl rfl rfl (.eq rfl rfl rfl)) <| .cons (.pT rfl rfl rfl) <| .cons (.mv rfl rfl) ?_
   refine AOps.cases 17 _ rfl (fun g17 => ?_) (fun g17 => ?_)
   ·try simp only [zs1, zs2, zs3, zs4, zs5, zs6, zs7] at g17
    refine .cons (.gT rfl rfl rfl (.fP 2 1 true rfl rfl)) <| .cons (.gT rfl rfl rfl (.fP 1 0 false rfl rfl)) <| .cons (.gT rfl rfl rfl (.l1 1 rfl rfl)) <| .cons (.gT rfl rfl rfl (.ge rfl rfl rfl)) <| .cons (.pT rfl rfl rfl) <| .nil ?_
    exact kc_n (Wk.keep [(810, 102)] rfl rfl ⟨ks rfl .dt, ks rfl (.c .bx), ks rfl (.dt (vB (by rw [idxV]; first | rfl | (simp [*]; done) | grind))), ks rfl .dt, kb 102 rfl (.cons (.cons .dt (.cons .dt (.cons .dt (.cons .dt (.cons .dt (.cons .dt (.cons .dt Ctos.nil))))))) .nil), trivial⟩)
   ·try simp only [zs1, zs2, zs3, zs4, zs5, zs6, zs7] at g17
    refine .cons (.gF rfl rfl rfl) <| .cons (.gF rfl rfl rfl) <| .cons (.gF rfl rfl rfl) <| .cons (.gF rfl rfl rfl) <| .cons (.pF rfl rfl rfl) <| .nil ?_
    exact kc_n (Wk.keep [(810, 102)] rfl rfl ⟨ks rfl .dt, ks rfl (.c .bx), ks rfl (.dt (vB (by rw [idxV]; first | rfl | (simp [*]; done) | grind))), ks rfl .dt, kb 102 rfl (.cons (.cons .dt (.cons .dt (.cons .dt (.cons .dt (.cons .dt (.cons .dt (.cons .dt Ctos.nil))))))) .nil), trivial⟩)
  ·skip
   refine .cons (.gF rfl rfl rfl) <| .cons (.gF rfl rfl rfl) <| .cons (.gF rfl rfl rfl) <| .cons (.gF rfl rfl rfl) <| .cons (.pF rfl rfl rfl) <| .cons (.mv rfl rfl) <| .cons (.gF rfl rfl rfl) <| .cons (.gF rfl rfl rfl) <| .cons (.gF rfl rfl rfl) <| .cons (.gF rfl rfl rfl) <| .cons (.pF rfl rfl rfl) <| .nil ?_
   exact kc_n (Wk.keep [(810, 102)] rfl rfl ⟨ks rfl .dt, ks rfl (.c .bx), ks rfl (.dt (vB (by rw [idxV]; first | rfl | (simp [*]; done) | grind))), ks rfl .dt, kb 102 rfl (.cons (.cons .dt (.cons .dt (.cons .dt (.cons .dt (.cons .dt (.cons .dt (.cons .dt Ctos.nil))))))) .nil), trivial⟩)
 refine ks_n ?_
 refine ACode.condT rfl (fun h22 => ?_) (fun h22 => ?_)
 ·try simp only [zs1, zs2, zs3, zs4, zs5, zs6, zs7] at h22
  refine .seq <| .region <| .cons (.fP 2 1 true rfl rfl) <| .cons (.fP 1 0 false rfl rfl) <| .cons (.l1 1 rfl rfl) ?_
  refine AOps.cT [.tmp 25] rfl rfl rfl rfl (num_T _) rfl rfl nosrc (fun R26 hR26 dR26 pR26 => ?_)
  refine .cons (.sT 7 true rfl rfl rfl rfl rfl rfl rfl) <| .nil <| ks_n <| .ret <| ks_r ?_
  refine kt_ret (R26) rfl ?_ ?_ ?_
  ·rw [if_pos h22]; rfl
  ·exact dR26
  ·exact fun j b h => .inr (new_of hR26 (gh_has rfl) j b h)
 ·try simp only [zs1, zs2, zs3, zs4, zs5, zs6, zs7] at h22
  refine .skip <| ks_n <| .seq <| .seq <| .region <| .cons (.fP 0 0 false rfl rfl) <| .cons (.l1 1 rfl rfl) <| .cons (.cP [.tmp 28] rfl rfl rfl rfl (isOp_fn _) rfl) ?_
  refine .cons (.nt rfl rfl) <| .nil <| ks_n ?_
  refine ACode.condT rfl (fun h30 => ?_) (fun h30 => ?_)
  ·try simp only [zs1, zs2, zs3, zs4, zs5, zs6, zs7] at h30
   refine .seq <| .region <| .cons (.lN 7 rfl rfl rfl) <| .cons (.sT 7 true rfl rfl rfl rfl rfl rfl rfl) <| .nil <| ks_n <| .ret <| ks_r ?_
   refine kt_ret (S) rfl ?_ ?_ ?_
   ·rw [if_neg (by rw [h22]; decide)]; rfl
   ·exact hS
   ·exact fun j b h => .inl ⟨j, h⟩
  ·try simp only [zs1, zs2, zs3, zs4, zs5, zs6, zs7] at h30
   exact absurd (by simpa [inB] using h30) hk

set_option maxHeartbeats 12800000 in
theorem fold_opT {S : Nat → Nat → Prop} (hS : ∀ i j b, S i b → S j b → i = j) (hX : ∀ j b, S j b → colX j) {e x y X Y : Ex} (hk : 4 ≤ e.k ∧ e.k ≤ 6) (hks : e.ks = [x, y]) (ihx : ∀ S' : Nat → Nat → Prop, (∀ i j b, S' i b → S' j b → i = j) → (∀ j b, S' j b → colX j) → FnT Try.prog 76 [ad (tagL S' 0 (rX x))] (un S') (.str (rX X))) (ihy : ∀ S' : Nat → Nat → Prop, (∀ i j b, S' i b → S' j b → i = j) → (∀ j b, S' j b → colX j) → FnT Try.prog 76 [ad (tagL S' 0 (rX y))] (un S') (.str (rX Y))) (hXn : -1000 ≤ X.n ∧ X.n ≤ 1000) (hYn : -1000 ≤ Y.n ∧ Y.n ≤ 1000) : FnT Try.prog 76 [ad (tagL S 0 (rX e))] (un S) (.str (rX (foldN (outE e.k X Y) X Y))) := by
 have hm := inB_mul hXn hYn
 refine FnT.of_code Try.func76 rfl rfl rfl (fun O => ?_)
 refine ACode.unpackA 0 6 rfl rfl (plain_map plE) (fun T hT hTd => ?_)
 refine .seq <| .region <| .cons (St1.boxP rfl rfl rfl rfl rfl rfl) <| .cons (.al 102 [.int .i64 0, .int .i64 0, .slice none 0 0, .int .i64 0, .string ByteArray.empty, .slice none 0 0, .slice none 0 0] rfl rfl rfl) <| .nil <| ks_n <| .seq <| .seq ?_
 refine ACode.cut [(.t 0, .v (.o (ad [dI e.k, dI e.n, .tree (S 2) (dIs e.i.1), dI e.i.2, dS e.r.1, .tree (S 5) (dAs e.r.2), .list 7 (tagRs T 0 (e.ks.map rE))]))), (.t 1, .v (.o (.c (.ptr [dI e.k, dI e.n, .tree (S 2) (dIs e.i.1), dI e.i.2, dS e.r.1, .tree (S 5) (dAs e.r.2), .list 7 (tagRs T 0 (e.ks.map rE))])))), (.t 2, .v (.o (.c (.box 810 7 0 0)))), (.t 22, .v (.o (bo1 (idxV e)))), (.t 9999, .v (.gh O)), (.b 810, .b 40 7 [[.d (dI 0), .d (dI 0), .d (.val (.slice none 0 0)), .d (dI 0), .d (dS ByteArray.empty), .d (.val (.slice none 0 0)), .d (.val (.slice none 0 0))]]), (.u 810, .u)] ?_ ?_
 ·skip
  refine .region <| .cons (.fP 0 0 false rfl rfl) <| .cons (.l1 1 rfl rfl) <| .cons (.eq rfl rfl rfl) <| .cons (.mv rfl rfl) ?_
  refine .cD 11 rfl (fun g11 => ?_) (fun g11 => ?_)
  ·skip
   exfalso; omega
  ·skip
   refine .cons (.gF rfl rfl rfl) <| .cons (.gF rfl rfl rfl) <| .cons (.gF rfl rfl rfl) <| .cons (.gF rfl rfl rfl) <| .cons (.pF rfl rfl rfl) <| .cons (.mv rfl rfl) <| .cons (.gF rfl rfl rfl) <| .cons (.gF rfl rfl rfl) <| .cons (.gF rfl rfl rfl) <| .cons (.gF rfl rfl rfl) <| .cons (.pF rfl rfl rfl) <| .nil ?_
   exact kc_n (Wk.keep [(810, 102)] rfl rfl ⟨ks rfl .dt, ks rfl .dt, ks rfl (.c .bx), ks rfl (.dt (vB (by rw [idxV]; first | rfl | (simp [*]; done) | grind))), ks rfl .dt, kb 102 rfl (.cons (.cons .dt (.cons .dt (.cons .dt (.cons .dt (.cons .dt (.cons .dt (.cons .dt Ctos.nil))))))) .nil), trivial⟩)
 refine ks_n ?_
 refine ACode.condT rfl (fun h22 => ?_) (fun h22 => ?_)
 ·try simp only [zs1, zs2, zs3, zs4, zs5, zs6, zs7] at h22
  exact absurd (h22.symm.trans (idxV_no (by omega))) (by decide)
 ·try simp only [zs1, zs2, zs3, zs4, zs5, zs6, zs7] at h22
  refine .skip <| ks_n <| .seq <| .seq <| .region <| .cons (.fP 0 0 false rfl rfl) <| .cons (.l1 1 rfl rfl) <| .cons (.cP [.tmp 28] rfl rfl rfl rfl (isOp_fn _) rfl) ?_
  refine .cons (.nt rfl rfl) <| .nil <| ks_n ?_
  refine ACode.condT rfl (fun h30 => ?_) (fun h30 => ?_)
  ·try simp only [zs1, zs2, zs3, zs4, zs5, zs6, zs7] at h30
   exact absurd hk (by simpa [inB] using h30)
  ·try simp only [zs1, zs2, zs3, zs4, zs5, zs6, zs7] at h30
   refine .skip <| ks_n <| .seq ?_
   refine ACode.drawT (by kernel_rfl) (by kernel_rfl) (fun Uq5_0 => ?_)
   refine .cons (fun _ => (.fP 6 0 false rfl rfl)) <| .cons (fun _ => (.l1 1 rfl rfl)) <| .cons (fun _ => (.xL 40 7 112 (i := 0) rfl rfl rfl rfl rfl (tagRs_at (by rw [hks]; exact rE_at rfl)))) ?_
   refine .cons (fun _ => (.lN 7 rfl rfl rfl)) ?_
   refine .cT [.tmp 35] rfl rfl (fun _ => rfl) (fun _ => rfl) (ihx (T 0) (fun i j b h1 h2 => (hTd _ _ _ _ _ h1 h2).2) (fun j b h => isPos_L posE (hT 0 j b h).2)) rfl rfl (unV fun j b h => colX_list (isPos_L posE (hT 0 j b h).2)) ?_
   refine .cons (fun _ => (.fP 6 0 false rfl rfl)) <| .cons (fun _ => (.l1 1 rfl rfl)) <| .cons (fun _ => (.xL 40 7 112 (i := 1) rfl rfl rfl rfl rfl (tagRs_at (by rw [hks]; exact rE_at rfl)))) ?_
   refine .cons (fun _ => (.lN 7 rfl rfl rfl)) ?_
   refine .cT [.tmp 40] rfl rfl (fun _ => rfl) (fun _ => rfl) (ihy (T 1) (fun i j b h1 h2 => (hTd _ _ _ _ _ h1 h2).2) (fun j b h => isPos_L posE (hT 1 j b h).2)) rfl rfl (unV fun j b h => colX_list (isPos_L posE (hT 1 j b h).2)) ?_
   refine .cons (fun _ => (.al 103 [.int .i64 0, .int .i64 0, .slice none 0 0, .int .i64 0, .string ByteArray.empty, .slice none 0 0, .slice none 0 0] rfl rfl rfl)) <| .cons (fun _ => (.al 104 [.int .i64 0, .int .i64 0, .slice none 0 0, .int .i64 0, .string ByteArray.empty, .slice none 0 0, .slice none 0 0] rfl rfl rfl)) <| .cons (fun _ => (.sT 7 true rfl rfl rfl rfl rfl rfl rfl)) <| .cons (fun _ => (.sT 7 true rfl rfl rfl rfl rfl rfl rfl)) ?_
   refine .nil ⟨⟨fun _ => by kernel_rfl, by repeat' (first | exact trivial | exact .inr (.inl rfl) | exact .inl (by decide +kernel) | exact .inr (.inr fun _ _ => rfl) | refine ⟨?_, ?_⟩), rfl⟩, fun ρq5_0 Nq5_0 Fq5_0 Wq5_0 => ?_⟩
   obtain ⟨hR36, dR36, pR36⟩ := Fq5_0.hR Wq5_0 4 rfl rfl
   obtain ⟨hR41, dR41, pR41⟩ := Fq5_0.hR Wq5_0 9 rfl rfl
   have hAS : ∀ j b, (ρq5_0 4) j b → un S b ∨ ¬ O b := fun j b h => (hR36 j b h).imp (fun ⟨q, hq⟩ => ⟨6, (hT 0 q b hq).1⟩) (fun h => h O (gh_has rfl))
   have hBS : ∀ j b, (ρq5_0 9) j b → un S b ∨ ¬ O b := fun j b h => (hR41 j b h).imp (fun ⟨q, hq⟩ => ⟨6, (hT 1 q b hq).1⟩) (fun h => h O (gh_has rfl))
   have hTU : ∀ p q b, T p q b → Uq5_0 b := fun p q b hb => Wq5_0 (T p q) (.slot 0 rfl (.agg (i := 6) rfl (.d (hasD_rows (hT p q b hb).2)))) b hb
   have hAB : ∀ j j' b, (ρq5_0 4) j b → ¬ (ρq5_0 9) j' b := fun j j' b h1 h2 => by
    obtain ⟨⟨q1, g1⟩, ⟨q2, g2⟩⟩ := Fq5_0.two 4 9 rfl rfl rfl rfl rfl (fun b ⟨q, hq⟩ => hTU _ q b hq) (fun b ⟨q, hq⟩ => hTU _ q b hq) j j' b h1 h2
    have := (hTd _ _ _ _ _ g1 g2).1
    omega
   have hFD : FD none' colX 2 (nextF (nextF noF 0 (ρq5_0 4)) 1 (ρq5_0 9)) := ((FD.zero none' colX noF).next (fun _ _ _ h => h) dR36 (fun _ _ _ _ h => by omega)).next (fun _ _ _ h => h) dR41 (fun a c c' b ha _ h1 h2 => by
    rw [nextF, if_pos (by omega)] at h1
    exact hAB c c' b h1 h2)
   refine ks_n <| .seq <| .region <| .cons (.fP 0 0 false rfl rfl) <| .cons (.l1 1 rfl rfl) <| .cons (.bN 7 rfl rfl rfl rfl rfl rfl) <| .cons (.bN 7 rfl rfl rfl rfl rfl rfl) <| .cons (St1.litB (k' := 146) (e := 40) (sz := 6) (m := 1) (xs := [.tmp 44, .tmp 45]) rfl rfl rfl rfl rfl (by kernel_rfl) rfl rfl rfl rfl rfl) ?_
   refine .cons (.bu [(0, .tmp 43), (4, .tmp 46)] [(0, 1), (1, 1), (2, 2), (4, 2), (6, 1)] [.int .i64 0, .int .i64 0, .slice none 0 0, .int .i64 0, .string ByteArray.empty, .slice none 0 0, .slice none 0 0] rfl rfl rfl rfl rfl) <| .cons (.al 105 [.int .i64 0, .int .i64 0, .slice none 0 0, .int .i64 0, .string ByteArray.empty, .slice none 0 0, .slice none 0 0] rfl rfl rfl) <| .cons (.sT 7 true rfl rfl rfl rfl rfl rfl rfl) <| .nil <| ks_n <| .seq <| .region <| .cons (.fP 0 0 false rfl rfl) <| .cons (.l1 1 rfl rfl) <| .cons (.eq rfl rfl rfl) <| .cons (.asg rfl rfl) <| .nil <| ks_n <| .seq <| .seq ?_
   refine ACode.cut [(.t 0, .v (.o (ad [dI e.k, dI e.n, .tree (S 2) (dIs e.i.1), dI e.i.2, dS e.r.1, .tree (S 5) (dAs e.r.2), .list 7 (tagRs T 0 (e.ks.map rE))]))), (.t 1, .v (.o (.c (.ptr [dI e.k, dI e.n, .tree (S 2) (dIs e.i.1), dI e.i.2, dS e.r.1, .tree (S 5) (dAs e.r.2), .list 7 (tagRs T 0 (e.ks.map rE))])))), (.t 2, .v (.o (.c (.box 880 7 0 0)))), (.t 3, .v (.o (.c (.box 881 7 0 0)))), (.t 4, .v (.o (.c (.box 882 7 0 0)))), (.t 5, .v (.o (.c (.box 883 7 0 0)))), (.t 6, .v (.o (bo1 (decide (e.k = 6))))), (.t 58, .v (.o (bo1 ((decide (X.k = 1) && decide (Y.k = 1)))))), (.t 9999, .v (.gh O)), (.b 880, .b 40 7 [[.d (dI 0), .d (dI 0), .d (.val (.slice none 0 0)), .d (dI 0), .d (dS ByteArray.empty), .d (.val (.slice none 0 0)), .d (.val (.slice none 0 0))]]), (.u 880, .u), (.b 881, .b 40 7 (dR ([tagL (ρq5_0 4) 0 (rX X)]))), (.u 881, .u), (.b 882, .b 40 7 (dR ([tagL (ρq5_0 9) 0 (rX Y)]))), (.u 882, .u), (.b 884, .b 40 7 (dR (tagRs (nextF (nextF noF 0 (ρq5_0 4)) 1 (ρq5_0 9)) 0 ([X, Y].map rE)))), (.u 884, .u), (.b 883, .b 40 7 [[.d (dI e.k), .d (dI 0), .d (.val (.slice none 0 0)), .d (dI 0), .d (dS ByteArray.empty), .d (.val (.slice none 0 0)), .own 884 7 (([X, Y].map rE).length)]]), (.u 883, .u)] ?_ ?_
   ·skip
    refine .region <| .cons (.fB 0 0 false rfl rfl rfl) <| .cons (.b1 1 rfl rfl rfl rfl rfl rfl) <| .cons (.eq rfl rfl rfl) <| .cons (.mv rfl rfl) ?_
    refine .cD 54 rfl (fun g54 => ?_) (fun g54 => ?_)
    ·skip
     refine .cons (.gT rfl rfl rfl (.fB 0 0 false rfl rfl rfl)) <| .cons (.gT rfl rfl rfl (.b1 1 rfl rfl rfl rfl rfl rfl)) <| .cons (.gT rfl rfl rfl (.eq rfl rfl rfl)) <| .cons (.pT rfl rfl rfl) <| .nil ?_
     exact kc_n (Wk.keep [(880, 810), (881, 103), (882, 104), (883, 105), (884, 146)] rfl rfl ⟨ks rfl .dt, ks rfl .dt, ks rfl (.c .bx), ks rfl (.c .bx), ks rfl (.c .bx), ks rfl (.c .bx), ks rfl .dt, ks rfl (.dt (vB (by first | rfl | (simp [*]; done) | grind))), ks rfl .dt, kb 810 rfl (.cons (.cons .dt (.cons .dt (.cons .dt (.cons .dt (.cons .dt (.cons .dt (.cons .dt Ctos.nil))))))) .nil), kb 103 rfl (.dt rfl), kb 104 rfl (.dt rfl), kb 146 rfl (.dt rfl (by first | rfl | (rw [tag_two]; rfl))), kb 105 rfl (.cons (.cons .dt (.cons .dt (.cons .dt (.cons .dt (.cons .dt (.cons .dt (.cons .ow Ctos.nil))))))) .nil), trivial⟩)
    ·skip
     refine .cons (.gF rfl rfl rfl) <| .cons (.gF rfl rfl rfl) <| .cons (.gF rfl rfl rfl) <| .cons (.pF rfl rfl rfl) <| .nil ?_
     exact kc_n (Wk.keep [(880, 810), (881, 103), (882, 104), (883, 105), (884, 146)] rfl rfl ⟨ks rfl .dt, ks rfl .dt, ks rfl (.c .bx), ks rfl (.c .bx), ks rfl (.c .bx), ks rfl (.c .bx), ks rfl .dt, ks rfl (.dt (vB (by first | rfl | (simp [*]; done) | grind))), ks rfl .dt, kb 810 rfl (.cons (.cons .dt (.cons .dt (.cons .dt (.cons .dt (.cons .dt (.cons .dt (.cons .dt Ctos.nil))))))) .nil), kb 103 rfl (.dt rfl), kb 104 rfl (.dt rfl), kb 146 rfl (.dt rfl (by first | rfl | (rw [tag_two]; rfl))), kb 105 rfl (.cons (.cons .dt (.cons .dt (.cons .dt (.cons .dt (.cons .dt (.cons .dt (.cons .ow Ctos.nil))))))) .nil), trivial⟩)
   refine ks_n ?_
   refine ACode.condT rfl (fun h58 => ?_) (fun h58 => ?_)
   ·try simp only [zs1, zs2, zs3, zs4, zs5, zs6, zs7] at h58
    refine .seq <| .region <| .cons (.fB 1 0 false rfl rfl rfl) <| .cons (.b1 1 rfl rfl rfl rfl rfl rfl) <| .cons (.fB 1 0 false rfl rfl rfl) <| .cons (.b1 1 rfl rfl rfl rfl rfl rfl) <| .cons (.pl rfl rfl rfl) <| .cons (.asg rfl rfl) <| .nil <| ks_n <| .seq ?_
    refine ACode.cut [(.t 0, .v (.o (ad [dI e.k, dI e.n, .tree (S 2) (dIs e.i.1), dI e.i.2, dS e.r.1, .tree (S 5) (dAs e.r.2), .list 7 (tagRs T 0 (e.ks.map rE))]))), (.t 1, .v (.o (.c (.ptr [dI e.k, dI e.n, .tree (S 2) (dIs e.i.1), dI e.i.2, dS e.r.1, .tree (S 5) (dAs e.r.2), .list 7 (tagRs T 0 (e.ks.map rE))])))), (.t 2, .v (.o (.c (.box 900 7 0 0)))), (.t 3, .v (.o (.c (.box 901 7 0 0)))), (.t 4, .v (.o (.c (.box 902 7 0 0)))), (.t 5, .v (.o (.c (.box 903 7 0 0)))), (.t 6, .v (.o (bo1 (decide (e.k = 6))))), (.t 7, .v (.o (nat1 (valN e.k X.n Y.n)))), (.t 9999, .v (.gh O)), (.b 900, .b 40 7 [[.d (dI 0), .d (dI 0), .d (.val (.slice none 0 0)), .d (dI 0), .d (dS ByteArray.empty), .d (.val (.slice none 0 0)), .d (.val (.slice none 0 0))]]), (.u 900, .u), (.b 901, .b 40 7 (dR ([tagL (ρq5_0 4) 0 (rX X)]))), (.u 901, .u), (.b 902, .b 40 7 (dR ([tagL (ρq5_0 9) 0 (rX Y)]))), (.u 902, .u), (.b 904, .b 40 7 (dR (tagRs (nextF (nextF noF 0 (ρq5_0 4)) 1 (ρq5_0 9)) 0 ([X, Y].map rE)))), (.u 904, .u), (.b 903, .b 40 7 [[.d (dI e.k), .d (dI 0), .d (.val (.slice none 0 0)), .d (dI 0), .d (dS ByteArray.empty), .d (.val (.slice none 0 0)), .own 904 7 (([X, Y].map rE).length)]]), (.u 903, .u)] ?_ ?_
    ·skip
     refine .seq <| .region <| .cons (.fP 0 0 false rfl rfl) <| .cons (.l1 1 rfl rfl) <| .nil <| ks_n <| .block <| .seq <| .region <| .cons (.eq rfl rfl rfl) <| .cons (.asg rfl rfl) <| .nil <| ks_n ?_
     refine .cD rfl (fun h66 => ?_) (fun h66 => ?_)
     ·skip
      refine .region <| .cons (.fB 1 0 false rfl rfl rfl) <| .cons (.b1 1 rfl rfl rfl rfl rfl rfl) <| .cons (.fB 1 0 false rfl rfl rfl) <| .cons (.b1 1 rfl rfl rfl rfl rfl rfl) <| .cons (.sb rfl rfl rfl) <| .cons (.asg rfl rfl) <| .nil <| kb_n ?_
      exact kc_n (Wk.keep [(900, 880), (901, 881), (902, 882), (903, 883), (904, 884)] rfl rfl ⟨ks rfl .dt, ks rfl .dt, ks rfl (.c .bx), ks rfl (.c .bx), ks rfl (.c .bx), ks rfl (.c .bx), ks rfl .dt, ks rfl (.dt (vI (by rw [valN]; first | (simp [*]; done) | (rw [if_pos (by assumption)]; done) | (rw [if_neg (by assumption), if_pos (by assumption)]; done) | (rw [if_neg (by assumption), if_neg (by assumption)])))), ks rfl .dt, kb 880 rfl (.cons (.cons .dt (.cons .dt (.cons .dt (.cons .dt (.cons .dt (.cons .dt (.cons .dt Ctos.nil))))))) .nil), kb 881 rfl (.dt rfl), kb 882 rfl (.dt rfl), kb 884 rfl (.dt rfl (by first | rfl | (rw [tag_two]; rfl))), kb 883 rfl (.cons (.cons .dt (.cons .dt (.cons .dt (.cons .dt (.cons .dt (.cons .dt (.cons .ow Ctos.nil))))))) .nil), trivial⟩)
     ·skip
      refine .seq <| .region <| .cons (.eq rfl rfl rfl) <| .cons (.asg rfl rfl) <| .nil <| ks_n ?_
      refine .cD rfl (fun h73 => ?_) (fun h73 => ?_)
      ·skip
       refine .region <| .cons (.fB 1 0 false rfl rfl rfl) <| .cons (.b1 1 rfl rfl rfl rfl rfl rfl) <| .cons (.fB 1 0 false rfl rfl rfl) <| .cons (.b1 1 rfl rfl rfl rfl rfl rfl) <| .cons (.ml rfl rfl rfl) <| .cons (.asg rfl rfl) <| .nil <| kb_n ?_
       exact kc_n (Wk.keep [(900, 880), (901, 881), (902, 882), (903, 883), (904, 884)] rfl rfl ⟨ks rfl .dt, ks rfl .dt, ks rfl (.c .bx), ks rfl (.c .bx), ks rfl (.c .bx), ks rfl (.c .bx), ks rfl .dt, ks rfl (.dt (vI (by rw [valN]; first | (simp [*]; done) | (rw [if_pos (by assumption)]; done) | (rw [if_neg (by assumption), if_pos (by assumption)]; done) | (rw [if_neg (by assumption), if_neg (by assumption)])))), ks rfl .dt, kb 880 rfl (.cons (.cons .dt (.cons .dt (.cons .dt (.cons .dt (.cons .dt (.cons .dt (.cons .dt Ctos.nil))))))) .nil), kb 881 rfl (.dt rfl), kb 882 rfl (.dt rfl), kb 884 rfl (.dt rfl (by first | rfl | (rw [tag_two]; rfl))), kb 883 rfl (.cons (.cons .dt (.cons .dt (.cons .dt (.cons .dt (.cons .dt (.cons .dt (.cons .ow Ctos.nil))))))) .nil), trivial⟩)
      ·skip
       refine .skip <| kb_n ?_
       exact kc_n (Wk.keep [(900, 880), (901, 881), (902, 882), (903, 883), (904, 884)] rfl rfl ⟨ks rfl .dt, ks rfl .dt, ks rfl (.c .bx), ks rfl (.c .bx), ks rfl (.c .bx), ks rfl (.c .bx), ks rfl .dt, ks rfl (.dt (vI (by rw [valN]; first | (simp [*]; done) | (rw [if_pos (by assumption)]; done) | (rw [if_neg (by assumption), if_pos (by assumption)]; done) | (rw [if_neg (by assumption), if_neg (by assumption)])))), ks rfl .dt, kb 880 rfl (.cons (.cons .dt (.cons .dt (.cons .dt (.cons .dt (.cons .dt (.cons .dt (.cons .dt Ctos.nil))))))) .nil), kb 881 rfl (.dt rfl), kb 882 rfl (.dt rfl), kb 884 rfl (.dt rfl (by first | rfl | (rw [tag_two]; rfl))), kb 883 rfl (.cons (.cons .dt (.cons .dt (.cons .dt (.cons .dt (.cons .dt (.cons .dt (.cons .ow Ctos.nil))))))) .nil), trivial⟩)
    refine ks_n <| .seq <| .seq <| .region <| .cons (.mv rfl rfl) <| .cons (.cP [.tmp 80, .const (.int .i64 (0)), .const (.int .i64 (99))] rfl rfl rfl rfl (within_fn _ 0 99) rfl) ?_
    refine .nil <| ks_n ?_
    refine ACode.condT rfl (fun h81 => ?_) (fun h81 => ?_)
    ·try simp only [zs1, zs2, zs3, zs4, zs5, zs6, zs7] at h81
     refine .seq <| .region <| .cons (.mv rfl rfl) ?_
     refine AOps.cT [.tmp 82] rfl rfl rfl rfl (num_T _) rfl rfl nosrc (fun R83 hR83 dR83 pR83 => ?_)
     refine .cons (.sT 7 true rfl rfl rfl rfl rfl rfl rfl) <| .nil <| ks_n <| .ret <| ks_r <| ks_r ?_
     refine kt_ret (R83) rfl ?_ ?_ ?_
     ·rw [foldN_num h58 h81]; rfl
     ·exact dR83
     ·exact fun j b h => .inr (new_of hR83 (gh_has rfl) j b h)
    ·try simp only [zs1, zs2, zs3, zs4, zs5, zs6, zs7] at h81
     refine .skip <| ks_n <| .seq ?_
     refine ACode.packB 903 0 6 904 (rows := [X, Y].map rE) (F := nextF (nextF noF 0 (ρq5_0 4)) 1 (ρq5_0 9)) rfl rfl rfl rfl rfl (plain_map plE) (hFD.pos rfl (fun i j h => isPos_L posE h)) (show 2 ≤ 17592186044416 by decide) (fun N hN => ?_)
     refine .region <| .cons (.bN 7 rfl rfl rfl rfl rfl rfl) <| .cons (.sT 7 true rfl rfl rfl rfl rfl rfl rfl) <| .nil <| ks_n <| .ret <| ks_r ?_
     refine kt_wret (nthS [none', none', none', none', none', none', N]) [(.t 2, .v (.o (.c (.box 100 7 0 0)))), (.b 100, .b 40 7 [[.d (dI e.k), .d (dI 0), (.d (.tree none' (dIs []))), .d (dI 0), .d (dS ByteArray.empty), (.d (.tree none' (dAs []))), .d (.tree N (dEs [X, Y]))]]), (.u 100, .u)] (Wk.keep [(100, 900)] rfl rfl ⟨ks rfl (.c .bx), kb 900 rfl (.cons (.cons .dt (.cons .dt (.cons (Cto.nilTE 1 rfl) (.cons .dt (.cons .dt (.cons (Cto.nilTE 2 rfl) (.cons .dt Ctos.nil))))))) .nil), trivial⟩) rfl ?_ ?_ ?_
     ·rw [foldN_out h58 h81]; rfl
     ·exact nthS_dis (by first | (simp only [List.pairwise_cons, List.forall_mem_cons, List.not_mem_nil, false_implies, implies_true, and_true, List.Pairwise.nil]; done) | (simp only [List.pairwise_cons, List.forall_mem_cons, List.not_mem_nil, false_implies, implies_true, and_true, List.Pairwise.nil]; simp [none']; done))
     ·exact nthS_all (by simp only [List.forall_mem_cons, List.not_mem_nil, false_implies, implies_true, and_true]; exact ⟨(fun b h => h.elim), (fun b h => h.elim), (fun b h => h.elim), (fun b h => h.elim), (fun b h => h.elim), (fun b h => h.elim), (fun b h => fold_out hAS hBS hN (gh_has rfl) b h)⟩)
   ·try simp only [zs1, zs2, zs3, zs4, zs5, zs6, zs7] at h58
    refine .skip <| ks_n <| .seq <| .block <| .seq ?_
    refine ACode.cut [(.t 0, .v (.o (ad [dI e.k, dI e.n, .tree (S 2) (dIs e.i.1), dI e.i.2, dS e.r.1, .tree (S 5) (dAs e.r.2), .list 7 (tagRs T 0 (e.ks.map rE))]))), (.t 1, .v (.o (.c (.ptr [dI e.k, dI e.n, .tree (S 2) (dIs e.i.1), dI e.i.2, dS e.r.1, .tree (S 5) (dAs e.r.2), .list 7 (tagRs T 0 (e.ks.map rE))])))), (.t 2, .v (.o (.c (.box 980 7 0 0)))), (.t 3, .v (.o (.c (.box 981 7 0 0)))), (.t 4, .v (.o (.c (.box 982 7 0 0)))), (.t 5, .v (.o (.c (.box 983 7 0 0)))), (.t 6, .v (.o (bo1 (decide (e.k = 6))))), (.t 85, .v (.o (bo1 ((!decide (e.k = 6) && isN Y 0 || decide (e.k = 6) && isN Y 1))))), (.t 9999, .v (.gh O)), (.b 980, .b 40 7 [[.d (dI 0), .d (dI 0), .d (.val (.slice none 0 0)), .d (dI 0), .d (dS ByteArray.empty), .d (.val (.slice none 0 0)), .d (.val (.slice none 0 0))]]), (.u 980, .u), (.b 981, .b 40 7 (dR ([tagL (ρq5_0 4) 0 (rX X)]))), (.u 981, .u), (.b 982, .b 40 7 (dR ([tagL (ρq5_0 9) 0 (rX Y)]))), (.u 982, .u), (.b 984, .b 40 7 (dR (tagRs (nextF (nextF noF 0 (ρq5_0 4)) 1 (ρq5_0 9)) 0 ([X, Y].map rE)))), (.u 984, .u), (.b 983, .b 40 7 [[.d (dI e.k), .d (dI 0), .d (.val (.slice none 0 0)), .d (dI 0), .d (dS ByteArray.empty), .d (.val (.slice none 0 0)), .own 984 7 (([X, Y].map rE).length)]]), (.u 983, .u)] ?_ ?_
    ·skip
     refine .region <| .cons (.mv rfl rfl) <| .cons (.nt rfl rfl) <| .cons (.mv rfl rfl) ?_
     refine AOps.cases 88 _ rfl (fun g88 => ?_) (fun g88 => ?_)
     ·try simp only [zs1, zs2, zs3, zs4, zs5, zs6, zs7] at g88
      refine .cons (.gT rfl rfl rfl (.bN 7 rfl rfl rfl rfl rfl rfl)) ?_
      refine AOps.wk (Wk.er 89 ((ρq5_0 9)) (rX Y) rfl) ?_
      refine .cons (.gT rfl rfl rfl (.cP [.tmp 89, .const (.int .i64 (0))] rfl rfl rfl rfl (implIsNum_fn _ 0) rfl)) ?_
      refine .cons (.pT rfl rfl rfl) <| .cons (.mv rfl rfl) ?_
      refine AOps.cases 92 _ rfl (fun g92 => ?_) (fun g92 => ?_)
      ·try simp only [zs1, zs2, zs3, zs4, zs5, zs6, zs7] at g92
       refine .cons (.gF rfl rfl rfl) <| .cons (.gF rfl rfl rfl) <| .cons (.gU rfl rfl) <| .cons (.gU rfl rfl) <| .cons (.gF rfl rfl rfl) <| .cons (.pT rfl rfl rfl) <| .cons (.asg rfl rfl) <| .nil ?_
       exact kc_n (Wk.keep [(980, 880), (981, 881), (982, 882), (983, 883), (984, 884)] rfl rfl ⟨ks rfl .dt, ks rfl .dt, ks rfl (.c .bx), ks rfl (.c .bx), ks rfl (.c .bx), ks rfl (.c .bx), ks rfl .dt, ks rfl (.dt (vB (by first | rfl | (simp [*]; done) | grind))), ks rfl .dt, kb 880 rfl (.cons (.cons .dt (.cons .dt (.cons .dt (.cons .dt (.cons .dt (.cons .dt (.cons .dt Ctos.nil))))))) .nil), kb 881 rfl (.dt rfl), kb 882 rfl (.dt rfl), kb 884 rfl (.dt rfl (by first | rfl | (rw [tag_two]; rfl))), kb 883 rfl (.cons (.cons .dt (.cons .dt (.cons .dt (.cons .dt (.cons .dt (.cons .dt (.cons .ow Ctos.nil))))))) .nil), trivial⟩)
      ·try simp only [zs1, zs2, zs3, zs4, zs5, zs6, zs7] at g92
       refine .cons (.gT rfl rfl rfl (.mv rfl rfl)) <| .cons (.gT rfl rfl rfl (.mv rfl rfl)) ?_
       refine AOps.cases 94 _ rfl (fun g94 => ?_) (fun g94 => ?_)
       ·try simp only [zs1, zs2, zs3, zs4, zs5, zs6, zs7] at g94
        refine .cons (.gT rfl rfl rfl (.bN 7 rfl rfl rfl rfl rfl rfl)) ?_
        refine AOps.wk (Wk.er 95 ((ρq5_0 9)) (rX Y) rfl) ?_
        refine .cons (.gT rfl rfl rfl (.cP [.tmp 95, .const (.int .i64 (1))] rfl rfl rfl rfl (implIsNum_fn _ 1) rfl)) ?_
        refine .cons (.gT rfl rfl rfl (.pT rfl rfl rfl)) <| .cons (.pF rfl rfl rfl) <| .cons (.asg rfl rfl) <| .nil ?_
        exact kc_n (Wk.keep [(980, 880), (981, 881), (982, 882), (983, 883), (984, 884)] rfl rfl ⟨ks rfl .dt, ks rfl .dt, ks rfl (.c .bx), ks rfl (.c .bx), ks rfl (.c .bx), ks rfl (.c .bx), ks rfl .dt, ks rfl (.dt (vB (by first | rfl | (simp [*]; done) | grind))), ks rfl .dt, kb 880 rfl (.cons (.cons .dt (.cons .dt (.cons .dt (.cons .dt (.cons .dt (.cons .dt (.cons .dt Ctos.nil))))))) .nil), kb 881 rfl (.dt rfl), kb 882 rfl (.dt rfl), kb 884 rfl (.dt rfl (by first | rfl | (rw [tag_two]; rfl))), kb 883 rfl (.cons (.cons .dt (.cons .dt (.cons .dt (.cons .dt (.cons .dt (.cons .dt (.cons .ow Ctos.nil))))))) .nil), trivial⟩)
       ·try simp only [zs1, zs2, zs3, zs4, zs5, zs6, zs7] at g94
        refine .cons (.gF rfl rfl rfl) <| .cons (.gF rfl rfl rfl) <| .cons (.gT rfl rfl rfl (.pF rfl rfl rfl)) <| .cons (.pF rfl rfl rfl) <| .cons (.asg rfl rfl) <| .nil ?_
        exact kc_n (Wk.keep [(980, 880), (981, 881), (982, 882), (983, 883), (984, 884)] rfl rfl ⟨ks rfl .dt, ks rfl .dt, ks rfl (.c .bx), ks rfl (.c .bx), ks rfl (.c .bx), ks rfl (.c .bx), ks rfl .dt, ks rfl (.dt (vB (by first | rfl | (simp [*]; done) | grind))), ks rfl .dt, kb 880 rfl (.cons (.cons .dt (.cons .dt (.cons .dt (.cons .dt (.cons .dt (.cons .dt (.cons .dt Ctos.nil))))))) .nil), kb 881 rfl (.dt rfl), kb 882 rfl (.dt rfl), kb 884 rfl (.dt rfl (by first | rfl | (rw [tag_two]; rfl))), kb 883 rfl (.cons (.cons .dt (.cons .dt (.cons .dt (.cons .dt (.cons .dt (.cons .dt (.cons .ow Ctos.nil))))))) .nil), trivial⟩)
     ·try simp only [zs1, zs2, zs3, zs4, zs5, zs6, zs7] at g88
      refine .cons (.gF rfl rfl rfl) <| .cons (.gF rfl rfl rfl) <| .cons (.pF rfl rfl rfl) <| .cons (.mv rfl rfl) <| .cons (.gT rfl rfl rfl (.mv rfl rfl)) <| .cons (.gT rfl rfl rfl (.mv rfl rfl)) ?_
      refine AOps.cases 94 _ rfl (fun g94 => ?_) (fun g94 => ?_)
      ·try simp only [zs1, zs2, zs3, zs4, zs5, zs6, zs7] at g94
       refine .cons (.gT rfl rfl rfl (.bN 7 rfl rfl rfl rfl rfl rfl)) ?_
       refine AOps.wk (Wk.er 95 ((ρq5_0 9)) (rX Y) rfl) ?_
       refine .cons (.gT rfl rfl rfl (.cP [.tmp 95, .const (.int .i64 (1))] rfl rfl rfl rfl (implIsNum_fn _ 1) rfl)) ?_
       refine .cons (.gT rfl rfl rfl (.pT rfl rfl rfl)) <| .cons (.pF rfl rfl rfl) <| .cons (.asg rfl rfl) <| .nil ?_
       exact kc_n (Wk.keep [(980, 880), (981, 881), (982, 882), (983, 883), (984, 884)] rfl rfl ⟨ks rfl .dt, ks rfl .dt, ks rfl (.c .bx), ks rfl (.c .bx), ks rfl (.c .bx), ks rfl (.c .bx), ks rfl .dt, ks rfl (.dt (vB (by first | rfl | (simp [*]; done) | grind))), ks rfl .dt, kb 880 rfl (.cons (.cons .dt (.cons .dt (.cons .dt (.cons .dt (.cons .dt (.cons .dt (.cons .dt Ctos.nil))))))) .nil), kb 881 rfl (.dt rfl), kb 882 rfl (.dt rfl), kb 884 rfl (.dt rfl (by first | rfl | (rw [tag_two]; rfl))), kb 883 rfl (.cons (.cons .dt (.cons .dt (.cons .dt (.cons .dt (.cons .dt (.cons .dt (.cons .ow Ctos.nil))))))) .nil), trivial⟩)
      ·try simp only [zs1, zs2, zs3, zs4, zs5, zs6, zs7] at g94
       refine .cons (.gF rfl rfl rfl) <| .cons (.gF rfl rfl rfl) <| .cons (.gT rfl rfl rfl (.pF rfl rfl rfl)) <| .cons (.pF rfl rfl rfl) <| .cons (.asg rfl rfl) <| .nil ?_
       exact kc_n (Wk.keep [(980, 880), (981, 881), (982, 882), (983, 883), (984, 884)] rfl rfl ⟨ks rfl .dt, ks rfl .dt, ks rfl (.c .bx), ks rfl (.c .bx), ks rfl (.c .bx), ks rfl (.c .bx), ks rfl .dt, ks rfl (.dt (vB (by first | rfl | (simp [*]; done) | grind))), ks rfl .dt, kb 880 rfl (.cons (.cons .dt (.cons .dt (.cons .dt (.cons .dt (.cons .dt (.cons .dt (.cons .dt Ctos.nil))))))) .nil), kb 881 rfl (.dt rfl), kb 882 rfl (.dt rfl), kb 884 rfl (.dt rfl (by first | rfl | (rw [tag_two]; rfl))), kb 883 rfl (.cons (.cons .dt (.cons .dt (.cons .dt (.cons .dt (.cons .dt (.cons .dt (.cons .ow Ctos.nil))))))) .nil), trivial⟩)
    refine ks_n ?_
    refine ACode.condT rfl (fun h85 => ?_) (fun h85 => ?_)
    ·try simp only [zs1, zs2, zs3, zs4, zs5, zs6, zs7] at h85
     refine .seq <| .region <| .cons (.bN 7 rfl rfl rfl rfl rfl rfl) <| .cons (.sT 7 true rfl rfl rfl rfl rfl rfl rfl) <| .nil <| ks_n <| .ret <| kb_r <| ks_r ?_
     refine kt_ret ((ρq5_0 4)) rfl ?_ ?_ ?_
     ·rw [foldN_x h58 h85]; rfl
     ·exact dR36
     ·exact hAS
    ·try simp only [zs1, zs2, zs3, zs4, zs5, zs6, zs7] at h85
     refine .seq ?_
     refine ACode.cut [(.t 0, .v (.o (ad [dI e.k, dI e.n, .tree (S 2) (dIs e.i.1), dI e.i.2, dS e.r.1, .tree (S 5) (dAs e.r.2), .list 7 (tagRs T 0 (e.ks.map rE))]))), (.t 1, .v (.o (.c (.ptr [dI e.k, dI e.n, .tree (S 2) (dIs e.i.1), dI e.i.2, dS e.r.1, .tree (S 5) (dAs e.r.2), .list 7 (tagRs T 0 (e.ks.map rE))])))), (.t 2, .v (.o (.c (.box 800 7 0 0)))), (.t 3, .v (.o (.c (.box 801 7 0 0)))), (.t 4, .v (.o (.c (.box 802 7 0 0)))), (.t 5, .v (.o (.c (.box 803 7 0 0)))), (.t 6, .v (.o (bo1 (decide (e.k = 6))))), (.t 100, .v (.o (bo1 ((decide (e.k = 4) && isN X 0 || decide (e.k = 6) && isN X 1))))), (.t 9999, .v (.gh O)), (.b 800, .b 40 7 [[.d (dI 0), .d (dI 0), .d (.val (.slice none 0 0)), .d (dI 0), .d (dS ByteArray.empty), .d (.val (.slice none 0 0)), .d (.val (.slice none 0 0))]]), (.u 800, .u), (.b 801, .b 40 7 (dR ([tagL (ρq5_0 4) 0 (rX X)]))), (.u 801, .u), (.b 802, .b 40 7 (dR ([tagL (ρq5_0 9) 0 (rX Y)]))), (.u 802, .u), (.b 804, .b 40 7 (dR (tagRs (nextF (nextF noF 0 (ρq5_0 4)) 1 (ρq5_0 9)) 0 ([X, Y].map rE)))), (.u 804, .u), (.b 803, .b 40 7 [[.d (dI e.k), .d (dI 0), .d (.val (.slice none 0 0)), .d (dI 0), .d (dS ByteArray.empty), .d (.val (.slice none 0 0)), .own 804 7 (([X, Y].map rE).length)]]), (.u 803, .u)] ?_ ?_
     ·skip
      refine .region <| .cons (.fP 0 0 false rfl rfl) <| .cons (.l1 1 rfl rfl) <| .cons (.eq rfl rfl rfl) <| .cons (.mv rfl rfl) ?_
      refine .cD 104 rfl (fun g104 => ?_) (fun g104 => ?_)
      ·skip
       refine .cons (.gT rfl rfl rfl (.bN 7 rfl rfl rfl rfl rfl rfl)) ?_
       refine AOps.wk (Wk.er 105 ((ρq5_0 4)) (rX X) rfl) ?_
       refine .cons (.gT rfl rfl rfl (.cP [.tmp 105, .const (.int .i64 (0))] rfl rfl rfl rfl (implIsNum_fn _ 0) rfl)) ?_
       refine .cons (.pT rfl rfl rfl) <| .cons (.mv rfl rfl) ?_
       refine AOps.cases 108 _ rfl (fun g108 => ?_) (fun g108 => ?_)
       ·try simp only [zs1, zs2, zs3, zs4, zs5, zs6, zs7] at g108
        refine .cons (.gF rfl rfl rfl) <| .cons (.gF rfl rfl rfl) <| .cons (.gU rfl rfl) <| .cons (.gU rfl rfl) <| .cons (.gF rfl rfl rfl) <| .cons (.pT rfl rfl rfl) <| .cons (.asg rfl rfl) <| .nil ?_
        exact kc_n (Wk.keep [(800, 980), (801, 981), (802, 982), (803, 983), (804, 984)] rfl rfl ⟨ks rfl .dt, ks rfl .dt, ks rfl (.c .bx), ks rfl (.c .bx), ks rfl (.c .bx), ks rfl (.c .bx), ks rfl .dt, ks rfl (.dt (vB (by first | rfl | (simp [*]; done) | grind))), ks rfl .dt, kb 980 rfl (.cons (.cons .dt (.cons .dt (.cons .dt (.cons .dt (.cons .dt (.cons .dt (.cons .dt Ctos.nil))))))) .nil), kb 981 rfl (.dt rfl), kb 982 rfl (.dt rfl), kb 984 rfl (.dt rfl (by first | rfl | (rw [tag_two]; rfl))), kb 983 rfl (.cons (.cons .dt (.cons .dt (.cons .dt (.cons .dt (.cons .dt (.cons .dt (.cons .ow Ctos.nil))))))) .nil), trivial⟩)
       ·try simp only [zs1, zs2, zs3, zs4, zs5, zs6, zs7] at g108
        refine .cons (.gT rfl rfl rfl (.mv rfl rfl)) <| .cons (.gT rfl rfl rfl (.mv rfl rfl)) ?_
        refine AOps.cases 110 _ rfl (fun g110 => ?_) (fun g110 => ?_)
        ·try simp only [zs1, zs2, zs3, zs4, zs5, zs6, zs7] at g110
         refine .cons (.gT rfl rfl rfl (.bN 7 rfl rfl rfl rfl rfl rfl)) ?_
         refine AOps.wk (Wk.er 111 ((ρq5_0 4)) (rX X) rfl) ?_
         refine .cons (.gT rfl rfl rfl (.cP [.tmp 111, .const (.int .i64 (1))] rfl rfl rfl rfl (implIsNum_fn _ 1) rfl)) ?_
         refine .cons (.gT rfl rfl rfl (.pT rfl rfl rfl)) <| .cons (.pF rfl rfl rfl) <| .cons (.asg rfl rfl) <| .nil ?_
         exact kc_n (Wk.keep [(800, 980), (801, 981), (802, 982), (803, 983), (804, 984)] rfl rfl ⟨ks rfl .dt, ks rfl .dt, ks rfl (.c .bx), ks rfl (.c .bx), ks rfl (.c .bx), ks rfl (.c .bx), ks rfl .dt, ks rfl (.dt (vB (by first | rfl | (simp [*]; done) | grind))), ks rfl .dt, kb 980 rfl (.cons (.cons .dt (.cons .dt (.cons .dt (.cons .dt (.cons .dt (.cons .dt (.cons .dt Ctos.nil))))))) .nil), kb 981 rfl (.dt rfl), kb 982 rfl (.dt rfl), kb 984 rfl (.dt rfl (by first | rfl | (rw [tag_two]; rfl))), kb 983 rfl (.cons (.cons .dt (.cons .dt (.cons .dt (.cons .dt (.cons .dt (.cons .dt (.cons .ow Ctos.nil))))))) .nil), trivial⟩)
        ·try simp only [zs1, zs2, zs3, zs4, zs5, zs6, zs7] at g110
         refine .cons (.gF rfl rfl rfl) <| .cons (.gF rfl rfl rfl) <| .cons (.gT rfl rfl rfl (.pF rfl rfl rfl)) <| .cons (.pF rfl rfl rfl) <| .cons (.asg rfl rfl) <| .nil ?_
         exact kc_n (Wk.keep [(800, 980), (801, 981), (802, 982), (803, 983), (804, 984)] rfl rfl ⟨ks rfl .dt, ks rfl .dt, ks rfl (.c .bx), ks rfl (.c .bx), ks rfl (.c .bx), ks rfl (.c .bx), ks rfl .dt, ks rfl (.dt (vB (by first | rfl | (simp [*]; done) | grind))), ks rfl .dt, kb 980 rfl (.cons (.cons .dt (.cons .dt (.cons .dt (.cons .dt (.cons .dt (.cons .dt (.cons .dt Ctos.nil))))))) .nil), kb 981 rfl (.dt rfl), kb 982 rfl (.dt rfl), kb 984 rfl (.dt rfl (by first | rfl | (rw [tag_two]; rfl))), kb 983 rfl (.cons (.cons .dt (.cons .dt (.cons .dt (.cons .dt (.cons .dt (.cons .dt (.cons .ow Ctos.nil))))))) .nil), trivial⟩)
      ·skip
       refine .cons (.gF rfl rfl rfl) <| .cons (.gF rfl rfl rfl) <| .cons (.pF rfl rfl rfl) <| .cons (.mv rfl rfl) <| .cons (.gT rfl rfl rfl (.mv rfl rfl)) <| .cons (.gT rfl rfl rfl (.mv rfl rfl)) ?_
       refine AOps.cases 110 _ rfl (fun g110 => ?_) (fun g110 => ?_)
       ·try simp only [zs1, zs2, zs3, zs4, zs5, zs6, zs7] at g110
        refine .cons (.gT rfl rfl rfl (.bN 7 rfl rfl rfl rfl rfl rfl)) ?_
        refine AOps.wk (Wk.er 111 ((ρq5_0 4)) (rX X) rfl) ?_
        refine .cons (.gT rfl rfl rfl (.cP [.tmp 111, .const (.int .i64 (1))] rfl rfl rfl rfl (implIsNum_fn _ 1) rfl)) ?_
        refine .cons (.gT rfl rfl rfl (.pT rfl rfl rfl)) <| .cons (.pF rfl rfl rfl) <| .cons (.asg rfl rfl) <| .nil ?_
        exact kc_n (Wk.keep [(800, 980), (801, 981), (802, 982), (803, 983), (804, 984)] rfl rfl ⟨ks rfl .dt, ks rfl .dt, ks rfl (.c .bx), ks rfl (.c .bx), ks rfl (.c .bx), ks rfl (.c .bx), ks rfl .dt, ks rfl (.dt (vB (by first | rfl | (simp [*]; done) | grind))), ks rfl .dt, kb 980 rfl (.cons (.cons .dt (.cons .dt (.cons .dt (.cons .dt (.cons .dt (.cons .dt (.cons .dt Ctos.nil))))))) .nil), kb 981 rfl (.dt rfl), kb 982 rfl (.dt rfl), kb 984 rfl (.dt rfl (by first | rfl | (rw [tag_two]; rfl))), kb 983 rfl (.cons (.cons .dt (.cons .dt (.cons .dt (.cons .dt (.cons .dt (.cons .dt (.cons .ow Ctos.nil))))))) .nil), trivial⟩)
       ·try simp only [zs1, zs2, zs3, zs4, zs5, zs6, zs7] at g110
        refine .cons (.gF rfl rfl rfl) <| .cons (.gF rfl rfl rfl) <| .cons (.gT rfl rfl rfl (.pF rfl rfl rfl)) <| .cons (.pF rfl rfl rfl) <| .cons (.asg rfl rfl) <| .nil ?_
        exact kc_n (Wk.keep [(800, 980), (801, 981), (802, 982), (803, 983), (804, 984)] rfl rfl ⟨ks rfl .dt, ks rfl .dt, ks rfl (.c .bx), ks rfl (.c .bx), ks rfl (.c .bx), ks rfl (.c .bx), ks rfl .dt, ks rfl (.dt (vB (by first | rfl | (simp [*]; done) | grind))), ks rfl .dt, kb 980 rfl (.cons (.cons .dt (.cons .dt (.cons .dt (.cons .dt (.cons .dt (.cons .dt (.cons .dt Ctos.nil))))))) .nil), kb 981 rfl (.dt rfl), kb 982 rfl (.dt rfl), kb 984 rfl (.dt rfl (by first | rfl | (rw [tag_two]; rfl))), kb 983 rfl (.cons (.cons .dt (.cons .dt (.cons .dt (.cons .dt (.cons .dt (.cons .dt (.cons .ow Ctos.nil))))))) .nil), trivial⟩)
     refine ks_n ?_
     refine ACode.condT rfl (fun h100 => ?_) (fun h100 => ?_)
     ·try simp only [zs1, zs2, zs3, zs4, zs5, zs6, zs7] at h100
      refine .seq <| .region <| .cons (.bN 7 rfl rfl rfl rfl rfl rfl) <| .cons (.sT 7 true rfl rfl rfl rfl rfl rfl rfl) <| .nil <| ks_n <| .ret <| kb_r <| ks_r ?_
      refine kt_ret ((ρq5_0 9)) rfl ?_ ?_ ?_
      ·rw [foldN_y h58 h85 h100]; rfl
      ·exact dR41
      ·exact hBS
     ·try simp only [zs1, zs2, zs3, zs4, zs5, zs6, zs7] at h100
      refine .seq ?_
      refine ACode.cut [(.t 0, .v (.o (ad [dI e.k, dI e.n, .tree (S 2) (dIs e.i.1), dI e.i.2, dS e.r.1, .tree (S 5) (dAs e.r.2), .list 7 (tagRs T 0 (e.ks.map rE))]))), (.t 1, .v (.o (.c (.ptr [dI e.k, dI e.n, .tree (S 2) (dIs e.i.1), dI e.i.2, dS e.r.1, .tree (S 5) (dAs e.r.2), .list 7 (tagRs T 0 (e.ks.map rE))])))), (.t 2, .v (.o (.c (.box 820 7 0 0)))), (.t 3, .v (.o (.c (.box 821 7 0 0)))), (.t 4, .v (.o (.c (.box 822 7 0 0)))), (.t 5, .v (.o (.c (.box 823 7 0 0)))), (.t 6, .v (.o (bo1 (decide (e.k = 6))))), (.t 116, .v (.o (bo1 ((decide (e.k = 6) && (isN X 0 || isN Y 0)))))), (.t 9999, .v (.gh O)), (.b 820, .b 40 7 [[.d (dI 0), .d (dI 0), .d (.val (.slice none 0 0)), .d (dI 0), .d (dS ByteArray.empty), .d (.val (.slice none 0 0)), .d (.val (.slice none 0 0))]]), (.u 820, .u), (.b 821, .b 40 7 (dR ([tagL (ρq5_0 4) 0 (rX X)]))), (.u 821, .u), (.b 822, .b 40 7 (dR ([tagL (ρq5_0 9) 0 (rX Y)]))), (.u 822, .u), (.b 824, .b 40 7 (dR (tagRs (nextF (nextF noF 0 (ρq5_0 4)) 1 (ρq5_0 9)) 0 ([X, Y].map rE)))), (.u 824, .u), (.b 823, .b 40 7 [[.d (dI e.k), .d (dI 0), .d (.val (.slice none 0 0)), .d (dI 0), .d (dS ByteArray.empty), .d (.val (.slice none 0 0)), .own 824 7 (([X, Y].map rE).length)]]), (.u 823, .u)] ?_ ?_
      ·skip
       refine .region <| .cons (.mv rfl rfl) <| .cons (.mv rfl rfl) ?_
       refine AOps.cases 118 _ rfl (fun g118 => ?_) (fun g118 => ?_)
       ·try simp only [zs1, zs2, zs3, zs4, zs5, zs6, zs7] at g118
        refine .cons (.gT rfl rfl rfl (.bN 7 rfl rfl rfl rfl rfl rfl)) ?_
        refine AOps.wk (Wk.er 119 ((ρq5_0 4)) (rX X) rfl) ?_
        refine .cons (.gT rfl rfl rfl (.cP [.tmp 119, .const (.int .i64 (0))] rfl rfl rfl rfl (implIsNum_fn _ 0) rfl)) ?_
        refine .cons (.gT rfl rfl rfl (.mv rfl rfl)) ?_
        refine AOps.cases 121 _ rfl (fun g121 => ?_) (fun g121 => ?_)
        ·try simp only [zs1, zs2, zs3, zs4, zs5, zs6, zs7] at g121
         refine .cons (.gF rfl rfl rfl) <| .cons (.gF rfl rfl rfl) <| .cons (.gT rfl rfl rfl (.pT rfl rfl rfl)) <| .cons (.pT rfl rfl rfl) <| .cons (.asg rfl rfl) <| .nil ?_
         exact kc_n (Wk.keep [(820, 800), (821, 801), (822, 802), (823, 803), (824, 804)] rfl rfl ⟨ks rfl .dt, ks rfl .dt, ks rfl (.c .bx), ks rfl (.c .bx), ks rfl (.c .bx), ks rfl (.c .bx), ks rfl .dt, ks rfl (.dt (vB (by first | rfl | (simp [*]; done) | grind))), ks rfl .dt, kb 800 rfl (.cons (.cons .dt (.cons .dt (.cons .dt (.cons .dt (.cons .dt (.cons .dt (.cons .dt Ctos.nil))))))) .nil), kb 801 rfl (.dt rfl), kb 802 rfl (.dt rfl), kb 804 rfl (.dt rfl (by first | rfl | (rw [tag_two]; rfl))), kb 803 rfl (.cons (.cons .dt (.cons .dt (.cons .dt (.cons .dt (.cons .dt (.cons .dt (.cons .ow Ctos.nil))))))) .nil), trivial⟩)
        ·try simp only [zs1, zs2, zs3, zs4, zs5, zs6, zs7] at g121
         refine .cons (.gT rfl rfl rfl (.bN 7 rfl rfl rfl rfl rfl rfl)) ?_
         refine AOps.wk (Wk.er 122 ((ρq5_0 9)) (rX Y) rfl) ?_
         refine .cons (.gT rfl rfl rfl (.cP [.tmp 122, .const (.int .i64 (0))] rfl rfl rfl rfl (implIsNum_fn _ 0) rfl)) ?_
         refine .cons (.gT rfl rfl rfl (.pF rfl rfl rfl)) <| .cons (.pT rfl rfl rfl) <| .cons (.asg rfl rfl) <| .nil ?_
         exact kc_n (Wk.keep [(820, 800), (821, 801), (822, 802), (823, 803), (824, 804)] rfl rfl ⟨ks rfl .dt, ks rfl .dt, ks rfl (.c .bx), ks rfl (.c .bx), ks rfl (.c .bx), ks rfl (.c .bx), ks rfl .dt, ks rfl (.dt (vB (by first | rfl | (simp [*]; done) | grind))), ks rfl .dt, kb 800 rfl (.cons (.cons .dt (.cons .dt (.cons .dt (.cons .dt (.cons .dt (.cons .dt (.cons .dt Ctos.nil))))))) .nil), kb 801 rfl (.dt rfl), kb 802 rfl (.dt rfl), kb 804 rfl (.dt rfl (by first | rfl | (rw [tag_two]; rfl))), kb 803 rfl (.cons (.cons .dt (.cons .dt (.cons .dt (.cons .dt (.cons .dt (.cons .dt (.cons .ow Ctos.nil))))))) .nil), trivial⟩)
       ·try simp only [zs1, zs2, zs3, zs4, zs5, zs6, zs7] at g118
        refine .cons (.gF rfl rfl rfl) <| .cons (.gF rfl rfl rfl) <| .cons (.gF rfl rfl rfl) <| .cons (.gU rfl rfl) <| .cons (.gU rfl rfl) <| .cons (.gF rfl rfl rfl) <| .cons (.pF rfl rfl rfl) <| .cons (.asg rfl rfl) <| .nil ?_
        exact kc_n (Wk.keep [(820, 800), (821, 801), (822, 802), (823, 803), (824, 804)] rfl rfl ⟨ks rfl .dt, ks rfl .dt, ks rfl (.c .bx), ks rfl (.c .bx), ks rfl (.c .bx), ks rfl (.c .bx), ks rfl .dt, ks rfl (.dt (vB (by first | rfl | (simp [*]; done) | grind))), ks rfl .dt, kb 800 rfl (.cons (.cons .dt (.cons .dt (.cons .dt (.cons .dt (.cons .dt (.cons .dt (.cons .dt Ctos.nil))))))) .nil), kb 801 rfl (.dt rfl), kb 802 rfl (.dt rfl), kb 804 rfl (.dt rfl (by first | rfl | (rw [tag_two]; rfl))), kb 803 rfl (.cons (.cons .dt (.cons .dt (.cons .dt (.cons .dt (.cons .dt (.cons .dt (.cons .ow Ctos.nil))))))) .nil), trivial⟩)
      refine ks_n ?_
      refine ACode.condT rfl (fun h116 => ?_) (fun h116 => ?_)
      ·try simp only [zs1, zs2, zs3, zs4, zs5, zs6, zs7] at h116
       refine .seq <| .region ?_
       refine AOps.cT [.const (.int .i64 (0))] rfl rfl rfl rfl (num_T 0) rfl rfl nosrc (fun R126 hR126 dR126 pR126 => ?_)
       refine .cons (.sT 7 true rfl rfl rfl rfl rfl rfl rfl) <| .nil <| ks_n <| .ret <| kb_r <| ks_r ?_
       refine kt_ret (R126) rfl ?_ ?_ ?_
       ·rw [foldN_z h58 h85 h100 h116]; rfl
       ·exact dR126
       ·exact fun j b h => .inr (new_of hR126 (gh_has rfl) j b h)
      ·try simp only [zs1, zs2, zs3, zs4, zs5, zs6, zs7] at h116
       refine .skip <| kb_n <| ks_n <| .seq ?_
       refine ACode.packB 823 0 6 824 (rows := [X, Y].map rE) (F := nextF (nextF noF 0 (ρq5_0 4)) 1 (ρq5_0 9)) rfl rfl rfl rfl rfl (plain_map plE) (hFD.pos rfl (fun i j h => isPos_L posE h)) (show 2 ≤ 17592186044416 by decide) (fun N hN => ?_)
       refine .region <| .cons (.bN 7 rfl rfl rfl rfl rfl rfl) <| .cons (.sT 7 true rfl rfl rfl rfl rfl rfl rfl) <| .nil <| ks_n <| .ret ?_
       refine kt_wret (nthS [none', none', none', none', none', none', N]) [(.t 2, .v (.o (.c (.box 100 7 0 0)))), (.b 100, .b 40 7 [[.d (dI e.k), .d (dI 0), (.d (.tree none' (dIs []))), .d (dI 0), .d (dS ByteArray.empty), (.d (.tree none' (dAs []))), .d (.tree N (dEs [X, Y]))]]), (.u 100, .u)] (Wk.keep [(100, 820)] rfl rfl ⟨ks rfl (.c .bx), kb 820 rfl (.cons (.cons .dt (.cons .dt (.cons (Cto.nilTE 1 rfl) (.cons .dt (.cons .dt (.cons (Cto.nilTE 2 rfl) (.cons .dt Ctos.nil))))))) .nil), trivial⟩) rfl ?_ ?_ ?_
       ·rw [foldN_e h58 h85 h100 h116]; rfl
       ·exact nthS_dis (by first | (simp only [List.pairwise_cons, List.forall_mem_cons, List.not_mem_nil, false_implies, implies_true, and_true, List.Pairwise.nil]; done) | (simp only [List.pairwise_cons, List.forall_mem_cons, List.not_mem_nil, false_implies, implies_true, and_true, List.Pairwise.nil]; simp [none']; done))
       ·exact nthS_all (by simp only [List.forall_mem_cons, List.not_mem_nil, false_implies, implies_true, and_true]; exact ⟨(fun b h => h.elim), (fun b h => h.elim), (fun b h => h.elim), (fun b h => h.elim), (fun b h => h.elim), (fun b h => h.elim), (fun b h => fold_out hAS hBS hN (gh_has rfl) b h)⟩)
theorem fold_T {d : Nat} : ∀ {L : Nat} (e : Ex), exV d L e = true → ∀ S : Nat → Nat → Prop, (∀ i j b, S i b → S j b → i = j) → (∀ j b, S j b → colX j) → FnT Try.prog 76 [ad (tagL S 0 (rX e))] (un S) (.str (rX (foldE e)))
  | 0, e, h => by cases h
  | L + 1, e, h => fun S hS hX => by
    by_cases hk : 4 ≤ e.k ∧ e.k ≤ 6
    · obtain ⟨x, y, hks⟩ := op_two h hk
      have hx := (exV_kids h).2 x (by rw [hks]; simp)
      have hy := (exV_kids h).2 y (by rw [hks]; simp)
      rw [foldE_op hk hks]
      have b1 := exV_n (fold_ok hx)
      have b2 := exV_n (fold_ok hy)
      exact fold_opT hS hX hk hks (fold_T (L := L) x hx) (fold_T (L := L) y hy) (by omega) (by omega)
    · rw [foldE_leaf hk]; exact fold_leafT hS hX hk
theorem colS_X {s : Stm} {j : Nat} (h : ∃ m rs, (rS s)[j + 2]? = some (.list m rs)) : colX j := by
  obtain ⟨m, rs, h⟩ := h
  have := posS s (j + 2) m rs h
  simp only [colS, colX] at this ⊢
  omega
theorem folded_dis {R R' : Nat → Nat → Prop} {σ : St} (hd : ∀ i j b, R i b → R j b → i = j) (h' : ∀ j b, R' j b → un (fun j => R (j + 2)) b ∨ ∀ S, Has σ S → ¬ S b) (hh : Has σ (R 1)) : ∀ j b, R 1 b → ¬ R' j b := fun j b h1 h2 => by
  rcases h' j b h2 with ⟨q, hq⟩ | h
  · have := hd _ _ b h1 hq; omega
  · exact h _ hh h1

theorem folded_T {s : Stm} (hs : szS s ≤ 1073741824) (hv : stmtV 4 s = true) : FnT Try.prog 44 [ad (rS s)] (none') (.str (rS (foldS s))) := by
  have hid := mapS_id hv
  refine FnT.of_code Try.func44 rfl rfl rfl (fun O => ?_)
  refine .seq <| .region <| .cons (St1.boxP rfl rfl rfl rfl rfl rfl) <| .cons (.al 102 [.string ByteArray.empty, .slice none 0 0, .int .i64 0, .int .i64 0, .slice none 0 0, .int .i64 0, .string ByteArray.empty, .slice none 0 0, .slice none 0 0] rfl rfl rfl) <| .nil <| ks_n <| .seq <| .region <| .cons (.lN 9 rfl rfl rfl) ?_
  refine AOps.cT [.tmp 4] rfl rfl rfl rfl (hid ▸ ownStmt_T s hs) rfl rfl nosrc (fun R5 hR5 dR5 pR5 => ?_)
  refine .cons (.al 103 [.string ByteArray.empty, .slice none 0 0, .int .i64 0, .int .i64 0, .slice none 0 0, .int .i64 0, .string ByteArray.empty, .slice none 0 0, .slice none 0 0] rfl rfl rfl) <| .cons (.sT 9 true rfl rfl rfl rfl rfl rfl rfl) <| .nil <| ks_n <| .seq <| .region <| .cons (.fB 2 6 true rfl rfl rfl) <| .cons (.bN 7 rfl rfl rfl rfl rfl rfl) ?_
  refine AOps.cT [.tmp 7] rfl rfl rfl rfl (fold_T (d := 4) (L := 5) s.2 (stmtV_ex hv).1 (fun j => R5 (j + 2)) (fun i j b h1 h2 => by have := dR5 _ _ b h1 h2; omega) (fun j b h => colS_X (pR5 (j + 2) b h))) rfl rfl (unS 7 rfl (fun j b h => colX_list (colS_X (pR5 (j + 2) b h)))) (fun R8 hR8 dR8 pR8 => ?_)
  have hRX := folded_dis dR5 hR8 (.box 103 rfl (i := 0) (j := 1) rfl rfl (.d (.tree _)))
  refine .cons (.fB 2 6 true rfl rfl rfl) <| .cons (.sT 7 true rfl rfl rfl rfl rfl rfl rfl) <| .nil <| ks_n <| .seq <| .region <| .cons (.bN 9 rfl rfl rfl rfl rfl rfl) <| .cons (.sT 9 true rfl rfl rfl rfl rfl rfl rfl) <| .nil <| ks_n <| .ret ?_
  refine kt_ret (shR (R5 1) R8) rfl ?_ ?_ ?_
  · rfl
  · exact shR_dis dR8 hRX
  · exact shR_all (fun b h => .inr (new_of hR5 (gh_has rfl) 1 b h)) (fun j b h => (hR8 j b h).elim (fun ⟨q, hq⟩ => .inr (new_of hR5 (gh_has rfl) (q + 2) b hq)) (fun h => .inr (h O (gh_has rfl))))

theorem FoldStmt_T (s : Stm) (hs : szS s ≤ 1073741824) : FnT Try.prog 16 [ad (rS s)] (none') (.strB (rS (foldT s).1) (foldT s).2) := by
 refine FnT.of_code Try.func16 rfl rfl rfl (fun O => ?_)
 refine .seq <| .region <| .cons (St1.boxP rfl rfl rfl rfl rfl rfl) <| .cons (.al 102 [.string ByteArray.empty, .slice none 0 0, .int .i64 0, .int .i64 0, .slice none 0 0, .int .i64 0, .string ByteArray.empty, .slice none 0 0, .slice none 0 0] rfl rfl rfl) <| .cons (.asg rfl rfl) <| .nil <| ks_n <| .seq <| .seq <| .region <| .cons (.lN 9 rfl rfl rfl) <| .cons (.cP [.tmp 4] rfl rfl rfl rfl (isStmt_fn s (by omega)) rfl) ?_
 refine .cons (.nt rfl rfl) <| .nil <| ks_n ?_
 refine ACode.condT rfl (fun h6 => ?_) (fun h6 => ?_)
 ·try simp only [zs1, zs2, zs3, zs4, zs5, zs6, zs7] at h6
  refine .seq <| .region <| .cons (.bu [] [(0, 2), (2, 7)] [.string ByteArray.empty, .slice none 0 0, .int .i64 0, .int .i64 0, .slice none 0 0, .int .i64 0, .string ByteArray.empty, .slice none 0 0, .slice none 0 0] rfl rfl rfl rfl rfl) <| .cons (.sT 9 true rfl rfl rfl rfl rfl rfl rfl) <| .cons (.asg rfl rfl) <| .nil <| ks_n <| .ret <| ks_r ?_
  refine kt_wret (nthS [none', none', none', none', none', none', none', none', none']) [(.t 2, .v (.o (.c (.box 100 9 0 0)))), (.t 3, .v (.o (bo1 false))), (.b 100, .b 42 9 [[.d (dS ByteArray.empty), (.d (.tree none' (dAs []))), .d (dI 0), .d (dI 0), (.d (.tree none' (dIs []))), .d (dI 0), .d (dS ByteArray.empty), (.d (.tree none' (dAs []))), (.d (.tree none' (dEs [])))]]), (.u 100, .u)] (Wk.keep [(100, 102)] rfl rfl ⟨ks rfl (.c .bx), ks rfl .dt, kb 102 rfl (.cons (.cons .dt (.cons (Cto.nilTE 2 rfl) (.cons .dt (.cons .dt (.cons (Cto.nilTE 1 rfl) (.cons .dt (.cons .dt (.cons (Cto.nilTE 2 rfl) (.cons (Cto.nilTE 7 rfl) Ctos.nil))))))))) .nil), trivial⟩) rfl ?_ ?_ ?_
  ·rw [foldT_no h6]; rfl
  ·exact nthS_dis (by first | (simp only [List.pairwise_cons, List.forall_mem_cons, List.not_mem_nil, false_implies, implies_true, and_true, List.Pairwise.nil]; done) | (simp only [List.pairwise_cons, List.forall_mem_cons, List.not_mem_nil, false_implies, implies_true, and_true, List.Pairwise.nil]; simp [none']; done))
  ·exact nthS_all (by simp only [List.forall_mem_cons, List.not_mem_nil, false_implies, implies_true, and_true]; exact ⟨(fun b h => h.elim), (fun b h => h.elim), (fun b h => h.elim), (fun b h => h.elim), (fun b h => h.elim), (fun b h => h.elim), (fun b h => h.elim), (fun b h => h.elim), (fun b h => h.elim)⟩)
 ·try simp only [zs1, zs2, zs3, zs4, zs5, zs6, zs7] at h6
  refine .skip <| ks_n <| .seq <| .region <| .cons (.lN 9 rfl rfl rfl) ?_
  refine AOps.cT [.tmp 8] rfl rfl rfl rfl (folded_T hs h6) rfl rfl nosrc (fun R9 hR9 dR9 pR9 => ?_)
  refine .cons (.sT 9 true rfl rfl rfl rfl rfl rfl rfl) <| .cons (.asg rfl rfl) <| .nil <| ks_n <| .ret ?_
  refine kt_ret (R9) rfl ?_ ?_ ?_
  ·rw [foldT_yes h6]; rfl
  ·exact dR9
  ·exact fun j b h => .inr (new_of hR9 (gh_has rfl) j b h)






theorem fold_sz {d L : Nat} {e : Ex} (h : exV d L e = true) : szE (foldE e) ≤ szE e := by
  refine fold_ind (d := d) (p := fun L e X => szE X ≤ szE e) (fun L n e _ _ _ => ?_) (fun L e _ _ _ => Nat.le_refl _) (fun L e x y X _ _ hks h => ?_) (fun L e x y Y _ _ hks h => ?_) (fun L e x y _ hk hks h1 h2 _ => ?_) h
  · have : szE (numE n) = 0 := by simp [numE, szE, szC, szAs, szEs]
    rw [this]; exact Nat.zero_le _
  · rw [szE_eq e, hks, szEs, szEs, szEs]; omega
  · rw [szE_eq e, hks, szEs, szEs, szEs]; omega
  · have h3 : szE (outE e.k (foldE x) (foldE y)) = 2 + (szE (foldE x) + (szE (foldE y) + 0)) := by
      rw [outE, szE, szEs, szEs, szEs]; simp [szC, szAs]
    rw [h3, szE_eq e, hks, szEs, szEs, szEs]; simp; omega
theorem foldS_sz {s : Stm} (h : stmtV 4 s = true) : szS (foldS s) ≤ szS s := by
  have := fold_sz (stmtV_ex h).1
  show szC s.1 + szE (foldE s.2) ≤ szC s.1 + szE s.2; omega
theorem foldT_sz {s : Stm} {m : Nat} (h : szS s ≤ m) : szS (foldT s).1 ≤ m := by
  rw [foldT]
  split
  · next hv => exact Nat.le_trans (foldS_sz hv) h
  · exact Nat.zero_le _
end Go.Proofs.Ytollooimmfngjaa
