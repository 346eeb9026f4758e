/- Part 3 of 5 of the proof: laws on memory and data, then what the functions compute, in the order in which they build on each other; conditions: those that each theorem names. -/
import Derived.SizedLaws
import Derived.Lib.Bytealg
import Derived.Lib.SlicesS
import Derived.Laws.MakeOwn
import Derived.Test.YtollooimmfngjaaP2
set_option maxRecDepth 100000
set_option maxHeartbeats 1600000

namespace Go.Proofs.Ytollooimmfngjaa
set_option linter.unusedVariables false
set_option linter.unusedSimpArgs false
open Go.ChangeShapes Go.WideShapes Go.ChangeAt Go.RowKit
/-- Cells stand for data, one by one; all that they lead to is old. -/
def Rs (w : World) (ds : List D) (cs : List Value) : Prop := cs.length = ds.length ∧ ∀ (i : Nat) d v, ds[i]? = some d → cs[i]? = some v → Dr (fun b => b < w.heap.size) w d v
theorem Rs.app {w : World} {a b : List D} {c e : List Value} (h : Rs w a c) (h2 : Rs w b e) : Rs w (a ++ b) (c ++ e) := by
  refine ⟨by rw [List.length_append, List.length_append, h.1, h2.1], fun i d v hd hv => ?_⟩
  rw [List.getElem?_append] at hd hv
  rw [h.1] at hv
  split at hd
  · rename_i hi; rw [if_pos hi] at hv; exact h.2 i d v hd hv
  · rename_i hi; rw [if_neg hi] at hv; exact h2.2 _ d v hd hv
theorem Rs.one {w : World} {d : D} {v : Value} (h : Dr (fun b => b < w.heap.size) w d v) : Rs w [d] [v] := by
  refine ⟨rfl, fun i d' v' hd hv => ?_⟩
  match i, hd, hv with
  | 0, hd, hv => cases hd; cases hv; exact h
section
variable {H : Type} (enc : TypeId × Value → H) (P : Program) (w : World) (spare : Nat → Bool) (held : Bool)
/-- Whatever reads at the type t (with so much fuel) stands for some a. -/
def OpF (n : Nat) (t : TypeId) {α : Type} (f : α → List D) (ok : α → Prop) : Prop :=
  ∀ fuel, fuel ≤ n → ∀ (cs : List Value) (x : DataW H × List MemPlace), DataW.trod enc P w 0 spare held fuel t cs = some x → (∀ m ∈ x.1.weights P t, m ≤ reachBytes) → ∃ a, ok a ∧ Rs w (f a) cs
end
section
variable {H : Type} {enc : TypeId × Value → H} {P : Program} {w : World} {spare : Nat → Bool} {held : Bool} {n : Nat} {t e : TypeId}
theorem opInt (ht : P.underlying t = some (.int .i64)) : OpF enc P w spare held n t rI (fun m => (Lit.int .i64 m).wf = true) := fun fuel _ cs x h _ => by
  obtain ⟨m, rfl, _, hw⟩ := DataW.trod_int ht h
  exact ⟨m, hw, .one (.val _ rfl)⟩
theorem opStr (ht : P.underlying t = some .string) : OpF enc P w spare held n t (fun s : ByteArray => [D.val (.string s)]) (fun s => s.size ≤ 140737488351232) := fun fuel _ cs x h hw => by
  obtain ⟨s, rfl, rfl, _⟩ := DataW.trod_string ht h
  refine ⟨s, ?_, .one (.val _ rfl)⟩
  have := hw s.data.toList.length (by simp [DataW.weights])
  show s.size ≤ _
  rw [show s.size = s.data.toList.length from (Array.length_toList (xs := s.data)).symm]; exact this
theorem opSlice {α : Type} {f : α → List D} {ok : α → Prop} (sz by' : Nat) (ht : P.underlying t = some (.slice e)) (hc : P.cellsOf e = sz) (hb : P.bytesOf e = by') (h8 : (Nat.ble 8 by' && Nat.ble 1 sz) = true) (he : OpF enc P w spare held n e f ok) :
    OpF enc P w spare held (n + 1) t (fun l : List α => [D.list sz (l.map f)]) (fun l => l.length ≤ 17592186044416 ∧ ∀ a ∈ l, ok a) := fun fuel hfu cs x h hw => by
  rw [Bool.and_eq_true] at h8
  have hsz := Nat.le_of_ble_eq_true h8.2
  have h8' := Nat.le_of_ble_eq_true h8.1
  have hz0 : ∀ b : Addr, b.add 0 = b := fun b => if_pos rfl
  rcases DataW.trod_slice ht h with ⟨rfl, rfl⟩ | ⟨a, len, cap, elems, rest, n0, hf0, rfl, rfl, _, hl, _, hlen, hel, _, _⟩
  · exact ⟨[], ⟨Nat.zero_le _, fun a h => by cases h⟩, .one (Dr.list sz [] none 0 0 0 0 (fun _ _ => undef) rfl (Nat.le_refl _) (by omega) (fun _ => rfl) (fun h => by simp at h) (fun i r h => by simp at h) (fun i r j x h => by simp at h) (fun i r j x h => by simp at h))⟩
  · have hwt : (elems.length + rest.length) * by' ≤ reachBytes := by
      have := hw ((elems.length + rest.length) * P.bytesOf e) (by simp [DataW.weights, ht])
      rwa [hb] at this
    have hlen2 : len ≤ 17592186044416 := by
      have h1 : (elems.length + rest.length) * 8 ≤ (elems.length + rest.length) * by' := Nat.mul_le_mul_left _ h8'
      have h2 : reachBytes = 140737488351232 := rfl
      omega
    have hin : ∀ y ∈ elems, ∀ m ∈ y.1.weights P e, m ≤ reachBytes := fun y hy m hm => by
      refine hw m ?_
      have key : ∀ (l : List (DataW H × List MemPlace)), y ∈ l → m ∈ DataW.weightsAll P e (l.map (·.1)) := by
        intro l
        induction l with
        | nil => intro h; cases h
        | cons z l ih =>
          intro h
          rw [List.map_cons, DataW.weightsAll, List.mem_append]
          rcases List.mem_cons.1 h with rfl | h
          · exact .inl hm
          · exact .inr (ih h)
      simp only [DataW.weights, ht, List.mem_cons, List.mem_append]
      exact .inr (.inl (key elems hy))
    have hex : ∀ i : Fin len, ∃ (a0 : α) (ci : List Value), ok a0 ∧ w.cells? 0 (a.add (i.1 * sz)) sz = some ci ∧ Rs w (f a0) ci := fun i => by
      have h1 := hel i.1 i.2
      rw [hc] at h1
      obtain ⟨y, hy⟩ : ∃ y, elems[i.1]? = some y := ⟨_, List.getElem?_eq_getElem (by omega)⟩
      rw [hy, Option.bind_eq_some_iff] at h1
      obtain ⟨ci, h2, h3⟩ := h1
      obtain ⟨a0, h4, h5⟩ := he n0 (by omega) ci y h3 (hin y (List.mem_of_getElem? hy))
      exact ⟨a0, ci, h4, h2, h5⟩
    let g : Fin len → α := fun i => (hex i).choose
    let c : Fin len → List Value := fun i => (hex i).choose_spec.choose
    have hg : ∀ i : Fin len, ok (g i) ∧ w.cells? 0 (a.add (i.1 * sz)) sz = some (c i) ∧ Rs w (f (g i)) (c i) := fun i => (hex i).choose_spec.choose_spec
    have hget : ∀ (i : Nat) r, ((List.ofFn g).map f)[i]? = some r → ∃ hi : i < len, r = f (g ⟨i, hi⟩) := fun i r hr => by
      rw [List.getElem?_map, List.getElem?_ofFn] at hr
      split at hr
      · rename_i hi; exact ⟨hi, (Option.some.inj hr).symm⟩
      · cases hr
    have hcell : ∀ (i : Nat) (hi : i < len) (j : Nat) u, (c ⟨i, hi⟩)[j]? = some u → a.spot = none ∧ w.cell? ⟨a.block, a.off + (i * sz + j), none⟩ = some u := fun i hi j u hu => by
      obtain ⟨_, h2, _⟩ := hg ⟨i, hi⟩
      obtain ⟨_, h3, h4⟩ := World.cells?_some h2
      have hj : j < sz := by rw [← h3]; exact (List.getElem?_eq_some_iff.1 hu).1
      have h5 := h4 j hj
      rw [hu] at h5
      have hs : a.spot = none := by
        have h0 := (World.cells?_some (hg ⟨0, by omega⟩).2.1).2.2 0 (by omega)
        rw [Nat.zero_mul, hz0] at h0
        obtain ⟨u0, hu0⟩ : ∃ u0, (c ⟨0, by omega⟩)[0]? = some u0 := ⟨_, List.getElem?_eq_getElem (i := 0) (by rw [(World.cells?_some (hg ⟨0, by omega⟩).2.1).2.1]; omega)⟩
        rw [hz0, hu0] at h0
        exact World.cell?_spot h0
      refine ⟨hs, ?_⟩
      obtain ⟨b, o, s⟩ := a
      simp only at hs
      subst hs
      rw [Addr.add_lit, Addr.add_lit, Nat.add_assoc] at h5
      exact h5
    refine ⟨List.ofFn g, ⟨by rw [List.length_ofFn]; exact hlen2, fun y hy => ?_⟩, .one ?_⟩
    · obtain ⟨i, rfl⟩ := (List.mem_ofFn (f := g)).1 hy
      exact (hg i).1
    · refine Dr.list sz _ (some a) len cap a.block a.off (fun i j => if hi : i < len then (c ⟨i, hi⟩).getD j undef else undef) (by rw [List.length_map, List.length_ofFn]) hl hlen2 (fun h => by cases h) (fun h0 => ?_) (fun i r hr => ?_) (fun i r j y hr hj => ?_) (fun i r j y hr hj => ?_)
      · obtain ⟨u0, hu0⟩ : ∃ u0, (c ⟨0, h0⟩)[0]? = some u0 := ⟨_, List.getElem?_eq_getElem (i := 0) (by rw [(World.cells?_some (hg ⟨0, h0⟩).2.1).2.1]; omega)⟩
        have := (hcell 0 h0 0 u0 hu0).1
        obtain ⟨b, o, s⟩ := a
        simp only at this
        subst this; rfl
      · obtain ⟨hi, rfl⟩ := hget i r hr
        rw [← (hg ⟨i, hi⟩).2.2.1, (World.cells?_some (hg ⟨i, hi⟩).2.1).2.1]
      all_goals
        obtain ⟨hi, rfl⟩ := hget i r hr
        have hjl : j < (c ⟨i, hi⟩).length := by rw [(hg ⟨i, hi⟩).2.2.1]; exact (List.getElem?_eq_some_iff.1 hj).1
        have hu : (c ⟨i, hi⟩)[j]? = some ((c ⟨i, hi⟩).getD j undef) := by rw [List.getD_eq_getElem?_getD, List.getElem?_eq_getElem hjl]; rfl
        simp only [dif_pos hi]
      · have := (hcell i hi j _ hu).2
        exact ⟨World.block_lt_of_cell? w ⟨a.block, a.off + (i * sz + j), none⟩ this, this⟩
      · exact (hg ⟨i, hi⟩).2.2.2 j y _ hj hu
theorem opStruct2 {α β : Type} {f : α → List D} {g : β → List D} {oa : α → Prop} {ob : β → Prop} {f0 f1 : Field} (ht : P.underlying t = some (.struct #[f0, f1])) (h0 : (f0.offset, f1.offset, P.cellsOf t) = (0, P.cellsOf f0.type, P.cellsOf f0.type + P.cellsOf f1.type))
    (ha : OpF enc P w spare held n f0.type f oa) (hb : OpF enc P w spare held n f1.type g ob) : OpF enc P w spare held n t (fun x : α × β => f x.1 ++ g x.2) (fun x => oa x.1 ∧ ob x.2) := fun fuel hfu cs x h hw => by
  simp only [Prod.mk.injEq] at h0
  obtain ⟨e0, e1, e2⟩ := h0
  obtain ⟨xs, m, hm, rfl, hl, hlen, hf⟩ := DataW.trod_struct ht h
  match xs, hlen with
  | [y0, y1], _ =>
    have t0 := hf 0 f0 rfl
    have t1 := hf 1 f1 rfl
    rw [e0, List.drop_zero] at t0
    rw [e1, List.take_of_length_le (by rw [List.length_drop]; omega)] at t1
    have hwt : ∀ m, m ∈ y0.1.weights P f0.type ++ y1.1.weights P f1.type → m ≤ reachBytes := fun m hm => hw m (by simpa [DataW.weights, ht, DataW.weightsEach] using hm)
    obtain ⟨a, a1, a2⟩ := ha m (by omega) _ _ t0 fun m hm => hwt m (List.mem_append_left _ hm)
    obtain ⟨b, b1, b2⟩ := hb m (by omega) _ _ t1 fun m hm => hwt m (List.mem_append_right _ hm)
    exact ⟨(a, b), ⟨a1, b1⟩, by rw [← List.take_append_drop (P.cellsOf f0.type) cs]; exact a2.app b2⟩
theorem opStruct5 {α β γ δ ε : Type} {f : α → List D} {g : β → List D} {i : γ → List D} {j : δ → List D} {k : ε → List D} {oa : α → Prop} {ob : β → Prop} {oc : γ → Prop} {od : δ → Prop} {oe : ε → Prop} {f0 f1 f2 f3 f4 : Field} (ht : P.underlying t = some (.struct #[f0, f1, f2, f3, f4])) (n0 n1 n2 n3 n4 : Nat)
    (h0 : (f0.offset, f1.offset, f2.offset, f3.offset, f4.offset, P.cellsOf t) = (0, n0, n0 + n1, n0 + n1 + n2, n0 + n1 + n2 + n3, n0 + n1 + n2 + n3 + n4)) (hn : (P.cellsOf f0.type, P.cellsOf f1.type, P.cellsOf f2.type, P.cellsOf f3.type, P.cellsOf f4.type) = (n0, n1, n2, n3, n4))
    (ha : OpF enc P w spare held n f0.type f oa) (hb : OpF enc P w spare held n f1.type g ob) (hc : OpF enc P w spare held n f2.type i oc) (hd : OpF enc P w spare held n f3.type j od) (he : OpF enc P w spare held n f4.type k oe) :
    ∀ fuel, fuel ≤ n + 1 → ∀ (cs : List Value) (x : DataW H × List MemPlace), DataW.trod enc P w 0 spare held fuel t cs = some x → (∀ m ∈ x.1.weights P t, m ≤ reachBytes) → ∃ a b c d e, (oa a ∧ ob b ∧ oc c ∧ od d ∧ oe e) ∧ Rs w (f a ++ (g b ++ (i c ++ (j d ++ k e)))) cs := fun fuel hfu cs x h hw => by
  simp only [Prod.mk.injEq] at h0 hn
  obtain ⟨e0, e1, e2, e3, e4, e5⟩ := h0
  obtain ⟨q0, q1, q2, q3, q4⟩ := hn
  obtain ⟨xs, m, hm, rfl, hl, hlen, hf⟩ := DataW.trod_struct ht h
  match xs, hlen with
  | [y0, y1, y2, y3, y4], _ =>
    have t0 := hf 0 f0 rfl
    have t1 := hf 1 f1 rfl
    have t2 := hf 2 f2 rfl
    have t3 := hf 3 f3 rfl
    have t4 := hf 4 f4 rfl
    rw [e0, List.drop_zero, q0] at t0
    rw [e1, q1] at t1
    rw [e2, q2] at t2
    rw [e3, q3] at t3
    rw [e4, q4, List.take_of_length_le (by rw [List.length_drop]; omega)] at t4
    have hwt : ∀ m, m ∈ y0.1.weights P f0.type ++ (y1.1.weights P f1.type ++ (y2.1.weights P f2.type ++ (y3.1.weights P f3.type ++ y4.1.weights P f4.type))) → m ≤ reachBytes := fun m hm => hw m (by simpa [DataW.weights, ht, DataW.weightsEach] using hm)
    simp only [List.mem_append] at hwt
    obtain ⟨a, a1, a2⟩ := ha m (by omega) _ _ t0 fun m hm => hwt m (by simp [hm])
    obtain ⟨b, b1, b2⟩ := hb m (by omega) _ _ t1 fun m hm => hwt m (by simp [hm])
    obtain ⟨c, c1, c2⟩ := hc m (by omega) _ _ t2 fun m hm => hwt m (by simp [hm])
    obtain ⟨d, d1, d2⟩ := hd m (by omega) _ _ t3 fun m hm => hwt m (by simp [hm])
    obtain ⟨e, g1, g2⟩ := he m (by omega) _ _ t4 fun m hm => hwt m (by simp [hm])
    refine ⟨a, b, c, d, e, ⟨a1, b1, c1, d1, g1⟩, ?_⟩
    have ecs : cs = cs.take n0 ++ ((cs.drop n0).take n1 ++ ((cs.drop (n0 + n1)).take n2 ++ ((cs.drop (n0 + n1 + n2)).take n3 ++ cs.drop (n0 + n1 + n2 + n3)))) := by
      rw [show cs.drop (n0 + n1 + n2 + n3) = (cs.drop (n0 + n1 + n2)).drop n3 by rw [List.drop_drop], List.take_append_drop, show cs.drop (n0 + n1 + n2) = (cs.drop (n0 + n1)).drop n2 by rw [List.drop_drop], List.take_append_drop, show cs.drop (n0 + n1) = (cs.drop n0).drop n1 by rw [List.drop_drop], List.take_append_drop, List.take_append_drop]
    rw [ecs]
    exact a2.app (b2.app (c2.app (d2.app g2)))
theorem OpF.mono {α : Type} {f : α → List D} {ok ok' : α → Prop} {m : Nat} (h : OpF enc P w spare held n t f ok) (hm : m ≤ n) (hok : ∀ a, ok a → ok' a) : OpF enc P w spare held m t f ok' := fun fuel hf cs x hx hw => by
  obtain ⟨a, h1, h2⟩ := h fuel (by omega) cs x hx hw
  exact ⟨a, hok a h1, h2⟩
end
end Go.Proofs.Ytollooimmfngjaa
namespace Go.Proofs.Ytollooimmfngjaa
set_option linter.unusedVariables false
set_option linter.unusedSimpArgs false
open Go.RowKit
section
variable {P : Program} {n : Nat} {ops : Array Oper} {o : Oper} {σ : St} {d : Nat} {t t2 : TypeId} {x y : Operand} {a b : ByteArray}
def sEq (a b : ByteArray) : Bool := a.toList == b.toList
def sLt (a b : ByteArray) : Bool := Op.bytesLess a.toList b.toList
theorem St1.eqS (h4 : (o.op, o.guard, o.dst, Nat.blt d n) = (Op.binOp .eql t x y t2, none, some d, true)) (hx : ev σ x = some (.o (st1 a))) (hy : ev σ y = some (.o (st1 b))) :
    St1 P n ops o σ (rd x ++ rd y) [.t d] ((.t d, .v (.o (bo1 (sEq a b)))) :: σ) := by
  simp only [Prod.mk.injEq] at h4
  exact St1.bin h4.1 h4.2.1 h4.2.2.1 h4.2.2.2 hx hy (fun w => by simp [eqGuard, binOp, Op.stringOp, sEq]) rfl
theorem St1.neS (h4 : (o.op, o.guard, o.dst, Nat.blt d n) = (Op.binOp .neq t x y t2, none, some d, true)) (hx : ev σ x = some (.o (st1 a))) (hy : ev σ y = some (.o (st1 b))) :
    St1 P n ops o σ (rd x ++ rd y) [.t d] ((.t d, .v (.o (bo1 (!sEq a b)))) :: σ) := by
  simp only [Prod.mk.injEq] at h4
  exact St1.bin h4.1 h4.2.1 h4.2.2.1 h4.2.2.2 hx hy (fun w => by simp [eqGuard, binOp, Op.stringOp, sEq]) rfl
theorem St1.geS (h4 : (o.op, o.guard, o.dst, Nat.blt d n) = (Op.binOp .geq t x y t2, none, some d, true)) (hx : ev σ x = some (.o (st1 a))) (hy : ev σ y = some (.o (st1 b))) :
    St1 P n ops o σ (rd x ++ rd y) [.t d] ((.t d, .v (.o (bo1 (!sLt a b)))) :: σ) := by
  simp only [Prod.mk.injEq] at h4
  exact St1.bin h4.1 h4.2.1 h4.2.2.1 h4.2.2.2 hx hy (fun w => by simp [eqGuard, binOp, Op.stringOp, sLt]) rfl
theorem St1.leS (h4 : (o.op, o.guard, o.dst, Nat.blt d n) = (Op.binOp .leq t x y t2, none, some d, true)) (hx : ev σ x = some (.o (st1 a))) (hy : ev σ y = some (.o (st1 b))) :
    St1 P n ops o σ (rd x ++ rd y) [.t d] ((.t d, .v (.o (bo1 (sLt a b || sEq a b)))) :: σ) := by
  simp only [Prod.mk.injEq] at h4
  exact St1.bin h4.1 h4.2.1 h4.2.2.1 h4.2.2.2 hx hy (fun w => by simp [eqGuard, binOp, Op.stringOp, sEq, sLt]) rfl
end
theorem sEq_iff {a b : ByteArray} : sEq a b = true ↔ a = b := Lib.bytes_beq_iff a b
/-! ### Statements -/
def dS (s : ByteArray) : D := .val (.string s)
abbrev Acc := ByteArray × List Aff
def rC (a : Acc) : List D := [dS a.1, dAs a.2]
inductive Ex where
  | mk (k n : Int) (i : Aff) (r : Acc) (ks : List Ex)
namespace Ex
def k : Ex → Int | .mk k _ _ _ _ => k
def n : Ex → Int | .mk _ n _ _ _ => n
def i : Ex → Aff | .mk _ _ i _ _ => i
def r : Ex → Acc | .mk _ _ _ r _ => r
def ks : Ex → List Ex | .mk _ _ _ _ ks => ks
end Ex
theorem Ex.eta (e : Ex) : Ex.mk e.k e.n e.i e.r e.ks = e := by cases e; rfl
mutual
/-- The cells of a node. -/
def rE : Ex → List D
  | .mk k n i r ks => [dI k, dI n, dIs i.1, dI i.2, dS r.1, dAs r.2, .list 7 (rEs ks)]
def rEs : List Ex → List (List D)
  | [] => []
  | e :: l => rE e :: rEs l
end
theorem rEs_map : ∀ l : List Ex, rEs l = l.map rE
  | [] => rfl
  | e :: l => by rw [rEs, rEs_map l]; rfl
def dEs (l : List Ex) : D := .list 7 (l.map rE)
def rX (e : Ex) : List D := [dI e.k, dI e.n, dIs e.i.1, dI e.i.2, dS e.r.1, dAs e.r.2, dEs e.ks]
theorem rE_eq (e : Ex) : rE e = rX e := by
  cases e with
  | mk k n i r ks => rw [rE, rEs_map]; rfl
theorem rE_at {l : List Ex} {j : Nat} {e : Ex} (h : l[j]? = some e) : (l.map rE)[j]? = some (rX e) := by rw [← rE_eq]; exact map_at h
abbrev Stm := Acc × Ex
def rS (s : Stm) : List D := [dS s.1.1, dAs s.1.2, dI s.2.k, dI s.2.n, dIs s.2.i.1, dI s.2.i.2, dS s.2.r.1, dAs s.2.r.2, dEs s.2.ks]
theorem Ex.rec' {p : Ex → Prop} (h : ∀ e : Ex, (∀ x ∈ e.ks, p x) → p e) : ∀ e, p e
  | .mk k n i r ks => h (.mk k n i r ks) fun x (_ : x ∈ ks) => Ex.rec' h x
def arrB (b : UInt8) : Bool := decide (65 ≤ b.toNat ∧ b.toNat ≤ 68)
def arrV (s : ByteArray) : Bool := match s.data.toList with
  | [b] => arrB b
  | _ => false
set_option maxHeartbeats 1000000 in
theorem indexByte_any (s : ByteArray) (c : Int) (w : World) : Calls Try.prog 108 #[.string s, .int .u8 c] w fun e w' => e = .returned (.int .i64 (Lib.indexByte s.data.toList c.toNat.toUInt8)) ∧ w = w' := by
  go_enter Try.func108, Try.ntmps108
  go_wp2
  rw [run_callFunc_extern Try.func112 (by kernel_rfl) (by kernel_rfl) (by kernel_rfl) (e := Extern.BytealgIndexByte.indexByte) (by kernel_rfl), Lib.run_indexByteString]
  simp only [Result.andThen]
  rw [Oper.upon_value]
  go_wp2
  go_ret
  exact ⟨rfl, rfl⟩
theorem idx_arr (b : UInt8) : decide (0 ≤ Lib.indexByte [65, 66, 67, 68] b) = arrB b := by
  have h : ∀ n : Fin 256, decide (0 ≤ Lib.indexByte [65, 66, 67, 68] (UInt8.ofNat n.val)) = arrB (UInt8.ofNat n.val) := by decide +kernel
  have := h ⟨b.toNat, b.toNat_lt⟩
  simpa using this
def sABCD : ByteArray := ⟨#[65, 66, 67, 68]⟩
set_option maxHeartbeats 1000000 in
theorem index1_any (s : ByteArray) (b : UInt8) (hs : s.data.toList = [b]) (w : World) : Calls Try.prog 107 #[.string sABCD, .string s] w fun e w' => e = .returned (.int .i64 (Lib.indexByte [65, 66, 67, 68] b)) ∧ w = w' := by
  have h1 : s.size = 1 := by rw [Lib.size_eq, hs]; rfl
  have hne : (s.toList == sABCD.toList) = false := by
    rw [Lib.bytes_beq_false_iff]
    intro e
    rw [e] at h1
    exact absurd h1 (by decide)
  go_enter Try.func107, Try.ntmps107
  go_wp2_with fail
  refine (indexByte_any _ _ _).mono ?_
  rintro e w' ⟨rfl, rfl⟩
  go_wp2
  go_ret
  have h0 : s[0]'(by omega) = b := by
    have e1 : s[0]'(by omega) = s.data.toList[0]'(by rw [hs]; simp) := rfl
    rw [e1]; simp [hs]
  refine ⟨?_, rfl⟩
  rw [h0]
  simp [sABCD]
set_option maxHeartbeats 1000000 in
theorem contains1_any (s : ByteArray) (h1 : s.size = 1) (w : World) : Calls Try.prog 102 #[.string sABCD, .string s] w fun e w' => e = .returned (.bool (arrV s)) ∧ w = w' := by
  have hsz : s.size = s.data.toList.length := Lib.size_eq s
  obtain ⟨b, hb⟩ : ∃ b, s.data.toList = [b] := List.length_eq_one_iff.1 (by omega)
  have hv : arrV s = decide (0 ≤ Lib.indexByte [65, 66, 67, 68] b) := by rw [idx_arr, arrV, hb]
  have hI : ∀ w, Calls Try.prog 106 #[.string sABCD, .string s] w fun e w' => e = .returned (.int .i64 (Lib.indexByte [65, 66, 67, 68] b)) ∧ w = w' := by
    intro w
    go_enter Try.func106, Try.ntmps106
    go_wp2_with (go_at_call 107; refine (index1_any s b hb _).mono ?_; rintro e w' ⟨rfl, rfl⟩)
    go_ret
    exact ⟨rfl, rfl⟩
  go_enter Try.func102, Try.ntmps102
  go_wp2_with (go_at_call 106; refine (hI _).mono ?_; rintro e w' ⟨rfl, rfl⟩)
  go_ret
  exact ⟨ret_bool hv.symm, rfl⟩
theorem contains1_fn (s : ByteArray) (h : s.size = 1) : Fn Try.prog 102 [] [st1 sABCD, st1 s] (.o (bo1 (arrV s))) [] :=
  Fn.pure fun B bx al w vs hv => by
    obtain ⟨u, v, rfl, h0, h1⟩ := vals2 hv
    have hu : u = .string sABCD := by cases h0; rfl
    have hvv : v = .string s := by cases h1; rfl
    subst hu hvv
    exact (contains1_any s h w).mono fun e w' ⟨h1, h2⟩ => ⟨_, h1, by rw [← h2]; exact Below.refl _ _, .val _ rfl⟩
theorem arrV_size {s : ByteArray} (h : ¬ s.size = 1) : arrV s = false := by
  have hsz : s.size = s.data.toList.length := Lib.size_eq s
  rw [arrV]
  split
  · rename_i b hb; rw [hb] at hsz; simp at hsz; omega
  · rfl
def szAs (l : List Aff) : Nat := l.length + (l.map fun a => a.1.length).sum
theorem szAs_mem {l : List Aff} {a : Aff} (h : a ∈ l) : l.length + a.1.length ≤ szAs l := by
  rw [szAs]
  have : ∀ (l : List Nat) (n : Nat), n ∈ l → n ≤ l.sum := by
    intro l
    induction l with
    | nil => intro n h; cases h
    | cons m l ih =>
      intro n h
      rw [List.sum_cons]
      rcases List.mem_cons.1 h with rfl | h
      · omega
      · have := ih n h; omega
  have := this _ _ (List.mem_map_of_mem (f := fun a : Aff => a.1.length) h)
  omega
theorem szAs_len (l : List Aff) : l.length ≤ szAs l := Nat.le_add_right _ _
/-- No list is too long. -/
def okA (x : Aff) : Prop := x.1.length ≤ 17592186044416
def okAs (l : List Aff) : Prop := l.length ≤ 17592186044416 ∧ ∀ x ∈ l, okA x
def szC (a : Acc) : Nat := a.1.size + szAs a.2
mutual
def szE : Ex → Nat
  | .mk _ _ i r ks => i.1.length + szC r + ks.length + szEs ks
def szEs : List Ex → Nat
  | [] => 0
  | e :: l => szE e + szEs l
end
def szS (s : Stm) : Nat := szC s.1 + szE s.2
theorem szEs_mem : ∀ {l : List Ex} {e : Ex}, e ∈ l → szE e ≤ szEs l
  | x :: l, e, h => by
    rw [szEs]
    rcases List.mem_cons.1 h with rfl | h
    · omega
    · have := szEs_mem h; omega

/-! ### Validity -/
def accV (d : Nat) (a : Acc) : Bool := arrV a.1 && sideV d a.2
def nonA (x : Aff) : Bool := decide (x.1.length = 0) && decide (x.2 = 0)
def nonC (a : Acc) : Bool := sEq a.1 ByteArray.empty && decide (a.2.length = 0)
/-- The fields of a node other than its operands. -/
def fldV (d : Nat) (k n : Int) (i : Aff) (r : Acc) : Bool :=
  if k = 1 then inB n 0 99 && nonA i && nonC r
  else if k = 2 then decide (n = 0) && (affV i && decide (affDepth i ≤ d)) && nonC r
  else if k = 3 then decide (n = 0) && nonA i && accV d r
  else decide (n = 0) && nonA i && nonC r
def kidV (k : Int) (n : Nat) : Bool := if 1 ≤ k ∧ k ≤ 3 then decide (n = 0) else if 4 ≤ k ∧ k ≤ 6 then decide (n = 2) else false
def exV (d : Nat) : Nat → Ex → Bool
  | 0, _ => false
  | L + 1, e => kidV e.k e.ks.length && fldV d e.k e.n e.i e.r && e.ks.all (exV d L)
mutual
def cntE : Ex → Nat
  | .mk _ _ _ _ ks => 1 + cntEs ks
def cntEs : List Ex → Nat
  | [] => 0
  | e :: l => cntE e + cntEs l
end
def stmtV (d : Int) (s : Stm) : Bool := inB d 0 4 && (accV d.toNat s.1 && exV d.toNat 5 s.2 && decide (cntE s.2 ≤ 12))
theorem cntE_eq (e : Ex) : cntE e = 1 + cntEs e.ks := by cases e; rw [cntE]; rfl
/-- The program's way: a count goes along. -/
def scanK (f : Nat → Ex → Bool × Nat) : Nat → List Ex → Bool × Nat
  | c, [] => (true, c)
  | c, x :: l => if (f c x).1 = true then scanK f (f c x).2 l else (false, (f c x).2)
def scanV (d : Nat) : Nat → Nat → Ex → Bool × Nat
  | 0, c, _ => (false, c + 1)
  | L + 1, c, e => if 12 < c + 1 then (false, c + 1) else if (kidV e.k e.ks.length && fldV d e.k e.n e.i e.r) = true then scanK (scanV d L) (c + 1) e.ks else (false, c + 1)
theorem kidV_len {k : Int} {n : Nat} (h : kidV k n = true) : n = 0 ∨ n = 2 := by
  unfold kidV at h
  split at h
  · exact .inl (of_decide_eq_true h)
  · split at h
    · exact .inr (of_decide_eq_true h)
    · cases h
def ScanOk (f : Nat → Ex → Bool × Nat) (v : Ex → Bool) : Prop :=
  ∀ c e, ((f c e).1 = true ↔ v e = true ∧ c + cntE e ≤ 12) ∧ ((f c e).1 = true → (f c e).2 = c + cntE e) ∧ (f c e).2 ≤ max 13 (c + 1) ∧ c + 1 ≤ (f c e).2
theorem scanK_iff {f : Nat → Ex → Bool × Nat} {v : Ex → Bool} (h : ScanOk f v) : ∀ (l : List Ex) (c : Nat), c ≤ 12 → ((scanK f c l).1 = true ↔ l.all v = true ∧ c + cntEs l ≤ 12) ∧ ((scanK f c l).1 = true → (scanK f c l).2 = c + cntEs l) ∧ (scanK f c l).2 ≤ 13 ∧ c ≤ (scanK f c l).2
  | [], c, hc => by
    rw [scanK, cntEs]
    exact ⟨⟨fun _ => ⟨rfl, by omega⟩, fun _ => rfl⟩, fun _ => rfl, by show c ≤ 13; omega, Nat.le_refl _⟩
  | x :: l, c, hc => by
    obtain ⟨a1, a2, a3, a4⟩ := h c x
    rw [scanK, cntEs, List.all_cons, Bool.and_eq_true]
    by_cases h1 : (f c x).1 = true
    · rw [if_pos h1]
      obtain ⟨h2, h3⟩ := a1.1 h1
      have h4 := a2 h1
      obtain ⟨b1, b2, b3, b4⟩ := scanK_iff h l (f c x).2 (by omega)
      rw [h4] at b1 b2 b3 b4 ⊢
      exact ⟨b1.trans ⟨fun ⟨p, q⟩ => ⟨⟨h2, p⟩, by omega⟩, fun ⟨p, q⟩ => ⟨p.2, by omega⟩⟩, fun h => (b2 h).trans (by omega), b3, by omega⟩
    · rw [if_neg h1]
      exact ⟨⟨fun h => (by cases h), fun ⟨p, q⟩ => absurd (a1.2 ⟨p.1, by omega⟩) h1⟩, fun h => (by cases h), by show (f c x).2 ≤ 13; omega, by show c ≤ (f c x).2; omega⟩
theorem scanV_iff (d : Nat) : ∀ L : Nat, ScanOk (scanV d L) (exV d L)
  | 0, c, e => ⟨⟨fun h => (by cases h), fun h => (by cases h.1)⟩, fun h => (by cases h), by show c + 1 ≤ _; omega, Nat.le_refl _⟩
  | L + 1, c, e => by
    have hf : ∀ {b : Prop}, ((false, c + 1) : Bool × Nat).1 = true → b := fun h => by cases h
    rw [scanV, exV, cntE_eq]
    by_cases h1 : 12 < c + 1
    · rw [if_pos h1]
      exact ⟨⟨hf, fun h => by omega⟩, hf, by show c + 1 ≤ _; omega, Nat.le_refl _⟩
    · rw [if_neg h1]
      by_cases h2 : (kidV e.k e.ks.length && fldV d e.k e.n e.i e.r) = true
      · rw [if_pos h2]
        obtain ⟨b1, b2, b3, b4⟩ := scanK_iff (scanV_iff d L) e.ks (c + 1) (by omega)
        exact ⟨b1.trans ⟨fun ⟨p, q⟩ => ⟨by rw [h2, p]; rfl, by omega⟩, fun ⟨p, q⟩ => ⟨by rw [h2] at p; exact p, by omega⟩⟩, fun h => (b2 h).trans (by omega), by omega, b4⟩
      · rw [if_neg h2]
        exact ⟨⟨hf, fun h => absurd (Bool.and_eq_true_iff.1 h.1).1 h2⟩, hf, by show c + 1 ≤ _; omega, Nat.le_refl _⟩

/-! ### Equality -/
mutual
def sameE : Ex → Ex → Bool
  | .mk k n i r ks, .mk k' n' i' r' ks' => decide (k = k') && decide (n = n') && decide (i = i') && decide (r.2 = r'.2) && sEq r.1 r'.1 && sameEs ks ks'
def sameEs : List Ex → List Ex → Bool
  | [], [] => true
  | x :: l, y :: m => sameE x y && sameEs l m
  | _, _ => false
end
mutual
theorem sameE_iff : ∀ x y : Ex, sameE x y = true ↔ x = y
  | .mk k n i r ks, .mk k' n' i' r' ks' => by
    rw [sameE]
    simp only [Bool.and_eq_true, decide_eq_true_eq, sEq_iff, sameEs_iff ks ks', Ex.mk.injEq, Prod.ext_iff (x := r)]
    constructor
    · rintro ⟨⟨⟨⟨⟨h1, h2⟩, h3⟩, h4⟩, h5⟩, h6⟩; exact ⟨h1, h2, h3, ⟨h5, h4⟩, h6⟩
    · rintro ⟨h1, h2, h3, ⟨h5, h4⟩, h6⟩; exact ⟨⟨⟨⟨⟨h1, h2⟩, h3⟩, h4⟩, h5⟩, h6⟩
theorem sameEs_iff : ∀ l m : List Ex, sameEs l m = true ↔ l = m
  | [], [] => by simp [sameEs]
  | [], _ :: _ => by simp [sameEs]
  | _ :: _, [] => by simp [sameEs]
  | x :: l, y :: m => by rw [sameEs, Bool.and_eq_true, sameE_iff x y, sameEs_iff l m, List.cons.injEq]
end
def sameC (a b : Acc) : Bool := sEq a.1 b.1 && decide (a.2 = b.2)
theorem sameC_iff {a b : Acc} : sameC a b = true ↔ a = b := by rw [sameC, Bool.and_eq_true, sEq_iff, decide_eq_true_eq, Prod.ext_iff]
def sameS (s t : Stm) : Bool := sameC s.1 t.1 && sameE s.2 t.2
theorem sameS_iff {s t : Stm} : sameS s t = true ↔ s = t := by
  rw [sameS, Bool.and_eq_true, sameC_iff, sameE_iff]
  exact ⟨fun ⟨h1, h2⟩ => Prod.ext h1 h2, fun h => ⟨congrArg Prod.fst h, congrArg Prod.snd h⟩⟩

/-! ### Reads, replacements, depth -/
def mapC (g : Aff → Aff) (a : Acc) : Acc := (a.1, a.2.map g)
mutual
/-- All affine expressions changed. -/
def mapE (g : Aff → Aff) : Ex → Ex
  | .mk k n i r ks => .mk k n (if k = 2 then g i else ([], 0)) (if k = 3 then mapC g r else (ByteArray.empty, [])) (mapEs g ks)
def mapEs (g : Aff → Aff) : List Ex → List Ex
  | [] => []
  | e :: l => mapE g e :: mapEs g l
end
def mapS (g : Aff → Aff) (s : Stm) : Stm := (mapC g s.1, mapE g s.2)
theorem mapEs_map (g : Aff → Aff) : ∀ l : List Ex, mapEs g l = l.map (mapE g)
  | [] => rfl
  | e :: l => by rw [mapEs, mapEs_map g l]; rfl
end Go.Proofs.Ytollooimmfngjaa
namespace Go.Proofs.Ytollooimmfngjaa
set_option linter.unusedVariables false
set_option linter.unusedSimpArgs false
open Go.ChangeShapes Go.WideShapes Go.ChangeAt Go.RowKit
section
variable {H : Type} {enc : TypeId × Value → H} {w : World} {spare : Nat → Bool} {held : Bool}
theorem opAff (n : Nat) : OpF enc Try.prog w spare held n 27 rA okA :=
  OpF.mono (f := rA) (n := n + 1) (opStruct2 (enc := enc) (w := w) (spare := spare) (held := held) (t := 27) Try.underlying27 (by kernel_rfl) (opSlice (n := n) 1 8 Try.underlying25 (by kernel_rfl) (by kernel_rfl) (by rfl) (opInt Try.underlying3)) (opInt Try.underlying3)) (by omega) fun a h => h.1.1
end
section
variable {H : Type} {enc : TypeId × Value → H} {w : World} {spare : Nat → Bool} {held : Bool}
theorem opAffs (n : Nat) : OpF enc Try.prog w spare held n 22 (fun l : List Aff => [dAs l]) okAs :=
  OpF.mono (f := fun l : List Aff => [dAs l]) (n := n + 1) (opSlice (enc := enc) (w := w) (spare := spare) (held := held) (n := n) (t := 22) 2 32 Try.underlying22 (by kernel_rfl) (by kernel_rfl) (by rfl) (opAff n)) (by omega) fun a h => h
end
/-- No list and no text is too long. -/
def okC (a : Acc) : Prop := a.1.size ≤ 140737488351232 ∧ okAs a.2
mutual
def okE : Ex → Prop
  | .mk _ _ i r ks => okA i ∧ okC r ∧ ks.length ≤ 17592186044416 ∧ okEs ks
def okEs : List Ex → Prop
  | [] => True
  | e :: l => okE e ∧ okEs l
end
theorem okEs_all : ∀ {l : List Ex}, (∀ x ∈ l, okE x) → okEs l
  | [], _ => trivial
  | e :: l, h => ⟨h e (by simp), okEs_all fun x hx => h x (by simp [hx])⟩
theorem okEs_mem : ∀ {l : List Ex}, okEs l → ∀ x ∈ l, okE x
  | e :: l, h, x, hx => by
    rcases List.mem_cons.1 hx with rfl | hx
    · exact h.1
    · exact okEs_mem h.2 x hx
theorem okE_eq {e : Ex} : okE e ↔ okA e.i ∧ okC e.r ∧ e.ks.length ≤ 17592186044416 ∧ ∀ x ∈ e.ks, okE x := by
  cases e with
  | mk k n i r ks => exact ⟨fun h => ⟨h.1, h.2.1, h.2.2.1, okEs_mem h.2.2.2⟩, fun h => ⟨h.1, h.2.1, h.2.2.1, okEs_all h.2.2.2⟩⟩
def okS (s : Stm) : Prop := okC s.1 ∧ okE s.2
section
variable {H : Type} {enc : TypeId × Value → H} {w : World} {spare : Nat → Bool} {held : Bool}
theorem opAcc (n : Nat) : OpF enc Try.prog w spare held n 24 rC okC :=
  OpF.mono (f := rC) (n := n) (opStruct2 (enc := enc) (w := w) (spare := spare) (held := held) (n := n) (t := 24) Try.underlying24 (by kernel_rfl) (opStr Try.underlying9) (opAffs n)) (by omega) fun a h => h
theorem opEx : ∀ n : Nat, OpF enc Try.prog w spare held n 30 rX okE
  | 0 => fun fuel hf cs x h _ => by
    obtain rfl : fuel = 0 := by omega
    cases h
  | n + 1 => fun fuel hf cs x h hw => by
    have hk := opSlice (enc := enc) (w := w) (spare := spare) (held := held) (n := n) (t := 28) 7 112 Try.underlying28 (by kernel_rfl) (by kernel_rfl) (by rfl) (opEx n)
    obtain ⟨a, b, c, d, e, ⟨_, _, h2, h3, h4⟩, hr⟩ := opStruct5 (enc := enc) (w := w) (spare := spare) (held := held) (n := n) (t := 30) Try.underlying30 1 1 2 2 1 (by kernel_rfl) (by kernel_rfl) (opInt Try.underlying3) (opInt Try.underlying3) (opAff n) (opAcc n) (hk.mono (by omega) fun _ h => h) fuel hf cs x h hw
    refine ⟨.mk a b c d e, okE_eq.2 ⟨h2, h3, h4.1, h4.2⟩, ?_⟩
    have : rX (.mk a b c d e) = rI a ++ (rI b ++ (rA c ++ (rC d ++ [D.list 7 (e.map rX)]))) := by
      rw [show e.map rX = e.map rE from List.map_congr_left fun x _ => (rE_eq x).symm]; rfl
    rw [this]; exact hr
theorem opStm (n : Nat) : OpF enc Try.prog w spare held n 32 rS okS :=
  OpF.mono (f := rS) (n := n) (opStruct2 (enc := enc) (w := w) (spare := spare) (held := held) (n := n) (t := 32) Try.underlying32 (by kernel_rfl) (opAcc n) (opEx n)) (by omega) fun a h => h
end
end Go.Proofs.Ytollooimmfngjaa
namespace Go.Proofs.Ytollooimmfngjaa
set_option linter.unusedVariables false
set_option linter.unusedSimpArgs false
open Go.RowKit
/-- A box with one number, handed to a function. -/
def hbI (c : Int) : St := [(.b 0, .b 3 1 (dR [rI c])), (.u 0, .u)]
theorem hbI_HB (c : Int) : HB (hbI c) := HB.nil.data
theorem hbI_flat (c : Int) : flatS (hbI c) := flatS.nil.cons rfl
theorem hbI_num (c d : Int) : ∀ k, k < 100 → Al (lk (hbI d)) k → Al (lk (hbI c)) k := fun k _ ⟨e, sz, rows, h⟩ => by
  by_cases hk : k = 0
  · subst hk; exact ⟨_, _, _, rfl⟩
  · rw [hbI, lk_other _ _ _ _ (by simpa using fun e => hk e.symm), lk_other _ _ _ _ (by simp)] at h; cases h
theorem hbI_box {σ : St} {c : Int} (h : lk σ (.b 0) = .b 3 1 (dR [rI c])) : ∀ k e sz rows, lk (hbI c) (.b k) = .b e sz rows → lk σ (.b k) = .b e sz rows := one_box h

theorem acc_len {d : Nat} {xs : List Aff} (h : inB (xs.length : Nat) 1 2 = false) : false = sideV d xs := by
  rw [Bool.eq_iff_iff]
  simp only [inB, Bool.and_eq_false_iff, decide_eq_false_iff_not, sideV, Bool.and_eq_true, decide_eq_true_eq, Bool.false_eq_true, false_iff] at h ⊢
  omega
theorem acc_any {d : Nat} {xs : List Aff} (h : inB (xs.length : Nat) 1 2 = true) : (!xs.any fun x => !bndV d x) = sideV d xs := by
  simp only [inB, Bool.and_eq_true, decide_eq_true_eq] at h
  rw [nany, sideV, decide_eq_true (show 1 ≤ xs.length by omega), decide_eq_true (show xs.length ≤ 2 by omega), Bool.and_true, Bool.and_true]

theorem implNoA_fn (x : Aff) : Fn Try.prog 88 [] [ad (rA x)] (.o (bo1 (nonA x))) [] := by
  refine Fn.code0 Try.func88 rfl rfl rfl rfl ?_
  refine .seq <| .region <| .cons (St1.boxP rfl rfl rfl rfl rfl rfl) <| .cons (.asg rfl rfl) <| .nil <| ks_n <| .seq <| .region <| .cons (.fP 0 0 false rfl rfl) <| .cons (.l1 1 rfl rfl) <| .cons (.ln 3 1 8 rfl rfl rfl) <| .cons (.eq rfl rfl rfl) <| .cons (.mv rfl rfl) ?_
  refine .cD 7 rfl (fun g7 => ?_) (fun g7 => ?_)
  · skip
    refine .cons (.gT rfl rfl rfl (.fP 1 0 false rfl rfl)) <| .cons (.gT rfl rfl rfl (.l1 1 rfl rfl)) <| .cons (.gT rfl rfl rfl (.eq rfl rfl rfl)) <| .cons (.pT rfl rfl rfl) <| .cons (.asg rfl rfl) <| .nil <| ks_n <| .ret ?_
    refine kf_ret rfl ?_ nobox
    exact leafB (by rw [nonA]; first | rfl | grind)
  · skip
    refine .cons (.gF rfl rfl rfl) <| .cons (.gF rfl rfl rfl) <| .cons (.gF rfl rfl rfl) <| .cons (.pF rfl rfl rfl) <| .cons (.asg rfl rfl) <| .nil <| ks_n <| .ret ?_
    refine kf_ret rfl ?_ nobox
    exact leafB (by rw [nonA]; first | rfl | grind)

theorem l3None_fn (x : Aff) : Fn Try.prog 100 [] [ad (rA x)] (.o (bo1 (nonA x))) [] := by
  refine Fn.code0 Try.func100 rfl rfl rfl rfl ?_
  refine .seq <| .region <| .cons (St1.boxP rfl rfl rfl rfl rfl rfl) <| .cons (.asg rfl rfl) <| .nil <| ks_n <| .seq <| .region <| .cons (.fP 0 0 false rfl rfl) <| .cons (.l1 1 rfl rfl) <| .cons (.ln 3 1 8 rfl rfl rfl) <| .cons (.eq rfl rfl rfl) <| .cons (.mv rfl rfl) ?_
  refine .cD 7 rfl (fun g7 => ?_) (fun g7 => ?_)
  · skip
    refine .cons (.gT rfl rfl rfl (.fP 1 0 false rfl rfl)) <| .cons (.gT rfl rfl rfl (.l1 1 rfl rfl)) <| .cons (.gT rfl rfl rfl (.eq rfl rfl rfl)) <| .cons (.pT rfl rfl rfl) <| .cons (.asg rfl rfl) <| .nil <| ks_n <| .ret ?_
    refine kf_ret rfl ?_ nobox
    exact leafB (by rw [nonA]; first | rfl | grind)
  · skip
    refine .cons (.gF rfl rfl rfl) <| .cons (.gF rfl rfl rfl) <| .cons (.gF rfl rfl rfl) <| .cons (.pF rfl rfl rfl) <| .cons (.asg rfl rfl) <| .nil <| ks_n <| .ret ?_
    refine kf_ret rfl ?_ nobox
    exact leafB (by rw [nonA]; first | rfl | grind)

theorem implNoC_fn (a : Acc) : Fn Try.prog 89 [] [ad (rC a)] (.o (bo1 (nonC a))) [] := by
  refine Fn.code0 Try.func89 rfl rfl rfl rfl ?_
  refine .seq <| .region <| .cons (St1.boxP rfl rfl rfl rfl rfl rfl) <| .cons (.asg rfl rfl) <| .nil <| ks_n <| .seq <| .region <| .cons (.fP 0 0 false rfl rfl) <| .cons (.l1 1 rfl rfl) <| .cons (St1.eqS rfl rfl rfl) <| .cons (.mv rfl rfl) ?_
  refine AOps.cases 6 _ rfl (fun g6 => ?_) (fun g6 => ?_)
  · try simp only [zs1, zs2, zs3, zs4, zs5, zs6, zs7] at g6
    have g := g6
    refine .cons (.gT rfl rfl rfl (.fP 1 0 false rfl rfl)) <| .cons (.gT rfl rfl rfl (.l1 1 rfl rfl)) <| .cons (.gT rfl rfl rfl (.ln 37 2 32 rfl rfl rfl)) <| .cons (.gT rfl rfl rfl (.eq rfl rfl rfl)) <| .cons (.pT rfl rfl rfl) <| .cons (.asg rfl rfl) <| .nil <| ks_n <| .ret ?_
    refine kf_ret rfl ?_ nobox
    exact leafB (by rw [nonC, show sEq a.1 ByteArray.empty = _ from g]; first | rfl | (rw [Bool.eq_iff_iff]; simp only [Bool.and_eq_true, Bool.or_eq_true, Bool.not_eq_true', Bool.and_eq_false_iff, Bool.or_eq_false_iff, decide_eq_true_eq, decide_eq_false_iff_not, Bool.false_eq_true, Bool.true_eq_false, false_iff, true_iff, iff_false, iff_true, false_and, and_false, true_and, and_true, not_false_eq_true, not_true_eq_false, ne_eq]; omega))
  · try simp only [zs1, zs2, zs3, zs4, zs5, zs6, zs7] at g6
    have g := g6
    refine .cons (.gF rfl rfl rfl) <| .cons (.gF rfl rfl rfl) <| .cons (.gF rfl rfl rfl) <| .cons (.gF rfl rfl rfl) <| .cons (.pF rfl rfl rfl) <| .cons (.asg rfl rfl) <| .nil <| ks_n <| .ret ?_
    refine kf_ret rfl ?_ nobox
    exact leafB (by rw [nonC, show sEq a.1 ByteArray.empty = _ from g]; first | rfl | (rw [Bool.eq_iff_iff]; simp only [Bool.and_eq_true, Bool.or_eq_true, Bool.not_eq_true', Bool.and_eq_false_iff, Bool.or_eq_false_iff, decide_eq_true_eq, decide_eq_false_iff_not, Bool.false_eq_true, Bool.true_eq_false, false_iff, true_iff, iff_false, iff_true, false_and, and_false, true_and, and_true, not_false_eq_true, not_true_eq_false, ne_eq]; omega))

theorem l3Empty_fn (a : Acc) : Fn Try.prog 99 [] [ad (rC a)] (.o (bo1 (nonC a))) [] := by
  refine Fn.code0 Try.func99 rfl rfl rfl rfl ?_
  refine .seq <| .region <| .cons (St1.boxP rfl rfl rfl rfl rfl rfl) <| .cons (.asg rfl rfl) <| .nil <| ks_n <| .seq <| .region <| .cons (.fP 0 0 false rfl rfl) <| .cons (.l1 1 rfl rfl) <| .cons (St1.eqS rfl rfl rfl) <| .cons (.mv rfl rfl) ?_
  refine AOps.cases 6 _ rfl (fun g6 => ?_) (fun g6 => ?_)
  · try simp only [zs1, zs2, zs3, zs4, zs5, zs6, zs7] at g6
    have g := g6
    refine .cons (.gT rfl rfl rfl (.fP 1 0 false rfl rfl)) <| .cons (.gT rfl rfl rfl (.l1 1 rfl rfl)) <| .cons (.gT rfl rfl rfl (.ln 37 2 32 rfl rfl rfl)) <| .cons (.gT rfl rfl rfl (.eq rfl rfl rfl)) <| .cons (.pT rfl rfl rfl) <| .cons (.asg rfl rfl) <| .nil <| ks_n <| .ret ?_
    refine kf_ret rfl ?_ nobox
    exact leafB (by rw [nonC, show sEq a.1 ByteArray.empty = _ from g]; first | rfl | (rw [Bool.eq_iff_iff]; simp only [Bool.and_eq_true, Bool.or_eq_true, Bool.not_eq_true', Bool.and_eq_false_iff, Bool.or_eq_false_iff, decide_eq_true_eq, decide_eq_false_iff_not, Bool.false_eq_true, Bool.true_eq_false, false_iff, true_iff, iff_false, iff_true, false_and, and_false, true_and, and_true, not_false_eq_true, not_true_eq_false, ne_eq]; omega))
  · try simp only [zs1, zs2, zs3, zs4, zs5, zs6, zs7] at g6
    have g := g6
    refine .cons (.gF rfl rfl rfl) <| .cons (.gF rfl rfl rfl) <| .cons (.gF rfl rfl rfl) <| .cons (.gF rfl rfl rfl) <| .cons (.pF rfl rfl rfl) <| .cons (.asg rfl rfl) <| .nil <| ks_n <| .ret ?_
    refine kf_ret rfl ?_ nobox
    exact leafB (by rw [nonC, show sEq a.1 ByteArray.empty = _ from g]; first | rfl | (rw [Bool.eq_iff_iff]; simp only [Bool.and_eq_true, Bool.or_eq_true, Bool.not_eq_true', Bool.and_eq_false_iff, Bool.or_eq_false_iff, decide_eq_true_eq, decide_eq_false_iff_not, Bool.false_eq_true, Bool.true_eq_false, false_iff, true_iff, iff_false, iff_true, false_and, and_false, true_and, and_true, not_false_eq_true, not_true_eq_false, ne_eq]; omega))

theorem isArray_fn (s : ByteArray) : Fn Try.prog 83 [] [st1 s] (.o (bo1 (arrV s))) [] := by
  refine Fn.code0 Try.func83 rfl rfl rfl rfl ?_
  refine .seq <| .region <| .cons (.asg rfl rfl) <| .nil <| ks_n <| .seq <| .region <| .cons (.mv rfl rfl) <| .cons (St1.lenS rfl rfl rfl rfl rfl (by kernel_rfl) rfl) ?_
  refine .cons (.eq rfl rfl rfl) <| .cons (.mv rfl rfl) ?_
  refine .cD 6 rfl (fun g6 => ?_) (fun g6 => ?_)
  · skip
    refine .cons (.gT rfl rfl rfl (.mv rfl rfl)) <| .cons (.gT rfl rfl rfl (.cP [.const (.string ⟨#[65, 66, 67, 68]⟩), .tmp 7] rfl rfl rfl rfl (contains1_fn s (by omega)) rfl)) ?_
    refine .cons (.pT rfl rfl rfl) <| .cons (.asg rfl rfl) <| .nil <| ks_n <| .ret ?_
    refine kf_ret rfl ?_ nobox
    first | rfl | exact leafB (arrV_size (by omega)).symm
  · skip
    refine .cons (.gF rfl rfl rfl) <| .cons (.gF rfl rfl rfl) <| .cons (.pF rfl rfl rfl) <| .cons (.asg rfl rfl) <| .nil <| ks_n <| .ret ?_
    refine kf_ret rfl ?_ nobox
    first | rfl | exact leafB (arrV_size (by omega)).symm

theorem isOp_fn (k : Int) : Fn Try.prog 90 [] [nat1 k] (.o (bo1 (inB k 4 6))) [] := by
  refine Fn.code0 Try.func90 rfl rfl rfl rfl ?_
  refine .seq <| .region <| .cons (.asg rfl rfl) <| .nil <| ks_n <| .seq <| .region <| .cons (.mv rfl rfl) <| .cons (.cP [.tmp 3, .const (.int .i64 (4)), .const (.int .i64 (6))] rfl rfl rfl rfl (within_fn _ 4 6) rfl) ?_
  refine .cons (.asg rfl rfl) <| .nil <| ks_n <| .ret ?_
  refine kf_ret rfl ?_ nobox
  rfl

theorem accOk1_fn (d : Nat) (x : Aff) : Fn Try.prog 85 [] [ad (rA x), .c (.ptr [dI (d : Nat)])] (.o (bo1 (!bndV d x))) [] := by
 refine Fn.code0 Try.func85 rfl rfl rfl rfl ?_
 refine .seq <| .region <| .cons (St1.boxP rfl rfl rfl rfl rfl rfl) <| .cons (.asg rfl rfl) <| .nil <| ks_n <| .seq ?_
 refine ACode.drawK (by kernel_rfl) (by kernel_rfl) ?_
 refine .cons (.lN 2 rfl rfl rfl) <| .cons (.cP [.tmp 4] rfl rfl rfl rfl (implAffV_fn x) rfl) ?_
 refine .cons (.nt rfl rfl) <| .cons (.mv rfl rfl) ?_
 refine RunK.cases 7 _ rfl (fun g7 => ?_) (fun g7 => ?_)
 ·try simp only [zs1, zs2, zs3, zs4, zs5, zs6, zs7] at g7
  refine .cons (.gF rfl rfl rfl) <| .cons (.gF rfl rfl rfl) <| .cons (.gF rfl rfl rfl) <| .cons (.gF rfl rfl rfl) <| .cons (.pT rfl rfl rfl) <| .cons (.asg rfl rfl) ?_
  refine .nil ⟨by kernel_rfl, ?_⟩
  refine ks_n <| .ret ?_
  refine kf_ret rfl ?_ nobox
  first | exact leafB (by rw [bnd_no (.inl (by simpa using g7))]; rfl) | exact leafB (by rw [bndV, show affV x = true by simpa using g7, Bool.true_and, Bool.eq_iff_iff]; simp)
 ·try simp only [zs1, zs2, zs3, zs4, zs5, zs6, zs7] at g7
  refine .cons (.gT rfl rfl rfl (.lN 2 rfl rfl rfl)) <| .cons (.gT rfl rfl rfl (.cP [.tmp 8] rfl rfl rfl rfl (depth_fn x) rfl)) ?_
  refine .cons (.gT rfl rfl rfl (.l1 1 rfl rfl)) <| .cons (.gT rfl rfl rfl (.gt rfl rfl rfl)) <| .cons (.pF rfl rfl rfl) <| .cons (.asg rfl rfl) ?_
  refine .nil ⟨by kernel_rfl, ?_⟩
  refine ks_n <| .ret ?_
  refine kf_ret rfl ?_ nobox
  first | exact leafB (by rw [bnd_no (.inl (by simpa using g7))]; rfl) | exact leafB (by rw [bndV, show affV x = true by simpa using g7, Bool.true_and, Bool.eq_iff_iff]; simp)

theorem accOk_fn (d : Nat) (a : Acc) (ha : a.2.length ≤ 1099511627776) : Fn Try.prog 59 [] [ad (rC a), nat1 (d : Nat)] (.o (bo1 (accV d a))) [] := by
  refine Fn.code0 Try.func59 rfl rfl rfl rfl ?_
  refine .seq <| .region <| .cons (St1.boxP rfl rfl rfl rfl rfl rfl) <| .cons (St1.boxP rfl rfl rfl rfl rfl rfl) <| .cons (.asg rfl rfl) <| .nil <| ks_n <| .seq <| .region <| .cons (.fP 0 0 false rfl rfl) <| .cons (.l1 1 rfl rfl) <| .cons (.cP [.tmp 6] rfl rfl rfl rfl (isArray_fn _) rfl) ?_
  refine .cons (.mv rfl rfl) ?_
  refine AOps.cases 8 _ rfl (fun g8 => ?_) (fun g8 => ?_)
  · try simp only [zs1, zs2, zs3, zs4, zs5, zs6, zs7] at g8
    refine .cons (.gT rfl rfl rfl (.fP 1 0 false rfl rfl)) <| .cons (.gT rfl rfl rfl (.l1 1 rfl rfl)) <| .cons (.gT rfl rfl rfl (.ln 37 2 32 rfl rfl rfl)) <| .cons (.gT rfl rfl rfl (.cP [.tmp 11, .const (.int .i64 (1)), .const (.int .i64 (2))] rfl rfl rfl rfl (within_fn _ 1 2) rfl)) ?_
    refine .cons (.pT rfl rfl rfl) <| .cons (.mv rfl rfl) ?_
    refine AOps.cases 14 _ rfl (fun g14 => ?_) (fun g14 => ?_)
    · try simp only [zs1, zs2, zs3, zs4, zs5, zs6, zs7] at g14
      refine .cons (.gT rfl rfl rfl (.fP 1 0 false rfl rfl)) <| .cons (.gT rfl rfl rfl (.l1 1 rfl rfl)) <| .cons (.gT rfl rfl rfl (St1.makeFunc (xs := [.tmp 3]) rfl rfl rfl rfl rfl rfl rfl)) <| .cons (.gT rfl rfl rfl (.cP [.tmp 16, .tmp 17] rfl rfl rfl rfl (cnt_aff (f := 85) (cap := [[dI (d : Nat)]]) (by kernel_rfl) (fun x => !bndV d x) a.2 ha (fun x _ => accOk1_fn d x)) rfl)) ?_
      refine .cons (.gT rfl rfl rfl (.nt rfl rfl)) <| .cons (.pT rfl rfl rfl) <| .cons (.asg rfl rfl) <| .nil <| ks_n <| .ret ?_
      refine kf_ret rfl ?_ nobox
      first | exact leafB (by rw [accV, g8]; rfl) | exact leafB (by rw [accV, g8, Bool.true_and]; exact acc_len g14) | exact leafB (by rw [accV, g8, Bool.true_and]; exact acc_any g14)
    · try simp only [zs1, zs2, zs3, zs4, zs5, zs6, zs7] at g14
      refine .cons (.gF rfl rfl rfl) <| .cons (.gF rfl rfl rfl) <| .cons (.gF rfl rfl rfl) <| .cons (.gF rfl rfl rfl) <| .cons (.gF rfl rfl rfl) <| .cons (.pF rfl rfl rfl) <| .cons (.asg rfl rfl) <| .nil <| ks_n <| .ret ?_
      refine kf_ret rfl ?_ nobox
      first | exact leafB (by rw [accV, g8]; rfl) | exact leafB (by rw [accV, g8, Bool.true_and]; exact acc_len g14) | exact leafB (by rw [accV, g8, Bool.true_and]; exact acc_any g14)
  · try simp only [zs1, zs2, zs3, zs4, zs5, zs6, zs7] at g8
    refine .cons (.gF rfl rfl rfl) <| .cons (.gF rfl rfl rfl) <| .cons (.gF rfl rfl rfl) <| .cons (.gF rfl rfl rfl) <| .cons (.pF rfl rfl rfl) <| .cons (.mv rfl rfl) <| .cons (.gF rfl rfl rfl) <| .cons (.gF rfl rfl rfl) <| .cons (.gF rfl rfl rfl) <| .cons (.gF rfl rfl rfl) <| .cons (.gF rfl rfl rfl) <| .cons (.pF rfl rfl rfl) <| .cons (.asg rfl rfl) <| .nil <| ks_n <| .ret ?_
    refine kf_ret rfl ?_ nobox
    first | exact leafB (by rw [accV, g8]; rfl) | exact leafB (by rw [accV, g8, Bool.true_and]; exact acc_len g14) | exact leafB (by rw [accV, g8, Bool.true_and]; exact acc_any g14)
/-- What the program asks of the fields that a kind does not use. -/
def hdV (e : Ex) : Bool := (decide (e.k = 1) || decide (e.n = 0)) && (decide (e.k = 2) || nonA e.i) && (decide (e.k = 3) || nonC e.r)
theorem scan_z (d c : Nat) (e : Ex) : scanV d 0 c e = (false, c + 1) := rfl
theorem scan_many {d L c : Nat} {e : Ex} (h : 12 < c + 1) : scanV d (L + 1) c e = (false, c + 1) := by rw [scanV, if_pos h]
theorem scan_hd {d L c : Nat} {e : Ex} (h : hdV e = false) : scanV d (L + 1) c e = (false, c + 1) := by
  rw [scanV]
  split
  · rfl
  · rw [if_neg]
    intro h2
    have h3 := (Bool.and_eq_true_iff.1 h2).2
    unfold fldV at h3
    unfold hdV at h
    cases hA : nonA e.i <;> cases hC : nonC e.r <;> simp only [hA, hC] at h h3 <;> (split at h3 <;> first | (split at h3 <;> first | (split at h3 <;> simp_all; done) | (simp_all; done)) | (simp_all; done))
theorem hd_rest {e : Ex} (h : hdV e = true) : (e.k = 1 ∨ e.n = 0) ∧ (e.k = 2 ∨ nonA e.i = true) ∧ (e.k = 3 ∨ nonC e.r = true) := by
  simp only [hdV, Bool.and_eq_true, Bool.or_eq_true, decide_eq_true_eq] at h
  exact ⟨h.1.1, h.1.2, h.2⟩
theorem scan_leaf {d L c : Nat} {e : Ex} (hk : 1 ≤ e.k ∧ e.k ≤ 3) (hc : ¬ 12 < c + 1) : scanV d (L + 1) c e = (decide (e.ks.length = 0) && fldV d e.k e.n e.i e.r, c + 1) := by
  rw [scanV, if_neg hc, kidV, if_pos hk]
  split
  · rename_i h
    rw [h]
    have := of_decide_eq_true (Bool.and_eq_true_iff.1 h).1
    rw [List.eq_nil_of_length_eq_zero this]; rfl
  · rename_i h
    rw [Bool.eq_false_iff.2 h]
theorem scan1 {d L c : Nat} {e : Ex} (hk : e.k = 1) (hh : hdV e = true) (hc : ¬ 12 < c + 1) : scanV d (L + 1) c e = (inB e.n 0 99 && decide (e.ks.length = 0), c + 1) := by
  obtain ⟨h1, h2, h3⟩ := hd_rest hh
  rw [scan_leaf (by omega) hc, fldV, if_pos hk, h2.resolve_left (by omega), h3.resolve_left (by omega), Bool.and_true, Bool.and_true, Bool.and_comm]
theorem scan2 {d L c : Nat} {e : Ex} (hk : e.k = 2) (hh : hdV e = true) (hc : ¬ 12 < c + 1) : scanV d (L + 1) c e = (affV e.i && decide (affDepth e.i ≤ d) && decide (e.ks.length = 0), c + 1) := by
  obtain ⟨h1, h2, h3⟩ := hd_rest hh
  rw [scan_leaf (by omega) hc, fldV, if_neg (by omega), if_pos hk, h3.resolve_left (by omega), decide_eq_true (h1.resolve_left (by omega)), Bool.and_true, Bool.true_and, Bool.and_comm]
theorem scan3 {d L c : Nat} {e : Ex} (hk : e.k = 3) (hh : hdV e = true) (hc : ¬ 12 < c + 1) : scanV d (L + 1) c e = (accV d e.r && decide (e.ks.length = 0), c + 1) := by
  obtain ⟨h1, h2, h3⟩ := hd_rest hh
  rw [scan_leaf (by omega) hc, fldV, if_neg (by omega), if_neg (by omega), if_pos hk, h2.resolve_left (by omega), decide_eq_true (h1.resolve_left (by omega)), Bool.and_true, Bool.true_and, Bool.and_comm]
theorem scan_bad {d L c : Nat} {e : Ex} (hk : ¬ e.k = 1 ∧ ¬ e.k = 2 ∧ ¬ e.k = 3) (hb : inB e.k 4 6 = false ∨ ¬ e.ks.length = 2) : scanV d (L + 1) c e = (false, c + 1) := by
  rw [scanV]
  split
  · rfl
  · rw [if_neg]
    intro h2
    have h3 := (Bool.and_eq_true_iff.1 h2).1
    unfold kidV at h3
    rw [if_neg (by omega)] at h3
    split at h3
    · rename_i h4
      have h5 := of_decide_eq_true h3
      rcases hb with h | h
      · rw [inB, decide_eq_true h4] at h; cases h
      · exact h h5
    · cases h3
theorem scan_op {d L c : Nat} {e : Ex} {x y : Ex} (hk : inB e.k 4 6 = true) (hh : hdV e = true) (hc : ¬ 12 < c + 1) (hks : e.ks = [x, y]) : scanV d (L + 1) c e = if (scanV d L (c + 1) x).1 = true then scanV d L (scanV d L (c + 1) x).2 y else (false, (scanV d L (c + 1) x).2) := by
  obtain ⟨h1, h2, h3⟩ := hd_rest hh
  simp only [inB, Bool.and_eq_true, decide_eq_true_eq] at hk
  rw [scanV, if_neg hc, if_pos, hks, scanK]
  · split
    · rename_i h
      rw [scanK]
      split
      · rename_i h4; rw [scanK, ← h4]
      · rename_i h4; rw [← Bool.eq_false_iff.2 h4]
    · rfl
  · rw [kidV, if_neg (by omega), if_pos hk, hks, fldV, if_neg (by omega), if_neg (by omega), if_neg (by omega), h2.resolve_left (by omega), h3.resolve_left (by omega), decide_eq_true (h1.resolve_left (by omega))]; rfl
theorem two_of {α : Type} {l : List α} (h : l.length = 2) : ∃ x y, l = [x, y] := by
  match l, h with
  | [x, y], _ => exact ⟨x, y, rfl⟩

theorem scan_zero (d : Nat) {deep : Int} {c : Nat} {e : Ex} (hc : c ≤ 12) (hd8 : -100 ≤ deep ∧ deep ≤ 100) (hrl : e.r.2.length ≤ 1099511627776) (hd5 : 5 < deep) : Fn Try.prog 60 (hbI (c : Nat)) [ad (rX e), nat1 (d : Nat), nat1 deep, .c (.box 0 1 0 0)] (.o (bo1 (scanV d 0 c e).1)) (hbI ((scanV d 0 c e).2 : Nat)) := by
 refine Fn.of_code Try.func60 rfl rfl (hbI_HB _) rfl rfl (hbI_HB _) rfl (hbI_num _ _) ?_
 refine .seq <| .region <| .cons (St1.boxP rfl rfl rfl rfl rfl rfl) <| .cons (.asg rfl rfl) <| .nil <| ks_n <| .seq <| .region <| .cons (.mv rfl rfl) <| .cons (.nB rfl rfl rfl) <| .cons (.b1 1 rfl rfl rfl rfl rfl rfl) <| .cons (.pl rfl rfl rfl) <| .cons (.nB rfl rfl rfl) <| .cons (.sT 1 false rfl rfl rfl rfl rfl rfl rfl) <| .nil <| ks_n <| .seq <| .seq ?_
 refine ACode.cut [(.t 1, .v (.o (nat1 (d : Nat)))), (.t 2, .v (.o (nat1 deep))), (.t 3, .v (.o (.c (.box 0 1 0 0)))), (.t 4, .v (.o (.c (.ptr (rX e))))), (.t 8, .v (.o (bo1 false))), (.t 21, .v (.o (bo1 (decide (12 < c + 1 ∨ 5 < deep))))), (.b 0, .b 3 1 (dR ([rI ((c : Int) + 1)]))), (.u 0, .u)] ?_ ?_
 ·skip
  refine .region <| .cons (.mv rfl rfl) <| .cons (.nB rfl rfl rfl) <| .cons (.b1 1 rfl rfl rfl rfl rfl rfl) <| .cons (.gt rfl rfl rfl) <| .cons (.mv rfl rfl) ?_
  refine .cD 18 rfl (fun g18 => ?_) (fun g18 => ?_)
  ·skip
   refine .cons (.gF rfl rfl rfl) <| .cons (.gF rfl rfl rfl) <| .cons (.pT rfl rfl rfl) <| .nil ?_
   exact kc_n (Wk.keep [(0, 0)] rfl rfl ⟨ks rfl .dt, ks rfl .dt, ks rfl (.c .bx), ks rfl .dt, ks rfl .dt, ks rfl (.dt (vB (by first | rfl | grind))), kb 0 rfl (.dt rfl), trivial⟩)
  ·skip
   refine .cons (.gT rfl rfl rfl (.mv rfl rfl)) <| .cons (.gT rfl rfl rfl (.gt rfl rfl rfl)) <| .cons (.pF rfl rfl rfl) <| .nil ?_
   exact kc_n (Wk.keep [(0, 0)] rfl rfl ⟨ks rfl .dt, ks rfl .dt, ks rfl (.c .bx), ks rfl .dt, ks rfl .dt, ks rfl (.dt (vB (by first | rfl | grind))), kb 0 rfl (.dt rfl), trivial⟩)
 refine ks_n ?_
 refine ACode.condT rfl (fun h21 => ?_) (fun h21 => ?_)
 ·try simp only [zs1, zs2, zs3, zs4, zs5, zs6, zs7] at h21
  refine .seq ?_
  have hR := scan_z d c e
  refine .region <| .cons (.asg rfl rfl) <| .nil <| ks_n <| .ret <| ks_r ?_
  obtain ⟨r, hr⟩ : ∃ r, r = (scanV d 0 c e) := ⟨_, rfl⟩
  rw [← hr]
  rw [← hr] at hR
  refine kf_wret [(.t 3, .v (.o (.c (.box 0 1 0 0)))), (.t 8, .v (.o (bo1 r.1))), (.b 0, .b 3 1 (dR ([rI (r.2 : Nat)]))), (.u 0, .u)] (Wk.keep [(0, 0)] rfl rfl ⟨ks rfl (.c .bx), ks rfl (.dt (vB (by rw [hR] <;> first | rfl | grind))), kb 0 rfl (.dt rfl (by rw [hR] <;> rfl)), trivial⟩) rfl ?_ (hbI_box rfl)
  rfl
 ·try simp only [zs1, zs2, zs3, zs4, zs5, zs6, zs7] at h21
  exact absurd (Or.inr hd5) h21

theorem scan_succ (d : Nat) {deep : Int} {c : Nat} {e : Ex} (hc : c ≤ 12) (hd8 : -100 ≤ deep ∧ deep ≤ 100) (hrl : e.r.2.length ≤ 1099511627776) (hd5 : ¬ 5 < deep) {L : Nat} (ih : ∀ x ∈ e.ks, ∀ c : Nat, c ≤ 12 → Fn Try.prog 60 (hbI (c : Nat)) [ad (rX x), nat1 (d : Nat), nat1 (deep + 1), .c (.box 0 1 0 0)] (.o (bo1 (scanV d L c x).1)) (hbI ((scanV d L c x).2 : Nat))) : Fn Try.prog 60 (hbI (c : Nat)) [ad (rX e), nat1 (d : Nat), nat1 deep, .c (.box 0 1 0 0)] (.o (bo1 (scanV d (L + 1) c e).1)) (hbI ((scanV d (L + 1) c e).2 : Nat)) := by
 refine Fn.of_code Try.func60 rfl rfl (hbI_HB _) rfl rfl (hbI_HB _) rfl (hbI_num _ _) ?_
 refine .seq <| .region <| .cons (St1.boxP rfl rfl rfl rfl rfl rfl) <| .cons (.asg rfl rfl) <| .nil <| ks_n <| .seq <| .region <| .cons (.mv rfl rfl) <| .cons (.nB rfl rfl rfl) <| .cons (.b1 1 rfl rfl rfl rfl rfl rfl) <| .cons (.pl rfl rfl rfl) <| .cons (.nB rfl rfl rfl) <| .cons (.sT 1 false rfl rfl rfl rfl rfl rfl rfl) <| .nil <| ks_n <| .seq <| .seq ?_
 refine ACode.cut [(.t 1, .v (.o (nat1 (d : Nat)))), (.t 2, .v (.o (nat1 deep))), (.t 3, .v (.o (.c (.box 0 1 0 0)))), (.t 4, .v (.o (.c (.ptr (rX e))))), (.t 8, .v (.o (bo1 false))), (.t 21, .v (.o (bo1 (decide (12 < c + 1 ∨ 5 < deep))))), (.b 0, .b 3 1 (dR ([rI ((c : Int) + 1)]))), (.u 0, .u)] ?_ ?_
 ·skip
  refine .region <| .cons (.mv rfl rfl) <| .cons (.nB rfl rfl rfl) <| .cons (.b1 1 rfl rfl rfl rfl rfl rfl) <| .cons (.gt rfl rfl rfl) <| .cons (.mv rfl rfl) ?_
  refine .cD 18 rfl (fun g18 => ?_) (fun g18 => ?_)
  ·skip
   refine .cons (.gF rfl rfl rfl) <| .cons (.gF rfl rfl rfl) <| .cons (.pT rfl rfl rfl) <| .nil ?_
   exact kc_n (Wk.keep [(0, 0)] rfl rfl ⟨ks rfl .dt, ks rfl .dt, ks rfl (.c .bx), ks rfl .dt, ks rfl .dt, ks rfl (.dt (vB (by first | rfl | grind))), kb 0 rfl (.dt rfl), trivial⟩)
  ·skip
   refine .cons (.gT rfl rfl rfl (.mv rfl rfl)) <| .cons (.gT rfl rfl rfl (.gt rfl rfl rfl)) <| .cons (.pF rfl rfl rfl) <| .nil ?_
   exact kc_n (Wk.keep [(0, 0)] rfl rfl ⟨ks rfl .dt, ks rfl .dt, ks rfl (.c .bx), ks rfl .dt, ks rfl .dt, ks rfl (.dt (vB (by first | rfl | grind))), kb 0 rfl (.dt rfl), trivial⟩)
 refine ks_n ?_
 refine ACode.condT rfl (fun h21 => ?_) (fun h21 => ?_)
 ·try simp only [zs1, zs2, zs3, zs4, zs5, zs6, zs7] at h21
  refine .seq ?_
  have hR := scan_many (d := d) (L := L) (e := e) (show 12 < c + 1 by omega)
  refine .region <| .cons (.asg rfl rfl) <| .nil <| ks_n <| .ret <| ks_r ?_
  obtain ⟨r, hr⟩ : ∃ r, r = (scanV d (L + 1) c e) := ⟨_, rfl⟩
  rw [← hr]
  rw [← hr] at hR
  refine kf_wret [(.t 3, .v (.o (.c (.box 0 1 0 0)))), (.t 8, .v (.o (bo1 r.1))), (.b 0, .b 3 1 (dR ([rI (r.2 : Nat)]))), (.u 0, .u)] (Wk.keep [(0, 0)] rfl rfl ⟨ks rfl (.c .bx), ks rfl (.dt (vB (by rw [hR] <;> first | rfl | grind))), kb 0 rfl (.dt rfl (by rw [hR] <;> rfl)), trivial⟩) rfl ?_ (hbI_box rfl)
  rfl
 ·try simp only [zs1, zs2, zs3, zs4, zs5, zs6, zs7] at h21
  have hc1 : ¬ 12 < c + 1 := by omega
  refine .skip <| ks_n <| .seq <| .seq ?_
  refine ACode.cut [(.t 1, .v (.o (nat1 (d : Nat)))), (.t 2, .v (.o (nat1 deep))), (.t 3, .v (.o (.c (.box 0 1 0 0)))), (.t 4, .v (.o (.c (.ptr (rX e))))), (.t 8, .v (.o (bo1 false))), (.t 51, .v (.o (bo1 (!hdV e)))), (.b 0, .b 3 1 (dR ([rI ((c : Int) + 1)]))), (.u 0, .u)] ?_ ?_
  ·skip
   refine .region <| .cons (.fP 0 0 false rfl rfl) <| .cons (.l1 1 rfl rfl) <| .cons (.ne rfl rfl rfl) <| .cons (.mv rfl rfl) ?_
   refine .cND 25 rfl (fun g25 => ?_) (fun g25 => ?_)
   ·skip
    refine .cons (.gT rfl rfl rfl (.fP 1 0 false rfl rfl)) <| .cons (.gT rfl rfl rfl (.l1 1 rfl rfl)) <| .cons (.gT rfl rfl rfl (.ne rfl rfl rfl)) <| .cons (.pT rfl rfl rfl) <| .cons (.mv rfl rfl) ?_
    refine AOps.cases 30 _ rfl (fun g30 => ?_) (fun g30 => ?_)
    ·try simp only [zs1, zs2, zs3, zs4, zs5, zs6, zs7] at g30
     refine .cons (.gF rfl rfl rfl) <| .cons (.gF rfl rfl rfl) <| .cons (.gF rfl rfl rfl) <| .cons (.gF rfl rfl rfl) <| .cons (.gU rfl rfl) <| .cons (.gU rfl rfl) <| .cons (.gU rfl rfl) <| .cons (.gU rfl rfl) <| .cons (.gF rfl rfl rfl) <| .cons (.pT rfl rfl rfl) <| .cons (.mv rfl rfl) <| .cons (.gF rfl rfl rfl) <| .cons (.gF rfl rfl rfl) <| .cons (.gF rfl rfl rfl) <| .cons (.gF rfl rfl rfl) <| .cons (.gU rfl rfl) <| .cons (.gU rfl rfl) <| .cons (.gU rfl rfl) <| .cons (.gU rfl rfl) <| .cons (.gF rfl rfl rfl) <| .cons (.pT rfl rfl rfl) <| .nil ?_
     exact kc_n (Wk.keep [(0, 0)] rfl rfl ⟨ks rfl .dt, ks rfl .dt, ks rfl (.c .bx), ks rfl .dt, ks rfl .dt, ks rfl (.dt (vB (by first | (exfalso; omega) | (rw [hdV]; simp [*]; done) | (rw [hdV]; cases hA : nonA e.i <;> cases hC : nonC e.r <;> simp_all; done)))), kb 0 rfl (.dt rfl), trivial⟩)
    ·try simp only [zs1, zs2, zs3, zs4, zs5, zs6, zs7] at g30
     refine .cons (.gT rfl rfl rfl (.fP 0 0 false rfl rfl)) <| .cons (.gT rfl rfl rfl (.l1 1 rfl rfl)) <| .cons (.gT rfl rfl rfl (.ne rfl rfl rfl)) <| .cons (.gT rfl rfl rfl (.mv rfl rfl)) ?_
     refine .cND 34 rfl (fun g34 => ?_) (fun g34 => ?_)
     ·skip
      refine .cons (.gT rfl rfl rfl (.fP 2 1 true rfl rfl)) <| .cons (.gT rfl rfl rfl (.lN 2 rfl rfl rfl)) <| .cons (.gT rfl rfl rfl (.cP [.tmp 36] rfl rfl rfl rfl (implNoA_fn _) rfl)) ?_
      refine .cons (.gT rfl rfl rfl (.nt rfl rfl)) <| .cons (.gT rfl rfl rfl (.pT rfl rfl rfl)) <| .cons (.pF rfl rfl rfl) <| .cons (.mv rfl rfl) ?_
      refine AOps.cases 41 _ rfl (fun g41 => ?_) (fun g41 => ?_)
      ·try simp only [zs1, zs2, zs3, zs4, zs5, zs6, zs7] at g41
       refine .cons (.gF rfl rfl rfl) <| .cons (.gF rfl rfl rfl) <| .cons (.gF rfl rfl rfl) <| .cons (.gF rfl rfl rfl) <| .cons (.gU rfl rfl) <| .cons (.gU rfl rfl) <| .cons (.gU rfl rfl) <| .cons (.gU rfl rfl) <| .cons (.gF rfl rfl rfl) <| .cons (.pT rfl rfl rfl) <| .nil ?_
       exact kc_n (Wk.keep [(0, 0)] rfl rfl ⟨ks rfl .dt, ks rfl .dt, ks rfl (.c .bx), ks rfl .dt, ks rfl .dt, ks rfl (.dt (vB (by first | (exfalso; omega) | (rw [hdV]; simp [*]; done) | (rw [hdV]; cases hA : nonA e.i <;> cases hC : nonC e.r <;> simp_all; done)))), kb 0 rfl (.dt rfl), trivial⟩)
      ·try simp only [zs1, zs2, zs3, zs4, zs5, zs6, zs7] at g41
       refine .cons (.gT rfl rfl rfl (.fP 0 0 false rfl rfl)) <| .cons (.gT rfl rfl rfl (.l1 1 rfl rfl)) <| .cons (.gT rfl rfl rfl (.ne rfl rfl rfl)) <| .cons (.gT rfl rfl rfl (.mv rfl rfl)) ?_
       refine .cND 45 rfl (fun g45 => ?_) (fun g45 => ?_)
       ·skip
        refine .cons (.gT rfl rfl rfl (.fP 4 1 true rfl rfl)) <| .cons (.gT rfl rfl rfl (.lN 2 rfl rfl rfl)) <| .cons (.gT rfl rfl rfl (.cP [.tmp 47] rfl rfl rfl rfl (implNoC_fn _) rfl)) ?_
        refine .cons (.gT rfl rfl rfl (.nt rfl rfl)) <| .cons (.gT rfl rfl rfl (.pT rfl rfl rfl)) <| .cons (.pF rfl rfl rfl) <| .nil ?_
        exact kc_n (Wk.keep [(0, 0)] rfl rfl ⟨ks rfl .dt, ks rfl .dt, ks rfl (.c .bx), ks rfl .dt, ks rfl .dt, ks rfl (.dt (vB (by first | (exfalso; omega) | (rw [hdV]; simp [*]; done) | (rw [hdV]; cases hA : nonA e.i <;> cases hC : nonC e.r <;> simp_all; done)))), kb 0 rfl (.dt rfl), trivial⟩)
       ·skip
        refine .cons (.gF rfl rfl rfl) <| .cons (.gF rfl rfl rfl) <| .cons (.gF rfl rfl rfl) <| .cons (.gF rfl rfl rfl) <| .cons (.gT rfl rfl rfl (.pF rfl rfl rfl)) <| .cons (.pF rfl rfl rfl) <| .nil ?_
        exact kc_n (Wk.keep [(0, 0)] rfl rfl ⟨ks rfl .dt, ks rfl .dt, ks rfl (.c .bx), ks rfl .dt, ks rfl .dt, ks rfl (.dt (vB (by first | (exfalso; omega) | (rw [hdV]; simp [*]; done) | (rw [hdV]; cases hA : nonA e.i <;> cases hC : nonC e.r <;> simp_all; done)))), kb 0 rfl (.dt rfl), trivial⟩)
     ·skip
      refine .cons (.gF rfl rfl rfl) <| .cons (.gF rfl rfl rfl) <| .cons (.gF rfl rfl rfl) <| .cons (.gF rfl rfl rfl) <| .cons (.gT rfl rfl rfl (.pF rfl rfl rfl)) <| .cons (.pF rfl rfl rfl) <| .cons (.mv rfl rfl) <| .cons (.gT rfl rfl rfl (.fP 0 0 false rfl rfl)) <| .cons (.gT rfl rfl rfl (.l1 1 rfl rfl)) <| .cons (.gT rfl rfl rfl (.ne rfl rfl rfl)) <| .cons (.gT rfl rfl rfl (.mv rfl rfl)) ?_
      refine .cND 45 rfl (fun g45 => ?_) (fun g45 => ?_)
      ·skip
       refine .cons (.gT rfl rfl rfl (.fP 4 1 true rfl rfl)) <| .cons (.gT rfl rfl rfl (.lN 2 rfl rfl rfl)) <| .cons (.gT rfl rfl rfl (.cP [.tmp 47] rfl rfl rfl rfl (implNoC_fn _) rfl)) ?_
       refine .cons (.gT rfl rfl rfl (.nt rfl rfl)) <| .cons (.gT rfl rfl rfl (.pT rfl rfl rfl)) <| .cons (.pF rfl rfl rfl) <| .nil ?_
       exact kc_n (Wk.keep [(0, 0)] rfl rfl ⟨ks rfl .dt, ks rfl .dt, ks rfl (.c .bx), ks rfl .dt, ks rfl .dt, ks rfl (.dt (vB (by first | (exfalso; omega) | (rw [hdV]; simp [*]; done) | (rw [hdV]; cases hA : nonA e.i <;> cases hC : nonC e.r <;> simp_all; done)))), kb 0 rfl (.dt rfl), trivial⟩)
      ·skip
       refine .cons (.gF rfl rfl rfl) <| .cons (.gF rfl rfl rfl) <| .cons (.gF rfl rfl rfl) <| .cons (.gF rfl rfl rfl) <| .cons (.gT rfl rfl rfl (.pF rfl rfl rfl)) <| .cons (.pF rfl rfl rfl) <| .nil ?_
       exact kc_n (Wk.keep [(0, 0)] rfl rfl ⟨ks rfl .dt, ks rfl .dt, ks rfl (.c .bx), ks rfl .dt, ks rfl .dt, ks rfl (.dt (vB (by first | (exfalso; omega) | (rw [hdV]; simp [*]; done) | (rw [hdV]; cases hA : nonA e.i <;> cases hC : nonC e.r <;> simp_all; done)))), kb 0 rfl (.dt rfl), trivial⟩)
   ·skip
    refine .cons (.gF rfl rfl rfl) <| .cons (.gF rfl rfl rfl) <| .cons (.gF rfl rfl rfl) <| .cons (.pF rfl rfl rfl) <| .cons (.mv rfl rfl) <| .cons (.gT rfl rfl rfl (.fP 0 0 false rfl rfl)) <| .cons (.gT rfl rfl rfl (.l1 1 rfl rfl)) <| .cons (.gT rfl rfl rfl (.ne rfl rfl rfl)) <| .cons (.gT rfl rfl rfl (.mv rfl rfl)) ?_
    refine .cND 34 rfl (fun g34 => ?_) (fun g34 => ?_)
    ·skip
     refine .cons (.gT rfl rfl rfl (.fP 2 1 true rfl rfl)) <| .cons (.gT rfl rfl rfl (.lN 2 rfl rfl rfl)) <| .cons (.gT rfl rfl rfl (.cP [.tmp 36] rfl rfl rfl rfl (implNoA_fn _) rfl)) ?_
     refine .cons (.gT rfl rfl rfl (.nt rfl rfl)) <| .cons (.gT rfl rfl rfl (.pT rfl rfl rfl)) <| .cons (.pF rfl rfl rfl) <| .cons (.mv rfl rfl) ?_
     refine AOps.cases 41 _ rfl (fun g41 => ?_) (fun g41 => ?_)
     ·try simp only [zs1, zs2, zs3, zs4, zs5, zs6, zs7] at g41
      refine .cons (.gF rfl rfl rfl) <| .cons (.gF rfl rfl rfl) <| .cons (.gF rfl rfl rfl) <| .cons (.gF rfl rfl rfl) <| .cons (.gU rfl rfl) <| .cons (.gU rfl rfl) <| .cons (.gU rfl rfl) <| .cons (.gU rfl rfl) <| .cons (.gF rfl rfl rfl) <| .cons (.pT rfl rfl rfl) <| .nil ?_
      exact kc_n (Wk.keep [(0, 0)] rfl rfl ⟨ks rfl .dt, ks rfl .dt, ks rfl (.c .bx), ks rfl .dt, ks rfl .dt, ks rfl (.dt (vB (by first | (exfalso; omega) | (rw [hdV]; simp [*]; done) | (rw [hdV]; cases hA : nonA e.i <;> cases hC : nonC e.r <;> simp_all; done)))), kb 0 rfl (.dt rfl), trivial⟩)
     ·try simp only [zs1, zs2, zs3, zs4, zs5, zs6, zs7] at g41
      refine .cons (.gT rfl rfl rfl (.fP 0 0 false rfl rfl)) <| .cons (.gT rfl rfl rfl (.l1 1 rfl rfl)) <| .cons (.gT rfl rfl rfl (.ne rfl rfl rfl)) <| .cons (.gT rfl rfl rfl (.mv rfl rfl)) ?_
      refine .cND 45 rfl (fun g45 => ?_) (fun g45 => ?_)
      ·skip
       refine .cons (.gT rfl rfl rfl (.fP 4 1 true rfl rfl)) <| .cons (.gT rfl rfl rfl (.lN 2 rfl rfl rfl)) <| .cons (.gT rfl rfl rfl (.cP [.tmp 47] rfl rfl rfl rfl (implNoC_fn _) rfl)) ?_
       refine .cons (.gT rfl rfl rfl (.nt rfl rfl)) <| .cons (.gT rfl rfl rfl (.pT rfl rfl rfl)) <| .cons (.pF rfl rfl rfl) <| .nil ?_
       exact kc_n (Wk.keep [(0, 0)] rfl rfl ⟨ks rfl .dt, ks rfl .dt, ks rfl (.c .bx), ks rfl .dt, ks rfl .dt, ks rfl (.dt (vB (by first | (exfalso; omega) | (rw [hdV]; simp [*]; done) | (rw [hdV]; cases hA : nonA e.i <;> cases hC : nonC e.r <;> simp_all; done)))), kb 0 rfl (.dt rfl), trivial⟩)
      ·skip
       refine .cons (.gF rfl rfl rfl) <| .cons (.gF rfl rfl rfl) <| .cons (.gF rfl rfl rfl) <| .cons (.gF rfl rfl rfl) <| .cons (.gT rfl rfl rfl (.pF rfl rfl rfl)) <| .cons (.pF rfl rfl rfl) <| .nil ?_
       exact kc_n (Wk.keep [(0, 0)] rfl rfl ⟨ks rfl .dt, ks rfl .dt, ks rfl (.c .bx), ks rfl .dt, ks rfl .dt, ks rfl (.dt (vB (by first | (exfalso; omega) | (rw [hdV]; simp [*]; done) | (rw [hdV]; cases hA : nonA e.i <;> cases hC : nonC e.r <;> simp_all; done)))), kb 0 rfl (.dt rfl), trivial⟩)
    ·skip
     refine .cons (.gF rfl rfl rfl) <| .cons (.gF rfl rfl rfl) <| .cons (.gF rfl rfl rfl) <| .cons (.gF rfl rfl rfl) <| .cons (.gT rfl rfl rfl (.pF rfl rfl rfl)) <| .cons (.pF rfl rfl rfl) <| .cons (.mv rfl rfl) <| .cons (.gT rfl rfl rfl (.fP 0 0 false rfl rfl)) <| .cons (.gT rfl rfl rfl (.l1 1 rfl rfl)) <| .cons (.gT rfl rfl rfl (.ne rfl rfl rfl)) <| .cons (.gT rfl rfl rfl (.mv rfl rfl)) ?_
     refine .cND 45 rfl (fun g45 => ?_) (fun g45 => ?_)
     ·skip
      refine .cons (.gT rfl rfl rfl (.fP 4 1 true rfl rfl)) <| .cons (.gT rfl rfl rfl (.lN 2 rfl rfl rfl)) <| .cons (.gT rfl rfl rfl (.cP [.tmp 47] rfl rfl rfl rfl (implNoC_fn _) rfl)) ?_
      refine .cons (.gT rfl rfl rfl (.nt rfl rfl)) <| .cons (.gT rfl rfl rfl (.pT rfl rfl rfl)) <| .cons (.pF rfl rfl rfl) <| .nil ?_
      exact kc_n (Wk.keep [(0, 0)] rfl rfl ⟨ks rfl .dt, ks rfl .dt, ks rfl (.c .bx), ks rfl .dt, ks rfl .dt, ks rfl (.dt (vB (by first | (exfalso; omega) | (rw [hdV]; simp [*]; done) | (rw [hdV]; cases hA : nonA e.i <;> cases hC : nonC e.r <;> simp_all; done)))), kb 0 rfl (.dt rfl), trivial⟩)
     ·skip
      refine .cons (.gF rfl rfl rfl) <| .cons (.gF rfl rfl rfl) <| .cons (.gF rfl rfl rfl) <| .cons (.gF rfl rfl rfl) <| .cons (.gT rfl rfl rfl (.pF rfl rfl rfl)) <| .cons (.pF rfl rfl rfl) <| .nil ?_
      exact kc_n (Wk.keep [(0, 0)] rfl rfl ⟨ks rfl .dt, ks rfl .dt, ks rfl (.c .bx), ks rfl .dt, ks rfl .dt, ks rfl (.dt (vB (by first | (exfalso; omega) | (rw [hdV]; simp [*]; done) | (rw [hdV]; cases hA : nonA e.i <;> cases hC : nonC e.r <;> simp_all; done)))), kb 0 rfl (.dt rfl), trivial⟩)
  refine ks_n ?_
  refine ACode.condT rfl (fun h51 => ?_) (fun h51 => ?_)
  ·try simp only [zs1, zs2, zs3, zs4, zs5, zs6, zs7] at h51
   refine .seq ?_
   have hR := scan_hd (d := d) (L := L) (c := c) h51
   refine .region <| .cons (.asg rfl rfl) <| .nil <| ks_n <| .ret <| ks_r ?_
   obtain ⟨r, hr⟩ : ∃ r, r = (scanV d (L + 1) c e) := ⟨_, rfl⟩
   rw [← hr]
   rw [← hr] at hR
   refine kf_wret [(.t 3, .v (.o (.c (.box 0 1 0 0)))), (.t 8, .v (.o (bo1 r.1))), (.b 0, .b 3 1 (dR ([rI (r.2 : Nat)]))), (.u 0, .u)] (Wk.keep [(0, 0)] rfl rfl ⟨ks rfl (.c .bx), ks rfl (.dt (vB (by rw [hR] <;> first | rfl | grind))), kb 0 rfl (.dt rfl (by rw [hR] <;> rfl)), trivial⟩) rfl ?_ (hbI_box rfl)
   rfl
  ·try simp only [zs1, zs2, zs3, zs4, zs5, zs6, zs7] at h51
   refine .skip <| ks_n <| .seq <| .block <| .seq <| .region <| .cons (.fP 0 0 false rfl rfl) <| .cons (.l1 1 rfl rfl) <| .cons (.eq rfl rfl rfl) <| .cons (.asg rfl rfl) <| .nil <| ks_n ?_
   refine .cD rfl (fun h52 => ?_) (fun h52 => ?_)
   ·skip
    refine .seq ?_
    have hR := scan1 (d := d) (L := L) h52 h51 hc1
    refine .region <| .cons (.fP 1 0 false rfl rfl) <| .cons (.l1 1 rfl rfl) <| .cons (.cP [.tmp 57, .const (.int .i64 (0)), .const (.int .i64 (99))] rfl rfl rfl rfl (within_fn _ 0 99) rfl) ?_
    refine .cons (.mv rfl rfl) ?_
    refine AOps.cases 59 _ rfl (fun g59 => ?_) (fun g59 => ?_)
    ·try simp only [zs1, zs2, zs3, zs4, zs5, zs6, zs7] at g59
     refine .cons (.gT rfl rfl rfl (.fP 6 0 false rfl rfl)) <| .cons (.gT rfl rfl rfl (.l1 1 rfl rfl)) <| .cons (.gT rfl rfl rfl (.ln 40 7 112 rfl rfl rfl)) <| .cons (.gT rfl rfl rfl (.eq rfl rfl rfl)) <| .cons (.pT rfl rfl rfl) <| .cons (.asg rfl rfl) <| .nil <| ks_n <| .ret <| kb_r <| ks_r ?_
     obtain ⟨r, hr⟩ : ∃ r, r = (scanV d (L + 1) c e) := ⟨_, rfl⟩
     rw [← hr]
     rw [← hr] at hR
     refine kf_wret [(.t 3, .v (.o (.c (.box 0 1 0 0)))), (.t 8, .v (.o (bo1 r.1))), (.b 0, .b 3 1 (dR ([rI (r.2 : Nat)]))), (.u 0, .u)] (Wk.keep [(0, 0)] rfl rfl ⟨ks rfl (.c .bx), ks rfl (.dt (vB (by rw [hR] <;> first | rfl | grind))), kb 0 rfl (.dt rfl (by rw [hR] <;> rfl)), trivial⟩) rfl ?_ (hbI_box rfl)
     rfl
    ·try simp only [zs1, zs2, zs3, zs4, zs5, zs6, zs7] at g59
     refine .cons (.gF rfl rfl rfl) <| .cons (.gF rfl rfl rfl) <| .cons (.gF rfl rfl rfl) <| .cons (.gF rfl rfl rfl) <| .cons (.pF rfl rfl rfl) <| .cons (.asg rfl rfl) <| .nil <| ks_n <| .ret <| kb_r <| ks_r ?_
     obtain ⟨r, hr⟩ : ∃ r, r = (scanV d (L + 1) c e) := ⟨_, rfl⟩
     rw [← hr]
     rw [← hr] at hR
     refine kf_wret [(.t 3, .v (.o (.c (.box 0 1 0 0)))), (.t 8, .v (.o (bo1 r.1))), (.b 0, .b 3 1 (dR ([rI (r.2 : Nat)]))), (.u 0, .u)] (Wk.keep [(0, 0)] rfl rfl ⟨ks rfl (.c .bx), ks rfl (.dt (vB (by rw [hR] <;> first | rfl | grind))), kb 0 rfl (.dt rfl (by rw [hR] <;> rfl)), trivial⟩) rfl ?_ (hbI_box rfl)
     rfl
   ·skip
    refine .seq <| .region <| .cons (.fP 0 0 false rfl rfl) <| .cons (.l1 1 rfl rfl) <| .cons (.eq rfl rfl rfl) <| .cons (.asg rfl rfl) <| .nil <| ks_n ?_
    refine .cD rfl (fun h65 => ?_) (fun h65 => ?_)
    ·skip
     refine .seq ?_
     have hR := scan2 (d := d) (L := L) h65 h51 hc1
     refine .region <| .cons (.fP 2 1 true rfl rfl) <| .cons (.lN 2 rfl rfl rfl) <| .cons (.cP [.tmp 70] rfl rfl rfl rfl (implAffV_fn _) rfl) ?_
     refine .cons (.mv rfl rfl) ?_
     refine AOps.cases 72 _ rfl (fun g72 => ?_) (fun g72 => ?_)
     ·try simp only [zs1, zs2, zs3, zs4, zs5, zs6, zs7] at g72
      refine .cons (.gT rfl rfl rfl (.fP 2 1 true rfl rfl)) <| .cons (.gT rfl rfl rfl (.lN 2 rfl rfl rfl)) <| .cons (.gT rfl rfl rfl (.cP [.tmp 74] rfl rfl rfl rfl (depth_fn _) rfl)) ?_
      refine .cons (.gT rfl rfl rfl (.mv rfl rfl)) <| .cons (.gT rfl rfl rfl (.le rfl rfl rfl)) <| .cons (.pT rfl rfl rfl) <| .cons (.mv rfl rfl) ?_
      refine AOps.cases 79 _ rfl (fun g79 => ?_) (fun g79 => ?_)
      ·try simp only [zs1, zs2, zs3, zs4, zs5, zs6, zs7] at g79
       refine .cons (.gT rfl rfl rfl (.fP 6 0 false rfl rfl)) <| .cons (.gT rfl rfl rfl (.l1 1 rfl rfl)) <| .cons (.gT rfl rfl rfl (.ln 40 7 112 rfl rfl rfl)) <| .cons (.gT rfl rfl rfl (.eq rfl rfl rfl)) <| .cons (.pT rfl rfl rfl) <| .cons (.asg rfl rfl) <| .nil <| ks_n <| .ret <| kb_r <| ks_r ?_
       obtain ⟨r, hr⟩ : ∃ r, r = (scanV d (L + 1) c e) := ⟨_, rfl⟩
       rw [← hr]
       rw [← hr] at hR
       refine kf_wret [(.t 3, .v (.o (.c (.box 0 1 0 0)))), (.t 8, .v (.o (bo1 r.1))), (.b 0, .b 3 1 (dR ([rI (r.2 : Nat)]))), (.u 0, .u)] (Wk.keep [(0, 0)] rfl rfl ⟨ks rfl (.c .bx), ks rfl (.dt (vB (by rw [hR] <;> first | rfl | grind))), kb 0 rfl (.dt rfl (by rw [hR] <;> rfl)), trivial⟩) rfl ?_ (hbI_box rfl)
       rfl
      ·try simp only [zs1, zs2, zs3, zs4, zs5, zs6, zs7] at g79
       refine .cons (.gF rfl rfl rfl) <| .cons (.gF rfl rfl rfl) <| .cons (.gF rfl rfl rfl) <| .cons (.gF rfl rfl rfl) <| .cons (.pF rfl rfl rfl) <| .cons (.asg rfl rfl) <| .nil <| ks_n <| .ret <| kb_r <| ks_r ?_
       obtain ⟨r, hr⟩ : ∃ r, r = (scanV d (L + 1) c e) := ⟨_, rfl⟩
       rw [← hr]
       rw [← hr] at hR
       refine kf_wret [(.t 3, .v (.o (.c (.box 0 1 0 0)))), (.t 8, .v (.o (bo1 r.1))), (.b 0, .b 3 1 (dR ([rI (r.2 : Nat)]))), (.u 0, .u)] (Wk.keep [(0, 0)] rfl rfl ⟨ks rfl (.c .bx), ks rfl (.dt (vB (by rw [hR] <;> first | rfl | grind))), kb 0 rfl (.dt rfl (by rw [hR] <;> rfl)), trivial⟩) rfl ?_ (hbI_box rfl)
       rfl
     ·try simp only [zs1, zs2, zs3, zs4, zs5, zs6, zs7] at g72
      refine .cons (.gF rfl rfl rfl) <| .cons (.gF rfl rfl rfl) <| .cons (.gF rfl rfl rfl) <| .cons (.gF rfl rfl rfl) <| .cons (.gF rfl rfl rfl) <| .cons (.pF rfl rfl rfl) <| .cons (.mv rfl rfl) <| .cons (.gF rfl rfl rfl) <| .cons (.gF rfl rfl rfl) <| .cons (.gF rfl rfl rfl) <| .cons (.gF rfl rfl rfl) <| .cons (.pF rfl rfl rfl) <| .cons (.asg rfl rfl) <| .nil <| ks_n <| .ret <| kb_r <| ks_r ?_
      obtain ⟨r, hr⟩ : ∃ r, r = (scanV d (L + 1) c e) := ⟨_, rfl⟩
      rw [← hr]
      rw [← hr] at hR
      refine kf_wret [(.t 3, .v (.o (.c (.box 0 1 0 0)))), (.t 8, .v (.o (bo1 r.1))), (.b 0, .b 3 1 (dR ([rI (r.2 : Nat)]))), (.u 0, .u)] (Wk.keep [(0, 0)] rfl rfl ⟨ks rfl (.c .bx), ks rfl (.dt (vB (by rw [hR] <;> first | rfl | grind))), kb 0 rfl (.dt rfl (by rw [hR] <;> rfl)), trivial⟩) rfl ?_ (hbI_box rfl)
      rfl
    ·skip
     refine .seq <| .region <| .cons (.fP 0 0 false rfl rfl) <| .cons (.l1 1 rfl rfl) <| .cons (.eq rfl rfl rfl) <| .cons (.asg rfl rfl) <| .nil <| ks_n ?_
     refine .cD rfl (fun h85 => ?_) (fun h85 => ?_)
     ·skip
      refine .seq ?_
      have hR := scan3 (d := d) (L := L) h85 h51 hc1
      refine .region <| .cons (.fP 4 1 true rfl rfl) <| .cons (.lN 2 rfl rfl rfl) <| .cons (.mv rfl rfl) <| .cons (.cP [.tmp 90, .tmp 91] rfl rfl rfl rfl (accOk_fn d _ hrl) rfl) ?_
      refine .cons (.mv rfl rfl) ?_
      refine AOps.cases 93 _ rfl (fun g93 => ?_) (fun g93 => ?_)
      ·try simp only [zs1, zs2, zs3, zs4, zs5, zs6, zs7] at g93
       refine .cons (.gT rfl rfl rfl (.fP 6 0 false rfl rfl)) <| .cons (.gT rfl rfl rfl (.l1 1 rfl rfl)) <| .cons (.gT rfl rfl rfl (.ln 40 7 112 rfl rfl rfl)) <| .cons (.gT rfl rfl rfl (.eq rfl rfl rfl)) <| .cons (.pT rfl rfl rfl) <| .cons (.asg rfl rfl) <| .nil <| ks_n <| .ret <| kb_r <| ks_r ?_
       obtain ⟨r, hr⟩ : ∃ r, r = (scanV d (L + 1) c e) := ⟨_, rfl⟩
       rw [← hr]
       rw [← hr] at hR
       refine kf_wret [(.t 3, .v (.o (.c (.box 0 1 0 0)))), (.t 8, .v (.o (bo1 r.1))), (.b 0, .b 3 1 (dR ([rI (r.2 : Nat)]))), (.u 0, .u)] (Wk.keep [(0, 0)] rfl rfl ⟨ks rfl (.c .bx), ks rfl (.dt (vB (by rw [hR] <;> first | rfl | grind))), kb 0 rfl (.dt rfl (by rw [hR] <;> rfl)), trivial⟩) rfl ?_ (hbI_box rfl)
       rfl
      ·try simp only [zs1, zs2, zs3, zs4, zs5, zs6, zs7] at g93
       refine .cons (.gF rfl rfl rfl) <| .cons (.gF rfl rfl rfl) <| .cons (.gF rfl rfl rfl) <| .cons (.gF rfl rfl rfl) <| .cons (.pF rfl rfl rfl) <| .cons (.asg rfl rfl) <| .nil <| ks_n <| .ret <| kb_r <| ks_r ?_
       obtain ⟨r, hr⟩ : ∃ r, r = (scanV d (L + 1) c e) := ⟨_, rfl⟩
       rw [← hr]
       rw [← hr] at hR
       refine kf_wret [(.t 3, .v (.o (.c (.box 0 1 0 0)))), (.t 8, .v (.o (bo1 r.1))), (.b 0, .b 3 1 (dR ([rI (r.2 : Nat)]))), (.u 0, .u)] (Wk.keep [(0, 0)] rfl rfl ⟨ks rfl (.c .bx), ks rfl (.dt (vB (by rw [hR] <;> first | rfl | grind))), kb 0 rfl (.dt rfl (by rw [hR] <;> rfl)), trivial⟩) rfl ?_ (hbI_box rfl)
       rfl
     ·skip
      refine .seq <| .region <| .cons (.fP 0 0 false rfl rfl) <| .cons (.l1 1 rfl rfl) <| .cons (.cP [.tmp 101] rfl rfl rfl rfl (isOp_fn _) rfl) ?_
      refine .cons (.nt rfl rfl) <| .cons (.mv rfl rfl) ?_
      refine AOps.cases 104 _ rfl (fun g104 => ?_) (fun g104 => ?_)
      ·try simp only [zs1, zs2, zs3, zs4, zs5, zs6, zs7] at g104
       refine .cons (.gF rfl rfl rfl) <| .cons (.gF rfl rfl rfl) <| .cons (.gF rfl rfl rfl) <| .cons (.gF rfl rfl rfl) <| .cons (.pT rfl rfl rfl) <| .cons (.asg rfl rfl) <| .nil <| ks_n ?_
       refine ACode.condT rfl (fun _ => ?_) (fun h => by first | (cases h; done) | (simp [*] at h; done) | (exfalso; simp_all; done))
       refine .seq ?_
       have hR := scan_bad (d := d) (L := L) (c := c) ⟨h52, h65, h85⟩ (by first | exact .inl (by assumption) | exact .inr (by omega))
       refine .region <| .cons (.asg rfl rfl) <| .nil <| ks_n <| .ret <| kb_r <| ks_r ?_
       obtain ⟨r, hr⟩ : ∃ r, r = (scanV d (L + 1) c e) := ⟨_, rfl⟩
       rw [← hr]
       rw [← hr] at hR
       refine kf_wret [(.t 3, .v (.o (.c (.box 0 1 0 0)))), (.t 8, .v (.o (bo1 r.1))), (.b 0, .b 3 1 (dR ([rI (r.2 : Nat)]))), (.u 0, .u)] (Wk.keep [(0, 0)] rfl rfl ⟨ks rfl (.c .bx), ks rfl (.dt (vB (by rw [hR] <;> first | rfl | grind))), kb 0 rfl (.dt rfl (by rw [hR] <;> rfl)), trivial⟩) rfl ?_ (hbI_box rfl)
       rfl
      ·try simp only [zs1, zs2, zs3, zs4, zs5, zs6, zs7] at g104
       refine .cons (.gT rfl rfl rfl (.fP 6 0 false rfl rfl)) <| .cons (.gT rfl rfl rfl (.l1 1 rfl rfl)) <| .cons (.gT rfl rfl rfl (.ln 40 7 112 rfl rfl rfl)) <| .cons (.gT rfl rfl rfl (.ne rfl rfl rfl)) <| .cons (.pF rfl rfl rfl) <| .cons (.asg rfl rfl) <| .nil <| ks_n ?_
       refine ACode.condT rfl (fun h99 => ?_) (fun h99 => ?_)
       ·try simp only [zs1, zs2, zs3, zs4, zs5, zs6, zs7] at h99
        refine .seq ?_
        have hR := scan_bad (d := d) (L := L) (c := c) ⟨h52, h65, h85⟩ (by first | exact .inl (by assumption) | exact .inr (by omega))
        refine .region <| .cons (.asg rfl rfl) <| .nil <| ks_n <| .ret <| kb_r <| ks_r ?_
        obtain ⟨r, hr⟩ : ∃ r, r = (scanV d (L + 1) c e) := ⟨_, rfl⟩
        rw [← hr]
        rw [← hr] at hR
        refine kf_wret [(.t 3, .v (.o (.c (.box 0 1 0 0)))), (.t 8, .v (.o (bo1 r.1))), (.b 0, .b 3 1 (dR ([rI (r.2 : Nat)]))), (.u 0, .u)] (Wk.keep [(0, 0)] rfl rfl ⟨ks rfl (.c .bx), ks rfl (.dt (vB (by rw [hR] <;> first | rfl | grind))), kb 0 rfl (.dt rfl (by rw [hR] <;> rfl)), trivial⟩) rfl ?_ (hbI_box rfl)
        rfl
       ·try simp only [zs1, zs2, zs3, zs4, zs5, zs6, zs7] at h99
        refine .skip <| kb_n <| ks_n <| .seq ?_
        obtain ⟨x, y, hks⟩ := two_of (l := e.ks) (by omega)
        have hR := scan_op (d := d) (L := L) (by assumption) h51 hc1 hks
        obtain ⟨_, hx2, _, _⟩ := scanV_iff d L (c + 1) x
        refine .region <| .cons (.fP 6 0 false rfl rfl) <| .cons (.l1 1 rfl rfl) <| .cons (.xL 40 7 112 (i := 0) rfl rfl rfl rfl rfl (by rw [hks]; exact rE_at rfl)) ?_
        refine .cons (.lN 7 rfl rfl rfl) <| .cons (.mv rfl rfl) <| .cons (.mv rfl rfl) <| .cons (.pl rfl rfl rfl) <| .cons (.mv rfl rfl) <| .cons (.cO [.tmp 113, .tmp 114, .tmp 116, .tmp 117] [(0, 0)] rfl rfl rfl rfl (ih x (by rw [hks]; simp) (c + 1) (by omega)) rfl ⟨rfl, trivial⟩ (hbI_flat _) (hbI_flat _) (hbI_HB _) outS_one) ?_
        refine .cons (.mv rfl rfl) ?_
        refine AOps.cases 119 _ rfl (fun g119 => ?_) (fun g119 => ?_)
        ·try simp only [zs1, zs2, zs3, zs4, zs5, zs6, zs7] at g119
         have hc2 : (scanV d L (c + 1) x).2 ≤ 12 := by have h1 := hx2 g119; have h2 := ((scanV_iff d L (c + 1) x).1.1 g119).2; omega
         rw [if_pos g119] at hR
         refine .cons (.gT rfl rfl rfl (.fP 6 0 false rfl rfl)) <| .cons (.gT rfl rfl rfl (.l1 1 rfl rfl)) <| .cons (.gT rfl rfl rfl (.xL 40 7 112 (i := 1) rfl rfl rfl rfl rfl (by rw [hks]; exact rE_at rfl))) ?_
         refine .cons (.gT rfl rfl rfl (.lN 7 rfl rfl rfl)) <| .cons (.gT rfl rfl rfl (.mv rfl rfl)) <| .cons (.gT rfl rfl rfl (.mv rfl rfl)) <| .cons (.gT rfl rfl rfl (.pl rfl rfl rfl)) <| .cons (.gT rfl rfl rfl (.mv rfl rfl)) <| .cons (.gT rfl rfl rfl (.cO [.tmp 123, .tmp 124, .tmp 126, .tmp 127] [(0, 0)] rfl rfl rfl rfl (ih y (by rw [hks]; simp) (scanV d L (c + 1) x).2 hc2) rfl ⟨rfl, trivial⟩ (hbI_flat _) (hbI_flat _) (hbI_HB _) outS_one)) ?_
         refine .cons (.pT rfl rfl rfl) <| .cons (.asg rfl rfl) <| .nil <| ks_n <| .ret ?_
         obtain ⟨r, hr⟩ : ∃ r, r = (scanV d (L + 1) c e) := ⟨_, rfl⟩
         rw [← hr]
         rw [← hr] at hR
         refine kf_wret [(.t 3, .v (.o (.c (.box 0 1 0 0)))), (.t 8, .v (.o (bo1 r.1))), (.b 0, .b 3 1 (dR ([rI (r.2 : Nat)]))), (.u 0, .u)] (Wk.keep [(0, 0)] rfl rfl ⟨ks rfl (.c .bx), ks rfl (.dt (vB (by rw [hR] <;> first | rfl | grind))), kb 0 rfl (.dt rfl (by rw [hR] <;> rfl)), trivial⟩) rfl ?_ (hbI_box rfl)
         rfl
        ·try simp only [zs1, zs2, zs3, zs4, zs5, zs6, zs7] at g119
         rw [if_neg (by rw [g119]; simp)] at hR
         refine .cons (.gF rfl rfl rfl) <| .cons (.gF rfl rfl rfl) <| .cons (.gF rfl rfl rfl) <| .cons (.gF rfl rfl rfl) <| .cons (.gF rfl rfl rfl) <| .cons (.gF rfl rfl rfl) <| .cons (.gF rfl rfl rfl) <| .cons (.gF rfl rfl rfl) <| .cons (.gF rfl rfl rfl) <| .cons (.pF rfl rfl rfl) <| .cons (.asg rfl rfl) <| .nil <| ks_n <| .ret ?_
         obtain ⟨r, hr⟩ : ∃ r, r = (scanV d (L + 1) c e) := ⟨_, rfl⟩
         rw [← hr]
         rw [← hr] at hR
         refine kf_wret [(.t 3, .v (.o (.c (.box 0 1 0 0)))), (.t 8, .v (.o (bo1 r.1))), (.b 0, .b 3 1 (dR ([rI (r.2 : Nat)]))), (.u 0, .u)] (Wk.keep [(0, 0)] rfl rfl ⟨ks rfl (.c .bx), ks rfl (.dt (vB (by rw [hR] <;> first | rfl | grind))), kb 0 rfl (.dt rfl (by rw [hR] <;> rfl)), trivial⟩) rfl ?_ (hbI_box rfl)
         rfl

theorem szE_eq (e : Ex) : szE e = e.i.1.length + szC e.r + e.ks.length + szEs e.ks := by cases e; rw [szE]; rfl
theorem exprScan_fn (d : Nat) : ∀ (L : Nat) (deep : Int) (c : Nat) (e : Ex), deep = 6 - (L : Int) → L ≤ 5 → c ≤ 12 → szE e ≤ 1099511627776 →
    Fn Try.prog 60 (hbI (c : Nat)) [ad (rX e), nat1 (d : Nat), nat1 deep, .c (.box 0 1 0 0)] (.o (bo1 (scanV d L c e).1)) (hbI ((scanV d L c e).2 : Nat))
  | 0, deep, c, e, hd, hL, hc, hs => scan_zero d hc (by omega) (by rw [szE_eq, szC] at hs; have := szAs_len e.r.2; omega) (by omega)
  | L + 1, deep, c, e, hd, hL, hc, hs => scan_succ d hc (by omega) (by rw [szE_eq, szC] at hs; have := szAs_len e.r.2; omega) (by omega) fun x hx c hc =>
      exprScan_fn d L (deep + 1) c x (by omega) (by omega) hc (by have := szEs_mem hx; rw [szE_eq] at hs; omega)
theorem szS_parts {s : Stm} (hs : szS s ≤ 1099511627776) : s.1.2.length ≤ 1099511627776 ∧ szE s.2 ≤ 1099511627776 := by
  rw [szS, szC] at hs
  have := szAs_len s.1.2
  exact ⟨by omega, by omega⟩
theorem stmtV_no {d : Int} {s : Stm} (h : inB d 0 4 = false) : stmtV d s = false := by rw [stmtV, h]; rfl
theorem stmtV_w {d : Int} {s : Stm} (h : inB d 0 4 = true) : stmtV d s = (accV d.toNat s.1 && (scanV d.toNat 5 0 s.2).1) := by
  rw [stmtV, h, Bool.true_and, Bool.and_assoc]
  congr 1
  rw [Bool.eq_iff_iff, Bool.and_eq_true, decide_eq_true_eq, (scanV_iff d.toNat 5 0 s.2).1, Nat.zero_add]

theorem accOk_fi {d : Int} (h : ((d.toNat : Nat) : Int) = d) (a : Acc) (ha : a.2.length ≤ 1099511627776) : Fn Try.prog 59 [] [ad (rC a), nat1 d] (.o (bo1 (accV d.toNat a))) [] := by
  have h2 := accOk_fn d.toNat a ha
  rw [h] at h2; exact h2
theorem exprScan_fi {d : Int} (h : ((d.toNat : Nat) : Int) = d) (e : Ex) (hs : szE e ≤ 1099511627776) : Fn Try.prog 60 (hbI 0) [ad (rX e), nat1 d, nat1 1, .c (.box 0 1 0 0)] (.o (bo1 (scanV d.toNat 5 0 e).1)) (hbI ((scanV d.toNat 5 0 e).2 : Nat)) := by
  have h2 := exprScan_fn d.toNat 5 1 0 e (by omega) (by omega) (by omega) hs
  rw [h] at h2; exact h2

theorem implStmtV_fn (d : Int) (s : Stm) (hs : szS s ≤ 1099511627776) : Fn Try.prog 27 [] [ad (rS s), nat1 d] (.o (bo1 (stmtV d s))) [] := by
  obtain ⟨hs1, hs2⟩ := szS_parts hs
  refine Fn.code0 Try.func27 rfl rfl rfl rfl ?_
  refine .seq <| .region <| .cons (St1.boxP rfl rfl rfl rfl rfl rfl) <| .cons (.asg rfl rfl) <| .nil <| ks_n <| .seq <| .region <| .cons (.al 105 [.int .i64 0] rfl rfl rfl) <| .cons (.sT 1 false rfl rfl rfl rfl rfl rfl rfl) <| .nil <| ks_n <| .seq <| .region <| .cons (.mv rfl rfl) <| .cons (.cP [.tmp 6, .const (.int .i64 (0)), .const (.int .i64 (4))] rfl rfl rfl rfl (within_fn _ 0 4) rfl) ?_
  refine .cons (.mv rfl rfl) ?_
  refine AOps.cases 8 _ rfl (fun g8 => ?_) (fun g8 => ?_)
  · try simp only [zs1, zs2, zs3, zs4, zs5, zs6, zs7] at g8
    have hD : ((d.toNat : Nat) : Int) = d := by simp only [inB, decide_eq_true_eq] at g8; omega
    refine .cons (.gT rfl rfl rfl (.fP 0 1 true rfl rfl)) <| .cons (.gT rfl rfl rfl (.lN 2 rfl rfl rfl)) <| .cons (.gT rfl rfl rfl (.mv rfl rfl)) <| .cons (.gT rfl rfl rfl (.cP [.tmp 10, .tmp 11] rfl rfl rfl rfl (accOk_fi hD s.1 hs1) rfl)) ?_
    refine .cons (.pT rfl rfl rfl) <| .cons (.mv rfl rfl) ?_
    refine AOps.cases 14 _ rfl (fun g14 => ?_) (fun g14 => ?_)
    · try simp only [zs1, zs2, zs3, zs4, zs5, zs6, zs7] at g14
      refine .cons (.gT rfl rfl rfl (.fP 2 6 true rfl rfl)) <| .cons (.gT rfl rfl rfl (.lN 7 rfl rfl rfl)) <| .cons (.gT rfl rfl rfl (.mv rfl rfl)) <| .cons (.gT rfl rfl rfl (.cO [.tmp 16, .tmp 17, .const (.int .i64 (1)), .tmp 5] [(0, 105)] rfl rfl rfl rfl (exprScan_fi hD s.2 hs2) rfl ⟨rfl, trivial⟩ (hbI_flat _) (hbI_flat _) (hbI_HB _) outS_one)) ?_
      refine .cons (.pT rfl rfl rfl) <| .cons (.asg rfl rfl) <| .nil <| ks_n <| .ret ?_
      refine kf_ret rfl ?_ nobox
      first | exact leafB (stmtV_no g8).symm | exact leafB (by rw [stmtV_w g8, g14]; first | rfl | simp)
    · try simp only [zs1, zs2, zs3, zs4, zs5, zs6, zs7] at g14
      refine .cons (.gF rfl rfl rfl) <| .cons (.gF rfl rfl rfl) <| .cons (.gF rfl rfl rfl) <| .cons (.gF rfl rfl rfl) <| .cons (.pF rfl rfl rfl) <| .cons (.asg rfl rfl) <| .nil <| ks_n <| .ret ?_
      refine kf_ret rfl ?_ nobox
      first | exact leafB (stmtV_no g8).symm | exact leafB (by rw [stmtV_w g8, g14]; first | rfl | simp)
  · try simp only [zs1, zs2, zs3, zs4, zs5, zs6, zs7] at g8
    refine .cons (.gF rfl rfl rfl) <| .cons (.gF rfl rfl rfl) <| .cons (.gF rfl rfl rfl) <| .cons (.gF rfl rfl rfl) <| .cons (.pF rfl rfl rfl) <| .cons (.mv rfl rfl) <| .cons (.gF rfl rfl rfl) <| .cons (.gF rfl rfl rfl) <| .cons (.gF rfl rfl rfl) <| .cons (.gF rfl rfl rfl) <| .cons (.pF rfl rfl rfl) <| .cons (.asg rfl rfl) <| .nil <| ks_n <| .ret ?_
    refine kf_ret rfl ?_ nobox
    first | exact leafB (stmtV_no g8).symm | exact leafB (by rw [stmtV_w g8, g14]; first | rfl | simp)

theorem kids_eq (k : Int) (n : Nat) : kidV k n = decide ((if 1 ≤ k ∧ k ≤ 3 then (0 : Int) else if 4 ≤ k ∧ k ≤ 6 then 2 else -1) = (n : Nat)) := by
  rw [kidV]
  split
  · rw [decide_eq_decide]; omega
  · split
    · rw [decide_eq_decide]; omega
    · rw [decide_eq_false]; omega
theorem arr_leaf {s : ByteArray} (h : s.size = 1) : arrV s = (!sLt s ⟨#[65]⟩ && (sLt s ⟨#[68]⟩ || sEq s ⟨#[68]⟩)) := by
  have hsz : s.size = s.data.toList.length := Lib.size_eq s
  obtain ⟨b, hb⟩ : ∃ b, s.data.toList = [b] := List.length_eq_one_iff.1 (by omega)
  obtain rfl : s = ⟨#[b]⟩ := by
    cases s with
    | mk data => exact congrArg ByteArray.mk (Array.toList_inj.1 (by rw [hb]))
  have key : ∀ n : Fin 256, arrV ⟨#[UInt8.ofNat n.val]⟩ = (!sLt ⟨#[UInt8.ofNat n.val]⟩ ⟨#[65]⟩ && (sLt ⟨#[UInt8.ofNat n.val]⟩ ⟨#[68]⟩ || sEq ⟨#[UInt8.ofNat n.val]⟩ ⟨#[68]⟩)) := by decide +kernel
  have := key ⟨b.toNat, b.toNat_lt⟩
  simpa using this

theorem l3Kids_fn (k : Int) : Fn Try.prog 80 [] [nat1 k] (.o (nat1 (if 1 ≤ k ∧ k ≤ 3 then 0 else if 4 ≤ k ∧ k ≤ 6 then 2 else -1))) [] := by
 refine Fn.code0 Try.func80 rfl rfl rfl rfl ?_
 refine .seq <| .region <| .cons (.asg rfl rfl) <| .nil <| ks_n <| .seq <| .seq <| .region <| .cons (.mv rfl rfl) <| .nil <| ks_n <| .block <| .seq ?_
 refine ACode.cut [(.t 2, .v (.o (nat1 0))), (.t 3, .v (.o (nat1 k))), (.t 4, .v (.o (bo1 (decide (1 ≤ k ∧ k ≤ 3)))))] ?_ ?_
 ·skip
  refine .seq <| .region <| .cons (.eq rfl rfl rfl) <| .cons (.asg rfl rfl) <| .nil <| ks_n ?_
  refine .cD rfl (fun h4 => ?_) (fun h4 => ?_)
  ·skip
   refine .skip ?_
   exact kc_n (Wk.keep [] rfl rfl ⟨ks rfl .dt, ks rfl .dt, ks rfl (.dt (vB (by first | rfl | grind))), trivial⟩)
  ·skip
   refine .seq <| .region <| .cons (.eq rfl rfl rfl) <| .cons (.asg rfl rfl) <| .nil <| ks_n ?_
   refine .cD rfl (fun h4 => ?_) (fun h4 => ?_)
   ·skip
    refine .skip ?_
    exact kc_n (Wk.keep [] rfl rfl ⟨ks rfl .dt, ks rfl .dt, ks rfl (.dt (vB (by first | rfl | grind))), trivial⟩)
   ·skip
    refine .region <| .cons (.eq rfl rfl rfl) <| .cons (.asg rfl rfl) <| .nil ?_
    exact kc_n (Wk.keep [] rfl rfl ⟨ks rfl .dt, ks rfl .dt, ks rfl (.dt (vB (by first | rfl | grind))), trivial⟩)
 refine ks_n ?_
 refine ACode.condT rfl (fun h4 => ?_) (fun h4 => ?_)
 ·try simp only [zs1, zs2, zs3, zs4, zs5, zs6, zs7] at h4
  refine .seq <| .region <| .cons (.asg rfl rfl) <| .nil <| ks_n <| .ret <| kb_r <| ks_r ?_
  refine kf_ret rfl ?_ nobox
  first | exact leafI (by rw [if_pos h4]) | exact leafI (by rw [if_neg h4, if_pos h8]) | exact leafI (by rw [if_neg h4, if_neg h8])
 ·try simp only [zs1, zs2, zs3, zs4, zs5, zs6, zs7] at h4
  refine .seq ?_
  refine ACode.cut [(.t 2, .v (.o (nat1 0))), (.t 3, .v (.o (nat1 k))), (.t 8, .v (.o (bo1 (decide (4 ≤ k ∧ k ≤ 6)))))] ?_ ?_
  ·skip
   refine .seq <| .region <| .cons (.eq rfl rfl rfl) <| .cons (.asg rfl rfl) <| .nil <| ks_n ?_
   refine .cD rfl (fun h8 => ?_) (fun h8 => ?_)
   ·skip
    refine .skip ?_
    exact kc_n (Wk.keep [] rfl rfl ⟨ks rfl .dt, ks rfl .dt, ks rfl (.dt (vB (by first | rfl | grind))), trivial⟩)
   ·skip
    refine .seq <| .region <| .cons (.eq rfl rfl rfl) <| .cons (.asg rfl rfl) <| .nil <| ks_n ?_
    refine .cD rfl (fun h8 => ?_) (fun h8 => ?_)
    ·skip
     refine .skip ?_
     exact kc_n (Wk.keep [] rfl rfl ⟨ks rfl .dt, ks rfl .dt, ks rfl (.dt (vB (by first | rfl | grind))), trivial⟩)
    ·skip
     refine .region <| .cons (.eq rfl rfl rfl) <| .cons (.asg rfl rfl) <| .nil ?_
     exact kc_n (Wk.keep [] rfl rfl ⟨ks rfl .dt, ks rfl .dt, ks rfl (.dt (vB (by first | rfl | grind))), trivial⟩)
  refine ks_n ?_
  refine ACode.condT rfl (fun h8 => ?_) (fun h8 => ?_)
  ·try simp only [zs1, zs2, zs3, zs4, zs5, zs6, zs7] at h8
   refine .seq <| .region <| .cons (.asg rfl rfl) <| .nil <| ks_n <| .ret <| kb_r <| ks_r ?_
   refine kf_ret rfl ?_ nobox
   first | exact leafI (by rw [if_pos h4]) | exact leafI (by rw [if_neg h4, if_pos h8]) | exact leafI (by rw [if_neg h4, if_neg h8])
  ·try simp only [zs1, zs2, zs3, zs4, zs5, zs6, zs7] at h8
   refine .skip <| kb_n <| ks_n <| .seq <| .region <| .cons (.asg rfl rfl) <| .nil <| ks_n <| .ret ?_
   refine kf_ret rfl ?_ nobox
   first | exact leafI (by rw [if_pos h4]) | exact leafI (by rw [if_neg h4, if_pos h8]) | exact leafI (by rw [if_neg h4, if_neg h8])

theorem l3Access_fn (d : Nat) (a : Acc) (ha : a.2.length ≤ 1099511627776) : Fn Try.prog 48 [] [ad (rC a), nat1 (d : Nat)] (.o (bo1 (accV d a))) [] := by
 refine Fn.code0 Try.func48 rfl rfl rfl rfl ?_
 refine .seq <| .region <| .cons (St1.boxP rfl rfl rfl rfl rfl rfl) <| .cons (.asg rfl rfl) <| .nil <| ks_n <| .seq <| .seq <| .region <| .cons (.asg rfl rfl) <| .nil <| ks_n <| .block ?_
 refine .loopK (fun m σ => (∃ i : Nat, m = a.2.length - i ∧ (i ≤ a.2.length) ∧ (a.2.all (bndV d) = (a.2.drop i).all (bndV d)) ∧ σ = [(.t 1, .v (.o (nat1 (d : Nat)))), (.t 2, .v (.o (.c (.ptr (rC a))))), (.t 4, .v (.o (bo1 false))), (.t 5, .v (.o (nat1 (i : Nat))))])) [] ⟨0, rfl, by omega, by simp, rfl⟩ ⟨ks rfl .dt, ks rfl .dt, ks rfl .dt, ks rfl .dt, trivial⟩ ?_
 rintro m σ ⟨i, hm0, hi, hF, rfl⟩
 refine .seq <| .seq <| .region <| .cons (.mv rfl rfl) <| .cons (.fP 1 0 false rfl rfl) <| .cons (.l1 1 rfl rfl) <| .cons (.ln 37 2 32 rfl rfl rfl) <| .cons (.ls rfl rfl rfl) <| .nil <| ks_n ?_
 refine .cD rfl (fun h10 => ?_) (fun h10 => ?_)
 ·skip
  obtain ⟨x, hx1⟩ : ∃ x, a.2[i]? = some x := ⟨_, List.getElem?_eq_getElem (by omega)⟩
  refine .skip <| ks_n <| .seq <| .block <| .seq <| .region <| .cons (.fP 1 0 false rfl rfl) <| .cons (.l1 1 rfl rfl) <| .cons (.mv rfl rfl) <| .cons (.xL 37 2 32 rfl rfl rfl rfl rfl) ?_
  refine .cons (.lN 2 rfl rfl rfl) <| .cons (.cP [.tmp 17] rfl rfl rfl rfl (specAffV_fn x) rfl) ?_
  refine .cons (.nt rfl rfl) <| .cons (.mv rfl rfl) ?_
  refine AOps.cases 20 _ rfl (fun g20 => ?_) (fun g20 => ?_)
  ·try simp only [zs1, zs2, zs3, zs4, zs5, zs6, zs7] at g20
   refine .cons (.gF rfl rfl rfl) <| .cons (.gF rfl rfl rfl) <| .cons (.gF rfl rfl rfl) <| .cons (.gF rfl rfl rfl) <| .cons (.gF rfl rfl rfl) <| .cons (.gF rfl rfl rfl) <| .cons (.gF rfl rfl rfl) <| .cons (.gF rfl rfl rfl) <| .cons (.pT rfl rfl rfl) <| .nil <| ks_n ?_
   refine ACode.condT rfl (fun _ => ?_) (fun h => by first | (cases h; done) | (simp [*] at h; done) | (exfalso; simp_all; done))
   refine .seq ?_
   have g : bndV d x = false := bnd_no (by first | exact .inl (by assumption) | exact .inr (by omega))
   refine .region <| .cons (.asg rfl rfl) <| .nil <| ks_n <| .ret <| kb_r <| ks_r <| kl_r <| kb_r <| ks_r ?_
   refine kf_ret rfl ?_ nobox
   exact leafB (by rw [accV, sideV, hF, all_drop hx1, g, Bool.false_and, Bool.false_and, Bool.false_and, Bool.and_false])
  ·try simp only [zs1, zs2, zs3, zs4, zs5, zs6, zs7] at g20
   have g20 := g20
   refine .cons (.gT rfl rfl rfl (.fP 1 0 false rfl rfl)) <| .cons (.gT rfl rfl rfl (.l1 1 rfl rfl)) <| .cons (.gT rfl rfl rfl (.mv rfl rfl)) <| .cons (.gT rfl rfl rfl (.xL 37 2 32 rfl rfl rfl rfl rfl)) ?_
   refine .cons (.gT rfl rfl rfl (.lN 2 rfl rfl rfl)) <| .cons (.gT rfl rfl rfl (.cP [.tmp 25] rfl rfl rfl rfl (l1Depth_fn x) rfl)) ?_
   refine .cons (.gT rfl rfl rfl (.mv rfl rfl)) <| .cons (.gT rfl rfl rfl (.gt rfl rfl rfl)) <| .cons (.pF rfl rfl rfl) <| .nil <| ks_n ?_
   refine ACode.condT rfl (fun h29 => ?_) (fun h29 => ?_)
   ·try simp only [zs1, zs2, zs3, zs4, zs5, zs6, zs7] at h29
    refine .seq ?_
    have g : bndV d x = false := bnd_no (by first | exact .inl (by assumption) | exact .inr (by omega))
    refine .region <| .cons (.asg rfl rfl) <| .nil <| ks_n <| .ret <| kb_r <| ks_r <| kl_r <| kb_r <| ks_r ?_
    refine kf_ret rfl ?_ nobox
    exact leafB (by rw [accV, sideV, hF, all_drop hx1, g, Bool.false_and, Bool.false_and, Bool.false_and, Bool.and_false])
   ·try simp only [zs1, zs2, zs3, zs4, zs5, zs6, zs7] at h29
    replace h29 : ¬ d < affDepth x := by omega
    refine .skip <| kb_n <| ks_n <| .region <| .cons (.mv rfl rfl) <| .cons (.pl rfl rfl rfl) <| .cons (.asg rfl rfl) <| .nil ?_
    refine kl_k [] ⟨i + 1, rfl, by omega, by rw [hF, all_drop hx1, bnd_yes g20 h29, Bool.true_and], rfl⟩ ⟨ks rfl .dt, ks rfl .dt, ks rfl .dt, ks rfl .dt, trivial⟩
 ·skip
  have hA : a.2.all (bndV d) = true := by rw [hF, List.drop_of_length_le (by omega)]; rfl
  refine .exit <| ks_e <| kl_e <| kb_hit <| ks_n <| .seq <| .region <| .cons (.fP 0 0 false rfl rfl) <| .cons (.l1 1 rfl rfl) <| .cons (St1.lenS rfl rfl rfl rfl rfl (by kernel_rfl) rfl) ?_
  refine .cons (.eq rfl rfl rfl) <| .cons (.mv rfl rfl) ?_
  refine .cD 34 rfl (fun g34 => ?_) (fun g34 => ?_)
  ·skip
   have h1s : a.1.size = 1 := by omega
   have hAr := arr_leaf h1s
   refine .cons (.gT rfl rfl rfl (.fP 0 0 false rfl rfl)) <| .cons (.gT rfl rfl rfl (.l1 1 rfl rfl)) <| .cons (.gT rfl rfl rfl (St1.geS rfl rfl rfl)) <| .cons (.pT rfl rfl rfl) <| .cons (.mv rfl rfl) ?_
   refine AOps.cases 39 _ rfl (fun g39 => ?_) (fun g39 => ?_)
   ·try simp only [zs1, zs2, zs3, zs4, zs5, zs6, zs7] at g39
    refine .cons (.gT rfl rfl rfl (.fP 0 0 false rfl rfl)) <| .cons (.gT rfl rfl rfl (.l1 1 rfl rfl)) <| .cons (.gT rfl rfl rfl (St1.leS rfl rfl rfl)) <| .cons (.pT rfl rfl rfl) <| .cons (.mv rfl rfl) ?_
    refine AOps.cases 44 _ rfl (fun g44 => ?_) (fun g44 => ?_)
    ·try simp only [zs1, zs2, zs3, zs4, zs5, zs6, zs7] at g44
     refine .cons (.gT rfl rfl rfl (.fP 1 0 false rfl rfl)) <| .cons (.gT rfl rfl rfl (.l1 1 rfl rfl)) <| .cons (.gT rfl rfl rfl (.ln 37 2 32 rfl rfl rfl)) <| .cons (.gT rfl rfl rfl (.ge rfl rfl rfl)) <| .cons (.pT rfl rfl rfl) <| .cons (.mv rfl rfl) ?_
     refine AOps.cases 50 _ rfl (fun g50 => ?_) (fun g50 => ?_)
     ·try simp only [zs1, zs2, zs3, zs4, zs5, zs6, zs7] at g50
      refine .cons (.gT rfl rfl rfl (.fP 1 0 false rfl rfl)) <| .cons (.gT rfl rfl rfl (.l1 1 rfl rfl)) <| .cons (.gT rfl rfl rfl (.ln 37 2 32 rfl rfl rfl)) <| .cons (.gT rfl rfl rfl (.le rfl rfl rfl)) <| .cons (.pT rfl rfl rfl) <| .cons (.asg rfl rfl) <| .nil <| ks_n <| .ret ?_
      refine kf_ret rfl ?_ nobox
      exact leafB (by rw [accV, hAr, sideV, hA]; first | rfl | grind)
     ·try simp only [zs1, zs2, zs3, zs4, zs5, zs6, zs7] at g50
      refine .cons (.gF rfl rfl rfl) <| .cons (.gF rfl rfl rfl) <| .cons (.gF rfl rfl rfl) <| .cons (.gF rfl rfl rfl) <| .cons (.pF rfl rfl rfl) <| .cons (.asg rfl rfl) <| .nil <| ks_n <| .ret ?_
      refine kf_ret rfl ?_ nobox
      exact leafB (by rw [accV, hAr, sideV, hA]; first | rfl | grind)
    ·try simp only [zs1, zs2, zs3, zs4, zs5, zs6, zs7] at g44
     refine .cons (.gF rfl rfl rfl) <| .cons (.gF rfl rfl rfl) <| .cons (.gF rfl rfl rfl) <| .cons (.gF rfl rfl rfl) <| .cons (.pF rfl rfl rfl) <| .cons (.mv rfl rfl) <| .cons (.gF rfl rfl rfl) <| .cons (.gF rfl rfl rfl) <| .cons (.gF rfl rfl rfl) <| .cons (.gF rfl rfl rfl) <| .cons (.pF rfl rfl rfl) <| .cons (.asg rfl rfl) <| .nil <| ks_n <| .ret ?_
     refine kf_ret rfl ?_ nobox
     exact leafB (by rw [accV, hAr, sideV, hA]; first | rfl | grind)
   ·try simp only [zs1, zs2, zs3, zs4, zs5, zs6, zs7] at g39
    refine .cons (.gF rfl rfl rfl) <| .cons (.gF rfl rfl rfl) <| .cons (.gF rfl rfl rfl) <| .cons (.pF rfl rfl rfl) <| .cons (.mv rfl rfl) <| .cons (.gF rfl rfl rfl) <| .cons (.gF rfl rfl rfl) <| .cons (.gF rfl rfl rfl) <| .cons (.gF rfl rfl rfl) <| .cons (.pF rfl rfl rfl) <| .cons (.mv rfl rfl) <| .cons (.gF rfl rfl rfl) <| .cons (.gF rfl rfl rfl) <| .cons (.gF rfl rfl rfl) <| .cons (.gF rfl rfl rfl) <| .cons (.pF rfl rfl rfl) <| .cons (.asg rfl rfl) <| .nil <| ks_n <| .ret ?_
    refine kf_ret rfl ?_ nobox
    exact leafB (by rw [accV, hAr, sideV, hA]; first | rfl | grind)
  ·skip
   have hAr := arrV_size (s := a.1) (by omega)
   refine .cons (.gF rfl rfl rfl) <| .cons (.gF rfl rfl rfl) <| .cons (.gF rfl rfl rfl) <| .cons (.pF rfl rfl rfl) <| .cons (.mv rfl rfl) <| .cons (.gF rfl rfl rfl) <| .cons (.gF rfl rfl rfl) <| .cons (.gF rfl rfl rfl) <| .cons (.pF rfl rfl rfl) <| .cons (.mv rfl rfl) <| .cons (.gF rfl rfl rfl) <| .cons (.gF rfl rfl rfl) <| .cons (.gF rfl rfl rfl) <| .cons (.gF rfl rfl rfl) <| .cons (.pF rfl rfl rfl) <| .cons (.mv rfl rfl) <| .cons (.gF rfl rfl rfl) <| .cons (.gF rfl rfl rfl) <| .cons (.gF rfl rfl rfl) <| .cons (.gF rfl rfl rfl) <| .cons (.pF rfl rfl rfl) <| .cons (.asg rfl rfl) <| .nil <| ks_n <| .ret ?_
   refine kf_ret rfl ?_ nobox
   exact leafB (by rw [accV, hAr, sideV, hA]; first | rfl | grind)

theorem l3Own_fn (d : Nat) (e : Ex) (hr : e.r.2.length ≤ 1099511627776) : Fn Try.prog 81 [] [ad (rX e), nat1 (d : Nat)] (.o (bo1 (fldV d e.k e.n e.i e.r))) [] := by
  refine Fn.code0 Try.func81 rfl rfl rfl rfl ?_
  refine .seq <| .region <| .cons (St1.boxP rfl rfl rfl rfl rfl rfl) <| .cons (.asg rfl rfl) <| .nil <| ks_n <| .seq <| .seq <| .region <| .cons (.fP 0 0 false rfl rfl) <| .cons (.l1 1 rfl rfl) <| .cons (.eq rfl rfl rfl) <| .nil <| ks_n ?_
  refine .cD rfl (fun h7 => ?_) (fun h7 => ?_)
  · skip
    refine .seq <| .region <| .cons (.fP 1 0 false rfl rfl) <| .cons (.l1 1 rfl rfl) <| .cons (.eq rfl rfl rfl) <| .cons (.mv rfl rfl) ?_
    refine .cD 11 rfl (fun g11 => ?_) (fun g11 => ?_)
    · skip
      refine .cons (.gT rfl rfl rfl (.fP 4 1 true rfl rfl)) <| .cons (.gT rfl rfl rfl (.lN 2 rfl rfl rfl)) <| .cons (.gT rfl rfl rfl (.cP [.tmp 13] rfl rfl rfl rfl (l3Empty_fn _) rfl)) ?_
      refine .cons (.pT rfl rfl rfl) <| .cons (.mv rfl rfl) ?_
      refine AOps.cases 16 _ rfl (fun g16 => ?_) (fun g16 => ?_)
      · try simp only [zs1, zs2, zs3, zs4, zs5, zs6, zs7] at g16
        refine .cons (.gT rfl rfl rfl (.fP 2 1 true rfl rfl)) <| .cons (.gT rfl rfl rfl (.lN 2 rfl rfl rfl)) <| .cons (.gT rfl rfl rfl (.cP [.tmp 18] rfl rfl rfl rfl (specAffV_fn _) rfl)) ?_
        refine .cons (.pT rfl rfl rfl) <| .cons (.mv rfl rfl) ?_
        refine AOps.cases 21 _ rfl (fun g21 => ?_) (fun g21 => ?_)
        · try simp only [zs1, zs2, zs3, zs4, zs5, zs6, zs7] at g21
          refine .cons (.gT rfl rfl rfl (.fP 2 1 true rfl rfl)) <| .cons (.gT rfl rfl rfl (.lN 2 rfl rfl rfl)) <| .cons (.gT rfl rfl rfl (.cP [.tmp 23] rfl rfl rfl rfl (l1Depth_fn _) rfl)) ?_
          refine .cons (.gT rfl rfl rfl (.mv rfl rfl)) <| .cons (.gT rfl rfl rfl (.le rfl rfl rfl)) <| .cons (.pT rfl rfl rfl) <| .cons (.asg rfl rfl) <| .nil <| ks_n <| .ret <| ks_r ?_
          refine kf_ret rfl ?_ nobox
          exact leafB (by rw [fldV, if_neg (show ¬ e.k = 1 by omega), if_pos h7]; cases hA : affV e.i <;> cases hC : nonC e.r <;> first | rfl | grind)
        · try simp only [zs1, zs2, zs3, zs4, zs5, zs6, zs7] at g21
          refine .cons (.gF rfl rfl rfl) <| .cons (.gF rfl rfl rfl) <| .cons (.gF rfl rfl rfl) <| .cons (.gF rfl rfl rfl) <| .cons (.gF rfl rfl rfl) <| .cons (.pF rfl rfl rfl) <| .cons (.asg rfl rfl) <| .nil <| ks_n <| .ret <| ks_r ?_
          refine kf_ret rfl ?_ nobox
          exact leafB (by rw [fldV, if_neg (show ¬ e.k = 1 by omega), if_pos h7]; cases hA : affV e.i <;> cases hC : nonC e.r <;> first | rfl | grind)
      · try simp only [zs1, zs2, zs3, zs4, zs5, zs6, zs7] at g16
        refine .cons (.gF rfl rfl rfl) <| .cons (.gF rfl rfl rfl) <| .cons (.gF rfl rfl rfl) <| .cons (.pF rfl rfl rfl) <| .cons (.mv rfl rfl) <| .cons (.gF rfl rfl rfl) <| .cons (.gF rfl rfl rfl) <| .cons (.gF rfl rfl rfl) <| .cons (.gF rfl rfl rfl) <| .cons (.gF rfl rfl rfl) <| .cons (.pF rfl rfl rfl) <| .cons (.asg rfl rfl) <| .nil <| ks_n <| .ret <| ks_r ?_
        refine kf_ret rfl ?_ nobox
        exact leafB (by rw [fldV, if_neg (show ¬ e.k = 1 by omega), if_pos h7]; cases hA : affV e.i <;> cases hC : nonC e.r <;> first | rfl | grind)
    · skip
      refine .cons (.gF rfl rfl rfl) <| .cons (.gF rfl rfl rfl) <| .cons (.gF rfl rfl rfl) <| .cons (.pF rfl rfl rfl) <| .cons (.mv rfl rfl) <| .cons (.gF rfl rfl rfl) <| .cons (.gF rfl rfl rfl) <| .cons (.gF rfl rfl rfl) <| .cons (.pF rfl rfl rfl) <| .cons (.mv rfl rfl) <| .cons (.gF rfl rfl rfl) <| .cons (.gF rfl rfl rfl) <| .cons (.gF rfl rfl rfl) <| .cons (.gF rfl rfl rfl) <| .cons (.gF rfl rfl rfl) <| .cons (.pF rfl rfl rfl) <| .cons (.asg rfl rfl) <| .nil <| ks_n <| .ret <| ks_r ?_
      refine kf_ret rfl ?_ nobox
      exact leafB (by rw [fldV, if_neg (show ¬ e.k = 1 by omega), if_pos h7]; cases hA : affV e.i <;> cases hC : nonC e.r <;> first | rfl | grind)
  · skip
    refine .skip <| ks_n <| .seq <| .seq <| .region <| .cons (.fP 0 0 false rfl rfl) <| .cons (.l1 1 rfl rfl) <| .cons (.eq rfl rfl rfl) <| .nil <| ks_n ?_
    refine .cD rfl (fun h30 => ?_) (fun h30 => ?_)
    · skip
      refine .seq <| .region <| .cons (.fP 1 0 false rfl rfl) <| .cons (.l1 1 rfl rfl) <| .cons (.eq rfl rfl rfl) <| .cons (.mv rfl rfl) ?_
      refine .cD 34 rfl (fun g34 => ?_) (fun g34 => ?_)
      · skip
        refine .cons (.gT rfl rfl rfl (.fP 2 1 true rfl rfl)) <| .cons (.gT rfl rfl rfl (.lN 2 rfl rfl rfl)) <| .cons (.gT rfl rfl rfl (.cP [.tmp 36] rfl rfl rfl rfl (l3None_fn _) rfl)) ?_
        refine .cons (.pT rfl rfl rfl) <| .cons (.mv rfl rfl) ?_
        refine AOps.cases 39 _ rfl (fun g39 => ?_) (fun g39 => ?_)
        · try simp only [zs1, zs2, zs3, zs4, zs5, zs6, zs7] at g39
          refine .cons (.gT rfl rfl rfl (.fP 4 1 true rfl rfl)) <| .cons (.gT rfl rfl rfl (.lN 2 rfl rfl rfl)) <| .cons (.gT rfl rfl rfl (.mv rfl rfl)) <| .cons (.gT rfl rfl rfl (.cP [.tmp 41, .tmp 42] rfl rfl rfl rfl (l3Access_fn d _ hr) rfl)) ?_
          refine .cons (.pT rfl rfl rfl) <| .cons (.asg rfl rfl) <| .nil <| ks_n <| .ret <| ks_r ?_
          refine kf_ret rfl ?_ nobox
          exact leafB (by rw [fldV, if_neg (show ¬ e.k = 1 by omega), if_neg h7, if_pos h30]; cases hA : nonA e.i <;> cases hC : accV d e.r <;> first | rfl | grind)
        · try simp only [zs1, zs2, zs3, zs4, zs5, zs6, zs7] at g39
          refine .cons (.gF rfl rfl rfl) <| .cons (.gF rfl rfl rfl) <| .cons (.gF rfl rfl rfl) <| .cons (.gF rfl rfl rfl) <| .cons (.pF rfl rfl rfl) <| .cons (.asg rfl rfl) <| .nil <| ks_n <| .ret <| ks_r ?_
          refine kf_ret rfl ?_ nobox
          exact leafB (by rw [fldV, if_neg (show ¬ e.k = 1 by omega), if_neg h7, if_pos h30]; cases hA : nonA e.i <;> cases hC : accV d e.r <;> first | rfl | grind)
      · skip
        refine .cons (.gF rfl rfl rfl) <| .cons (.gF rfl rfl rfl) <| .cons (.gF rfl rfl rfl) <| .cons (.pF rfl rfl rfl) <| .cons (.mv rfl rfl) <| .cons (.gF rfl rfl rfl) <| .cons (.gF rfl rfl rfl) <| .cons (.gF rfl rfl rfl) <| .cons (.gF rfl rfl rfl) <| .cons (.pF rfl rfl rfl) <| .cons (.asg rfl rfl) <| .nil <| ks_n <| .ret <| ks_r ?_
        refine kf_ret rfl ?_ nobox
        exact leafB (by rw [fldV, if_neg (show ¬ e.k = 1 by omega), if_neg h7, if_pos h30]; cases hA : nonA e.i <;> cases hC : accV d e.r <;> first | rfl | grind)
    · skip
      refine .skip <| ks_n <| .seq <| .seq <| .region <| .cons (.fP 0 0 false rfl rfl) <| .cons (.l1 1 rfl rfl) <| .cons (.eq rfl rfl rfl) <| .nil <| ks_n ?_
      refine .cD rfl (fun h47 => ?_) (fun h47 => ?_)
      · skip
        refine .seq <| .region <| .cons (.fP 1 0 false rfl rfl) <| .cons (.l1 1 rfl rfl) <| .cons (.ge rfl rfl rfl) <| .cons (.mv rfl rfl) ?_
        refine .cD 51 rfl (fun g51 => ?_) (fun g51 => ?_)
        · skip
          refine .cons (.gT rfl rfl rfl (.fP 1 0 false rfl rfl)) <| .cons (.gT rfl rfl rfl (.l1 1 rfl rfl)) <| .cons (.gT rfl rfl rfl (.le rfl rfl rfl)) <| .cons (.pT rfl rfl rfl) <| .cons (.mv rfl rfl) ?_
          refine AOps.cases 56 _ rfl (fun g56 => ?_) (fun g56 => ?_)
          · try simp only [zs1, zs2, zs3, zs4, zs5, zs6, zs7] at g56
            refine .cons (.gT rfl rfl rfl (.fP 2 1 true rfl rfl)) <| .cons (.gT rfl rfl rfl (.lN 2 rfl rfl rfl)) <| .cons (.gT rfl rfl rfl (.cP [.tmp 58] rfl rfl rfl rfl (l3None_fn _) rfl)) ?_
            refine .cons (.pT rfl rfl rfl) <| .cons (.mv rfl rfl) ?_
            refine AOps.cases 61 _ rfl (fun g61 => ?_) (fun g61 => ?_)
            · try simp only [zs1, zs2, zs3, zs4, zs5, zs6, zs7] at g61
              refine .cons (.gT rfl rfl rfl (.fP 4 1 true rfl rfl)) <| .cons (.gT rfl rfl rfl (.lN 2 rfl rfl rfl)) <| .cons (.gT rfl rfl rfl (.cP [.tmp 63] rfl rfl rfl rfl (l3Empty_fn _) rfl)) ?_
              refine .cons (.pT rfl rfl rfl) <| .cons (.asg rfl rfl) <| .nil <| ks_n <| .ret <| ks_r ?_
              refine kf_ret rfl ?_ nobox
              exact leafB (by rw [fldV, if_pos h47, inB]; cases hA : nonA e.i <;> cases hC : nonC e.r <;> first | rfl | grind)
            · try simp only [zs1, zs2, zs3, zs4, zs5, zs6, zs7] at g61
              refine .cons (.gF rfl rfl rfl) <| .cons (.gF rfl rfl rfl) <| .cons (.gF rfl rfl rfl) <| .cons (.pF rfl rfl rfl) <| .cons (.asg rfl rfl) <| .nil <| ks_n <| .ret <| ks_r ?_
              refine kf_ret rfl ?_ nobox
              exact leafB (by rw [fldV, if_pos h47, inB]; cases hA : nonA e.i <;> cases hC : nonC e.r <;> first | rfl | grind)
          · try simp only [zs1, zs2, zs3, zs4, zs5, zs6, zs7] at g56
            refine .cons (.gF rfl rfl rfl) <| .cons (.gF rfl rfl rfl) <| .cons (.gF rfl rfl rfl) <| .cons (.pF rfl rfl rfl) <| .cons (.mv rfl rfl) <| .cons (.gF rfl rfl rfl) <| .cons (.gF rfl rfl rfl) <| .cons (.gF rfl rfl rfl) <| .cons (.pF rfl rfl rfl) <| .cons (.asg rfl rfl) <| .nil <| ks_n <| .ret <| ks_r ?_
            refine kf_ret rfl ?_ nobox
            exact leafB (by rw [fldV, if_pos h47, inB]; cases hA : nonA e.i <;> cases hC : nonC e.r <;> first | rfl | grind)
        · skip
          refine .cons (.gF rfl rfl rfl) <| .cons (.gF rfl rfl rfl) <| .cons (.gF rfl rfl rfl) <| .cons (.pF rfl rfl rfl) <| .cons (.mv rfl rfl) <| .cons (.gF rfl rfl rfl) <| .cons (.gF rfl rfl rfl) <| .cons (.gF rfl rfl rfl) <| .cons (.pF rfl rfl rfl) <| .cons (.mv rfl rfl) <| .cons (.gF rfl rfl rfl) <| .cons (.gF rfl rfl rfl) <| .cons (.gF rfl rfl rfl) <| .cons (.pF rfl rfl rfl) <| .cons (.asg rfl rfl) <| .nil <| ks_n <| .ret <| ks_r ?_
          refine kf_ret rfl ?_ nobox
          exact leafB (by rw [fldV, if_pos h47, inB]; cases hA : nonA e.i <;> cases hC : nonC e.r <;> first | rfl | grind)
      · skip
        refine .skip <| ks_n <| .seq <| .region <| .cons (.fP 1 0 false rfl rfl) <| .cons (.l1 1 rfl rfl) <| .cons (.eq rfl rfl rfl) <| .cons (.mv rfl rfl) ?_
        refine .cD 69 rfl (fun g69 => ?_) (fun g69 => ?_)
        · skip
          refine .cons (.gT rfl rfl rfl (.fP 2 1 true rfl rfl)) <| .cons (.gT rfl rfl rfl (.lN 2 rfl rfl rfl)) <| .cons (.gT rfl rfl rfl (.cP [.tmp 71] rfl rfl rfl rfl (l3None_fn _) rfl)) ?_
          refine .cons (.pT rfl rfl rfl) <| .cons (.mv rfl rfl) ?_
          refine AOps.cases 74 _ rfl (fun g74 => ?_) (fun g74 => ?_)
          · try simp only [zs1, zs2, zs3, zs4, zs5, zs6, zs7] at g74
            refine .cons (.gT rfl rfl rfl (.fP 4 1 true rfl rfl)) <| .cons (.gT rfl rfl rfl (.lN 2 rfl rfl rfl)) <| .cons (.gT rfl rfl rfl (.cP [.tmp 76] rfl rfl rfl rfl (l3Empty_fn _) rfl)) ?_
            refine .cons (.pT rfl rfl rfl) <| .cons (.asg rfl rfl) <| .nil <| ks_n <| .ret ?_
            refine kf_ret rfl ?_ nobox
            exact leafB (by rw [fldV, if_neg h47, if_neg h7, if_neg h30]; cases hA : nonA e.i <;> cases hC : nonC e.r <;> first | rfl | grind)
          · try simp only [zs1, zs2, zs3, zs4, zs5, zs6, zs7] at g74
            refine .cons (.gF rfl rfl rfl) <| .cons (.gF rfl rfl rfl) <| .cons (.gF rfl rfl rfl) <| .cons (.pF rfl rfl rfl) <| .cons (.asg rfl rfl) <| .nil <| ks_n <| .ret ?_
            refine kf_ret rfl ?_ nobox
            exact leafB (by rw [fldV, if_neg h47, if_neg h7, if_neg h30]; cases hA : nonA e.i <;> cases hC : nonC e.r <;> first | rfl | grind)
        · skip
          refine .cons (.gF rfl rfl rfl) <| .cons (.gF rfl rfl rfl) <| .cons (.gF rfl rfl rfl) <| .cons (.pF rfl rfl rfl) <| .cons (.mv rfl rfl) <| .cons (.gF rfl rfl rfl) <| .cons (.gF rfl rfl rfl) <| .cons (.gF rfl rfl rfl) <| .cons (.pF rfl rfl rfl) <| .cons (.asg rfl rfl) <| .nil <| ks_n <| .ret ?_
          refine kf_ret rfl ?_ nobox
          exact leafB (by rw [fldV, if_neg h47, if_neg h7, if_neg h30]; cases hA : nonA e.i <;> cases hC : nonC e.r <;> first | rfl | grind)

theorem shape_zero (d : Nat) (lv : Int) (hl : lv < 1) (e : Ex) (hr : e.r.2.length ≤ 1099511627776) (hkl : e.ks.length ≤ 1099511627776) : Fn Try.prog 49 [] [ad (rX e), nat1 (d : Nat), nat1 lv] (.o (bo1 false)) [] := by
 refine Fn.code0 Try.func49 rfl rfl rfl rfl ?_
 refine .seq <| .region <| .cons (St1.boxP rfl rfl rfl rfl rfl rfl) <| .cons (.asg rfl rfl) <| .nil <| ks_n <| .seq <| .seq ?_
 refine ACode.drawK (by kernel_rfl) (by kernel_rfl) ?_
 refine .cons (.mv rfl rfl) <| .cons (.ls rfl rfl rfl) <| .cons (.mv rfl rfl) ?_
 refine .cD 10 rfl (fun g10 => ?_) (fun g10 => ?_)
 ·skip
  refine .cons (.gF rfl rfl rfl) <| .cons (.gF rfl rfl rfl) <| .cons (.gF rfl rfl rfl) <| .cons (.gF rfl rfl rfl) <| .cons (.gF rfl rfl rfl) <| .cons (.gF rfl rfl rfl) <| .cons (.gF rfl rfl rfl) <| .cons (.pT rfl rfl rfl) <| .cons (.mv rfl rfl) <| .cons (.gF rfl rfl rfl) <| .cons (.gF rfl rfl rfl) <| .cons (.gF rfl rfl rfl) <| .cons (.gF rfl rfl rfl) <| .cons (.pT rfl rfl rfl) ?_
  refine .nil ⟨by kernel_rfl, ?_⟩
  refine ks_n ?_
  refine ACode.condT rfl (fun _ => ?_) (fun h => by first | (cases h; done) | (simp [*] at h; done) | (exfalso; simp_all; done))
  refine .seq <| .region <| .cons (.asg rfl rfl) <| .nil <| ks_n <| .ret <| ks_r ?_
  refine kf_ret rfl ?_ nobox
  rfl
 ·skip
  exact absurd hl g10

theorem shape_succ (d L : Nat) (lv : Int) (hl : ¬ lv < 1) (hl2 : lv ≤ 100) (e : Ex) (hr : e.r.2.length ≤ 1099511627776) (hkl : e.ks.length ≤ 1099511627776) (ih : ∀ x ∈ e.ks, Fn Try.prog 49 [] [ad (rX x), nat1 (d : Nat), nat1 (lv - 1)] (.o (bo1 (exV d L x))) []) : Fn Try.prog 49 [] [ad (rX e), nat1 (d : Nat), nat1 lv] (.o (bo1 (exV d (L + 1) e))) [] := by
 refine Fn.code0 Try.func49 rfl rfl rfl rfl ?_
 refine .seq <| .region <| .cons (St1.boxP rfl rfl rfl rfl rfl rfl) <| .cons (.asg rfl rfl) <| .nil <| ks_n <| .seq <| .seq ?_
 refine ACode.cut [(.t 1, .v (.o (nat1 (d : Nat)))), (.t 2, .v (.o (nat1 lv))), (.t 3, .v (.o (.c (.ptr (rX e))))), (.t 6, .v (.o (bo1 false))), (.t 24, .v (.o (bo1 (!(kidV e.k e.ks.length && fldV d e.k e.n e.i e.r)))))] ?_ ?_
 ·skip
  refine ACode.drawK (by kernel_rfl) (by kernel_rfl) ?_
  refine .cons (.mv rfl rfl) <| .cons (.ls rfl rfl rfl) <| .cons (.mv rfl rfl) ?_
  refine .cD 10 rfl (fun g10 => ?_) (fun g10 => ?_)
  ·skip
   exact absurd g10 hl
  ·skip
   refine .cons (.gT rfl rfl rfl (.fP 0 0 false rfl rfl)) <| .cons (.gT rfl rfl rfl (.l1 1 rfl rfl)) <| .cons (.gT rfl rfl rfl (.cP [.tmp 12] rfl rfl rfl rfl (l3Kids_fn _) rfl)) ?_
   refine .cons (.gT rfl rfl rfl (.fP 6 0 false rfl rfl)) <| .cons (.gT rfl rfl rfl (.l1 1 rfl rfl)) <| .cons (.gT rfl rfl rfl (.ln 40 7 112 rfl rfl rfl)) <| .cons (.gT rfl rfl rfl (.ne rfl rfl rfl)) <| .cons (.pF rfl rfl rfl) <| .cons (.mv rfl rfl) ?_
   refine RunK.cases 19 _ rfl (fun g19 => ?_) (fun g19 => ?_)
   ·try simp only [zs1, zs2, zs3, zs4, zs5, zs6, zs7] at g19
    refine .cons (.gF rfl rfl rfl) <| .cons (.gF rfl rfl rfl) <| .cons (.gF rfl rfl rfl) <| .cons (.gF rfl rfl rfl) <| .cons (.pT rfl rfl rfl) ?_
    refine .nil ⟨by kernel_rfl, ?_⟩
    exact kc_n (Wk.keep [] rfl rfl ⟨ks rfl .dt, ks rfl .dt, ks rfl .dt, ks rfl .dt, ks rfl (.dt (vB (by rw [kids_eq]; first | rfl | grind))), trivial⟩)
   ·try simp only [zs1, zs2, zs3, zs4, zs5, zs6, zs7] at g19
    refine .cons (.gT rfl rfl rfl (.lN 7 rfl rfl rfl)) <| .cons (.gT rfl rfl rfl (.mv rfl rfl)) <| .cons (.gT rfl rfl rfl (.cP [.tmp 20, .tmp 21] rfl rfl rfl rfl (l3Own_fn d e hr) rfl)) ?_
    refine .cons (.gT rfl rfl rfl (.nt rfl rfl)) <| .cons (.pF rfl rfl rfl) ?_
    refine .nil ⟨by kernel_rfl, ?_⟩
    exact kc_n (Wk.keep [] rfl rfl ⟨ks rfl .dt, ks rfl .dt, ks rfl .dt, ks rfl .dt, ks rfl (.dt (vB (by rw [kids_eq]; first | rfl | grind))), trivial⟩)
 refine ks_n ?_
 refine ACode.condT rfl (fun h24 => ?_) (fun h24 => ?_)
 ·try simp only [zs1, zs2, zs3, zs4, zs5, zs6, zs7] at h24
  refine .seq <| .region <| .cons (.asg rfl rfl) <| .nil <| ks_n <| .ret <| ks_r ?_
  refine kf_ret rfl ?_ nobox
  exact leafB (by rw [exV, h24]; rfl)
 ·try simp only [zs1, zs2, zs3, zs4, zs5, zs6, zs7] at h24
  refine .skip <| ks_n <| .seq <| .seq <| .region <| .cons (.asg rfl rfl) <| .nil <| ks_n <| .block ?_
  refine .loopK (fun m σ => (∃ i : Nat, m = e.ks.length - i ∧ (i ≤ e.ks.length) ∧ (e.ks.all (exV d L) = (e.ks.drop i).all (exV d L)) ∧ σ = [(.t 1, .v (.o (nat1 (d : Nat)))), (.t 2, .v (.o (nat1 lv))), (.t 3, .v (.o (.c (.ptr (rX e))))), (.t 6, .v (.o (bo1 false))), (.t 7, .v (.o (nat1 (i : Nat))))])) [] ⟨0, rfl, by omega, by simp, rfl⟩ ⟨ks rfl .dt, ks rfl .dt, ks rfl .dt, ks rfl .dt, ks rfl .dt, trivial⟩ ?_
  rintro m σ ⟨i, hm0, hi, hF, rfl⟩
  refine .seq <| .seq <| .region <| .cons (.mv rfl rfl) <| .cons (.fP 6 0 false rfl rfl) <| .cons (.l1 1 rfl rfl) <| .cons (.ln 40 7 112 rfl rfl rfl) <| .cons (.ls rfl rfl rfl) <| .nil <| ks_n ?_
  refine .cD rfl (fun h29 => ?_) (fun h29 => ?_)
  ·skip
   obtain ⟨x, hx1⟩ : ∃ x, e.ks[i]? = some x := ⟨_, List.getElem?_eq_getElem (by omega)⟩
   refine .skip <| ks_n <| .seq <| .block <| .seq <| .region <| .cons (.fP 6 0 false rfl rfl) <| .cons (.l1 1 rfl rfl) <| .cons (.mv rfl rfl) <| .cons (.xL 40 7 112 rfl rfl rfl rfl rfl (rE_at hx1)) ?_
   refine .cons (.lN 7 rfl rfl rfl) <| .cons (.mv rfl rfl) <| .cons (.mv rfl rfl) <| .cons (.sb rfl rfl rfl) <| .cons (.cP [.tmp 36, .tmp 37, .tmp 39] rfl rfl rfl rfl (ih x (List.mem_of_getElem? hx1)) rfl) ?_
   refine .cons (.nt rfl rfl) <| .nil <| ks_n ?_
   refine ACode.condT rfl (fun h41 => ?_) (fun h41 => ?_)
   ·try simp only [zs1, zs2, zs3, zs4, zs5, zs6, zs7] at h41
    refine .seq <| .region <| .cons (.asg rfl rfl) <| .nil <| ks_n <| .ret <| kb_r <| ks_r <| kl_r <| kb_r <| ks_r ?_
    refine kf_ret rfl ?_ nobox
    exact leafB (by rw [exV, h24, hF, all_drop hx1, h41]; rfl)
   ·try simp only [zs1, zs2, zs3, zs4, zs5, zs6, zs7] at h41
    refine .skip <| kb_n <| ks_n <| .region <| .cons (.mv rfl rfl) <| .cons (.pl rfl rfl rfl) <| .cons (.asg rfl rfl) <| .nil ?_
    refine kl_k [] ⟨i + 1, rfl, by omega, by rw [hF, all_drop hx1, h41, Bool.true_and], rfl⟩ ⟨ks rfl .dt, ks rfl .dt, ks rfl .dt, ks rfl .dt, ks rfl .dt, trivial⟩
  ·skip
   refine .exit <| ks_e <| kl_e <| kb_hit <| ks_n <| .seq <| .region <| .cons (.asg rfl rfl) <| .nil <| ks_n <| .ret ?_
   refine kf_ret rfl ?_ nobox
   exact leafB (by rw [exV, h24, hF, List.drop_of_length_le (by omega)]; rfl)

theorem szE_parts {e : Ex} (hs : szE e ≤ 1099511627776) : e.i.1.length ≤ 1099511627776 ∧ e.r.2.length ≤ 1099511627776 ∧ e.ks.length ≤ 1099511627776 ∧ ∀ x ∈ e.ks, szE x ≤ 1099511627776 := by
  rw [szE_eq, szC] at hs
  have := szAs_len e.r.2
  exact ⟨by omega, by omega, by omega, fun x hx => by have := szEs_mem hx; omega⟩
theorem l3Shape_fn (d : Nat) : ∀ (L : Nat) (lv : Int) (e : Ex), lv = (L : Int) → L ≤ 100 → szE e ≤ 1099511627776 → Fn Try.prog 49 [] [ad (rX e), nat1 (d : Nat), nat1 lv] (.o (bo1 (exV d L e))) []
  | 0, lv, e, hd, hL, hs => shape_zero d lv (by omega) e (szE_parts hs).2.1 (szE_parts hs).2.2.1
  | L + 1, lv, e, hd, hL, hs => shape_succ d L lv (by omega) (by omega) e (szE_parts hs).2.1 (szE_parts hs).2.2.1 fun x hx => l3Shape_fn d L (lv - 1) x (by omega) (by omega) ((szE_parts hs).2.2.2 x hx)
theorem cntEs_take {l : List Ex} {i : Nat} {x : Ex} (h : l[i]? = some x) : cntEs (l.take (i + 1)) = cntEs (l.take i) + cntE x := by
  have key : ∀ (a : List Ex) (x : Ex), cntEs (a ++ [x]) = cntEs a + cntE x := by
    intro a x
    induction a with
    | nil => simp [cntEs]
    | cons y a ih => rw [List.cons_append, cntEs, cntEs, ih]; omega
  rw [List.take_add_one, h]
  exact key _ _
theorem cnt_bd {d : Nat} : ∀ {L : Nat} {e : Ex}, exV d L e = true → cntE e + 1 ≤ 2 ^ L
  | 0, e, h => by cases h
  | L + 1, e, h => by
    rw [exV, Bool.and_eq_true, Bool.and_eq_true] at h
    rw [cntE_eq]
    have hp : 1 ≤ 2 ^ L := Nat.one_le_two_pow
    rcases kidV_len h.1.1 with h1 | h1
    · rw [List.eq_nil_of_length_eq_zero h1, cntEs, Nat.pow_succ]; omega
    · obtain ⟨x, y, h2⟩ := two_of h1
      have h3 := h.2
      rw [h2, List.all_cons, List.all_cons, Bool.and_eq_true, Bool.and_eq_true] at h3
      have := cnt_bd h3.1
      have := cnt_bd h3.2.1
      rw [h2, cntEs, cntEs, cntEs, Nat.pow_succ]; omega
theorem exV_kids {d L : Nat} {e : Ex} (h : exV d L e = true) : e.ks.length ≤ 2 ∧ ∀ x ∈ e.ks, exV d (L - 1) x = true := by
  cases L with
  | zero => cases h
  | succ L =>
    rw [exV, Bool.and_eq_true, Bool.and_eq_true] at h
    exact ⟨by have := kidV_len h.1.1; omega, fun x hx => List.all_eq_true.1 h.2 x hx⟩

theorem l3Count_one (d L : Nat) (lv : Int) (hl : 0 < lv) (hl2 : lv ≤ 100) (e : Ex) (hk2 : e.ks.length ≤ 2) (hb : ∀ x ∈ e.ks, cntE x ≤ 1000) (ih : ∀ x ∈ e.ks, Fn Try.prog 50 [] [ad (rX x), nat1 (lv - 1)] (.o (nat1 (cntE x : Nat))) []) : Fn Try.prog 50 [] [ad (rX e), nat1 lv] (.o (nat1 (cntE e : Nat))) [] := by
 refine Fn.code0 Try.func50 rfl rfl rfl rfl ?_
 refine .seq <| .region <| .cons (St1.boxP rfl rfl rfl rfl rfl rfl) <| .cons (.asg rfl rfl) <| .nil <| ks_n <| .seq <| .region <| .cons (.asg rfl rfl) <| .nil <| ks_n <| .seq <| .seq <| .region <| .cons (.asg rfl rfl) <| .nil <| ks_n <| .block ?_
 refine .loopK (fun m σ => (∃ i : Nat, m = e.ks.length - i ∧ (i ≤ e.ks.length) ∧ (cntEs (e.ks.take i) ≤ 1000 * i) ∧ σ = [(.t 1, .v (.o (nat1 lv))), (.t 2, .v (.o (.c (.ptr (rX e))))), (.t 5, .v (.o (nat1 ((1 + cntEs (e.ks.take i) : Nat))))), (.t 6, .v (.o (nat1 (i : Nat))))])) [] ⟨0, rfl, by omega, by simp [cntEs], rfl⟩ ⟨ks rfl .dt, ks rfl .dt, ks rfl (.dt (vI (by first | (simp [cntEs]; done) | (rw [cntEs_take hx1]; omega)))), ks rfl .dt, trivial⟩ ?_
 rintro m σ ⟨i, hm0, hi, hF, rfl⟩
 refine .seq <| .seq <| .region <| .cons (.mv rfl rfl) <| .cons (.fP 6 0 false rfl rfl) <| .cons (.l1 1 rfl rfl) <| .cons (.ln 40 7 112 rfl rfl rfl) <| .cons (.ls rfl rfl rfl) <| .cons (.mv rfl rfl) ?_
 refine .cD 12 rfl (fun g12 => ?_) (fun g12 => ?_)
 ·skip
  obtain ⟨x, hx1⟩ : ∃ x, e.ks[i]? = some x := ⟨_, List.getElem?_eq_getElem (by omega)⟩
  have hbx := hb x (List.mem_of_getElem? hx1)
  refine .cons (.gT rfl rfl rfl (.mv rfl rfl)) <| .cons (.gT rfl rfl rfl (.gt rfl rfl rfl)) <| .cons (.pT rfl rfl rfl) <| .nil <| ks_n ?_
  refine ACode.condT rfl (fun h15 => ?_) (fun h15 => ?_)
  ·try simp only [zs1, zs2, zs3, zs4, zs5, zs6, zs7] at h15
   refine .skip <| ks_n <| .seq <| .block <| .region <| .cons (.mv rfl rfl) <| .cons (.fP 6 0 false rfl rfl) <| .cons (.l1 1 rfl rfl) <| .cons (.mv rfl rfl) <| .cons (.xL 40 7 112 rfl rfl rfl rfl rfl (rE_at hx1)) ?_
   refine .cons (.lN 7 rfl rfl rfl) <| .cons (.mv rfl rfl) <| .cons (.sb rfl rfl rfl) <| .cons (.cP [.tmp 23, .tmp 25] rfl rfl rfl rfl (ih x (List.mem_of_getElem? hx1)) rfl) ?_
   refine .cons (.pl rfl rfl rfl) <| .cons (.asg rfl rfl) <| .nil <| kb_n <| ks_n <| .region <| .cons (.mv rfl rfl) <| .cons (.pl rfl rfl rfl) <| .cons (.asg rfl rfl) <| .nil ?_
   refine kl_k [] ⟨i + 1, rfl, by omega, by rw [cntEs_take hx1]; omega, rfl⟩ ⟨ks rfl .dt, ks rfl .dt, ks rfl (.dt (vI (by first | (simp [cntEs]; done) | (rw [cntEs_take hx1]; omega)))), ks rfl .dt, trivial⟩
  ·try simp only [zs1, zs2, zs3, zs4, zs5, zs6, zs7] at h15
   exact absurd hl h15
 ·skip
  have hall : e.ks.take i = e.ks := List.take_of_length_le (by omega)
  refine .cons (.gF rfl rfl rfl) <| .cons (.gF rfl rfl rfl) <| .cons (.pF rfl rfl rfl) <| .nil <| ks_n ?_
  refine ACode.condT rfl (fun h => by first | (cases h; done) | (simp [*] at h; done) | (exfalso; simp_all; done)) (fun _ => ?_)
  refine .exit <| ks_e <| kl_e <| kb_hit <| ks_n <| .seq <| .region <| .cons (.mv rfl rfl) <| .cons (.asg rfl rfl) <| .nil <| ks_n <| .ret ?_
  refine kf_ret rfl ?_ nobox
  exact leafI (by rw [cntE_eq, hall])

theorem l3Count_fn (d : Nat) : ∀ (L : Nat) (lv : Int) (e : Ex), lv = (L : Int) → L ≤ 6 → exV d L e = true → Fn Try.prog 50 [] [ad (rX e), nat1 lv] (.o (nat1 (cntE e : Nat))) []
  | 0, lv, e, hd, hL, h => by cases h
  | L + 1, lv, e, hd, hL, h => l3Count_one d L lv (by omega) (by omega) e (exV_kids h).1 (fun x hx => by
      have h1 := cnt_bd ((exV_kids h).2 x hx)
      have h2 : 2 ^ (L + 1 - 1) ≤ 2 ^ 6 := Nat.pow_le_pow_right (by omega) (by omega)
      omega) fun x hx => l3Count_fn d L (lv - 1) x (by omega) (by omega) ((exV_kids h).2 x hx)
theorem l3Access_fi {d : Int} (h : ((d.toNat : Nat) : Int) = d) (a : Acc) (ha : a.2.length ≤ 1099511627776) : Fn Try.prog 48 [] [ad (rC a), nat1 d] (.o (bo1 (accV d.toNat a))) [] := by
  have h2 := l3Access_fn d.toNat a ha
  rw [h] at h2; exact h2
theorem l3Shape_fi {d : Int} (h : ((d.toNat : Nat) : Int) = d) (e : Ex) (hs : szE e ≤ 1099511627776) : Fn Try.prog 49 [] [ad (rX e), nat1 d, nat1 5] (.o (bo1 (exV d.toNat 5 e))) [] := by
  have h2 := l3Shape_fn d.toNat 5 5 e rfl (by omega) hs
  rw [h] at h2; exact h2

theorem specStmtV_fn (d : Int) (s : Stm) (hs : szS s ≤ 1099511627776) : Fn Try.prog 19 [] [ad (rS s), nat1 d] (.o (bo1 (stmtV d s))) [] := by
 obtain ⟨hs1, hs2⟩ := szS_parts hs
 refine Fn.code0 Try.func19 rfl rfl rfl rfl ?_
 refine .seq <| .region <| .cons (St1.boxP rfl rfl rfl rfl rfl rfl) <| .cons (.asg rfl rfl) <| .nil <| ks_n <| .seq <| .seq ?_
 refine ACode.cut [(.t 2, .v (.o (.c (.ptr (rS s))))), (.t 4, .v (.o (bo1 false))), (.t 24, .v (.o (bo1 (!(inB d 0 4 && (accV d.toNat s.1 && exV d.toNat 5 s.2))))))] ?_ ?_
 ·skip
  refine .region <| .cons (.mv rfl rfl) <| .cons (.ls rfl rfl rfl) <| .cons (.mv rfl rfl) ?_
  refine .cD 7 rfl (fun g7 => ?_) (fun g7 => ?_)
  ·skip
   refine .cons (.gF rfl rfl rfl) <| .cons (.gF rfl rfl rfl) <| .cons (.pT rfl rfl rfl) <| .cons (.mv rfl rfl) <| .cons (.gF rfl rfl rfl) <| .cons (.gF rfl rfl rfl) <| .cons (.gF rfl rfl rfl) <| .cons (.gF rfl rfl rfl) <| .cons (.gF rfl rfl rfl) <| .cons (.pT rfl rfl rfl) <| .cons (.mv rfl rfl) <| .cons (.gF rfl rfl rfl) <| .cons (.gF rfl rfl rfl) <| .cons (.gF rfl rfl rfl) <| .cons (.gF rfl rfl rfl) <| .cons (.gF rfl rfl rfl) <| .cons (.pT rfl rfl rfl) <| .nil ?_
   exact kc_n (Wk.keep [] rfl rfl ⟨ks rfl .dt, ks rfl .dt, ks rfl (.dt (vB (by rw [inB]; cases hq1 : accV d.toNat s.1 <;> cases hq2 : exV d.toNat 5 s.2 <;> first | rfl | grind))), trivial⟩)
  ·skip
   refine .cons (.gT rfl rfl rfl (.mv rfl rfl)) <| .cons (.gT rfl rfl rfl (.gt rfl rfl rfl)) <| .cons (.pF rfl rfl rfl) <| .cons (.mv rfl rfl) ?_
   refine AOps.cases 11 _ rfl (fun g11 => ?_) (fun g11 => ?_)
   ·try simp only [zs1, zs2, zs3, zs4, zs5, zs6, zs7] at g11
    refine .cons (.gF rfl rfl rfl) <| .cons (.gF rfl rfl rfl) <| .cons (.gF rfl rfl rfl) <| .cons (.gF rfl rfl rfl) <| .cons (.gF rfl rfl rfl) <| .cons (.pT rfl rfl rfl) <| .cons (.mv rfl rfl) <| .cons (.gF rfl rfl rfl) <| .cons (.gF rfl rfl rfl) <| .cons (.gF rfl rfl rfl) <| .cons (.gF rfl rfl rfl) <| .cons (.gF rfl rfl rfl) <| .cons (.pT rfl rfl rfl) <| .nil ?_
    exact kc_n (Wk.keep [] rfl rfl ⟨ks rfl .dt, ks rfl .dt, ks rfl (.dt (vB (by rw [inB]; cases hq1 : accV d.toNat s.1 <;> cases hq2 : exV d.toNat 5 s.2 <;> first | rfl | grind))), trivial⟩)
   ·try simp only [zs1, zs2, zs3, zs4, zs5, zs6, zs7] at g11
    have hD : ((d.toNat : Nat) : Int) = d := by omega
    refine .cons (.gT rfl rfl rfl (.fP 0 1 true rfl rfl)) <| .cons (.gT rfl rfl rfl (.lN 2 rfl rfl rfl)) <| .cons (.gT rfl rfl rfl (.mv rfl rfl)) <| .cons (.gT rfl rfl rfl (.cP [.tmp 13, .tmp 14] rfl rfl rfl rfl (l3Access_fi hD s.1 hs1) rfl)) ?_
    refine .cons (.gT rfl rfl rfl (.nt rfl rfl)) <| .cons (.pF rfl rfl rfl) <| .cons (.mv rfl rfl) ?_
    refine AOps.cases 18 _ rfl (fun g18 => ?_) (fun g18 => ?_)
    ·try simp only [zs1, zs2, zs3, zs4, zs5, zs6, zs7] at g18
     refine .cons (.gF rfl rfl rfl) <| .cons (.gF rfl rfl rfl) <| .cons (.gF rfl rfl rfl) <| .cons (.gF rfl rfl rfl) <| .cons (.gF rfl rfl rfl) <| .cons (.pT rfl rfl rfl) <| .nil ?_
     exact kc_n (Wk.keep [] rfl rfl ⟨ks rfl .dt, ks rfl .dt, ks rfl (.dt (vB (by rw [inB]; cases hq1 : accV d.toNat s.1 <;> cases hq2 : exV d.toNat 5 s.2 <;> first | rfl | grind))), trivial⟩)
    ·try simp only [zs1, zs2, zs3, zs4, zs5, zs6, zs7] at g18
     refine .cons (.gT rfl rfl rfl (.fP 2 6 true rfl rfl)) <| .cons (.gT rfl rfl rfl (.lN 7 rfl rfl rfl)) <| .cons (.gT rfl rfl rfl (.mv rfl rfl)) <| .cons (.gT rfl rfl rfl (.cP [.tmp 20, .tmp 21, .const (.int .i64 (5))] rfl rfl rfl rfl (l3Shape_fi hD s.2 hs2) rfl)) ?_
     refine .cons (.gT rfl rfl rfl (.nt rfl rfl)) <| .cons (.pF rfl rfl rfl) <| .nil ?_
     exact kc_n (Wk.keep [] rfl rfl ⟨ks rfl .dt, ks rfl .dt, ks rfl (.dt (vB (by rw [inB]; cases hq1 : accV d.toNat s.1 <;> cases hq2 : exV d.toNat 5 s.2 <;> first | rfl | grind))), trivial⟩)
 refine ks_n ?_
 refine ACode.condT rfl (fun h24 => ?_) (fun h24 => ?_)
 ·try simp only [zs1, zs2, zs3, zs4, zs5, zs6, zs7] at h24
  refine .seq <| .region <| .cons (.asg rfl rfl) <| .nil <| ks_n <| .ret <| ks_r ?_
  refine kf_ret rfl ?_ nobox
  exact leafB (by rw [stmtV, ← Bool.and_assoc, h24]; rfl)
 ·try simp only [zs1, zs2, zs3, zs4, zs5, zs6, zs7] at h24
  have hX : exV d.toNat 5 s.2 = true := by simp only [Bool.and_eq_true] at h24; exact h24.2.2
  have hI : inB d 0 4 = true := by simp only [Bool.and_eq_true] at h24; exact h24.1
  have hA : accV d.toNat s.1 = true := by simp only [Bool.and_eq_true] at h24; exact h24.2.1
  refine .skip <| ks_n <| .seq <| .region <| .cons (.fP 2 6 true rfl rfl) <| .cons (.lN 7 rfl rfl rfl) <| .cons (.cP [.tmp 26, .const (.int .i64 (5))] rfl rfl rfl rfl (l3Count_fn d.toNat 5 5 s.2 rfl (by omega) hX) rfl) ?_
  refine .cons (.le rfl rfl rfl) <| .cons (.asg rfl rfl) <| .nil <| ks_n <| .ret ?_
  refine kf_ret rfl ?_ nobox
  exact leafB (by rw [stmtV, hI, hA, hX]; simp; omega)
theorem RetA2.mono {P Q : Nat → Prop} {x : Aff} {ok : Bool} {w : World} {e : Ending} {w' : World} (hp : ∀ b, P b → Q b) (h : RetA2 P x ok w e w') : RetA2 Q x ok w e w' := by
  obtain ⟨v, e, ha, hb⟩ := h
  exact ⟨v, e, ha.mono fun b hb _ => hp b hb, hb⟩
theorem rX_map (g : Aff → Aff) (e : Ex) : rX (mapE g e) = [dI e.k, dI e.n, dIs (if e.k = 2 then g e.i else ([], 0)).1, dI (if e.k = 2 then g e.i else ([], 0)).2, dS (if e.k = 3 then mapC g e.r else (ByteArray.empty, [])).1, dAs (if e.k = 3 then mapC g e.r else (ByteArray.empty, [])).2, dEs (e.ks.map (mapE g))] := by
  cases e with
  | mk k n i r ks => rw [mapE, mapEs_map]; rfl
theorem dR_ex (f : Ex → Ex) (l : List Ex) : dR ((l.take l.length).map fun x => rX (f x)) = dR ((l.map f).map rE) := by
  rw [List.take_length, List.map_map]
  congr 1
  exact List.map_congr_left fun x _ => (rE_eq _).symm
theorem dR_af (f : Aff → Aff) (l : List Aff) : dR ((l.take l.length).map fun x => rA (f x)) = dR ((l.map f).map rA) := by
  rw [List.take_length, List.map_map]; rfl

mutual
def affsE : Ex → List Aff
  | .mk k _ i r ks => (if k = 2 then [i] else []) ++ ((if k = 3 then r.2 else []) ++ affsEs ks)
def affsEs : List Ex → List Aff
  | [] => []
  | e :: l => affsE e ++ affsEs l
end
theorem affsE_eq (e : Ex) : affsE e = (if e.k = 2 then [e.i] else []) ++ ((if e.k = 3 then e.r.2 else []) ++ affsEs e.ks) := by cases e; rw [affsE]; rfl
theorem affsEs_mem : ∀ {l : List Ex} {e : Ex}, e ∈ l → ∀ a ∈ affsE e, a ∈ affsEs l
  | x :: l, e, h, a, ha => by
    rw [affsEs, List.mem_append]
    rcases List.mem_cons.1 h with rfl | h
    · exact .inl ha
    · exact .inr (affsEs_mem h a ha)
theorem affsE_i {e : Ex} (h : e.k = 2) : e.i ∈ affsE e := by rw [affsE_eq, if_pos h]; simp
theorem affsE_r {e : Ex} (h : e.k = 3) {a : Aff} (ha : a ∈ e.r.2) : a ∈ affsE e := by rw [affsE_eq, if_pos h]; simp [ha]
theorem affsE_k {e x : Ex} (h : x ∈ e.ks) {a : Aff} (ha : a ∈ affsE x) : a ∈ affsE e := by rw [affsE_eq]; simp [affsEs_mem h a ha]
def affsS (s : Stm) : List Aff := s.1.2 ++ affsE s.2

theorem l3CopyAff_fn {x : Aff} (hx : x.1.length ≤ 1073741824) : Fn Try.prog 73 [] [ad (rA x)] (.o (ad (rA x))) [] := by
 refine Fn.code0 Try.func73 rfl rfl rfl rfl ?_
 refine .seq <| .region <| .cons (St1.boxP rfl rfl rfl rfl rfl rfl) <| .cons (.al 102 [.slice none 0 0, .int .i64 0] rfl rfl rfl) <| .nil <| ks_n <| .seq <| .seq <| .region <| .cons (.fP 0 0 false rfl rfl) <| .cons (.l1 1 rfl rfl) <| .cons (.ln 3 1 8 rfl rfl rfl) <| .cons (.eq rfl rfl rfl) <| .nil <| ks_n ?_
 refine .cD rfl (fun h6 => ?_) (fun h6 => ?_)
 ·skip
  have hn : x.1 = [] := List.eq_nil_of_length_eq_zero (by omega)
  refine .seq <| .region <| .cons (.fP 1 0 false rfl rfl) <| .cons (.l1 1 rfl rfl) <| .cons (.bu [(1, .tmp 8)] [(0, 1), (1, 1)] [.slice none 0 0, .int .i64 0] rfl rfl rfl rfl rfl) <| .cons (.sT 2 true rfl rfl rfl rfl rfl rfl rfl) <| .nil <| ks_n <| .ret <| ks_r ?_
  refine kf_wret [(.t 2, .v (.o (.c (.box 100 2 0 0)))), (.b 100, .b 37 2 [[.d (dIs x.1), .d (dI x.2)]]), (.u 100, .u)] (Wk.keep [(100, 102)] rfl rfl ⟨ks rfl (.c .bx), kb 102 rfl (.cons (.cons (Cto.nilE 1 (by rw [hn]; rfl)) (.cons .dt Ctos.nil)) .nil), trivial⟩) rfl ?_ nobox
  rfl
 ·skip
  refine .skip <| ks_n <| .seq ?_
  refine ACode.drawK (by kernel_rfl) (by kernel_rfl) ?_
  refine .cons (St1.lit0 (k' := 110) (e := 3) (sz := 1) (b := true) rfl rfl rfl rfl (by kernel_rfl) rfl rfl) ?_
  refine .cons (.fP 0 0 false rfl rfl) <| .cons (.l1 1 rfl rfl) <| .cons (St1.appD (rows := []) (e := 3) (sz := 0) (by' := 8) rfl rfl rfl rfl rfl (by kernel_rfl) rfl rfl rfl rfl rfl (by simp; omega) rfl) ?_
  refine .cons (.fP 1 0 false rfl rfl) <| .cons (.l1 1 rfl rfl) <| .cons (.bu [(0, .tmp 13), (1, .tmp 15)] [(0, 1), (1, 1)] [.slice none 0 0, .int .i64 0] rfl rfl rfl rfl rfl) <| .cons (.sT 2 true rfl rfl rfl rfl rfl rfl rfl) ?_
  refine .nil ⟨by kernel_rfl, ?_⟩
  refine ks_n <| .ret ?_
  refine kf_wret [(.t 2, .v (.o (.c (.box 100 2 0 0)))), (.b 100, .b 37 2 [[.d (dIs x.1), .d (dI x.2)]]), (.u 100, .u)] (Wk.keep [(100, 102)] rfl rfl ⟨ks rfl (.c .bx), kb 102 rfl (.cons (.cons (.dt) (.cons .dt Ctos.nil)) .nil), trivial⟩) rfl ?_ nobox
  rfl

theorem l3CopyAcc_fn (a : Acc) (ha : a.2.length ≤ 1073741824) (hq : ∀ x ∈ a.2, x.1.length ≤ 1073741824) : Fn Try.prog 41 [] [ad (rC a)] (.o (ad (rC a))) [] := by
 refine Fn.code0 Try.func41 rfl rfl rfl rfl ?_
 refine .seq <| .region <| .cons (St1.boxP rfl rfl rfl rfl rfl rfl) <| .cons (.al 102 [.string ByteArray.empty, .slice none 0 0] rfl rfl rfl) <| .nil <| ks_n <| .seq <| .region <| .cons (.fP 0 0 false rfl rfl) <| .cons (.l1 1 rfl rfl) <| .cons (.bu [(0, .tmp 6)] [(0, 1), (1, 1)] [.string ByteArray.empty, .slice none 0 0] rfl rfl rfl rfl rfl) <| .cons (.al 103 [.string ByteArray.empty, .slice none 0 0] rfl rfl rfl) <| .cons (.sT 2 true rfl rfl rfl rfl rfl rfl rfl) <| .nil <| ks_n <| .seq <| .seq <| .region <| .cons (.asg rfl rfl) <| .nil <| ks_n <| .block ?_
 refine .loopK (fun m σ => (∃ i : Nat, m = a.2.length - i ∧ (i = 0) ∧ σ = [(.t 1, .v (.o (.c (.ptr (rC a))))), (.t 2, .v (.o (.c (.box 110 2 0 0)))), (.t 3, .v (.o (.c (.box 111 2 0 0)))), (.t 4, .v (.o (nat1 (i : Nat)))), (.b 110, .b 36 2 [[.d (dS ByteArray.empty), .d (.val (.slice none 0 0))]]), (.u 110, .u), (.b 111, .b 36 2 [[.d (dS a.1), .d (.val (.slice none 0 0))]]), (.u 111, .u)]) ∨ (∃ i : Nat, m = a.2.length - i ∧ (1 ≤ i) ∧ (i ≤ a.2.length) ∧ σ = [(.t 1, .v (.o (.c (.ptr (rC a))))), (.t 2, .v (.o (.c (.box 110 2 0 0)))), (.t 3, .v (.o (.c (.box 111 2 0 0)))), (.t 4, .v (.o (nat1 (i : Nat)))), (.b 110, .b 36 2 [[.d (dS ByteArray.empty), .d (.val (.slice none 0 0))]]), (.u 110, .u), (.b 112, .b 37 2 (dR ((a.2.take i).map rA))), (.u 112, .u), (.b 111, .b 36 2 [[.d (dS a.1), .own 112 2 (i)]]), (.u 111, .u)])) [(110, 102), (111, 103)] (.inl ⟨0, rfl, rfl, rfl⟩) ⟨ks rfl .dt, ks rfl (.c .bx), ks rfl (.c .bx), ks rfl .dt, kb 102 rfl (.cons (.cons .dt (.cons .dt Ctos.nil)) .nil), kb 103 rfl (.cons (.cons .dt (.cons .dt Ctos.nil)) .nil), trivial⟩ ?_
 rintro m σ (⟨i, hm0, rfl, rfl⟩ | ⟨i, hm0, hi1, hi2, rfl⟩)
 ·skip
  refine .seq <| .seq <| .region <| .cons (.mv rfl rfl) <| .cons (.fP 1 0 false rfl rfl) <| .cons (.l1 1 rfl rfl) <| .cons (.ln 37 2 32 rfl rfl rfl) <| .cons (.ls rfl rfl rfl) <| .nil <| ks_n ?_
  refine .cD rfl (fun h12 => ?_) (fun h12 => ?_)
  ·skip
   obtain ⟨x, hx1⟩ : ∃ x, a.2[0]? = some x := ⟨_, List.getElem?_eq_getElem (by omega)⟩
   refine .skip <| ks_n <| .seq <| .block ?_
   refine ACode.drawK (by kernel_rfl) (by kernel_rfl) ?_
   refine .cons (.fB 1 0 false rfl rfl rfl) <| .cons (.b1 1 rfl rfl rfl rfl rfl rfl) <| .cons (.fP 1 0 false rfl rfl) <| .cons (.l1 1 rfl rfl) <| .cons (.mv rfl rfl) <| .cons (.xL 37 2 32 rfl rfl rfl rfl rfl) ?_
   refine .cons (.lN 2 rfl rfl rfl) <| .cons (.cP [.tmp 21] rfl rfl rfl rfl (l3CopyAff_fn (hq x (List.mem_of_getElem? hx1))) rfl) ?_
   refine .cons (.li 37 1 0 [.tmp 22] rfl rfl rfl rfl rfl rfl) <| .cons (St1.appN (k' := 124) (e := 37) (sz := 1) (by' := 32) rfl rfl rfl rfl rfl (by kernel_rfl) rfl rfl rfl (by simp) (by first | (simp [dR]; done) | (simp [dR]; omega)) rfl rfl) ?_
   refine .cons (.fB 1 0 false rfl rfl rfl) <| .cons (.sT 1 false rfl rfl rfl rfl rfl rfl rfl) ?_
   refine .nil ⟨by kernel_rfl, ?_⟩
   refine kb_n <| ks_n <| .region <| .cons (.mv rfl rfl) <| .cons (.pl rfl rfl rfl) <| .cons (.asg rfl rfl) <| .nil ?_
   refine kl_k [(110, 110), (111, 111), (112, 124)] (.inr ⟨1, rfl, by omega, by omega, rfl⟩) ⟨ks rfl .dt, ks rfl (.c .bx), ks rfl (.c .bx), ks rfl .dt, kb 110 rfl (.cons (.cons .dt (.cons .dt Ctos.nil)) .nil), kb 124 rfl (.dt rfl (by first | exact dR_take (rA) hx1 | exact dR_take1 (rA) hx1 | rfl | (simp [dR]; done))), kb 111 rfl (.cons (.cons .dt (.cons .ow Ctos.nil)) .nil), trivial⟩
  ·skip
   have hn : a.2 = [] := List.eq_nil_of_length_eq_zero (by omega)
   refine .exit <| ks_e <| kl_e <| kb_hit <| ks_n <| .seq <| .region <| .cons (.bN 2 rfl rfl rfl rfl rfl rfl) <| .cons (.sT 2 true rfl rfl rfl rfl rfl rfl rfl) <| .nil <| ks_n <| .ret ?_
   refine kf_wret [(.t 2, .v (.o (.c (.box 100 2 0 0)))), (.b 100, .b 36 2 [[.d (dS a.1), .d (dAs a.2)]]), (.u 100, .u)] (Wk.keep [(100, 110)] rfl rfl ⟨ks rfl (.c .bx), kb 110 rfl (.cons (.cons .dt (.cons (Cto.nilE 2 (by rw [hn]; rfl)) Ctos.nil)) .nil), trivial⟩) rfl ?_ nobox
   rfl
 ·skip
  refine .seq <| .seq <| .region <| .cons (.mv rfl rfl) <| .cons (.fP 1 0 false rfl rfl) <| .cons (.l1 1 rfl rfl) <| .cons (.ln 37 2 32 rfl rfl rfl) <| .cons (.ls rfl rfl rfl) <| .nil <| ks_n ?_
  refine .cD rfl (fun h12 => ?_) (fun h12 => ?_)
  ·skip
   obtain ⟨x, hx1⟩ : ∃ x, a.2[i]? = some x := ⟨_, List.getElem?_eq_getElem (by omega)⟩
   refine .skip <| ks_n <| .seq <| .block ?_
   refine ACode.drawK (by kernel_rfl) (by kernel_rfl) ?_
   refine .cons (.fB 1 0 false rfl rfl rfl) <| .cons (.b1 1 rfl rfl rfl rfl rfl rfl) <| .cons (.fP 1 0 false rfl rfl) <| .cons (.l1 1 rfl rfl) <| .cons (.mv rfl rfl) <| .cons (.xL 37 2 32 rfl rfl rfl rfl rfl) ?_
   refine .cons (.lN 2 rfl rfl rfl) <| .cons (.cP [.tmp 21] rfl rfl rfl rfl (l3CopyAff_fn (hq x (List.mem_of_getElem? hx1))) rfl) ?_
   refine .cons (.li 37 1 0 [.tmp 22] rfl rfl rfl rfl rfl rfl) <| .cons (St1.appB (k' := 124) (e := 37) (sz := 1) (by' := 32) rfl rfl rfl rfl rfl (by kernel_rfl) rfl rfl rfl rfl (by first | (simp [dR]; done) | (simp [dR]; omega)) (by first | (simp [dR]; done) | (simp [dR]; omega)) rfl rfl rfl) ?_
   refine .cons (.fB 1 0 false rfl rfl rfl) <| .cons (.sT 1 false rfl rfl rfl rfl rfl rfl rfl) ?_
   refine .nil ⟨by kernel_rfl, ?_⟩
   refine kb_n <| ks_n <| .region <| .cons (.mv rfl rfl) <| .cons (.pl rfl rfl rfl) <| .cons (.asg rfl rfl) <| .nil ?_
   refine kl_k [(110, 110), (111, 111), (112, 124)] (.inr ⟨i + 1, rfl, by omega, by omega, rfl⟩) ⟨ks rfl .dt, ks rfl (.c .bx), ks rfl (.c .bx), ks rfl .dt, kb 110 rfl (.cons (.cons .dt (.cons .dt Ctos.nil)) .nil), kb 124 rfl (.dt rfl (by first | exact dR_take (rA) hx1 | exact dR_take1 (rA) hx1 | rfl | (simp [dR]; done))), kb 111 rfl (.cons (.cons .dt (.cons .ow Ctos.nil)) .nil), trivial⟩
  ·skip
   obtain rfl : i = a.2.length := by omega
   refine .exit <| ks_e <| kl_e <| kb_hit <| ks_n <| .seq <| .region <| .cons (.bN 2 rfl rfl rfl rfl rfl rfl) <| .cons (.sT 2 true rfl rfl rfl rfl rfl rfl rfl) <| .nil <| ks_n <| .ret ?_
   refine kf_wret [(.t 2, .v (.o (.c (.box 100 2 0 0)))), (.b 100, .b 36 2 [[.d (dS a.1), .d (dAs a.2)]]), (.u 100, .u)] (Wk.keep [(100, 110)] rfl rfl ⟨ks rfl (.c .bx), kb 110 rfl (.cons (.cons .dt (.cons (.fz rfl (by first | rfl | exact dR_af _ _ | (rw [List.take_length]; done)) (by first | rfl | (simp; done) | (simp; omega)) (by omega)) Ctos.nil)) .nil), trivial⟩) rfl ?_ nobox
   rfl

theorem l3CopyEx_one (e : Ex) (hi : e.i.1.length ≤ 1073741824) (hr : e.r.2.length ≤ 1073741824) (hq : ∀ x ∈ e.r.2, x.1.length ≤ 1073741824) (hk : e.ks.length ≤ 1073741824) (ih : ∀ x ∈ e.ks, Fn Try.prog 51 [] [ad (rX x)] (.o (ad (rX x))) []) : Fn Try.prog 51 [] [ad (rX e)] (.o (ad (rX e))) [] := by
 refine Fn.code0 Try.func51 rfl rfl rfl rfl ?_
 refine .seq <| .region <| .cons (St1.boxP rfl rfl rfl rfl rfl rfl) <| .cons (.al 102 [.int .i64 0, .int .i64 0, .slice none 0 0, .int .i64 0, .string ByteArray.empty, .slice none 0 0, .slice none 0 0] rfl rfl rfl) <| .nil <| ks_n <| .seq ?_
 refine ACode.drawK (by kernel_rfl) (by kernel_rfl) ?_
 refine .cons (.fP 0 0 false rfl rfl) <| .cons (.l1 1 rfl rfl) <| .cons (.fP 1 0 false rfl rfl) <| .cons (.l1 1 rfl rfl) <| .cons (.fP 2 1 true rfl rfl) <| .cons (.lN 2 rfl rfl rfl) <| .cons (.cP [.tmp 10] rfl rfl rfl rfl (l3CopyAff_fn hi) rfl) ?_
 refine .cons (.fP 4 1 true rfl rfl) <| .cons (.lN 2 rfl rfl rfl) <| .cons (.cP [.tmp 13] rfl rfl rfl rfl (l3CopyAcc_fn e.r hr hq) rfl) ?_
 refine .cons (.bu [(0, .tmp 6), (1, .tmp 8), (2, .tmp 11), (3, .tmp 14)] [(0, 1), (1, 1), (2, 2), (4, 2), (6, 1)] [.int .i64 0, .int .i64 0, .slice none 0 0, .int .i64 0, .string ByteArray.empty, .slice none 0 0, .slice none 0 0] rfl rfl rfl rfl rfl) <| .cons (.al 103 [.int .i64 0, .int .i64 0, .slice none 0 0, .int .i64 0, .string ByteArray.empty, .slice none 0 0, .slice none 0 0] rfl rfl rfl) <| .cons (.sT 7 true rfl rfl rfl rfl rfl rfl rfl) ?_
 refine .nil ⟨by kernel_rfl, ?_⟩
 refine ks_n <| .seq <| .seq <| .region <| .cons (.asg rfl rfl) <| .nil <| ks_n <| .block ?_
 refine .loopK (fun m σ => (∃ i : Nat, m = e.ks.length - i ∧ (i = 0) ∧ σ = [(.t 1, .v (.o (.c (.ptr (rX e))))), (.t 2, .v (.o (.c (.box 110 7 0 0)))), (.t 3, .v (.o (.c (.box 111 7 0 0)))), (.t 4, .v (.o (nat1 (i : Nat)))), (.b 110, .b 40 7 [[.d (dI 0), .d (dI 0), .d (.val (.slice none 0 0)), .d (dI 0), .d (dS ByteArray.empty), .d (.val (.slice none 0 0)), .d (.val (.slice none 0 0))]]), (.u 110, .u), (.b 111, .b 40 7 [[.d (dI e.k), .d (dI e.n), .d (dIs e.i.1), .d (dI e.i.2), .d (dS e.r.1), .d (dAs e.r.2), .d (.val (.slice none 0 0))]]), (.u 111, .u)]) ∨ (∃ i : Nat, m = e.ks.length - i ∧ (1 ≤ i) ∧ (i ≤ e.ks.length) ∧ σ = [(.t 1, .v (.o (.c (.ptr (rX e))))), (.t 2, .v (.o (.c (.box 110 7 0 0)))), (.t 3, .v (.o (.c (.box 111 7 0 0)))), (.t 4, .v (.o (nat1 (i : Nat)))), (.b 110, .b 40 7 [[.d (dI 0), .d (dI 0), .d (.val (.slice none 0 0)), .d (dI 0), .d (dS ByteArray.empty), .d (.val (.slice none 0 0)), .d (.val (.slice none 0 0))]]), (.u 110, .u), (.b 112, .b 40 7 (dR ((e.ks.take i).map fun x => rX x))), (.u 112, .u), (.b 111, .b 40 7 [[.d (dI e.k), .d (dI e.n), .d (dIs e.i.1), .d (dI e.i.2), .d (dS e.r.1), .d (dAs e.r.2), .own 112 7 (i)]]), (.u 111, .u)])) [(110, 102), (111, 103)] (.inl ⟨0, rfl, rfl, rfl⟩) ⟨ks rfl .dt, ks rfl (.c .bx), ks rfl (.c .bx), ks rfl .dt, kb 102 rfl (.cons (.cons .dt (.cons .dt (.cons .dt (.cons .dt (.cons .dt (.cons .dt (.cons .dt Ctos.nil))))))) .nil), kb 103 rfl (.cons (.cons .dt (.cons .dt (.cons .dt (.cons .dt (.cons .dt (.cons .dt (.cons .dt Ctos.nil))))))) .nil), trivial⟩ ?_
 rintro m σ (⟨i, hm0, rfl, rfl⟩ | ⟨i, hm0, hi1, hi2, rfl⟩)
 ·skip
  refine .seq <| .seq <| .region <| .cons (.mv rfl rfl) <| .cons (.fP 6 0 false rfl rfl) <| .cons (.l1 1 rfl rfl) <| .cons (.ln 40 7 112 rfl rfl rfl) <| .cons (.ls rfl rfl rfl) <| .nil <| ks_n ?_
  refine .cD rfl (fun h20 => ?_) (fun h20 => ?_)
  ·skip
   obtain ⟨x, hx1⟩ : ∃ x, e.ks[0]? = some x := ⟨_, List.getElem?_eq_getElem (by omega)⟩
   refine .skip <| ks_n <| .seq <| .block ?_
   refine ACode.drawK (by kernel_rfl) (by kernel_rfl) ?_
   refine .cons (.fB 6 0 false rfl rfl rfl) <| .cons (.b1 1 rfl rfl rfl rfl rfl rfl) <| .cons (.fP 6 0 false rfl rfl) <| .cons (.l1 1 rfl rfl) <| .cons (.mv rfl rfl) <| .cons (.xL 40 7 112 rfl rfl rfl rfl rfl (rE_at hx1)) ?_
   refine .cons (.lN 7 rfl rfl rfl) <| .cons (.cP [.tmp 29] rfl rfl rfl rfl (ih x (List.mem_of_getElem? hx1)) rfl) ?_
   refine .cons (.li 40 6 0 [.tmp 30] rfl rfl rfl rfl rfl rfl) <| .cons (St1.appN (k' := 132) (e := 40) (sz := 6) (by' := 112) rfl rfl rfl rfl rfl (by kernel_rfl) rfl rfl rfl (by simp) (by first | (simp [dR]; done) | (simp [dR]; omega)) rfl rfl) ?_
   refine .cons (.fB 6 0 false rfl rfl rfl) <| .cons (.sT 1 false rfl rfl rfl rfl rfl rfl rfl) ?_
   refine .nil ⟨by kernel_rfl, ?_⟩
   refine kb_n <| ks_n <| .region <| .cons (.mv rfl rfl) <| .cons (.pl rfl rfl rfl) <| .cons (.asg rfl rfl) <| .nil ?_
   refine kl_k [(110, 110), (111, 111), (112, 132)] (.inr ⟨1, rfl, by omega, by omega, rfl⟩) ⟨ks rfl .dt, ks rfl (.c .bx), ks rfl (.c .bx), ks rfl .dt, kb 110 rfl (.cons (.cons .dt (.cons .dt (.cons .dt (.cons .dt (.cons .dt (.cons .dt (.cons .dt Ctos.nil))))))) .nil), kb 132 rfl (.dt rfl (by first | exact dR_take (fun x => rX x) hx1 | exact dR_take1 (fun x => rX x) hx1 | rfl | (simp [dR]; done))), kb 111 rfl (.cons (.cons .dt (.cons .dt (.cons .dt (.cons .dt (.cons .dt (.cons .dt (.cons .ow Ctos.nil))))))) .nil), trivial⟩
  ·skip
   have hn : e.ks = [] := List.eq_nil_of_length_eq_zero (by omega)
   refine .exit <| ks_e <| kl_e <| kb_hit <| ks_n <| .seq <| .region <| .cons (.bN 7 rfl rfl rfl rfl rfl rfl) <| .cons (.sT 7 true rfl rfl rfl rfl rfl rfl rfl) <| .nil <| ks_n <| .ret ?_
   refine kf_wret [(.t 2, .v (.o (.c (.box 100 7 0 0)))), (.b 100, .b 40 7 [[.d (dI e.k), .d (dI e.n), .d (dIs e.i.1), .d (dI e.i.2), .d (dS e.r.1), .d (dAs e.r.2), .d (dEs e.ks)]]), (.u 100, .u)] (Wk.keep [(100, 110)] rfl rfl ⟨ks rfl (.c .bx), kb 110 rfl (.cons (.cons .dt (.cons .dt (.cons .dt (.cons .dt (.cons .dt (.cons .dt (.cons (Cto.nilE 7 (by rw [hn]; rfl)) Ctos.nil))))))) .nil), trivial⟩) rfl ?_ nobox
   rfl
 ·skip
  refine .seq <| .seq <| .region <| .cons (.mv rfl rfl) <| .cons (.fP 6 0 false rfl rfl) <| .cons (.l1 1 rfl rfl) <| .cons (.ln 40 7 112 rfl rfl rfl) <| .cons (.ls rfl rfl rfl) <| .nil <| ks_n ?_
  refine .cD rfl (fun h20 => ?_) (fun h20 => ?_)
  ·skip
   obtain ⟨x, hx1⟩ : ∃ x, e.ks[i]? = some x := ⟨_, List.getElem?_eq_getElem (by omega)⟩
   refine .skip <| ks_n <| .seq <| .block ?_
   refine ACode.drawK (by kernel_rfl) (by kernel_rfl) ?_
   refine .cons (.fB 6 0 false rfl rfl rfl) <| .cons (.b1 1 rfl rfl rfl rfl rfl rfl) <| .cons (.fP 6 0 false rfl rfl) <| .cons (.l1 1 rfl rfl) <| .cons (.mv rfl rfl) <| .cons (.xL 40 7 112 rfl rfl rfl rfl rfl (rE_at hx1)) ?_
   refine .cons (.lN 7 rfl rfl rfl) <| .cons (.cP [.tmp 29] rfl rfl rfl rfl (ih x (List.mem_of_getElem? hx1)) rfl) ?_
   refine .cons (.li 40 6 0 [.tmp 30] rfl rfl rfl rfl rfl rfl) <| .cons (St1.appB (k' := 132) (e := 40) (sz := 6) (by' := 112) rfl rfl rfl rfl rfl (by kernel_rfl) rfl rfl rfl rfl (by first | (simp [dR]; done) | (simp [dR]; omega)) (by first | (simp [dR]; done) | (simp [dR]; omega)) rfl rfl rfl) ?_
   refine .cons (.fB 6 0 false rfl rfl rfl) <| .cons (.sT 1 false rfl rfl rfl rfl rfl rfl rfl) ?_
   refine .nil ⟨by kernel_rfl, ?_⟩
   refine kb_n <| ks_n <| .region <| .cons (.mv rfl rfl) <| .cons (.pl rfl rfl rfl) <| .cons (.asg rfl rfl) <| .nil ?_
   refine kl_k [(110, 110), (111, 111), (112, 132)] (.inr ⟨i + 1, rfl, by omega, by omega, rfl⟩) ⟨ks rfl .dt, ks rfl (.c .bx), ks rfl (.c .bx), ks rfl .dt, kb 110 rfl (.cons (.cons .dt (.cons .dt (.cons .dt (.cons .dt (.cons .dt (.cons .dt (.cons .dt Ctos.nil))))))) .nil), kb 132 rfl (.dt rfl (by first | exact dR_take (fun x => rX x) hx1 | exact dR_take1 (fun x => rX x) hx1 | rfl | (simp [dR]; done))), kb 111 rfl (.cons (.cons .dt (.cons .dt (.cons .dt (.cons .dt (.cons .dt (.cons .dt (.cons .ow Ctos.nil))))))) .nil), trivial⟩
  ·skip
   obtain rfl : i = e.ks.length := by omega
   refine .exit <| ks_e <| kl_e <| kb_hit <| ks_n <| .seq <| .region <| .cons (.bN 7 rfl rfl rfl rfl rfl rfl) <| .cons (.sT 7 true rfl rfl rfl rfl rfl rfl rfl) <| .nil <| ks_n <| .ret ?_
   refine kf_wret [(.t 2, .v (.o (.c (.box 100 7 0 0)))), (.b 100, .b 40 7 [[.d (dI e.k), .d (dI e.n), .d (dIs e.i.1), .d (dI e.i.2), .d (dS e.r.1), .d (dAs e.r.2), .d (dEs e.ks)]]), (.u 100, .u)] (Wk.keep [(100, 110)] rfl rfl ⟨ks rfl (.c .bx), kb 110 rfl (.cons (.cons .dt (.cons .dt (.cons .dt (.cons .dt (.cons .dt (.cons .dt (.cons (.fz rfl (by first | rfl | exact (dR_ex id _).trans (by rw [List.map_id]) | (rw [List.take_length]; done)) (by first | rfl | (simp; done) | (simp; omega)) (by omega)) Ctos.nil))))))) .nil), trivial⟩) rfl ?_ nobox
   rfl

theorem l3CopyEx_fn : ∀ e : Ex, szE e ≤ 1073741824 → Fn Try.prog 51 [] [ad (rX e)] (.o (ad (rX e))) [] := by
  intro e
  induction e using Ex.rec' with
  | h e ih =>
    intro hs
    rw [szE_eq, szC] at hs
    have := szAs_len e.r.2
    exact l3CopyEx_one e (by omega) (by omega) (fun x hx => by have := szAs_mem hx; omega) (by omega) fun x hx => ih x hx (by have := szEs_mem hx; omega)

theorem l3Copy_fn (s : Stm) (hs : szS s ≤ 1073741824) : Fn Try.prog 21 [] [ad (rS s)] (.o (ad (rS s))) [] := by
 rw [szS, szC] at hs
 have := szAs_len s.1.2
 refine Fn.code0 Try.func21 rfl rfl rfl rfl ?_
 refine .seq <| .region <| .cons (St1.boxP rfl rfl rfl rfl rfl rfl) <| .cons (.al 102 [.string ByteArray.empty, .slice none 0 0, .int .i64 0, .int .i64 0, .slice none 0 0, .int .i64 0, .string ByteArray.empty, .slice none 0 0, .slice none 0 0] rfl rfl rfl) <| .nil <| ks_n <| .seq ?_
 refine ACode.drawK (by kernel_rfl) (by kernel_rfl) ?_
 refine .cons (.fP 0 1 true rfl rfl) <| .cons (.lN 2 rfl rfl rfl) <| .cons (.cP [.tmp 4] rfl rfl rfl rfl (l3CopyAcc_fn s.1 (by omega) (fun x hx => by have := szAs_mem hx; omega)) rfl) ?_
 refine .cons (.fP 2 6 true rfl rfl) <| .cons (.lN 7 rfl rfl rfl) <| .cons (.cP [.tmp 7] rfl rfl rfl rfl (l3CopyEx_fn s.2 (by omega)) rfl) ?_
 refine .cons (.bu [(0, .tmp 5), (1, .tmp 8)] [(0, 2), (2, 7)] [.string ByteArray.empty, .slice none 0 0, .int .i64 0, .int .i64 0, .slice none 0 0, .int .i64 0, .string ByteArray.empty, .slice none 0 0, .slice none 0 0] rfl rfl rfl rfl rfl) <| .cons (.sT 9 true rfl rfl rfl rfl rfl rfl rfl) ?_
 refine .nil ⟨by kernel_rfl, ?_⟩
 refine ks_n <| .ret ?_
 refine kf_ret rfl ?_ nobox
 rfl
/-- A statement that is valid somewhere. -/
theorem stmtV_ex {d : Int} {s : Stm} (h : stmtV d s = true) : exV d.toNat 5 s.2 = true ∧ accV d.toNat s.1 = true ∧ cntE s.2 ≤ 12 ∧ 0 ≤ d ∧ d ≤ 4 := by
  rw [stmtV, Bool.and_eq_true, Bool.and_eq_true, Bool.and_eq_true, decide_eq_true_eq, inB, decide_eq_true_eq] at h
  exact ⟨h.2.1.2, h.2.1.1, h.2.2, h.1⟩
theorem nonA_iff {x : Aff} : nonA x = true ↔ x = ([], 0) := by
  obtain ⟨a, b⟩ := x
  simp [nonA, List.length_eq_zero_iff]
theorem nonC_iff {a : Acc} : nonC a = true ↔ a = (ByteArray.empty, []) := by
  obtain ⟨a, b⟩ := a
  simp [nonC, sEq_iff, List.length_eq_zero_iff]
theorem fld_map {d : Nat} {e : Ex} (h : fldV d e.k e.n e.i e.r = true) : (if e.k = 2 then e.i else ([], 0)) = e.i ∧ (if e.k = 3 then e.r else (ByteArray.empty, [])) = e.r := by
  unfold fldV at h
  split at h
  · simp only [Bool.and_eq_true] at h
    rw [if_neg (by omega), if_neg (by omega), nonA_iff.1 h.1.2, nonC_iff.1 h.2]; exact ⟨rfl, rfl⟩
  · split at h
    · simp only [Bool.and_eq_true] at h
      rw [if_pos (by assumption), if_neg (by omega), nonC_iff.1 h.2]; exact ⟨rfl, rfl⟩
    · split at h
      · simp only [Bool.and_eq_true] at h
        rw [if_neg (by omega), if_pos (by assumption), nonA_iff.1 h.1.2]; exact ⟨rfl, rfl⟩
      · simp only [Bool.and_eq_true] at h
        rw [if_neg (by omega), if_neg (by omega), nonA_iff.1 h.1.2, nonC_iff.1 h.2]; exact ⟨rfl, rfl⟩
theorem mapE_eq (g : Aff → Aff) (e : Ex) : mapE g e = .mk e.k e.n (if e.k = 2 then g e.i else ([], 0)) (if e.k = 3 then mapC g e.r else (ByteArray.empty, [])) (e.ks.map (mapE g)) := by
  cases e with
  | mk k n i r ks => rw [mapE, mapEs_map]; rfl
theorem mapC_id (a : Acc) : mapC id a = a := by rw [mapC, List.map_id]
theorem mapE_id {d : Nat} : ∀ {L : Nat} {e : Ex}, exV d L e = true → mapE id e = e
  | 0, e, h => by cases h
  | L + 1, e, h => by
    have h1 := (exV_kids h).2
    rw [exV, Bool.and_eq_true, Bool.and_eq_true] at h
    obtain ⟨f1, f2⟩ := fld_map h.1.2
    rw [mapE_eq, mapC_id, show e.ks.map (mapE id) = e.ks from (List.map_congr_left fun x hx => mapE_id (h1 x hx)).trans (List.map_id _)]
    show Ex.mk e.k e.n (if e.k = 2 then e.i else ([], 0)) _ _ = e
    rw [f1, f2, Ex.eta]
theorem mapS_id {d : Int} {s : Stm} (h : stmtV d s = true) : mapS id s = s := by
  rw [mapS, mapC_id, mapE_id (stmtV_ex h).1]
theorem sameE_eq (x y : Ex) : sameE x y = (decide (x.k = y.k) && decide (x.n = y.n) && decide (x.i = y.i) && sameC x.r y.r && sameEs x.ks y.ks) := by
  cases x; cases y
  rw [sameE, sameC]
  simp only [Ex.k, Ex.n, Ex.i, Ex.r, Ex.ks, Bool.and_assoc]
  congr 3
  rw [← Bool.and_assoc, ← Bool.and_assoc]
  congr 1
  exact Bool.and_comm _ _
theorem eqF_sameE : ∀ a b : List Ex, eqF sameE a b = sameEs a b
  | [], [] => rfl
  | [], _ :: _ => rfl
  | _ :: _, [] => rfl
  | x :: a, y :: b => by rw [eqF, sameEs, eqF_sameE a b]
theorem cmb_subst (x y : Aff) (v : Nat) : cmbA (x.1.set v 0, x.2) 1 y (x.1.getD v 0) = affSubst x v y := by
  rw [affSubst, affSum, cmbA, cmbTo]
  simp [List.range_succ, Int.one_mul]
theorem affM_1000 {x : Aff} (h : affM x) : x.1.length = 4 ∧ (-1000 ≤ x.2 ∧ x.2 ≤ 1000) ∧ ∀ i, -1000 ≤ x.1.getD i 0 ∧ x.1.getD i 0 ≤ 1000 := ⟨h.1, ⟨by have := h.2.2; omega, by have := h.2.2; omega⟩, fun i => by have := h.2.1 i; omega⟩
theorem fld_aff {d : Nat} {e : Ex} (h : fldV d e.k e.n e.i e.r = true) : (e.k = 2 → bndV d e.i = true) ∧ (e.k = 3 → ∀ x ∈ e.r.2, bndV d x = true) := by
  unfold fldV at h
  refine ⟨fun hk => ?_, fun hk x hx => ?_⟩
  · rw [if_neg (by omega), if_pos hk] at h
    simp only [Bool.and_eq_true] at h
    rw [bndV]; exact Bool.and_eq_true_iff.2 h.1.2
  · rw [if_neg (by omega), if_neg (by omega), if_pos hk] at h
    simp only [Bool.and_eq_true, accV, sideV] at h
    exact List.all_eq_true.1 h.2.2.1.1 x hx
theorem affsEs_of {l : List Ex} {a : Aff} (h : a ∈ affsEs l) : ∃ e ∈ l, a ∈ affsE e := by
  induction l with
  | nil => cases h
  | cons y l ih =>
    rw [affsEs, List.mem_append] at h
    rcases h with h | h
    · exact ⟨y, by simp, h⟩
    · obtain ⟨z, h1, h2⟩ := ih h; exact ⟨z, by simp [h1], h2⟩
theorem exV_aff {d : Nat} : ∀ {L : Nat} {e : Ex}, exV d L e = true → ∀ x ∈ affsE e, bndV d x = true
  | 0, e, h => by cases h
  | L + 1, e, h => by
    intro x hx
    have hk := (exV_kids h).2
    rw [exV, Bool.and_eq_true, Bool.and_eq_true] at h
    obtain ⟨f1, f2⟩ := fld_aff h.1.2
    rw [affsE_eq, List.mem_append, List.mem_append] at hx
    rcases hx with hx | hx | hx
    · split at hx
      · rename_i hk; rw [List.mem_singleton.1 hx]; exact f1 hk
      · cases hx
    · split at hx
      · rename_i hk; exact f2 hk x hx
      · cases hx
    · obtain ⟨z, h1, h2⟩ := affsEs_of hx
      exact exV_aff (hk z h1) x h2
theorem stmtV_aff {d : Int} {s : Stm} (h : stmtV d s = true) : ∀ x ∈ affsS s, affV x = true ∧ affDepth x ≤ d.toNat := by
  intro x hx
  obtain ⟨h1, h2, _⟩ := stmtV_ex h
  have : bndV d.toNat x = true := by
    rw [affsS, List.mem_append] at hx
    rcases hx with hx | hx
    · simp only [accV, sideV, Bool.and_eq_true] at h2
      exact List.all_eq_true.1 h2.2.1.1 x hx
    · exact exV_aff h1 x hx
  simp only [bndV, Bool.and_eq_true, decide_eq_true_eq] at this
  exact this
theorem szAs_map {g : Aff → Aff} : ∀ {l : List Aff}, (∀ x ∈ l, (g x).1.length ≤ x.1.length) → szAs (l.map g) ≤ szAs l
  | [], _ => Nat.le_refl _
  | a :: l, h => by
    have h1 := szAs_map (l := l) fun x hx => h x (by simp [hx])
    have h2 := h a (by simp)
    simp only [szAs, List.length_map, List.map_cons, List.sum_cons, List.length_cons] at h1 ⊢
    omega
theorem szE_map {g : Aff → Aff} : ∀ {e : Ex}, (∀ x ∈ affsE e, (g x).1.length ≤ x.1.length) → szE (mapE g e) ≤ szE e := by
  intro e
  induction e using Ex.rec' with
  | h e ih =>
    intro h
    have hk : ∀ l : List Ex, (∀ x ∈ l, szE (mapE g x) ≤ szE x) → szEs (l.map (mapE g)) ≤ szEs l := by
      intro l
      induction l with
      | nil => intro _; exact Nat.le_refl _
      | cons y l ih =>
        intro h
        have := ih fun x hx => h x (by simp [hx])
        have := h y (by simp)
        simp only [List.map_cons, szEs]; omega
    have h3 := hk e.ks fun x hx => ih x hx fun a ha => h a (affsE_k hx ha)
    rw [mapE_eq, szE, szE_eq, List.length_map]
    have h1 : (if e.k = 2 then g e.i else ([], 0)).1.length ≤ e.i.1.length := by
      split
      · exact h _ (affsE_i (by assumption))
      · exact Nat.zero_le _
    have h2 : szC (if e.k = 3 then mapC g e.r else (ByteArray.empty, [])) ≤ szC e.r := by
      split
      · rw [szC, szC, mapC]
        have := szAs_map (l := e.r.2) fun x hx => h x (affsE_r (by assumption) hx)
        exact Nat.add_le_add_left this _
      · show ByteArray.empty.size + szAs [] ≤ _
        exact Nat.zero_le _
    omega
theorem szS_map {g : Aff → Aff} {s : Stm} (h : ∀ x ∈ affsS s, (g x).1.length ≤ x.1.length) : szS (mapS g s) ≤ szS s := by
  rw [szS, szS, mapS, szC, szC, mapC]
  have h1 := szAs_map (l := s.1.2) fun x hx => h x (List.mem_append_left _ hx)
  have h2 := szE_map (e := s.2) fun x hx => h x (List.mem_append_right _ hx)
  show s.1.1.size + szAs (s.1.2.map g) + szE (mapE g s.2) ≤ _
  omega
/-- The statement without anything. -/
def zS : Stm := ((ByteArray.empty, []), .mk 0 0 ([], 0) (ByteArray.empty, []) [])
def chkS (d : Int) (s : Stm) : Stm × Bool := if stmtV d s = true then (s, true) else (zS, false)
theorem chkS_no {d : Int} {s : Stm} (h : stmtV d s = false) : chkS d s = (zS, false) := by rw [chkS, h]; rfl
theorem chkS_yes {d : Int} {s : Stm} (h : stmtV d s = true) : chkS d s = (s, true) := by rw [chkS, if_pos h]

theorem mapE_congr' {f g : Aff → Aff} : ∀ e : Ex, (∀ x ∈ affsE e, f x = g x) → mapE f e = mapE g e := by
  refine Ex.rec' fun e ih h => ?_
  rw [mapE_eq, mapE_eq]
  congr 1
  · split
    · next h2 => exact h _ (affsE_i h2)
    · rfl
  · split
    · next h2 => rw [mapC, mapC]; exact Prod.ext rfl (List.map_congr_left fun x hx => h x (affsE_r h2 hx))
    · rfl
  · exact List.map_congr_left fun x hx => ih x hx fun y hy => h y (affsE_k hx hy)
theorem mapE_congr {f g : Aff → Aff} {e : Ex} (h : ∀ x ∈ affsE e, f x = g x) : mapE f e = mapE g e := mapE_congr' e h
theorem mapS_congr {f g : Aff → Aff} {s : Stm} (h : ∀ x ∈ affsS s, f x = g x) : mapS f s = mapS g s := by
  rw [mapS, mapS, mapE_congr (fun x hx => h x (by rw [affsS]; simp [hx]))]
  rw [mapC, mapC]
  exact Prod.ext (Prod.ext rfl (List.map_congr_left fun x hx => h x (by rw [affsS]; simp [hx]))) rfl
theorem mapC_comp (f g : Aff → Aff) (a : Acc) : mapC g (mapC f a) = mapC (fun x => g (f x)) a := by
  simp [mapC, Function.comp_def]
theorem mapE_comp (f g : Aff → Aff) : ∀ e : Ex, mapE g (mapE f e) = mapE (fun x => g (f x)) e := by
  refine Ex.rec' fun e ih => ?_
  obtain ⟨k, n, i, r, ks⟩ := e
  simp only [mapE, mapEs_map, List.map_map]
  congr 1
  · split <;> rfl
  · split
    · exact mapC_comp f g r
    · rfl
  · exact List.map_congr_left fun x hx => ih x hx
theorem mapS_comp (f g : Aff → Aff) (s : Stm) : mapS g (mapS f s) = mapS (fun x => g (f x)) s := by
  rw [mapS, mapS, mapS, mapC_comp, mapE_comp]
theorem subst_const (x : Aff) (v : Nat) (m : Int) (h : x.1.length = 4) : affSubst x v ([0, 0, 0, 0], m) = (x.1.set v 0, x.2 + x.1.getD v 0 * m) := by
  obtain ⟨l, n⟩ := x
  match l, h with
  | [a, b, c, d], _ =>
    match v with
    | 0 => simp [affSubst, affSum]
    | 1 => simp [affSubst, affSum]
    | 2 => simp [affSubst, affSum]
    | 3 => simp [affSubst, affSum]
    | v + 4 => simp [affSubst, affSum]
theorem stm_len {d : Int} {s : Stm} (h : stmtV d s = true) : ∀ x ∈ affsS s, x.1.length = 4 := fun x hx => affV_len (stmtV_aff h x hx).1
theorem affs_map {g : Aff → Aff} : ∀ {e : Ex}, ∀ a ∈ affsE (mapE g e), ∃ b ∈ affsE e, a = g b := by
  intro e
  induction e using Ex.rec' with
  | h e ih =>
    intro a ha
    rw [mapE_eq, affsE] at ha
    rcases List.mem_append.1 ha with ha | ha
    · split at ha
      · next hk => rw [List.mem_singleton] at ha; exact ⟨e.i, affsE_i hk, by simpa [hk] using ha⟩
      · cases ha
    · rcases List.mem_append.1 ha with ha | ha
      · split at ha
        · next hk =>
          have ha : a ∈ (mapC g e.r).2 := by simpa [hk] using ha
          rw [mapC] at ha
          obtain ⟨b, hb, rfl⟩ := List.mem_map.1 ha
          exact ⟨b, affsE_r hk hb, rfl⟩
        · cases ha
      · obtain ⟨y, hy, hay⟩ := affsEs_of ha
        obtain ⟨z, hz, rfl⟩ := List.mem_map.1 hy
        obtain ⟨b, hb, e⟩ := ih z hz a hay
        exact ⟨b, affsE_k hz hb, e⟩
theorem affsS_map {g : Aff → Aff} {s : Stm} : ∀ a ∈ affsS (mapS g s), ∃ b ∈ affsS s, a = g b := by
  intro a ha
  rw [affsS, mapS] at ha
  rcases List.mem_append.1 ha with ha | ha
  · obtain ⟨b, hb, rfl⟩ := List.mem_map.1 ha
    exact ⟨b, by rw [affsS]; simp [hb], rfl⟩
  · obtain ⟨b, hb, e⟩ := affs_map a ha
    exact ⟨b, by rw [affsS]; simp [hb], e⟩

/-- A product of k numbers from 1 to 6 at the most. -/
def B6 (k : Nat) (n : Int) : Prop := 0 ≤ n ∧ ((k = 0 ∧ n ≤ 1) ∨ (k = 1 ∧ n ≤ 6) ∨ (k = 2 ∧ n ≤ 36))
theorem B6.bd {k : Nat} {n : Int} (h : B6 k n) : 0 ≤ n ∧ n ≤ 36 := by unfold B6 at h; omega
theorem mul_b6 {n d A : Int} (h0 : 0 ≤ n) (h1 : n ≤ A) (h2 : 0 ≤ d) (h3 : d ≤ 6) : 0 ≤ n * d ∧ n * d ≤ A * 6 :=
  ⟨Int.mul_nonneg h0 h2, Int.le_trans (Int.mul_le_mul_of_nonneg_right h1 h2) (Int.mul_le_mul_of_nonneg_left h3 (Int.le_trans h0 h1))⟩
theorem B6.mul {k : Nat} {n d : Int} (h : B6 k n) (hd : 1 ≤ d ∧ d ≤ 6) (hk : k < 2) : B6 (k + 1) (n * d) := by
  obtain ⟨h0, h | h | h⟩ := h
  · have := mul_b6 h0 h.2 (by omega) hd.2; unfold B6; omega
  · have := mul_b6 h0 h.2 (by omega) hd.2; unfold B6; omega
  · omega
theorem B6.at {k : Nat} {n d v : Int} (h0 : 0 ≤ n) (h : B6 k (n + 1)) (hd : 1 ≤ d ∧ d ≤ 6) (hk : k < 2) (hv : 0 ≤ v ∧ v ≤ d - 1) : 0 ≤ n * d ∧ n * d + v + 1 ≤ 36 ∧ 0 ≤ n * d + v ∧ B6 (k + 1) (n * d + v + 1) := by
  have h1 := h.mul hd hk
  have e : (n + 1) * d = n * d + d := by rw [Int.add_mul, Int.one_mul]
  rw [e] at h1
  have h2 := Int.mul_nonneg h0 (show 0 ≤ d by omega)
  have h3 := h1.bd
  refine ⟨h2, by omega, by omega, ?_⟩
  unfold B6 at h1 ⊢; omega
end Go.Proofs.Ytollooimmfngjaa
namespace Go.Proofs.Ytollooimmfngjaa
set_option linter.unusedVariables false
set_option linter.unusedSimpArgs false
open Go.ChangeShapes Go.WideShapes Go.ChangeAt Go.RowKit

end Go.Proofs.Ytollooimmfngjaa
namespace Go.Proofs.Ytollooimmfngjaa
set_option linter.unusedVariables false
set_option linter.unusedSimpArgs false
open Go.RowKit
/-- What is left of l behind n, or -1. -/
def subZ (l : Int) (n : Nat) : Int := if (n : Int) ≤ l then l - n else -1
theorem subZ_yes {l : Int} {n : Nat} (h : (n : Int) ≤ l) : subZ l n = l - n := if_pos h
theorem subZ_no {l : Int} {n : Nat} (h : ¬ (n : Int) ≤ l) : subZ l n = -1 := if_neg h
theorem subZ_neg {l : Int} {n : Nat} (h : subZ l n < 0) (hl : 0 ≤ l) : ¬ (n : Int) ≤ l := fun h2 => by rw [subZ_yes h2] at h; omega
theorem subZ_pos {l : Int} {n : Nat} (h : ¬ subZ l n < 0) : (n : Int) ≤ l := Classical.byContradiction fun h2 => by rw [subZ_no h2] at h; omega
theorem subZ_bd {l : Int} {n : Nat} (hl : 0 ≤ l ∧ l ≤ 1048576) : -1 ≤ subZ l n ∧ subZ l n ≤ 1048576 := by
  unfold subZ; split <;> omega
theorem sum_take {α : Type} (f : α → Nat) {l : List α} {i : Nat} {x : α} (h : l[i]? = some x) : ((l.take (i + 1)).map f).sum = ((l.take i).map f).sum + f x := by
  rw [List.take_add_one, h, List.map_append, List.sum_append]; simp
theorem sum_take_le {α : Type} (f : α → Nat) : ∀ {l : List α} {i : Nat}, ((l.take i).map f).sum ≤ (l.map f).sum
  | [], i => by simp
  | y :: l, 0 => by simp
  | y :: l, i + 1 => by rw [List.take_succ_cons, List.map_cons, List.map_cons, List.sum_cons, List.sum_cons]; have := sum_take_le f (l := l) (i := i); omega

theorem szInts_fn (xs : List Int) {l : Int} (hl : 0 ≤ l ∧ l ≤ 1048576) (hx : xs.length ≤ 17592186044416) : Fn Try.prog 77 [] [vD (dIs xs), nat1 l] (.o (nat1 (subZ l xs.length))) [] := by
  refine Fn.code0 Try.func77 rfl rfl rfl rfl ?_
  refine .seq <| .region <| .cons (.asg rfl rfl) <| .nil <| ks_n <| .seq <| .region <| .cons (.mv rfl rfl) <| .cons (.mv rfl rfl) <| .cons (.ln 3 1 8 rfl rfl rfl) <| .cons (.sb rfl rfl rfl) <| .cons (.asg rfl rfl) <| .nil <| ks_n <| .seq <| .seq <| .region <| .cons (.mv rfl rfl) <| .cons (.ls rfl rfl rfl) <| .nil <| ks_n ?_
  refine .cD rfl (fun h10 => ?_) (fun h10 => ?_)
  · skip
    refine .seq <| .region <| .cons (.asg rfl rfl) <| .nil <| ks_n <| .ret <| ks_r ?_
    refine kf_ret rfl ?_ nobox
    exact leafI (by first | (rw [subZ_yes (by omega)]; done) | (rw [subZ_no (by omega)]) | (rw [subZ_yes (by omega)]; omega))
  · skip
    refine .skip <| ks_n <| .seq <| .region <| .cons (.mv rfl rfl) <| .cons (.asg rfl rfl) <| .nil <| ks_n <| .ret ?_
    refine kf_ret rfl ?_ nobox
    exact leafI (by first | (rw [subZ_yes (by omega)]; done) | (rw [subZ_no (by omega)]) | (rw [subZ_yes (by omega)]; omega))

theorem szAff_fn {x : Aff} {l : Int} (hl : 0 ≤ l ∧ l ≤ 1048576) (hx : x.1.length ≤ 17592186044416) : Fn Try.prog 46 [] [ad (rA x), nat1 l] (.o (nat1 (subZ l x.1.length))) [] := by
  have hb := subZ_bd (n := x.1.length) hl
  refine Fn.code0 Try.func46 rfl rfl rfl rfl ?_
  refine .seq <| .region <| .cons (St1.boxP rfl rfl rfl rfl rfl rfl) <| .cons (.asg rfl rfl) <| .nil <| ks_n <| .seq <| .region <| .cons (.fP 0 0 false rfl rfl) <| .cons (.l1 1 rfl rfl) <| .cons (.mv rfl rfl) <| .cons (.cP [.tmp 6, .tmp 7] rfl rfl rfl rfl (szInts_fn x.1 hl hx) rfl) ?_
  refine .cons (.asg rfl rfl) <| .nil <| ks_n <| .seq <| .seq <| .region <| .cons (.mv rfl rfl) <| .cons (.ls rfl rfl rfl) <| .nil <| ks_n ?_
  refine .cD rfl (fun h10 => ?_) (fun h10 => ?_)
  · skip
    refine .seq <| .region <| .cons (.asg rfl rfl) <| .nil <| ks_n <| .ret <| ks_r ?_
    refine kf_ret rfl ?_ nobox
    exact leafI (subZ_no (subZ_neg h10 hl.1)).symm
  · skip
    refine .skip <| ks_n <| .seq <| .region <| .cons (.mv rfl rfl) <| .cons (.asg rfl rfl) <| .nil <| ks_n <| .ret ?_
    refine kf_ret rfl ?_ nobox
    rfl

theorem szAffs_fn (xs : List Aff) {l : Int} (hl : 0 ≤ l ∧ l ≤ 1048576) (hx : xs.length ≤ 17592186044416) (hq : ∀ x ∈ xs, x.1.length ≤ 17592186044416) : Fn Try.prog 45 [] [vD (dAs xs), nat1 l] (.o (nat1 (subZ l (szAs xs)))) [] := by
  refine Fn.code0 Try.func45 rfl rfl rfl rfl ?_
  refine .seq <| .region <| .cons (.asg rfl rfl) <| .nil <| ks_n <| .seq <| .region <| .cons (.mv rfl rfl) <| .cons (.mv rfl rfl) <| .cons (.ln 27 2 32 rfl rfl rfl) <| .cons (.sb rfl rfl rfl) <| .cons (.asg rfl rfl) <| .nil <| ks_n <| .seq <| .seq <| .region <| .cons (.mv rfl rfl) <| .cons (.ls rfl rfl rfl) <| .nil <| ks_n ?_
  refine .cD rfl (fun h11 => ?_) (fun h11 => ?_)
  · skip
    refine .seq <| .region <| .cons (.asg rfl rfl) <| .nil <| ks_n <| .ret <| ks_r ?_
    refine kf_ret rfl ?_ nobox
    exact leafI (subZ_no (by rw [szAs]; omega)).symm
  · skip
    refine .skip <| ks_n <| .seq <| .seq <| .region <| .cons (.asg rfl rfl) <| .nil <| ks_n <| .block ?_
    refine .loopK (fun m σ => (∃ i : Nat, m = xs.length - i ∧ (i ≤ xs.length) ∧ (((xs.length + ((xs.take i).map fun a => a.1.length).sum : Nat) : Int) ≤ l) ∧ σ = [(.t 0, .v (.o (vD (dAs xs)))), (.t 1, .v (.o (nat1 (l - (xs.length + ((xs.take i).map fun a => a.1.length).sum : Nat))))), (.t 4, .v (.o (nat1 0))), (.t 5, .v (.o (nat1 (i : Nat))))])) [] ⟨0, rfl, by omega, by simp; omega, rfl⟩ ⟨ks rfl .dt, ks rfl (.dt (vI (by first | (simp; done) | (rw [hT, subZ_yes (by omega)]; omega)))), ks rfl .dt, ks rfl .dt, trivial⟩ ?_
    rintro m σ ⟨i, hm0, hi, hF, rfl⟩
    refine .seq <| .seq <| .region <| .cons (.mv rfl rfl) <| .cons (.mv rfl rfl) <| .cons (.ln 27 2 32 rfl rfl rfl) <| .cons (.ls rfl rfl rfl) <| .nil <| ks_n ?_
    refine .cD rfl (fun h15 => ?_) (fun h15 => ?_)
    · skip
      obtain ⟨x, hx1⟩ : ∃ x, xs[i]? = some x := ⟨_, List.getElem?_eq_getElem (by omega)⟩
      have hT := sum_take (fun a : Aff => a.1.length) hx1
      refine .skip <| ks_n <| .seq <| .block <| .seq <| .region <| .cons (.mv rfl rfl) <| .cons (.mv rfl rfl) <| .cons (.xL 27 2 32 rfl rfl rfl rfl rfl) ?_
      refine .cons (.lN 2 rfl rfl rfl) <| .cons (.mv rfl rfl) <| .cons (.cP [.tmp 21, .tmp 22] rfl rfl rfl rfl (szAff_fn (l := l - (xs.length + ((xs.take i).map fun a => a.1.length).sum : Nat)) (by omega) (hq x (List.mem_of_getElem? hx1))) rfl) ?_
      refine .cons (.asg rfl rfl) <| .nil <| ks_n <| .seq <| .region <| .cons (.mv rfl rfl) <| .cons (.ls rfl rfl rfl) <| .nil <| ks_n ?_
      refine .cD rfl (fun h25 => ?_) (fun h25 => ?_)
      · skip
        refine .seq <| .region <| .cons (.asg rfl rfl) <| .nil <| ks_n <| .ret <| kb_r <| ks_r <| kl_r <| kb_r <| ks_r ?_
        refine kf_ret rfl ?_ nobox
        exact leafI (subZ_no (by have h1 := subZ_neg h25 (by omega); have h2 := sum_take_le (fun a : Aff => a.1.length) (l := xs) (i := i + 1); rw [szAs]; omega)).symm
      · skip
        have hP := subZ_pos h25
        refine .skip <| kb_n <| ks_n <| .region <| .cons (.mv rfl rfl) <| .cons (.pl rfl rfl rfl) <| .cons (.asg rfl rfl) <| .nil ?_
        refine kl_k [] ⟨i + 1, rfl, by omega, by rw [hT]; have := subZ_pos h25; omega, rfl⟩ ⟨ks rfl .dt, ks rfl (.dt (vI (by first | (simp; done) | (rw [hT, subZ_yes (by omega)]; omega)))), ks rfl .dt, ks rfl .dt, trivial⟩
    · skip
      have hall : xs.take i = xs := List.take_of_length_le (by omega)
      refine .exit <| ks_e <| kl_e <| kb_hit <| ks_n <| .seq <| .region <| .cons (.mv rfl rfl) <| .cons (.asg rfl rfl) <| .nil <| ks_n <| .ret ?_
      refine kf_ret rfl ?_ nobox
      exact leafI (by rw [subZ_yes (by rw [szAs, ← hall]; rw [hall]; rw [hall] at hF; omega), szAs, hall])
theorem szEs_take {l : List Ex} {i : Nat} {x : Ex} (h : l[i]? = some x) : szEs (l.take (i + 1)) = szEs (l.take i) + szE x := by
  have key : ∀ (a : List Ex) (x : Ex), szEs (a ++ [x]) = szEs a + szE x := by
    intro a x
    induction a with
    | nil => simp [szEs]
    | cons y a ih => rw [List.cons_append, szEs, szEs, ih]; omega
  rw [List.take_add_one, h]
  exact key _ _
theorem szEs_le : ∀ {l : List Ex} {i : Nat}, szEs (l.take i) ≤ szEs l
  | [], i => by simp
  | y :: l, 0 => by simp [szEs]
  | y :: l, i + 1 => by rw [List.take_succ_cons, szEs, szEs]; have := szEs_le (l := l) (i := i); omega

theorem szAcc_fn {a : Acc} {l : Int} (hl : 0 ≤ l ∧ l ≤ 1048576) (h1 : a.1.size ≤ 140737488351232) (h2 : a.2.length ≤ 17592186044416) (h3 : ∀ x ∈ a.2, x.1.length ≤ 17592186044416) : Fn Try.prog 17 [] [ad (rC a), nat1 l] (.o (nat1 (subZ l (szC a)))) [] := by
  have hsz : szC a = a.1.size + szAs a.2 := rfl
  refine Fn.code0 Try.func17 rfl rfl rfl rfl ?_
  refine .seq <| .region <| .cons (St1.boxP rfl rfl rfl rfl rfl rfl) <| .cons (.asg rfl rfl) <| .nil <| ks_n <| .seq <| .region <| .cons (.mv rfl rfl) <| .cons (.fP 0 0 false rfl rfl) <| .cons (.l1 1 rfl rfl) <| .cons (St1.lenS rfl rfl rfl rfl rfl (by kernel_rfl) rfl) ?_
  refine .cons (.sb rfl rfl rfl) <| .cons (.asg rfl rfl) <| .nil <| ks_n <| .seq <| .seq <| .region <| .cons (.mv rfl rfl) <| .cons (.ls rfl rfl rfl) <| .nil <| ks_n ?_
  refine .cD rfl (fun h11 => ?_) (fun h11 => ?_)
  · skip
    refine .seq <| .region <| .cons (.asg rfl rfl) <| .nil <| ks_n <| .ret <| ks_r ?_
    refine kf_ret rfl ?_ nobox
    exact leafI (subZ_no (by omega)).symm
  · skip
    refine .skip <| ks_n <| .seq ?_
    have hb := subZ_bd (n := szAs a.2) (l := l - (a.1.size : Nat)) (by omega)
    refine .region <| .cons (.fP 1 0 false rfl rfl) <| .cons (.l1 1 rfl rfl) <| .cons (.mv rfl rfl) <| .cons (.cP [.tmp 13, .tmp 14] rfl rfl rfl rfl (szAffs_fn a.2 (l := l - (a.1.size : Nat)) (by omega) h2 h3) rfl) ?_
    refine .cons (.asg rfl rfl) <| .nil <| ks_n <| .seq <| .seq <| .region <| .cons (.mv rfl rfl) <| .cons (.ls rfl rfl rfl) <| .nil <| ks_n ?_
    refine .cD rfl (fun h17 => ?_) (fun h17 => ?_)
    · skip
      refine .seq <| .region <| .cons (.asg rfl rfl) <| .nil <| ks_n <| .ret <| ks_r ?_
      refine kf_ret rfl ?_ nobox
      exact leafI (subZ_no (by have := subZ_neg h17 (by omega); omega)).symm
    · skip
      refine .skip <| ks_n <| .seq <| .region <| .cons (.mv rfl rfl) <| .cons (.asg rfl rfl) <| .nil <| ks_n <| .ret ?_
      refine kf_ret rfl ?_ nobox
      exact leafI (by have := subZ_pos h17; rw [subZ_yes this, subZ_yes (by omega)]; omega)

theorem szExs_one (es : List Ex) {l : Int} (hl : 0 ≤ l ∧ l ≤ 1048576) (hx : es.length ≤ 17592186044416) (ih : ∀ x ∈ es, ∀ l : Int, 0 ≤ l ∧ l ≤ 1048576 → Fn Try.prog 18 [] [ad (rX x), nat1 l] (.o (nat1 (subZ l (szE x)))) []) : Fn Try.prog 47 [] [vD (dEs es), nat1 l] (.o (nat1 (subZ l (es.length + szEs es)))) [] := by
  refine Fn.code0 Try.func47 rfl rfl rfl rfl ?_
  refine .seq <| .region <| .cons (.asg rfl rfl) <| .nil <| ks_n <| .seq <| .region <| .cons (.mv rfl rfl) <| .cons (.mv rfl rfl) <| .cons (.ln 30 7 112 rfl rfl rfl) <| .cons (.sb rfl rfl rfl) <| .cons (.asg rfl rfl) <| .nil <| ks_n <| .seq <| .seq <| .region <| .cons (.mv rfl rfl) <| .cons (.ls rfl rfl rfl) <| .nil <| ks_n ?_
  refine .cD rfl (fun h11 => ?_) (fun h11 => ?_)
  · skip
    refine .seq <| .region <| .cons (.asg rfl rfl) <| .nil <| ks_n <| .ret <| ks_r ?_
    refine kf_ret rfl ?_ nobox
    exact leafI (subZ_no (by omega)).symm
  · skip
    refine .skip <| ks_n <| .seq <| .seq <| .region <| .cons (.asg rfl rfl) <| .nil <| ks_n <| .block ?_
    refine .loopK (fun m σ => (∃ i : Nat, m = es.length - i ∧ (i ≤ es.length) ∧ (((es.length + szEs (es.take i) : Nat) : Int) ≤ l) ∧ σ = [(.t 0, .v (.o (vD (dEs es)))), (.t 1, .v (.o (nat1 (l - (es.length + szEs (es.take i) : Nat))))), (.t 4, .v (.o (nat1 0))), (.t 5, .v (.o (nat1 (i : Nat))))])) [] ⟨0, rfl, by omega, by simp [szEs]; omega, rfl⟩ ⟨ks rfl .dt, ks rfl (.dt (vI (by first | (simp [szEs]; done) | (rw [hT, subZ_yes (by omega)]; omega)))), ks rfl .dt, ks rfl .dt, trivial⟩ ?_
    rintro m σ ⟨i, hm0, hi, hF, rfl⟩
    refine .seq <| .seq <| .region <| .cons (.mv rfl rfl) <| .cons (.mv rfl rfl) <| .cons (.ln 30 7 112 rfl rfl rfl) <| .cons (.ls rfl rfl rfl) <| .nil <| ks_n ?_
    refine .cD rfl (fun h15 => ?_) (fun h15 => ?_)
    · skip
      obtain ⟨x, hx1⟩ : ∃ x, es[i]? = some x := ⟨_, List.getElem?_eq_getElem (by omega)⟩
      have hT := szEs_take hx1
      refine .skip <| ks_n <| .seq <| .block <| .seq <| .region <| .cons (.mv rfl rfl) <| .cons (.mv rfl rfl) <| .cons (.xL 30 7 112 rfl rfl rfl rfl rfl (rE_at hx1)) ?_
      refine .cons (.lN 7 rfl rfl rfl) <| .cons (.mv rfl rfl) <| .cons (.cP [.tmp 21, .tmp 22] rfl rfl rfl rfl (ih x (List.mem_of_getElem? hx1) (l - (es.length + szEs (es.take i) : Nat)) (by omega)) rfl) ?_
      refine .cons (.asg rfl rfl) <| .nil <| ks_n <| .seq <| .region <| .cons (.mv rfl rfl) <| .cons (.ls rfl rfl rfl) <| .nil <| ks_n ?_
      refine .cD rfl (fun h25 => ?_) (fun h25 => ?_)
      · skip
        refine .seq <| .region <| .cons (.asg rfl rfl) <| .nil <| ks_n <| .ret <| kb_r <| ks_r <| kl_r <| kb_r <| ks_r ?_
        refine kf_ret rfl ?_ nobox
        exact leafI (subZ_no (by have h1 := subZ_neg h25 (by omega); have h2 := szEs_le (l := es) (i := i + 1); omega)).symm
      · skip
        have hP := subZ_pos h25
        refine .skip <| kb_n <| ks_n <| .region <| .cons (.mv rfl rfl) <| .cons (.pl rfl rfl rfl) <| .cons (.asg rfl rfl) <| .nil ?_
        refine kl_k [] ⟨i + 1, rfl, by omega, by rw [hT]; have := subZ_pos h25; omega, rfl⟩ ⟨ks rfl .dt, ks rfl (.dt (vI (by first | (simp [szEs]; done) | (rw [hT, subZ_yes (by omega)]; omega)))), ks rfl .dt, ks rfl .dt, trivial⟩
    · skip
      have hall : es.take i = es := List.take_of_length_le (by omega)
      refine .exit <| ks_e <| kl_e <| kb_hit <| ks_n <| .seq <| .region <| .cons (.mv rfl rfl) <| .cons (.asg rfl rfl) <| .nil <| ks_n <| .ret ?_
      refine kf_ret rfl ?_ nobox
      exact leafI (by rw [hall] at hF ⊢; rw [subZ_yes hF])

theorem szEx_one (e : Ex) {l : Int} (hl : 0 ≤ l ∧ l ≤ 1048576) (h0 : e.i.1.length ≤ 17592186044416) (h1 : e.r.1.size ≤ 140737488351232) (h2 : e.r.2.length ≤ 17592186044416) (h3 : ∀ x ∈ e.r.2, x.1.length ≤ 17592186044416) (h4 : e.ks.length ≤ 17592186044416) (ih : ∀ x ∈ e.ks, ∀ l : Int, 0 ≤ l ∧ l ≤ 1048576 → Fn Try.prog 18 [] [ad (rX x), nat1 l] (.o (nat1 (subZ l (szE x)))) []) : Fn Try.prog 18 [] [ad (rX e), nat1 l] (.o (nat1 (subZ l (szE e)))) [] := by
  have hsz := szE_eq e
  have hb1 := subZ_bd (n := e.i.1.length) hl
  refine Fn.code0 Try.func18 rfl rfl rfl rfl ?_
  refine .seq <| .region <| .cons (St1.boxP rfl rfl rfl rfl rfl rfl) <| .cons (.asg rfl rfl) <| .nil <| ks_n <| .seq <| .region <| .cons (.fP 2 1 true rfl rfl) <| .cons (.lN 2 rfl rfl rfl) <| .cons (.mv rfl rfl) <| .cons (.cP [.tmp 6, .tmp 7] rfl rfl rfl rfl (szAff_fn hl h0) rfl) ?_
  refine .cons (.asg rfl rfl) <| .nil <| ks_n <| .seq <| .seq <| .region <| .cons (.mv rfl rfl) <| .cons (.ls rfl rfl rfl) <| .nil <| ks_n ?_
  refine .cD rfl (fun h10 => ?_) (fun h10 => ?_)
  · skip
    refine .seq <| .region <| .cons (.asg rfl rfl) <| .nil <| ks_n <| .ret <| ks_r ?_
    refine kf_ret rfl ?_ nobox
    exact leafI (subZ_no (by have := subZ_neg h10 hl.1; omega)).symm
  · skip
    refine .skip <| ks_n <| .seq ?_
    have hp1 := subZ_pos h10
    have hb2 := subZ_bd (n := szC e.r) (l := subZ l e.i.1.length) (by omega)
    refine .region <| .cons (.fP 4 1 true rfl rfl) <| .cons (.lN 2 rfl rfl rfl) <| .cons (.mv rfl rfl) <| .cons (.cP [.tmp 12, .tmp 13] rfl rfl rfl rfl (szAcc_fn (a := e.r) (l := subZ l e.i.1.length) (by omega) h1 h2 h3) rfl) ?_
    refine .cons (.asg rfl rfl) <| .nil <| ks_n <| .seq <| .seq <| .region <| .cons (.mv rfl rfl) <| .cons (.ls rfl rfl rfl) <| .nil <| ks_n ?_
    refine .cD rfl (fun h16 => ?_) (fun h16 => ?_)
    · skip
      refine .seq <| .region <| .cons (.asg rfl rfl) <| .nil <| ks_n <| .ret <| ks_r ?_
      refine kf_ret rfl ?_ nobox
      exact leafI (subZ_no (by have h6 := subZ_neg h16 (by omega); rw [subZ_yes hp1] at h6; omega)).symm
    · skip
      refine .skip <| ks_n <| .seq ?_
      have hp2 := subZ_pos h16
      have hb3 := subZ_bd (n := e.ks.length + szEs e.ks) (l := subZ (subZ l e.i.1.length) (szC e.r)) (by omega)
      have e1 := subZ_yes hp1
      have e2 := subZ_yes hp2
      refine .region <| .cons (.fP 6 0 false rfl rfl) <| .cons (.l1 1 rfl rfl) <| .cons (.mv rfl rfl) <| .cons (.cP [.tmp 18, .tmp 19] rfl rfl rfl rfl (szExs_one e.ks (l := subZ (subZ l e.i.1.length) (szC e.r)) (by omega) h4 ih) rfl) ?_
      refine .cons (.asg rfl rfl) <| .nil <| ks_n <| .seq <| .seq <| .region <| .cons (.mv rfl rfl) <| .cons (.ls rfl rfl rfl) <| .nil <| ks_n ?_
      refine .cD rfl (fun h22 => ?_) (fun h22 => ?_)
      · skip
        refine .seq <| .region <| .cons (.asg rfl rfl) <| .nil <| ks_n <| .ret <| ks_r ?_
        refine kf_ret rfl ?_ nobox
        exact leafI (subZ_no (by have h6 := subZ_neg h22 (by omega); omega)).symm
      · skip
        refine .skip <| ks_n <| .seq <| .region <| .cons (.mv rfl rfl) <| .cons (.asg rfl rfl) <| .nil <| ks_n <| .ret ?_
        refine kf_ret rfl ?_ nobox
        exact leafI (by have h6 := subZ_pos h22; rw [subZ_yes h6, e2, e1, subZ_yes (l := l) (n := szE e) (by omega)]; omega)

theorem szEx_fn : ∀ e : Ex, okE e → ∀ l : Int, 0 ≤ l ∧ l ≤ 1048576 → Fn Try.prog 18 [] [ad (rX e), nat1 l] (.o (nat1 (subZ l (szE e)))) [] := by
  intro e
  induction e using Ex.rec' with
  | h e ih =>
    intro ho l hl
    obtain ⟨h1, h2, h3, h4⟩ := okE_eq.1 ho
    exact szEx_one e hl h1 h2.1 h2.2.1 h2.2.2 h3 fun x hx l hl => ih x hx (h4 x hx) l hl

theorem szStm_fn {s : Stm} (ho : okS s) {l : Int} (hl : 0 ≤ l ∧ l ≤ 1048576)  : Fn Try.prog 5 [] [ad (rS s), nat1 l] (.o (nat1 (subZ l (szS s)))) [] := by
  have hsz : szS s = szC s.1 + szE s.2 := rfl
  have hb1 := subZ_bd (n := szC s.1) hl
  obtain ⟨⟨ho1, ho2, ho3⟩, ho4⟩ := ho
  refine Fn.code0 Try.func5 rfl rfl rfl rfl ?_
  refine .seq <| .region <| .cons (St1.boxP rfl rfl rfl rfl rfl rfl) <| .cons (.asg rfl rfl) <| .nil <| ks_n <| .seq <| .region <| .cons (.fP 0 1 true rfl rfl) <| .cons (.lN 2 rfl rfl rfl) <| .cons (.mv rfl rfl) <| .cons (.cP [.tmp 6, .tmp 7] rfl rfl rfl rfl (szAcc_fn hl ho1 ho2 ho3) rfl) ?_
  refine .cons (.asg rfl rfl) <| .nil <| ks_n <| .seq <| .seq <| .region <| .cons (.mv rfl rfl) <| .cons (.ls rfl rfl rfl) <| .nil <| ks_n ?_
  refine .cD rfl (fun h10 => ?_) (fun h10 => ?_)
  · skip
    refine .seq <| .region <| .cons (.asg rfl rfl) <| .nil <| ks_n <| .ret <| ks_r ?_
    refine kf_ret rfl ?_ nobox
    exact leafI (subZ_no (by have := subZ_neg h10 hl.1; omega)).symm
  · skip
    refine .skip <| ks_n <| .seq ?_
    have hp1 := subZ_pos h10
    have hb2 := subZ_bd (n := szE s.2) (l := subZ l (szC s.1)) (by omega)
    have e1 := subZ_yes hp1
    refine .region <| .cons (.fP 2 6 true rfl rfl) <| .cons (.lN 7 rfl rfl rfl) <| .cons (.mv rfl rfl) <| .cons (.cP [.tmp 12, .tmp 13] rfl rfl rfl rfl (szEx_fn s.2 ho4 (subZ l (szC s.1)) (by omega)) rfl) ?_
    refine .cons (.asg rfl rfl) <| .nil <| ks_n <| .seq <| .seq <| .region <| .cons (.mv rfl rfl) <| .cons (.ls rfl rfl rfl) <| .nil <| ks_n ?_
    refine .cD rfl (fun h16 => ?_) (fun h16 => ?_)
    · skip
      refine .seq <| .region <| .cons (.asg rfl rfl) <| .nil <| ks_n <| .ret <| ks_r ?_
      refine kf_ret rfl ?_ nobox
      exact leafI (subZ_no (by have h6 := subZ_neg h16 (by omega); omega)).symm
    · skip
      refine .skip <| ks_n <| .seq <| .region <| .cons (.mv rfl rfl) <| .cons (.asg rfl rfl) <| .nil <| ks_n <| .ret ?_
      refine kf_ret rfl ?_ nobox
      exact leafI (by have h6 := subZ_pos h16; rw [subZ_yes h6, e1, subZ_yes (l := l) (n := szS s) (by omega)]; omega)
def tyMk (P : Program) (t : TypeId) : Option (TypeId × Nat × Nat × List Value) :=
  match P.underlying t with
  | some (.slice e) => (P.info? e).bind fun i => i.zero.map fun z => (e, i.size, i.bytes, z.cells.toList)
  | _ => none
theorem tyMk_out {P : Program} {t e : TypeId} {sz by' : Nat} {zs : List Value} (h : tyMk P t = some (e, sz, by', zs)) : P.underlying t = some (.slice e) ∧ ∃ i z, P.info? e = some i ∧ i.zero = some z ∧ i.size = sz ∧ i.bytes = by' ∧ z.cells.toList = zs := by
  unfold tyMk at h
  cases hu : P.underlying t with
  | none => simp [hu] at h
  | some d =>
    cases d <;> simp only [hu, reduceCtorEq] at h
    case slice e' =>
      cases hi : P.info? e' with
      | none => rw [hi] at h; cases h
      | some i =>
        cases hz : i.zero with
        | none => rw [hi] at h; simp [hz] at h
        | some z =>
          rw [hi] at h
          simp only [Option.bind_some, hz, Option.map_some, Option.some.injEq, Prod.mk.injEq] at h
          obtain ⟨rfl, h1, h2, h3⟩ := h
          exact ⟨rfl, i, z, hi, hz, h1, h2, h3⟩
theorem made_at {z : Value} {n i j sz : Nat} {u : Value} (hs : z.cells.toList.length = sz) (hi : i < n) (hu : z.cells.toList[j]? = some u) : (madeCells z.cells (n * sz))[i * sz + j]? = some u := by
  have hj : j < sz := by rw [← hs]; exact (List.getElem?_eq_some_iff.1 hu).1
  have hlt : i * sz + j < n * sz := by
    have := Nat.mul_le_mul_right sz (show i + 1 ≤ n by omega)
    rw [Nat.add_mul] at this; omega
  have hz : z.cells.size = sz := by rw [← hs, Array.length_toList]
  have hm : (i * sz + j) % sz = j := by rw [Nat.add_comm, Nat.add_mul_mod_self_right, Nat.mod_eq_of_lt hj]
  rw [Array.getElem?_toList] at hu
  simp [madeCells, hlt, hz, hm, Array.getElem!_eq_getD, hu, Array.getD_eq_getD_getElem?]
section
variable {P : Program} {n : Nat} {ops : Array Oper} {o : Oper} {σ : St} {d : Nat}
theorem St1.mk (k' : Nat) (e : TypeId) (sz by' : Nat) (zs : List Value) {t : TypeId} {x y : Operand} {m : Nat} (h4 : (o.op, o.guard, o.dst, Nat.blt d n) = (Op.makeSlice t x y, none, some d, true)) (hx : ev σ x = some (.o (nat1 (m : Nat)))) (hy : ev σ y = some (.o (nat1 (m : Nat)))) (hm : m ≤ 1073741824) (hz : (Nat.beq zs.length sz && zs.all (·.oneCell') && Nat.ble by' 65536) = true)
    (hf : (lk σ (.u k'), Nat.ble 100 k') = (.no, true)) (ht : tyMk P t = some (e, sz, by', zs) := by kernel_rfl) :
    St1 P n ops o σ (.u k' :: (rd x ++ rd y)) [.t d, .u k', .b k', .b k'] ((.t d, .v (.o (.c (.own k' sz m)))) :: (.u k', .u) :: (.b k', .b e sz (dR (List.replicate m (zs.map D.val)))) :: (.b k', .no) :: σ) := by
  simp only [Prod.mk.injEq] at h4 hf
  obtain ⟨ho, hg, hd, hn⟩ := h4
  simp only [Bool.and_eq_true] at hz
  have hzl : zs.length = sz := Nat.eq_of_beq_eq_true hz.1.1
  have hz1 : ∀ u ∈ zs, u.oneCell' = true := fun u hu => List.all_eq_true.1 hz.1.2 u hu
  have hby := Nat.le_of_ble_eq_true hz.2
  have hrow : ∀ {i : Nat} {r : List C}, (dR (List.replicate m (zs.map D.val)))[i]? = some r → i < m ∧ r = zs.map fun u => C.d (.val u) := fun {i r} h => by
    rw [dR, List.map_replicate, List.map_map] at h
    have hi : i < m := by have := (List.getElem?_eq_some_iff.1 h).1; simpa using this
    rw [List.getElem?_replicate, if_pos hi] at h
    exact ⟨hi, (Option.some.inj h).symm⟩
  refine St1.place hg hd hn hf.1 hf.2 (okk_self hf.2) rfl fun E bx τ a w hR hs => ?_
  obtain ⟨hu, i, z, hi, hzz, hs1, hs2, hs3⟩ := tyMk_out ht
  have hbm : i.bytes * m ≤ 281474976710656 := by
    have := Nat.mul_le_mul (show i.bytes ≤ 65536 by omega) hm; omega
  have hb' : (i.bytes : Int) * (m : Int) ≤ 281474976710656 := by
    have h : ((i.bytes * m : Nat) : Int) ≤ 281474976710656 := by omega
    rwa [Int.natCast_mul] at h
  have hr := run_make (P := P) w t e i z hu hi hzz .i64 .i64 (m : Int) (m : Int) (by omega) (Int.le_refl _) hb' (by omega)
  simp only [Int.toNat_natCast, hs1] at hr
  have hsz : (madeCells z.cells (m * sz)).size = m * sz := size_madeCells _ _
  refine ⟨.slice (some ⟨w.heap.size, 0, none⟩) m m, w.alloc (.cells (madeCells z.cells (m * sz)) e), w.heap.size, w.heap.size, madeCells z.cells (m * sz), ?_, .inr (Nat.le_refl _), World.grownBy_alloc w _ _, .inl rfl, heap_alloc_new w _, ?_, fun i r hi => ?_, fun i r j c hi hj => ?_, fun r hr' c hc l hl => ?_, fun bx' al B w2 hbx => ⟨rfl, fun _ => ⟨m, by rw [hbx], Nat.le_refl _, by unfold maxLen; omega, by rw [hbx, hsz]⟩⟩⟩
  · simp only [execOp, ho, ev_val hx (rd_l hR) hs, ev_val hy (rd_r hR) hs, Sem.run_bind, hr]; rfl
  · rw [hsz, dR, List.length_map, List.length_replicate]; exact Nat.le_refl _
  · rw [(hrow hi).2, List.length_map, hzl]
  · obtain ⟨h1, rfl⟩ := hrow hi
    rw [List.getElem?_map] at hj
    cases hq : zs[j]? with
    | none => rw [hq] at hj; cases hj
    | some u =>
      rw [hq] at hj; cases hj
      exact ⟨u, made_at (by rw [hs3, hzl]) h1 (by rw [hs3]; exact hq), .val _ (hz1 u (List.mem_of_getElem? hq))⟩
  · obtain ⟨i, hi⟩ := List.mem_iff_getElem?.1 hr'
    obtain ⟨_, rfl⟩ := hrow hi
    obtain ⟨u, _, rfl⟩ := List.mem_map.1 hc
    cases hl
end
theorem eqInts_f (xs ys : List Int) (hx : xs.length ≤ 1099511627776) : Fn Try.prog 11 [] [vD (dIs xs), vD (dIs ys)] (.o (bo1 (eqF (fun x y : Int => decide (x = y)) xs ys))) [] := by
 refine Fn.code0 Try.func11 rfl rfl rfl rfl ?_
 refine .seq <| .region <| .cons (.asg rfl rfl) <| .nil <| ks_n <| .seq <| .seq <| .region <| .cons (.mv rfl rfl) <| .cons (.ln 3 1 8 rfl rfl rfl) <| .cons (.mv rfl rfl) <| .cons (.ln 3 1 8 rfl rfl rfl) <| .cons (.ne rfl rfl rfl) <| .nil <| ks_n ?_
 refine .cND rfl (fun h10 => ?_) (fun h10 => ?_)
 ·skip
  refine .seq <| .region <| .cons (.asg rfl rfl) <| .nil <| ks_n <| .ret <| ks_r ?_
  refine kf_ret rfl ?_ nobox
  exact leafB (eqF_len (by omega)).symm
 ·skip
  refine .skip <| ks_n <| .seq <| .seq <| .region <| .cons (.asg rfl rfl) <| .nil <| ks_n <| .block ?_
  refine .loopK (fun m σ => (∃ i : Nat, m = xs.length - i ∧ (i ≤ xs.length) ∧ (eqF (fun x y : Int => decide (x = y)) xs ys = eqF (fun x y : Int => decide (x = y)) (xs.drop i) (ys.drop i)) ∧ σ = [(.t 0, .v (.o (vD (dIs xs)))), (.t 1, .v (.o (vD (dIs ys)))), (.t 4, .v (.o (bo1 false))), (.t 5, .v (.o (nat1 (i : Nat))))])) [] ⟨0, rfl, by omega, by simp, rfl⟩ ⟨ks rfl .dt, ks rfl .dt, ks rfl .dt, ks rfl .dt, trivial⟩ ?_
  rintro m σ ⟨i, hm0, hi, hF, rfl⟩
  refine .seq <| .seq <| .region <| .cons (.mv rfl rfl) <| .cons (.mv rfl rfl) <| .cons (.ln 3 1 8 rfl rfl rfl) <| .cons (.ls rfl rfl rfl) <| .nil <| ks_n ?_
  refine .cD rfl (fun h14 => ?_) (fun h14 => ?_)
  ·skip
   obtain ⟨x, hx1⟩ : ∃ x, xs[i]? = some x := ⟨_, List.getElem?_eq_getElem (by omega)⟩
   obtain ⟨y, hy1⟩ : ∃ x, ys[i]? = some x := ⟨_, List.getElem?_eq_getElem (by omega)⟩
   refine .skip <| ks_n <| .seq <| .block <| .seq ?_
   refine ACode.drawK (by kernel_rfl) (by kernel_rfl) ?_
   refine .cons (.mv rfl rfl) <| .cons (.mv rfl rfl) <| .cons (.xL 3 1 8 rfl rfl rfl rfl rfl (map_at hx1)) ?_
   refine .cons (.l1 1 rfl rfl) <| .cons (.mv rfl rfl) <| .cons (.mv rfl rfl) <| .cons (.xL 3 1 8 rfl rfl rfl rfl rfl (map_at hy1)) ?_
   refine .cons (.l1 1 rfl rfl) <| .cons (.ne rfl rfl rfl) ?_
   refine .nil ⟨by kernel_rfl, ?_⟩
   refine ks_n ?_
   refine .cND rfl (fun h25 => ?_) (fun h25 => ?_)
   ·skip
    have g : decide (x = y) = false := by first | assumption | exact decide_eq_false (by assumption) | (simp; omega)
    refine .seq <| .region <| .cons (.asg rfl rfl) <| .nil <| ks_n <| .ret <| kb_r <| ks_r <| kl_r <| kb_r <| ks_r ?_
    refine kf_ret rfl ?_ nobox
    exact leafB (by rw [hF, eqF_drop hx1 hy1, g]; rfl)
   ·skip
    have g : decide (x = y) = true := by first | assumption | exact decide_eq_true (by assumption) | (simp; omega)
    refine .skip <| kb_n <| ks_n <| .region <| .cons (.mv rfl rfl) <| .cons (.pl rfl rfl rfl) <| .cons (.asg rfl rfl) <| .nil ?_
    refine kl_k [] ⟨i + 1, rfl, by omega, by rw [hF, eqF_drop hx1 hy1, g, Bool.true_and], rfl⟩ ⟨ks rfl .dt, ks rfl .dt, ks rfl .dt, ks rfl .dt, trivial⟩
  ·skip
   refine .exit <| ks_e <| kl_e <| kb_hit <| ks_n <| .seq <| .region <| .cons (.asg rfl rfl) <| .nil <| ks_n <| .ret ?_
   refine kf_ret rfl ?_ nobox
   exact leafB (by rw [hF, show i = xs.length by omega, eqF_end (by omega)])

theorem eqInts_fn (xs ys : List Int) (hx : xs.length ≤ 1099511627776) : Fn Try.prog 11 [] [vD (dIs xs), vD (dIs ys)] (.o (bo1 (decide (xs = ys)))) [] := by
  rw [← eqF_dec]; exact eqInts_f xs ys hx

theorem eqAff_fn (x y : Aff) (hx : x.1.length ≤ 1099511627776) : Fn Try.prog 65 [] [ad (rA x), ad (rA y)] (.o (bo1 (decide (x = y)))) [] := by
 refine Fn.code0 Try.func65 rfl rfl rfl rfl ?_
 refine .seq <| .region <| .cons (St1.boxP rfl rfl rfl rfl rfl rfl) <| .cons (St1.boxP rfl rfl rfl rfl rfl rfl) <| .cons (.asg rfl rfl) <| .nil <| ks_n <| .seq <| .seq <| .region <| .cons (.fP 0 0 false rfl rfl) <| .cons (.l1 1 rfl rfl) <| .cons (.fP 0 0 false rfl rfl) <| .cons (.l1 1 rfl rfl) <| .cons (.cP [.tmp 6, .tmp 8] rfl rfl rfl rfl (eqInts_fn _ _ hx) rfl) ?_
 refine .cons (.nt rfl rfl) <| .nil <| ks_n ?_
 refine ACode.condT rfl (fun h10 => ?_) (fun h10 => ?_)
 ·try simp only [zs1, zs2, zs3, zs4, zs5, zs6, zs7] at h10
  refine .seq <| .region <| .cons (.asg rfl rfl) <| .nil <| ks_n <| .ret <| ks_r ?_
  refine kf_ret rfl ?_ nobox
  exact leafB (by rw [Bool.eq_iff_iff]; simp [Prod.ext_iff, *])
 ·try simp only [zs1, zs2, zs3, zs4, zs5, zs6, zs7] at h10
  refine .skip <| ks_n <| .seq <| .seq <| .region <| .cons (.fP 1 0 false rfl rfl) <| .cons (.l1 1 rfl rfl) <| .cons (.fP 1 0 false rfl rfl) <| .cons (.l1 1 rfl rfl) <| .cons (.ne rfl rfl rfl) <| .nil <| ks_n ?_
  refine .cND rfl (fun h15 => ?_) (fun h15 => ?_)
  ·skip
   refine .seq <| .region <| .cons (.asg rfl rfl) <| .nil <| ks_n <| .ret <| ks_r ?_
   refine kf_ret rfl ?_ nobox
   exact leafB (by rw [Bool.eq_iff_iff]; simp [Prod.ext_iff, *])
  ·skip
   refine .skip <| ks_n <| .seq <| .region <| .cons (.asg rfl rfl) <| .nil <| ks_n <| .ret ?_
   refine kf_ret rfl ?_ nobox
   exact leafB (by rw [Bool.eq_iff_iff]; simp [Prod.ext_iff, *])

theorem eqAffs_f (xs ys : List Aff) (hx : xs.length ≤ 1099511627776) (hq : ∀ x ∈ xs, x.1.length ≤ 1099511627776) : Fn Try.prog 64 [] [vD (dAs xs), vD (dAs ys)] (.o (bo1 (eqF (fun x y : Aff => decide (x = y)) xs ys))) [] := by
 refine Fn.code0 Try.func64 rfl rfl rfl rfl ?_
 refine .seq <| .region <| .cons (.asg rfl rfl) <| .nil <| ks_n <| .seq <| .seq <| .region <| .cons (.mv rfl rfl) <| .cons (.ln 37 2 32 rfl rfl rfl) <| .cons (.mv rfl rfl) <| .cons (.ln 37 2 32 rfl rfl rfl) <| .cons (.ne rfl rfl rfl) <| .nil <| ks_n ?_
 refine .cND rfl (fun h10 => ?_) (fun h10 => ?_)
 ·skip
  refine .seq <| .region <| .cons (.asg rfl rfl) <| .nil <| ks_n <| .ret <| ks_r ?_
  refine kf_ret rfl ?_ nobox
  exact leafB (eqF_len (by omega)).symm
 ·skip
  refine .skip <| ks_n <| .seq <| .seq <| .region <| .cons (.asg rfl rfl) <| .nil <| ks_n <| .block ?_
  refine .loopK (fun m σ => (∃ i : Nat, m = xs.length - i ∧ (i ≤ xs.length) ∧ (eqF (fun x y : Aff => decide (x = y)) xs ys = eqF (fun x y : Aff => decide (x = y)) (xs.drop i) (ys.drop i)) ∧ σ = [(.t 0, .v (.o (vD (dAs xs)))), (.t 1, .v (.o (vD (dAs ys)))), (.t 4, .v (.o (bo1 false))), (.t 5, .v (.o (nat1 (i : Nat))))])) [] ⟨0, rfl, by omega, by simp, rfl⟩ ⟨ks rfl .dt, ks rfl .dt, ks rfl .dt, ks rfl .dt, trivial⟩ ?_
  rintro m σ ⟨i, hm0, hi, hF, rfl⟩
  refine .seq <| .seq <| .region <| .cons (.mv rfl rfl) <| .cons (.mv rfl rfl) <| .cons (.ln 37 2 32 rfl rfl rfl) <| .cons (.ls rfl rfl rfl) <| .nil <| ks_n ?_
  refine .cD rfl (fun h14 => ?_) (fun h14 => ?_)
  ·skip
   obtain ⟨x, hx1⟩ : ∃ x, xs[i]? = some x := ⟨_, List.getElem?_eq_getElem (by omega)⟩
   obtain ⟨y, hy1⟩ : ∃ x, ys[i]? = some x := ⟨_, List.getElem?_eq_getElem (by omega)⟩
   refine .skip <| ks_n <| .seq <| .block <| .seq ?_
   refine ACode.drawK (by kernel_rfl) (by kernel_rfl) ?_
   refine .cons (.mv rfl rfl) <| .cons (.mv rfl rfl) <| .cons (.xL 37 2 32 rfl rfl rfl rfl rfl (map_at hx1)) ?_
   refine .cons (.lN 2 rfl rfl rfl) <| .cons (.mv rfl rfl) <| .cons (.mv rfl rfl) <| .cons (.xL 37 2 32 rfl rfl rfl rfl rfl (map_at hy1)) ?_
   refine .cons (.lN 2 rfl rfl rfl) <| .cons (.cP [.tmp 20, .tmp 24] rfl rfl rfl rfl (eqAff_fn x y (hq x (List.mem_of_getElem? hx1))) rfl) ?_
   refine .cons (.nt rfl rfl) ?_
   refine .nil ⟨by kernel_rfl, ?_⟩
   refine ks_n ?_
   refine ACode.condT rfl (fun h26 => ?_) (fun h26 => ?_)
   ·try simp only [zs1, zs2, zs3, zs4, zs5, zs6, zs7] at h26
    have g : decide (x = y) = false := by first | assumption | exact decide_eq_false (by assumption) | (simp; omega)
    refine .seq <| .region <| .cons (.asg rfl rfl) <| .nil <| ks_n <| .ret <| kb_r <| ks_r <| kl_r <| kb_r <| ks_r ?_
    refine kf_ret rfl ?_ nobox
    exact leafB (by rw [hF, eqF_drop hx1 hy1, g]; rfl)
   ·try simp only [zs1, zs2, zs3, zs4, zs5, zs6, zs7] at h26
    have g : decide (x = y) = true := by first | assumption | exact decide_eq_true (by assumption) | (simp; omega)
    refine .skip <| kb_n <| ks_n <| .region <| .cons (.mv rfl rfl) <| .cons (.pl rfl rfl rfl) <| .cons (.asg rfl rfl) <| .nil ?_
    refine kl_k [] ⟨i + 1, rfl, by omega, by rw [hF, eqF_drop hx1 hy1, g, Bool.true_and], rfl⟩ ⟨ks rfl .dt, ks rfl .dt, ks rfl .dt, ks rfl .dt, trivial⟩
  ·skip
   refine .exit <| ks_e <| kl_e <| kb_hit <| ks_n <| .seq <| .region <| .cons (.asg rfl rfl) <| .nil <| ks_n <| .ret ?_
   refine kf_ret rfl ?_ nobox
   exact leafB (by rw [hF, show i = xs.length by omega, eqF_end (by omega)])

theorem eqAffs_fn (xs ys : List Aff) (hx : xs.length ≤ 1099511627776) (hq : ∀ x ∈ xs, x.1.length ≤ 1099511627776) : Fn Try.prog 64 [] [vD (dAs xs), vD (dAs ys)] (.o (bo1 (decide (xs = ys)))) [] := by
  rw [← eqF_dec]; exact eqAffs_f xs ys hx hq
theorem eqAcc_fn (a b : Acc) (h : szC a ≤ 1073741824) : Fn Try.prog 35 [] [ad (rC a), ad (rC b)] (.o (bo1 (sameC a b))) [] := by
 rw [szC] at h
 have h2 := szAs_len a.2
 refine Fn.code0 Try.func35 rfl rfl rfl rfl ?_
 refine .seq <| .region <| .cons (St1.boxP rfl rfl rfl rfl rfl rfl) <| .cons (St1.boxP rfl rfl rfl rfl rfl rfl) <| .cons (.asg rfl rfl) <| .nil <| ks_n <| .seq <| .seq <| .region <| .cons (.fP 0 0 false rfl rfl) <| .cons (.l1 1 rfl rfl) <| .cons (.fP 0 0 false rfl rfl) <| .cons (.l1 1 rfl rfl) <| .cons (St1.neS rfl rfl rfl) <| .nil <| ks_n ?_
 refine ACode.condT rfl (fun h9 => ?_) (fun h9 => ?_)
 ·try simp only [zs1, zs2, zs3, zs4, zs5, zs6, zs7] at h9
  refine .seq <| .region <| .cons (.asg rfl rfl) <| .nil <| ks_n <| .ret <| ks_r ?_
  refine kf_ret rfl ?_ nobox
  exact leafB (by rw [sameC]; first | (simp [*]; done) | grind)
 ·try simp only [zs1, zs2, zs3, zs4, zs5, zs6, zs7] at h9
  refine .skip <| ks_n <| .seq <| .seq <| .region <| .cons (.fP 1 0 false rfl rfl) <| .cons (.l1 1 rfl rfl) <| .cons (.fP 1 0 false rfl rfl) <| .cons (.l1 1 rfl rfl) <| .cons (.cP [.tmp 11, .tmp 13] rfl rfl rfl rfl (eqAffs_fn _ _ (by omega) (fun x hx => by have := szAs_mem hx; omega)) rfl) ?_
  refine .cons (.nt rfl rfl) <| .nil <| ks_n ?_
  refine ACode.condT rfl (fun h15 => ?_) (fun h15 => ?_)
  ·try simp only [zs1, zs2, zs3, zs4, zs5, zs6, zs7] at h15
   refine .seq <| .region <| .cons (.asg rfl rfl) <| .nil <| ks_n <| .ret <| ks_r ?_
   refine kf_ret rfl ?_ nobox
   exact leafB (by rw [sameC]; first | (simp [*]; done) | grind)
  ·try simp only [zs1, zs2, zs3, zs4, zs5, zs6, zs7] at h15
   refine .skip <| ks_n <| .seq <| .region <| .cons (.asg rfl rfl) <| .nil <| ks_n <| .ret ?_
   refine kf_ret rfl ?_ nobox
   exact leafB (by rw [sameC]; first | (simp [*]; done) | grind)

theorem eqExs_one (xs ys : List Ex) (hx : xs.length ≤ 1099511627776) (ih : ∀ x ∈ xs, ∀ y, Fn Try.prog 36 [] [ad (rX x), ad (rX y)] (.o (bo1 (sameE x y))) []) : Fn Try.prog 66 [] [vD (dEs xs), vD (dEs ys)] (.o (bo1 (eqF sameE xs ys))) [] := by
 refine Fn.code0 Try.func66 rfl rfl rfl rfl ?_
 refine .seq <| .region <| .cons (.asg rfl rfl) <| .nil <| ks_n <| .seq <| .seq <| .region <| .cons (.mv rfl rfl) <| .cons (.ln 40 7 112 rfl rfl rfl) <| .cons (.mv rfl rfl) <| .cons (.ln 40 7 112 rfl rfl rfl) <| .cons (.ne rfl rfl rfl) <| .nil <| ks_n ?_
 refine .cND rfl (fun h10 => ?_) (fun h10 => ?_)
 ·skip
  refine .seq <| .region <| .cons (.asg rfl rfl) <| .nil <| ks_n <| .ret <| ks_r ?_
  refine kf_ret rfl ?_ nobox
  exact leafB (eqF_len (by omega)).symm
 ·skip
  refine .skip <| ks_n <| .seq <| .seq <| .region <| .cons (.asg rfl rfl) <| .nil <| ks_n <| .block ?_
  refine .loopK (fun m σ => (∃ i : Nat, m = xs.length - i ∧ (i ≤ xs.length) ∧ (eqF sameE xs ys = eqF sameE (xs.drop i) (ys.drop i)) ∧ σ = [(.t 0, .v (.o (vD (dEs xs)))), (.t 1, .v (.o (vD (dEs ys)))), (.t 4, .v (.o (bo1 false))), (.t 5, .v (.o (nat1 (i : Nat))))])) [] ⟨0, rfl, by omega, by simp, rfl⟩ ⟨ks rfl .dt, ks rfl .dt, ks rfl .dt, ks rfl .dt, trivial⟩ ?_
  rintro m σ ⟨i, hm0, hi, hF, rfl⟩
  refine .seq <| .seq <| .region <| .cons (.mv rfl rfl) <| .cons (.mv rfl rfl) <| .cons (.ln 40 7 112 rfl rfl rfl) <| .cons (.ls rfl rfl rfl) <| .nil <| ks_n ?_
  refine .cD rfl (fun h14 => ?_) (fun h14 => ?_)
  ·skip
   obtain ⟨x, hx1⟩ : ∃ x, xs[i]? = some x := ⟨_, List.getElem?_eq_getElem (by omega)⟩
   obtain ⟨y, hy1⟩ : ∃ x, ys[i]? = some x := ⟨_, List.getElem?_eq_getElem (by omega)⟩
   refine .skip <| ks_n <| .seq <| .block <| .seq ?_
   refine ACode.drawK (by kernel_rfl) (by kernel_rfl) ?_
   refine .cons (.mv rfl rfl) <| .cons (.mv rfl rfl) <| .cons (.xL 40 7 112 rfl rfl rfl rfl rfl (rE_at hx1)) ?_
   refine .cons (.lN 7 rfl rfl rfl) <| .cons (.mv rfl rfl) <| .cons (.mv rfl rfl) <| .cons (.xL 40 7 112 rfl rfl rfl rfl rfl (rE_at hy1)) ?_
   refine .cons (.lN 7 rfl rfl rfl) <| .cons (.cP [.tmp 20, .tmp 24] rfl rfl rfl rfl (ih x (List.mem_of_getElem? hx1) y) rfl) ?_
   refine .cons (.nt rfl rfl) ?_
   refine .nil ⟨by kernel_rfl, ?_⟩
   refine ks_n ?_
   refine ACode.condT rfl (fun h26 => ?_) (fun h26 => ?_)
   ·try simp only [zs1, zs2, zs3, zs4, zs5, zs6, zs7] at h26
    have g : sameE x y = false := by first | assumption | exact decide_eq_false (by assumption) | (simp; omega)
    refine .seq <| .region <| .cons (.asg rfl rfl) <| .nil <| ks_n <| .ret <| kb_r <| ks_r <| kl_r <| kb_r <| ks_r ?_
    refine kf_ret rfl ?_ nobox
    exact leafB (by rw [hF, eqF_drop hx1 hy1, g]; rfl)
   ·try simp only [zs1, zs2, zs3, zs4, zs5, zs6, zs7] at h26
    have g : sameE x y = true := by first | assumption | exact decide_eq_true (by assumption) | (simp; omega)
    refine .skip <| kb_n <| ks_n <| .region <| .cons (.mv rfl rfl) <| .cons (.pl rfl rfl rfl) <| .cons (.asg rfl rfl) <| .nil ?_
    refine kl_k [] ⟨i + 1, rfl, by omega, by rw [hF, eqF_drop hx1 hy1, g, Bool.true_and], rfl⟩ ⟨ks rfl .dt, ks rfl .dt, ks rfl .dt, ks rfl .dt, trivial⟩
  ·skip
   refine .exit <| ks_e <| kl_e <| kb_hit <| ks_n <| .seq <| .region <| .cons (.asg rfl rfl) <| .nil <| ks_n <| .ret ?_
   refine kf_ret rfl ?_ nobox
   exact leafB (by rw [hF, show i = xs.length by omega, eqF_end (by omega)])

theorem eqEx_one (x y : Ex) (h0 : x.i.1.length ≤ 1073741824) (h1 : szC x.r ≤ 1073741824) (h2 : x.ks.length ≤ 1099511627776) (ih : ∀ a ∈ x.ks, ∀ b, Fn Try.prog 36 [] [ad (rX a), ad (rX b)] (.o (bo1 (sameE a b))) []) : Fn Try.prog 36 [] [ad (rX x), ad (rX y)] (.o (bo1 (sameE x y))) [] := by
 refine Fn.code0 Try.func36 rfl rfl rfl rfl ?_
 refine .seq <| .region <| .cons (St1.boxP rfl rfl rfl rfl rfl rfl) <| .cons (St1.boxP rfl rfl rfl rfl rfl rfl) <| .cons (.asg rfl rfl) <| .nil <| ks_n <| .seq <| .seq <| .region <| .cons (.fP 0 0 false rfl rfl) <| .cons (.l1 1 rfl rfl) <| .cons (.fP 0 0 false rfl rfl) <| .cons (.l1 1 rfl rfl) <| .cons (.ne rfl rfl rfl) <| .nil <| ks_n ?_
 refine .cND rfl (fun h9 => ?_) (fun h9 => ?_)
 ·skip
  refine .seq <| .region <| .cons (.asg rfl rfl) <| .nil <| ks_n <| .ret <| ks_r ?_
  refine kf_ret rfl ?_ nobox
  exact leafB (by rw [sameE_eq, ← eqF_sameE]; first | (simp [*]; done) | grind)
 ·skip
  refine .skip <| ks_n <| .seq <| .seq <| .region <| .cons (.fP 1 0 false rfl rfl) <| .cons (.l1 1 rfl rfl) <| .cons (.fP 1 0 false rfl rfl) <| .cons (.l1 1 rfl rfl) <| .cons (.ne rfl rfl rfl) <| .nil <| ks_n ?_
  refine .cND rfl (fun h14 => ?_) (fun h14 => ?_)
  ·skip
   refine .seq <| .region <| .cons (.asg rfl rfl) <| .nil <| ks_n <| .ret <| ks_r ?_
   refine kf_ret rfl ?_ nobox
   exact leafB (by rw [sameE_eq, ← eqF_sameE]; first | (simp [*]; done) | grind)
  ·skip
   refine .skip <| ks_n <| .seq <| .seq <| .region <| .cons (.fP 2 1 true rfl rfl) <| .cons (.lN 2 rfl rfl rfl) <| .cons (.fP 2 1 true rfl rfl) <| .cons (.lN 2 rfl rfl rfl) <| .cons (.cP [.tmp 16, .tmp 18] rfl rfl rfl rfl (eqAff_fn _ _ (by omega)) rfl) ?_
   refine .cons (.nt rfl rfl) <| .nil <| ks_n ?_
   refine ACode.condT rfl (fun h20 => ?_) (fun h20 => ?_)
   ·try simp only [zs1, zs2, zs3, zs4, zs5, zs6, zs7] at h20
    refine .seq <| .region <| .cons (.asg rfl rfl) <| .nil <| ks_n <| .ret <| ks_r ?_
    refine kf_ret rfl ?_ nobox
    exact leafB (by rw [sameE_eq, ← eqF_sameE]; first | (simp [*]; done) | grind)
   ·try simp only [zs1, zs2, zs3, zs4, zs5, zs6, zs7] at h20
    refine .skip <| ks_n <| .seq <| .seq <| .region <| .cons (.fP 4 1 true rfl rfl) <| .cons (.lN 2 rfl rfl rfl) <| .cons (.fP 4 1 true rfl rfl) <| .cons (.lN 2 rfl rfl rfl) <| .cons (.cP [.tmp 22, .tmp 24] rfl rfl rfl rfl (eqAcc_fn _ _ h1) rfl) ?_
    refine .cons (.nt rfl rfl) <| .nil <| ks_n ?_
    refine ACode.condT rfl (fun h26 => ?_) (fun h26 => ?_)
    ·try simp only [zs1, zs2, zs3, zs4, zs5, zs6, zs7] at h26
     refine .seq <| .region <| .cons (.asg rfl rfl) <| .nil <| ks_n <| .ret <| ks_r ?_
     refine kf_ret rfl ?_ nobox
     exact leafB (by rw [sameE_eq, ← eqF_sameE]; first | (simp [*]; done) | grind)
    ·try simp only [zs1, zs2, zs3, zs4, zs5, zs6, zs7] at h26
     refine .skip <| ks_n <| .seq <| .seq <| .region <| .cons (.fP 6 0 false rfl rfl) <| .cons (.l1 1 rfl rfl) <| .cons (.fP 6 0 false rfl rfl) <| .cons (.l1 1 rfl rfl) <| .cons (.cP [.tmp 28, .tmp 30] rfl rfl rfl rfl (eqExs_one x.ks y.ks h2 ih) rfl) ?_
     refine .cons (.nt rfl rfl) <| .nil <| ks_n ?_
     refine ACode.condT rfl (fun h32 => ?_) (fun h32 => ?_)
     ·try simp only [zs1, zs2, zs3, zs4, zs5, zs6, zs7] at h32
      refine .seq <| .region <| .cons (.asg rfl rfl) <| .nil <| ks_n <| .ret <| ks_r ?_
      refine kf_ret rfl ?_ nobox
      exact leafB (by rw [sameE_eq, ← eqF_sameE]; first | (simp [*]; done) | grind)
     ·try simp only [zs1, zs2, zs3, zs4, zs5, zs6, zs7] at h32
      refine .skip <| ks_n <| .seq <| .region <| .cons (.asg rfl rfl) <| .nil <| ks_n <| .ret ?_
      refine kf_ret rfl ?_ nobox
      exact leafB (by rw [sameE_eq, ← eqF_sameE]; first | (simp [*]; done) | grind)

theorem eqEx_fn : ∀ x y : Ex, szE x ≤ 1073741824 → Fn Try.prog 36 [] [ad (rX x), ad (rX y)] (.o (bo1 (sameE x y))) [] := by
  intro x
  induction x using Ex.rec' with
  | h x ih =>
    intro y hs
    rw [szE_eq] at hs
    exact eqEx_one x y (by omega) (by omega) (by omega) fun a ha b => ih a ha b (by have := szEs_mem ha; omega)

theorem eqStm_fn (s t : Stm) (h : szS s ≤ 1073741824) : Fn Try.prog 10 [] [ad (rS s), ad (rS t)] (.o (bo1 (sameS s t))) [] := by
 rw [szS] at h
 refine Fn.code0 Try.func10 rfl rfl rfl rfl ?_
 refine .seq <| .region <| .cons (St1.boxP rfl rfl rfl rfl rfl rfl) <| .cons (St1.boxP rfl rfl rfl rfl rfl rfl) <| .cons (.asg rfl rfl) <| .nil <| ks_n <| .seq <| .seq <| .region <| .cons (.fP 0 1 true rfl rfl) <| .cons (.lN 2 rfl rfl rfl) <| .cons (.fP 0 1 true rfl rfl) <| .cons (.lN 2 rfl rfl rfl) <| .cons (.cP [.tmp 6, .tmp 8] rfl rfl rfl rfl (eqAcc_fn _ _ (by omega)) rfl) ?_
 refine .cons (.nt rfl rfl) <| .nil <| ks_n ?_
 refine ACode.condT rfl (fun h10 => ?_) (fun h10 => ?_)
 ·try simp only [zs1, zs2, zs3, zs4, zs5, zs6, zs7] at h10
  refine .seq <| .region <| .cons (.asg rfl rfl) <| .nil <| ks_n <| .ret <| ks_r ?_
  refine kf_ret rfl ?_ nobox
  exact leafB (by rw [sameS]; first | (simp [*]; done) | grind)
 ·try simp only [zs1, zs2, zs3, zs4, zs5, zs6, zs7] at h10
  refine .skip <| ks_n <| .seq <| .seq <| .region <| .cons (.fP 2 6 true rfl rfl) <| .cons (.lN 7 rfl rfl rfl) <| .cons (.fP 2 6 true rfl rfl) <| .cons (.lN 7 rfl rfl rfl) <| .cons (.cP [.tmp 12, .tmp 14] rfl rfl rfl rfl (eqEx_fn _ _ (by omega)) rfl) ?_
  refine .cons (.nt rfl rfl) <| .nil <| ks_n ?_
  refine ACode.condT rfl (fun h16 => ?_) (fun h16 => ?_)
  ·try simp only [zs1, zs2, zs3, zs4, zs5, zs6, zs7] at h16
   refine .seq <| .region <| .cons (.asg rfl rfl) <| .nil <| ks_n <| .ret <| ks_r ?_
   refine kf_ret rfl ?_ nobox
   exact leafB (by rw [sameS]; first | (simp [*]; done) | grind)
  ·try simp only [zs1, zs2, zs3, zs4, zs5, zs6, zs7] at h16
   refine .skip <| ks_n <| .seq <| .region <| .cons (.asg rfl rfl) <| .nil <| ks_n <| .ret ?_
   refine kf_ret rfl ?_ nobox
   exact leafB (by rw [sameS]; first | (simp [*]; done) | grind)


theorem wgtR_map {α : Type} {f : α → List D} {s : α → Nat} {c : Nat} : ∀ {l : List α}, (∀ x ∈ l, wgtL (f x) ≤ c * (1 + s x)) → wgtR (l.map f) ≤ c * (l.length + (l.map s).sum)
  | [], _ => by simp [wgtR]
  | x :: l, h => by
    have h1 := h x (by simp)
    have h2 := wgtR_map (f := f) (s := s) (c := c) (l := l) fun y hy => h y (by simp [hy])
    rw [List.map_cons, wgtR, List.map_cons, List.sum_cons, List.length_cons]
    have e : c * (l.length + 1 + (s x + (l.map s).sum)) = c * (1 + s x) + c * (l.length + (l.map s).sum) := by rw [← Nat.mul_add]; congr 1; omega
    omega
theorem wgt_ints (xs : List Int) : wgt (dIs xs) = xs.length := by
  rw [dIs, wgt, wgtR_leafs (by intro r hr; obtain ⟨z, _, rfl⟩ := List.mem_map.1 hr; exact ⟨_, rfl⟩), List.length_map]
theorem wgt_affs (l : List Aff) : wgt (dAs l) ≤ szAs l := by
  rw [dAs, wgt, szAs]
  have := wgtR_map (f := rA) (s := fun a => a.1.length) (c := 1) (l := l) fun x _ => by simp only [rA, wgtL, wgt_ints]; simp [dI, wgt]; omega
  rwa [Nat.one_mul] at this
theorem szEs_sum : ∀ l : List Ex, szEs l = (l.map szE).sum
  | [] => rfl
  | e :: l => by rw [szEs, szEs_sum l]; simp
theorem wgt_ex (e : Ex) : wgtL (rX e) ≤ 4 * (1 + szE e) := by
  induction e using Ex.rec' with
  | h e ih =>
    rw [szE_eq, szEs_sum]
    have h1 := wgt_affs e.r.2
    have h2 := wgtR_map (f := rX) (s := szE) (c := 4) (l := e.ks) fun x hx => ih x hx
    have h3 : wgt (dEs e.ks) = wgtR (e.ks.map rX) := by
      rw [dEs, wgt, show rE = rX from funext fun e => rE_eq e]
    simp only [rX, wgtL, wgt_ints, h3, szC]
    simp only [dI, dS, wgt]
    omega
theorem wgt_exs (l : List Ex) : wgt (dEs l) ≤ 4 * (l.length + szEs l) := by
  rw [dEs, wgt, szEs_sum, show rE = rX from funext fun e => rE_eq e]
  exact wgtR_map fun x _ => wgt_ex x
theorem wgt_stm (s : Stm) : wgtL (rS s) ≤ 5 * (1 + szS s) := by
  have h1 := wgt_affs s.1.2
  have h2 := wgt_affs s.2.r.2
  have h3 := wgt_exs s.2.ks
  have h4 := szE_eq s.2
  simp only [rS, wgtL, wgt_ints, szS, szC] at *
  simp only [dI, dS, wgt]
  omega
/-! ### Marks -/
theorem markInts_k (xs : List Int) : MarkC Try.prog 13 (dIs xs) := markIntS_k (rows := xs.map rI) fun r hr => by obtain ⟨z, _, rfl⟩ := List.mem_map.1 hr; exact ⟨_, rfl⟩
theorem markAffs_k (l : List Aff) : MarkC Try.prog 67 (dAs l) := markAffineS_k (rows := l.map rA) fun r hr => by obtain ⟨a, _, rfl⟩ := List.mem_map.1 hr; exact ⟨_, _, rfl, markInts_k _⟩
theorem markExs_k : ∀ (m : Nat) (l : List Ex), (∀ e ∈ l, szE e < m) → MarkC Try.prog 69 (dEs l)
  | 0, l, h => markExprS_k (rows := l.map rE) fun r hr => by obtain ⟨e, he, rfl⟩ := List.mem_map.1 hr; exact absurd (h e he) (by omega)
  | m + 1, l, h => markExprS_k (rows := l.map rE) fun r hr => by
    obtain ⟨e, he, rfl⟩ := List.mem_map.1 hr
    have h1 := h e he
    rw [szE_eq] at h1
    rw [rE_eq]
    exact ⟨_, _, _, _, _, _, _, rfl, markInts_k _, markAffs_k _, markExs_k m e.ks fun x hx => by have := szEs_mem hx; have := List.length_pos_of_mem hx; omega⟩
theorem markExs_all (l : List Ex) : MarkC Try.prog 69 (dEs l) := markExs_k (szEs l + 1) l fun e he => by have := szEs_mem he; omega

/-! ### Copies -/
theorem copyInts {xs : List Int} (h : xs.length ≤ 1048576) : CopyC Try.prog 8 (dIs xs) := toIntS_c (rows := xs.map rI) (fun r hr => by obtain ⟨z, _, rfl⟩ := List.mem_map.1 hr; exact ⟨_, rfl⟩) (by simpa using h)
theorem copyAff {a : Aff} (h : a.1.length ≤ 1048576) : CopyS Try.prog 56 (rA a) := toAffine_c (copyInts h)
theorem copyAffs {l : List Aff} (h : szAs l ≤ 1048576) : CopyC Try.prog 55 (dAs l) := toAffineS_c (rows := l.map rA) (fun r hr => by
  obtain ⟨a, ha, rfl⟩ := List.mem_map.1 hr
  exact ⟨_, _, rfl, copyAff (by have := szAs_mem ha; omega)⟩) (by rw [List.length_map]; rw [szAs] at h; omega)
theorem copyAcc {a : Acc} (h : szC a ≤ 1048576) : CopyS Try.prog 25 (rC a) := toAccess_c (copyAffs (by rw [szC] at h; omega))
theorem copyEx : ∀ e : Ex, szE e ≤ 1048576 → CopyS Try.prog 26 (rX e) := by
  intro e
  induction e using Ex.rec' with
  | h e ih =>
    intro hs
    rw [szE_eq] at hs
    refine toExpr_c (copyAff (a := e.i) (by omega)) (copyAcc (a := e.r) (by omega)) (toExprS_c (rows := e.ks.map rE) (fun r hr => ?_) (by rw [List.length_map]; omega))
    obtain ⟨x, hx, rfl⟩ := List.mem_map.1 hr
    rw [rE_eq]
    exact ⟨_, _, _, _, _, _, _, rfl, ih x hx (by have := szEs_mem hx; omega)⟩
/-- The values of a struct read as ds; their trees lie in blocks of S, no cell twice. -/
def DrUs (w : World) (S : Nat → Prop) (ds : List D) (vs : List Value) : Prop :=
  vs.length = ds.length ∧ ∃ T : Nat → Nat → Prop, (∀ j c, T j c → S c) ∧ (∀ j j' c, T j c → T j' c → j = j') ∧ ∀ (j : Nat) d u, ds[j]? = some d → vs[j]? = some u → DrU w (T j) d u
/-- What marks make of a struct that is handed by value: its own leaves stay. -/
def mkV (tx : Int → ByteArray) : Int → List D → List D
  | _, [] => []
  | k, .val v :: ds => .val v :: mkV tx k ds
  | k, .list sz rows :: ds => mkD tx k (.list sz rows) :: mkV tx (k + wgtR rows) ds
  | k, .tree S x :: ds => .tree S x :: mkV tx k ds
def wgtV : List D → Nat
  | [] => 0
  | .val _ :: ds => wgtV ds
  | .list _ rows :: ds => wgtR rows + wgtV ds
  | .tree _ _ :: ds => wgtV ds
section
variable {S S' : Nat → Prop} {w w' : World} {ds : List D} {vs : List Value}
theorem DrUs.frame (hs : ∀ b, S b → b < w.heap.size → w'.heap[b]? = w.heap[b]?) (h : DrUs w S ds vs) : DrUs w' S ds vs := by
  obtain ⟨h1, T, h2, h3, h4⟩ := h
  exact ⟨h1, T, h2, h3, fun j d u hd hu => (h4 j d u hd hu).frame fun b hb hl => hs b (h2 j b hb) hl⟩
theorem DrUs.fwd (h : DrUs w S ds vs) (hb : Below w.heap.size w w') : DrUs w' S ds vs := h.frame fun b _ hl => hb.block b hl
theorem DrUs.sub (hs : ∀ b, S b → S' b) (h : DrUs w S ds vs) : DrUs w S' ds vs := by
  obtain ⟨h1, T, h2, h3, h4⟩ := h
  exact ⟨h1, T, fun j c hc => hs c (h2 j c hc), h3, h4⟩
theorem DrUs.dr (h : DrUs w S ds vs) {j : Nat} {d : D} {u : Value} (hd : ds[j]? = some d) (hu : vs[j]? = some u) : Dr S w d u := by
  obtain ⟨h1, T, h2, h3, h4⟩ := h
  exact (h4 j d u hd hu).dr.mono fun b hb _ => h2 j b hb
/-- One part of a struct is turned. -/
theorem DrUs.part (h : DrUs w S ds vs) {j : Nat} {d : D} {u : Value} (hd : ds[j]? = some d) (hu : vs[j]? = some u) :
    ∃ T, DrU w T d u ∧ (∀ c, T c → S c) ∧ ∀ w' y, Marked T w w' → DrU w' T y u → DrUs w' S (ds.set j y) vs := by
  obtain ⟨h1, T, h2, h3, h4⟩ := h
  refine ⟨T j, h4 j d u hd hu, h2 j, fun w' y hm hy => ⟨by rw [List.length_set]; exact h1, T, h2, h3, fun i d' u' hd' hu' => ?_⟩⟩
  rw [List.getElem?_set] at hd'
  by_cases e : j = i
  · subst e
    rw [if_pos rfl, if_pos (List.getElem?_eq_some_iff.1 hd).1] at hd'
    cases hd'
    rw [hu] at hu'; cases hu'
    exact hy
  · rw [if_neg e] at hd'
    exact (h4 i d' u' hd' hu').frame fun b hb hl => hm.old b hl fun hb' => e (h3 j i b hb' hb)
end

theorem markInts_u (xs : List Int) : MarkU Try.prog mTx 13 (dIs xs) (wgt (dIs xs)) := markIntS_u (rows := xs.map rI) fun r hr => by obtain ⟨z, _, rfl⟩ := List.mem_map.1 hr; exact ⟨z, rfl⟩
theorem markAffs_u (l : List Aff) : MarkU Try.prog mTx 67 (dAs l) (wgt (dAs l)) := markAffineS_u (rows := l.map rA) fun r hr => by obtain ⟨a, _, rfl⟩ := List.mem_map.1 hr; exact ⟨_, _, rfl, markInts_u _⟩
theorem markExs_u : ∀ (m : Nat) (l : List Ex), (∀ e ∈ l, szE e < m) → MarkU Try.prog mTx 69 (dEs l) (wgt (dEs l))
  | 0, l, h => markExprS_u (rows := l.map rE) fun r hr => by obtain ⟨e, he, rfl⟩ := List.mem_map.1 hr; exact absurd (h e he) (by omega)
  | m + 1, l, h => markExprS_u (rows := l.map rE) fun r hr => by
    obtain ⟨e, he, rfl⟩ := List.mem_map.1 hr
    have h1 := h e he
    rw [szE_eq] at h1
    rw [rE_eq]
    exact ⟨_, _, _, _, _, _, _, rfl, markInts_u _, markAffs_u _, markExs_u m e.ks fun x hx => by have := szEs_mem hx; have := List.length_pos_of_mem hx; omega⟩
theorem markExs_uall (l : List Ex) : MarkU Try.prog mTx 69 (dEs l) (wgt (dEs l)) := markExs_u (szEs l + 1) l fun e he => by have := szEs_mem he; omega
/-- What a function that compares with marks answers of a marked tree. -/
def HeldF (P : Program) (f : FuncId) (x : D) : Prop := ∀ k : Int, 0 ≤ k → k + (wgt x : Nat) ≤ 4611686018427387904 → Fn P f [] [vD (mkD mTx k x), nat1 k] (.o (nat1 (k + (wgt x : Nat)))) []
theorem markText_fn {k : Int} (h0 : 0 ≤ k) (h1 : k ≤ 4611686018427387904) : Fn Try.prog 91 [] [nat1 k] (.o (st1 (mTx k))) [] :=
  Fn.pure fun B bx al w vs hv => by
    obtain ⟨v, rfl, h⟩ := vals1 hv
    obtain rfl := dr_int h
    exact (markText_u k w h0 h1).mono fun e w' ⟨he, hb⟩ => ⟨_, he, hb, .val _ rfl⟩

theorem heldIntS_u (rows : List (List D)) (h : ∀ r ∈ rows, ∃ (e0 : Int), r = [D.val (.int .i64 e0)]) {k : Int} (hk0 : 0 ≤ k) (hk1 : k + (wgtR rows : Nat) ≤ 4611686018427387904) (hl : rows.length ≤ 17592186044416) : Fn Try.prog 92 [] [vD (.list 1 (mkR mTx k rows)), nat1 k] (.o (nat1 (k + (wgtR rows : Nat)))) [] := by
  have hlen : (mkR mTx k rows).length = rows.length := mkR_len _ _ _
  refine Fn.code0 Try.func92 rfl rfl rfl rfl ?_
  refine .seq <| .region <| .cons (.asg rfl rfl) <| .nil <| ks_n <| .seq <| .seq <| .region <| .cons (.asg rfl rfl) <| .nil <| ks_n <| .block ?_
  refine .loopK (fun m σ => (∃ i : Nat, m = rows.length - i ∧ (i ≤ rows.length) ∧ (True) ∧ σ = [(.t 0, .v (.o (vD (.list 1 (mkR mTx k rows))))), (.t 1, .v (.o (nat1 (k + (wgtR (rows.take i) : Nat))))), (.t 4, .v (.o (nat1 0))), (.t 5, .v (.o (nat1 (i : Nat))))])) [] ⟨0, rfl, by omega, trivial, rfl⟩ ⟨ks rfl .dt, ks rfl (.dt (vI (by first | (simp [wgtR]; done) | (rw [hs]; push_cast; omega)))), ks rfl .dt, ks rfl .dt, trivial⟩ ?_
  rintro m σ ⟨i, hm0, hi, hF, rfl⟩
  refine .seq <| .seq <| .region <| .cons (.mv rfl rfl) <| .cons (.mv rfl rfl) <| .cons (.ln 3 1 8 rfl rfl rfl) <| .cons (.ls rfl rfl rfl) <| .nil <| ks_n ?_
  refine .cD rfl (fun h9 => ?_) (fun h9 => ?_)
  · skip
    obtain ⟨r, hx1⟩ : ∃ x_, rows[i]? = some x_ := ⟨_, List.getElem?_eq_getElem (by omega)⟩
    have hs := wgtR_take hx1
    obtain ⟨e0, rfl⟩ := h r (List.mem_of_getElem? hx1)
    have hs : wgtR (rows.take (i + 1)) = wgtR (rows.take i) + (1) := by rw [hs]; simp only [wgtL, wgt]; try omega
    have hle := wgtR_le rows (i + 1)
    have hrow : (mkR mTx k rows)[i]? = some [D.val (.int .i64 (k + (wgtR (rows.take i) : Nat)))] := by rw [mkR_at _ _ _ _ _ hx1]; simp [mkL, mkD, wgt, wgtL]
    refine .skip <| ks_n <| .seq <| .block <| .seq <| .seq <| .region <| .cons (.mv rfl rfl) <| .cons (.mv rfl rfl) <| .cons (.xL 3 1 8 rfl rfl rfl rfl rfl hrow) ?_
    refine .cons (.l1 1 rfl rfl) <| .cons (.mv rfl rfl) <| .cons (.ne rfl rfl rfl) <| .nil <| ks_n ?_
    refine .cND rfl (fun h17 => ?_) (fun h17 => ?_)
    · skip
      refine .seq <| .region <| .cons (.asg rfl rfl) <| .nil <| ks_n <| .ret <| ks_r <| kb_r <| ks_r <| kl_r <| kb_r <| ks_r ?_
      refine kf_ret rfl ?_ nobox
      exact absurd rfl h17
    · skip
      refine .skip <| ks_n <| .region <| .cons (.mv rfl rfl) <| .cons (.pl rfl rfl rfl) <| .cons (.asg rfl rfl) <| .nil <| kb_n <| ks_n <| .region <| .cons (.mv rfl rfl) <| .cons (.pl rfl rfl rfl) <| .cons (.asg rfl rfl) <| .nil ?_
      refine kl_k [] ⟨i + 1, rfl, by omega, trivial, rfl⟩ ⟨ks rfl .dt, ks rfl (.dt (vI (by first | (simp [wgtR]; done) | (rw [hs]; push_cast; omega)))), ks rfl .dt, ks rfl .dt, trivial⟩
  · skip
    refine .exit <| ks_e <| kl_e <| kb_hit <| ks_n <| .seq <| .region <| .cons (.mv rfl rfl) <| .cons (.asg rfl rfl) <| .nil <| ks_n <| .ret ?_
    refine kf_ret rfl ?_ nobox
    exact leafI (by have hall : rows.take i = rows := List.take_of_length_le (by omega); rw [hall])


theorem heldAffineS_u (rows : List (List D)) (h : ∀ r ∈ rows, ∃ (x0 : D), ∃ (e1 : Int), r = [x0, D.val (.int .i64 e1)] ∧ HeldF Try.prog 92 x0) {k : Int} (hk0 : 0 ≤ k) (hk1 : k + (wgtR rows : Nat) ≤ 4611686018427387904) (hl : rows.length ≤ 17592186044416) : Fn Try.prog 70 [] [vD (.list 2 (mkR mTx k rows)), nat1 k] (.o (nat1 (k + (wgtR rows : Nat)))) [] := by
  have hlen : (mkR mTx k rows).length = rows.length := mkR_len _ _ _
  refine Fn.code0 Try.func70 rfl rfl rfl rfl ?_
  refine .seq <| .region <| .cons (.asg rfl rfl) <| .nil <| ks_n <| .seq <| .seq <| .region <| .cons (.asg rfl rfl) <| .nil <| ks_n <| .block ?_
  refine .loopK (fun m σ => (∃ i : Nat, m = rows.length - i ∧ (i ≤ rows.length) ∧ (True) ∧ σ = [(.t 0, .v (.o (vD (.list 2 (mkR mTx k rows))))), (.t 1, .v (.o (nat1 (k + (wgtR (rows.take i) : Nat))))), (.t 4, .v (.o (nat1 0))), (.t 5, .v (.o (nat1 (i : Nat))))])) [] ⟨0, rfl, by omega, trivial, rfl⟩ ⟨ks rfl .dt, ks rfl (.dt (vI (by first | (simp [wgtR]; done) | (rw [hs]; push_cast; omega)))), ks rfl .dt, ks rfl .dt, trivial⟩ ?_
  rintro m σ ⟨i, hm0, hi, hF, rfl⟩
  refine .seq <| .seq <| .region <| .cons (.mv rfl rfl) <| .cons (.mv rfl rfl) <| .cons (.ln 37 2 32 rfl rfl rfl) <| .cons (.ls rfl rfl rfl) <| .nil <| ks_n ?_
  refine .cD rfl (fun h9 => ?_) (fun h9 => ?_)
  · skip
    obtain ⟨r, hx1⟩ : ∃ x_, rows[i]? = some x_ := ⟨_, List.getElem?_eq_getElem (by omega)⟩
    have hs := wgtR_take hx1
    obtain ⟨x0, e1, rfl, q0⟩ := h r (List.mem_of_getElem? hx1)
    have hs : wgtR (rows.take (i + 1)) = wgtR (rows.take i) + (wgt x0 + 1) := by rw [hs]; simp only [wgtL, wgt]; try omega
    have hle := wgtR_le rows (i + 1)
    have hrow : (mkR mTx k rows)[i]? = some [mkD mTx (k + (wgtR (rows.take i) : Nat)) x0, D.val (.int .i64 (k + (wgtR (rows.take i) : Nat) + (wgt x0 : Nat)))] := by rw [mkR_at _ _ _ _ _ hx1]; simp [mkL, mkD, wgt, wgtL]
    refine .skip <| ks_n <| .seq <| .block <| .seq <| .region <| .cons (.mv rfl rfl) <| .cons (.mv rfl rfl) <| .cons (.xL 37 2 32 rfl rfl rfl rfl rfl hrow) ?_
    refine .cons (.fP 0 0 false rfl rfl) <| .cons (.l1 1 rfl rfl) <| .cons (.mv rfl rfl) <| .cons (.cP [.tmp 16, .tmp 17] rfl rfl rfl rfl (q0 (k + (wgtR (rows.take i) : Nat)) (by omega) (by omega)) rfl) ?_
    refine .cons (.asg rfl rfl) <| .nil <| ks_n <| .seq <| .seq <| .region <| .cons (.mv rfl rfl) <| .cons (.ls rfl rfl rfl) <| .nil <| ks_n ?_
    refine .cD rfl (fun h20 => ?_) (fun h20 => ?_)
    · skip
      refine .seq <| .region <| .cons (.asg rfl rfl) <| .nil <| ks_n <| .ret <| ks_r <| kb_r <| ks_r <| kl_r <| kb_r <| ks_r ?_
      refine kf_ret rfl ?_ nobox
      exact absurd h20 (by omega)
    · skip
      refine .skip <| ks_n <| .seq <| .seq <| .region <| .cons (.mv rfl rfl) <| .cons (.mv rfl rfl) <| .cons (.xL 37 2 32 rfl rfl rfl rfl rfl hrow) ?_
      refine .cons (.fP 1 0 false rfl rfl) <| .cons (.l1 1 rfl rfl) <| .cons (.mv rfl rfl) <| .cons (.ne rfl rfl rfl) <| .nil <| ks_n ?_
      refine .cND rfl (fun h27 => ?_) (fun h27 => ?_)
      · skip
        refine .seq <| .region <| .cons (.asg rfl rfl) <| .nil <| ks_n <| .ret <| ks_r <| kb_r <| ks_r <| kl_r <| kb_r <| ks_r ?_
        refine kf_ret rfl ?_ nobox
        exact absurd rfl h27
      · skip
        refine .skip <| ks_n <| .region <| .cons (.mv rfl rfl) <| .cons (.pl rfl rfl rfl) <| .cons (.asg rfl rfl) <| .nil <| kb_n <| ks_n <| .region <| .cons (.mv rfl rfl) <| .cons (.pl rfl rfl rfl) <| .cons (.asg rfl rfl) <| .nil ?_
        refine kl_k [] ⟨i + 1, rfl, by omega, trivial, rfl⟩ ⟨ks rfl .dt, ks rfl (.dt (vI (by first | (simp [wgtR]; done) | (rw [hs]; push_cast; omega)))), ks rfl .dt, ks rfl .dt, trivial⟩
  · skip
    refine .exit <| ks_e <| kl_e <| kb_hit <| ks_n <| .seq <| .region <| .cons (.mv rfl rfl) <| .cons (.asg rfl rfl) <| .nil <| ks_n <| .ret ?_
    refine kf_ret rfl ?_ nobox
    exact leafI (by have hall : rows.take i = rows := List.take_of_length_le (by omega); rw [hall])


theorem heldExprS_u (rows : List (List D)) (h : ∀ r ∈ rows, ∃ (e0 : Int), ∃ (e1 : Int), ∃ (x2 : D), ∃ (e3 : Int), ∃ (e4 : ByteArray), ∃ (x5 : D), ∃ (x6 : D), r = [D.val (.int .i64 e0), D.val (.int .i64 e1), x2, D.val (.int .i64 e3), D.val (.string e4), x5, x6] ∧ HeldF Try.prog 92 x2 ∧ HeldF Try.prog 70 x5 ∧ HeldF Try.prog 72 x6) {k : Int} (hk0 : 0 ≤ k) (hk1 : k + (wgtR rows : Nat) ≤ 4611686018427387904) (hl : rows.length ≤ 17592186044416) : Fn Try.prog 72 [] [vD (.list 7 (mkR mTx k rows)), nat1 k] (.o (nat1 (k + (wgtR rows : Nat)))) [] := by
 have hlen : (mkR mTx k rows).length = rows.length := mkR_len _ _ _
 refine Fn.code0 Try.func72 rfl rfl rfl rfl ?_
 refine .seq <| .region <| .cons (.asg rfl rfl) <| .nil <| ks_n <| .seq <| .seq <| .region <| .cons (.asg rfl rfl) <| .nil <| ks_n <| .block ?_
 refine .loopK (fun m σ => (∃ i : Nat, m = rows.length - i ∧ (i ≤ rows.length) ∧ (True) ∧ σ = [(.t 0, .v (.o (vD (.list 7 (mkR mTx k rows))))), (.t 1, .v (.o (nat1 (k + (wgtR (rows.take i) : Nat))))), (.t 4, .v (.o (nat1 0))), (.t 5, .v (.o (nat1 (i : Nat))))])) [] ⟨0, rfl, by omega, trivial, rfl⟩ ⟨ks rfl .dt, ks rfl (.dt (vI (by first | (simp [wgtR]; done) | (rw [hs]; push_cast; omega)))), ks rfl .dt, ks rfl .dt, trivial⟩ ?_
 rintro m σ ⟨i, hm0, hi, hF, rfl⟩
 refine .seq <| .seq <| .region <| .cons (.mv rfl rfl) <| .cons (.mv rfl rfl) <| .cons (.ln 40 7 112 rfl rfl rfl) <| .cons (.ls rfl rfl rfl) <| .nil <| ks_n ?_
 refine .cD rfl (fun h9 => ?_) (fun h9 => ?_)
 ·skip
  obtain ⟨r, hx1⟩ : ∃ x_, rows[i]? = some x_ := ⟨_, List.getElem?_eq_getElem (by omega)⟩
  have hs := wgtR_take hx1
  obtain ⟨e0, e1, x2, e3, e4, x5, x6, rfl, q2, q5, q6⟩ := h r (List.mem_of_getElem? hx1)
  have hs : wgtR (rows.take (i + 1)) = wgtR (rows.take i) + (1 + 1 + wgt x2 + 1 + 1 + wgt x5 + wgt x6) := by rw [hs]; simp only [wgtL, wgt]; try omega
  have hle := wgtR_le rows (i + 1)
  have hrow : (mkR mTx k rows)[i]? = some [D.val (.int .i64 (k + (wgtR (rows.take i) : Nat))), D.val (.int .i64 (k + (wgtR (rows.take i) : Nat) + 1)), mkD mTx (k + (wgtR (rows.take i) : Nat) + 1 + 1) x2, D.val (.int .i64 (k + (wgtR (rows.take i) : Nat) + 1 + 1 + (wgt x2 : Nat))), D.val (.string (mTx (k + (wgtR (rows.take i) : Nat) + 1 + 1 + (wgt x2 : Nat) + 1))), mkD mTx (k + (wgtR (rows.take i) : Nat) + 1 + 1 + (wgt x2 : Nat) + 1 + 1) x5, mkD mTx (k + (wgtR (rows.take i) : Nat) + 1 + 1 + (wgt x2 : Nat) + 1 + 1 + (wgt x5 : Nat)) x6] := by rw [mkR_at _ _ _ _ _ hx1]; simp [mkL, mkD, wgt, wgtL]
  refine .skip <| ks_n <| .seq <| .block <| .seq <| .seq <| .region <| .cons (.mv rfl rfl) <| .cons (.mv rfl rfl) <| .cons (.xL 40 7 112 rfl rfl rfl rfl rfl hrow) ?_
  refine .cons (.fP 0 0 false rfl rfl) <| .cons (.l1 1 rfl rfl) <| .cons (.mv rfl rfl) <| .cons (.ne rfl rfl rfl) <| .nil <| ks_n ?_
  refine .cND rfl (fun h18 => ?_) (fun h18 => ?_)
  ·skip
   refine .seq <| .region <| .cons (.asg rfl rfl) <| .nil <| ks_n <| .ret <| ks_r <| kb_r <| ks_r <| kl_r <| kb_r <| ks_r ?_
   refine kf_ret rfl ?_ nobox
   exact absurd rfl h18
  ·skip
   refine .skip <| ks_n <| .seq <| .region <| .cons (.mv rfl rfl) <| .cons (.pl rfl rfl rfl) <| .cons (.asg rfl rfl) <| .nil <| ks_n <| .seq <| .seq <| .region <| .cons (.mv rfl rfl) <| .cons (.mv rfl rfl) <| .cons (.xL 40 7 112 rfl rfl rfl rfl rfl hrow) ?_
   refine .cons (.fP 1 0 false rfl rfl) <| .cons (.l1 1 rfl rfl) <| .cons (.mv rfl rfl) <| .cons (.ne rfl rfl rfl) <| .nil <| ks_n ?_
   refine .cND rfl (fun h27 => ?_) (fun h27 => ?_)
   ·skip
    refine .seq <| .region <| .cons (.asg rfl rfl) <| .nil <| ks_n <| .ret <| ks_r <| kb_r <| ks_r <| kl_r <| kb_r <| ks_r ?_
    refine kf_ret rfl ?_ nobox
    exact absurd rfl h27
   ·skip
    refine .skip <| ks_n <| .seq <| .region <| .cons (.mv rfl rfl) <| .cons (.pl rfl rfl rfl) <| .cons (.asg rfl rfl) <| .nil <| ks_n <| .seq <| .region <| .cons (.mv rfl rfl) <| .cons (.mv rfl rfl) <| .cons (.xL 40 7 112 rfl rfl rfl rfl rfl hrow) ?_
    refine .cons (.fP 2 1 true rfl rfl) <| .cons (.fP 0 0 false rfl rfl) <| .cons (.l1 1 rfl rfl) <| .cons (.mv rfl rfl) <| .cons (.cP [.tmp 35, .tmp 36] rfl rfl rfl rfl (q2 (k + (wgtR (rows.take i) : Nat) + 1 + 1) (by omega) (by omega)) rfl) ?_
    refine .cons (.asg rfl rfl) <| .nil <| ks_n <| .seq <| .seq <| .region <| .cons (.mv rfl rfl) <| .cons (.ls rfl rfl rfl) <| .nil <| ks_n ?_
    refine .cD rfl (fun h39 => ?_) (fun h39 => ?_)
    ·skip
     refine .seq <| .region <| .cons (.asg rfl rfl) <| .nil <| ks_n <| .ret <| ks_r <| kb_r <| ks_r <| kl_r <| kb_r <| ks_r ?_
     refine kf_ret rfl ?_ nobox
     exact absurd h39 (by omega)
    ·skip
     refine .skip <| ks_n <| .seq <| .seq <| .region <| .cons (.mv rfl rfl) <| .cons (.mv rfl rfl) <| .cons (.xL 40 7 112 rfl rfl rfl rfl rfl hrow) ?_
     refine .cons (.fP 2 1 true rfl rfl) <| .cons (.fP 1 0 false rfl rfl) <| .cons (.l1 1 rfl rfl) <| .cons (.mv rfl rfl) <| .cons (.ne rfl rfl rfl) <| .nil <| ks_n ?_
     refine .cND rfl (fun h47 => ?_) (fun h47 => ?_)
     ·skip
      refine .seq <| .region <| .cons (.asg rfl rfl) <| .nil <| ks_n <| .ret <| ks_r <| kb_r <| ks_r <| kl_r <| kb_r <| ks_r ?_
      refine kf_ret rfl ?_ nobox
      exact absurd rfl h47
     ·skip
      refine .skip <| ks_n <| .seq <| .region <| .cons (.mv rfl rfl) <| .cons (.pl rfl rfl rfl) <| .cons (.asg rfl rfl) <| .nil <| ks_n <| .seq <| .seq ?_
      refine ACode.drawK (by kernel_rfl) (by kernel_rfl) ?_
      refine .cons (.mv rfl rfl) <| .cons (.mv rfl rfl) <| .cons (.xL 40 7 112 rfl rfl rfl rfl rfl hrow) ?_
      refine .cons (.fP 4 1 true rfl rfl) <| .cons (.fP 0 0 false rfl rfl) <| .cons (.l1 1 rfl rfl) <| .cons (.mv rfl rfl) <| .cons (.cP [.tmp 56] rfl rfl rfl rfl (markText_fn (k := k + (wgtR (rows.take i) : Nat) + 1 + 1 + (wgt x2 : Nat) + 1) (by omega) (by omega)) rfl) ?_
      refine .cons (St1.neS rfl rfl rfl) ?_
      refine .nil ⟨by kernel_rfl, ?_⟩
      refine ks_n ?_
      refine ACode.condT rfl (fun h58 => ?_) (fun h58 => ?_)
      ·try simp only [zs1, zs2, zs3, zs4, zs5, zs6, zs7] at h58
       refine .seq <| .region <| .cons (.asg rfl rfl) <| .nil <| ks_n <| .ret <| ks_r <| kb_r <| ks_r <| kl_r <| kb_r <| ks_r ?_
       refine kf_ret rfl ?_ nobox
       simp [sEq] at h58
      ·try simp only [zs1, zs2, zs3, zs4, zs5, zs6, zs7] at h58
       refine .skip <| ks_n <| .seq <| .region <| .cons (.mv rfl rfl) <| .cons (.pl rfl rfl rfl) <| .cons (.asg rfl rfl) <| .nil <| ks_n <| .seq <| .region <| .cons (.mv rfl rfl) <| .cons (.mv rfl rfl) <| .cons (.xL 40 7 112 rfl rfl rfl rfl rfl hrow) ?_
       refine .cons (.fP 4 1 true rfl rfl) <| .cons (.fP 1 0 false rfl rfl) <| .cons (.l1 1 rfl rfl) <| .cons (.mv rfl rfl) <| .cons (.cP [.tmp 66, .tmp 67] rfl rfl rfl rfl (q5 (k + (wgtR (rows.take i) : Nat) + 1 + 1 + (wgt x2 : Nat) + 1 + 1) (by omega) (by omega)) rfl) ?_
       refine .cons (.asg rfl rfl) <| .nil <| ks_n <| .seq <| .seq <| .region <| .cons (.mv rfl rfl) <| .cons (.ls rfl rfl rfl) <| .nil <| ks_n ?_
       refine .cD rfl (fun h70 => ?_) (fun h70 => ?_)
       ·skip
        refine .seq <| .region <| .cons (.asg rfl rfl) <| .nil <| ks_n <| .ret <| ks_r <| kb_r <| ks_r <| kl_r <| kb_r <| ks_r ?_
        refine kf_ret rfl ?_ nobox
        exact absurd h70 (by omega)
       ·skip
        refine .skip <| ks_n <| .seq <| .region <| .cons (.mv rfl rfl) <| .cons (.mv rfl rfl) <| .cons (.xL 40 7 112 rfl rfl rfl rfl rfl hrow) ?_
        refine .cons (.fP 6 0 false rfl rfl) <| .cons (.l1 1 rfl rfl) <| .cons (.mv rfl rfl) <| .cons (.cP [.tmp 75, .tmp 76] rfl rfl rfl rfl (q6 (k + (wgtR (rows.take i) : Nat) + 1 + 1 + (wgt x2 : Nat) + 1 + 1 + (wgt x5 : Nat)) (by omega) (by omega)) rfl) ?_
        refine .cons (.asg rfl rfl) <| .nil <| ks_n <| .seq <| .region <| .cons (.mv rfl rfl) <| .cons (.ls rfl rfl rfl) <| .nil <| ks_n ?_
        refine .cD rfl (fun h79 => ?_) (fun h79 => ?_)
        ·skip
         refine .seq <| .region <| .cons (.asg rfl rfl) <| .nil <| ks_n <| .ret <| kb_r <| ks_r <| kl_r <| kb_r <| ks_r ?_
         refine kf_ret rfl ?_ nobox
         exact absurd h79 (by omega)
        ·skip
         refine .skip <| kb_n <| ks_n <| .region <| .cons (.mv rfl rfl) <| .cons (.pl rfl rfl rfl) <| .cons (.asg rfl rfl) <| .nil ?_
         refine kl_k [] ⟨i + 1, rfl, by omega, trivial, rfl⟩ ⟨ks rfl .dt, ks rfl (.dt (vI (by first | (simp [wgtR]; done) | (rw [hs]; push_cast; omega)))), ks rfl .dt, ks rfl .dt, trivial⟩
 ·skip
  refine .exit <| ks_e <| kl_e <| kb_hit <| ks_n <| .seq <| .region <| .cons (.mv rfl rfl) <| .cons (.asg rfl rfl) <| .nil <| ks_n <| .ret ?_
  refine kf_ret rfl ?_ nobox
  exact leafI (by have hall : rows.take i = rows := List.take_of_length_le (by omega); rw [hall])
inductive HasD (S : Nat → Prop) : D → Prop
  | tree (x : D) : HasD S (.tree S x)
  | row {sz : Nat} {rows : List (List D)} {i j : Nat} {r : List D} {d : D} (hr : rows[i]? = some r) (hj : r[j]? = some d) (h : HasD S d) : HasD S (.list sz rows)
inductive HasC (S : Nat → Prop) : C → Prop
  | d {x : D} (h : HasD S x) : HasC S (.d x)
inductive HasV (S : Nat → Prop) : V → Prop
  | c {x : C} (h : HasC S x) : HasV S (.o (.c x))
  | agg {cs : List C} {i : Nat} {c : C} (hi : cs[i]? = some c) (h : HasC S c) : HasV S (.o (.agg cs))
  | tup {xs : List V1} {i j : Nat} {cs : List C} {c : C} (hi : xs[i]? = some (.agg cs)) (hj : cs[j]? = some c) (h : HasC S c) : HasV S (.tup xs)
  | gh : HasV S (.gh S)
inductive Has (σ : St) (S : Nat → Prop) : Prop
  | slot (t : Nat) {x : V} (h : lk σ (.t t) = .v x) (hv : HasV S x)
  | box (k : Nat) {e : TypeId} {sz : Nat} {rows : List (List C)} {i j : Nat} {r : List C} {c : C} (h : lk σ (.b k) = .b e sz rows) (hr : rows[i]? = some r) (hj : r[j]? = some c) (hc : HasC S c)
theorem HasD.lt {S B : Nat → Prop} {w : World} {x : D} (h : HasD S x) : ∀ {v : Value}, Dr B w x v → ∀ b, S b → B b ∧ b < w.heap.size := by
  induction h with
  | tree x => intro v hv b hb; cases hv with | tree _ _ _ hB hl _ => exact ⟨hB b hb, hl b hb⟩
  | row hr hj _ ih => intro v hv b hb; cases hv with | list _ _ _ _ _ _ _ _ _ _ _ _ _ _ _ h7 => exact ih (h7 _ _ _ _ hr hj) b hb
section
variable {E : Env} {bx : Nat → Nat × Nat} {a : Act} {w : World} {σ : St} {S : Nat → Prop}
theorem HasC.lt {al B : Nat → Prop} {c : C} {v : Value} (h : HasC S c) (hv : Cr bx al B w c v) : ∀ b, S b → B b ∧ b < w.heap.size := by
  cases h with
  | d h => exact h.lt hv
theorem HasV.lt {al B : Nat → Prop} {x : V} {v : Value} (h : HasV S x) (hv : Vr bx al B w x v) : ∀ b, S b → B b ∧ b < w.heap.size := by
  cases h with
  | c h => exact h.lt hv
  | agg hi h =>
    obtain ⟨vs, _, hl, hv⟩ := hv
    have hj := (List.getElem?_eq_some_iff.1 hi).1
    exact h.lt (hv _ _ _ hi (List.getElem?_eq_getElem (by omega)))
  | tup hi hj h =>
    obtain ⟨vs, _, hl, hv⟩ := hv
    have h1 := (List.getElem?_eq_some_iff.1 hi).1
    obtain ⟨us, _, hl2, hu⟩ := hv _ _ _ hi (List.getElem?_eq_getElem (by omega))
    have h2 := (List.getElem?_eq_some_iff.1 hj).1
    exact h.lt (hu _ _ _ hj (List.getElem?_eq_getElem (by omega)))
  | gh => exact hv
theorem SR.has (hs : SR E bx (lk σ) a w) (h : Has σ S) : ∀ b, S b → Bf E bx (lk σ) b ∧ b < w.heap.size := by
  cases h with
  | slot t h hv => exact hv.lt (hs.slot t _ h)
  | box k h hr hj hc =>
    obtain ⟨cur, _, _, _, _, h5⟩ := hs.box k _ _ _ h
    obtain ⟨u, _, h7⟩ := h5 _ _ _ _ hr hj
    exact hc.lt h7
end

theorem DrU.subS {S S' : Nat → Prop} {w : World} {x : D} {v : Value} (hs : ∀ b, S b → S' b) (h : DrU w S x v) : DrU w S' x v := by
  cases h with
  | val S v h => exact .val S' v h
  | list S sz rows a n cap b off f T hn h1 h2 h3 h4 h5 h6 hT hD h7 =>
    exact .list S' sz rows a n cap b off f T hn h1 h2 h3 h4 h5 (fun i r j x hr hx => ⟨hs _ (h6 i r j x hr hx).1, (h6 i r j x hr hx).2⟩) (fun i j c hc => ⟨hs _ (hT i j c hc).1, (hT i j c hc).2⟩) hD h7

/-! ### Data with their sets -/
def tg (S : Nat → Prop) : D → D
  | .list sz rows => .tree S (.list sz rows)
  | x => x
def tagL (R : Nat → Nat → Prop) : Nat → List D → List D
  | _, [] => []
  | j, x :: l => tg (R j) x :: tagL R (j + 1) l
def tagRs (F : Nat → Nat → Nat → Prop) : Nat → List (List D) → List (List D)
  | _, [] => []
  | i, r :: l => tagL (F i) 0 r :: tagRs F (i + 1) l
theorem tagL_len (R : Nat → Nat → Prop) : ∀ (l : List D) (j : Nat), (tagL R j l).length = l.length
  | [], _ => rfl
  | x :: l, j => by rw [tagL, List.length_cons, tagL_len R l, List.length_cons]
theorem tagL_at {R : Nat → Nat → Prop} : ∀ {l : List D} {j i : Nat} {x : D}, l[i]? = some x → (tagL R j l)[i]? = some (tg (R (j + i)) x)
  | [], _, _, _, h => by simp at h
  | y :: l, j, 0, x, h => by simp at h; subst h; rfl
  | y :: l, j, i + 1, x, h => by
    rw [tagL, List.getElem?_cons_succ, tagL_at (by simpa using h)]
    congr 3; omega
theorem tagRs_len (F : Nat → Nat → Nat → Prop) : ∀ (l : List (List D)) (i : Nat), (tagRs F i l).length = l.length
  | [], _ => rfl
  | r :: l, i => by rw [tagRs, List.length_cons, tagRs_len F l, List.length_cons]
theorem tagRs_at {F : Nat → Nat → Nat → Prop} : ∀ {l : List (List D)} {i q : Nat} {r : List D}, l[q]? = some r → (tagRs F i l)[q]? = some (tagL (F (i + q)) 0 r)
  | [], _, _, _, h => by simp at h
  | y :: l, i, 0, r, h => by simp at h; subst h; rfl
  | y :: l, i, q + 1, r, h => by
    rw [tagRs, List.getElem?_cons_succ, tagRs_at (by simpa using h)]
    congr 3; omega
theorem tagRs_app (F : Nat → Nat → Nat → Prop) : ∀ (l m : List (List D)) (i : Nat), tagRs F i (l ++ m) = tagRs F i l ++ tagRs F (i + l.length) m
  | [], m, i => rfl
  | r :: l, m, i => by
    rw [List.cons_append, tagRs, tagRs, tagRs_app F l m, List.cons_append, List.length_cons]
    congr 2; congr 1; omega
theorem tagRs_same {F G : Nat → Nat → Nat → Prop} : ∀ {l : List (List D)} {i : Nat}, (∀ q, i ≤ q → q < i + l.length → F q = G q) → tagRs F i l = tagRs G i l
  | [], _, _ => rfl
  | r :: l, i, h => by
    rw [tagRs, tagRs, h i (Nat.le_refl _) (by simp), tagRs_same fun q h1 h2 => h q (by omega) (by rw [List.length_cons]; omega)]
/-- The sets of one row more. -/
def nextF (F : Nat → Nat → Nat → Prop) (i : Nat) (R : Nat → Nat → Prop) : Nat → Nat → Nat → Prop := fun q => if q = i then R else F q
theorem tagRs_snoc {F : Nat → Nat → Nat → Prop} {R : Nat → Nat → Prop} {l : List (List D)} {r : List D} : tagRs (nextF F l.length R) 0 (l ++ [r]) = tagRs F 0 l ++ [tagL R 0 r] := by
  rw [tagRs_app, tagRs_same (G := F) fun q _ h2 => by rw [nextF, if_neg (by omega)]]
  rw [tagRs, tagRs, nextF, if_pos (by omega)]
/-- The sets of rows, each its own: none meets another, none meets O; of the columns that hold trees. -/
structure FD (O : Nat → Prop) (L : Nat → Prop) (i : Nat) (F : Nat → Nat → Nat → Prop) : Prop where
  dis : ∀ a c a' c' b, a < i → a' < i → L c → L c' → F a c b → F a' c' b → a = a' ∧ c = c'
  out : ∀ a c b, a < i → L c → F a c b → ¬ O b
theorem FD.zero (O L : Nat → Prop) (F : Nat → Nat → Nat → Prop) : FD O L 0 F := ⟨fun _ _ _ _ _ h => by omega, fun _ _ _ h => by omega⟩
theorem FD.next {O L : Nat → Prop} {i : Nat} {F : Nat → Nat → Nat → Prop} {R : Nat → Nat → Prop} (h : FD O L i F) (h1 : ∀ c b, R c b → ¬ O b) (h2 : ∀ c c' b, R c b → R c' b → c = c') (h3 : ∀ a c c' b, a < i → L c → F a c b → ¬ R c' b) : FD O L (i + 1) (nextF F i R) := by
  refine ⟨fun a c a' c' b ha ha' hc hc' q1 q2 => ?_, fun a c b ha hc q1 => ?_⟩
  · unfold nextF at q1 q2
    by_cases e1 : a = i <;> by_cases e2 : a' = i
    · rw [if_pos e1] at q1; rw [if_pos e2] at q2; exact ⟨by omega, h2 _ _ _ q1 q2⟩
    · rw [if_pos e1] at q1; rw [if_neg e2] at q2; exact absurd q1 (h3 a' c' c b (by omega) hc' q2)
    · rw [if_neg e1] at q1; rw [if_pos e2] at q2; exact absurd q2 (h3 a c c' b (by omega) hc q1)
    · rw [if_neg e1] at q1; rw [if_neg e2] at q2; exact h.dis a c a' c' b (by omega) (by omega) hc hc' q1 q2
  · unfold nextF at q1
    by_cases e1 : a = i
    · rw [if_pos e1] at q1; exact h1 _ _ q1
    · rw [if_neg e1] at q1; exact h.out a c b (by omega) hc q1
theorem Has.rows {σ : St} {k : Nat} {e : TypeId} {sz : Nat} {F : Nat → Nat → Nat → Prop} {rows : List (List D)} (h : lk σ (.b k) = .b e sz (dR (tagRs F 0 rows))) {i j : Nat} {r : List D} {m : Nat} {rs : List (List D)} (hr : rows[i]? = some r) (hj : r[j]? = some (.list m rs)) : Has σ (F i j) := by
  refine .box k h (i := i) (j := j) (r := (tagL (F i) 0 r).map C.d) (c := .d (.tree (F i j) (.list m rs))) ?_ ?_ (.d (.tree _))
  · rw [dR, List.getElem?_map, tagRs_at hr, Nat.zero_add]; rfl
  · rw [List.getElem?_map, tagL_at hj, Nat.zero_add]; rfl
/-- The sets of a list, the others empty. -/
def nthS (l : List (Nat → Prop)) (j : Nat) : Nat → Prop := (l[j]?).getD fun _ => False
theorem nthS_out {l : List (Nat → Prop)} {j b : Nat} (h : nthS l j b) : ∃ S, l[j]? = some S ∧ S b := by
  unfold nthS at h
  cases hS : l[j]? with
  | none => rw [hS] at h; exact h.elim
  | some S => rw [hS] at h; exact ⟨S, rfl, h⟩
theorem nthS_dis {l : List (Nat → Prop)} (h : l.Pairwise fun S T => ∀ b, S b → ¬ T b) (i j b : Nat) (hi : nthS l i b) (hj : nthS l j b) : i = j := by
  obtain ⟨S, hS, hi⟩ := nthS_out hi
  obtain ⟨T, hT, hj⟩ := nthS_out hj
  have h1 := List.pairwise_iff_getElem.1 h
  obtain ⟨l1, rfl⟩ := List.getElem?_eq_some_iff.1 hS
  obtain ⟨l2, rfl⟩ := List.getElem?_eq_some_iff.1 hT
  rcases Nat.lt_trichotomy i j with h2 | h2 | h2
  · exact absurd hj (h1 i j l1 l2 h2 b hi)
  · exact h2
  · exact absurd hi (h1 j i l2 l1 h2 b hj)
theorem nthS_all {l : List (Nat → Prop)} {Q : Nat → Prop} (h : ∀ S ∈ l, ∀ b, S b → Q b) (j b : Nat) (hj : nthS l j b) : Q b := by
  obtain ⟨S, hS, hj⟩ := nthS_out hj
  exact h S (List.mem_of_getElem? hS) b hj

/-! ### What a maker does -/
inductive TRes where
  | one (d : D)
  | str (ds : List D)
  | strB (ds : List D) (b : Bool)
def vT (R : Nat → Nat → Prop) : TRes → V
  | .one d => .o (vD (tg (R 0) d))
  | .str ds => .o (ad (tagL R 0 ds))
  | .strB ds b => .tup [ad (tagL R 0 ds), bo1 b]
def noTree : D → Bool
  | .tree _ _ => false
  | .list _ _ => true
  | .val v => nsl v
def TRes.ok : TRes → Bool
  | .one d => noTree d
  | .str ds => ds.all noTree
  | .strB ds _ => ds.all noTree
theorem Dr.tgTo {B B' : Nat → Prop} {w : World} {S : Nat → Prop} {d : D} {v : Value} (hd : noTree d = true) (h : Dr B w (tg S d) v) (hS : ∀ b, S b → B' b) : Dr B' w (tg S d) v := by
  cases d with
  | val u => cases h with | val _ h => exact .val _ h
  | list sz rows => cases h with | tree _ _ _ hB hl h => exact .tree _ _ _ hS hl h
  | tree S2 x => cases hd
theorem adT_to {bx bx' : Nat → Nat × Nat} {al al' B B' : Nat → Prop} {w : World} {R : Nat → Nat → Prop} {ds : List D} {v : Value} (hd : ds.all noTree = true) (h : V1r bx al B w (ad (tagL R 0 ds)) v) (hR : ∀ j b, R j b → B' b) : V1r bx' al' B' w (ad (tagL R 0 ds)) v := by
  obtain ⟨vs, e, hl, h⟩ := h
  refine ⟨vs, e, hl, fun i c u hc hu => ?_⟩
  have hc' := h i c u hc hu
  rw [List.getElem?_map] at hc
  cases hx : ds[i]? with
  | none =>
    have h1 : (tagL R 0 ds)[i]? = none := by rw [List.getElem?_eq_none_iff] at hx ⊢; rw [tagL_len]; exact hx
    rw [h1] at hc; cases hc
  | some x =>
    rw [tagL_at hx] at hc
    cases hc
    exact Dr.tgTo (List.all_eq_true.1 hd x (List.mem_of_getElem? hx)) hc' (hR _)
theorem vT_to {bx bx' : Nat → Nat × Nat} {al al' B B' : Nat → Prop} {w : World} {R : Nat → Nat → Prop} {r : TRes} {v : Value} (hd : r.ok = true) (h : Vr bx al B w (vT R r) v) (hR : ∀ j b, R j b → B' b) : Vr bx' al' B' w (vT R r) v := by
  cases r with
  | one d => exact Dr.tgTo (B := B) hd h (hR 0)
  | str ds => exact adT_to (bx := bx) (al := al) (B := B) hd h hR
  | strB ds b =>
    obtain ⟨vs, e, hl, h⟩ := h
    refine ⟨vs, e, hl, fun i c u hc hu => ?_⟩
    match i, hc with
    | 0, hc => cases hc; exact adT_to (bx := bx) (al := al) (B := B) hd (h 0 _ u rfl hu) hR
    | 1, hc =>
      cases hc
      have h1 : Dr B w (.val (.bool b)) u := h 1 _ u rfl hu
      cases h1
      exact Dr.val _ rfl
theorem vT_refs (R : Nat → Nat → Prop) (r : TRes) : (vT R r).refs = [] := by
  cases r with
  | one d => rfl
  | str ds => exact refs_ad _
  | strB ds b => show (ad (tagL R 0 ds)).refs ++ ([] ++ []) = []; rw [refs_ad]; rfl
/-- The function f makes the result r: its trees lie in blocks of src or in new ones, no two share a block. -/
def FnT (P : Program) (f : FuncId) (args : List V1) (src : Nat → Prop) (r : TRes) : Prop :=
  ∀ (w : World) (vs : List Value), Vals (V1r (fun _ => (0, 0)) (fun _ => False) (fun _ => True) w) args vs →
    Calls P f vs.toArray w fun e w' => ∃ v R, e = .returned v ∧ Below w.heap.size w w' ∧ (∀ j b, R j b → src b ∨ w.heap.size ≤ b) ∧ (∀ i j b, R i b → R j b → i = j) ∧ Vr (fun _ => (0, 0)) (fun _ => False) (fun _ => True) w' (vT R r) v
/-- The columns of a result that are slices. -/
def TRes.pos : TRes → Nat → Prop
  | .one d, j => j = 0 ∧ ∃ m rs, d = .list m rs
  | .str ds, j => ∃ m rs, ds[j]? = some (.list m rs)
  | .strB ds _, j => ∃ m rs, ds[j]? = some (.list m rs)
/-- What is there, of the columns that are slices. -/
def cutR (w : World) (r : TRes) (R : Nat → Nat → Prop) : Nat → Nat → Prop := fun j b => R j b ∧ b < w.heap.size ∧ r.pos j
theorem Dr.tgCut {B : Nat → Prop} {w : World} {S S' : Nat → Prop} {d : D} {v : Value} (hd : noTree d = true) (h : Dr B w (tg S d) v) (h1 : ∀ b, S' b → S b) (h2 : ∀ b, S b → b < w.heap.size → (∃ m rs, d = .list m rs) → S' b) : Dr B w (tg S' d) v := by
  cases d with
  | val u => exact h
  | list sz rows => cases h with | tree _ _ _ hB hl h => exact .tree _ _ _ (fun b hb => hB b (h1 b hb)) (fun b hb => hl b (h1 b hb)) (h.subS fun b hb => h2 b hb (hl b hb) ⟨_, _, rfl⟩)
  | tree S2 x => cases hd
theorem adT_cut {bx : Nat → Nat × Nat} {al B : Nat → Prop} {w : World} {R R' : Nat → Nat → Prop} {ds : List D} {v : Value} (hd : ds.all noTree = true) (h : V1r bx al B w (ad (tagL R 0 ds)) v) (h1 : ∀ j b, R' j b → R j b) (h2 : ∀ j b, R j b → b < w.heap.size → (∃ m rs, ds[j]? = some (.list m rs)) → R' j b) : V1r bx al B w (ad (tagL R' 0 ds)) v := by
  obtain ⟨vs, e, hl, h⟩ := h
  refine ⟨vs, e, by rw [hl, List.length_map, tagL_len, List.length_map, tagL_len], fun i c u hc hu => ?_⟩
  rw [List.getElem?_map] at hc
  cases hx : ds[i]? with
  | none =>
    have h1 : (tagL R' 0 ds)[i]? = none := by rw [List.getElem?_eq_none_iff] at hx ⊢; rw [tagL_len]; exact hx
    rw [h1] at hc; cases hc
  | some x =>
    rw [tagL_at hx, Nat.zero_add] at hc
    cases hc
    refine Dr.tgCut (List.all_eq_true.1 hd x (List.mem_of_getElem? hx)) (S := R i) ?_ (h1 i) (fun b hb hl ⟨m, rs, e⟩ => h2 i b hb hl ⟨m, rs, by rw [hx, e]⟩)
    exact h i (.d (tg (R i) x)) u (by rw [List.getElem?_map, tagL_at hx, Nat.zero_add]; rfl) hu
theorem vT_cut {bx : Nat → Nat × Nat} {al B : Nat → Prop} {w : World} {R : Nat → Nat → Prop} {r : TRes} {v : Value} (hd : r.ok = true) (h : Vr bx al B w (vT R r) v) : Vr bx al B w (vT (cutR w r R) r) v := by
  cases r with
  | one d => exact Dr.tgCut hd h (fun b hb => hb.1) (fun b hb hl he => ⟨hb, hl, rfl, he⟩)
  | str ds => exact adT_cut hd h (fun j b hb => hb.1) (fun j b hb hl he => ⟨hb, hl, he⟩)
  | strB ds b =>
    obtain ⟨vs, e, hl, h⟩ := h
    refine ⟨vs, e, hl, fun i c u hc hu => ?_⟩
    match i, hc with
    | 0, hc => cases hc; exact adT_cut hd (h 0 _ u rfl hu) (fun j b hb => hb.1) (fun j b hb hl he => ⟨hb, hl, he⟩)
    | 1, hc => cases hc; exact h 1 _ u rfl hu
theorem FnT.full {P : Program} {f : FuncId} {args : List V1} {src : Nat → Prop} {r : TRes} (h : FnT P f args src r) (hok : r.ok = true) (w : World) (vs : List Value) (hv : Vals (V1r (fun _ => (0, 0)) (fun _ => False) (fun _ => True) w) args vs) :
    Calls P f vs.toArray w fun e w' => ∃ v R, e = .returned v ∧ Below w.heap.size w w' ∧ (∀ j b, R j b → src b ∨ w.heap.size ≤ b) ∧ (∀ i j b, R i b → R j b → i = j) ∧ (∀ j b, R j b → b < w'.heap.size ∧ r.pos j) ∧ Vr (fun _ => (0, 0)) (fun _ => False) (fun _ => True) w' (vT R r) v := by
  refine (h w vs hv).mono ?_
  rintro e w' ⟨v, R, rfl, hb, h1, h2, h3⟩
  exact ⟨v, cutR w' r R, rfl, hb, fun j b hj => h1 j b hj.1, fun i j b hi hj => h2 i j b hi.1 hj.1, fun j b hj => hj.2, vT_cut hok h3⟩
def noRefs (xs : List V1) : Bool := xs.all fun x => x.refs.isEmpty
theorem noRefs_at {xs : List V1} (h : noRefs xs = true) {x : V1} (hx : x ∈ xs) : x.refs = [] := by
  have := List.all_eq_true.1 h x hx
  simpa using this
section
variable {P : Program} {n : Nat} {ops : Array Oper} {l : List Oper} {o : Oper} {K : St → Prop} {σ : St}
theorem AOps.callT {d : Nat} {fo : Operand} {ar : Array Operand} {ts : Array TypeId} (xs : List Operand) {vs : List V1} {f : FuncId} {cap : List (List D)} {src : Nat → Prop} {r : TRes}
    (ho : o.op = .call { callee := .value fo, args := ar, argTypes := ts }) (hg : o.guard = none) (hd : o.dst = some d) (hn : Nat.blt d n = true) (has : ar = xs.toArray) (hfo : ev σ fo = some (.o (.c (.fn f cap)))) (hcall : callable P f = true) (hx : evL σ xs = some vs)
    (hF : FnT P f (vs ++ cap.map fun c => .c (.ptr c)) src r) (href : noRefs vs = true) (hok : r.ok = true) (hsrc : ∀ b, src b → ∃ S, Has σ S ∧ S b)
    (k : ∀ R : Nat → Nat → Prop, (∀ j b, R j b → src b ∨ ∀ S, Has σ S → ¬ S b) → (∀ i j b, R i b → R j b → i = j) → (∀ j b, R j b → r.pos j) → AOps P n ops l K ((.t d, .v (vT R r)) :: σ)) : AOps P n ops (o :: l) K σ := by
  intro E bx a w hE hs Q hQ
  refine wpList_step fun KK hKK => (OW.plain hg fun Q' => ?_ : OW P ops o a w KK) Q
  obtain ⟨cvs, hfe, hcl, hcv⟩ := fnx_ok (bx := bx) (al := Al (lk σ)) (show fnx (.fn f cap) = some (f, cap.map fun c => .c (.ptr c)) from rfl) (ev_ok hfo (fun _ _ => rfl) hs).1
  obtain ⟨⟨q1, q2⟩, _⟩ := evL_ok hx (fun _ _ => rfl) hs
  subst has
  have hvals : Vals (V1r (fun _ => (0, 0)) (fun _ => False) (fun _ => True) w) (vs ++ cap.map fun c => .c (.ptr c)) (xs.map a.eval ++ cvs) := by
    refine ⟨by rw [List.length_append, q1, hcl, List.length_append], fun i x v hx hv => ?_⟩
    rw [List.getElem?_append] at hx hv
    by_cases hi : i < vs.length
    · rw [if_pos hi] at hx
      rw [if_pos (by rw [q1]; exact hi)] at hv
      exact (q2 i x v hx hv).to (Same.refl _ _) (fun _ _ _ => trivial) (fun k hk => by rw [noRefs_at href (List.mem_of_getElem? hx)] at hk; cases hk)
    · rw [if_neg hi] at hx
      rw [if_neg (by rw [q1]; exact hi), q1] at hv
      refine (hcv _ _ v hx hv).to (Same.refl _ _) (fun _ _ _ => trivial) (fun k hk => ?_)
      obtain ⟨c, _, rfl⟩ := List.mem_map.1 (List.mem_of_getElem? hx)
      cases hk
  unfold Oper.wp
  rw [run_callV hcall ho hfe w, Oper.upon_enter, hd, show xs.toArray.map a.eval ++ cvs.toArray = (xs.map a.eval ++ cvs).toArray by simp]
  refine (hF.full hok w _ hvals).mono ?_
  rintro e w' ⟨v, R, rfl, hb, h1, h2, hps, h3⟩
  have hs' := hs.world hb
  have hfr : ∀ j b, R j b → src b ∨ ∀ S, Has σ S → ¬ S b := fun j b hj => (h1 j b hj).imp id fun h S hS hb => by have := (hs.has hS b hb).2; omega
  have hbf : ∀ j b, R j b → Bf E bx (lk σ) b := fun j b hj => by
    rcases h1 j b hj with h | h
    · obtain ⟨S, hS, hb⟩ := hsrc b h
      exact (hs.has hS b hb).1
    · exact ⟨.inr (Nat.le_trans hs.hsize h), fun k hk e => by have := hs.lt hk; omega⟩
  have hp := hs'.put (d := d) (by rw [hE]; simpa using hn) (vT_to hok h3 hbf) (fun k hk => by rw [vT_refs] at hk; cases hk)
  rw [← lk_cons] at hp
  exact hKK _ _ (k R hfr h2 (fun j b hj => (hps j b hj).2) E bx _ w' hE hp Q hQ)
theorem AOps.cT {d : Nat} {fo : Operand} {ar : Array Operand} {ts : Array TypeId} (xs : List Operand) {vs : List V1} {f : FuncId} {cap : List (List D)} {src : Nat → Prop} {r : TRes}
    (h4 : (o.op, o.guard, o.dst, Nat.blt d n) = (Op.call { callee := .value fo, args := ar, argTypes := ts }, none, some d, true)) (has : ar = xs.toArray) (hfo : ev σ fo = some (.o (.c (.fn f cap)))) (hx : evL σ xs = some vs)
    (hF : FnT P f (vs ++ cap.map fun c => .c (.ptr c)) src r) (href : noRefs vs = true) (hok : r.ok = true) (hsrc : ∀ b, src b → ∃ S, Has σ S ∧ S b)
    (k : ∀ R : Nat → Nat → Prop, (∀ j b, R j b → src b ∨ ∀ S, Has σ S → ¬ S b) → (∀ i j b, R i b → R j b → i = j) → (∀ j b, R j b → r.pos j) → AOps P n ops l K ((.t d, .v (vT R r)) :: σ)) (hcall : callable P f = true := by kernel_rfl) : AOps P n ops (o :: l) K σ := by
  simp only [Prod.mk.injEq] at h4
  exact AOps.callT xs h4.1 h4.2.1 h4.2.2.1 h4.2.2.2 has hfo hcall hx hF href hok hsrc k
/-- Nothing is taken over. -/
def none' : Nat → Prop := fun _ => False
theorem nosrc {σ : St} : ∀ b, none' b → ∃ S, Has σ S ∧ S b := fun _ h => h.elim
theorem new_of {R : Nat → Nat → Prop} {σ : St} (h : ∀ j b, R j b → none' b ∨ ∀ S, Has σ S → ¬ S b) {S : Nat → Prop} (hS : Has σ S) : ∀ j b, R j b → ¬ S b := fun j b hj => (h j b hj).elim (fun h => h.elim) fun h => h S hS
theorem gh_has {σ : St} {O : Nat → Prop} (h : lk σ (.t 9999) = .v (.gh O)) : Has σ O := .slot 9999 h .gh
end

/-! ### From code -/
def KfinT (P : Program) (res : Array ResultVar) (src O : Nat → Prop) (r : TRes) : Exit → St → Prop
  | .normal, σ | .ret, σ => ∃ σ2 xs R, Wk σ σ2 ∧ resL σ2 P res.toList = some xs ∧ tupV xs = vT R r ∧ (∀ i j b, R i b → R j b → i = j) ∧ ∀ j b, R j b → src b ∨ ¬ O b
  | _, _ => False
theorem kt_ret {P : Program} {res : Array ResultVar} {src O : Nat → Prop} {r : TRes} {σ : St} {xs : List V1} (R : Nat → Nat → Prop) (hr : resL σ P res.toList = some xs) (hy : tupV xs = vT R r) (h1 : ∀ i j b, R i b → R j b → i = j) (h2 : ∀ j b, R j b → src b ∨ ¬ O b) : KfinT P res src O r .ret σ := ⟨σ, xs, R, Wk.refl σ, hr, hy, h1, h2⟩
theorem kt_wret {P : Program} {res : Array ResultVar} {src O : Nat → Prop} {r : TRes} {σ : St} {xs : List V1} (R : Nat → Nat → Prop) (σ2 : St) (hw : Wk σ σ2) (hr : resL σ2 P res.toList = some xs) (hy : tupV xs = vT R r) (h1 : ∀ i j b, R i b → R j b → i = j) (h2 : ∀ j b, R j b → src b ∨ ¬ O b) : KfinT P res src O r .ret σ := ⟨σ2, xs, R, hw, hr, hy, h1, h2⟩
/-- The slot that tells what is old. -/
def ghS (O : Nat → Prop) : St := [(.t 9999, .v (.gh O))]
theorem FnT.of_code {P : Program} {f : FuncId} {fn : Func} {c : Code} {args : List V1} {src : Nat → Prop} {r : TRes} (hf : P.funcs[f]? = some fn) (hbd : fn.body = some c) (hn : (Nat.ble args.length 9000 && Nat.ble args.length fn.ntmps) = true) (href : noRefs args = true)
    (h : ∀ O : Nat → Prop, ACode P fn.ntmps c (KfinT P fn.results src O r) (argS 0 args ++ ghS O)) : FnT P f args src r := by
  intro w vs hv
  rw [Bool.and_eq_true] at hn
  have hn1 := Nat.le_of_ble_eq_true hn.1
  have hn' := Nat.le_of_ble_eq_true hn.2
  refine calls_of_wp hf hbd ?_
  let E : Env := { w := w, B := fun _ => True, n := fn.ntmps, mt := [] }
  let O : Nat → Prop := fun b => b < w.heap.size
  have hslot : ∀ {args : List V1} {i t : Nat} {x : V}, i + args.length ≤ 9000 → lk (argS i args ++ ghS O) (.t t) = .v x → (∃ a, i ≤ t ∧ args[t - i]? = some a ∧ x = .o a) ∨ x = .gh O := by
    intro args
    induction args with
    | nil =>
      intro i t x _ h
      rw [argS, List.nil_append, ghS, lk_cons] at h
      by_cases e : t = 9999
      · subst e; rw [upd_same] at h; cases h; exact .inr rfl
      · rw [upd_other _ _ (by simpa using e)] at h; cases h
    | cons a l ih =>
      intro i t x hl h
      rw [argS, List.cons_append, lk_cons] at h
      rw [List.length_cons] at hl
      by_cases e : t = i
      · subst e; rw [upd_same] at h; cases h; exact .inl ⟨a, Nat.le_refl _, by simp, rfl⟩
      · rw [upd_other _ _ (by simpa using e)] at h
        rcases ih (by omega) h with ⟨b, h1, h2, h3⟩ | h
        · exact .inl ⟨b, by omega, by rw [show t - i = (t - (i + 1)) + 1 by omega, List.getElem?_cons_succ]; exact h2, h3⟩
        · exact .inr h
  have hother : ∀ {args : List V1} {i : Nat} {r : Res}, (∀ t, r ≠ .t t) → lk (argS i args ++ ghS O) r = .no := by
    intro args
    induction args with
    | nil => intro i r hr; rw [argS, List.nil_append, ghS, lk_cons, upd_other _ _ (hr _)]; rfl
    | cons a l ih => intro i r hr; rw [argS, List.cons_append, lk_cons, upd_other _ _ (hr _)]; exact ih hr
  have hno : ∀ k, ¬ Al (lk (argS 0 args ++ ghS O)) k := fun k ⟨e, sz, rows, h⟩ => by rw [hother (by simp)] at h; cases h
  have hbf : ∀ b, Bf E (fun _ => (0, 0)) (lk (argS 0 args ++ ghS O)) b := fun b => ⟨.inl trivial, fun k hk => (hno k hk).elim⟩
  have hSR : SR E (fun _ => (0, 0)) (lk (argS 0 args ++ ghS O)) { tmps := vs.toArray ++ Array.replicate (fn.ntmps - vs.toArray.size) undef, defers := [] } w := by
    refine ⟨fun t x ht => ?_, fun k e sz rows hk => ?_, fun k l hk hl => (hno k hk).elim, fun k hk => ?_, ?_, rfl, fun k hk => (hno k hk).elim, fun p hp => (by cases hp), fun k g hm hk => (by cases hm), rfl, rfl, rfl, Nat.le_refl _, fun b hb hm => rfl⟩
    · rcases hslot (by omega) ht with ⟨a, _, h1, rfl⟩ | rfl
      · rw [Nat.sub_zero] at h1
        have hl : t < args.length := (List.getElem?_eq_some_iff.1 h1).1
        have hvl : t < vs.length := by rw [hv.1]; exact hl
        have h2 := hv.2 t a _ h1 (List.getElem?_eq_getElem hvl)
        have h3 : (vs.toArray ++ Array.replicate (fn.ntmps - vs.toArray.size) undef).getD t undef = vs[t] := by
          rw [Array.getD_eq_getD_getElem?, Array.getElem?_append_left (by simpa using hvl)]
          simp [hvl]
        show V1r _ _ _ w a _
        rw [h3]
        exact h2.to (Same.refl _ _) (fun b _ _ => hbf b) (fun k hk => by rw [noRefs_at href (List.mem_of_getElem? h1)] at hk; cases hk)
      · exact fun b hb => ⟨hbf b, hb⟩
    · rw [hother (by simp)] at hk; cases hk
    · refine ⟨hno k, fun t x ht hr => ?_, fun l e sz rows hl => ?_⟩
      · rcases hslot (by omega) ht with ⟨a, _, h1, rfl⟩ | rfl
        · have := noRefs_at href (List.mem_of_getElem? h1)
          have hr' : k ∈ a.refs := hr
          rw [this] at hr'; cases hr'
        · cases hr
      · rw [hother (by simp)] at hl; cases hl
    · show (vs.toArray ++ Array.replicate (fn.ntmps - vs.toArray.size) undef).size = fn.ntmps
      simp [hv.1]; omega
  refine wp_mono (h O E _ _ w rfl hSR) ?_
  rintro e a' w' ⟨σ', bx', hK, hs⟩
  have key : (∃ σ2 xs R, Wk σ' σ2 ∧ resL σ2 P fn.results.toList = some xs ∧ tupV xs = vT R r ∧ (∀ i j b, R i b → R j b → i = j) ∧ ∀ j b, R j b → src b ∨ ¬ O b) → a'.defers = [] ∧ ∃ v, (results fn a'.tmps).run P w' = .ok v w' ∧ ∃ v' R, Ending.returned v = .returned v' ∧ Below w.heap.size w w' ∧ (∀ j b, R j b → src b ∨ w.heap.size ≤ b) ∧ (∀ i j b, R i b → R j b → i = j) ∧ Vr (fun _ => (0, 0)) (fun _ => False) (fun _ => True) w' (vT R r) v' := by
    rintro ⟨σ2, xs, R, hwk, hres, hy, hd, hO⟩
    obtain ⟨bx2, hs2⟩ := hwk E bx' a' w' hs
    obtain ⟨v, hrun, hvr⟩ := results_ok hres hs2
    rw [hy] at hvr
    refine ⟨hs2.defers, v, hrun, v, R, rfl, ⟨hs2.os, hs2.tape, hs2.output, hs2.hsize, fun b hb => hs2.old b hb (fun k g hm => by cases hm)⟩, fun j b hj => (hO j b hj).imp id fun h => Nat.le_of_not_lt h, hd, hvr.to (Same.refl _ _) (fun _ _ _ => trivial) (fun k hk => by rw [vT_refs] at hk; cases hk)⟩
  cases e with
  | normal => exact key hK
  | ret => exact key hK
  | _ => exact hK.elim
end Go.Proofs.Ytollooimmfngjaa
