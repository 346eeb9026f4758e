/- Slices of ints: those that are read, those of the call's own; appends, stores, slice expressions; no condition. -/
import Derived.Test.YtkhlaphegnldeaaDoorRep
import Derived.Deep.RegionLaw
namespace Go.Proofs.YtkhlaphegnldeaaDoor
set_option linter.unusedVariables false
set_option linter.unusedSimpArgs false
open Go.RowKit

/-- A slice of ints of the call's own, its array from block B on. -/
def OwnI (B : Nat) (w : World) (v : Value) (xs : List Int) : Prop := OwnL Sh.int 3 B 0 w v xs
section
variable {B B' C : Nat} {P : Nat → Prop} {w w' : World} {v v' : Value} {xs ys : List Int} {a : Option Addr} {n c : Nat}
theorem ownI_of {D : Nat} (h : OwnL Sh.int 3 B D w v xs) : OwnI B w v xs := h.base (Nat.le_refl _) (Nat.zero_le _)
theorem OwnI.ownL {D : Nat} (h : OwnI B w v xs) : OwnL Sh.int 3 B D w v xs := by
  obtain ⟨css, h1, h2, h3⟩ := h
  exact ⟨css, h1, h2, h3⟩
theorem OwnI.nil (B : Nat) (w : World) : OwnI B w (.slice none 0 0) [] := OwnL.nil _ _ _ _ _
theorem OwnI.frame (h : OwnI B w v xs) (hv : ∀ k, v.ownBlock = some k → w'.heap[k]? = w.heap[k]?) : OwnI B w' v xs := by
  obtain ⟨css, h1, h2, h3⟩ := h
  exact ⟨css, h1, h2.frame hv, fun i x cs hx hc => h3 i x cs hx hc⟩
theorem OwnI.lt (h : OwnI B w v xs) : ∀ g, v.ownBlock = some g → B ≤ g ∧ g < w.heap.size := OwnL.lt h
theorem OwnI.below (h : OwnI B w v xs) (hb : Below w.heap.size w w') : OwnI B w' v xs := h.frame fun k hk => hb.block k (h.lt k hk).2
theorem OwnI.belowLt {D : Nat} (h : OwnI B w v xs) (hb : Below D w w') (hD : ∀ k, v.ownBlock = some k → k < D) : OwnI B w' v xs := h.frame fun k hk => hb.block k (hD k hk)
theorem OwnI.alloc (h : OwnI B w v xs) (o : Obj) : OwnI B (w.alloc o) v xs := h.below ((Below.refl _ _).alloc (Nat.le_refl _) o)
theorem OwnI.drewN {m : Nat} (h : OwnI B w v xs) : OwnI B (w.drewN m) v xs := h.below (belowN (Below.refl _ _))
theorem OwnI.drew (h : OwnI B w v xs) : OwnI B w.drew v xs := h.below ((Below.refl _ _).drew)
theorem OwnI.quiet (h : OwnI B w v xs) (hq : Quiet w w') : OwnI B w' v xs := h.below (hq.below _)
theorem OwnI.grown {r : Option Nat} (h : OwnI B w v xs) (hg : w.grownBy w' r) (hv : ∀ g, r = some g → v.ownBlock ≠ some g) : OwnI B w' v xs :=
  h.frame (fun k hk => hg.block k (h.lt k hk).2 (fun e => hv k e.symm hk))
theorem OwnI.base (h : OwnI B w v xs) (hB : B' ≤ B) : OwnI B' w v xs := OwnL.base h hB (Nat.le_refl _)
theorem OwnI.shape (h : OwnI B w v xs) : ∃ a cap, v = .slice a xs.length cap ∧ xs.length ≤ cap := OwnL.shape h
theorem OwnI.len (h : OwnI B w (.slice a n c) xs) : xs.length = n := by
  obtain ⟨a', c', e, _⟩ := h.shape
  simp only [Value.slice.injEq] at e
  exact e.2.1.symm
theorem OwnI.sl (h : OwnI B w v xs) (hn : xs.length ≤ 17592186044416) : Sl Sh.int (fun b => v.ownBlock = some b) w v xs := by
  obtain ⟨css, h1, h2, h3⟩ := h
  have h' : OwnL Sh.int 3 B 0 w v xs := ⟨css, h1, h2, h3⟩
  have hs := h'.sl hn (P := fun _ => True) (fun _ _ _ => trivial) (fun _ _ => trivial)
  obtain ⟨a, cap, rfl, e1, e2, e3, e4⟩ := hs
  refine ⟨a, cap, rfl, e1, e2, e3, fun i x hx => ?_⟩
  obtain ⟨b, off, cs, rfl, _, hr, hc⟩ := e4 i x hx
  exact ⟨b, off, cs, rfl, rfl, hr, hc⟩
theorem OwnI.at (h : OwnI B w (.slice a n c) xs) (hn : 0 < n) : ∃ g off, a = some ⟨g, off, none⟩ ∧ B ≤ g ∧ g < w.heap.size ∧ n ≤ c ∧ (∀ j, j < n → w.cell? ⟨g, off + j, none⟩ = some (.int .i64 (xs.getD j 0))) ∧ ∀ j, w.frozen? ⟨g, j, none⟩ = false := by
  obtain ⟨hl, g, off, ha, hB, hg, hc, hf, h1⟩ := OwnL.at h hn
  refine ⟨g, off, ha, hB, hg, hc, fun j hj => ?_, hf⟩
  obtain ⟨cs, hr, hcell⟩ := h1 j (xs.getD j 0) (by rw [List.getD, List.getElem?_eq_getElem (by omega)]; rfl)
  have : cs = [.int .i64 (xs.getD j 0)] := hr
  subst this
  have := hcell 0 _ rfl
  simpa [Sh.int] using this

/-- A slice of ints, in terms of its cells. -/
theorem sl_ints (h : Sl Sh.int P w (.slice a n c) xs) : IntsA w a n c xs := by
  refine ⟨h.len, h.le.1, h.le.2, fun i hi => ?_⟩
  obtain ⟨b, off, ha, _, _, hc⟩ := h.at (by omega)
  have hl := h.len
  obtain ⟨cs, hr, hcell⟩ := hc i (xs.getD i 0) (by rw [List.getD, List.getElem?_eq_getElem (by omega)]; rfl)
  have : cs = [.int .i64 (xs.getD i 0)] := hr
  subst this
  have := hcell 0 _ rfl
  exact ⟨b, off, ha, by simpa [Sh.int] using this⟩
theorem ints_sl (h : IntsA w a n c xs) (hnil : a = none → c = 0) : Sl Sh.int (fun _ => True) w (.slice a n c) xs := by
  refine ⟨a, c, by rw [h.len], by rw [h.len]; exact h.2.1, by rw [h.len]; exact h.le, hnil, fun i x hx => ?_⟩
  have hi : i < xs.length := (List.getElem?_eq_some_iff.1 hx).1
  obtain ⟨b, off, ha, hc⟩ := h.2.2.2 i (by rw [← h.len]; exact hi)
  refine ⟨b, off, [.int .i64 x], ha, trivial, rfl, fun j cc hj => ?_⟩
  cases j with
  | succ j => simp at hj
  | zero =>
    simp only [List.getElem?_cons_zero, Option.some.injEq] at hj
    subst hj
    rw [List.getD, hx] at hc
    simpa [Sh.int] using hc
theorem Sl.intAt (h : Sl Sh.int P w (.slice a n c) xs) (hn : 0 < n) : ∃ b off, a = some ⟨b, off, none⟩ ∧ P b ∧ b < w.heap.size ∧ ∀ i, i < n → w.cell? ⟨b, off + i, none⟩ = some (.int .i64 (xs.getD i 0)) := by
  obtain ⟨b, off, ha, hb, hlt, _⟩ := h.at hn
  refine ⟨b, off, ha, hb, hlt, fun i hi => ?_⟩
  obtain ⟨b', off', e, hc⟩ := (sl_ints h).2.2.2 i hi
  rw [ha] at e
  cases e
  exact hc

/-- New rows. -/
theorem OwnI.made (w : World) (vs : List Int) (hB : B ≤ w.heap.size) (hn : vs.length ≤ 17592186044416) : OwnI B (w.alloc (.cells (vs.map (Value.int .i64)).toArray 3)) (.slice (some ⟨w.heap.size, 0, none⟩) vs.length vs.length) vs := by
  have hf : (vs.map fun x => [Value.int .i64 x]).flatten = vs.map (Value.int .i64) := by
    induction vs with
    | nil => rfl
    | cons x r ih => rw [List.map_cons, List.flatten_cons, ih (by rw [List.length_cons] at hn; omega)]; rfl
  refine ⟨vs.map fun x => [.int .i64 x], by simp, ?_, fun i x cs hx hc => ?_⟩
  · rw [hf]
    exact ⟨by simp [Sh.int], .inr ⟨w.heap.size, 0, vs.length, _, rfl, hB, heap_alloc_new w _, Nat.le_refl _, by unfold maxLen; omega, by simp [Sh.int], by simp [Sh.int, List.take_of_length_le]⟩⟩
  · rw [List.getElem?_map, hx] at hc
    simp only [Option.map_some, Option.some.injEq] at hc
    exact hc.symm
theorem OwnI.one (w : World) (hB : B ≤ w.heap.size) (x : Int) : OwnI B (w.alloc (.cells #[.int .i64 x] 3)) (.slice (some ⟨w.heap.size, 0, none⟩) 1 1) [x] := OwnI.made w [x] hB (by simp)
theorem OwnI.empty (w : World) (hB : B ≤ w.heap.size) : OwnI B (w.alloc (.cells #[] 3)) (.slice (some ⟨w.heap.size, 0, none⟩) 0 0) [] := OwnI.made w [] hB (by simp)
theorem OwnI.zeros (w : World) (n : Nat) (hB : B ≤ w.heap.size) (hn : n ≤ 17592186044416) : OwnI B (w.alloc (.cells (madeCells #[.int .i64 0] n) 3)) (.slice (some ⟨w.heap.size, 0, none⟩) n n) (List.replicate n 0) := by
  have h := OwnI.made (B := B) w (List.replicate n 0) hB (by simpa using hn)
  rw [List.length_replicate] at h
  have e : madeCells #[.int .i64 0] n = ((List.replicate n (0 : Int)).map (Value.int .i64)).toArray := by
    apply Array.toList_inj.1
    rw [toList_madeCells_one]; simp
  rw [e]
  exact h
/-- A store. -/
theorem OwnI.set {g off : Nat} (h : OwnI B w (.slice (some ⟨g, off, none⟩) n c) xs) (j : Nat) (x : Int) : OwnI B (w.setCell ⟨g, off + j, none⟩ (.int .i64 x)) (.slice (some ⟨g, off, none⟩) n c) (xs.set j x) := by
  have hl := h.len
  obtain ⟨css, h1, h2, h3⟩ := h
  refine ⟨css.set j [.int .i64 x], by rw [List.length_set, List.length_set, h1], ?_, fun i y cs hy hc => ?_⟩
  · have h2' := h2
    rw [hl] at h2'
    have := h2'.set j (.int .i64 x)
    rw [List.length_set, hl]
    have e : (css.set j [.int .i64 x]).flatten = css.flatten.set j (.int .i64 x) := by
      have hcs : ∀ cs ∈ css, cs.length = 1 := OwnL.lens h1 h3
      clear h1 h2 h2' h3 this
      induction css generalizing j with
      | nil => rfl
      | cons cs css ih =>
        have h0 := hcs cs (List.mem_cons_self ..)
        obtain ⟨c0, rfl⟩ := List.length_eq_one_iff.1 h0
        cases j with
        | zero => rfl
        | succ j =>
          rw [List.set_cons_succ, List.flatten_cons, List.flatten_cons, ih j (fun c hc => hcs c (List.mem_cons_of_mem _ hc))]
          rfl
    rw [e]
    exact this
  · rw [List.getElem?_set] at hy hc
    by_cases e : j = i
    · subst e
      rw [if_pos rfl] at hy hc
      split at hy
      · split at hc
        · cases hy; cases hc; rfl
        · cases hc
      · cases hy
    · rw [if_neg e] at hy hc
      exact h3 i y cs hy hc
end

/-- append(s, y), s the call's own. -/
theorem wpList_app1I (w : World) {ops : Array Oper} {rest : List Oper} {o : Oper} {a : Act} {Q : Exit → Act → World → Prop} (hgd : o.guard = none) (s x : Operand)
    (ho : o.op = .call { callee := .builtin .append, args := #[s, x], argTypes := #[23, 23] })
    (B : Nat) (v : Value) (xs : List Int) (hs : a.eval s = v) (w0 : World) (y : Int) (hw : w = w0.alloc (.cells #[.int .i64 y] 3)) (hown : OwnI B w0 v xs) (hx : a.eval x = .slice (some ⟨w0.heap.size, 0, none⟩) 1 1)
    (h : ∀ v' w', OwnI B w' v' (xs ++ [y]) → w.grownBy w' v.ownBlock → Below B w w' → (∀ b, v'.ownBlock = some b → v.ownBlock = some b ∨ w0.heap.size < b) → wpList Tryd.prog ops Q rest (a.put o.dst v') w')
    (hn : xs.length + 1 ≤ 4294967296) (hbase : B ≤ w0.heap.size) : wpList Tryd.prog ops Q (o :: rest) a w := by
  subst hw
  have hsz : (w0.alloc (.cells #[.int .i64 y] 3)).heap.size = w0.heap.size + 1 := World.size_alloc _ _
  refine wpList_appL _ Sh.int hgd s x 23 ho B 0 3 _ 8 Tryd.underlying23 Tryd.infoInt rfl v xs hs (hown.alloc _) _ 1 1 [y] hx (Sl.one (S := Sh.int) (cs := [.int .i64 y]) rfl ⟨Nat.zero_le _, fun e => by have := (hown.lt _ e).2; omega⟩) (fun v' w' hp => h v' w' hp.own hp.grown ?_ ?_) hn (by decide) (by omega)
  · exact hp.below (OwnI.alloc hown _) (Below.refl _ _) (Nat.le_refl _) (by omega)
  · intro b hb
    rcases hp.blk' hb with h | h
    · exact .inl h
    · exact .inr (by omega)
/-- append(s, y0, y1, ..), s the call's own: the new ones lie in a block of their own. -/
theorem wpList_appVI (w : World) {ops : Array Oper} {rest : List Oper} {o : Oper} {a : Act} {Q : Exit → Act → World → Prop} (hgd : o.guard = none) (s x : Operand)
    (ho : o.op = .call { callee := .builtin .append, args := #[s, x], argTypes := #[23, 23] })
    (B : Nat) (v : Value) (xs : List Int) (hs : a.eval s = v) (w0 : World) (ys : List Int) (cells : Array Value) (b m : Nat) (hw : w = w0.alloc (.cells cells 3)) (hcells : cells = (ys.map (Value.int .i64)).toArray) (hown : OwnI B w0 v xs) (hx : a.eval x = .slice (some ⟨b, 0, none⟩) m m)
    (h : ∀ v' w', OwnI B w' v' (xs ++ ys) → w.grownBy w' v.ownBlock → Below B w w' → (∀ b, v'.ownBlock = some b → v.ownBlock = some b ∨ w0.heap.size < b) → wpList Tryd.prog ops Q rest (a.put o.dst v') w')
    (hb : b = w0.heap.size) (hm : m = ys.length) (hn : xs.length + m ≤ 4294967296) (hbase : B ≤ w0.heap.size) : wpList Tryd.prog ops Q (o :: rest) a w := by
  subst hw hcells hb hm
  have hsz : (w0.alloc (.cells (ys.map (Value.int .i64)).toArray 3)).heap.size = w0.heap.size + 1 := World.size_alloc _ _
  have hsrc : Sl Sh.int (fun b => 0 ≤ b ∧ v.ownBlock ≠ some b) (w0.alloc (.cells (ys.map (Value.int .i64)).toArray 3)) (.slice (some ⟨w0.heap.size, 0, none⟩) ys.length ys.length) ys :=
    ((OwnI.made (B := w0.heap.size) w0 ys (Nat.le_refl _) (by omega)).sl (by omega)).mono fun b hb _ => ⟨Nat.zero_le _, fun e => by have h1 := (hown.lt _ e).2; have h2 := Option.some.inj hb; simp at h2; omega⟩
  refine wpList_appL _ Sh.int hgd s x 23 ho B 0 3 _ 8 Tryd.underlying23 Tryd.infoInt rfl v xs hs (hown.alloc _) _ _ _ ys hx hsrc (fun v' w' hp => h v' w' hp.own hp.grown ?_ ?_) hn (by decide) (by omega)
  · exact hp.below (OwnI.alloc hown _) (Below.refl _ _) (Nat.le_refl _) (by omega)
  · intro b hb
    rcases hp.blk' hb with h | h
    · exact .inl h
    · exact .inr (by omega)
/-- append(s, ys...), s the call's own, ys read elsewhere. -/
theorem wpList_appSI (w : World) {ops : Array Oper} {rest : List Oper} {o : Oper} {a : Act} {Q : Exit → Act → World → Prop} (hgd : o.guard = none) (s x : Operand)
    (ho : o.op = .call { callee := .builtin .append, args := #[s, x], argTypes := #[23, 23] })
    (B : Nat) (v : Value) (xs : List Int) (hs : a.eval s = v) (hown : OwnI B w v xs) (b : Option Addr) (m c : Nat) (ys : List Int) (P : Nat → Prop) (hx : a.eval x = .slice b m c) (hy : Sl Sh.int P w (.slice b m c) ys) (hP : ∀ b, P b → b < w.heap.size → v.ownBlock ≠ some b)
    (h : ∀ v' w', OwnI B w' v' (xs ++ ys) → w.grownBy w' v.ownBlock → Below B w w' → (∀ b, v'.ownBlock = some b → v.ownBlock = some b ∨ w.heap.size ≤ b) → wpList Tryd.prog ops Q rest (a.put o.dst v') w')
    (hn : xs.length + m ≤ 4294967296) (hbase : B ≤ w.heap.size) : wpList Tryd.prog ops Q (o :: rest) a w :=
  wpList_appL _ Sh.int hgd s x 23 ho B 0 3 _ 8 Tryd.underlying23 Tryd.infoInt rfl v xs hs hown _ m c ys hx (hy.mono fun b hb hl => ⟨Nat.zero_le _, hP b hb hl⟩)
    (fun v' w' hp => h v' w' hp.own hp.grown (hp.below hown (Below.refl _ _) (Nat.le_refl _) hbase) (fun _ hb => hp.blk' hb)) hn (by decide) hbase
/-- The same, as a step of a region that draws its order. -/
theorem step_appSI {w : World} {ops : Array Oper} {o : Oper} {a : Act} {K : Act → World → Prop} {Q : Exit → Act → World → Prop} {E : Prop} (hgd : o.guard = none) (s x : Operand)
    (ho : o.op = .call { callee := .builtin .append, args := #[s, x], argTypes := #[23, 23] })
    (B : Nat) (v : Value) (xs : List Int) (hs : a.eval s = v) (hown : OwnI B w v xs) (b : Option Addr) (m c : Nat) (ys : List Int) (P : Nat → Prop) (hx : a.eval x = .slice b m c) (hy : Sl Sh.int P w (.slice b m c) ys) (_ : ∀ b, P b → b < w.heap.size → v.ownBlock ≠ some b)
    (hn : xs.length + m ≤ 4294967296) (hbase : B ≤ w.heap.size)
    (h : ∀ v' w', OwnI B w' v' (xs ++ ys) → w.grownBy w' v.ownBlock → Below B w w' → (∀ b, v'.ownBlock = some b → v.ownBlock = some b ∨ w.heap.size ≤ b) → K (a.put o.dst v') w') :
    if Region.wanted o (yielded ops a.tmps) = true then Oper.wp Tryd.prog o a w K Q else E := by
  have hw : Region.wanted o (yielded ops a.tmps) = true := by simp [Region.wanted, hgd]
  rw [if_pos hw]
  obtain ⟨i, hi, hz0, hz1, hz2⟩ := info_parts Tryd.infoInt
  obtain ⟨css, c1, c2, c3⟩ := hown
  have hown : OwnI B w v xs := ⟨css, c1, c2, c3⟩
  have hcl := OwnL.lens c1 c3
  have hlen := hy.len
  cases b with
  | none =>
    have hm : c = 0 := by
      obtain ⟨a', cap', e, _, _, h3, _⟩ := hy
      simp only [Value.slice.injEq] at e
      obtain ⟨rfl, _, rfl⟩ := e
      exact h3 rfl
    have hm0 : m = 0 := by have := hy.le.1; omega
    subst hm hm0
    have hys : ys = [] := List.eq_nil_of_length_eq_zero hlen
    subst hys
    have hr := run_appO_none (P := Tryd.prog) w B 23 o.type 3 i Sh.int.sz Tryd.underlying23 hi v _ _ c2
    unfold Oper.wp
    simp [execOp, ho, resolve, invoke, builtin, hs, hx, hr, Result.andThen]
    exact h v w (by rw [List.append_nil]; exact hown) (World.grownBy.refl _ _) (Below.refl _ _) (fun b hb => .inl hb)
  | some ad =>
    obtain ⟨dss, d1, d2, d3⟩ := hy.flat
    have hdl := OwnL.lens d1 d2
    obtain ⟨v', w', hr, hp⟩ := run_appO (P := Tryd.prog) w B 23 o.type 3 i (.int .i64 0) Sh.int.sz 8 Tryd.underlying23 hi hz0 hz1 hz2 rfl Sh.int.pos v xs.length css.flatten c2 ad m c dss.flatten (by rw [flatten_len _ hdl, d1, hlen]) d3
      (fun u hu => by
        obtain ⟨cs, hcs, hu⟩ := List.mem_flatten.1 hu
        obtain ⟨k, hk⟩ := List.mem_iff_getElem?.1 hcs
        have hkl : k < dss.length := (List.getElem?_eq_some_iff.1 hk).1
        exact Sh.int.one (d2 k ys[k] cs (List.getElem?_eq_getElem (by omega)) hk) u hu)
      (by unfold maxLen; omega) (by omega) hbase
    unfold Oper.wp
    simp [execOp, ho, resolve, invoke, builtin, hs, hx, hr, Result.andThen]
    refine h v' w' ⟨css ++ dss, by rw [List.length_append, List.length_append, c1, d1], ?_, fun i x cs hi hcs => ?_⟩ hp.grown ((Below.refl _ _).grown hp.grown hbase (fun k hk => (hown.lt k hk).1)) (fun b hb => ?_)
    · rw [List.flatten_append, List.length_append, hlen]; exact hp.own
    · rw [List.getElem?_append] at hi hcs
      by_cases hlt : i < xs.length
      · rw [if_pos hlt] at hi
        rw [if_pos (by omega)] at hcs
        exact c3 i x cs hi hcs
      · rw [if_neg hlt] at hi
        rw [if_neg (by omega), c1] at hcs
        exact d2 _ x cs hi hcs
    · rcases hp.blk with h | ⟨k, hk, hle⟩
      · exact .inl (h ▸ hb)
      · rw [hk] at hb; cases hb; exact .inr hle
end Go.Proofs.YtkhlaphegnldeaaDoor
