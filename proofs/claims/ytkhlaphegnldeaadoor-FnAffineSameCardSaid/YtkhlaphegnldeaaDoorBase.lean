/- Definitions and small lemmas on how slices of ints lie in memory; no condition. -/
import Derived.Test.YtkhlaphegnldeaaDoorProg
import Derived.WalkKit
import Derived.WalkSpells
import Derived.Deep.QuietTactic
import Derived.BigQuiet
namespace Go.Proofs.YtkhlaphegnldeaaDoor
set_option linter.unusedVariables false
set_option linter.unusedSimpArgs false
open Go.RowKit

theorem hid {p : Prop} (h : p) : Hid p := h
theorem ret_bool {a b : Bool} (h : a = b) : Ending.returned (.bool a) = .returned (.bool b) := by rw [h]
theorem ret_int {a b : Int} (h : a = b) : Ending.returned (.int .i64 a) = .returned (.int .i64 b) := by rw [h]
theorem int_i64 {a b : Int} (h : a = b) : Value.int .i64 a = .int .i64 b := by rw [h]
theorem belowN {B n : Nat} {a w : World} (h : Below B a w) : Below B a (w.drewN n) := ⟨h.os, h.tape, h.output, h.size, h.block⟩

/-- The world w behind some draws. -/
def Quiet (w w' : World) : Prop := ∃ m, w' = w.drewN m
theorem Quiet.refl (w : World) : Quiet w w := ⟨0, rfl⟩
theorem Quiet.drewN {w w' : World} {n : Nat} (h : Quiet w w') : Quiet w (w'.drewN n) := by
  obtain ⟨m, rfl⟩ := h
  exact ⟨m + n, World.drewN_drewN _ _ _⟩
theorem Quiet.trans {w w' w'' : World} (h : Quiet w w') (h' : Quiet w' w'') : Quiet w w'' := by
  obtain ⟨m, rfl⟩ := h'
  exact h.drewN
theorem Quiet.below {w w' : World} (h : Quiet w w') (B : Nat) : Below B w w' := by
  obtain ⟨m, rfl⟩ := h
  exact belowN (Below.refl _ _)
theorem Quiet.cell {w w' : World} (h : Quiet w w') (p : Addr) : w'.cell? p = w.cell? p := by
  obtain ⟨m, rfl⟩ := h
  rfl
theorem Quiet.heap {w w' : World} (h : Quiet w w') : w'.heap = w.heap := by
  obtain ⟨m, rfl⟩ := h
  rfl
theorem Calls.of_same {P : Program} {f : FuncId} {args : Array Value} {w : World} {n : Nat} {v : Value}
    (h : Calls P f args (w.drewN n) fun e w' => e = .returned v ∧ w.drewN n = w') : Calls P f args (w.drewN n) fun e w'' => e = .returned v ∧ ∃ m, w'' = w.drewN m :=
  Calls.quiet_of_same (h.mono fun _ _ h => ⟨h.1, h.2.symm⟩)

/-- A slice value (its array, its length, its capacity) that reads as the list xs. -/
def IntsA (w : World) (a : Option Addr) (n cap : Nat) (xs : List Int) : Prop :=
  xs.length = n ∧ n ≤ cap ∧ n ≤ 17592186044416 ∧ ∀ i, i < n → ∃ b off, a = some ⟨b, off, none⟩ ∧ w.cell? ⟨b, off + i, none⟩ = some (.int .i64 (xs.getD i 0))

theorem IntsA.len {w : World} {a : Option Addr} {n cap : Nat} {xs : List Int} (h : IntsA w a n cap xs) : xs.length = n := h.1
theorem IntsA.le {w : World} {a : Option Addr} {n cap : Nat} {xs : List Int} (h : IntsA w a n cap xs) : n ≤ 17592186044416 := h.2.2.1
theorem IntsA.at {w : World} {a : Option Addr} {n cap : Nat} {xs : List Int} (h : IntsA w a n cap xs) (hn : 0 < n) :
    ∃ b off, a = some ⟨b, off, none⟩ ∧ b < w.heap.size ∧ ∀ i, i < n → w.cell? ⟨b, off + i, none⟩ = some (.int .i64 (xs.getD i 0)) := by
  obtain ⟨_, _, _, h4⟩ := h
  obtain ⟨b, off, rfl, h0⟩ := h4 0 hn
  refine ⟨b, off, rfl, World.block_lt_of_cell? _ _ h0, fun i hi => ?_⟩
  obtain ⟨b', off', e, h⟩ := h4 i hi
  cases e
  exact h
theorem IntsA.below {w w' : World} {a : Option Addr} {n cap : Nat} {xs : List Int} (h : IntsA w a n cap xs) (hb : Below w.heap.size w w') : IntsA w' a n cap xs := by
  refine ⟨h.1, h.2.1, h.2.2.1, fun i hi => ?_⟩
  obtain ⟨b, off, e, hc⟩ := h.2.2.2 i hi
  exact ⟨b, off, e, (hb.cell (p := ⟨b, off + i, none⟩) (World.block_lt_of_cell? _ _ hc)).trans hc⟩
theorem IntsA.drewN {w : World} {a : Option Addr} {n cap m : Nat} {xs : List Int} (h : IntsA w a n cap xs) : IntsA (w.drewN m) a n cap xs := h
theorem IntsA.quiet {w w' : World} {a : Option Addr} {n cap : Nat} {xs : List Int} (h : IntsA w a n cap xs) (hq : Quiet w w') : IntsA w' a n cap xs := by
  obtain ⟨m, rfl⟩ := hq
  exact h
/-- A slice expression [:k]. -/
theorem IntsA.take {w : World} {a : Option Addr} {n cap : Nat} {xs : List Int} (h : IntsA w a n cap xs) (k : Nat) (hk : k ≤ n) : IntsA w a k cap (xs.take k) := by
  refine ⟨by rw [List.length_take, h.1]; omega, Nat.le_trans hk h.2.1, Nat.le_trans hk h.2.2.1, fun i hi => ?_⟩
  obtain ⟨b, off, e, hc⟩ := h.2.2.2 i (by omega)
  refine ⟨b, off, e, ?_⟩
  rw [hc, List.getD, List.getD, List.getElem?_take, if_pos hi]
theorem IntsA.nil (w : World) : IntsA w none 0 0 [] := ⟨rfl, Nat.le_refl _, by omega, fun i hi => absurd hi (by omega)⟩

theorem Tryd.infoInt : (Tryd.prog.info? 3).map (fun i => (i.zero, i.size, i.bytes)) = some (some (.int .i64 0), 1, 8) := by kernel_rfl

/-- A row of ints of the call's own: block g holds the ints xs (and spare cells to its capacity), nothing of it is frozen. -/
def OwnInts (w : World) (g cap : Nat) (xs : List Int) : Prop := xs.length ≤ cap ∧ cap ≤ 17592186044416 ∧ ∃ cur : Array Value, w.heap[g]? = some (.cells cur 3 (0,0)) ∧ cur.size = cap ∧ cur.toList.take xs.length = xs.map (Value.int .i64)

theorem OwnInts.row {w : World} {g cap : Nat} {xs : List Int} (h : OwnInts w g cap xs) : w.ownsRow g 3 1 (.slice (some ⟨g, 0, none⟩) xs.length cap) xs.length (xs.map (Value.int .i64)) := by
  obtain ⟨h1, h2, cur, h3, h4, h5⟩ := h
  exact ⟨by simp, .inr ⟨g, cap, cur, rfl, Nat.le_refl _, h3, h1, by unfold maxLen; omega, by omega, by simpa using h5⟩⟩
theorem OwnInts.cell {w : World} {g cap : Nat} {xs : List Int} (h : OwnInts w g cap xs) (j : Nat) (hj : j < xs.length) : w.cell? ⟨g, j, none⟩ = some (.int .i64 (xs.getD j 0)) := by
  rw [h.row.cellAt j (by omega), List.getElem?_map, List.getD, List.getElem?_eq_getElem hj]; rfl
theorem OwnInts.frozen {w : World} {g cap : Nat} {xs : List Int} (h : OwnInts w g cap xs) (j : Nat) : w.frozen? ⟨g, j, none⟩ = false := h.row.frozenAt j
theorem OwnInts.set {w : World} {g cap : Nat} {xs : List Int} (h : OwnInts w g cap xs) (j : Nat) (x : Int) : OwnInts (w.setCell ⟨g, j, none⟩ (.int .i64 x)) g cap (xs.set j x) := by
  obtain ⟨h1, h2, cur, h3, h4, h5⟩ := h
  refine ⟨by simpa using h1, h2, cur.setIfInBounds j (.int .i64 x), heap_setCell_same w g j cur 3 _ h3, by simpa using h4, ?_⟩
  rw [Array.toList_setIfInBounds, List.length_set, List.take_set, h5, List.map_set]
theorem OwnInts.new (w : World) (n : Nat) (h : n ≤ 17592186044416) : OwnInts (w.alloc (.cells (madeCells #[.int .i64 0] n) 3)) w.heap.size n (List.replicate n 0) := by
  refine ⟨by rw [List.length_replicate]; exact Nat.le_refl _, h, _, heap_alloc_new w _, size_madeCells _ _, ?_⟩
  rw [toList_madeCells_one]; simp
theorem OwnInts.drewN {w : World} {g cap n : Nat} {xs : List Int} (h : OwnInts w g cap xs) : OwnInts (w.drewN n) g cap xs := h
theorem OwnInts.ints {w : World} {g cap n : Nat} {xs : List Int} (h : OwnInts w g cap xs) (hn : xs.length = n) : IntsA w (some ⟨g, 0, none⟩) n cap xs := by
  subst hn
  exact ⟨rfl, h.1, Nat.le_trans h.1 h.2.1, fun i hi => ⟨g, 0, rfl, by simpa using h.cell i hi⟩⟩
theorem OwnInts.below {B : Nat} {w w' : World} {g cap : Nat} {xs : List Int} (h : OwnInts w g cap xs) (hb : Below B w w') (hg : g < B) : OwnInts w' g cap xs := by
  obtain ⟨h1, h2, cur, h3, h4⟩ := h
  exact ⟨h1, h2, cur, by rw [hb.block g hg]; exact h3, h4⟩
theorem OwnInts.lt {w : World} {g cap : Nat} {xs : List Int} (h : OwnInts w g cap xs) : g < w.heap.size := by
  obtain ⟨_, _, cur, h3, _⟩ := h
  exact (Array.getElem?_eq_some_iff.1 h3).1

theorem run_make_ints (n : Nat) (h : n ≤ 17592186044416) (w : World) : (Instr.makeSlice 23 (.int .i64 (n : Int)) (.int .i64 (n : Int))).run Tryd.prog w = .ok (.slice (some ⟨w.heap.size, 0, none⟩) n n) (w.alloc (.cells (madeCells #[.int .i64 0] n) 3)) := by
  obtain ⟨i, hi, hz0, hz1, hz2⟩ := info_parts Tryd.infoInt
  have := run_make (P := Tryd.prog) w 23 3 i _ Tryd.underlying23 hi hz0 .i64 .i64 n n (by omega) (by omega) (by rw [hz2]; omega) (by omega)
  simpa [hz1, Value.cells] using this

/-! ### What the call owns, and grows by append. -/
theorem ownsRow_base {w : World} {B B' : Nat} {e : TypeId} {size : Nat} {v : Value} {n : Nat} {xs : List Value} (h : w.ownsRow B e size v n xs) (hB : B' ≤ B) : w.ownsRow B' e size v n xs := by
  refine ⟨h.1, ?_⟩
  rcases h.2 with h | ⟨g, cap, cur, hv, hg, r⟩
  · exact .inl h
  · exact .inr ⟨g, cap, cur, hv, Nat.le_trans hB hg, r⟩

/-- What is known behind an append: v' holds xs; only v's own block may have been written; v' lies in that block or in a new one. -/
structure AppPost (w w' : World) (B : Nat) (e : TypeId) (size : Nat) (v v' : Value) (n : Nat) (xs : List Value) : Prop where
  own : w'.ownsRow B e size v' n xs
  grown : w.grownBy w' v.ownBlock
  blk : v'.ownBlock = v.ownBlock ∨ ∃ k, v'.ownBlock = some k ∧ w.heap.size ≤ k

section
variable {P : Program} (w : World)
theorem run_app (B : Nat) (t ty e : TypeId) (i : TypeInfo) (z : Value) (size bytes : Nat) (ht : P.underlying t = some (.slice e)) (hi : P.info? e = some i) (hz : i.zero = some z)
    (hsize : i.size = size) (hby : i.bytes = bytes) (hzs : z.cells.size = size) (hsz : 0 < size)
    (v : Value) (n : Nat) (xs : List Value) (hown : w.ownsRow B e size v n xs)
    (a : Addr) (m c : Nat) (news : List Value) (hl : news.length = m * size) (hnews : ∀ j u, news[j]? = some u → w.cell? (a.add j) = some u) (h1 : ∀ u ∈ news, u.oneCell' = true)
    (h63 : n + m ≤ maxLen) (hbytes : (n + m) * bytes ≤ 140737488355328) (hbase : B ≤ w.heap.size) :
    ∃ v' w', (Builtin.append_ #[t, t] ty #[v, .slice (some a) m c]).run P w = .ok v' w' ∧ AppPost w w' B e size v v' (n + m) (xs ++ news) := by
  have hown0 := hown
  rcases hown.2 with ⟨rfl, rfl⟩ | ⟨g, cap, cur, rfl, hbg, hg, hnc, hcm, hcs, htake⟩
  · have hx : xs = [] := List.eq_nil_of_length_eq_zero (by simpa using hown.1)
    subst hx
    obtain ⟨v', w', hr, h2, h3, h4⟩ := run_append_own (P := P) w w.heap.size t ty e i z size bytes ht hi hz hsize hby hzs hsz _ 0 [] (World.ownsRow_nil w _ e size) a m c news hl hnews h1 h63 hbytes (Nat.le_refl _)
    refine ⟨v', w', hr, ownsRow_base h2 hbase, h3, ?_⟩
    cases hv : v'.ownBlock with
    | none => exact .inl rfl
    | some k => exact .inr ⟨k, rfl, (h2.lt k hv).1⟩
  · by_cases hroom : n + m ≤ cap
    · obtain ⟨w', hr, h2, h3⟩ := run_append_fits (P := P) w B t ty e i size ht hi hsize g n cap xs hown0 a m c news hl hnews h1 hroom
      exact ⟨_, w', hr, h2, h3, .inl rfl⟩
    · obtain ⟨v', w', hr, h2, h3⟩ := run_append_arg_grows (P := P) w t ty e i z size bytes ht hi hz hsize hby hzs hsz ⟨g, 0, none⟩ n cap xs hown0.1 (fun j u hu => hown0.cells rfl j u hu) a m c news hl hnews (by omega) h63 hbytes
      refine ⟨v', w', hr, ownsRow_base h2 hbase, ⟨h3.os, h3.tape, h3.output, h3.size, fun k hk _ => h3.block k hk (by simp)⟩, ?_⟩
      cases hv : v'.ownBlock with
      | none =>
        rcases h2.2 with ⟨_, hn⟩ | ⟨g', cap', cur', rfl, _⟩
        · omega
        · simp [Value.ownBlock] at hv
      | some k => exact .inr ⟨k, rfl, (h2.lt k hv).1⟩

theorem wpList_app {ops : Array Oper} {rest : List Oper} {o : Oper} {a : Act} {Q : Exit → Act → World → Prop} (hgd : o.guard = none) (s x : Operand) (t : TypeId)
    (ho : o.op = .call { callee := .builtin .append, args := #[s, x], argTypes := #[t, t] })
    (B : Nat) (e : TypeId) (i : TypeInfo) (z : Value) (size bytes : Nat) (ht : P.underlying t = some (.slice e)) (hi : P.info? e = some i) (hz : i.zero = some z)
    (hsize : i.size = size) (hby : i.bytes = bytes) (hzs : z.cells.size = size) (hsz : 0 < size)
    (v : Value) (n : Nat) (xs : List Value) (hs : a.eval s = v) (hown : w.ownsRow B e size v n xs)
    (ad : Addr) (m c : Nat) (news : List Value) (hx : a.eval x = .slice (some ad) m c) (hl : news.length = m * size) (hnews : ∀ j u, news[j]? = some u → w.cell? (ad.add j) = some u) (h1 : ∀ u ∈ news, u.oneCell' = true)
    (h63 : n + m ≤ maxLen) (hbytes : (n + m) * bytes ≤ 140737488355328) (hbase : B ≤ w.heap.size)
    (h : ∀ v' w', AppPost w w' B e size v v' (n + m) (xs ++ news) → wpList P ops Q rest (a.put o.dst v') w') : wpList P ops Q (o :: rest) a w := by
  refine wpList_plain hgd fun K hK => ?_
  obtain ⟨v', w', hr, h2⟩ := run_app (P := P) w B t o.type e i z size bytes ht hi hz hsize hby hzs hsz v n xs hown ad m c news hl hnews h1 h63 hbytes hbase
  unfold Oper.wp execOp
  simp only [ho, resolve, invoke, builtin, Sem.run_bind, Sem.run_pure, Result.andThen_ok, List.map_toArray, List.map_cons, List.map_nil, hs, hx, hr]
  exact hK _ _ (h v' w' h2)

/-- A nil source: nothing happens. -/
theorem wpList_app_nil {ops : Array Oper} {rest : List Oper} {o : Oper} {a : Act} {Q : Exit → Act → World → Prop} (hgd : o.guard = none) (s x : Operand) (t : TypeId)
    (ho : o.op = .call { callee := .builtin .append, args := #[s, x], argTypes := #[t, t] })
    (B : Nat) (e : TypeId) (i : TypeInfo) (size : Nat) (ht : P.underlying t = some (.slice e)) (hi : P.info? e = some i)
    (v : Value) (n : Nat) (xs : List Value) (hs : a.eval s = v) (hown : w.ownsRow B e size v n xs) (hx : a.eval x = .slice none 0 0)
    (h : wpList P ops Q rest (a.put o.dst v) w) : wpList P ops Q (o :: rest) a w := by
  refine wpList_plain hgd fun K hK => ?_
  have hr := run_append_owned_none (P := P) w B t o.type e i size ht hi v n xs hown
  unfold Oper.wp execOp
  simp only [ho, resolve, invoke, builtin, Sem.run_bind, Sem.run_pure, Result.andThen_ok, List.map_toArray, List.map_cons, List.map_nil, hs, hx, hr]
  exact hK _ _ h
end

/-- A slice of ints of the call's own (nil, or a row in a block from B on) that holds xs. -/
def OwnS (w : World) (B : Nat) (v : Value) (xs : List Int) : Prop := w.ownsRow B 3 1 v xs.length (xs.map (Value.int .i64))
/-- Two own slices do not share their array. -/
def Dis (u v : Value) : Prop := ∀ k, u.ownBlock = some k → v.ownBlock ≠ some k
theorem OwnS.nil (w : World) (B : Nat) : OwnS w B (.slice none 0 0) [] := World.ownsRow_nil w B _ 1
theorem OwnS.form {w : World} {B : Nat} {v : Value} {xs : List Int} (h : OwnS w B v xs) (hn : xs.length ≤ 17592186044416) : ∃ a cap, v = .slice a xs.length cap ∧ IntsA w a xs.length cap xs ∧ (a = none ∨ ∃ g, a = some ⟨g, 0, none⟩ ∧ B ≤ g ∧ g < w.heap.size) := by
  have h0 := h
  rcases h.2 with ⟨rfl, hl⟩ | ⟨g, cap, cur, rfl, hB, hg, hnc, hm, hsz, ht⟩
  · have hx : xs = [] := List.eq_nil_of_length_eq_zero hl
    subst hx
    exact ⟨none, 0, rfl, IntsA.nil w, .inl rfl⟩
  · refine ⟨_, cap, rfl, ⟨rfl, hnc, hn, fun i hi => ⟨g, 0, rfl, ?_⟩⟩, .inr ⟨g, rfl, hB, (Array.getElem?_eq_some_iff.1 hg).1⟩⟩
    rw [Nat.zero_add, World.ownsRow.cellAt h0 i (by omega), List.getElem?_map, List.getD, List.getElem?_eq_getElem hi]; rfl
theorem OwnS.lt {w : World} {B : Nat} {v : Value} {xs : List Int} (h : OwnS w B v xs) : ∀ k, v.ownBlock = some k → B ≤ k ∧ k < w.heap.size := World.ownsRow.lt h
theorem OwnS.kept {w w' : World} {B : Nat} {v u : Value} {xs : List Int} (h : OwnS w B v xs) (hg : w.grownBy w' u.ownBlock) (hd : Dis v u) : OwnS w' B v xs := by
  refine World.ownsRow.kept h hg ?_
  cases hv : v.ownBlock with
  | none => exact .inl rfl
  | some k => exact .inr (fun e => hd k hv e.symm)
theorem OwnS.below {w w' : World} {B C : Nat} {v : Value} {xs : List Int} (h : OwnS w B v xs) (hb : Below C w w') (hl : ∀ k, v.ownBlock = some k → k < C) : OwnS w' B v xs := by
  refine ⟨h.1, ?_⟩
  rcases h.2 with h | ⟨g, cap, cur, rfl, hg, hh, r⟩
  · exact .inl h
  · exact .inr ⟨g, cap, cur, rfl, hg, by rw [hb.block g (hl g rfl)]; exact hh, r⟩
theorem OwnS.alloc {w : World} {B : Nat} {v : Value} {xs : List Int} (h : OwnS w B v xs) (o : Obj) : OwnS (w.alloc o) B v xs := World.ownsRow.alloc h o
theorem OwnS.drewN {w : World} {B n : Nat} {v : Value} {xs : List Int} (h : OwnS w B v xs) : OwnS (w.drewN n) B v xs := h
theorem OwnInts.own {w : World} {g cap B : Nat} {xs : List Int} (h : OwnInts w g cap xs) (hB : B ≤ g) : OwnS w B (.slice (some ⟨g, 0, none⟩) xs.length cap) xs := ownsRow_base h.row hB
theorem AppPost.below {w w' W : World} {B : Nat} {e : TypeId} {size : Nat} {v v' : Value} {n n' : Nat} {xs ys : List Value} (h : AppPost w w' B e size v v' n xs) (ho : w.ownsRow B e size v n' ys) {C : Nat} (hb : Below C W w) (hC : C ≤ B) (hs : C ≤ w.heap.size) : Below C W w' :=
  hb.grown h.grown hs (fun k hk => Nat.le_trans hC (ho.lt k hk).1)
/-- Behind an append to v, v' is apart from whatever v was apart from and was there. -/
theorem AppPost.dis {w w' : World} {B : Nat} {e : TypeId} {size : Nat} {v v' u : Value} {n : Nat} {xs : List Value} (h : AppPost w w' B e size v v' n xs) (hd : Dis u v) (hu : ∀ k, u.ownBlock = some k → k < w.heap.size) : Dis u v' := by
  intro k hk e
  rcases h.blk with hb | ⟨g, hg, hle⟩
  · exact hd k hk (hb ▸ e)
  · rw [hg] at e
    cases e
    exact absurd (hu k hk) (by omega)
theorem Dis.symm {u v : Value} (h : Dis u v) : Dis v u := fun k hk e => h k e hk

/-- append(s, y): s the call's own. -/
theorem wpList_app1 (w : World) {ops : Array Oper} {rest : List Oper} {o : Oper} {a : Act} {Q : Exit → Act → World → Prop} (hgd : o.guard = none) (s x : Operand)
    (ho : o.op = .call { callee := .builtin .append, args := #[s, x], argTypes := #[23, 23] })
    (B : Nat) (v : Value) (xs : List Int) (hs : a.eval s = v) (hown : OwnS w B v xs) (g : Nat) (y : Int) (hx : a.eval x = .slice (some ⟨g, 0, none⟩) 1 1)
    (h : ∀ v' w', AppPost w w' B 3 1 v v' (xs ++ [y]).length ((xs ++ [y]).map (Value.int .i64)) → wpList Tryd.prog ops Q rest (a.put o.dst v') w') (hc : w.cell? ⟨g, 0, none⟩ = some (.int .i64 y))
    (hn : xs.length + 1 ≤ 17592186044416) (hbase : B ≤ w.heap.size) : wpList Tryd.prog ops Q (o :: rest) a w := by
  obtain ⟨i, hi, hz0, hz1, hz2⟩ := info_parts Tryd.infoInt
  refine wpList_app w hgd s x 23 ho B 3 i _ 1 8 Tryd.underlying23 hi hz0 hz1 hz2 rfl (by decide) v xs.length _ hs hown ⟨g, 0, none⟩ 1 1 [.int .i64 y] hx rfl (fun j u hu => ?_) (fun u hu => ?_) (by unfold maxLen; omega) (by omega) hbase (fun v' w' hp => h v' w' (by simpa using hp))
  · cases j with
    | zero => simp only [List.getElem?_cons_zero, Option.some.injEq] at hu; subst hu; exact hc
    | succ j => simp at hu
  · simp only [List.mem_singleton] at hu; subst hu; rfl

/-- append(s, ys...): s the call's own, ys whatever reads as a list. -/
theorem wpList_apps (w : World) {ops : Array Oper} {rest : List Oper} {o : Oper} {a : Act} {Q : Exit → Act → World → Prop} (hgd : o.guard = none) (s x : Operand)
    (ho : o.op = .call { callee := .builtin .append, args := #[s, x], argTypes := #[23, 23] })
    (B : Nat) (v : Value) (xs : List Int) (hs : a.eval s = v) (hown : OwnS w B v xs) (b : Option Addr) (m c : Nat) (ys : List Int) (hx : a.eval x = .slice b m c) (hy : IntsA w b m c ys) (hnil : b = none → c = 0)
    (hspot : ∀ p, b = some p → p.spot = none)
    (h : ∀ v' w', AppPost w w' B 3 1 v v' (xs ++ ys).length ((xs ++ ys).map (Value.int .i64)) → wpList Tryd.prog ops Q rest (a.put o.dst v') w')
    (hn : xs.length + m ≤ 17592186044416) (hbase : B ≤ w.heap.size) : wpList Tryd.prog ops Q (o :: rest) a w := by
  obtain ⟨i, hi, hz0, hz1, hz2⟩ := info_parts Tryd.infoInt
  cases b with
  | none =>
    have hm : m = 0 := by
      cases m with
      | zero => rfl
      | succ k => obtain ⟨_, _, e, _⟩ := hy.2.2.2 0 (by omega); cases e
    subst hm
    have hc0 := hnil rfl
    subst hc0
    have hy0 : ys = [] := List.eq_nil_of_length_eq_zero hy.1
    subst hy0
    refine wpList_app_nil w hgd s x 23 ho B 3 i 1 Tryd.underlying23 hi v xs.length _ hs hown hx (h v w ⟨by simp only [List.append_nil]; exact hown, World.grownBy.refl _ _, .inl rfl⟩)
  | some p =>
    have hp := hspot p rfl
    obtain ⟨pb, po, ps⟩ := p
    simp only at hp
    subst hp
    refine wpList_app w hgd s x 23 ho B 3 i _ 1 8 Tryd.underlying23 hi hz0 hz1 hz2 rfl (by decide) v xs.length _ hs hown ⟨pb, po, none⟩ m c (ys.map (Value.int .i64)) hx (by rw [List.length_map, hy.1]; omega) (fun j u hu => ?_) (fun u hu => ?_) (by unfold maxLen; omega) (by omega) hbase (fun v' w' hp => h v' w' ?_)
    · rw [List.getElem?_map] at hu
      obtain ⟨z, hz, rfl⟩ := Option.map_eq_some_iff.1 hu
      have hj : j < ys.length := (List.getElem?_eq_some_iff.1 hz).1
      obtain ⟨b', off', e, hcell⟩ := hy.2.2.2 j (by rw [← hy.1]; exact hj)
      cases e
      have hadd : (⟨pb, po, none⟩ : Addr).add j = ⟨pb, po + j, none⟩ := by unfold Addr.add; split <;> simp_all
      rw [hadd, hcell, List.getD, hz]; rfl
    · obtain ⟨z, _, rfl⟩ := List.mem_map.1 hu
      rfl
    · rw [List.length_append, hy.1, List.map_append]
      exact hp
end Go.Proofs.YtkhlaphegnldeaaDoor
