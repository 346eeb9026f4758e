/- How data lie in memory: shapes, slices that read as lists, slices of the call's own that grow; no condition. -/
import Derived.Test.YtkhlaphegnldeaaDoorBase
import Derived.Laws.IdiomCopy
import Derived.ArgAppend
namespace Go.Proofs.YtkhlaphegnldeaaDoor
set_option linter.unusedVariables false
set_option linter.unusedSimpArgs false
open Go.RowKit

/-- The blocks of P that are there hold in w' what they hold in w. -/
def Same (P : Nat → Prop) (w w' : World) : Prop := ∀ b, P b → b < w.heap.size → w'.heap[b]? = w.heap[b]?
theorem Same.refl (P : Nat → Prop) (w : World) : Same P w w := fun _ _ _ => rfl
theorem below_sameAll {w w' : World} (h : Below w.heap.size w w') (P : Nat → Prop) : Same P w w' := fun b _ hb => h.block b hb
theorem Quiet.sameAll {w w' : World} (h : Quiet w w') (P : Nat → Prop) : Same P w w' := fun b _ _ => by rw [h.heap]
theorem grown_same {w w' : World} {r : Option Nat} (h : w.grownBy w' r) {P : Nat → Prop} (hP : ∀ b, P b → r ≠ some b) : Same P w w' := fun b hb hl => h.block b hl (fun e => hP b hb e.symm)
theorem below_sameLt {B : Nat} {w w' : World} (h : Below B w w') {P : Nat → Prop} (hP : ∀ b, P b → b < B) : Same P w w' := fun b hb _ => h.block b (hP b hb)
theorem Same.cell {P : Nat → Prop} {w w' : World} (h : Same P w w') {b o : Nat} {v : Value} (hb : P b) (hc : w.cell? ⟨b, o, none⟩ = some v) : w'.cell? ⟨b, o, none⟩ = some v :=
  (World.cell?_of_block (a := ⟨b, o, none⟩) (h b hb (World.block_lt_of_cell? _ _ hc))).trans hc

/-- How a datum of α lies in sz cells; P: the blocks that may be read behind these cells. -/
structure Sh (α : Type) where
  sz : Nat
  pos : 0 < sz
  rep : (Nat → Prop) → World → List Value → α → Prop
  len : ∀ {P w cs x}, rep P w cs x → cs.length = sz
  one : ∀ {P w cs x}, rep P w cs x → ∀ c ∈ cs, c.oneCell' = true
  frame : ∀ {P w w' cs x}, Same P w w' → rep P w cs x → rep P w' cs x
  mono : ∀ {P Q w cs x}, (∀ b, P b → b < w.heap.size → Q b) → rep P w cs x → rep Q w cs x

/-- The slice value v reads as the list xs. -/
def Sl {α : Type} (S : Sh α) (P : Nat → Prop) (w : World) (v : Value) (xs : List α) : Prop :=
  ∃ a cap, v = .slice a xs.length cap ∧ xs.length ≤ cap ∧ xs.length ≤ 17592186044416 ∧ (a = none → cap = 0) ∧
    ∀ (i : Nat) x, xs[i]? = some x → ∃ b off cs, a = some ⟨b, off, none⟩ ∧ P b ∧ S.rep P w cs x ∧ ∀ j c, cs[j]? = some c → w.cell? ⟨b, off + (i * S.sz + j), none⟩ = some c

section
variable {α : Type} {S : Sh α} {P Q : Nat → Prop} {w w' : World} {v : Value} {xs : List α} {x : α}
theorem Sl.frame (hs : Same P w w') (h : Sl S P w v xs) : Sl S P w' v xs := by
  obtain ⟨a, cap, rfl, h1, h2, h3, h4⟩ := h
  refine ⟨a, cap, rfl, h1, h2, h3, fun i x hx => ?_⟩
  obtain ⟨b, off, cs, ha, hb, hr, hc⟩ := h4 i x hx
  exact ⟨b, off, cs, ha, hb, S.frame hs hr, fun j c hj => hs.cell hb (hc j c hj)⟩
theorem cells_lt {b off : Nat} {cs : List Value} (hr : S.rep P w cs x) (hc : ∀ j c, cs[j]? = some c → w.cell? ⟨b, off + j, none⟩ = some c) : b < w.heap.size := by
  have hl := S.len hr
  have hp := S.pos
  exact World.block_lt_of_cell? _ _ (hc 0 cs[0] (List.getElem?_eq_getElem (by omega)))
theorem Sl.mono (hp : ∀ b, P b → b < w.heap.size → Q b) (h : Sl S P w v xs) : Sl S Q w v xs := by
  obtain ⟨a, cap, rfl, h1, h2, h3, h4⟩ := h
  refine ⟨a, cap, rfl, h1, h2, h3, fun i x hx => ?_⟩
  obtain ⟨b, off, cs, ha, hb, hr, hc⟩ := h4 i x hx
  exact ⟨b, off, cs, ha, hp b hb (cells_lt (off := off + i * S.sz) hr (fun j c hj => by rw [Nat.add_assoc]; exact hc j c hj)), S.mono hp hr, hc⟩
theorem Sl.lt (h : Sl S P w v xs) : Sl S (fun b => P b ∧ b < w.heap.size) w v xs := h.mono fun _ h1 h2 => ⟨h1, h2⟩
theorem Sl.below (h : Sl S P w v xs) (hb : Below w.heap.size w w') : Sl S P w' v xs := h.frame (below_sameAll hb P)
theorem Sl.alloc (h : Sl S P w v xs) (o : Obj) : Sl S P (w.alloc o) v xs := h.below ((Below.refl _ _).alloc (Nat.le_refl _) o)
theorem Sl.drewN {n : Nat} (h : Sl S P w v xs) : Sl S P (w.drewN n) v xs := h.below (belowN (Below.refl _ _))
theorem Sl.drew (h : Sl S P w v xs) : Sl S P w.drew v xs := h.below ((Below.refl _ _).drew)
theorem Sl.quiet (h : Sl S P w v xs) (hq : Quiet w w') : Sl S P w' v xs := h.below (hq.below _)
theorem Sl.grown {r : Option Nat} (h : Sl S P w v xs) (hg : w.grownBy w' r) (hP : ∀ b, P b → r ≠ some b) : Sl S P w' v xs := h.frame (grown_same hg hP)
theorem Sl.any (h : Sl S P w v xs) : Sl S (fun _ => True) w v xs := h.mono fun _ _ _ => trivial
theorem Sl.form (h : Sl S P w v xs) : ∃ a cap, v = .slice a xs.length cap ∧ xs.length ≤ cap ∧ xs.length ≤ 17592186044416 ∧ (a = none → cap = 0) := by
  obtain ⟨a, cap, rfl, h1, h2, h3, _⟩ := h
  exact ⟨a, cap, rfl, h1, h2, h3⟩
theorem Sl.len {a : Option Addr} {n cap : Nat} (h : Sl S P w (.slice a n cap) xs) : xs.length = n := by
  obtain ⟨a', cap', e, _⟩ := h
  simp only [Value.slice.injEq] at e
  exact e.2.1.symm
theorem Sl.le {a : Option Addr} {n cap : Nat} (h : Sl S P w (.slice a n cap) xs) : n ≤ cap ∧ n ≤ 17592186044416 := by
  obtain ⟨a', cap', e, h1, h2, _⟩ := h
  simp only [Value.slice.injEq] at e
  obtain ⟨_, rfl, rfl⟩ := e
  exact ⟨h1, h2⟩
theorem Sl.at {a : Option Addr} {n cap : Nat} (h : Sl S P w (.slice a n cap) xs) (hn : 0 < n) :
    ∃ b off, a = some ⟨b, off, none⟩ ∧ P b ∧ b < w.heap.size ∧ ∀ (i : Nat) x, xs[i]? = some x → ∃ cs, S.rep P w cs x ∧ ∀ j c, cs[j]? = some c → w.cell? ⟨b, off + (i * S.sz + j), none⟩ = some c := by
  have hl := h.len
  obtain ⟨a', cap', e, h1, h2, _, h4⟩ := h
  simp only [Value.slice.injEq] at e
  obtain ⟨rfl, rfl, rfl⟩ := e
  obtain ⟨b, off, cs, rfl, hb, hr0, hc0⟩ := h4 0 xs[0] (List.getElem?_eq_getElem hn)
  refine ⟨b, off, rfl, hb, cells_lt (off := off) hr0 (fun j c hj => by simpa using hc0 j c hj), fun i x hx => ?_⟩
  obtain ⟨b', off', cs, e, _, hr, hc⟩ := h4 i x hx
  cases e
  exact ⟨cs, hr, hc⟩
theorem Sl.nil (S : Sh α) (P : Nat → Prop) (w : World) : Sl S P w (.slice none 0 0) [] := ⟨none, 0, rfl, Nat.le_refl _, Nat.zero_le _, fun _ => rfl, fun i x h => by simp at h⟩
theorem Sl.empty (S : Sh α) (P : Nat → Prop) (w : World) (a : Addr) (c : Nat) : Sl S P w (.slice (some a) 0 c) [] := ⟨some a, c, rfl, Nat.zero_le _, Nat.zero_le _, (fun h => by cases h), fun i x h => by simp at h⟩
/-- A slice expression [:k]. -/
theorem Sl.take {a : Option Addr} {n cap : Nat} (h : Sl S P w (.slice a n cap) xs) (k : Nat) (hk : k ≤ n) : Sl S P w (.slice a k cap) (xs.take k) := by
  have hl := h.len
  obtain ⟨a', cap', e, h1, h2, h3, h4⟩ := h
  simp only [Value.slice.injEq] at e
  obtain ⟨rfl, rfl, rfl⟩ := e
  refine ⟨a, cap, by rw [List.length_take, Nat.min_eq_left hk], by rw [List.length_take]; omega, by rw [List.length_take]; omega, h3, fun i x hx => h4 i x ?_⟩
  rw [List.getElem?_take] at hx
  split at hx
  · exact hx
  · cases hx
/-- A slice expression [k:]. -/
theorem Sl.drop {b off n cap : Nat} (h : Sl S P w (.slice (some ⟨b, off, none⟩) n cap) xs) (k : Nat) (hk : k ≤ n) : Sl S P w (.slice (some ⟨b, off + k * S.sz, none⟩) (n - k) (cap - k)) (xs.drop k) := by
  have hl := h.len
  obtain ⟨a', cap', e, h1, h2, h3, h4⟩ := h
  simp only [Value.slice.injEq] at e
  obtain ⟨rfl, rfl, rfl⟩ := e
  refine ⟨_, _, by rw [List.length_drop], by rw [List.length_drop]; omega, by rw [List.length_drop]; omega, (fun h => by cases h), fun i x hx => ?_⟩
  rw [List.getElem?_drop] at hx
  obtain ⟨b', off', cs, e, hb, hr, hc⟩ := h4 _ _ hx
  cases e
  refine ⟨_, _, cs, rfl, hb, hr, fun j c hj => ?_⟩
  rw [show off + k * S.sz + (i * S.sz + j) = off + ((k + i) * S.sz + j) by rw [Nat.add_mul]; omega]
  exact hc j c hj
end

/-! ### Shapes -/
def Sh.int : Sh Int where
  sz := 1
  pos := by decide
  rep := fun _ _ cs x => cs = [.int .i64 x]
  len := fun h => by rw [h]; rfl
  one := fun h c hc => by rw [h, List.mem_singleton] at hc; rw [hc]; rfl
  frame := fun _ h => h
  mono := fun _ h => h
def Sh.bool : Sh Bool where
  sz := 1
  pos := by decide
  rep := fun _ _ cs x => cs = [.bool x]
  len := fun h => by rw [h]; rfl
  one := fun h c hc => by rw [h, List.mem_singleton] at hc; rw [hc]; rfl
  frame := fun _ h => h
  mono := fun _ h => h
def Sh.str : Sh ByteArray where
  sz := 1
  pos := by decide
  rep := fun _ _ cs x => cs = [.string x]
  len := fun h => by rw [h]; rfl
  one := fun h c hc => by rw [h, List.mem_singleton] at hc; rw [hc]; rfl
  frame := fun _ h => h
  mono := fun _ h => h
def Sh.byte : Sh Int where
  sz := 1
  pos := by decide
  rep := fun _ _ cs x => cs = [.int .u8 x]
  len := fun h => by rw [h]; rfl
  one := fun h c hc => by rw [h, List.mem_singleton] at hc; rw [hc]; rfl
  frame := fun _ h => h
  mono := fun _ h => h
def Sh.slice {α : Type} (S : Sh α) : Sh (List α) where
  sz := 1
  pos := by decide
  rep := fun P w cs xs => ∃ v, cs = [v] ∧ Sl S P w v xs
  len := fun ⟨_, h, _⟩ => by rw [h]; rfl
  one := fun ⟨v, h, hs⟩ c hc => by
    rw [h, List.mem_singleton] at hc
    obtain ⟨a, cap, e, _⟩ := hs
    rw [hc, e]; rfl
  frame := fun hs ⟨v, h, hl⟩ => ⟨v, h, hl.frame hs⟩
  mono := fun hp ⟨v, h, hl⟩ => ⟨v, h, hl.mono hp⟩
def Sh.pair {α β : Type} (S : Sh α) (T : Sh β) : Sh (α × β) where
  sz := S.sz + T.sz
  pos := Nat.lt_of_lt_of_le S.pos (Nat.le_add_right _ _)
  rep := fun P w cs x => ∃ c1 c2, cs = c1 ++ c2 ∧ S.rep P w c1 x.1 ∧ T.rep P w c2 x.2
  len := fun ⟨c1, c2, h, h1, h2⟩ => by rw [h, List.length_append, S.len h1, T.len h2]
  one := fun ⟨c1, c2, h, h1, h2⟩ c hc => by
    rw [h, List.mem_append] at hc
    exact hc.elim (S.one h1 c) (T.one h2 c)
  frame := fun hs ⟨c1, c2, h, h1, h2⟩ => ⟨c1, c2, h, S.frame hs h1, T.frame hs h2⟩
  mono := fun hp ⟨c1, c2, h, h1, h2⟩ => ⟨c1, c2, h, S.mono hp h1, T.mono hp h2⟩

/-! ### Slices of the call's own -/
theorem heap_setCells (b : Nat) (t : TypeId) : ∀ (vs : List Value) (o : Nat) (w : World) (cur : Array Value), w.heap[b]? = some (.cells cur t) → o + vs.length ≤ cur.size →
    ∃ cur', (w.setCells b o vs).heap[b]? = some (.cells cur' t) ∧ cur'.size = cur.size ∧ cur'.toList = cur.toList.take o ++ vs ++ cur.toList.drop (o + vs.length)
  | [], o, w, cur, h, _ => ⟨cur, h, rfl, by simp⟩
  | v :: r, o, w, cur, h, hl => by
    rw [List.length_cons] at hl
    obtain ⟨cur', h1, h2, h3⟩ := heap_setCells b t r (o + 1) (w.setCell ⟨b, o, none⟩ v) (cur.setIfInBounds o v) (heap_setCell_same w b o cur t v h) (by rw [Array.size_setIfInBounds]; omega)
    refine ⟨cur', h1, by rw [h2, Array.size_setIfInBounds], ?_⟩
    have hlen : o < cur.toList.length := by rw [Array.length_toList]; omega
    rw [h3, Array.toList_setIfInBounds, List.length_cons]
    rw [List.take_set, List.drop_set, if_pos (by omega), List.take_succ_eq_append_getElem hlen, List.set_append, if_neg (by rw [List.length_take]; omega)]
    rw [show o - (cur.toList.take o).length = 0 by rw [List.length_take]; omega, List.set_cons_zero, show o + 1 + r.length = o + (r.length + 1) by omega]
    simp
theorem heap_setCells_other (b : Nat) : ∀ (vs : List Value) (o : Nat) (w : World) (k : Nat), k ≠ b → (w.setCells b o vs).heap[k]? = w.heap[k]?
  | [], _, _, _, _ => rfl
  | v :: r, o, w, k, h => by rw [World.setCells, heap_setCells_other b r _ _ k h, Below.heap_setCell _ _ _ _ h]
theorem setCells_grown (b : Nat) : ∀ (vs : List Value) (o : Nat) (w : World), w.grownBy (w.setCells b o vs) (some b)
  | [], _, w => World.grownBy.refl _ _
  | v :: r, o, w => by
    have h := setCells_grown b r (o + 1) (w.setCell ⟨b, o, none⟩ v)
    refine ⟨h.os, h.tape, h.output, ?_, fun k hk hne => heap_setCells_other b _ _ _ k (fun e => hne (by rw [e]))⟩
    exact Nat.le_trans (by simp) h.size

/-- The slice value v (of n elements of sz cells) is the call's own: nil, or a row in a block from B on, not frozen, whose cells are there. -/
def Own (w : World) (B : Nat) (e : TypeId) (sz : Nat) (v : Value) (n : Nat) (cells : List Value) : Prop :=
  cells.length = n * sz ∧ ((v = .slice none 0 0 ∧ n = 0) ∨
    ∃ g off cap cur, v = .slice (some ⟨g, off, none⟩) n cap ∧ B ≤ g ∧ w.heap[g]? = some (.cells cur e (0, 0)) ∧ n ≤ cap ∧ cap ≤ maxLen ∧ off + cap * sz ≤ cur.size ∧ (cur.toList.drop off).take (n * sz) = cells)
section
variable {w w' : World} {B B' : Nat} {e : TypeId} {sz : Nat} {v v' : Value} {n k : Nat} {cells : List Value}
theorem Own.nil (w : World) (B : Nat) (e : TypeId) (sz : Nat) : Own w B e sz (.slice none 0 0) 0 [] := ⟨by simp, .inl ⟨rfl, rfl⟩⟩
theorem Own.lt (h : Own w B e sz v n cells) : ∀ k, v.ownBlock = some k → B ≤ k ∧ k < w.heap.size := by
  intro k hk
  rcases h.2 with ⟨rfl, _⟩ | ⟨g, off, cap, cur, rfl, hb, hg, _⟩
  · simp [Value.ownBlock] at hk
  · simp [Value.ownBlock] at hk
    subst hk
    exact ⟨hb, (Array.getElem?_eq_some_iff.1 hg).1⟩
theorem Own.frame (h : Own w B e sz v n cells) (hs : ∀ k, v.ownBlock = some k → w'.heap[k]? = w.heap[k]?) : Own w' B e sz v n cells := by
  refine ⟨h.1, ?_⟩
  rcases h.2 with hn | ⟨g, off, cap, cur, rfl, hb, hg, rest⟩
  · exact .inl hn
  · exact .inr ⟨g, off, cap, cur, rfl, hb, by rw [hs g rfl]; exact hg, rest⟩
theorem Own.base (h : Own w B e sz v n cells) (hB : B' ≤ B) : Own w B' e sz v n cells := by
  refine ⟨h.1, ?_⟩
  rcases h.2 with hn | ⟨g, off, cap, cur, rfl, hb, rest⟩
  · exact .inl hn
  · exact .inr ⟨g, off, cap, cur, rfl, Nat.le_trans hB hb, rest⟩
theorem ownsRow_own (h : w.ownsRow B e sz v n cells) : Own w B e sz v n cells := by
  refine ⟨h.1, ?_⟩
  rcases h.2 with hn | ⟨g, cap, cur, rfl, hb, hg, h1, h2, h3, h4⟩
  · exact .inl hn
  · exact .inr ⟨g, 0, cap, cur, rfl, hb, hg, h1, h2, by omega, by rw [List.drop_zero]; exact h4⟩
theorem Own.cellAt {g off cap : Nat} (h : Own w B e sz (.slice (some ⟨g, off, none⟩) n cap) n cells) (j : Nat) (c : Value) (hj : cells[j]? = some c) : w.cell? ⟨g, off + j, none⟩ = some c := by
  rcases h.2 with ⟨e, _⟩ | ⟨g', off', cap', cur, e, hb, hg, h1, h2, h3, h4⟩
  · cases e
  · cases e
    rw [cell_of_row w g (off + j) cur _ (0, 0) hg]
    rw [← h4, List.getElem?_take] at hj
    split at hj
    · rw [List.getElem?_drop] at hj
      simpa using hj
    · cases hj
theorem Own.frozenAt {g off cap : Nat} (h : Own w B e sz (.slice (some ⟨g, off, none⟩) n cap) n cells) (j : Nat) : w.frozen? ⟨g, j, none⟩ = false := by
  rcases h.2 with ⟨e, _⟩ | ⟨g', off', cap', cur, e, hb, hg, h1, h2, h3, h4⟩
  · cases e
  · cases e
    simp [World.frozen?, hg]
/-- A store into an own row. -/
theorem Own.set {g off cap : Nat} (h : Own w B e sz (.slice (some ⟨g, off, none⟩) n cap) n cells) (j : Nat) (c : Value) : Own (w.setCell ⟨g, off + j, none⟩ c) B e sz (.slice (some ⟨g, off, none⟩) n cap) n (cells.set j c) := by
  refine ⟨by rw [List.length_set]; exact h.1, ?_⟩
  rcases h.2 with ⟨e, _⟩ | ⟨g', off', cap', cur, e, hb, hg, h1, h2, h3, h4⟩
  · cases e
  · cases e
    refine .inr ⟨g, off, cap, cur.setIfInBounds (off + j) c, rfl, hb, heap_setCell_same w g (off + j) cur _ _ hg, h1, h2, by rw [Array.size_setIfInBounds]; exact h3, ?_⟩
    rw [Array.toList_setIfInBounds, List.drop_set, if_neg (by omega), show off + j - off = j by omega, List.take_set, h4]
theorem setCell_grown (w : World) (a : Addr) (c : Value) : w.grownBy (w.setCell a c) (some a.block) :=
  ⟨by simp [World.setCell], by simp [World.setCell], by simp [World.setCell], by simp, fun k hk hne => Below.heap_setCell w a c k (fun e => hne (by rw [e]))⟩
theorem Own.take (h : Own w B e sz v n cells) (hv : ∃ a cap, v = .slice a n cap ∧ v' = .slice a k cap) (hk : k ≤ n) : Own w B e sz v' k (cells.take (k * sz)) := by
  obtain ⟨a, cap, rfl, rfl⟩ := hv
  have hm : k * sz ≤ n * sz := Nat.mul_le_mul_right _ hk
  refine ⟨by rw [List.length_take, h.1]; omega, ?_⟩
  rcases h.2 with ⟨e, h0⟩ | ⟨g', off', cap', cur, e, hb, hg, h1, h2, h3, h4⟩
  · simp only [Value.slice.injEq] at e
    obtain ⟨rfl, _, rfl⟩ := e
    have : k = 0 := by omega
    exact .inl ⟨by rw [this], this⟩
  · simp only [Value.slice.injEq] at e
    obtain ⟨rfl, _, rfl⟩ := e
    exact .inr ⟨g', off', cap, cur, rfl, hb, hg, by omega, h2, h3, by rw [← h4, List.take_take, Nat.min_eq_left hm]⟩
theorem Own.drop {g off cap k : Nat} (h : Own w B e sz (.slice (some ⟨g, off, none⟩) n cap) n cells) (hk : k ≤ n) : Own w B e sz (.slice (some ⟨g, off + k * sz, none⟩) (n - k) (cap - k)) (n - k) (cells.drop (k * sz)) := by
  refine ⟨by rw [List.length_drop, h.1, Nat.sub_mul], ?_⟩
  rcases h.2 with ⟨e, h0⟩ | ⟨g', off', cap', cur, e, hb, hg, h1, h2, h3, h4⟩
  · cases e
  · cases e
    have hc : cap * sz = k * sz + (cap - k) * sz := by rw [← Nat.add_mul]; congr 1; omega
    refine .inr ⟨g, _, _, cur, rfl, hb, hg, by omega, by omega, by omega, ?_⟩
    rw [← h4, ← List.drop_drop, Nat.sub_mul, ← List.drop_take]
end

theorem flatten_get {sz : Nat} : ∀ (css : List (List Value)), (∀ cs ∈ css, cs.length = sz) → ∀ i r, r < sz → css.flatten[i * sz + r]? = (css[i]?).bind (fun cs => cs[r]?)
  | [], _, i, r, _ => by simp
  | cs :: css, h, i, r, hr => by
    have hl : cs.length = sz := h cs (List.mem_cons_self ..)
    rw [List.flatten_cons]
    cases i with
    | zero => rw [Nat.zero_mul, Nat.zero_add, List.getElem?_append_left (by omega)]; rfl
    | succ i =>
      rw [List.getElem?_append_right (by rw [hl, Nat.add_mul]; omega), hl, show (i + 1) * sz + r - sz = i * sz + r by rw [Nat.add_mul]; omega, flatten_get css (fun c hc => h c (List.mem_cons_of_mem _ hc)) i r hr]
      rfl
theorem flatten_len {sz : Nat} : ∀ (css : List (List Value)), (∀ cs ∈ css, cs.length = sz) → css.flatten.length = css.length * sz
  | [], _ => by simp
  | cs :: css, h => by
    rw [List.flatten_cons, List.length_append, h cs (List.mem_cons_self ..), flatten_len css (fun c hc => h c (List.mem_cons_of_mem _ hc)), List.length_cons, Nat.add_mul]; omega

/-- What is known behind an append to v. -/
structure AppO (w w' : World) (B : Nat) (e : TypeId) (sz : Nat) (v v' : Value) (n : Nat) (cells : List Value) : Prop where
  own : Own w' B e sz v' n cells
  grown : w.grownBy w' v.ownBlock
  blk : v'.ownBlock = v.ownBlock ∨ ∃ k, v'.ownBlock = some k ∧ w.heap.size ≤ k
section
variable {P : Program} (w : World)
theorem run_appO (B : Nat) (t ty e : TypeId) (i : TypeInfo) (z : Value) (size bytes : Nat) (ht : P.underlying t = some (.slice e)) (hi : P.info? e = some i) (hz : i.zero = some z)
    (hsize : i.size = size) (hby : i.bytes = bytes) (hzs : z.cells.size = size) (hsz : 0 < size)
    (v : Value) (n : Nat) (xs : List Value) (hown : Own w B e size v n xs)
    (a : Addr) (m c : Nat) (news : List Value) (hl : news.length = m * size) (hnews : ∀ j u, news[j]? = some u → w.cell? (a.add j) = some u) (h1 : ∀ u ∈ news, u.oneCell' = true)
    (h63 : n + m ≤ maxLen) (hbytes : (n + m) * bytes ≤ 140737488355328) (hbase : B ≤ w.heap.size) :
    ∃ v' w', (Builtin.append_ #[t, t] ty #[v, .slice (some a) m c]).run P w = .ok v' w' ∧ AppO w w' B e size v v' (n + m) (xs ++ news) := by
  have hown0 := hown
  rcases hown.2 with ⟨rfl, rfl⟩ | ⟨g, off, cap, cur, rfl, hbg, hg, hnc, hcm, hcs, htake⟩
  · have hx : xs = [] := List.eq_nil_of_length_eq_zero (by simpa using hown.1)
    subst hx
    obtain ⟨v', w', hr, h2, h3, h4⟩ := run_append_own (P := P) w w.heap.size t ty e i z size bytes ht hi hz hsize hby hzs hsz _ 0 [] (World.ownsRow_nil w _ e size) a m c news hl hnews h1 h63 hbytes (Nat.le_refl _)
    refine ⟨v', w', hr, (ownsRow_own h2).base hbase, h3, ?_⟩
    cases hv : v'.ownBlock with
    | none => exact .inl rfl
    | some k => exact .inr ⟨k, rfl, (h2.lt k hv).1⟩
  · have hlen := hown.1
    by_cases hroom : n + m ≤ cap
    · have hmul : (n + m) * size ≤ cap * size := Nat.mul_le_mul_right _ hroom
      rw [Nat.add_mul] at hmul
      have hfit : off + n * size + news.length ≤ cur.size := by omega
      have hr := run_append_room_cells (P := P) w t ty e i ht hi g off n cap a m c news (by rw [hsize]; exact hl) hnews h1 hroom
        (fun j hj => by rw [hsize, cell_of_row w g _ cur _ (0, 0) hg, Array.getElem?_eq_getElem (by omega)]; rfl) (fun j hj => by simp [World.frozen?, hg])
      rw [hsize] at hr
      obtain ⟨cur', e1, e2, e3⟩ := heap_setCells g e news (off + n * size) w cur hg (by omega)
      refine ⟨_, _, hr, ⟨by rw [List.length_append, hown.1, hl, Nat.add_mul], .inr ⟨g, off, cap, cur', rfl, hbg, e1, hroom, hcm, by omega, ?_⟩⟩, setCells_grown g news _ w, .inl rfl⟩
      rw [e3]
      have hcl : cur.toList.length = cur.size := by simp
      rw [← htake, List.drop_append, List.drop_append, List.drop_take]
      rw [show off - ((cur.toList.take (off + n * size)) ++ news).length = 0 by rw [List.length_append, List.length_take, hcl]; omega, List.drop_zero]
      rw [show off - (cur.toList.take (off + n * size)).length = 0 by rw [List.length_take, hcl]; omega, List.drop_zero, show off + n * size - off = n * size by omega]
      exact List.take_left' (by rw [List.length_append, List.length_take, List.length_drop, hcl, hl, Nat.add_mul]; omega)
    · have hcell : ∀ j u, xs[j]? = some u → w.cell? ((⟨g, off, none⟩ : Addr).add j) = some u := fun j u hu => by rw [Addr.add_lit]; exact hown0.cellAt j u hu
      obtain ⟨v', w', hr, h2, h3⟩ := run_append_arg_grows (P := P) w t ty e i z size bytes ht hi hz hsize hby hzs hsz ⟨g, off, none⟩ n cap xs hown0.1 hcell a m c news hl hnews (by omega) h63 hbytes
      refine ⟨v', w', hr, (ownsRow_own h2).base hbase, ⟨h3.os, h3.tape, h3.output, h3.size, fun k hk _ => h3.block k hk (by simp)⟩, ?_⟩
      cases hv : v'.ownBlock with
      | none =>
        rcases h2.2 with ⟨_, hn⟩ | ⟨g', cap', cur', rfl, _⟩
        · omega
        · simp [Value.ownBlock] at hv
      | some k => exact .inr ⟨k, rfl, (h2.lt k hv).1⟩
theorem run_appO_none (B : Nat) (t ty e : TypeId) (i : TypeInfo) (size : Nat) (ht : P.underlying t = some (.slice e)) (hi : P.info? e = some i)
    (v : Value) (n : Nat) (xs : List Value) (hown : Own w B e size v n xs) : (Builtin.append_ #[t, t] ty #[v, .slice none 0 0]).run P w = .ok v w := by
  rcases hown.2 with ⟨rfl, rfl⟩ | ⟨g, off, cap, cur, rfl, hbg, hg, hnc, hcm, hcs, htake⟩
  · exact run_append_owned_none (P := P) w 0 t ty e i size ht hi _ 0 [] (World.ownsRow_nil w 0 e size)
  · simp [Builtin.append_, run_underlying ht, sizeOf, typeInfo, hi, Builtin.lenOf, hnc, Builtin.firstCells, storeCells]
end

/-- The slice value v is the call's own (its array from block B on) and reads as xs; what its elements lead to lies from block C on, and not in its own array. -/
def OwnL {α : Type} (S : Sh α) (e : TypeId) (B C : Nat) (w : World) (v : Value) (xs : List α) : Prop :=
  ∃ css : List (List Value), css.length = xs.length ∧ Own w B e S.sz v xs.length css.flatten ∧ ∀ (i : Nat) x cs, xs[i]? = some x → css[i]? = some cs → S.rep (fun b => C ≤ b ∧ v.ownBlock ≠ some b) w cs x
section
variable {α : Type} {S : Sh α} {e : TypeId} {B B' C C' : Nat} {P Q : Nat → Prop} {w w' : World} {v v' : Value} {xs ys : List α} {x : α}
theorem OwnL.nil (S : Sh α) (e : TypeId) (B C : Nat) (w : World) : OwnL S e B C w (.slice none 0 0) [] := ⟨[], rfl, Own.nil w B e S.sz, fun i x cs h => by simp at h⟩
theorem OwnL.lens {css : List (List Value)} (h1 : css.length = xs.length) (h2 : ∀ (i : Nat) x cs, xs[i]? = some x → css[i]? = some cs → S.rep P w cs x) : ∀ cs ∈ css, cs.length = S.sz := by
  intro cs hc
  obtain ⟨i, hi⟩ := List.mem_iff_getElem?.1 hc
  have hl : i < css.length := (List.getElem?_eq_some_iff.1 hi).1
  exact S.len (h2 i xs[i] cs (List.getElem?_eq_getElem (by omega)) hi)
theorem OwnL.sl (h : OwnL S e B C w v xs) (hn : xs.length ≤ 17592186044416) (hP : ∀ b, C ≤ b → v.ownBlock ≠ some b → P b) (hv : ∀ g, v.ownBlock = some g → P g) : Sl S P w v xs := by
  obtain ⟨css, h1, h2, h3⟩ := h
  have hl := OwnL.lens h1 h3
  have h20 := h2
  rcases h2.2 with ⟨rfl, h0⟩ | ⟨g, off, cap, cur, rfl, _, hg, hnc, _⟩
  · have : xs = [] := List.eq_nil_of_length_eq_zero h0
    subst this
    exact Sl.nil S P w
  · refine ⟨_, cap, rfl, hnc, hn, (fun h => by cases h), fun i x hx => ?_⟩
    have hi : i < xs.length := (List.getElem?_eq_some_iff.1 hx).1
    have hci : css[i]? = some css[i] := List.getElem?_eq_getElem (by omega)
    refine ⟨g, off, css[i], rfl, hv g rfl, S.mono (fun b hb _ => hP b hb.1 hb.2) (h3 i x _ hx hci), fun j c hj => ?_⟩
    have hjl : j < css[i].length := (List.getElem?_eq_some_iff.1 hj).1
    refine h20.cellAt (i * S.sz + j) c ?_
    have hic : i < css.length := by omega
    have hjs : j < S.sz := by rw [← hl _ (List.getElem_mem hic)]; exact hjl
    rw [flatten_get css hl i j hjs, hci]
    exact hj
theorem OwnL.fresh (h : OwnL S e B B w v xs) (hn : xs.length ≤ 17592186044416) : Sl S (fun b => B ≤ b) w v xs :=
  h.sl hn (fun _ h _ => h) (fun g hg => by obtain ⟨_, _, h2, _⟩ := h; exact (h2.lt g hg).1)
theorem OwnL.lt (h : OwnL S e B C w v xs) : ∀ g, v.ownBlock = some g → B ≤ g ∧ g < w.heap.size := by
  obtain ⟨_, _, h2, _⟩ := h
  exact h2.lt
theorem OwnL.shape (h : OwnL S e B C w v xs) : ∃ a cap, v = .slice a xs.length cap ∧ xs.length ≤ cap := by
  obtain ⟨_, _, h2, _⟩ := h
  rcases h2.2 with ⟨rfl, h0⟩ | ⟨g, off, cap, cur, rfl, _, _, hnc, _⟩
  · exact ⟨none, 0, by rw [h0], by omega⟩
  · exact ⟨_, cap, rfl, hnc⟩
theorem OwnL.frame (h : OwnL S e B C w v xs) (hs : Same (fun b => C ≤ b ∧ v.ownBlock ≠ some b) w w') (hv : ∀ k, v.ownBlock = some k → w'.heap[k]? = w.heap[k]?) : OwnL S e B C w' v xs := by
  obtain ⟨css, h1, h2, h3⟩ := h
  exact ⟨css, h1, h2.frame hv, fun i x cs hx hc => S.frame hs (h3 i x cs hx hc)⟩
theorem OwnL.below (h : OwnL S e B C w v xs) (hb : Below w.heap.size w w') : OwnL S e B C w' v xs :=
  h.frame (below_sameAll hb _) (fun k hk => hb.block k (h.lt k hk).2)
theorem OwnL.alloc (h : OwnL S e B C w v xs) (o : Obj) : OwnL S e B C (w.alloc o) v xs := h.below ((Below.refl _ _).alloc (Nat.le_refl _) o)
theorem OwnL.drewN {n : Nat} (h : OwnL S e B C w v xs) : OwnL S e B C (w.drewN n) v xs := h.below (belowN (Below.refl _ _))
theorem OwnL.quiet (h : OwnL S e B C w v xs) (hq : Quiet w w') : OwnL S e B C w' v xs := h.below (hq.below _)
theorem OwnL.grown {r : Option Nat} (h : OwnL S e B C w v xs) (hg : w.grownBy w' r) (hr : ∀ g, r = some g → g < C ∨ w.heap.size ≤ g) (hv : ∀ g, r = some g → v.ownBlock ≠ some g) : OwnL S e B C w' v xs :=
  h.frame (fun b hb hl => hg.block b hl (fun e => (hr b e.symm).elim (fun h => by omega) (fun h => by omega))) (fun k hk => hg.block k (h.lt k hk).2 (fun e => hv k e.symm hk))
theorem OwnL.base (h : OwnL S e B C w v xs) (hB : B' ≤ B) (hC : C' ≤ C) : OwnL S e B' C' w v xs := by
  obtain ⟨css, h1, h2, h3⟩ := h
  exact ⟨css, h1, h2.base hB, fun i x cs hx hc => S.mono (fun b hb _ => ⟨Nat.le_trans hC hb.1, hb.2⟩) (h3 i x cs hx hc)⟩
/-- Its cells: cell j of element i. -/
theorem OwnL.at {a : Option Addr} {n cap : Nat} (h : OwnL S e B C w (.slice a n cap) xs) (hn : 0 < n) :
    xs.length = n ∧ ∃ g off, a = some ⟨g, off, none⟩ ∧ B ≤ g ∧ g < w.heap.size ∧ n ≤ cap ∧ (∀ j, w.frozen? ⟨g, j, none⟩ = false) ∧
      ∀ (i : Nat) x, xs[i]? = some x → ∃ cs, S.rep (fun b => C ≤ b ∧ g ≠ b) w cs x ∧ ∀ j c, cs[j]? = some c → w.cell? ⟨g, off + (i * S.sz + j), none⟩ = some c := by
  have hlt := h.lt
  obtain ⟨css, h1, h2, h3⟩ := h
  have hl := OwnL.lens h1 h3
  have h20 := h2
  rcases h2.2 with ⟨e, h0⟩ | ⟨g, off, cap', cur, e, _, hg, hnc, _⟩
  · simp only [Value.slice.injEq] at e; omega
  · simp only [Value.slice.injEq] at e
    obtain ⟨rfl, rfl, rfl⟩ := e
    refine ⟨rfl, g, off, rfl, (hlt g rfl).1, (hlt g rfl).2, hnc, fun j => h20.frozenAt j, fun i x hx => ?_⟩
    have hi : i < xs.length := (List.getElem?_eq_some_iff.1 hx).1
    have hci : css[i]? = some css[i] := List.getElem?_eq_getElem (by omega)
    refine ⟨css[i], S.mono (fun b hb _ => ⟨hb.1, fun e => hb.2 (by rw [e]; rfl)⟩) (h3 i x _ hx hci), fun j c hj => ?_⟩
    have hjl : j < css[i].length := (List.getElem?_eq_some_iff.1 hj).1
    refine h20.cellAt (i * S.sz + j) c ?_
    have hic : i < css.length := by omega
    have hjs : j < S.sz := by rw [← hl _ (List.getElem_mem hic)]; exact hjl
    rw [flatten_get css hl i j hjs, hci]
    exact hj
end

/-- The cells of a slice that reads as a list, one list of cells an element. -/
theorem Sl.flat {α : Type} {S : Sh α} {P : Nat → Prop} {w : World} {ad : Addr} {m c : Nat} {ys : List α} (h : Sl S P w (.slice (some ad) m c) ys) :
    ∃ css : List (List Value), css.length = ys.length ∧ (∀ (i : Nat) x cs, ys[i]? = some x → css[i]? = some cs → S.rep P w cs x) ∧ ∀ j u, css.flatten[j]? = some u → w.cell? (ad.add j) = some u := by
  obtain ⟨a, cap, e, h1, h2, h3, h4⟩ := h
  simp only [Value.slice.injEq] at e
  obtain ⟨rfl, _, _⟩ := e
  have hex : ∀ i : Fin ys.length, ∃ cs, (∃ b off, ad = ⟨b, off, none⟩ ∧ S.rep P w cs ys[i] ∧ ∀ j c, cs[j]? = some c → w.cell? ⟨b, off + (i * S.sz + j), none⟩ = some c) := by
    intro i
    obtain ⟨b, off, cs, e, _, hr, hc⟩ := h4 i ys[i] (by simp)
    cases e
    exact ⟨cs, b, off, rfl, hr, hc⟩
  have hf := fun i => Classical.choose_spec (hex i)
  have hlen : (List.ofFn fun i => Classical.choose (hex i)).length = ys.length := List.length_ofFn
  have hat : ∀ i (hi : i < ys.length), (List.ofFn fun i => Classical.choose (hex i))[i]? = some (Classical.choose (hex ⟨i, hi⟩)) := by
    intro i hi
    rw [List.getElem?_eq_getElem (by rw [hlen]; exact hi), List.getElem_ofFn]
  have hrep : ∀ (i : Nat) x cs, ys[i]? = some x → (List.ofFn fun i => Classical.choose (hex i))[i]? = some cs → S.rep P w cs x := by
    intro i x cs hx hcs
    have hi : i < ys.length := (List.getElem?_eq_some_iff.1 hx).1
    rw [hat i hi] at hcs
    cases hcs
    rw [List.getElem?_eq_getElem hi] at hx
    cases hx
    obtain ⟨b, off, _, hr, _⟩ := hf ⟨i, hi⟩
    exact hr
  have hl := OwnL.lens hlen hrep
  refine ⟨_, hlen, hrep, fun j u hu => ?_⟩
  have hj : j < (List.ofFn fun i => Classical.choose (hex i)).flatten.length := (List.getElem?_eq_some_iff.1 hu).1
  rw [flatten_len _ hl, hlen] at hj
  have hdiv : j / S.sz < ys.length := (Nat.div_lt_iff_lt_mul S.pos).2 hj
  have hmod := Nat.mod_lt j S.pos
  have hdm : j = j / S.sz * S.sz + j % S.sz := by rw [Nat.mul_comm]; exact (Nat.div_add_mod j S.sz).symm
  rw [hdm, flatten_get _ hl _ _ hmod, hat _ hdiv] at hu
  obtain ⟨b, off, e, _, hc⟩ := hf ⟨_, hdiv⟩
  subst e
  rw [Addr.add_lit, hdm]
  exact hc _ _ hu
theorem Sl.one {α : Type} {S : Sh α} {P : Nat → Prop} {w : World} {cs : List Value} {x : α} {T : TypeId} (h : S.rep P w cs x) (hP : P w.heap.size) :
    Sl S P (w.alloc (.cells cs.toArray T)) (.slice (some ⟨w.heap.size, 0, none⟩) 1 1) [x] := by
  refine ⟨_, 1, rfl, Nat.le_refl _, by simp, (fun h => by cases h), fun i y hy => ?_⟩
  cases i with
  | succ i => simp at hy
  | zero =>
    simp only [List.getElem?_cons_zero, Option.some.injEq] at hy
    subst hy
    refine ⟨_, _, cs, rfl, hP, S.frame (below_sameAll ((Below.refl _ _).alloc (Nat.le_refl _) _) P) h, fun j c hj => ?_⟩
    rw [cell_of_row _ _ _ _ _ _ (heap_alloc_new w _)]
    simpa using hj
theorem Sl.two {α : Type} {S : Sh α} {P : Nat → Prop} {w : World} {cs ds : List Value} {x y : α} {T : TypeId} (h : S.rep P w cs x) (h' : S.rep P w ds y) (hP : P w.heap.size) :
    Sl S P (w.alloc (.cells (cs ++ ds).toArray T)) (.slice (some ⟨w.heap.size, 0, none⟩) 2 2) [x, y] := by
  have hl := S.len h
  have hb := below_sameAll ((Below.refl w.heap.size w).alloc (Nat.le_refl _) (.cells (cs ++ ds).toArray T)) P
  refine ⟨_, 2, rfl, Nat.le_refl _, by simp, (fun h => by cases h), fun i z hz => ?_⟩
  cases i with
  | zero =>
    simp only [List.getElem?_cons_zero, Option.some.injEq] at hz
    subst hz
    refine ⟨_, _, cs, rfl, hP, S.frame hb h, fun j c hj => ?_⟩
    rw [cell_of_row _ _ _ _ _ _ (heap_alloc_new w _)]
    have : j < cs.length := (List.getElem?_eq_some_iff.1 hj).1
    simp only [Nat.zero_mul, Nat.zero_add, List.getElem?_toArray]
    rw [List.getElem?_append_left this]; exact hj
  | succ i =>
    cases i with
    | succ i => simp at hz
    | zero =>
      simp only [Nat.zero_add, List.getElem?_cons_succ, List.getElem?_cons_zero, Option.some.injEq] at hz
      subst hz
      refine ⟨_, _, ds, rfl, hP, S.frame hb h', fun j c hj => ?_⟩
      rw [cell_of_row _ _ _ _ _ _ (heap_alloc_new w _)]
      simp only [Nat.zero_add, Nat.one_mul, List.getElem?_toArray]
      rw [List.getElem?_append_right (by omega), hl, Nat.add_sub_cancel_left]; exact hj

/-- What is known behind an append of ys to v. -/
structure AppL {α : Type} (S : Sh α) (w w' : World) (B C : Nat) (e : TypeId) (v v' : Value) (zs : List α) : Prop where
  own : OwnL S e B C w' v' zs
  grown : w.grownBy w' v.ownBlock
  blk : v'.ownBlock = v.ownBlock ∨ ∃ k, v'.ownBlock = some k ∧ w.heap.size ≤ k
theorem AppL.below {α : Type} {S : Sh α} {w w' W : World} {B C D : Nat} {e : TypeId} {v v' : Value} {zs ys : List α} (h : AppL S w w' B C e v v' zs) (ho : OwnL S e B C w v ys) (hb : Below D W w) (hB : D ≤ B) (hs : D ≤ w.heap.size) : Below D W w' :=
  hb.grown h.grown hs (fun k hk => Nat.le_trans hB (ho.lt k hk).1)
theorem AppL.blk' {α : Type} {S : Sh α} {w w' : World} {B C : Nat} {e : TypeId} {v v' : Value} {zs : List α} (h : AppL S w w' B C e v v' zs) {b : Nat} (hb : v'.ownBlock = some b) : v.ownBlock = some b ∨ w.heap.size ≤ b := by
  rcases h.blk with h | ⟨k, hk, hle⟩
  · exact .inl (h ▸ hb)
  · rw [hk] at hb; cases hb; exact .inr hle
section
variable {P : Program} (w : World)
theorem wpList_appL {α : Type} (S : Sh α) {ops : Array Oper} {rest : List Oper} {o : Oper} {a : Act} {Q : Exit → Act → World → Prop} (hgd : o.guard = none) (s x : Operand) (t : TypeId)
    (ho : o.op = .call { callee := .builtin .append, args := #[s, x], argTypes := #[t, t] })
    (B C : Nat) (e : TypeId) (z : Value) (bytes : Nat) (ht : P.underlying t = some (.slice e)) (inf : (P.info? e).map (fun i => (i.zero, i.size, i.bytes)) = some (some z, S.sz, bytes)) (hzs : z.cells.size = S.sz)
    (v : Value) (xs : List α) (hs : a.eval s = v) (hown : OwnL S e B C w v xs)
    (b : Option Addr) (m c : Nat) (ys : List α) (hx : a.eval x = .slice b m c) (hy : Sl S (fun b => C ≤ b ∧ v.ownBlock ≠ some b) w (.slice b m c) ys)
    (h : ∀ v' w', AppL S w w' B C e v v' (xs ++ ys) → wpList P ops Q rest (a.put o.dst v') w')
    (hn : xs.length + m ≤ 4294967296) (hby : bytes ≤ 32768) (hbase : B ≤ w.heap.size) : wpList P ops Q (o :: rest) a w := by
  obtain ⟨i, hi, hz0, hz1, hz2⟩ := info_parts inf
  have hlen := hy.len
  refine wpList_plain hgd fun K hK => ?_
  obtain ⟨css, c1, c2, c3⟩ := hown
  have hcl := OwnL.lens c1 c3
  cases b with
  | none =>
    have hm : c = 0 := by
      obtain ⟨a', cap', e, _, _, h3, _⟩ := hy
      simp only [Value.slice.injEq] at e
      obtain ⟨rfl, _, rfl⟩ := e
      exact h3 rfl
    have hm0 : m = 0 := by have := hy.le.1; omega
    subst hm hm0
    have hys : ys = [] := List.eq_nil_of_length_eq_zero hlen
    subst hys
    have hr := run_appO_none (P := P) w B t o.type e i S.sz ht hi v _ _ c2
    unfold Oper.wp execOp
    simp only [ho, resolve, invoke, builtin, Sem.run_bind, Sem.run_pure, Result.andThen_ok, List.map_toArray, List.map_cons, List.map_nil, hs, hx, hr]
    exact hK _ _ (h v w ⟨by rw [List.append_nil]; exact ⟨css, c1, c2, c3⟩, World.grownBy.refl _ _, .inl rfl⟩)
  | some ad =>
    obtain ⟨dss, d1, d2, d3⟩ := hy.flat
    have hdl := OwnL.lens d1 d2
    obtain ⟨v', w', hr, hp⟩ := run_appO (P := P) w B t o.type e i z S.sz bytes ht hi hz0 hz1 hz2 hzs S.pos v xs.length css.flatten c2 ad m c dss.flatten (by rw [flatten_len _ hdl, d1, hlen]) d3
      (fun u hu => by
        obtain ⟨cs, hcs, hu⟩ := List.mem_flatten.1 hu
        obtain ⟨k, hk⟩ := List.mem_iff_getElem?.1 hcs
        have hkl : k < dss.length := (List.getElem?_eq_some_iff.1 hk).1
        exact S.one (d2 k ys[k] cs (List.getElem?_eq_getElem (by omega)) hk) u hu)
      (by unfold maxLen; omega) (by have := Nat.mul_le_mul hn hby; omega) hbase
    unfold Oper.wp execOp
    simp only [ho, resolve, invoke, builtin, Sem.run_bind, Sem.run_pure, Result.andThen_ok, List.map_toArray, List.map_cons, List.map_nil, hs, hx, hr]
    refine hK _ _ (h v' w' ⟨⟨css ++ dss, by rw [List.length_append, List.length_append, c1, d1], ?_, fun i x cs hi hcs => ?_⟩, hp.grown, hp.blk⟩)
    · rw [List.flatten_append, List.length_append, hlen]; exact hp.own
    · have hold : S.rep (fun b => C ≤ b ∧ v.ownBlock ≠ some b) w cs x := by
        rw [List.getElem?_append] at hi hcs
        by_cases hlt : i < xs.length
        · rw [if_pos hlt] at hi
          rw [if_pos (by omega)] at hcs
          exact c3 i x cs hi hcs
        · rw [if_neg hlt] at hi
          rw [if_neg (by omega), c1] at hcs
          exact d2 _ x cs hi hcs
      have h1 : S.rep (fun b => (C ≤ b ∧ v.ownBlock ≠ some b) ∧ b < w.heap.size) w cs x := S.mono (fun b hb hl => ⟨hb, hl⟩) hold
      have h2 : S.rep (fun b => (C ≤ b ∧ v.ownBlock ≠ some b) ∧ b < w.heap.size) w' cs x := S.frame (grown_same hp.grown (fun b hb => hb.1.2)) h1
      refine S.mono (fun b hb _ => ⟨hb.1.1, fun e => ?_⟩) h2
      rcases hp.blk with h | ⟨k, hk, hle⟩
      · exact hb.1.2 (h ▸ e)
      · rw [hk] at e; cases e; exact absurd hb.2 (by omega)
end
end Go.Proofs.YtkhlaphegnldeaaDoor
