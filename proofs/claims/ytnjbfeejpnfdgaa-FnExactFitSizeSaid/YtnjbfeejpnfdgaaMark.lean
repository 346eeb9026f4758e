/- laws.markIntS writes k, k+1, .. into a slice; laws.heldIntS reads them back; condition: what the slices hold. -/
import Derived.Test.YtnjbfeejpnfdgaaInts
namespace Go.Proofs.Ytnjbfeejpnfdgaa
open Go.RowKit

theorem grownBy_trans {w w' w'' : World} {r : Option Nat} (h : w.grownBy w' r) (h' : w'.grownBy w'' r) : w.grownBy w'' r :=
  ⟨h'.os.trans h.os, h'.tape.trans h.tape, h'.output.trans h.output, Nat.le_trans h.size h'.size, fun k hk hr => (h'.block k (Nat.lt_of_lt_of_le hk h.size) hr).trans (h.block k hk hr)⟩
theorem OwnS.set {w : World} {B g n c : Nat} {xs : List Int} (h : OwnS w B (.slice (some ⟨g, 0, none⟩) n c) xs) (j : Nat) (x : Int) :
    OwnS (w.setCell ⟨g, j, none⟩ (.int .i64 x)) B (.slice (some ⟨g, 0, none⟩) n c) (xs.set j x) ∧ w.grownBy (w.setCell ⟨g, j, none⟩ (.int .i64 x)) (some g) := by
  have hn : xs.length = n := by
    rcases h.2 with ⟨e, _⟩ | ⟨_, _, _, e, _⟩
    · simp at e
    · simp at e; exact e.2.1.symm
  subst hn
  have := World.ownsRow.stored h j (.int .i64 x)
  refine ⟨?_, this.2⟩
  unfold OwnS
  rw [List.length_set, List.map_set]
  exact this.1
theorem OwnS.len {w : World} {B n c : Nat} {a : Option Addr} {xs : List Int} (h : OwnS w B (.slice a n c) xs) : xs.length = n := by
  rcases h.2 with ⟨e, h0⟩ | ⟨_, _, _, e, _⟩
  · simp at e; omega
  · simp at e; exact e.2.1.symm
theorem OwnS.at {w : World} {B n c : Nat} {a : Option Addr} {xs : List Int} (h : OwnS w B (.slice a n c) xs) (hn : 0 < n) :
    ∃ g, a = some ⟨g, 0, none⟩ ∧ B ≤ g ∧ g < w.heap.size ∧ n ≤ c ∧ (∀ j, j < n → w.cell? ⟨g, j, none⟩ = some (.int .i64 (xs.getD j 0))) ∧ ∀ j, w.frozen? ⟨g, j, none⟩ = false := by
  have hl := h.len
  have h0 := h
  rcases h.2 with ⟨e, h1⟩ | ⟨g, cap, cur, e, hB, hg, hnc, _⟩
  · simp at e; omega
  · have ha : a = some ⟨g, 0, none⟩ := by simp at e; exact e.1
    have hc : c = cap := by simp at e; exact e.2.2
    subst ha hc
    unfold OwnS at h0
    rw [hl] at h0
    exact ⟨g, rfl, hB, (Array.getElem?_eq_some_iff.1 hg).1, by omega, fun j hj => by rw [World.ownsRow.cellAt h0 j (by omega), List.getElem?_map, List.getD, List.getElem?_eq_getElem (by omega)]; rfl, fun j => World.ownsRow.frozenAt h0 j⟩

theorem OwnS.empty (w : World) {B : Nat} (hB : B ≤ w.heap.size) : OwnS (w.alloc (.cells #[] 3)) B (.slice (some ⟨w.heap.size, 0, none⟩) 0 0) [] :=
  World.ownsRow_made w #[] 0 hB (by unfold maxLen; omega) rfl
theorem OwnS.one (w : World) {B : Nat} (hB : B ≤ w.heap.size) (x : Int) : OwnS (w.alloc (.cells #[.int .i64 x] 3)) B (.slice (some ⟨w.heap.size, 0, none⟩) 1 1) [x] :=
  ⟨rfl, .inr ⟨w.heap.size, 1, _, rfl, hB, heap_alloc_new w _, Nat.le_refl _, by unfold maxLen; omega, rfl, rfl⟩⟩
theorem Dis.new {w : World} {B : Nat} {u : Value} {xs : List Int} (h : OwnS w B u xs) (n c : Nat) : Dis u (.slice (some ⟨w.heap.size, 0, none⟩) n c) := by
  intro k hk e
  have := (h.lt k hk).2
  simp [Value.ownBlock] at e
  omega

theorem cell_new (w : World) (v : Value) (t : TypeId) : (w.alloc (.cells #[v] t)).cell? ⟨w.heap.size, 0, none⟩ = some v := cell_of_row _ _ 0 _ _ _ (heap_alloc_new w _)
theorem OwnS.below' {w w' : World} {B : Nat} {v : Value} {xs : List Int} (h : OwnS w B v xs) (hb : Below w.heap.size w w') : OwnS w' B v xs := h.below hb (fun k hk => (h.lt k hk).2)

theorem OwnS.intsA {w : World} {B n c : Nat} {a : Option Addr} {xs : List Int} (h : OwnS w B (.slice a n c) xs) (hn : n ≤ 17592186044416) : IntsA w a n c xs := by
  obtain ⟨a', c', e, hi, _⟩ := h.form (by rw [h.len]; exact hn)
  simp only [Value.slice.injEq] at e
  obtain ⟨rfl, e2, rfl⟩ := e
  rw [e2]
  exact hi
theorem OwnS.shape {w : World} {B n c : Nat} {a : Option Addr} {xs : List Int} (h : OwnS w B (.slice a n c) xs) : (a = none → c = 0) ∧ ∀ p, a = some p → p.spot = none := by
  rcases h.2 with ⟨e, _⟩ | ⟨g, cap, cur, e, _⟩
  · simp only [Value.slice.injEq] at e
    obtain ⟨rfl, _, rfl⟩ := e
    exact ⟨fun _ => rfl, (fun p hp => by cases hp)⟩
  · simp only [Value.slice.injEq] at e
    obtain ⟨rfl, _, rfl⟩ := e
    exact ⟨(fun e => by cases e), (fun p hp => by cases hp; rfl)⟩
/-- append(s, ys...), both the call's own. -/
theorem wpList_appS (w : World) {ops : Array Oper} {rest : List Oper} {o : Oper} {a : Act} {Q : Exit → Act → World → Prop} (hgd : o.guard = none) (s x : Operand)
    (ho : o.op = .call { callee := .builtin .append, args := #[s, x], argTypes := #[22, 22] })
    (B B' : Nat) (v : Value) (xs : List Int) (hs : a.eval s = v) (hown : OwnS w B v xs) (b : Option Addr) (m c : Nat) (ys : List Int) (hx : a.eval x = .slice b m c) (hy : OwnS w B' (.slice b m c) ys)
    (h : ∀ v' w', AppPost w w' B 3 1 v v' (xs ++ ys).length ((xs ++ ys).map (Value.int .i64)) → wpList Try.prog ops Q rest (a.put o.dst v') w')
    (hn : xs.length + m ≤ 17592186044416) (hbase : B ≤ w.heap.size) : wpList Try.prog ops Q (o :: rest) a w :=
  wpList_apps w hgd s x ho B v xs hs hown b m c ys hx (hy.intsA (by omega)) hy.shape.1 hy.shape.2 h hn hbase

def marks (k : Int) (n : Nat) : List Int := (List.range n).map fun i : Nat => k + (i : Int)
theorem marks_zero (k : Int) : marks k 0 = [] := rfl
theorem marks_succ (k : Int) (n : Nat) : marks k (n + 1) = marks k n ++ [k + n] := by simp [marks, List.range_succ]
theorem marks_length (k : Int) (n : Nat) : (marks k n).length = n := by simp [marks]
theorem marks_at (k : Int) (n j : Nat) (h : j < n) : (marks k n)[j]?.getD 0 = k + j := by simp [marks, h]
theorem marks_step {k : Int} {j : Nat} {xs : List Int} (h : j < xs.length) : (marks k j ++ xs.drop j).set j (k + j) = marks k (j + 1) ++ xs.drop (j + 1) := by
  rw [List.set_append, if_neg (by rw [marks_length]; omega), marks_length, Nat.sub_self, marks_succ, List.drop_eq_getElem_cons h, List.set_cons_zero, List.append_assoc]
  rfl

set_option maxHeartbeats 800000 in
theorem markIntS_any (a : Option Addr) (n c B : Nat) (k : Int) (xs : List Int) (w : World) (hx : OwnS w B (.slice a n c) xs) (hn : n ≤ 17592186044416) (hk0 : 0 ≤ k) (hk1 : k ≤ 1125899906842624) :
    Calls Try.prog 15 #[.slice a n c, .int .i64 k] w fun e w' => e = .returned (.int .i64 (k + n)) ∧ OwnS w' B (.slice a n c) (marks k n) ∧ w.grownBy w' (Value.slice a n c).ownBlock := by
  go_enter Try.func15, Try.ntmps15
  go_wp2
  go_loopw [1, 5] (fun q i wr => ∃ j : Nat, j ≤ n ∧ i = .int .i64 j ∧ q = .int .i64 (k + j) ∧ OwnS wr B (.slice a n c) (marks k j ++ xs.drop j) ∧ w.grownBy wr (Value.slice a n c).ownBlock) (fun _ i _ => n - (intOf i).toNat)
  case atStart => exact ⟨0, Nat.zero_le _, rfl, by simp, by simpa [marks_zero] using hx, World.grownBy.refl _ _⟩
  case round =>
    obtain ⟨j, hj, rfl, rfl, ho, hg⟩ := hrel
    have hlen := hx.len
    by_cases hlt : j < n
    · obtain ⟨g, ha, hB, hgl, hnc, hcell, hfr⟩ := ho.at (by omega)
      have h3 := hcell j hlt
      have h4 := hfr j
      subst ha
      clear hcell hfr
      have hs := ho.set j (k + j)
      rw [marks_step (by omega)] at hs
      have Hs := hid hs
      clear hs
      have Hl := hid hlen; clear hlen
      go_wp2
      exact ⟨⟨j + 1, by omega, rfl, int_i64 (by omega), Hs.out.1, grownBy_trans hg Hs.out.2⟩, by simp [intOf]; omega⟩
    · have : j = n := by omega
      subst this
      go_wp2
      go_ret
      exact ⟨rfl, by rw [List.drop_of_length_le (by omega), List.append_nil] at ho; exact ho, hg⟩

set_option maxHeartbeats 800000 in
theorem heldIntS_any (a : Option Addr) (n c : Nat) (k : Int) (w : World) (hx : IntsA w a n c (marks k n)) (hk0 : 0 ≤ k) (hk1 : k ≤ 1125899906842624) :
    Calls Try.prog 16 #[.slice a n c, .int .i64 k] w fun e w' => e = .returned (.int .i64 (k + n)) ∧ Quiet w w' := by
  have hle := hx.le
  go_enter Try.func16, Try.ntmps16
  go_wp2
  go_loopw [1, 5] (fun q i wr => ∃ j : Nat, j ≤ n ∧ i = .int .i64 j ∧ q = .int .i64 (k + j) ∧ Quiet w wr) (fun _ i _ => n - (intOf i).toNat)
  case atStart => exact ⟨0, Nat.zero_le _, rfl, by simp, Quiet.refl w⟩
  case round =>
    obtain ⟨j, hj, rfl, rfl, hq⟩ := hrel
    by_cases hlt : j < n
    · obtain ⟨ba, oa, ha, _, hca⟩ := hx.at (by omega)
      have h2 : wr.cell? _ = _ := (hq.cell _).trans (hca j hlt)
      rw [show (marks k n).getD j 0 = k + j from marks_at k n j hlt] at h2
      subst ha
      clear hca
      go_wp2
      exact ⟨⟨j + 1, by omega, rfl, int_i64 (by omega), hq⟩, by simp [intOf]; omega⟩
    · have : j = n := by omega
      subst this
      go_wp2
      go_ret
      exact ⟨rfl, hq⟩
end Go.Proofs.Ytnjbfeejpnfdgaa
