/- Part 3 of 5 of the proof: laws on memory and data, then what the functions compute, in the order in which they build on each other; conditions: those that each theorem names. -/
import Derived.Lib.Bytealg
import Derived.Lib.SlicesS
import Derived.SizedLaws
import Derived.Laws.MakeOwn
import Derived.Test.YtlelonbakckkgaaP2
set_option maxRecDepth 100000
set_option maxHeartbeats 1600000

namespace Go.Proofs.Ytlelonbakckkgaa
set_option linter.unusedVariables false
set_option linter.unusedSimpArgs false
open Go.RowKit
theorem ys_dr {B : Nat → Prop} {w : World} {v : Value} {xs : List Int} (h : Sl Sh.byte B w v xs) : Dr B w (dYs xs) v := by
  obtain ⟨a, cap, rfl, h1, h2, h3, h4⟩ := h
  by_cases h0 : xs.length = 0
  · have : xs = [] := List.eq_nil_of_length_eq_zero h0
    subst this
    exact Dr.list 1 [] a 0 cap 0 0 (fun _ _ => undef) rfl (Nat.zero_le _) (Nat.zero_le _) h3 (fun h => absurd h (Nat.lt_irrefl _)) (fun i r h => by simp at h) (fun i r j x h => by simp at h) (fun i r j x h => by simp at h)
  · obtain ⟨b, off, cs, rfl, _⟩ := h4 0 xs[0] (List.getElem?_eq_getElem (by omega))
    have hr : ∀ (i : Nat) r, (xs.map rY)[i]? = some r → ∃ x, xs[i]? = some x ∧ r = rY x := fun i r hr => by
      rw [List.getElem?_map] at hr
      cases hx : xs[i]? with
      | none => rw [hx] at hr; cases hr
      | some x => rw [hx] at hr; cases hr; exact ⟨x, rfl, rfl⟩
    refine Dr.list 1 (xs.map rY) (some ⟨b, off, none⟩) xs.length cap b off (fun i _ => .int .u8 (xs.getD i 0)) (by rw [List.length_map]) h1 h2 (fun h => by cases h) (fun _ => rfl) (fun i r hi => ?_) (fun i r j y hi hj => ?_) (fun i r j y hi hj => ?_)
    · obtain ⟨x, _, rfl⟩ := hr i r hi; rfl
    all_goals
      obtain ⟨x, hx, rfl⟩ := hr i r hi
      have hj0 : j = 0 ∧ y = .val (.int .u8 x) := by
        cases j with
        | zero => simp [rY] at hj; exact ⟨rfl, hj.symm⟩
        | succ j => simp [rY] at hj
      obtain ⟨rfl, rfl⟩ := hj0
      have hg : xs.getD i 0 = x := by rw [List.getD, hx]; rfl
    · obtain ⟨b', off', cs, e, hb, hr', hc⟩ := h4 i x hx
      cases e
      have hr2 : cs = [.int .u8 x] := hr'
      subst hr2
      exact ⟨hb, by rw [hg]; exact hc 0 _ rfl⟩
    · show Dr B w (.val (.int .u8 x)) (.int .u8 (xs.getD i 0))
      rw [hg]; exact .val _ rfl
/-- A law that answers true, and turns nothing that was there. -/
abbrev Truth (P : Program) (f : FuncId) (vs : Array Value) (w : World) : Prop := Calls P f vs w fun e w' => e = .returned (.bool true) ∧ Below w.heap.size w w'
theorem Fn.truth {P : Program} {f : FuncId} {args : List V1} {vs : List Value} {w : World} {B : Nat → Prop} (h : Fn P f [] args (.o (bo1 true)) []) (hv : Vals (V1r (fun _ => (0, 0)) (Al (lk [])) B w) args vs) : Truth P f vs.toArray w := by
  have hno : ∀ k, ¬ Al (lk []) k := fun k ⟨e, sz, rows, h⟩ => by cases h
  refine (h B (fun _ => (0, 0)) w vs ⟨fun k e sz rows h => (by cases h), fun k l hk => (hno k hk).elim, fun k hk => (hno k hk).elim⟩ hv).mono ?_
  rintro e w' ⟨v, bx', rfl, hp⟩
  have hv : Dr _ w' (.val (.bool true)) v := hp.val
  cases hv
  exact ⟨rfl, hp.os, hp.tape, hp.output, hp.size, fun b hb => hp.old b hb fun k hk => (hno k hk).elim⟩
/-- A slice of bytes, as a law takes it. -/
structure Byt (w : World) (a : Option Addr) (n c : Nat) (bs : List Int) : Prop where
  sl : n ≤ 1048576 → Sl Sh.byte (fun b => b < w.heap.size) w (.slice a n c) bs
  bd : ∀ x ∈ bs, 0 ≤ x ∧ x ≤ 255
abbrev vX (a : Option Addr) (n c : Nat) : V1 := vD (.val (.slice a n c))
theorem bytes_take {bs : List Int} (h : ∀ x ∈ bs, 0 ≤ x ∧ x ≤ 255) : Bytes (bs.take 2000) := ⟨by rw [List.length_take]; omega, fun x hx => h x (List.mem_of_mem_take hx)⟩
theorem law1 {P : Program} {f : FuncId} {a : Option Addr} {n c : Nat} {bs : List Int} {w : World} (h : Byt w a n c bs) (hbig : 1048576 < n → Fn P f [] [vX a n c] (.o (bo1 true)) [])
    (hsm : bs.length ≤ 1048576 → Bytes (bs.take 2000) → Fn P f [] [vD (dYs bs)] (.o (bo1 true)) []) : Truth P f #[.slice a n c] w := by
  by_cases hn : 1048576 < n
  · exact (hbig hn).truth (vs := [_]) (B := fun _ => True) ⟨rfl, fun i x v hx hv => by
      match i, hx, hv with
      | 0, hx, hv => cases hx; cases hv; exact Dr.val _ rfl⟩
  · have hs := h.sl (by omega)
    have hl : bs.length = n := hs.len
    exact (hsm (by omega) (bytes_take h.bd)).truth (vs := [_]) ⟨rfl, fun i x v hx hv => by
      match i, hx, hv with
      | 0, hx, hv => cases hx; cases hv; exact ys_dr hs⟩
theorem IsRow.bytes {w : World} {a : Option Addr} {n cap : Nat} {zs : List Int} (h : IsRow .u8 w a n cap zs) (hn : n ≤ 17592186044416) : Sl Sh.byte (fun b => b < w.heap.size) w (.slice a n cap) (zs.take n) := by
  rcases h with ⟨rfl, rfl, rfl, rfl⟩ | ⟨x, rfl, h1, _, h2, h3, _⟩
  · exact Sl.nil _ _ _
  · have hl : (zs.take n).length = n := by rw [List.length_take]; omega
    refine ⟨_, cap, by rw [hl], by rw [hl]; exact h1, by rw [hl]; exact hn, (fun e => by cases e), fun i y hy => ?_⟩
    have hi : i < n := by rw [← hl]; exact (List.getElem?_eq_some_iff.1 hy).1
    have hc := h3 i (by omega)
    obtain ⟨b, off, spot⟩ := x
    have hs : spot = none := by
      have h0 := h3 0 (by omega)
      simpa [Addr.add] using World.cell?_spot h0
    subst hs
    rw [Addr.add_lit] at hc
    rw [List.getElem?_take, if_pos hi] at hy
    rw [List.getD, hy] at hc
    refine ⟨b, off, [.int .u8 y], rfl, World.block_lt_of_cell? _ _ hc, rfl, fun j c hj => ?_⟩
    cases j with
    | succ j => simp at hj
    | zero =>
      simp only [List.getElem?_cons_zero, Option.some.injEq] at hj
      subst hj
      simpa [Sh.byte] using hc
theorem IsRow.bytesBd {w : World} {a : Option Addr} {n cap : Nat} {zs : List Int} (h : IsRow .u8 w a n cap zs) : ∀ x ∈ zs.take n, 0 ≤ x ∧ x ≤ 255 := by
  intro x hx
  have := h.wf x hx
  simp [Lit.wf, IntKind.min, IntKind.max, IntKind.bits, IntKind.signed] at this
  omega
section
variable {P : Program} {n : Nat} {ops : Array Oper} {o : Oper} {σ : St} {d : Nat} {t t2 : TypeId} {x y : Operand} {a b : ByteArray}
def sEq (a b : ByteArray) : Bool := a.toList == b.toList
def sLt (a b : ByteArray) : Bool := Op.bytesLess a.toList b.toList
theorem St1.eqS (h4 : (o.op, o.guard, o.dst, Nat.blt d n) = (Op.binOp .eql t x y t2, none, some d, true)) (hx : ev σ x = some (.o (st1 a))) (hy : ev σ y = some (.o (st1 b))) :
    St1 P n ops o σ (rd x ++ rd y) [.t d] ((.t d, .v (.o (bo1 (sEq a b)))) :: σ) := by
  simp only [Prod.mk.injEq] at h4
  exact St1.bin h4.1 h4.2.1 h4.2.2.1 h4.2.2.2 hx hy (fun w => by simp [eqGuard, binOp, Op.stringOp, sEq]) rfl
theorem St1.neS (h4 : (o.op, o.guard, o.dst, Nat.blt d n) = (Op.binOp .neq t x y t2, none, some d, true)) (hx : ev σ x = some (.o (st1 a))) (hy : ev σ y = some (.o (st1 b))) :
    St1 P n ops o σ (rd x ++ rd y) [.t d] ((.t d, .v (.o (bo1 (!sEq a b)))) :: σ) := by
  simp only [Prod.mk.injEq] at h4
  exact St1.bin h4.1 h4.2.1 h4.2.2.1 h4.2.2.2 hx hy (fun w => by simp [eqGuard, binOp, Op.stringOp, sEq]) rfl
theorem St1.geS (h4 : (o.op, o.guard, o.dst, Nat.blt d n) = (Op.binOp .geq t x y t2, none, some d, true)) (hx : ev σ x = some (.o (st1 a))) (hy : ev σ y = some (.o (st1 b))) :
    St1 P n ops o σ (rd x ++ rd y) [.t d] ((.t d, .v (.o (bo1 (!sLt a b)))) :: σ) := by
  simp only [Prod.mk.injEq] at h4
  exact St1.bin h4.1 h4.2.1 h4.2.2.1 h4.2.2.2 hx hy (fun w => by simp [eqGuard, binOp, Op.stringOp, sLt]) rfl
theorem St1.leS (h4 : (o.op, o.guard, o.dst, Nat.blt d n) = (Op.binOp .leq t x y t2, none, some d, true)) (hx : ev σ x = some (.o (st1 a))) (hy : ev σ y = some (.o (st1 b))) :
    St1 P n ops o σ (rd x ++ rd y) [.t d] ((.t d, .v (.o (bo1 (sLt a b || sEq a b)))) :: σ) := by
  simp only [Prod.mk.injEq] at h4
  exact St1.bin h4.1 h4.2.1 h4.2.2.1 h4.2.2.2 hx hy (fun w => by simp [eqGuard, binOp, Op.stringOp, sEq, sLt]) rfl
end
theorem sEq_iff {a b : ByteArray} : sEq a b = true ↔ a = b := Lib.bytes_beq_iff a b
/-! ### Statements -/
def dS (s : ByteArray) : D := .val (.string s)
abbrev Acc := ByteArray × List Aff
def rC (a : Acc) : List D := [dS a.1, dAs a.2]
def dCs (l : List Acc) : D := .list 2 (l.map rC)
inductive Ex where
  | mk (k n : Int) (i : Aff) (r : Acc) (ks : List Ex)
namespace Ex
def k : Ex → Int | .mk k _ _ _ _ => k
def n : Ex → Int | .mk _ n _ _ _ => n
def i : Ex → Aff | .mk _ _ i _ _ => i
def r : Ex → Acc | .mk _ _ _ r _ => r
def ks : Ex → List Ex | .mk _ _ _ _ ks => ks
end Ex
mutual
/-- The cells of a node. -/
def rE : Ex → List D
  | .mk k n i r ks => [dI k, dI n, dIs i.1, dI i.2, dS r.1, dAs r.2, .list 7 (rEs ks)]
def rEs : List Ex → List (List D)
  | [] => []
  | e :: l => rE e :: rEs l
end
theorem rEs_map : ∀ l : List Ex, rEs l = l.map rE
  | [] => rfl
  | e :: l => by rw [rEs, rEs_map l]; rfl
def dEs (l : List Ex) : D := .list 7 (l.map rE)
def rX (e : Ex) : List D := [dI e.k, dI e.n, dIs e.i.1, dI e.i.2, dS e.r.1, dAs e.r.2, dEs e.ks]
theorem rE_eq (e : Ex) : rE e = rX e := by
  cases e with
  | mk k n i r ks => rw [rE, rEs_map]; rfl
theorem rE_at {l : List Ex} {j : Nat} {e : Ex} (h : l[j]? = some e) : (l.map rE)[j]? = some (rX e) := by rw [← rE_eq]; exact map_at h
theorem rE_one (e : Ex) : [e].map rE = [rX e] := by rw [List.map_singleton, rE_eq]
abbrev Stm := Acc × Ex
def rS (s : Stm) : List D := [dS s.1.1, dAs s.1.2, dI s.2.k, dI s.2.n, dIs s.2.i.1, dI s.2.i.2, dS s.2.r.1, dAs s.2.r.2, dEs s.2.ks]
theorem Ex.rec' {p : Ex → Prop} (h : ∀ e : Ex, (∀ x ∈ e.ks, p x) → p e) : ∀ e, p e
  | .mk k n i r ks => h (.mk k n i r ks) fun x (_ : x ∈ ks) => Ex.rec' h x
def arrB (b : UInt8) : Bool := decide (65 ≤ b.toNat ∧ b.toNat ≤ 68)
def arrV (s : ByteArray) : Bool := match s.data.toList with
  | [b] => arrB b
  | _ => false
theorem arrV_size {s : ByteArray} (h : ¬ s.size = 1) : arrV s = false := by
  have hsz : s.size = s.data.toList.length := Lib.size_eq s
  rw [arrV]
  split
  · rename_i b hb; rw [hb] at hsz; simp at hsz; omega
  · rfl
def szAs (l : List Aff) : Nat := l.length + (l.map fun a => a.1.length).sum
theorem szAs_mem {l : List Aff} {a : Aff} (h : a ∈ l) : l.length + a.1.length ≤ szAs l := by
  rw [szAs]
  have : ∀ (l : List Nat) (n : Nat), n ∈ l → n ≤ l.sum := by
    intro l
    induction l with
    | nil => intro n h; cases h
    | cons m l ih =>
      intro n h
      rw [List.sum_cons]
      rcases List.mem_cons.1 h with rfl | h
      · omega
      · have := ih n h; omega
  have := this _ _ (List.mem_map_of_mem (f := fun a : Aff => a.1.length) h)
  omega
theorem szAs_len (l : List Aff) : l.length ≤ szAs l := Nat.le_add_right _ _
def szC (a : Acc) : Nat := a.1.size + szAs a.2
mutual
def szE : Ex → Nat
  | .mk _ _ i r ks => i.1.length + szC r + ks.length + szEs ks
def szEs : List Ex → Nat
  | [] => 0
  | e :: l => szE e + szEs l
end
def szS (s : Stm) : Nat := szC s.1 + szE s.2
theorem szEs_mem : ∀ {l : List Ex} {e : Ex}, e ∈ l → szE e ≤ szEs l
  | x :: l, e, h => by
    rw [szEs]
    rcases List.mem_cons.1 h with rfl | h
    · omega
    · have := szEs_mem h; omega

/-! ### Validity -/
def accV (d : Nat) (a : Acc) : Bool := arrV a.1 && sideV d a.2
def nonA (x : Aff) : Bool := decide (x.1.length = 0) && decide (x.2 = 0)
def nonC (a : Acc) : Bool := sEq a.1 ByteArray.empty && decide (a.2.length = 0)
/-- The fields of a node other than its operands. -/
def fldV (d : Nat) (k n : Int) (i : Aff) (r : Acc) : Bool :=
  if k = 1 then inB n 0 99 && nonA i && nonC r
  else if k = 2 then decide (n = 0) && (affV i && decide (affDepth i ≤ d)) && nonC r
  else if k = 3 then decide (n = 0) && nonA i && accV d r
  else decide (n = 0) && nonA i && nonC r
def kidV (k : Int) (n : Nat) : Bool := if 1 ≤ k ∧ k ≤ 3 then decide (n = 0) else if 4 ≤ k ∧ k ≤ 6 then decide (n = 2) else false
def exV (d : Nat) : Nat → Ex → Bool
  | 0, _ => false
  | L + 1, e => kidV e.k e.ks.length && fldV d e.k e.n e.i e.r && e.ks.all (exV d L)
mutual
def cntE : Ex → Nat
  | .mk _ _ _ _ ks => 1 + cntEs ks
def cntEs : List Ex → Nat
  | [] => 0
  | e :: l => cntE e + cntEs l
end
def stmtV (d : Int) (s : Stm) : Bool := inB d 0 4 && (accV d.toNat s.1 && exV d.toNat 5 s.2 && decide (cntE s.2 ≤ 12))
theorem cntE_eq (e : Ex) : cntE e = 1 + cntEs e.ks := by cases e; rw [cntE]; rfl
theorem kidV_len {k : Int} {n : Nat} (h : kidV k n = true) : n = 0 ∨ n = 2 := by
  unfold kidV at h
  split at h
  · exact .inl (of_decide_eq_true h)
  · split at h
    · exact .inr (of_decide_eq_true h)
    · cases h
/-! ### Equality -/
/-! ### Reads, replacements, depth -/
mutual
def rdE : Ex → List Acc
  | .mk k _ _ r ks => (if k = 3 then [r] else []) ++ rdEs ks
def rdEs : List Ex → List Acc
  | [] => []
  | e :: l => rdE e ++ rdEs l
end
theorem l3None_fn (x : Aff) : Fn Try.prog 101 [] [ad (rA x)] (.o (bo1 (nonA x))) [] := by
  refine Fn.code0 Try.func101 rfl rfl rfl rfl ?_
  refine .seq <| .region <| .cons (St1.boxP rfl rfl rfl rfl rfl rfl) <| .cons (.asg rfl rfl) <| .nil <| ks_n <| .seq <| .region <| .cons (.fP 0 0 false rfl rfl) <| .cons (.l1 1 rfl rfl) <| .cons (.ln 3 1 8 rfl rfl rfl) <| .cons (.eq rfl rfl rfl) <| .cons (.mv rfl rfl) ?_
  refine .cD 7 rfl (fun g7 => ?_) (fun g7 => ?_)
  · skip
    refine .cons (.gT rfl rfl rfl (.fP 1 0 false rfl rfl)) <| .cons (.gT rfl rfl rfl (.l1 1 rfl rfl)) <| .cons (.gT rfl rfl rfl (.eq rfl rfl rfl)) <| .cons (.pT rfl rfl rfl) <| .cons (.asg rfl rfl) <| .nil <| ks_n <| .ret ?_
    refine kf_ret rfl ?_ nobox
    exact leafB (by rw [nonA]; first | rfl | grind)
  · skip
    refine .cons (.gF rfl rfl rfl) <| .cons (.gF rfl rfl rfl) <| .cons (.gF rfl rfl rfl) <| .cons (.pF rfl rfl rfl) <| .cons (.asg rfl rfl) <| .nil <| ks_n <| .ret ?_
    refine kf_ret rfl ?_ nobox
    exact leafB (by rw [nonA]; first | rfl | grind)


theorem l3Empty_fn (a : Acc) : Fn Try.prog 100 [] [ad (rC a)] (.o (bo1 (nonC a))) [] := by
  refine Fn.code0 Try.func100 rfl rfl rfl rfl ?_
  refine .seq <| .region <| .cons (St1.boxP rfl rfl rfl rfl rfl rfl) <| .cons (.asg rfl rfl) <| .nil <| ks_n <| .seq <| .region <| .cons (.fP 0 0 false rfl rfl) <| .cons (.l1 1 rfl rfl) <| .cons (St1.eqS rfl rfl rfl) <| .cons (.mv rfl rfl) ?_
  refine AOps.cases 6 _ rfl (fun g6 => ?_) (fun g6 => ?_)
  · try simp only [zs1, zs2, zs3, zs4, zs5, zs6, zs7] at g6
    have g := g6
    refine .cons (.gT rfl rfl rfl (.fP 1 0 false rfl rfl)) <| .cons (.gT rfl rfl rfl (.l1 1 rfl rfl)) <| .cons (.gT rfl rfl rfl (.ln 74 2 32 rfl rfl rfl)) <| .cons (.gT rfl rfl rfl (.eq rfl rfl rfl)) <| .cons (.pT rfl rfl rfl) <| .cons (.asg rfl rfl) <| .nil <| ks_n <| .ret ?_
    refine kf_ret rfl ?_ nobox
    exact leafB (by rw [nonC, show sEq a.1 ByteArray.empty = _ from g]; first | rfl | (rw [Bool.eq_iff_iff]; simp only [Bool.and_eq_true, Bool.or_eq_true, Bool.not_eq_true', Bool.and_eq_false_iff, Bool.or_eq_false_iff, decide_eq_true_eq, decide_eq_false_iff_not, Bool.false_eq_true, Bool.true_eq_false, false_iff, true_iff, iff_false, iff_true, false_and, and_false, true_and, and_true, not_false_eq_true, not_true_eq_false, ne_eq]; omega))
  · try simp only [zs1, zs2, zs3, zs4, zs5, zs6, zs7] at g6
    have g := g6
    refine .cons (.gF rfl rfl rfl) <| .cons (.gF rfl rfl rfl) <| .cons (.gF rfl rfl rfl) <| .cons (.gF rfl rfl rfl) <| .cons (.pF rfl rfl rfl) <| .cons (.asg rfl rfl) <| .nil <| ks_n <| .ret ?_
    refine kf_ret rfl ?_ nobox
    exact leafB (by rw [nonC, show sEq a.1 ByteArray.empty = _ from g]; first | rfl | (rw [Bool.eq_iff_iff]; simp only [Bool.and_eq_true, Bool.or_eq_true, Bool.not_eq_true', Bool.and_eq_false_iff, Bool.or_eq_false_iff, decide_eq_true_eq, decide_eq_false_iff_not, Bool.false_eq_true, Bool.true_eq_false, false_iff, true_iff, iff_false, iff_true, false_and, and_false, true_and, and_true, not_false_eq_true, not_true_eq_false, ne_eq]; omega))
theorem two_of {α : Type} {l : List α} (h : l.length = 2) : ∃ x y, l = [x, y] := by
  match l, h with
  | [x, y], _ => exact ⟨x, y, rfl⟩



theorem szE_eq (e : Ex) : szE e = e.i.1.length + szC e.r + e.ks.length + szEs e.ks := by cases e; rw [szE]; rfl
theorem szS_parts {s : Stm} (hs : szS s ≤ 1099511627776) : s.1.2.length ≤ 1099511627776 ∧ szE s.2 ≤ 1099511627776 := by
  rw [szS, szC] at hs
  have := szAs_len s.1.2
  exact ⟨by omega, by omega⟩
theorem kids_eq (k : Int) (n : Nat) : kidV k n = decide ((if 1 ≤ k ∧ k ≤ 3 then (0 : Int) else if 4 ≤ k ∧ k ≤ 6 then 2 else -1) = (n : Nat)) := by
  rw [kidV]
  split
  · rw [decide_eq_decide]; omega
  · split
    · rw [decide_eq_decide]; omega
    · rw [decide_eq_false]; omega
theorem arr_leaf {s : ByteArray} (h : s.size = 1) : arrV s = (!sLt s ⟨#[65]⟩ && (sLt s ⟨#[68]⟩ || sEq s ⟨#[68]⟩)) := by
  have hsz : s.size = s.data.toList.length := Lib.size_eq s
  obtain ⟨b, hb⟩ : ∃ b, s.data.toList = [b] := List.length_eq_one_iff.1 (by omega)
  obtain rfl : s = ⟨#[b]⟩ := by
    cases s with
    | mk data => exact congrArg ByteArray.mk (Array.toList_inj.1 (by rw [hb]))
  have key : ∀ n : Fin 256, arrV ⟨#[UInt8.ofNat n.val]⟩ = (!sLt ⟨#[UInt8.ofNat n.val]⟩ ⟨#[65]⟩ && (sLt ⟨#[UInt8.ofNat n.val]⟩ ⟨#[68]⟩ || sEq ⟨#[UInt8.ofNat n.val]⟩ ⟨#[68]⟩)) := by decide +kernel
  have := key ⟨b.toNat, b.toNat_lt⟩
  simpa using this

theorem l3Kids_fn (k : Int) : Fn Try.prog 89 [] [nat1 k] (.o (nat1 (if 1 ≤ k ∧ k ≤ 3 then 0 else if 4 ≤ k ∧ k ≤ 6 then 2 else -1))) [] := by
 refine Fn.code0 Try.func89 rfl rfl rfl rfl ?_
 refine .seq <| .region <| .cons (.asg rfl rfl) <| .nil <| ks_n <| .seq <| .seq <| .region <| .cons (.mv rfl rfl) <| .nil <| ks_n <| .block <| .seq ?_
 refine ACode.cut [(.t 2, .v (.o (nat1 0))), (.t 3, .v (.o (nat1 k))), (.t 4, .v (.o (bo1 (decide (1 ≤ k ∧ k ≤ 3)))))] ?_ ?_
 ·skip
  refine .seq <| .region <| .cons (.eq rfl rfl rfl) <| .cons (.asg rfl rfl) <| .nil <| ks_n ?_
  refine .cD rfl (fun h4 => ?_) (fun h4 => ?_)
  ·skip
   refine .skip ?_
   exact kc_n (Wk.keep [] rfl rfl ⟨ks rfl .dt, ks rfl .dt, ks rfl (.dt (vB (by first | rfl | grind))), trivial⟩)
  ·skip
   refine .seq <| .region <| .cons (.eq rfl rfl rfl) <| .cons (.asg rfl rfl) <| .nil <| ks_n ?_
   refine .cD rfl (fun h4 => ?_) (fun h4 => ?_)
   ·skip
    refine .skip ?_
    exact kc_n (Wk.keep [] rfl rfl ⟨ks rfl .dt, ks rfl .dt, ks rfl (.dt (vB (by first | rfl | grind))), trivial⟩)
   ·skip
    refine .region <| .cons (.eq rfl rfl rfl) <| .cons (.asg rfl rfl) <| .nil ?_
    exact kc_n (Wk.keep [] rfl rfl ⟨ks rfl .dt, ks rfl .dt, ks rfl (.dt (vB (by first | rfl | grind))), trivial⟩)
 refine ks_n ?_
 refine ACode.condT rfl (fun h4 => ?_) (fun h4 => ?_)
 ·try simp only [zs1, zs2, zs3, zs4, zs5, zs6, zs7] at h4
  refine .seq <| .region <| .cons (.asg rfl rfl) <| .nil <| ks_n <| .ret <| kb_r <| ks_r ?_
  refine kf_ret rfl ?_ nobox
  first | exact leafI (by rw [if_pos h4]) | exact leafI (by rw [if_neg h4, if_pos h8]) | exact leafI (by rw [if_neg h4, if_neg h8])
 ·try simp only [zs1, zs2, zs3, zs4, zs5, zs6, zs7] at h4
  refine .seq ?_
  refine ACode.cut [(.t 2, .v (.o (nat1 0))), (.t 3, .v (.o (nat1 k))), (.t 8, .v (.o (bo1 (decide (4 ≤ k ∧ k ≤ 6)))))] ?_ ?_
  ·skip
   refine .seq <| .region <| .cons (.eq rfl rfl rfl) <| .cons (.asg rfl rfl) <| .nil <| ks_n ?_
   refine .cD rfl (fun h8 => ?_) (fun h8 => ?_)
   ·skip
    refine .skip ?_
    exact kc_n (Wk.keep [] rfl rfl ⟨ks rfl .dt, ks rfl .dt, ks rfl (.dt (vB (by first | rfl | grind))), trivial⟩)
   ·skip
    refine .seq <| .region <| .cons (.eq rfl rfl rfl) <| .cons (.asg rfl rfl) <| .nil <| ks_n ?_
    refine .cD rfl (fun h8 => ?_) (fun h8 => ?_)
    ·skip
     refine .skip ?_
     exact kc_n (Wk.keep [] rfl rfl ⟨ks rfl .dt, ks rfl .dt, ks rfl (.dt (vB (by first | rfl | grind))), trivial⟩)
    ·skip
     refine .region <| .cons (.eq rfl rfl rfl) <| .cons (.asg rfl rfl) <| .nil ?_
     exact kc_n (Wk.keep [] rfl rfl ⟨ks rfl .dt, ks rfl .dt, ks rfl (.dt (vB (by first | rfl | grind))), trivial⟩)
  refine ks_n ?_
  refine ACode.condT rfl (fun h8 => ?_) (fun h8 => ?_)
  ·try simp only [zs1, zs2, zs3, zs4, zs5, zs6, zs7] at h8
   refine .seq <| .region <| .cons (.asg rfl rfl) <| .nil <| ks_n <| .ret <| kb_r <| ks_r ?_
   refine kf_ret rfl ?_ nobox
   first | exact leafI (by rw [if_pos h4]) | exact leafI (by rw [if_neg h4, if_pos h8]) | exact leafI (by rw [if_neg h4, if_neg h8])
  ·try simp only [zs1, zs2, zs3, zs4, zs5, zs6, zs7] at h8
   refine .skip <| kb_n <| ks_n <| .seq <| .region <| .cons (.asg rfl rfl) <| .nil <| ks_n <| .ret ?_
   refine kf_ret rfl ?_ nobox
   first | exact leafI (by rw [if_pos h4]) | exact leafI (by rw [if_neg h4, if_pos h8]) | exact leafI (by rw [if_neg h4, if_neg h8])

theorem l3Access_fn (d : Nat) (a : Acc) (ha : a.2.length ≤ 1099511627776) : Fn Try.prog 66 [] [ad (rC a), nat1 (d : Nat)] (.o (bo1 (accV d a))) [] := by
 refine Fn.code0 Try.func66 rfl rfl rfl rfl ?_
 refine .seq <| .region <| .cons (St1.boxP rfl rfl rfl rfl rfl rfl) <| .cons (.asg rfl rfl) <| .nil <| ks_n <| .seq <| .seq <| .region <| .cons (.asg rfl rfl) <| .nil <| ks_n <| .block ?_
 refine .loopK (fun m σ => (∃ i : Nat, m = a.2.length - i ∧ (i ≤ a.2.length) ∧ (a.2.all (bndV d) = (a.2.drop i).all (bndV d)) ∧ σ = [(.t 1, .v (.o (nat1 (d : Nat)))), (.t 2, .v (.o (.c (.ptr (rC a))))), (.t 4, .v (.o (bo1 false))), (.t 5, .v (.o (nat1 (i : Nat))))])) [] ⟨0, rfl, by omega, by simp, rfl⟩ ⟨ks rfl .dt, ks rfl .dt, ks rfl .dt, ks rfl .dt, trivial⟩ ?_
 rintro m σ ⟨i, hm0, hi, hF, rfl⟩
 refine .seq <| .seq <| .region <| .cons (.mv rfl rfl) <| .cons (.fP 1 0 false rfl rfl) <| .cons (.l1 1 rfl rfl) <| .cons (.ln 74 2 32 rfl rfl rfl) <| .cons (.ls rfl rfl rfl) <| .nil <| ks_n ?_
 refine .cD rfl (fun h10 => ?_) (fun h10 => ?_)
 ·skip
  obtain ⟨x, hx1⟩ : ∃ x, a.2[i]? = some x := ⟨_, List.getElem?_eq_getElem (by omega)⟩
  refine .skip <| ks_n <| .seq <| .block <| .seq <| .region <| .cons (.fP 1 0 false rfl rfl) <| .cons (.l1 1 rfl rfl) <| .cons (.mv rfl rfl) <| .cons (.xL 74 2 32 rfl rfl rfl rfl rfl) ?_
  refine .cons (.lN 2 rfl rfl rfl) <| .cons (.cP [.tmp 17] rfl rfl rfl rfl (specAffV_fn x) rfl) ?_
  refine .cons (.nt rfl rfl) <| .cons (.mv rfl rfl) ?_
  refine AOps.cases 20 _ rfl (fun g20 => ?_) (fun g20 => ?_)
  ·try simp only [zs1, zs2, zs3, zs4, zs5, zs6, zs7] at g20
   refine .cons (.gF rfl rfl rfl) <| .cons (.gF rfl rfl rfl) <| .cons (.gF rfl rfl rfl) <| .cons (.gF rfl rfl rfl) <| .cons (.gF rfl rfl rfl) <| .cons (.gF rfl rfl rfl) <| .cons (.gF rfl rfl rfl) <| .cons (.gF rfl rfl rfl) <| .cons (.pT rfl rfl rfl) <| .nil <| ks_n ?_
   refine ACode.condT rfl (fun _ => ?_) (fun h => by first | (cases h; done) | (simp [*] at h; done) | (exfalso; simp_all; done))
   refine .seq ?_
   have g : bndV d x = false := bnd_no (by first | exact .inl (by assumption) | exact .inr (by omega))
   refine .region <| .cons (.asg rfl rfl) <| .nil <| ks_n <| .ret <| kb_r <| ks_r <| kl_r <| kb_r <| ks_r ?_
   refine kf_ret rfl ?_ nobox
   exact leafB (by rw [accV, sideV, hF, all_drop hx1, g, Bool.false_and, Bool.false_and, Bool.false_and, Bool.and_false])
  ·try simp only [zs1, zs2, zs3, zs4, zs5, zs6, zs7] at g20
   have g20 := g20
   refine .cons (.gT rfl rfl rfl (.fP 1 0 false rfl rfl)) <| .cons (.gT rfl rfl rfl (.l1 1 rfl rfl)) <| .cons (.gT rfl rfl rfl (.mv rfl rfl)) <| .cons (.gT rfl rfl rfl (.xL 74 2 32 rfl rfl rfl rfl rfl)) ?_
   refine .cons (.gT rfl rfl rfl (.lN 2 rfl rfl rfl)) <| .cons (.gT rfl rfl rfl (.cP [.tmp 25] rfl rfl rfl rfl (l1Depth_fn x) rfl)) ?_
   refine .cons (.gT rfl rfl rfl (.mv rfl rfl)) <| .cons (.gT rfl rfl rfl (.gt rfl rfl rfl)) <| .cons (.pF rfl rfl rfl) <| .nil <| ks_n ?_
   refine ACode.condT rfl (fun h29 => ?_) (fun h29 => ?_)
   ·try simp only [zs1, zs2, zs3, zs4, zs5, zs6, zs7] at h29
    refine .seq ?_
    have g : bndV d x = false := bnd_no (by first | exact .inl (by assumption) | exact .inr (by omega))
    refine .region <| .cons (.asg rfl rfl) <| .nil <| ks_n <| .ret <| kb_r <| ks_r <| kl_r <| kb_r <| ks_r ?_
    refine kf_ret rfl ?_ nobox
    exact leafB (by rw [accV, sideV, hF, all_drop hx1, g, Bool.false_and, Bool.false_and, Bool.false_and, Bool.and_false])
   ·try simp only [zs1, zs2, zs3, zs4, zs5, zs6, zs7] at h29
    replace h29 : ¬ d < affDepth x := by omega
    refine .skip <| kb_n <| ks_n <| .region <| .cons (.mv rfl rfl) <| .cons (.pl rfl rfl rfl) <| .cons (.asg rfl rfl) <| .nil ?_
    refine kl_k [] ⟨i + 1, rfl, by omega, by rw [hF, all_drop hx1, bnd_yes g20 h29, Bool.true_and], rfl⟩ ⟨ks rfl .dt, ks rfl .dt, ks rfl .dt, ks rfl .dt, trivial⟩
 ·skip
  have hA : a.2.all (bndV d) = true := by rw [hF, List.drop_of_length_le (by omega)]; rfl
  refine .exit <| ks_e <| kl_e <| kb_hit <| ks_n <| .seq <| .region <| .cons (.fP 0 0 false rfl rfl) <| .cons (.l1 1 rfl rfl) <| .cons (St1.lenS rfl rfl rfl rfl rfl (by kernel_rfl) rfl) ?_
  refine .cons (.eq rfl rfl rfl) <| .cons (.mv rfl rfl) ?_
  refine .cD 34 rfl (fun g34 => ?_) (fun g34 => ?_)
  ·skip
   have h1s : a.1.size = 1 := by omega
   have hAr := arr_leaf h1s
   refine .cons (.gT rfl rfl rfl (.fP 0 0 false rfl rfl)) <| .cons (.gT rfl rfl rfl (.l1 1 rfl rfl)) <| .cons (.gT rfl rfl rfl (St1.geS rfl rfl rfl)) <| .cons (.pT rfl rfl rfl) <| .cons (.mv rfl rfl) ?_
   refine AOps.cases 39 _ rfl (fun g39 => ?_) (fun g39 => ?_)
   ·try simp only [zs1, zs2, zs3, zs4, zs5, zs6, zs7] at g39
    refine .cons (.gT rfl rfl rfl (.fP 0 0 false rfl rfl)) <| .cons (.gT rfl rfl rfl (.l1 1 rfl rfl)) <| .cons (.gT rfl rfl rfl (St1.leS rfl rfl rfl)) <| .cons (.pT rfl rfl rfl) <| .cons (.mv rfl rfl) ?_
    refine AOps.cases 44 _ rfl (fun g44 => ?_) (fun g44 => ?_)
    ·try simp only [zs1, zs2, zs3, zs4, zs5, zs6, zs7] at g44
     refine .cons (.gT rfl rfl rfl (.fP 1 0 false rfl rfl)) <| .cons (.gT rfl rfl rfl (.l1 1 rfl rfl)) <| .cons (.gT rfl rfl rfl (.ln 74 2 32 rfl rfl rfl)) <| .cons (.gT rfl rfl rfl (.ge rfl rfl rfl)) <| .cons (.pT rfl rfl rfl) <| .cons (.mv rfl rfl) ?_
     refine AOps.cases 50 _ rfl (fun g50 => ?_) (fun g50 => ?_)
     ·try simp only [zs1, zs2, zs3, zs4, zs5, zs6, zs7] at g50
      refine .cons (.gT rfl rfl rfl (.fP 1 0 false rfl rfl)) <| .cons (.gT rfl rfl rfl (.l1 1 rfl rfl)) <| .cons (.gT rfl rfl rfl (.ln 74 2 32 rfl rfl rfl)) <| .cons (.gT rfl rfl rfl (.le rfl rfl rfl)) <| .cons (.pT rfl rfl rfl) <| .cons (.asg rfl rfl) <| .nil <| ks_n <| .ret ?_
      refine kf_ret rfl ?_ nobox
      exact leafB (by rw [accV, hAr, sideV, hA]; first | rfl | grind)
     ·try simp only [zs1, zs2, zs3, zs4, zs5, zs6, zs7] at g50
      refine .cons (.gF rfl rfl rfl) <| .cons (.gF rfl rfl rfl) <| .cons (.gF rfl rfl rfl) <| .cons (.gF rfl rfl rfl) <| .cons (.pF rfl rfl rfl) <| .cons (.asg rfl rfl) <| .nil <| ks_n <| .ret ?_
      refine kf_ret rfl ?_ nobox
      exact leafB (by rw [accV, hAr, sideV, hA]; first | rfl | grind)
    ·try simp only [zs1, zs2, zs3, zs4, zs5, zs6, zs7] at g44
     refine .cons (.gF rfl rfl rfl) <| .cons (.gF rfl rfl rfl) <| .cons (.gF rfl rfl rfl) <| .cons (.gF rfl rfl rfl) <| .cons (.pF rfl rfl rfl) <| .cons (.mv rfl rfl) <| .cons (.gF rfl rfl rfl) <| .cons (.gF rfl rfl rfl) <| .cons (.gF rfl rfl rfl) <| .cons (.gF rfl rfl rfl) <| .cons (.pF rfl rfl rfl) <| .cons (.asg rfl rfl) <| .nil <| ks_n <| .ret ?_
     refine kf_ret rfl ?_ nobox
     exact leafB (by rw [accV, hAr, sideV, hA]; first | rfl | grind)
   ·try simp only [zs1, zs2, zs3, zs4, zs5, zs6, zs7] at g39
    refine .cons (.gF rfl rfl rfl) <| .cons (.gF rfl rfl rfl) <| .cons (.gF rfl rfl rfl) <| .cons (.pF rfl rfl rfl) <| .cons (.mv rfl rfl) <| .cons (.gF rfl rfl rfl) <| .cons (.gF rfl rfl rfl) <| .cons (.gF rfl rfl rfl) <| .cons (.gF rfl rfl rfl) <| .cons (.pF rfl rfl rfl) <| .cons (.mv rfl rfl) <| .cons (.gF rfl rfl rfl) <| .cons (.gF rfl rfl rfl) <| .cons (.gF rfl rfl rfl) <| .cons (.gF rfl rfl rfl) <| .cons (.pF rfl rfl rfl) <| .cons (.asg rfl rfl) <| .nil <| ks_n <| .ret ?_
    refine kf_ret rfl ?_ nobox
    exact leafB (by rw [accV, hAr, sideV, hA]; first | rfl | grind)
  ·skip
   have hAr := arrV_size (s := a.1) (by omega)
   refine .cons (.gF rfl rfl rfl) <| .cons (.gF rfl rfl rfl) <| .cons (.gF rfl rfl rfl) <| .cons (.pF rfl rfl rfl) <| .cons (.mv rfl rfl) <| .cons (.gF rfl rfl rfl) <| .cons (.gF rfl rfl rfl) <| .cons (.gF rfl rfl rfl) <| .cons (.pF rfl rfl rfl) <| .cons (.mv rfl rfl) <| .cons (.gF rfl rfl rfl) <| .cons (.gF rfl rfl rfl) <| .cons (.gF rfl rfl rfl) <| .cons (.gF rfl rfl rfl) <| .cons (.pF rfl rfl rfl) <| .cons (.mv rfl rfl) <| .cons (.gF rfl rfl rfl) <| .cons (.gF rfl rfl rfl) <| .cons (.gF rfl rfl rfl) <| .cons (.gF rfl rfl rfl) <| .cons (.pF rfl rfl rfl) <| .cons (.asg rfl rfl) <| .nil <| ks_n <| .ret ?_
   refine kf_ret rfl ?_ nobox
   exact leafB (by rw [accV, hAr, sideV, hA]; first | rfl | grind)

theorem l3Own_fn (d : Nat) (e : Ex) (hr : e.r.2.length ≤ 1099511627776) : Fn Try.prog 90 [] [ad (rX e), nat1 (d : Nat)] (.o (bo1 (fldV d e.k e.n e.i e.r))) [] := by
  refine Fn.code0 Try.func90 rfl rfl rfl rfl ?_
  refine .seq <| .region <| .cons (St1.boxP rfl rfl rfl rfl rfl rfl) <| .cons (.asg rfl rfl) <| .nil <| ks_n <| .seq <| .seq <| .region <| .cons (.fP 0 0 false rfl rfl) <| .cons (.l1 1 rfl rfl) <| .cons (.eq rfl rfl rfl) <| .nil <| ks_n ?_
  refine .cD rfl (fun h7 => ?_) (fun h7 => ?_)
  · skip
    refine .seq <| .region <| .cons (.fP 1 0 false rfl rfl) <| .cons (.l1 1 rfl rfl) <| .cons (.eq rfl rfl rfl) <| .cons (.mv rfl rfl) ?_
    refine .cD 11 rfl (fun g11 => ?_) (fun g11 => ?_)
    · skip
      refine .cons (.gT rfl rfl rfl (.fP 4 1 true rfl rfl)) <| .cons (.gT rfl rfl rfl (.lN 2 rfl rfl rfl)) <| .cons (.gT rfl rfl rfl (.cP [.tmp 13] rfl rfl rfl rfl (l3Empty_fn _) rfl)) ?_
      refine .cons (.pT rfl rfl rfl) <| .cons (.mv rfl rfl) ?_
      refine AOps.cases 16 _ rfl (fun g16 => ?_) (fun g16 => ?_)
      · try simp only [zs1, zs2, zs3, zs4, zs5, zs6, zs7] at g16
        refine .cons (.gT rfl rfl rfl (.fP 2 1 true rfl rfl)) <| .cons (.gT rfl rfl rfl (.lN 2 rfl rfl rfl)) <| .cons (.gT rfl rfl rfl (.cP [.tmp 18] rfl rfl rfl rfl (specAffV_fn _) rfl)) ?_
        refine .cons (.pT rfl rfl rfl) <| .cons (.mv rfl rfl) ?_
        refine AOps.cases 21 _ rfl (fun g21 => ?_) (fun g21 => ?_)
        · try simp only [zs1, zs2, zs3, zs4, zs5, zs6, zs7] at g21
          refine .cons (.gT rfl rfl rfl (.fP 2 1 true rfl rfl)) <| .cons (.gT rfl rfl rfl (.lN 2 rfl rfl rfl)) <| .cons (.gT rfl rfl rfl (.cP [.tmp 23] rfl rfl rfl rfl (l1Depth_fn _) rfl)) ?_
          refine .cons (.gT rfl rfl rfl (.mv rfl rfl)) <| .cons (.gT rfl rfl rfl (.le rfl rfl rfl)) <| .cons (.pT rfl rfl rfl) <| .cons (.asg rfl rfl) <| .nil <| ks_n <| .ret <| ks_r ?_
          refine kf_ret rfl ?_ nobox
          exact leafB (by rw [fldV, if_neg (show ¬ e.k = 1 by omega), if_pos h7]; cases hA : affV e.i <;> cases hC : nonC e.r <;> first | rfl | grind)
        · try simp only [zs1, zs2, zs3, zs4, zs5, zs6, zs7] at g21
          refine .cons (.gF rfl rfl rfl) <| .cons (.gF rfl rfl rfl) <| .cons (.gF rfl rfl rfl) <| .cons (.gF rfl rfl rfl) <| .cons (.gF rfl rfl rfl) <| .cons (.pF rfl rfl rfl) <| .cons (.asg rfl rfl) <| .nil <| ks_n <| .ret <| ks_r ?_
          refine kf_ret rfl ?_ nobox
          exact leafB (by rw [fldV, if_neg (show ¬ e.k = 1 by omega), if_pos h7]; cases hA : affV e.i <;> cases hC : nonC e.r <;> first | rfl | grind)
      · try simp only [zs1, zs2, zs3, zs4, zs5, zs6, zs7] at g16
        refine .cons (.gF rfl rfl rfl) <| .cons (.gF rfl rfl rfl) <| .cons (.gF rfl rfl rfl) <| .cons (.pF rfl rfl rfl) <| .cons (.mv rfl rfl) <| .cons (.gF rfl rfl rfl) <| .cons (.gF rfl rfl rfl) <| .cons (.gF rfl rfl rfl) <| .cons (.gF rfl rfl rfl) <| .cons (.gF rfl rfl rfl) <| .cons (.pF rfl rfl rfl) <| .cons (.asg rfl rfl) <| .nil <| ks_n <| .ret <| ks_r ?_
        refine kf_ret rfl ?_ nobox
        exact leafB (by rw [fldV, if_neg (show ¬ e.k = 1 by omega), if_pos h7]; cases hA : affV e.i <;> cases hC : nonC e.r <;> first | rfl | grind)
    · skip
      refine .cons (.gF rfl rfl rfl) <| .cons (.gF rfl rfl rfl) <| .cons (.gF rfl rfl rfl) <| .cons (.pF rfl rfl rfl) <| .cons (.mv rfl rfl) <| .cons (.gF rfl rfl rfl) <| .cons (.gF rfl rfl rfl) <| .cons (.gF rfl rfl rfl) <| .cons (.pF rfl rfl rfl) <| .cons (.mv rfl rfl) <| .cons (.gF rfl rfl rfl) <| .cons (.gF rfl rfl rfl) <| .cons (.gF rfl rfl rfl) <| .cons (.gF rfl rfl rfl) <| .cons (.gF rfl rfl rfl) <| .cons (.pF rfl rfl rfl) <| .cons (.asg rfl rfl) <| .nil <| ks_n <| .ret <| ks_r ?_
      refine kf_ret rfl ?_ nobox
      exact leafB (by rw [fldV, if_neg (show ¬ e.k = 1 by omega), if_pos h7]; cases hA : affV e.i <;> cases hC : nonC e.r <;> first | rfl | grind)
  · skip
    refine .skip <| ks_n <| .seq <| .seq <| .region <| .cons (.fP 0 0 false rfl rfl) <| .cons (.l1 1 rfl rfl) <| .cons (.eq rfl rfl rfl) <| .nil <| ks_n ?_
    refine .cD rfl (fun h30 => ?_) (fun h30 => ?_)
    · skip
      refine .seq <| .region <| .cons (.fP 1 0 false rfl rfl) <| .cons (.l1 1 rfl rfl) <| .cons (.eq rfl rfl rfl) <| .cons (.mv rfl rfl) ?_
      refine .cD 34 rfl (fun g34 => ?_) (fun g34 => ?_)
      · skip
        refine .cons (.gT rfl rfl rfl (.fP 2 1 true rfl rfl)) <| .cons (.gT rfl rfl rfl (.lN 2 rfl rfl rfl)) <| .cons (.gT rfl rfl rfl (.cP [.tmp 36] rfl rfl rfl rfl (l3None_fn _) rfl)) ?_
        refine .cons (.pT rfl rfl rfl) <| .cons (.mv rfl rfl) ?_
        refine AOps.cases 39 _ rfl (fun g39 => ?_) (fun g39 => ?_)
        · try simp only [zs1, zs2, zs3, zs4, zs5, zs6, zs7] at g39
          refine .cons (.gT rfl rfl rfl (.fP 4 1 true rfl rfl)) <| .cons (.gT rfl rfl rfl (.lN 2 rfl rfl rfl)) <| .cons (.gT rfl rfl rfl (.mv rfl rfl)) <| .cons (.gT rfl rfl rfl (.cP [.tmp 41, .tmp 42] rfl rfl rfl rfl (l3Access_fn d _ hr) rfl)) ?_
          refine .cons (.pT rfl rfl rfl) <| .cons (.asg rfl rfl) <| .nil <| ks_n <| .ret <| ks_r ?_
          refine kf_ret rfl ?_ nobox
          exact leafB (by rw [fldV, if_neg (show ¬ e.k = 1 by omega), if_neg h7, if_pos h30]; cases hA : nonA e.i <;> cases hC : accV d e.r <;> first | rfl | grind)
        · try simp only [zs1, zs2, zs3, zs4, zs5, zs6, zs7] at g39
          refine .cons (.gF rfl rfl rfl) <| .cons (.gF rfl rfl rfl) <| .cons (.gF rfl rfl rfl) <| .cons (.gF rfl rfl rfl) <| .cons (.pF rfl rfl rfl) <| .cons (.asg rfl rfl) <| .nil <| ks_n <| .ret <| ks_r ?_
          refine kf_ret rfl ?_ nobox
          exact leafB (by rw [fldV, if_neg (show ¬ e.k = 1 by omega), if_neg h7, if_pos h30]; cases hA : nonA e.i <;> cases hC : accV d e.r <;> first | rfl | grind)
      · skip
        refine .cons (.gF rfl rfl rfl) <| .cons (.gF rfl rfl rfl) <| .cons (.gF rfl rfl rfl) <| .cons (.pF rfl rfl rfl) <| .cons (.mv rfl rfl) <| .cons (.gF rfl rfl rfl) <| .cons (.gF rfl rfl rfl) <| .cons (.gF rfl rfl rfl) <| .cons (.gF rfl rfl rfl) <| .cons (.pF rfl rfl rfl) <| .cons (.asg rfl rfl) <| .nil <| ks_n <| .ret <| ks_r ?_
        refine kf_ret rfl ?_ nobox
        exact leafB (by rw [fldV, if_neg (show ¬ e.k = 1 by omega), if_neg h7, if_pos h30]; cases hA : nonA e.i <;> cases hC : accV d e.r <;> first | rfl | grind)
    · skip
      refine .skip <| ks_n <| .seq <| .seq <| .region <| .cons (.fP 0 0 false rfl rfl) <| .cons (.l1 1 rfl rfl) <| .cons (.eq rfl rfl rfl) <| .nil <| ks_n ?_
      refine .cD rfl (fun h47 => ?_) (fun h47 => ?_)
      · skip
        refine .seq <| .region <| .cons (.fP 1 0 false rfl rfl) <| .cons (.l1 1 rfl rfl) <| .cons (.ge rfl rfl rfl) <| .cons (.mv rfl rfl) ?_
        refine .cD 51 rfl (fun g51 => ?_) (fun g51 => ?_)
        · skip
          refine .cons (.gT rfl rfl rfl (.fP 1 0 false rfl rfl)) <| .cons (.gT rfl rfl rfl (.l1 1 rfl rfl)) <| .cons (.gT rfl rfl rfl (.le rfl rfl rfl)) <| .cons (.pT rfl rfl rfl) <| .cons (.mv rfl rfl) ?_
          refine AOps.cases 56 _ rfl (fun g56 => ?_) (fun g56 => ?_)
          · try simp only [zs1, zs2, zs3, zs4, zs5, zs6, zs7] at g56
            refine .cons (.gT rfl rfl rfl (.fP 2 1 true rfl rfl)) <| .cons (.gT rfl rfl rfl (.lN 2 rfl rfl rfl)) <| .cons (.gT rfl rfl rfl (.cP [.tmp 58] rfl rfl rfl rfl (l3None_fn _) rfl)) ?_
            refine .cons (.pT rfl rfl rfl) <| .cons (.mv rfl rfl) ?_
            refine AOps.cases 61 _ rfl (fun g61 => ?_) (fun g61 => ?_)
            · try simp only [zs1, zs2, zs3, zs4, zs5, zs6, zs7] at g61
              refine .cons (.gT rfl rfl rfl (.fP 4 1 true rfl rfl)) <| .cons (.gT rfl rfl rfl (.lN 2 rfl rfl rfl)) <| .cons (.gT rfl rfl rfl (.cP [.tmp 63] rfl rfl rfl rfl (l3Empty_fn _) rfl)) ?_
              refine .cons (.pT rfl rfl rfl) <| .cons (.asg rfl rfl) <| .nil <| ks_n <| .ret <| ks_r ?_
              refine kf_ret rfl ?_ nobox
              exact leafB (by rw [fldV, if_pos h47, inB]; cases hA : nonA e.i <;> cases hC : nonC e.r <;> first | rfl | grind)
            · try simp only [zs1, zs2, zs3, zs4, zs5, zs6, zs7] at g61
              refine .cons (.gF rfl rfl rfl) <| .cons (.gF rfl rfl rfl) <| .cons (.gF rfl rfl rfl) <| .cons (.pF rfl rfl rfl) <| .cons (.asg rfl rfl) <| .nil <| ks_n <| .ret <| ks_r ?_
              refine kf_ret rfl ?_ nobox
              exact leafB (by rw [fldV, if_pos h47, inB]; cases hA : nonA e.i <;> cases hC : nonC e.r <;> first | rfl | grind)
          · try simp only [zs1, zs2, zs3, zs4, zs5, zs6, zs7] at g56
            refine .cons (.gF rfl rfl rfl) <| .cons (.gF rfl rfl rfl) <| .cons (.gF rfl rfl rfl) <| .cons (.pF rfl rfl rfl) <| .cons (.mv rfl rfl) <| .cons (.gF rfl rfl rfl) <| .cons (.gF rfl rfl rfl) <| .cons (.gF rfl rfl rfl) <| .cons (.pF rfl rfl rfl) <| .cons (.asg rfl rfl) <| .nil <| ks_n <| .ret <| ks_r ?_
            refine kf_ret rfl ?_ nobox
            exact leafB (by rw [fldV, if_pos h47, inB]; cases hA : nonA e.i <;> cases hC : nonC e.r <;> first | rfl | grind)
        · skip
          refine .cons (.gF rfl rfl rfl) <| .cons (.gF rfl rfl rfl) <| .cons (.gF rfl rfl rfl) <| .cons (.pF rfl rfl rfl) <| .cons (.mv rfl rfl) <| .cons (.gF rfl rfl rfl) <| .cons (.gF rfl rfl rfl) <| .cons (.gF rfl rfl rfl) <| .cons (.pF rfl rfl rfl) <| .cons (.mv rfl rfl) <| .cons (.gF rfl rfl rfl) <| .cons (.gF rfl rfl rfl) <| .cons (.gF rfl rfl rfl) <| .cons (.pF rfl rfl rfl) <| .cons (.asg rfl rfl) <| .nil <| ks_n <| .ret <| ks_r ?_
          refine kf_ret rfl ?_ nobox
          exact leafB (by rw [fldV, if_pos h47, inB]; cases hA : nonA e.i <;> cases hC : nonC e.r <;> first | rfl | grind)
      · skip
        refine .skip <| ks_n <| .seq <| .region <| .cons (.fP 1 0 false rfl rfl) <| .cons (.l1 1 rfl rfl) <| .cons (.eq rfl rfl rfl) <| .cons (.mv rfl rfl) ?_
        refine .cD 69 rfl (fun g69 => ?_) (fun g69 => ?_)
        · skip
          refine .cons (.gT rfl rfl rfl (.fP 2 1 true rfl rfl)) <| .cons (.gT rfl rfl rfl (.lN 2 rfl rfl rfl)) <| .cons (.gT rfl rfl rfl (.cP [.tmp 71] rfl rfl rfl rfl (l3None_fn _) rfl)) ?_
          refine .cons (.pT rfl rfl rfl) <| .cons (.mv rfl rfl) ?_
          refine AOps.cases 74 _ rfl (fun g74 => ?_) (fun g74 => ?_)
          · try simp only [zs1, zs2, zs3, zs4, zs5, zs6, zs7] at g74
            refine .cons (.gT rfl rfl rfl (.fP 4 1 true rfl rfl)) <| .cons (.gT rfl rfl rfl (.lN 2 rfl rfl rfl)) <| .cons (.gT rfl rfl rfl (.cP [.tmp 76] rfl rfl rfl rfl (l3Empty_fn _) rfl)) ?_
            refine .cons (.pT rfl rfl rfl) <| .cons (.asg rfl rfl) <| .nil <| ks_n <| .ret ?_
            refine kf_ret rfl ?_ nobox
            exact leafB (by rw [fldV, if_neg h47, if_neg h7, if_neg h30]; cases hA : nonA e.i <;> cases hC : nonC e.r <;> first | rfl | grind)
          · try simp only [zs1, zs2, zs3, zs4, zs5, zs6, zs7] at g74
            refine .cons (.gF rfl rfl rfl) <| .cons (.gF rfl rfl rfl) <| .cons (.gF rfl rfl rfl) <| .cons (.pF rfl rfl rfl) <| .cons (.asg rfl rfl) <| .nil <| ks_n <| .ret ?_
            refine kf_ret rfl ?_ nobox
            exact leafB (by rw [fldV, if_neg h47, if_neg h7, if_neg h30]; cases hA : nonA e.i <;> cases hC : nonC e.r <;> first | rfl | grind)
        · skip
          refine .cons (.gF rfl rfl rfl) <| .cons (.gF rfl rfl rfl) <| .cons (.gF rfl rfl rfl) <| .cons (.pF rfl rfl rfl) <| .cons (.mv rfl rfl) <| .cons (.gF rfl rfl rfl) <| .cons (.gF rfl rfl rfl) <| .cons (.gF rfl rfl rfl) <| .cons (.pF rfl rfl rfl) <| .cons (.asg rfl rfl) <| .nil <| ks_n <| .ret ?_
          refine kf_ret rfl ?_ nobox
          exact leafB (by rw [fldV, if_neg h47, if_neg h7, if_neg h30]; cases hA : nonA e.i <;> cases hC : nonC e.r <;> first | rfl | grind)

theorem shape_zero (d : Nat) (lv : Int) (hl : lv < 1) (e : Ex) (hr : e.r.2.length ≤ 1099511627776) (hkl : e.ks.length ≤ 1099511627776) : Fn Try.prog 67 [] [ad (rX e), nat1 (d : Nat), nat1 lv] (.o (bo1 false)) [] := by
 refine Fn.code0 Try.func67 rfl rfl rfl rfl ?_
 refine .seq <| .region <| .cons (St1.boxP rfl rfl rfl rfl rfl rfl) <| .cons (.asg rfl rfl) <| .nil <| ks_n <| .seq <| .seq ?_
 refine ACode.drawK (by kernel_rfl) (by kernel_rfl) ?_
 refine .cons (.mv rfl rfl) <| .cons (.ls rfl rfl rfl) <| .cons (.mv rfl rfl) ?_
 refine .cD 10 rfl (fun g10 => ?_) (fun g10 => ?_)
 ·skip
  refine .cons (.gF rfl rfl rfl) <| .cons (.gF rfl rfl rfl) <| .cons (.gF rfl rfl rfl) <| .cons (.gF rfl rfl rfl) <| .cons (.gF rfl rfl rfl) <| .cons (.gF rfl rfl rfl) <| .cons (.gF rfl rfl rfl) <| .cons (.pT rfl rfl rfl) <| .cons (.mv rfl rfl) <| .cons (.gF rfl rfl rfl) <| .cons (.gF rfl rfl rfl) <| .cons (.gF rfl rfl rfl) <| .cons (.gF rfl rfl rfl) <| .cons (.pT rfl rfl rfl) ?_
  refine .nil ⟨by kernel_rfl, ?_⟩
  refine ks_n ?_
  refine ACode.condT rfl (fun _ => ?_) (fun h => by first | (cases h; done) | (simp [*] at h; done) | (exfalso; simp_all; done))
  refine .seq <| .region <| .cons (.asg rfl rfl) <| .nil <| ks_n <| .ret <| ks_r ?_
  refine kf_ret rfl ?_ nobox
  rfl
 ·skip
  exact absurd hl g10

theorem shape_succ (d L : Nat) (lv : Int) (hl : ¬ lv < 1) (hl2 : lv ≤ 100) (e : Ex) (hr : e.r.2.length ≤ 1099511627776) (hkl : e.ks.length ≤ 1099511627776) (ih : ∀ x ∈ e.ks, Fn Try.prog 67 [] [ad (rX x), nat1 (d : Nat), nat1 (lv - 1)] (.o (bo1 (exV d L x))) []) : Fn Try.prog 67 [] [ad (rX e), nat1 (d : Nat), nat1 lv] (.o (bo1 (exV d (L + 1) e))) [] := by
 refine Fn.code0 Try.func67 rfl rfl rfl rfl ?_
 refine .seq <| .region <| .cons (St1.boxP rfl rfl rfl rfl rfl rfl) <| .cons (.asg rfl rfl) <| .nil <| ks_n <| .seq <| .seq ?_
 refine ACode.cut [(.t 1, .v (.o (nat1 (d : Nat)))), (.t 2, .v (.o (nat1 lv))), (.t 3, .v (.o (.c (.ptr (rX e))))), (.t 6, .v (.o (bo1 false))), (.t 24, .v (.o (bo1 (!(kidV e.k e.ks.length && fldV d e.k e.n e.i e.r)))))] ?_ ?_
 ·skip
  refine ACode.drawK (by kernel_rfl) (by kernel_rfl) ?_
  refine .cons (.mv rfl rfl) <| .cons (.ls rfl rfl rfl) <| .cons (.mv rfl rfl) ?_
  refine .cD 10 rfl (fun g10 => ?_) (fun g10 => ?_)
  ·skip
   exact absurd g10 hl
  ·skip
   refine .cons (.gT rfl rfl rfl (.fP 0 0 false rfl rfl)) <| .cons (.gT rfl rfl rfl (.l1 1 rfl rfl)) <| .cons (.gT rfl rfl rfl (.cP [.tmp 12] rfl rfl rfl rfl (l3Kids_fn _) rfl)) ?_
   refine .cons (.gT rfl rfl rfl (.fP 6 0 false rfl rfl)) <| .cons (.gT rfl rfl rfl (.l1 1 rfl rfl)) <| .cons (.gT rfl rfl rfl (.ln 77 7 112 rfl rfl rfl)) <| .cons (.gT rfl rfl rfl (.ne rfl rfl rfl)) <| .cons (.pF rfl rfl rfl) <| .cons (.mv rfl rfl) ?_
   refine RunK.cases 19 _ rfl (fun g19 => ?_) (fun g19 => ?_)
   ·try simp only [zs1, zs2, zs3, zs4, zs5, zs6, zs7] at g19
    refine .cons (.gF rfl rfl rfl) <| .cons (.gF rfl rfl rfl) <| .cons (.gF rfl rfl rfl) <| .cons (.gF rfl rfl rfl) <| .cons (.pT rfl rfl rfl) ?_
    refine .nil ⟨by kernel_rfl, ?_⟩
    exact kc_n (Wk.keep [] rfl rfl ⟨ks rfl .dt, ks rfl .dt, ks rfl .dt, ks rfl .dt, ks rfl (.dt (vB (by rw [kids_eq]; first | rfl | grind))), trivial⟩)
   ·try simp only [zs1, zs2, zs3, zs4, zs5, zs6, zs7] at g19
    refine .cons (.gT rfl rfl rfl (.lN 7 rfl rfl rfl)) <| .cons (.gT rfl rfl rfl (.mv rfl rfl)) <| .cons (.gT rfl rfl rfl (.cP [.tmp 20, .tmp 21] rfl rfl rfl rfl (l3Own_fn d e hr) rfl)) ?_
    refine .cons (.gT rfl rfl rfl (.nt rfl rfl)) <| .cons (.pF rfl rfl rfl) ?_
    refine .nil ⟨by kernel_rfl, ?_⟩
    exact kc_n (Wk.keep [] rfl rfl ⟨ks rfl .dt, ks rfl .dt, ks rfl .dt, ks rfl .dt, ks rfl (.dt (vB (by rw [kids_eq]; first | rfl | grind))), trivial⟩)
 refine ks_n ?_
 refine ACode.condT rfl (fun h24 => ?_) (fun h24 => ?_)
 ·try simp only [zs1, zs2, zs3, zs4, zs5, zs6, zs7] at h24
  refine .seq <| .region <| .cons (.asg rfl rfl) <| .nil <| ks_n <| .ret <| ks_r ?_
  refine kf_ret rfl ?_ nobox
  exact leafB (by rw [exV, h24]; rfl)
 ·try simp only [zs1, zs2, zs3, zs4, zs5, zs6, zs7] at h24
  refine .skip <| ks_n <| .seq <| .seq <| .region <| .cons (.asg rfl rfl) <| .nil <| ks_n <| .block ?_
  refine .loopK (fun m σ => (∃ i : Nat, m = e.ks.length - i ∧ (i ≤ e.ks.length) ∧ (e.ks.all (exV d L) = (e.ks.drop i).all (exV d L)) ∧ σ = [(.t 1, .v (.o (nat1 (d : Nat)))), (.t 2, .v (.o (nat1 lv))), (.t 3, .v (.o (.c (.ptr (rX e))))), (.t 6, .v (.o (bo1 false))), (.t 7, .v (.o (nat1 (i : Nat))))])) [] ⟨0, rfl, by omega, by simp, rfl⟩ ⟨ks rfl .dt, ks rfl .dt, ks rfl .dt, ks rfl .dt, ks rfl .dt, trivial⟩ ?_
  rintro m σ ⟨i, hm0, hi, hF, rfl⟩
  refine .seq <| .seq <| .region <| .cons (.mv rfl rfl) <| .cons (.fP 6 0 false rfl rfl) <| .cons (.l1 1 rfl rfl) <| .cons (.ln 77 7 112 rfl rfl rfl) <| .cons (.ls rfl rfl rfl) <| .nil <| ks_n ?_
  refine .cD rfl (fun h29 => ?_) (fun h29 => ?_)
  ·skip
   obtain ⟨x, hx1⟩ : ∃ x, e.ks[i]? = some x := ⟨_, List.getElem?_eq_getElem (by omega)⟩
   refine .skip <| ks_n <| .seq <| .block <| .seq <| .region <| .cons (.fP 6 0 false rfl rfl) <| .cons (.l1 1 rfl rfl) <| .cons (.mv rfl rfl) <| .cons (.xL 77 7 112 rfl rfl rfl rfl rfl (rE_at hx1)) ?_
   refine .cons (.lN 7 rfl rfl rfl) <| .cons (.mv rfl rfl) <| .cons (.mv rfl rfl) <| .cons (.sb rfl rfl rfl) <| .cons (.cP [.tmp 36, .tmp 37, .tmp 39] rfl rfl rfl rfl (ih x (List.mem_of_getElem? hx1)) rfl) ?_
   refine .cons (.nt rfl rfl) <| .nil <| ks_n ?_
   refine ACode.condT rfl (fun h41 => ?_) (fun h41 => ?_)
   ·try simp only [zs1, zs2, zs3, zs4, zs5, zs6, zs7] at h41
    refine .seq <| .region <| .cons (.asg rfl rfl) <| .nil <| ks_n <| .ret <| kb_r <| ks_r <| kl_r <| kb_r <| ks_r ?_
    refine kf_ret rfl ?_ nobox
    exact leafB (by rw [exV, h24, hF, all_drop hx1, h41]; rfl)
   ·try simp only [zs1, zs2, zs3, zs4, zs5, zs6, zs7] at h41
    refine .skip <| kb_n <| ks_n <| .region <| .cons (.mv rfl rfl) <| .cons (.pl rfl rfl rfl) <| .cons (.asg rfl rfl) <| .nil ?_
    refine kl_k [] ⟨i + 1, rfl, by omega, by rw [hF, all_drop hx1, h41, Bool.true_and], rfl⟩ ⟨ks rfl .dt, ks rfl .dt, ks rfl .dt, ks rfl .dt, ks rfl .dt, trivial⟩
  ·skip
   refine .exit <| ks_e <| kl_e <| kb_hit <| ks_n <| .seq <| .region <| .cons (.asg rfl rfl) <| .nil <| ks_n <| .ret ?_
   refine kf_ret rfl ?_ nobox
   exact leafB (by rw [exV, h24, hF, List.drop_of_length_le (by omega)]; rfl)

theorem szE_parts {e : Ex} (hs : szE e ≤ 1099511627776) : e.i.1.length ≤ 1099511627776 ∧ e.r.2.length ≤ 1099511627776 ∧ e.ks.length ≤ 1099511627776 ∧ ∀ x ∈ e.ks, szE x ≤ 1099511627776 := by
  rw [szE_eq, szC] at hs
  have := szAs_len e.r.2
  exact ⟨by omega, by omega, by omega, fun x hx => by have := szEs_mem hx; omega⟩
theorem l3Shape_fn (d : Nat) : ∀ (L : Nat) (lv : Int) (e : Ex), lv = (L : Int) → L ≤ 100 → szE e ≤ 1099511627776 → Fn Try.prog 67 [] [ad (rX e), nat1 (d : Nat), nat1 lv] (.o (bo1 (exV d L e))) []
  | 0, lv, e, hd, hL, hs => shape_zero d lv (by omega) e (szE_parts hs).2.1 (szE_parts hs).2.2.1
  | L + 1, lv, e, hd, hL, hs => shape_succ d L lv (by omega) (by omega) e (szE_parts hs).2.1 (szE_parts hs).2.2.1 fun x hx => l3Shape_fn d L (lv - 1) x (by omega) (by omega) ((szE_parts hs).2.2.2 x hx)
theorem cntEs_take {l : List Ex} {i : Nat} {x : Ex} (h : l[i]? = some x) : cntEs (l.take (i + 1)) = cntEs (l.take i) + cntE x := by
  have key : ∀ (a : List Ex) (x : Ex), cntEs (a ++ [x]) = cntEs a + cntE x := by
    intro a x
    induction a with
    | nil => simp [cntEs]
    | cons y a ih => rw [List.cons_append, cntEs, cntEs, ih]; omega
  rw [List.take_add_one, h]
  exact key _ _
theorem cnt_bd {d : Nat} : ∀ {L : Nat} {e : Ex}, exV d L e = true → cntE e + 1 ≤ 2 ^ L
  | 0, e, h => by cases h
  | L + 1, e, h => by
    rw [exV, Bool.and_eq_true, Bool.and_eq_true] at h
    rw [cntE_eq]
    have hp : 1 ≤ 2 ^ L := Nat.one_le_two_pow
    rcases kidV_len h.1.1 with h1 | h1
    · rw [List.eq_nil_of_length_eq_zero h1, cntEs, Nat.pow_succ]; omega
    · obtain ⟨x, y, h2⟩ := two_of h1
      have h3 := h.2
      rw [h2, List.all_cons, List.all_cons, Bool.and_eq_true, Bool.and_eq_true] at h3
      have := cnt_bd h3.1
      have := cnt_bd h3.2.1
      rw [h2, cntEs, cntEs, cntEs, Nat.pow_succ]; omega
theorem exV_kids {d L : Nat} {e : Ex} (h : exV d L e = true) : e.ks.length ≤ 2 ∧ ∀ x ∈ e.ks, exV d (L - 1) x = true := by
  cases L with
  | zero => cases h
  | succ L =>
    rw [exV, Bool.and_eq_true, Bool.and_eq_true] at h
    exact ⟨by have := kidV_len h.1.1; omega, fun x hx => List.all_eq_true.1 h.2 x hx⟩

theorem l3Count_one (d L : Nat) (lv : Int) (hl : 0 < lv) (hl2 : lv ≤ 100) (e : Ex) (hk2 : e.ks.length ≤ 2) (hb : ∀ x ∈ e.ks, cntE x ≤ 1000) (ih : ∀ x ∈ e.ks, Fn Try.prog 68 [] [ad (rX x), nat1 (lv - 1)] (.o (nat1 (cntE x : Nat))) []) : Fn Try.prog 68 [] [ad (rX e), nat1 lv] (.o (nat1 (cntE e : Nat))) [] := by
 refine Fn.code0 Try.func68 rfl rfl rfl rfl ?_
 refine .seq <| .region <| .cons (St1.boxP rfl rfl rfl rfl rfl rfl) <| .cons (.asg rfl rfl) <| .nil <| ks_n <| .seq <| .region <| .cons (.asg rfl rfl) <| .nil <| ks_n <| .seq <| .seq <| .region <| .cons (.asg rfl rfl) <| .nil <| ks_n <| .block ?_
 refine .loopK (fun m σ => (∃ i : Nat, m = e.ks.length - i ∧ (i ≤ e.ks.length) ∧ (cntEs (e.ks.take i) ≤ 1000 * i) ∧ σ = [(.t 1, .v (.o (nat1 lv))), (.t 2, .v (.o (.c (.ptr (rX e))))), (.t 5, .v (.o (nat1 ((1 + cntEs (e.ks.take i) : Nat))))), (.t 6, .v (.o (nat1 (i : Nat))))])) [] ⟨0, rfl, by omega, by simp [cntEs], rfl⟩ ⟨ks rfl .dt, ks rfl .dt, ks rfl (.dt (vI (by first | (simp [cntEs]; done) | (rw [cntEs_take hx1]; omega)))), ks rfl .dt, trivial⟩ ?_
 rintro m σ ⟨i, hm0, hi, hF, rfl⟩
 refine .seq <| .seq <| .region <| .cons (.mv rfl rfl) <| .cons (.fP 6 0 false rfl rfl) <| .cons (.l1 1 rfl rfl) <| .cons (.ln 77 7 112 rfl rfl rfl) <| .cons (.ls rfl rfl rfl) <| .cons (.mv rfl rfl) ?_
 refine .cD 12 rfl (fun g12 => ?_) (fun g12 => ?_)
 ·skip
  obtain ⟨x, hx1⟩ : ∃ x, e.ks[i]? = some x := ⟨_, List.getElem?_eq_getElem (by omega)⟩
  have hbx := hb x (List.mem_of_getElem? hx1)
  refine .cons (.gT rfl rfl rfl (.mv rfl rfl)) <| .cons (.gT rfl rfl rfl (.gt rfl rfl rfl)) <| .cons (.pT rfl rfl rfl) <| .nil <| ks_n ?_
  refine ACode.condT rfl (fun h15 => ?_) (fun h15 => ?_)
  ·try simp only [zs1, zs2, zs3, zs4, zs5, zs6, zs7] at h15
   refine .skip <| ks_n <| .seq <| .block <| .region <| .cons (.mv rfl rfl) <| .cons (.fP 6 0 false rfl rfl) <| .cons (.l1 1 rfl rfl) <| .cons (.mv rfl rfl) <| .cons (.xL 77 7 112 rfl rfl rfl rfl rfl (rE_at hx1)) ?_
   refine .cons (.lN 7 rfl rfl rfl) <| .cons (.mv rfl rfl) <| .cons (.sb rfl rfl rfl) <| .cons (.cP [.tmp 23, .tmp 25] rfl rfl rfl rfl (ih x (List.mem_of_getElem? hx1)) rfl) ?_
   refine .cons (.pl rfl rfl rfl) <| .cons (.asg rfl rfl) <| .nil <| kb_n <| ks_n <| .region <| .cons (.mv rfl rfl) <| .cons (.pl rfl rfl rfl) <| .cons (.asg rfl rfl) <| .nil ?_
   refine kl_k [] ⟨i + 1, rfl, by omega, by rw [cntEs_take hx1]; omega, rfl⟩ ⟨ks rfl .dt, ks rfl .dt, ks rfl (.dt (vI (by first | (simp [cntEs]; done) | (rw [cntEs_take hx1]; omega)))), ks rfl .dt, trivial⟩
  ·try simp only [zs1, zs2, zs3, zs4, zs5, zs6, zs7] at h15
   exact absurd hl h15
 ·skip
  have hall : e.ks.take i = e.ks := List.take_of_length_le (by omega)
  refine .cons (.gF rfl rfl rfl) <| .cons (.gF rfl rfl rfl) <| .cons (.pF rfl rfl rfl) <| .nil <| ks_n ?_
  refine ACode.condT rfl (fun h => by first | (cases h; done) | (simp [*] at h; done) | (exfalso; simp_all; done)) (fun _ => ?_)
  refine .exit <| ks_e <| kl_e <| kb_hit <| ks_n <| .seq <| .region <| .cons (.mv rfl rfl) <| .cons (.asg rfl rfl) <| .nil <| ks_n <| .ret ?_
  refine kf_ret rfl ?_ nobox
  exact leafI (by rw [cntE_eq, hall])

theorem l3Count_fn (d : Nat) : ∀ (L : Nat) (lv : Int) (e : Ex), lv = (L : Int) → L ≤ 6 → exV d L e = true → Fn Try.prog 68 [] [ad (rX e), nat1 lv] (.o (nat1 (cntE e : Nat))) []
  | 0, lv, e, hd, hL, h => by cases h
  | L + 1, lv, e, hd, hL, h => l3Count_one d L lv (by omega) (by omega) e (exV_kids h).1 (fun x hx => by
      have h1 := cnt_bd ((exV_kids h).2 x hx)
      have h2 : 2 ^ (L + 1 - 1) ≤ 2 ^ 6 := Nat.pow_le_pow_right (by omega) (by omega)
      omega) fun x hx => l3Count_fn d L (lv - 1) x (by omega) (by omega) ((exV_kids h).2 x hx)
theorem l3Access_fi {d : Int} (h : ((d.toNat : Nat) : Int) = d) (a : Acc) (ha : a.2.length ≤ 1099511627776) : Fn Try.prog 66 [] [ad (rC a), nat1 d] (.o (bo1 (accV d.toNat a))) [] := by
  have h2 := l3Access_fn d.toNat a ha
  rw [h] at h2; exact h2
theorem l3Shape_fi {d : Int} (h : ((d.toNat : Nat) : Int) = d) (e : Ex) (hs : szE e ≤ 1099511627776) : Fn Try.prog 67 [] [ad (rX e), nat1 d, nat1 5] (.o (bo1 (exV d.toNat 5 e))) [] := by
  have h2 := l3Shape_fn d.toNat 5 5 e rfl (by omega) hs
  rw [h] at h2; exact h2

theorem specStmtV_fn (d : Int) (s : Stm) (hs : szS s ≤ 1099511627776) : Fn Try.prog 48 [] [ad (rS s), nat1 d] (.o (bo1 (stmtV d s))) [] := by
 obtain ⟨hs1, hs2⟩ := szS_parts hs
 refine Fn.code0 Try.func48 rfl rfl rfl rfl ?_
 refine .seq <| .region <| .cons (St1.boxP rfl rfl rfl rfl rfl rfl) <| .cons (.asg rfl rfl) <| .nil <| ks_n <| .seq <| .seq ?_
 refine ACode.cut [(.t 2, .v (.o (.c (.ptr (rS s))))), (.t 4, .v (.o (bo1 false))), (.t 24, .v (.o (bo1 (!(inB d 0 4 && (accV d.toNat s.1 && exV d.toNat 5 s.2))))))] ?_ ?_
 ·skip
  refine .region <| .cons (.mv rfl rfl) <| .cons (.ls rfl rfl rfl) <| .cons (.mv rfl rfl) ?_
  refine .cD 7 rfl (fun g7 => ?_) (fun g7 => ?_)
  ·skip
   refine .cons (.gF rfl rfl rfl) <| .cons (.gF rfl rfl rfl) <| .cons (.pT rfl rfl rfl) <| .cons (.mv rfl rfl) <| .cons (.gF rfl rfl rfl) <| .cons (.gF rfl rfl rfl) <| .cons (.gF rfl rfl rfl) <| .cons (.gF rfl rfl rfl) <| .cons (.gF rfl rfl rfl) <| .cons (.pT rfl rfl rfl) <| .cons (.mv rfl rfl) <| .cons (.gF rfl rfl rfl) <| .cons (.gF rfl rfl rfl) <| .cons (.gF rfl rfl rfl) <| .cons (.gF rfl rfl rfl) <| .cons (.gF rfl rfl rfl) <| .cons (.pT rfl rfl rfl) <| .nil ?_
   exact kc_n (Wk.keep [] rfl rfl ⟨ks rfl .dt, ks rfl .dt, ks rfl (.dt (vB (by rw [inB]; cases hq1 : accV d.toNat s.1 <;> cases hq2 : exV d.toNat 5 s.2 <;> first | rfl | grind))), trivial⟩)
  ·skip
   refine .cons (.gT rfl rfl rfl (.mv rfl rfl)) <| .cons (.gT rfl rfl rfl (.gt rfl rfl rfl)) <| .cons (.pF rfl rfl rfl) <| .cons (.mv rfl rfl) ?_
   refine AOps.cases 11 _ rfl (fun g11 => ?_) (fun g11 => ?_)
   ·try simp only [zs1, zs2, zs3, zs4, zs5, zs6, zs7] at g11
    refine .cons (.gF rfl rfl rfl) <| .cons (.gF rfl rfl rfl) <| .cons (.gF rfl rfl rfl) <| .cons (.gF rfl rfl rfl) <| .cons (.gF rfl rfl rfl) <| .cons (.pT rfl rfl rfl) <| .cons (.mv rfl rfl) <| .cons (.gF rfl rfl rfl) <| .cons (.gF rfl rfl rfl) <| .cons (.gF rfl rfl rfl) <| .cons (.gF rfl rfl rfl) <| .cons (.gF rfl rfl rfl) <| .cons (.pT rfl rfl rfl) <| .nil ?_
    exact kc_n (Wk.keep [] rfl rfl ⟨ks rfl .dt, ks rfl .dt, ks rfl (.dt (vB (by rw [inB]; cases hq1 : accV d.toNat s.1 <;> cases hq2 : exV d.toNat 5 s.2 <;> first | rfl | grind))), trivial⟩)
   ·try simp only [zs1, zs2, zs3, zs4, zs5, zs6, zs7] at g11
    have hD : ((d.toNat : Nat) : Int) = d := by omega
    refine .cons (.gT rfl rfl rfl (.fP 0 1 true rfl rfl)) <| .cons (.gT rfl rfl rfl (.lN 2 rfl rfl rfl)) <| .cons (.gT rfl rfl rfl (.mv rfl rfl)) <| .cons (.gT rfl rfl rfl (.cP [.tmp 13, .tmp 14] rfl rfl rfl rfl (l3Access_fi hD s.1 hs1) rfl)) ?_
    refine .cons (.gT rfl rfl rfl (.nt rfl rfl)) <| .cons (.pF rfl rfl rfl) <| .cons (.mv rfl rfl) ?_
    refine AOps.cases 18 _ rfl (fun g18 => ?_) (fun g18 => ?_)
    ·try simp only [zs1, zs2, zs3, zs4, zs5, zs6, zs7] at g18
     refine .cons (.gF rfl rfl rfl) <| .cons (.gF rfl rfl rfl) <| .cons (.gF rfl rfl rfl) <| .cons (.gF rfl rfl rfl) <| .cons (.gF rfl rfl rfl) <| .cons (.pT rfl rfl rfl) <| .nil ?_
     exact kc_n (Wk.keep [] rfl rfl ⟨ks rfl .dt, ks rfl .dt, ks rfl (.dt (vB (by rw [inB]; cases hq1 : accV d.toNat s.1 <;> cases hq2 : exV d.toNat 5 s.2 <;> first | rfl | grind))), trivial⟩)
    ·try simp only [zs1, zs2, zs3, zs4, zs5, zs6, zs7] at g18
     refine .cons (.gT rfl rfl rfl (.fP 2 6 true rfl rfl)) <| .cons (.gT rfl rfl rfl (.lN 7 rfl rfl rfl)) <| .cons (.gT rfl rfl rfl (.mv rfl rfl)) <| .cons (.gT rfl rfl rfl (.cP [.tmp 20, .tmp 21, .const (.int .i64 (5))] rfl rfl rfl rfl (l3Shape_fi hD s.2 hs2) rfl)) ?_
     refine .cons (.gT rfl rfl rfl (.nt rfl rfl)) <| .cons (.pF rfl rfl rfl) <| .nil ?_
     exact kc_n (Wk.keep [] rfl rfl ⟨ks rfl .dt, ks rfl .dt, ks rfl (.dt (vB (by rw [inB]; cases hq1 : accV d.toNat s.1 <;> cases hq2 : exV d.toNat 5 s.2 <;> first | rfl | grind))), trivial⟩)
 refine ks_n ?_
 refine ACode.condT rfl (fun h24 => ?_) (fun h24 => ?_)
 ·try simp only [zs1, zs2, zs3, zs4, zs5, zs6, zs7] at h24
  refine .seq <| .region <| .cons (.asg rfl rfl) <| .nil <| ks_n <| .ret <| ks_r ?_
  refine kf_ret rfl ?_ nobox
  exact leafB (by rw [stmtV, ← Bool.and_assoc, h24]; rfl)
 ·try simp only [zs1, zs2, zs3, zs4, zs5, zs6, zs7] at h24
  have hX : exV d.toNat 5 s.2 = true := by simp only [Bool.and_eq_true] at h24; exact h24.2.2
  have hI : inB d 0 4 = true := by simp only [Bool.and_eq_true] at h24; exact h24.1
  have hA : accV d.toNat s.1 = true := by simp only [Bool.and_eq_true] at h24; exact h24.2.1
  refine .skip <| ks_n <| .seq <| .region <| .cons (.fP 2 6 true rfl rfl) <| .cons (.lN 7 rfl rfl rfl) <| .cons (.cP [.tmp 26, .const (.int .i64 (5))] rfl rfl rfl rfl (l3Count_fn d.toNat 5 5 s.2 rfl (by omega) hX) rfl) ?_
  refine .cons (.le rfl rfl rfl) <| .cons (.asg rfl rfl) <| .nil <| ks_n <| .ret ?_
  refine kf_ret rfl ?_ nobox
  exact leafB (by rw [stmtV, hI, hA, hX]; simp; omega)
theorem RetA2.mono {P Q : Nat → Prop} {x : Aff} {ok : Bool} {w : World} {e : Ending} {w' : World} (hp : ∀ b, P b → Q b) (h : RetA2 P x ok w e w') : RetA2 Q x ok w e w' := by
  obtain ⟨v, e, ha, hb⟩ := h
  exact ⟨v, e, ha.mono fun b hb _ => hp b hb, hb⟩
theorem dR_af (f : Aff → Aff) (l : List Aff) : dR ((l.take l.length).map fun x => rA (f x)) = dR ((l.map f).map rA) := by
  rw [List.take_length, List.map_map]; rfl


theorem l3CopyAff_fn {x : Aff} (hx : x.1.length ≤ 1073741824) : Fn Try.prog 91 [] [ad (rA x)] (.o (ad (rA x))) [] := by
 refine Fn.code0 Try.func91 rfl rfl rfl rfl ?_
 refine .seq <| .region <| .cons (St1.boxP rfl rfl rfl rfl rfl rfl) <| .cons (.al 102 [.slice none 0 0, .int .i64 0] rfl rfl rfl) <| .nil <| ks_n <| .seq <| .seq <| .region <| .cons (.fP 0 0 false rfl rfl) <| .cons (.l1 1 rfl rfl) <| .cons (.ln 3 1 8 rfl rfl rfl) <| .cons (.eq rfl rfl rfl) <| .nil <| ks_n ?_
 refine .cD rfl (fun h6 => ?_) (fun h6 => ?_)
 ·skip
  have hn : x.1 = [] := List.eq_nil_of_length_eq_zero (by omega)
  refine .seq <| .region <| .cons (.fP 1 0 false rfl rfl) <| .cons (.l1 1 rfl rfl) <| .cons (.bu [(1, .tmp 8)] [(0, 1), (1, 1)] [.slice none 0 0, .int .i64 0] rfl rfl rfl rfl rfl) <| .cons (.sT 2 true rfl rfl rfl rfl rfl rfl rfl) <| .nil <| ks_n <| .ret <| ks_r ?_
  refine kf_wret [(.t 2, .v (.o (.c (.box 100 2 0 0)))), (.b 100, .b 74 2 [[.d (dIs x.1), .d (dI x.2)]]), (.u 100, .u)] (Wk.keep [(100, 102)] rfl rfl ⟨ks rfl (.c .bx), kb 102 rfl (.cons (.cons (Cto.nilE 1 (by rw [hn]; rfl)) (.cons .dt Ctos.nil)) .nil), trivial⟩) rfl ?_ nobox
  rfl
 ·skip
  refine .skip <| ks_n <| .seq ?_
  refine ACode.drawK (by kernel_rfl) (by kernel_rfl) ?_
  refine .cons (St1.lit0 (k' := 110) (e := 3) (sz := 1) (b := true) rfl rfl rfl rfl (by kernel_rfl) rfl rfl) ?_
  refine .cons (.fP 0 0 false rfl rfl) <| .cons (.l1 1 rfl rfl) <| .cons (St1.appD (rows := []) (e := 3) (sz := 0) (by' := 8) rfl rfl rfl rfl rfl (by kernel_rfl) rfl rfl rfl rfl rfl (by simp; omega) rfl) ?_
  refine .cons (.fP 1 0 false rfl rfl) <| .cons (.l1 1 rfl rfl) <| .cons (.bu [(0, .tmp 13), (1, .tmp 15)] [(0, 1), (1, 1)] [.slice none 0 0, .int .i64 0] rfl rfl rfl rfl rfl) <| .cons (.sT 2 true rfl rfl rfl rfl rfl rfl rfl) ?_
  refine .nil ⟨by kernel_rfl, ?_⟩
  refine ks_n <| .ret ?_
  refine kf_wret [(.t 2, .v (.o (.c (.box 100 2 0 0)))), (.b 100, .b 74 2 [[.d (dIs x.1), .d (dI x.2)]]), (.u 100, .u)] (Wk.keep [(100, 102)] rfl rfl ⟨ks rfl (.c .bx), kb 102 rfl (.cons (.cons (.dt) (.cons .dt Ctos.nil)) .nil), trivial⟩) rfl ?_ nobox
  rfl

theorem l3CopyAcc_fn (a : Acc) (ha : a.2.length ≤ 1073741824) (hq : ∀ x ∈ a.2, x.1.length ≤ 1073741824) : Fn Try.prog 71 [] [ad (rC a)] (.o (ad (rC a))) [] := by
 refine Fn.code0 Try.func71 rfl rfl rfl rfl ?_
 refine .seq <| .region <| .cons (St1.boxP rfl rfl rfl rfl rfl rfl) <| .cons (.al 102 [.string ByteArray.empty, .slice none 0 0] rfl rfl rfl) <| .nil <| ks_n <| .seq <| .region <| .cons (.fP 0 0 false rfl rfl) <| .cons (.l1 1 rfl rfl) <| .cons (.bu [(0, .tmp 6)] [(0, 1), (1, 1)] [.string ByteArray.empty, .slice none 0 0] rfl rfl rfl rfl rfl) <| .cons (.al 103 [.string ByteArray.empty, .slice none 0 0] rfl rfl rfl) <| .cons (.sT 2 true rfl rfl rfl rfl rfl rfl rfl) <| .nil <| ks_n <| .seq <| .seq <| .region <| .cons (.asg rfl rfl) <| .nil <| ks_n <| .block ?_
 refine .loopK (fun m σ => (∃ i : Nat, m = a.2.length - i ∧ (i = 0) ∧ σ = [(.t 1, .v (.o (.c (.ptr (rC a))))), (.t 2, .v (.o (.c (.box 110 2 0 0)))), (.t 3, .v (.o (.c (.box 111 2 0 0)))), (.t 4, .v (.o (nat1 (i : Nat)))), (.b 110, .b 72 2 [[.d (dS ByteArray.empty), .d (.val (.slice none 0 0))]]), (.u 110, .u), (.b 111, .b 72 2 [[.d (dS a.1), .d (.val (.slice none 0 0))]]), (.u 111, .u)]) ∨ (∃ i : Nat, m = a.2.length - i ∧ (1 ≤ i) ∧ (i ≤ a.2.length) ∧ σ = [(.t 1, .v (.o (.c (.ptr (rC a))))), (.t 2, .v (.o (.c (.box 110 2 0 0)))), (.t 3, .v (.o (.c (.box 111 2 0 0)))), (.t 4, .v (.o (nat1 (i : Nat)))), (.b 110, .b 72 2 [[.d (dS ByteArray.empty), .d (.val (.slice none 0 0))]]), (.u 110, .u), (.b 112, .b 74 2 (dR ((a.2.take i).map rA))), (.u 112, .u), (.b 111, .b 72 2 [[.d (dS a.1), .own 112 2 (i)]]), (.u 111, .u)])) [(110, 102), (111, 103)] (.inl ⟨0, rfl, rfl, rfl⟩) ⟨ks rfl .dt, ks rfl (.c .bx), ks rfl (.c .bx), ks rfl .dt, kb 102 rfl (.cons (.cons .dt (.cons .dt Ctos.nil)) .nil), kb 103 rfl (.cons (.cons .dt (.cons .dt Ctos.nil)) .nil), trivial⟩ ?_
 rintro m σ (⟨i, hm0, rfl, rfl⟩ | ⟨i, hm0, hi1, hi2, rfl⟩)
 ·skip
  refine .seq <| .seq <| .region <| .cons (.mv rfl rfl) <| .cons (.fP 1 0 false rfl rfl) <| .cons (.l1 1 rfl rfl) <| .cons (.ln 74 2 32 rfl rfl rfl) <| .cons (.ls rfl rfl rfl) <| .nil <| ks_n ?_
  refine .cD rfl (fun h12 => ?_) (fun h12 => ?_)
  ·skip
   obtain ⟨x, hx1⟩ : ∃ x, a.2[0]? = some x := ⟨_, List.getElem?_eq_getElem (by omega)⟩
   refine .skip <| ks_n <| .seq <| .block ?_
   refine ACode.drawK (by kernel_rfl) (by kernel_rfl) ?_
   refine .cons (.fB 1 0 false rfl rfl rfl) <| .cons (.b1 1 rfl rfl rfl rfl rfl rfl) <| .cons (.fP 1 0 false rfl rfl) <| .cons (.l1 1 rfl rfl) <| .cons (.mv rfl rfl) <| .cons (.xL 74 2 32 rfl rfl rfl rfl rfl) ?_
   refine .cons (.lN 2 rfl rfl rfl) <| .cons (.cP [.tmp 21] rfl rfl rfl rfl (l3CopyAff_fn (hq x (List.mem_of_getElem? hx1))) rfl) ?_
   refine .cons (.li 74 1 0 [.tmp 22] rfl rfl rfl rfl rfl rfl) <| .cons (St1.appN (k' := 124) (e := 74) (sz := 1) (by' := 32) rfl rfl rfl rfl rfl (by kernel_rfl) rfl rfl rfl (by simp) (by first | (simp [dR]; done) | (simp [dR]; omega)) rfl rfl) ?_
   refine .cons (.fB 1 0 false rfl rfl rfl) <| .cons (.sT 1 false rfl rfl rfl rfl rfl rfl rfl) ?_
   refine .nil ⟨by kernel_rfl, ?_⟩
   refine kb_n <| ks_n <| .region <| .cons (.mv rfl rfl) <| .cons (.pl rfl rfl rfl) <| .cons (.asg rfl rfl) <| .nil ?_
   refine kl_k [(110, 110), (111, 111), (112, 124)] (.inr ⟨1, rfl, by omega, by omega, rfl⟩) ⟨ks rfl .dt, ks rfl (.c .bx), ks rfl (.c .bx), ks rfl .dt, kb 110 rfl (.cons (.cons .dt (.cons .dt Ctos.nil)) .nil), kb 124 rfl (.dt rfl (by first | exact dR_take (rA) hx1 | exact dR_take1 (rA) hx1 | rfl | (simp [dR]; done))), kb 111 rfl (.cons (.cons .dt (.cons .ow Ctos.nil)) .nil), trivial⟩
  ·skip
   have hn : a.2 = [] := List.eq_nil_of_length_eq_zero (by omega)
   refine .exit <| ks_e <| kl_e <| kb_hit <| ks_n <| .seq <| .region <| .cons (.bN 2 rfl rfl rfl rfl rfl rfl) <| .cons (.sT 2 true rfl rfl rfl rfl rfl rfl rfl) <| .nil <| ks_n <| .ret ?_
   refine kf_wret [(.t 2, .v (.o (.c (.box 100 2 0 0)))), (.b 100, .b 72 2 [[.d (dS a.1), .d (dAs a.2)]]), (.u 100, .u)] (Wk.keep [(100, 110)] rfl rfl ⟨ks rfl (.c .bx), kb 110 rfl (.cons (.cons .dt (.cons (Cto.nilE 2 (by rw [hn]; rfl)) Ctos.nil)) .nil), trivial⟩) rfl ?_ nobox
   rfl
 ·skip
  refine .seq <| .seq <| .region <| .cons (.mv rfl rfl) <| .cons (.fP 1 0 false rfl rfl) <| .cons (.l1 1 rfl rfl) <| .cons (.ln 74 2 32 rfl rfl rfl) <| .cons (.ls rfl rfl rfl) <| .nil <| ks_n ?_
  refine .cD rfl (fun h12 => ?_) (fun h12 => ?_)
  ·skip
   obtain ⟨x, hx1⟩ : ∃ x, a.2[i]? = some x := ⟨_, List.getElem?_eq_getElem (by omega)⟩
   refine .skip <| ks_n <| .seq <| .block ?_
   refine ACode.drawK (by kernel_rfl) (by kernel_rfl) ?_
   refine .cons (.fB 1 0 false rfl rfl rfl) <| .cons (.b1 1 rfl rfl rfl rfl rfl rfl) <| .cons (.fP 1 0 false rfl rfl) <| .cons (.l1 1 rfl rfl) <| .cons (.mv rfl rfl) <| .cons (.xL 74 2 32 rfl rfl rfl rfl rfl) ?_
   refine .cons (.lN 2 rfl rfl rfl) <| .cons (.cP [.tmp 21] rfl rfl rfl rfl (l3CopyAff_fn (hq x (List.mem_of_getElem? hx1))) rfl) ?_
   refine .cons (.li 74 1 0 [.tmp 22] rfl rfl rfl rfl rfl rfl) <| .cons (St1.appB (k' := 124) (e := 74) (sz := 1) (by' := 32) rfl rfl rfl rfl rfl (by kernel_rfl) rfl rfl rfl rfl (by first | (simp [dR]; done) | (simp [dR]; omega)) (by first | (simp [dR]; done) | (simp [dR]; omega)) rfl rfl rfl) ?_
   refine .cons (.fB 1 0 false rfl rfl rfl) <| .cons (.sT 1 false rfl rfl rfl rfl rfl rfl rfl) ?_
   refine .nil ⟨by kernel_rfl, ?_⟩
   refine kb_n <| ks_n <| .region <| .cons (.mv rfl rfl) <| .cons (.pl rfl rfl rfl) <| .cons (.asg rfl rfl) <| .nil ?_
   refine kl_k [(110, 110), (111, 111), (112, 124)] (.inr ⟨i + 1, rfl, by omega, by omega, rfl⟩) ⟨ks rfl .dt, ks rfl (.c .bx), ks rfl (.c .bx), ks rfl .dt, kb 110 rfl (.cons (.cons .dt (.cons .dt Ctos.nil)) .nil), kb 124 rfl (.dt rfl (by first | exact dR_take (rA) hx1 | exact dR_take1 (rA) hx1 | rfl | (simp [dR]; done))), kb 111 rfl (.cons (.cons .dt (.cons .ow Ctos.nil)) .nil), trivial⟩
  ·skip
   obtain rfl : i = a.2.length := by omega
   refine .exit <| ks_e <| kl_e <| kb_hit <| ks_n <| .seq <| .region <| .cons (.bN 2 rfl rfl rfl rfl rfl rfl) <| .cons (.sT 2 true rfl rfl rfl rfl rfl rfl rfl) <| .nil <| ks_n <| .ret ?_
   refine kf_wret [(.t 2, .v (.o (.c (.box 100 2 0 0)))), (.b 100, .b 72 2 [[.d (dS a.1), .d (dAs a.2)]]), (.u 100, .u)] (Wk.keep [(100, 110)] rfl rfl ⟨ks rfl (.c .bx), kb 110 rfl (.cons (.cons .dt (.cons (.fz rfl (by first | rfl | exact dR_af _ _ | (rw [List.take_length]; done)) (by first | rfl | (simp; done) | (simp; omega)) (by omega)) Ctos.nil)) .nil), trivial⟩) rfl ?_ nobox
   rfl
section
variable {P : Program} {n : Nat} {ops : Array Oper} {o : Oper} {σ : St} {d : Nat}
/-- A struct's zero cells, told as data: a nil slice may be told as the empty list. -/
inductive ZR : List Value → List D → Prop
  | nil : ZR [] []
  | val {z : Value} {zs : List Value} {ds : List D} (h : z.oneCell' = true) (hs : ZR zs ds) : ZR (z :: zs) (.val z :: ds)
  | list {zs : List Value} {ds : List D} (sz : Nat) (hs : ZR zs ds) : ZR (.slice none 0 0 :: zs) (.list sz [] :: ds)
theorem dr_empty {B : Nat → Prop} {w : World} (sz : Nat) : Dr B w (.list sz []) (.slice none 0 0) :=
  Dr.list sz [] none 0 0 0 0 (fun _ _ => undef) rfl (Nat.le_refl _) (by omega) (fun _ => rfl) (fun h => by simp at h) (fun i r h => by simp at h) (fun i r j x h => by simp at h) (fun i r j x h => by simp at h)
theorem ZR.cells {bx : Nat → Nat × Nat} {al B : Nat → Prop} {w : World} {zs : List Value} {ds : List D} (h : ZR zs ds) : zs.length = ds.length ∧ ∀ (i : Nat) c u, (ds.map C.d)[i]? = some c → zs[i]? = some u → Cr bx al B w c u := by
  induction h with
  | nil => exact ⟨rfl, fun i c u h => by simp at h⟩
  | val h hs ih =>
    refine ⟨by simp [ih.1], fun i c u hc hu => ?_⟩
    cases i with
    | zero => cases hc; cases hu; exact Dr.val _ h
    | succ i => exact ih.2 i c u hc hu
  | list sz hs ih =>
    refine ⟨by simp [ih.1], fun i c u hc hu => ?_⟩
    cases i with
    | zero => cases hc; cases hu; exact dr_empty sz
    | succ i => exact ih.2 i c u hc hu
theorem St1.buZ (pl : List (Nat × Operand)) (places : List (Nat × Nat)) (zs : List Value) (ds : List D) {t : TypeId} {parts : Array (Nat × Operand)} {ps : List (Nat × V1)} {cs : List C} (h4 : (o.op, o.guard, o.dst, Nat.blt d n) = (Op.build t parts, none, some d, true)) (hpl : parts = pl.toArray) (hz : ZR zs ds) (hp : evP σ pl = some ps) (hf : fillA (places[·]?) (ds.map C.d) ps = some cs) (ht : tyB P t = some (places, zs) := by kernel_rfl) :
    St1 P n ops o σ (rdP pl) [.t d] ((.t d, .v (.o (.agg cs))) :: σ) := by
  simp only [Prod.mk.injEq] at h4
  obtain ⟨ho, hg, hd, hn⟩ := h4
  refine St1.value hg hd hn fun E bx τ a w hR hs => ?_
  subst hpl
  obtain ⟨h1, h2⟩ := evP_ok hp hR hs
  have hzc := hz.cells (bx := bx) (al := Al τ) (B := Bf E bx τ) (w := w)
  obtain ⟨cells', h3, h4, h5⟩ := fillA_ok (bx := bx) (al := Al τ) (B := Bf E bx τ) (w := w) (cells := zs.toArray) hf h1 ⟨by simpa using hzc.1, hzc.2⟩
  refine ⟨⟨.agg cells', ?_, cells'.toList, by simp, h4.1, h4.2⟩, fun k hk => ?_⟩
  · have := run_build (P := P) w t (pl.toArray.map fun p => (p.1, a.eval p.2)) cells' (by rw [tyB_built ht]; simpa using h3)
    simp only [execOp, ho, Sem.run_bind]
    rw [this]; rfl
  · obtain ⟨c, hc, hk⟩ := List.mem_flatMap.1 hk
    rcases h5 c hc with h6 | ⟨p, hp, h6⟩
    · obtain ⟨z, _, rfl⟩ := List.mem_map.1 h6
      cases hk
    · exact h2 p hp k (V1.refs_cells h6 k hk)
end
theorem rdE_eq (e : Ex) : rdE e = (if e.k = 3 then [e.r] else []) ++ rdEs e.ks := by cases e; rw [rdE]; rfl
theorem rdEs_take {l : List Ex} {i : Nat} {x : Ex} (h : l[i]? = some x) : rdEs (l.take (i + 1)) = rdEs (l.take i) ++ rdE x := by
  have key : ∀ (a : List Ex) (x : Ex), rdEs (a ++ [x]) = rdEs a ++ rdE x := by
    intro a x
    induction a with
    | nil => simp [rdEs]
    | cons y a ih => rw [List.cons_append, rdEs, rdEs, ih, List.append_assoc]
  rw [List.take_add_one, h]
  exact key _ _
mutual
theorem rdE_len : ∀ e : Ex, (rdE e).length ≤ cntE e
  | .mk k n i r ks => by
    rw [rdE, cntE, List.length_append]
    have := rdEs_len ks
    split
    · simp; omega
    · simp; omega
theorem rdEs_len : ∀ l : List Ex, (rdEs l).length ≤ cntEs l
  | [] => by simp [rdEs]
  | e :: l => by
    rw [rdEs, cntEs, List.length_append]
    have := rdE_len e
    have := rdEs_len l
    omega
end
theorem dR_apC (a b : List Acc) : dR (a.map rC) ++ (b.map rC).map (·.map C.d) = dR ((a ++ b).map rC) := by rw [dR_app, List.map_append]


/-- A statement that is valid somewhere. -/
theorem stmtV_ex {d : Int} {s : Stm} (h : stmtV d s = true) : exV d.toNat 5 s.2 = true ∧ accV d.toNat s.1 = true ∧ cntE s.2 ≤ 12 ∧ 0 ≤ d ∧ d ≤ 4 := by
  rw [stmtV, Bool.and_eq_true, Bool.and_eq_true, Bool.and_eq_true, decide_eq_true_eq, inB, decide_eq_true_eq] at h
  exact ⟨h.2.1.2, h.2.1.1, h.2.2, h.1⟩

def hbL (k : Nat) (l : List Acc) : St := [(.b k, .b 72 2 (dR (l.map rC))), (.u k, .u)]
theorem rdEs_le : ∀ {l : List Ex} {i : Nat}, (rdEs (l.take i)).length ≤ (rdEs l).length
  | [], i => by simp [rdEs]
  | y :: l, 0 => by simp [rdEs]
  | y :: l, i + 1 => by
    rw [List.take_succ_cons, rdEs, rdEs, List.length_append, List.length_append]
    have := rdEs_le (l := l) (i := i)
    omega
theorem hbL_HB (k : Nat) (l : List Acc) : HB (hbL k l) := HB.nil.data
theorem hbL_flat (k : Nat) (l : List Acc) : flatS (hbL k l) := flatS.nil.cons rfl

theorem l3Reads_one (l : List Acc) (e : Ex) (hi3 : e.r.2.length ≤ 1073741824) (hq3 : ∀ x ∈ e.r.2, x.1.length ≤ 1073741824) (hkl : e.ks.length ≤ 1099511627776) (hln : l.length + (rdE e).length ≤ 1073741824) (ih : ∀ x ∈ e.ks, ∀ l : List Acc, l.length + (rdE x).length ≤ 1073741824 → Fn Try.prog 51 (hbL 0 l) [.c (.own 0 2 l.length), ad (rX x)] (.o (.c (.own 1000 2 (l ++ rdE x).length))) (hbL 1000 (l ++ rdE x))) : Fn Try.prog 51 (hbL 0 l) [.c (.own 0 2 l.length), ad (rX e)] (.o (.c (.own 1000 2 (l ++ rdE e).length))) (hbL 1000 (l ++ rdE e)) := by
 have hrd := rdE_eq e
 have hbl : (rdE e).length = (if e.k = 3 then [e.r] else []).length + (rdEs e.ks).length := by rw [hrd, List.length_append]
 refine Fn.of_code Try.func51 rfl rfl (hbL_HB _ _) rfl rfl (hbL_HB _ _) rfl (one_num rfl) ?_
 refine .seq <| .region <| .cons (St1.boxP rfl rfl rfl rfl rfl rfl) <| .cons (.asg rfl rfl) <| .nil <| ks_n <| .seq ?_
 refine ACode.cut [(.t 0, .v (.o (.c (.own 1710 2 ((l ++ (if e.k = 3 then [e.r] else [])).length))))), (.t 3, .v (.o (.c (.ptr (rX e))))), (.t 4, .v (.o (.c (.d (.val (.slice none 0 0)))))), (.b 1710, .b 72 2 (dR ((l ++ (if e.k = 3 then [e.r] else [])).map rC))), (.u 1710, .u)] ?_ ?_
 ·skip
  refine .seq <| .region <| .cons (.fP 0 0 false rfl rfl) <| .cons (.l1 1 rfl rfl) <| .cons (.eq rfl rfl rfl) <| .nil <| ks_n ?_
  refine .cD rfl (fun h8 => ?_) (fun h8 => ?_)
  ·skip
   refine .region <| .cons (.mv rfl rfl) <| .cons (.fP 4 1 true rfl rfl) <| .cons (.lN 2 rfl rfl rfl) <| .cons (.cP [.tmp 11] rfl rfl rfl rfl (l3CopyAcc_fn _ hi3 hq3) rfl) ?_
   refine .cons (.li 72 1 0 [.tmp 12] rfl rfl rfl rfl rfl rfl) <| .cons (St1.appB (k' := 1014) (e := 72) (sz := 1) (by' := 40) rfl rfl rfl rfl rfl (by kernel_rfl) rfl rfl rfl rfl (by simp [dR]) (by rw [if_pos h8] at hbl; simp [dR] at hbl ⊢; omega) rfl rfl rfl) ?_
   refine .cons (.asg rfl rfl) <| .nil ?_
   exact kc_n (Wk.keep [(1710, 1014)] rfl rfl ⟨ks rfl (.c (.ow (by first | rfl | omega | (simp; done) | (simp; omega) | (simp [*]; done) | (simp [*]; omega) | (simp [rdEs]; done) | (rw [hT]; simp; omega) | (rw [hT]; simp [Nat.add_assoc]; done)))), ks rfl .dt, ks rfl .dt, kb 1014 rfl (.dt rfl (by first | rfl | (rw [if_pos h8, ← dR_apC]; rfl) | (rw [if_neg h8, List.append_nil]; done) | (simp only [dR_apC]; simp [hT, List.append_assoc]; done) | (rw [hT, ← List.append_assoc]; done) | (simp [rdEs]; done))), trivial⟩)
  ·skip
   refine .skip ?_
   exact kc_n (Wk.keep [(1710, 0)] rfl rfl ⟨ks rfl (.c (.ow (by first | rfl | omega | (simp; done) | (simp; omega) | (simp [*]; done) | (simp [*]; omega) | (simp [rdEs]; done) | (rw [hT]; simp; omega) | (rw [hT]; simp [Nat.add_assoc]; done)))), ks rfl .dt, ks rfl .dt, kb 0 rfl (.dt rfl (by first | rfl | (rw [if_pos h8, ← dR_apC]; rfl) | (rw [if_neg h8, List.append_nil]; done) | (simp only [dR_apC]; simp [hT, List.append_assoc]; done) | (rw [hT, ← List.append_assoc]; done) | (simp [rdEs]; done))), trivial⟩)
 refine ks_n <| .seq <| .seq <| .region <| .cons (.asg rfl rfl) <| .nil <| ks_n <| .block ?_
 refine .loopK (fun m σ => (∃ i : Nat, m = e.ks.length - i ∧ (i ≤ e.ks.length) ∧ (True) ∧ σ = [(.t 0, .v (.o (.c (.own 1010 2 ((l ++ (if e.k = 3 then [e.r] else []) ++ rdEs (e.ks.take i)).length))))), (.t 3, .v (.o (.c (.ptr (rX e))))), (.t 4, .v (.o (.c (.d (.val (.slice none 0 0)))))), (.t 5, .v (.o (nat1 (i : Nat)))), (.b 1010, .b 72 2 (dR ((l ++ (if e.k = 3 then [e.r] else []) ++ rdEs (e.ks.take i)).map rC))), (.u 1010, .u)])) [(1010, 1710)] ⟨0, rfl, by omega, trivial, rfl⟩ ⟨ks rfl (.c (.ow (by first | rfl | omega | (simp; done) | (simp; omega) | (simp [*]; done) | (simp [*]; omega) | (simp [rdEs]; done) | (rw [hT]; simp; omega) | (rw [hT]; simp [Nat.add_assoc]; done)))), ks rfl .dt, ks rfl .dt, ks rfl .dt, kb 1710 rfl (.dt rfl (by first | rfl | (rw [if_pos h8, ← dR_apC]; rfl) | (rw [if_neg h8, List.append_nil]; done) | (simp only [dR_apC]; simp [hT, List.append_assoc]; done) | (rw [hT, ← List.append_assoc]; done) | (simp [rdEs]; done))), trivial⟩ ?_
 rintro m σ ⟨i, hm0, hi, hF, rfl⟩
 refine .seq <| .seq <| .region <| .cons (.mv rfl rfl) <| .cons (.fP 6 0 false rfl rfl) <| .cons (.l1 1 rfl rfl) <| .cons (.ln 77 7 112 rfl rfl rfl) <| .cons (.ls rfl rfl rfl) <| .nil <| ks_n ?_
 refine .cD rfl (fun h19 => ?_) (fun h19 => ?_)
 ·skip
  obtain ⟨x, hx1⟩ : ∃ x, e.ks[i]? = some x := ⟨_, List.getElem?_eq_getElem (by omega)⟩
  have hT := rdEs_take hx1
  have hle := rdEs_le (l := e.ks) (i := i + 1)
  have hnx : (l ++ (if e.k = 3 then [e.r] else []) ++ rdEs (e.ks.take i)).length + (rdE x).length ≤ 1073741824 := by rw [hT, List.length_append] at hle; simp only [List.length_append]; omega
  refine .skip <| ks_n <| .seq <| .block <| .region <| .cons (.mv rfl rfl) <| .cons (.fP 6 0 false rfl rfl) <| .cons (.l1 1 rfl rfl) <| .cons (.mv rfl rfl) <| .cons (.xL 77 7 112 rfl rfl rfl rfl rfl (rE_at hx1)) ?_
  refine .cons (.lN 7 rfl rfl rfl) <| .cons (.cO [.tmp 22, .tmp 27] [(0, 1010), (1000, 1028)] rfl rfl rfl rfl (ih x (List.mem_of_getElem? hx1) (l ++ (if e.k = 3 then [e.r] else []) ++ rdEs (e.ks.take i)) hnx) rfl ⟨(by rw [renR_dR]; rfl), trivial⟩ (hbL_flat _ _) (hbL_flat _ _) (hbL_HB _ _) outS_one) ?_
  refine .cons (.asg rfl rfl) <| .nil <| kb_n <| ks_n <| .region <| .cons (.mv rfl rfl) <| .cons (.pl rfl rfl rfl) <| .cons (.asg rfl rfl) <| .nil ?_
  refine kl_k [(1010, 1028)] ⟨i + 1, rfl, by omega, trivial, rfl⟩ ⟨ks rfl (.c (.ow (by first | rfl | omega | (simp; done) | (simp; omega) | (simp [*]; done) | (simp [*]; omega) | (simp [rdEs]; done) | (rw [hT]; simp; omega) | (rw [hT]; simp [Nat.add_assoc]; done)))), ks rfl .dt, ks rfl .dt, ks rfl .dt, kb 1028 rfl (.dt rfl (by first | rfl | (rw [if_pos h8, ← dR_apC]; rfl) | (rw [if_neg h8, List.append_nil]; done) | (simp only [dR_apC]; simp [hT, List.append_assoc]; done) | (rw [hT, ← List.append_assoc]; done) | (simp [rdEs]; done))), trivial⟩
 ·skip
  have hall : l ++ (if e.k = 3 then [e.r] else []) ++ rdEs (e.ks.take i) = l ++ rdE e := by rw [List.take_of_length_le (by omega), hrd, List.append_assoc]
  refine .exit <| ks_e <| kl_e <| kb_hit <| ks_n <| .seq <| .region <| .cons (.mv rfl rfl) <| .cons (.asg rfl rfl) <| .nil <| ks_n <| .ret ?_
  refine kf_wret [(.t 4, .v (.o (.c (.own 1000 2 ((l ++ rdE e).length))))), (.b 1000, .b 72 2 (dR ((l ++ rdE e).map rC))), (.u 1000, .u)] (Wk.keep [(1000, 1010)] rfl rfl ⟨ks rfl (.c (.ow (by rw [hall]))), kb 1010 rfl (.dt rfl (by rw [hall])), trivial⟩) rfl ?_ (one_box rfl)
  rfl

theorem l3Reads_fn : ∀ e : Ex, szE e ≤ 1073741824 → ∀ l : List Acc, l.length + (rdE e).length ≤ 1073741824 → Fn Try.prog 51 (hbL 0 l) [.c (.own 0 2 l.length), ad (rX e)] (.o (.c (.own 1000 2 (l ++ rdE e).length))) (hbL 1000 (l ++ rdE e)) := by
  intro e
  induction e using Ex.rec' with
  | h e ih =>
    intro hs l hl
    have h1 := hs
    rw [szE_eq, szC] at h1
    have := szAs_len e.r.2
    exact l3Reads_one l e (by omega) (fun x hx => by have := szAs_mem hx; omega) (by omega) hl fun x hx l hl => ih x hx (by have := szEs_mem hx; omega) l hl




/-- An array, a part, a program, an instance. -/
abbrev Arr := ByteArray × List Int
def rR (a : Arr) : List D := [dS a.1, dIs a.2]
def dRs (l : List Arr) : D := .list 2 (l.map rR)
def dMs (l : List Stm) : D := .list 9 (l.map rS)
abbrev Prt := List Lp × List Stm
def rP (p : Prt) : List D := [dLs p.1, dMs p.2]
def dPts (l : List Prt) : D := .list 2 (l.map rP)
abbrev Prg := List Arr × List Prt
def rG (g : Prg) : List D := [dRs g.1, dPts g.2]
abbrev Ins := Int × Int × List Int
def rN (x : Ins) : List D := [dI x.1, dI x.2.1, dIs x.2.2]
def dNs (l : List Ins) : D := .list 3 (l.map rN)

/-- Arrays: names in order, dimensions within the limits. -/
def dimV (n : Int) : Bool := inB n 1 6
def arrOk (a : Arr) : Bool := arrV a.1 && (decide (1 ≤ a.2.length ∧ a.2.length ≤ 2) && a.2.all dimV)
def lastV (l : List Arr) (i : Nat) (a : Arr) : Bool := match l[i]? with | some b => sLt b.1 a.1 | none => true
def arrAt (l : List Arr) (i : Nat) : Bool := match l[i]? with
  | none => true
  | some a => arrOk a && (decide (i = 0) || lastV l (i - 1) a)
def arrsV (l : List Arr) : Bool := (List.range l.length).all (arrAt l) && decide (l.length ≤ 4)
theorem arrAt_eq {l : List Arr} {i : Nat} {a : Arr} (h : l[i]? = some a) : arrAt l i = (arrOk a && (decide (i = 0) || lastV l (i - 1) a)) := by rw [arrAt, h]
theorem lastV_eq {l : List Arr} {i : Nat} {a b : Arr} (h : l[i]? = some b) : lastV l i a = sLt b.1 a.1 := by rw [lastV, h]
theorem arrsV_bad {l : List Arr} {i : Nat} (hi : i < l.length) (h : arrAt l i = false) : arrsV l = false := by
  rw [arrsV, Bool.and_eq_false_iff]
  refine .inl (Bool.eq_false_iff.2 fun h2 => ?_)
  have := List.all_eq_true.1 h2 i (List.mem_range.2 hi)
  rw [h] at this; cases this
theorem arrsV_end {l : List Arr} (h : ∀ j, j < l.length → arrAt l j = true) : arrsV l = decide (l.length ≤ 4) := by
  rw [arrsV, show (List.range l.length).all (arrAt l) = true from List.all_eq_true.2 fun j hj => h j (List.mem_range.1 hj), Bool.true_and]
theorem arrsV_at {l : List Arr} (h : arrsV l = true) {a : Arr} (ha : a ∈ l) : arrOk a = true := by
  obtain ⟨i, hi⟩ := List.mem_iff_getElem?.1 ha
  rw [arrsV, Bool.and_eq_true] at h
  have := List.all_eq_true.1 h.1 i (List.mem_range.2 (List.getElem?_eq_some_iff.1 hi).1)
  rw [arrAt_eq hi, Bool.and_eq_true] at this
  exact this.1
theorem arrsV_len {l : List Arr} (h : arrsV l = true) : l.length ≤ 4 := by
  rw [arrsV, Bool.and_eq_true] at h; exact of_decide_eq_true h.2
theorem arrOk_at {a : Arr} (h : arrOk a = true) : (1 ≤ a.2.length ∧ a.2.length ≤ 2) ∧ ∀ d ∈ a.2, 1 ≤ d ∧ d ≤ 6 := by
  rw [arrOk, Bool.and_eq_true, Bool.and_eq_true] at h
  exact ⟨of_decide_eq_true h.2.1, fun d hd => of_decide_eq_true (List.all_eq_true.1 h.2.2 d hd)⟩
/-- A product of k numbers from 1 to 6 at the most. -/
def B6 (k : Nat) (n : Int) : Prop := 0 ≤ n ∧ ((k = 0 ∧ n ≤ 1) ∨ (k = 1 ∧ n ≤ 6) ∨ (k = 2 ∧ n ≤ 36))
theorem B6.bd {k : Nat} {n : Int} (h : B6 k n) : 0 ≤ n ∧ n ≤ 36 := by unfold B6 at h; omega
theorem mul_b6 {n d A : Int} (h0 : 0 ≤ n) (h1 : n ≤ A) (h2 : 0 ≤ d) (h3 : d ≤ 6) : 0 ≤ n * d ∧ n * d ≤ A * 6 :=
  ⟨Int.mul_nonneg h0 h2, Int.le_trans (Int.mul_le_mul_of_nonneg_right h1 h2) (Int.mul_le_mul_of_nonneg_left h3 (Int.le_trans h0 h1))⟩
theorem B6.mul {k : Nat} {n d : Int} (h : B6 k n) (hd : 1 ≤ d ∧ d ≤ 6) (hk : k < 2) : B6 (k + 1) (n * d) := by
  obtain ⟨h0, h | h | h⟩ := h
  · have := mul_b6 h0 h.2 (by omega) hd.2; unfold B6; omega
  · have := mul_b6 h0 h.2 (by omega) hd.2; unfold B6; omega
  · omega
theorem B6.at {k : Nat} {n d v : Int} (h0 : 0 ≤ n) (h : B6 k (n + 1)) (hd : 1 ≤ d ∧ d ≤ 6) (hk : k < 2) (hv : 0 ≤ v ∧ v ≤ d - 1) : 0 ≤ n * d ∧ n * d + v + 1 ≤ 36 ∧ 0 ≤ n * d + v ∧ B6 (k + 1) (n * d + v + 1) := by
  have h1 := h.mul hd hk
  have e : (n + 1) * d = n * d + d := by rw [Int.add_mul, Int.one_mul]
  rw [e] at h1
  have h2 := Int.mul_nonneg h0 (show 0 ≤ d by omega)
  have h3 := h1.bd
  refine ⟨h2, by omega, by omega, ?_⟩
  unfold B6 at h1 ⊢; omega
def sizeF (n : Int) (l : List Int) : Int := l.foldl (· * ·) n
def sizeA (l : List Int) : Int := sizeF 1 l
theorem sizeF_drop {l : List Int} {i : Nat} {d : Int} {n : Int} (h : l[i]? = some d) : sizeF n (l.drop i) = sizeF (n * d) (l.drop (i + 1)) := by
  obtain ⟨hi, rfl⟩ := List.getElem?_eq_some_iff.1 h
  rw [List.drop_eq_getElem_cons hi]; rfl
theorem sizeF_end {l : List Int} {i : Nat} {n : Int} (h : l.length ≤ i) : sizeF n (l.drop i) = n := by rw [List.drop_of_length_le h]; rfl
theorem sizeA_bd {a : Arr} (h : arrOk a = true) : 0 ≤ sizeA a.2 ∧ sizeA a.2 ≤ 36 := by
  obtain ⟨h1, h2⟩ := arrOk_at h
  have key : ∀ (l : List Int) (k : Nat) (n : Int), B6 k n → k + l.length ≤ 2 → (∀ d ∈ l, 1 ≤ d ∧ d ≤ 6) → 0 ≤ sizeF n l ∧ sizeF n l ≤ 36 := by
    intro l
    induction l with
    | nil => intro k n hb _ _; exact hb.bd
    | cons d l ih =>
      intro k n hb hk hd
      rw [List.length_cons] at hk
      exact ih (k + 1) (n * d) (hb.mul (hd d (by simp)) (by omega)) (by omega) fun d hd' => hd d (by simp [hd'])
  exact key a.2 0 1 (by unfold B6; omega) (by omega) h2
/-- The place of an element within its array, or -1. -/
def atG (p : List Int) : List Int → List Aff → Int → Int
  | d :: ds, s :: ss, n => if inB (affEval s p) 0 (d - 1) = true then atG p ds ss (n * d + affEval s p) else -1
  | _, _, n => n
theorem atG_yes {p : List Int} {ds : List Int} {ss : List Aff} {i : Nat} {d : Int} {s : Aff} {n : Int} (hd : ds[i]? = some d) (hs : ss[i]? = some s) (h : inB (affEval s p) 0 (d - 1) = true) : atG p (ds.drop i) (ss.drop i) n = atG p (ds.drop (i + 1)) (ss.drop (i + 1)) (n * d + affEval s p) := by
  obtain ⟨hi, rfl⟩ := List.getElem?_eq_some_iff.1 hd
  obtain ⟨hj, rfl⟩ := List.getElem?_eq_some_iff.1 hs
  rw [List.drop_eq_getElem_cons hi, List.drop_eq_getElem_cons hj, atG, if_pos h]
theorem atG_no {p : List Int} {ds : List Int} {ss : List Aff} {i : Nat} {d : Int} {s : Aff} {n : Int} (hd : ds[i]? = some d) (hs : ss[i]? = some s) (h : ¬ inB (affEval s p) 0 (d - 1) = true) : atG p (ds.drop i) (ss.drop i) n = -1 := by
  obtain ⟨hi, rfl⟩ := List.getElem?_eq_some_iff.1 hd
  obtain ⟨hj, rfl⟩ := List.getElem?_eq_some_iff.1 hs
  rw [List.drop_eq_getElem_cons hi, List.drop_eq_getElem_cons hj, atG, if_neg h]
theorem atG_end {p : List Int} {ds : List Int} {ss : List Aff} {i : Nat} {n : Int} (h : ss.length ≤ i) : atG p (ds.drop i) (ss.drop i) n = n := by
  rw [List.drop_of_length_le h, atG]; intros; contradiction
def cellG (a : Acc) (p : List Int) : List Arr → Int → Int
  | [], _ => -1
  | x :: l, base => if sEq x.1 a.1 = true then (if a.2.length = x.2.length then (if atG p x.2 a.2 0 = -1 then -1 else base + atG p x.2 a.2 0) else -1) else cellG a p l (base + sizeA x.2)
theorem cellG_next {a : Acc} {p : List Int} {l : List Arr} {i : Nat} {x : Arr} {b : Int} (hx : l[i]? = some x) (h : sEq x.1 a.1 = false) : cellG a p (l.drop i) b = cellG a p (l.drop (i + 1)) (b + sizeA x.2) := by
  obtain ⟨hi, rfl⟩ := List.getElem?_eq_some_iff.1 hx
  rw [List.drop_eq_getElem_cons hi, cellG, if_neg (by rw [h]; simp)]
theorem cellG_len {a : Acc} {p : List Int} {l : List Arr} {i : Nat} {x : Arr} {b : Int} (hx : l[i]? = some x) (h : sEq x.1 a.1 = true) (hl : ¬ a.2.length = x.2.length) : cellG a p (l.drop i) b = -1 := by
  obtain ⟨hi, rfl⟩ := List.getElem?_eq_some_iff.1 hx
  rw [List.drop_eq_getElem_cons hi, cellG, if_pos h, if_neg hl]
theorem cellG_at {a : Acc} {p : List Int} {l : List Arr} {i : Nat} {x : Arr} {b : Int} (hx : l[i]? = some x) (h : sEq x.1 a.1 = true) (hl : a.2.length = x.2.length) : cellG a p (l.drop i) b = if atG p x.2 a.2 0 = -1 then -1 else b + atG p x.2 a.2 0 := by
  obtain ⟨hi, rfl⟩ := List.getElem?_eq_some_iff.1 hx
  rw [List.drop_eq_getElem_cons hi, cellG, if_pos h, if_pos hl]
theorem cellG_end {a : Acc} {p : List Int} {l : List Arr} {i : Nat} {b : Int} (h : l.length ≤ i) : cellG a p (l.drop i) b = -1 := by rw [List.drop_of_length_le h]; rfl
def accG (ar : List Arr) (p : List Int) (a : Acc) : Bool := decide (0 ≤ cellG a p ar 0)
def stmG (ar : List Arr) (s : Stm) (p : List Int) : Bool := accG ar p s.1 && (rdE s.2).all (accG ar p)
def ptG' (ar : List Arr) (b : List Stm) (p : List Int) : Bool := isPt p && b.all fun s => stmG ar s p
def prtV (ar : List Arr) (q : Prt) : Bool := okP q.1 && (decide (1 ≤ q.2.length ∧ q.2.length ≤ 4) && (q.2.all (stmtV (q.1.length : Nat)) && (npR q.1).all (ptG' ar q.2)))
theorem prtV_iff {ar : List Arr} {q : Prt} : prtV ar q = true ↔ okP q.1 = true ∧ (1 ≤ q.2.length ∧ q.2.length ≤ 4) ∧ (∀ s ∈ q.2, stmtV (q.1.length : Nat) s = true) ∧ ∀ p ∈ npR q.1, isPt p = true ∧ ∀ s ∈ q.2, stmG ar s p = true := by
  simp only [prtV, ptG', Bool.and_eq_true, decide_eq_true_eq, List.all_eq_true]
theorem prtV_f1 {ar : List Arr} {q : Prt} (h : okP q.1 = false) : prtV ar q = false := by rw [prtV, h]; rfl
theorem prtV_f2 {ar : List Arr} {q : Prt} (h : ¬ (1 ≤ q.2.length ∧ q.2.length ≤ 4)) : prtV ar q = false := Bool.eq_false_iff.2 fun h2 => h (prtV_iff.1 h2).2.1
theorem prtV_f3 {ar : List Arr} {q : Prt} {s : Stm} (hs : s ∈ q.2) (h : stmtV (q.1.length : Nat) s = false) : prtV ar q = false := Bool.eq_false_iff.2 fun h2 => by
  have := (prtV_iff.1 h2).2.2.1 s hs; rw [h] at this; cases this
theorem prtV_f4 {ar : List Arr} {q : Prt} {p : List Int} (hp : p ∈ npR q.1) (h : isPt p = false) : prtV ar q = false := Bool.eq_false_iff.2 fun h2 => by
  have := ((prtV_iff.1 h2).2.2.2 p hp).1; rw [h] at this; cases this
theorem prtV_f5 {ar : List Arr} {q : Prt} {p : List Int} {s : Stm} (hp : p ∈ npR q.1) (hs : s ∈ q.2) (h : stmG ar s p = false) : prtV ar q = false := Bool.eq_false_iff.2 fun h2 => by
  have := ((prtV_iff.1 h2).2.2.2 p hp).2 s hs; rw [h] at this; cases this
/-- The instances. -/
def rowI (k m : Nat) (p : List Int) : List Ins := (List.range m).map fun (i : Nat) => ((k : Int), (i : Int), p)
def insT (k m : Nat) (l : Pts) : List Ins := l.flatMap (rowI k m)
def insP (k : Nat) (q : Prt) : List Ins := insT k q.2.length (npR q.1)
def insG : Nat → List Prt → List Ins
  | _, [] => []
  | k, q :: l => insP k q ++ insG (k + 1) l
theorem rowI_len {k m : Nat} {p : List Int} : (rowI k m p).length = m := by simp [rowI]
theorem rowI_snoc {k m : Nat} {p : List Int} : rowI k (m + 1) p = rowI k m p ++ [((k : Int), (m : Int), p)] := by rw [rowI, List.range_succ, List.map_append]; rfl
theorem rowI_zero {k : Nat} {p : List Int} : rowI k 0 p = [] := rfl
theorem insT_len {k m : Nat} : ∀ {l : Pts}, (insT k m l).length = l.length * m
  | [] => by simp [insT]
  | p :: l => by
    have := insT_len (k := k) (m := m) (l := l)
    rw [insT] at this ⊢
    rw [List.flatMap_cons, List.length_append, this, rowI_len, List.length_cons, Nat.add_mul, Nat.one_mul, Nat.add_comm]
theorem insT_take {k m : Nat} {l : Pts} {i : Nat} {p : List Int} (h : l[i]? = some p) : insT k m (l.take (i + 1)) = insT k m (l.take i) ++ rowI k m p := by
  rw [List.take_add_one, h, insT, List.flatMap_append]; simp [insT]
theorem insG_app : ∀ (l : List Prt) (n : Nat) (q : Prt), insG n (l ++ [q]) = insG n l ++ insP (n + l.length) q
  | [], n, q => by simp [insG]
  | x :: l, n, q => by
    rw [List.cons_append, insG, insG, insG_app l (n + 1) q, List.append_assoc, List.length_cons, show n + 1 + l.length = n + (l.length + 1) by omega]
theorem insG_take {l : List Prt} {i : Nat} {q : Prt} (h : l[i]? = some q) : insG 0 (l.take (i + 1)) = insG 0 (l.take i) ++ insP i q := by
  have hi := (List.getElem?_eq_some_iff.1 h).1
  rw [List.take_add_one, h, Option.toList_some, insG_app, List.length_take, Nat.min_eq_left (by omega), Nat.zero_add]
theorem insP_len {k : Nat} {q : Prt} (h : q.2.length ≤ 4) : (insP k q).length = (npR q.1).length * q.2.length ∧ (insP k q).length ≤ 480 := by
  rw [insP, insT_len]
  exact ⟨rfl, Nat.le_trans (Nat.mul_le_mul (npR_len q.1) h) (by omega)⟩
def prgS (g : Prg) : Bool := arrsV g.1 && (decide (g.2.length ≤ 4) && g.2.all (prtV g.1))
def insV (g : Prg) : List Ins := if prgS g = true then insG 0 g.2 else []
def prgV (g : Prg) : Bool := prgS g && decide ((insG 0 g.2).length ≤ 120)
theorem prgS_f1 {g : Prg} (h : arrsV g.1 = false) : prgS g = false := by rw [prgS, h]; rfl
theorem prgS_f2 {g : Prg} (h : ¬ g.2.length ≤ 4) : prgS g = false := by rw [prgS, decide_eq_false h]; cases arrsV g.1 <;> rfl
theorem prgS_f3 {g : Prg} {q : Prt} (hq : q ∈ g.2) (h : prtV g.1 q = false) : prgS g = false := Bool.eq_false_iff.2 fun h2 => by
  rw [prgS, Bool.and_eq_true, Bool.and_eq_true] at h2
  have := List.all_eq_true.1 h2.2.2 q hq; rw [h] at this; cases this
theorem prgS_eq {g : Prg} (h1 : arrsV g.1 = true) (h2 : g.2.length ≤ 4) (h3 : ∀ j q, j < g.2.length → g.2[j]? = some q → prtV g.1 q = true) : prgS g = true := by
  rw [prgS, h1, decide_eq_true h2, List.all_eq_true.2]; · rfl
  intro q hq
  obtain ⟨j, hj⟩ := List.mem_iff_getElem?.1 hq
  exact h3 j q (List.getElem?_eq_some_iff.1 hj).1 hj
theorem prgS_iff {g : Prg} : prgS g = true ↔ arrsV g.1 = true ∧ g.2.length ≤ 4 ∧ ∀ q ∈ g.2, prtV g.1 q = true := by
  simp only [prgS, Bool.and_eq_true, decide_eq_true_eq, List.all_eq_true]
theorem prgV_f {g : Prg} (h : prgS g = false) : prgV g = false ∧ insV g = [] := ⟨by rw [prgV, h]; rfl, if_neg (by rw [h]; simp)⟩
theorem prgV_t {g : Prg} (h : prgS g = true) : prgV g = decide ((insG 0 g.2).length ≤ 120) ∧ insV g = insG 0 g.2 := ⟨by rw [prgV, h]; rfl, if_pos h⟩
theorem prgV_s {g : Prg} (h : prgV g = true) : prgS g = true ∧ insV g = insG 0 g.2 ∧ (insG 0 g.2).length ≤ 120 := by
  rw [prgV, Bool.and_eq_true] at h
  exact ⟨h.1, (prgV_t h.1).2, of_decide_eq_true h.2⟩
theorem insG_mem {x : Ins} : ∀ {l : List Prt} {n : Nat}, x ∈ insG n l → ∃ k q i, l[k]? = some q ∧ x.1 = ((n + k : Nat) : Int) ∧ x.2.1 = ((i : Nat) : Int) ∧ i < q.2.length ∧ x.2.2 ∈ npR q.1
  | [], n, h => by cases h
  | q :: l, n, h => by
    rw [insG, List.mem_append] at h
    rcases h with h | h
    · rw [insP, insT, List.mem_flatMap] at h
      obtain ⟨p, hp, h⟩ := h
      rw [rowI, List.mem_map] at h
      obtain ⟨i, hi, rfl⟩ := h
      exact ⟨0, q, i, rfl, rfl, rfl, List.mem_range.1 hi, hp⟩
    · obtain ⟨k, q', i, h1, h2, h3, h4, h5⟩ := insG_mem h
      exact ⟨k + 1, q', i, h1, by rw [h2]; congr 1; omega, h3, h4, h5⟩
section
variable {P : Program} {n : Nat} {ops : Array Oper} {o : Oper} {σ : St} {d : Nat} {t t2 : TypeId} {x y : Operand} {a b : ByteArray}
theorem St1.ltS (h4 : (o.op, o.guard, o.dst, Nat.blt d n) = (Op.binOp .lss t x y t2, none, some d, true)) (hx : ev σ x = some (.o (st1 a))) (hy : ev σ y = some (.o (st1 b))) :
    St1 P n ops o σ (rd x ++ rd y) [.t d] ((.t d, .v (.o (bo1 (sLt a b)))) :: σ) := by
  simp only [Prod.mk.injEq] at h4
  exact St1.bin h4.1 h4.2.1 h4.2.2.1 h4.2.2.2 hx hy (fun w => by simp [eqGuard, binOp, Op.stringOp, sLt]) rfl
theorem St1.gtS (h4 : (o.op, o.guard, o.dst, Nat.blt d n) = (Op.binOp .gtr t x y t2, none, some d, true)) (hx : ev σ x = some (.o (st1 a))) (hy : ev σ y = some (.o (st1 b))) :
    St1 P n ops o σ (rd x ++ rd y) [.t d] ((.t d, .v (.o (bo1 (!(sLt a b || sEq a b))))) :: σ) := by
  simp only [Prod.mk.injEq] at h4
  exact St1.bin h4.1 h4.2.1 h4.2.2.1 h4.2.2.2 hx hy (fun w => by simp [eqGuard, binOp, Op.stringOp, sLt, sEq]) rfl
end

theorem l4Arrays_fn (ar : List Arr) (hl : ar.length ≤ 1099511627776) (hq : ∀ x ∈ ar, x.2.length ≤ 1099511627776) : Fn Try.prog 38 [] [vD (dRs ar)] (.o (bo1 (arrsV ar))) [] := by
 refine Fn.code0 Try.func38 rfl rfl rfl rfl ?_
 refine .seq <| .region <| .cons (.asg rfl rfl) <| .nil <| ks_n <| .seq <| .seq <| .region <| .cons (.asg rfl rfl) <| .nil <| ks_n <| .block ?_
 refine .loopK (fun m σ => (∃ i : Nat, m = ar.length - i ∧ (i ≤ ar.length) ∧ (∀ j, j < i → arrAt ar j = true) ∧ σ = [(.t 0, .v (.o (vD (dRs ar)))), (.t 2, .v (.o (bo1 false))), (.t 3, .v (.o (nat1 (i : Nat))))])) [] ⟨0, rfl, by omega, fun j hj => absurd hj (by omega), rfl⟩ ⟨ks rfl .dt, ks rfl .dt, ks rfl .dt, trivial⟩ ?_
 rintro m σ ⟨i, hm0, hi, hF, rfl⟩
 refine .seq <| .seq <| .region <| .cons (.mv rfl rfl) <| .cons (.mv rfl rfl) <| .cons (.ln 88 2 40 rfl rfl rfl) <| .cons (.ls rfl rfl rfl) <| .nil <| ks_n ?_
 refine .cD rfl (fun h9 => ?_) (fun h9 => ?_)
 ·skip
  obtain ⟨x, hx1⟩ : ∃ x_, ar[i]? = some x_ := ⟨_, List.getElem?_eq_getElem (by omega)⟩
  have hA := arrAt_eq hx1
  have hxl := hq x (List.mem_of_getElem? hx1)
  refine .skip <| ks_n <| .seq <| .block <| .seq <| .region <| .cons (.mv rfl rfl) <| .cons (.mv rfl rfl) <| .cons (.xL 88 2 40 rfl rfl rfl rfl rfl) ?_
  refine .cons (.lN 2 rfl rfl rfl) <| .cons (.al 104 [.string ByteArray.empty, .slice none 0 0] rfl rfl rfl) <| .cons (.sT 2 true rfl rfl rfl rfl rfl rfl rfl) <| .nil <| ks_n <| .seq <| .seq ?_
  refine ACode.drawK (by kernel_rfl) (by kernel_rfl) ?_
  refine .cons (.fB 0 0 false rfl rfl rfl) <| .cons (.b1 1 rfl rfl rfl rfl rfl rfl) <| .cons (St1.lenS rfl rfl rfl rfl rfl (by kernel_rfl) rfl) ?_
  refine .cons (.ne rfl rfl rfl) <| .cons (.mv rfl rfl) ?_
  refine .cND 20 rfl (fun g20 => ?_) (fun g20 => ?_)
  ·skip
   have hAr := arrV_size (s := x.1) (by omega)
   refine .cons (.gF rfl rfl rfl) <| .cons (.gF rfl rfl rfl) <| .cons (.gF rfl rfl rfl) <| .cons (.pT rfl rfl rfl) <| .cons (.mv rfl rfl) <| .cons (.gF rfl rfl rfl) <| .cons (.gF rfl rfl rfl) <| .cons (.gF rfl rfl rfl) <| .cons (.pT rfl rfl rfl) <| .cons (.mv rfl rfl) <| .cons (.gF rfl rfl rfl) <| .cons (.gF rfl rfl rfl) <| .cons (.gF rfl rfl rfl) <| .cons (.gU rfl rfl) <| .cons (.gU rfl rfl) <| .cons (.gU rfl rfl) <| .cons (.gU rfl rfl) <| .cons (.gU rfl rfl) <| .cons (.gU rfl rfl) <| .cons (.gU rfl rfl) <| .cons (.gU rfl rfl) <| .cons (.gU rfl rfl) <| .cons (.gF rfl rfl rfl) <| .cons (.pT rfl rfl rfl) <| .cons (.mv rfl rfl) <| .cons (.gF rfl rfl rfl) <| .cons (.gF rfl rfl rfl) <| .cons (.gF rfl rfl rfl) <| .cons (.gF rfl rfl rfl) <| .cons (.pT rfl rfl rfl) <| .cons (.mv rfl rfl) <| .cons (.gF rfl rfl rfl) <| .cons (.gF rfl rfl rfl) <| .cons (.gF rfl rfl rfl) <| .cons (.gF rfl rfl rfl) <| .cons (.pT rfl rfl rfl) ?_
   refine .nil ⟨by kernel_rfl, ?_⟩
   refine ks_n ?_
   refine ACode.condT rfl (fun _ => ?_) (fun h => by first | (cases h; done) | (simp [*] at h; done) | (exfalso; simp_all; done))
   refine .seq <| .region <| .cons (.asg rfl rfl) <| .nil <| ks_n <| .ret <| ks_r <| kb_r <| ks_r <| kl_r <| kb_r <| ks_r ?_
   refine kf_ret rfl ?_ nobox
   exact leafB (arrsV_bad (i := i) (by omega) (by rw [hA, arrOk]; rw [hAr] at *; first | (simp_all; done) | (simp_all; omega) | grind)).symm
  ·skip
   have hAr := arr_leaf (s := x.1) (by omega)
   refine .cons (.gT rfl rfl rfl (.fB 0 0 false rfl rfl rfl)) <| .cons (.gT rfl rfl rfl (.b1 1 rfl rfl rfl rfl rfl rfl)) <| .cons (.gT rfl rfl rfl (St1.ltS rfl rfl rfl)) <| .cons (.pF rfl rfl rfl) <| .cons (.mv rfl rfl) ?_
   refine RunK.cases 25 _ rfl (fun g25 => ?_) (fun g25 => ?_)
   ·try simp only [zs1, zs2, zs3, zs4, zs5, zs6, zs7] at g25
    refine .cons (.gF rfl rfl rfl) <| .cons (.gF rfl rfl rfl) <| .cons (.gF rfl rfl rfl) <| .cons (.pT rfl rfl rfl) <| .cons (.mv rfl rfl) <| .cons (.gF rfl rfl rfl) <| .cons (.gF rfl rfl rfl) <| .cons (.gF rfl rfl rfl) <| .cons (.gU rfl rfl) <| .cons (.gU rfl rfl) <| .cons (.gU rfl rfl) <| .cons (.gU rfl rfl) <| .cons (.gU rfl rfl) <| .cons (.gU rfl rfl) <| .cons (.gU rfl rfl) <| .cons (.gU rfl rfl) <| .cons (.gU rfl rfl) <| .cons (.gF rfl rfl rfl) <| .cons (.pT rfl rfl rfl) <| .cons (.mv rfl rfl) <| .cons (.gF rfl rfl rfl) <| .cons (.gF rfl rfl rfl) <| .cons (.gF rfl rfl rfl) <| .cons (.gF rfl rfl rfl) <| .cons (.pT rfl rfl rfl) <| .cons (.mv rfl rfl) <| .cons (.gF rfl rfl rfl) <| .cons (.gF rfl rfl rfl) <| .cons (.gF rfl rfl rfl) <| .cons (.gF rfl rfl rfl) <| .cons (.pT rfl rfl rfl) ?_
    refine .nil ⟨by kernel_rfl, ?_⟩
    refine ks_n ?_
    refine ACode.condT rfl (fun _ => ?_) (fun h => by first | (cases h; done) | (simp [*] at h; done) | (exfalso; simp_all; done))
    refine .seq <| .region <| .cons (.asg rfl rfl) <| .nil <| ks_n <| .ret <| ks_r <| kb_r <| ks_r <| kl_r <| kb_r <| ks_r ?_
    refine kf_ret rfl ?_ nobox
    exact leafB (arrsV_bad (i := i) (by omega) (by rw [hA, arrOk]; rw [hAr] at *; first | (simp_all; done) | (simp_all; omega) | grind)).symm
   ·try simp only [zs1, zs2, zs3, zs4, zs5, zs6, zs7] at g25
    refine .cons (.gT rfl rfl rfl (.fB 0 0 false rfl rfl rfl)) <| .cons (.gT rfl rfl rfl (.b1 1 rfl rfl rfl rfl rfl rfl)) <| .cons (.gT rfl rfl rfl (St1.gtS rfl rfl rfl)) <| .cons (.pF rfl rfl rfl) <| .cons (.mv rfl rfl) ?_
    refine RunK.cases 30 _ rfl (fun g30 => ?_) (fun g30 => ?_)
    ·try simp only [zs1, zs2, zs3, zs4, zs5, zs6, zs7] at g30
     refine .cons (.gF rfl rfl rfl) <| .cons (.gF rfl rfl rfl) <| .cons (.gF rfl rfl rfl) <| .cons (.gU rfl rfl) <| .cons (.gU rfl rfl) <| .cons (.gU rfl rfl) <| .cons (.gU rfl rfl) <| .cons (.gU rfl rfl) <| .cons (.gU rfl rfl) <| .cons (.gU rfl rfl) <| .cons (.gU rfl rfl) <| .cons (.gU rfl rfl) <| .cons (.gF rfl rfl rfl) <| .cons (.pT rfl rfl rfl) <| .cons (.mv rfl rfl) <| .cons (.gF rfl rfl rfl) <| .cons (.gF rfl rfl rfl) <| .cons (.gF rfl rfl rfl) <| .cons (.gF rfl rfl rfl) <| .cons (.pT rfl rfl rfl) <| .cons (.mv rfl rfl) <| .cons (.gF rfl rfl rfl) <| .cons (.gF rfl rfl rfl) <| .cons (.gF rfl rfl rfl) <| .cons (.gF rfl rfl rfl) <| .cons (.pT rfl rfl rfl) ?_
     refine .nil ⟨by kernel_rfl, ?_⟩
     refine ks_n ?_
     refine ACode.condT rfl (fun _ => ?_) (fun h => by first | (cases h; done) | (simp [*] at h; done) | (exfalso; simp_all; done))
     refine .seq <| .region <| .cons (.asg rfl rfl) <| .nil <| ks_n <| .ret <| ks_r <| kb_r <| ks_r <| kl_r <| kb_r <| ks_r ?_
     refine kf_ret rfl ?_ nobox
     exact leafB (arrsV_bad (i := i) (by omega) (by rw [hA, arrOk]; rw [hAr] at *; first | (simp_all; done) | (simp_all; omega) | grind)).symm
    ·try simp only [zs1, zs2, zs3, zs4, zs5, zs6, zs7] at g30
     refine .cons (.gT rfl rfl rfl (.mv rfl rfl)) <| .cons (.gT rfl rfl rfl (.gt rfl rfl rfl)) <| .cons (.gT rfl rfl rfl (.mv rfl rfl)) ?_
     refine .cD 33 rfl (fun g33 => ?_) (fun g33 => ?_)
     ·skip
      obtain ⟨y, hy1⟩ : ∃ x_, ar[i - 1]? = some x_ := ⟨_, List.getElem?_eq_getElem (by omega)⟩
      have hB := lastV_eq (a := x) hy1
      refine .cons (.gT rfl rfl rfl (.mv rfl rfl)) <| .cons (.gT rfl rfl rfl (.mv rfl rfl)) <| .cons (.gT rfl rfl rfl (.sb rfl rfl rfl)) <| .cons (.gT rfl rfl rfl (.xL 88 2 40 (i := (i - 1)) rfl rfl rfl rfl (by omega) (map_at hy1))) ?_
      refine .cons (.gT rfl rfl rfl (.fP 0 0 false rfl rfl)) <| .cons (.gT rfl rfl rfl (.l1 1 rfl rfl)) <| .cons (.gT rfl rfl rfl (.fB 0 0 false rfl rfl rfl)) <| .cons (.gT rfl rfl rfl (.b1 1 rfl rfl rfl rfl rfl rfl)) <| .cons (.gT rfl rfl rfl (St1.geS rfl rfl rfl)) <| .cons (.gT rfl rfl rfl (.pT rfl rfl rfl)) <| .cons (.pF rfl rfl rfl) <| .cons (.mv rfl rfl) ?_
      refine RunK.cases 45 _ rfl (fun g45 => ?_) (fun g45 => ?_)
      ·try simp only [zs1, zs2, zs3, zs4, zs5, zs6, zs7] at g45
       refine .cons (.gF rfl rfl rfl) <| .cons (.gF rfl rfl rfl) <| .cons (.gF rfl rfl rfl) <| .cons (.gF rfl rfl rfl) <| .cons (.pT rfl rfl rfl) <| .cons (.mv rfl rfl) <| .cons (.gF rfl rfl rfl) <| .cons (.gF rfl rfl rfl) <| .cons (.gF rfl rfl rfl) <| .cons (.gF rfl rfl rfl) <| .cons (.pT rfl rfl rfl) ?_
       refine .nil ⟨by kernel_rfl, ?_⟩
       refine ks_n ?_
       refine ACode.condT rfl (fun _ => ?_) (fun h => by first | (cases h; done) | (simp [*] at h; done) | (exfalso; simp_all; done))
       refine .seq <| .region <| .cons (.asg rfl rfl) <| .nil <| ks_n <| .ret <| ks_r <| kb_r <| ks_r <| kl_r <| kb_r <| ks_r ?_
       refine kf_ret rfl ?_ nobox
       exact leafB (arrsV_bad (i := i) (by omega) (by rw [hA, arrOk]; rw [hAr] at *; first | (simp_all; done) | (simp_all; omega) | grind)).symm
      ·try simp only [zs1, zs2, zs3, zs4, zs5, zs6, zs7] at g45
       refine .cons (.gT rfl rfl rfl (.fB 1 0 false rfl rfl rfl)) <| .cons (.gT rfl rfl rfl (.b1 1 rfl rfl rfl rfl rfl rfl)) <| .cons (.gT rfl rfl rfl (.ln 3 1 8 rfl rfl rfl)) <| .cons (.gT rfl rfl rfl (.ls rfl rfl rfl)) <| .cons (.pF rfl rfl rfl) <| .cons (.mv rfl rfl) ?_
       refine RunK.cases 51 _ rfl (fun g51 => ?_) (fun g51 => ?_)
       ·try simp only [zs1, zs2, zs3, zs4, zs5, zs6, zs7] at g51
        refine .cons (.gF rfl rfl rfl) <| .cons (.gF rfl rfl rfl) <| .cons (.gF rfl rfl rfl) <| .cons (.gF rfl rfl rfl) <| .cons (.pT rfl rfl rfl) ?_
        refine .nil ⟨by kernel_rfl, ?_⟩
        refine ks_n ?_
        refine ACode.condT rfl (fun _ => ?_) (fun h => by first | (cases h; done) | (simp [*] at h; done) | (exfalso; simp_all; done))
        refine .seq <| .region <| .cons (.asg rfl rfl) <| .nil <| ks_n <| .ret <| ks_r <| kb_r <| ks_r <| kl_r <| kb_r <| ks_r ?_
        refine kf_ret rfl ?_ nobox
        exact leafB (arrsV_bad (i := i) (by omega) (by rw [hA, arrOk]; rw [hAr] at *; first | (simp_all; done) | (simp_all; omega) | grind)).symm
       ·try simp only [zs1, zs2, zs3, zs4, zs5, zs6, zs7] at g51
        refine .cons (.gT rfl rfl rfl (.fB 1 0 false rfl rfl rfl)) <| .cons (.gT rfl rfl rfl (.b1 1 rfl rfl rfl rfl rfl rfl)) <| .cons (.gT rfl rfl rfl (.ln 3 1 8 rfl rfl rfl)) <| .cons (.gT rfl rfl rfl (.gt rfl rfl rfl)) <| .cons (.pF rfl rfl rfl) ?_
        refine .nil ⟨by kernel_rfl, ?_⟩
        refine ks_n ?_
        refine ACode.condT rfl (fun h56 => ?_) (fun h56 => ?_)
        ·try simp only [zs1, zs2, zs3, zs4, zs5, zs6, zs7] at h56
         refine .seq <| .region <| .cons (.asg rfl rfl) <| .nil <| ks_n <| .ret <| ks_r <| kb_r <| ks_r <| kl_r <| kb_r <| ks_r ?_
         refine kf_ret rfl ?_ nobox
         exact leafB (arrsV_bad (i := i) (by omega) (by rw [hA, arrOk]; rw [hAr] at *; first | (simp_all; done) | (simp_all; omega) | grind)).symm
        ·try simp only [zs1, zs2, zs3, zs4, zs5, zs6, zs7] at h56
         refine .skip <| ks_n <| .seq <| .region <| .cons (.asg rfl rfl) <| .nil <| ks_n <| .block ?_
         refine .loopK (fun m σ => (∃ k : Nat, m = x.2.length - k ∧ (k ≤ x.2.length) ∧ (x.2.all dimV = (x.2.drop k).all dimV) ∧ σ = [(.t 0, .v (.o (vD (dRs ar)))), (.t 2, .v (.o (bo1 false))), (.t 3, .v (.o (nat1 (i : Nat)))), (.t 4, .v (.o (.c (.ptr (rR x))))), (.t 5, .v (.o (nat1 (k : Nat))))])) [] ⟨0, rfl, by omega, rfl, rfl⟩ ⟨ks rfl .dt, ks rfl .dt, ks rfl .dt, ks rfl (.c (.frzP _ _ _ _ _ _ _ _ rfl (show _ = dR [rR x] from rfl) rfl rfl rfl)), ks rfl .dt, trivial⟩ ?_
         rintro m σ ⟨k, hm0, hk, hG, rfl⟩
         refine .seq <| .seq <| .region <| .cons (.mv rfl rfl) <| .cons (.fP 1 0 false rfl rfl) <| .cons (.l1 1 rfl rfl) <| .cons (.ln 3 1 8 rfl rfl rfl) <| .cons (.ls rfl rfl rfl) <| .nil <| ks_n ?_
         refine .cD rfl (fun h61 => ?_) (fun h61 => ?_)
         ·skip
          obtain ⟨d, hd1⟩ : ∃ x_, x.2[k]? = some x_ := ⟨_, List.getElem?_eq_getElem (by omega)⟩
          refine .skip <| ks_n <| .seq <| .block <| .seq <| .region <| .cons (.fP 1 0 false rfl rfl) <| .cons (.l1 1 rfl rfl) <| .cons (.mv rfl rfl) <| .cons (.xL 3 1 8 rfl rfl rfl rfl rfl) ?_
          refine .cons (.l1 1 rfl rfl) <| .cons (.ls rfl rfl rfl) <| .cons (.mv rfl rfl) ?_
          refine .cD 70 rfl (fun g70 => ?_) (fun g70 => ?_)
          ·skip
           refine .cons (.gF rfl rfl rfl) <| .cons (.gF rfl rfl rfl) <| .cons (.gF rfl rfl rfl) <| .cons (.gF rfl rfl rfl) <| .cons (.gF rfl rfl rfl) <| .cons (.gF rfl rfl rfl) <| .cons (.pT rfl rfl rfl) <| .nil <| ks_n ?_
           refine ACode.condT rfl (fun _ => ?_) (fun h => by first | (cases h; done) | (simp [*] at h; done) | (exfalso; simp_all; done))
           refine .seq ?_
           have hdv : dimV d = false := decide_eq_false (by omega)
           have hD : x.2.all dimV = false := by rw [hG, all_drop hd1, hdv, Bool.false_and]
           refine .region <| .cons (.asg rfl rfl) <| .nil <| ks_n <| .ret <| kb_r <| ks_r <| kl_r <| kb_r <| kb_r <| ks_r <| kl_r <| kb_r <| ks_r ?_
           refine kf_ret rfl ?_ nobox
           exact leafB (arrsV_bad (i := i) (by omega) (by rw [hA, arrOk, hD, Bool.and_false, Bool.and_false, Bool.false_and])).symm
          ·skip
           refine .cons (.gT rfl rfl rfl (.fP 1 0 false rfl rfl)) <| .cons (.gT rfl rfl rfl (.l1 1 rfl rfl)) <| .cons (.gT rfl rfl rfl (.mv rfl rfl)) <| .cons (.gT rfl rfl rfl (.xL 3 1 8 rfl rfl rfl rfl rfl)) ?_
           refine .cons (.gT rfl rfl rfl (.l1 1 rfl rfl)) <| .cons (.gT rfl rfl rfl (.gt rfl rfl rfl)) <| .cons (.pF rfl rfl rfl) <| .nil <| ks_n ?_
           refine ACode.condT rfl (fun h77 => ?_) (fun h77 => ?_)
           ·try simp only [zs1, zs2, zs3, zs4, zs5, zs6, zs7] at h77
            refine .seq ?_
            have hdv : dimV d = false := decide_eq_false (by omega)
            have hD : x.2.all dimV = false := by rw [hG, all_drop hd1, hdv, Bool.false_and]
            refine .region <| .cons (.asg rfl rfl) <| .nil <| ks_n <| .ret <| kb_r <| ks_r <| kl_r <| kb_r <| kb_r <| ks_r <| kl_r <| kb_r <| ks_r ?_
            refine kf_ret rfl ?_ nobox
            exact leafB (arrsV_bad (i := i) (by omega) (by rw [hA, arrOk, hD, Bool.and_false, Bool.and_false, Bool.false_and])).symm
           ·try simp only [zs1, zs2, zs3, zs4, zs5, zs6, zs7] at h77
            have hdv : dimV d = true := decide_eq_true (by omega)
            refine .skip <| kb_n <| ks_n <| .region <| .cons (.mv rfl rfl) <| .cons (.pl rfl rfl rfl) <| .cons (.asg rfl rfl) <| .nil ?_
            refine kl_k [] ⟨k + 1, rfl, by omega, by rw [hG, all_drop hd1, hdv, Bool.true_and], rfl⟩ ⟨ks rfl .dt, ks rfl .dt, ks rfl .dt, ks rfl .dt, ks rfl .dt, trivial⟩
         ·skip
          have hD : x.2.all dimV = true := by rw [hG, List.drop_of_length_le (by omega)]; rfl
          refine .exit <| ks_e <| kl_e <| kb_hit <| kb_n <| ks_n <| .region <| .cons (.mv rfl rfl) <| .cons (.pl rfl rfl rfl) <| .cons (.asg rfl rfl) <| .nil ?_
          refine kl_k [] ⟨i + 1, rfl, by omega, fun j hj => (Nat.lt_succ_iff_lt_or_eq.1 hj).elim (fun h => hF j h) (fun h => by rw [h, hA, arrOk, hD]; rw [hAr] at *; first | (simp_all; done) | (simp_all; omega) | grind), rfl⟩ ⟨ks rfl .dt, ks rfl .dt, ks rfl .dt, trivial⟩
     ·skip
      have hB0 : i = 0 := by omega
      refine .cons (.gF rfl rfl rfl) <| .cons (.gF rfl rfl rfl) <| .cons (.gF rfl rfl rfl) <| .cons (.gF rfl rfl rfl) <| .cons (.gF rfl rfl rfl) <| .cons (.gF rfl rfl rfl) <| .cons (.gF rfl rfl rfl) <| .cons (.gF rfl rfl rfl) <| .cons (.gF rfl rfl rfl) <| .cons (.gT rfl rfl rfl (.pF rfl rfl rfl)) <| .cons (.pF rfl rfl rfl) <| .cons (.mv rfl rfl) <| .cons (.gT rfl rfl rfl (.fB 1 0 false rfl rfl rfl)) <| .cons (.gT rfl rfl rfl (.b1 1 rfl rfl rfl rfl rfl rfl)) <| .cons (.gT rfl rfl rfl (.ln 3 1 8 rfl rfl rfl)) <| .cons (.gT rfl rfl rfl (.ls rfl rfl rfl)) <| .cons (.pF rfl rfl rfl) <| .cons (.mv rfl rfl) ?_
      refine RunK.cases 51 _ rfl (fun g51 => ?_) (fun g51 => ?_)
      ·try simp only [zs1, zs2, zs3, zs4, zs5, zs6, zs7] at g51
       refine .cons (.gF rfl rfl rfl) <| .cons (.gF rfl rfl rfl) <| .cons (.gF rfl rfl rfl) <| .cons (.gF rfl rfl rfl) <| .cons (.pT rfl rfl rfl) ?_
       refine .nil ⟨by kernel_rfl, ?_⟩
       refine ks_n ?_
       refine ACode.condT rfl (fun _ => ?_) (fun h => by first | (cases h; done) | (simp [*] at h; done) | (exfalso; simp_all; done))
       refine .seq <| .region <| .cons (.asg rfl rfl) <| .nil <| ks_n <| .ret <| ks_r <| kb_r <| ks_r <| kl_r <| kb_r <| ks_r ?_
       refine kf_ret rfl ?_ nobox
       exact leafB (arrsV_bad (i := i) (by omega) (by rw [hA, arrOk]; rw [hAr] at *; first | (simp_all; done) | (simp_all; omega) | grind)).symm
      ·try simp only [zs1, zs2, zs3, zs4, zs5, zs6, zs7] at g51
       refine .cons (.gT rfl rfl rfl (.fB 1 0 false rfl rfl rfl)) <| .cons (.gT rfl rfl rfl (.b1 1 rfl rfl rfl rfl rfl rfl)) <| .cons (.gT rfl rfl rfl (.ln 3 1 8 rfl rfl rfl)) <| .cons (.gT rfl rfl rfl (.gt rfl rfl rfl)) <| .cons (.pF rfl rfl rfl) ?_
       refine .nil ⟨by kernel_rfl, ?_⟩
       refine ks_n ?_
       refine ACode.condT rfl (fun h56 => ?_) (fun h56 => ?_)
       ·try simp only [zs1, zs2, zs3, zs4, zs5, zs6, zs7] at h56
        refine .seq <| .region <| .cons (.asg rfl rfl) <| .nil <| ks_n <| .ret <| ks_r <| kb_r <| ks_r <| kl_r <| kb_r <| ks_r ?_
        refine kf_ret rfl ?_ nobox
        exact leafB (arrsV_bad (i := i) (by omega) (by rw [hA, arrOk]; rw [hAr] at *; first | (simp_all; done) | (simp_all; omega) | grind)).symm
       ·try simp only [zs1, zs2, zs3, zs4, zs5, zs6, zs7] at h56
        refine .skip <| ks_n <| .seq <| .region <| .cons (.asg rfl rfl) <| .nil <| ks_n <| .block ?_
        refine .loopK (fun m σ => (∃ k : Nat, m = x.2.length - k ∧ (k ≤ x.2.length) ∧ (x.2.all dimV = (x.2.drop k).all dimV) ∧ σ = [(.t 0, .v (.o (vD (dRs ar)))), (.t 2, .v (.o (bo1 false))), (.t 3, .v (.o (nat1 (i : Nat)))), (.t 4, .v (.o (.c (.ptr (rR x))))), (.t 5, .v (.o (nat1 (k : Nat))))])) [] ⟨0, rfl, by omega, rfl, rfl⟩ ⟨ks rfl .dt, ks rfl .dt, ks rfl .dt, ks rfl (.c (.frzP _ _ _ _ _ _ _ _ rfl (show _ = dR [rR x] from rfl) rfl rfl rfl)), ks rfl .dt, trivial⟩ ?_
        rintro m σ ⟨k, hm0, hk, hG, rfl⟩
        refine .seq <| .seq <| .region <| .cons (.mv rfl rfl) <| .cons (.fP 1 0 false rfl rfl) <| .cons (.l1 1 rfl rfl) <| .cons (.ln 3 1 8 rfl rfl rfl) <| .cons (.ls rfl rfl rfl) <| .nil <| ks_n ?_
        refine .cD rfl (fun h61 => ?_) (fun h61 => ?_)
        ·skip
         obtain ⟨d, hd1⟩ : ∃ x_, x.2[k]? = some x_ := ⟨_, List.getElem?_eq_getElem (by omega)⟩
         refine .skip <| ks_n <| .seq <| .block <| .seq <| .region <| .cons (.fP 1 0 false rfl rfl) <| .cons (.l1 1 rfl rfl) <| .cons (.mv rfl rfl) <| .cons (.xL 3 1 8 rfl rfl rfl rfl rfl) ?_
         refine .cons (.l1 1 rfl rfl) <| .cons (.ls rfl rfl rfl) <| .cons (.mv rfl rfl) ?_
         refine .cD 70 rfl (fun g70 => ?_) (fun g70 => ?_)
         ·skip
          refine .cons (.gF rfl rfl rfl) <| .cons (.gF rfl rfl rfl) <| .cons (.gF rfl rfl rfl) <| .cons (.gF rfl rfl rfl) <| .cons (.gF rfl rfl rfl) <| .cons (.gF rfl rfl rfl) <| .cons (.pT rfl rfl rfl) <| .nil <| ks_n ?_
          refine ACode.condT rfl (fun _ => ?_) (fun h => by first | (cases h; done) | (simp [*] at h; done) | (exfalso; simp_all; done))
          refine .seq ?_
          have hdv : dimV d = false := decide_eq_false (by omega)
          have hD : x.2.all dimV = false := by rw [hG, all_drop hd1, hdv, Bool.false_and]
          refine .region <| .cons (.asg rfl rfl) <| .nil <| ks_n <| .ret <| kb_r <| ks_r <| kl_r <| kb_r <| kb_r <| ks_r <| kl_r <| kb_r <| ks_r ?_
          refine kf_ret rfl ?_ nobox
          exact leafB (arrsV_bad (i := i) (by omega) (by rw [hA, arrOk, hD, Bool.and_false, Bool.and_false, Bool.false_and])).symm
         ·skip
          refine .cons (.gT rfl rfl rfl (.fP 1 0 false rfl rfl)) <| .cons (.gT rfl rfl rfl (.l1 1 rfl rfl)) <| .cons (.gT rfl rfl rfl (.mv rfl rfl)) <| .cons (.gT rfl rfl rfl (.xL 3 1 8 rfl rfl rfl rfl rfl)) ?_
          refine .cons (.gT rfl rfl rfl (.l1 1 rfl rfl)) <| .cons (.gT rfl rfl rfl (.gt rfl rfl rfl)) <| .cons (.pF rfl rfl rfl) <| .nil <| ks_n ?_
          refine ACode.condT rfl (fun h77 => ?_) (fun h77 => ?_)
          ·try simp only [zs1, zs2, zs3, zs4, zs5, zs6, zs7] at h77
           refine .seq ?_
           have hdv : dimV d = false := decide_eq_false (by omega)
           have hD : x.2.all dimV = false := by rw [hG, all_drop hd1, hdv, Bool.false_and]
           refine .region <| .cons (.asg rfl rfl) <| .nil <| ks_n <| .ret <| kb_r <| ks_r <| kl_r <| kb_r <| kb_r <| ks_r <| kl_r <| kb_r <| ks_r ?_
           refine kf_ret rfl ?_ nobox
           exact leafB (arrsV_bad (i := i) (by omega) (by rw [hA, arrOk, hD, Bool.and_false, Bool.and_false, Bool.false_and])).symm
          ·try simp only [zs1, zs2, zs3, zs4, zs5, zs6, zs7] at h77
           have hdv : dimV d = true := decide_eq_true (by omega)
           refine .skip <| kb_n <| ks_n <| .region <| .cons (.mv rfl rfl) <| .cons (.pl rfl rfl rfl) <| .cons (.asg rfl rfl) <| .nil ?_
           refine kl_k [] ⟨k + 1, rfl, by omega, by rw [hG, all_drop hd1, hdv, Bool.true_and], rfl⟩ ⟨ks rfl .dt, ks rfl .dt, ks rfl .dt, ks rfl .dt, ks rfl .dt, trivial⟩
        ·skip
         have hD : x.2.all dimV = true := by rw [hG, List.drop_of_length_le (by omega)]; rfl
         refine .exit <| ks_e <| kl_e <| kb_hit <| kb_n <| ks_n <| .region <| .cons (.mv rfl rfl) <| .cons (.pl rfl rfl rfl) <| .cons (.asg rfl rfl) <| .nil ?_
         refine kl_k [] ⟨i + 1, rfl, by omega, fun j hj => (Nat.lt_succ_iff_lt_or_eq.1 hj).elim (fun h => hF j h) (fun h => by rw [h, hA, arrOk, hD]; rw [hAr] at *; first | (simp_all; done) | (simp_all; omega) | grind), rfl⟩ ⟨ks rfl .dt, ks rfl .dt, ks rfl .dt, trivial⟩
 ·skip
  refine .exit <| ks_e <| kl_e <| kb_hit <| ks_n <| .seq <| .region <| .cons (.mv rfl rfl) <| .cons (.ln 88 2 40 rfl rfl rfl) <| .cons (.le rfl rfl rfl) <| .cons (.asg rfl rfl) <| .nil <| ks_n <| .ret ?_
  refine kf_ret rfl ?_ nobox
  exact leafB (by rw [arrsV_end fun j hj => hF j (by omega)]; rw [decide_eq_decide]; omega)
theorem accV_at {D : Nat} {a : Acc} (h : accV D a = true) : (1 ≤ a.2.length ∧ a.2.length ≤ 2) ∧ ∀ s ∈ a.2, affV s = true := by
  simp only [accV, sideV, bndV, Bool.and_eq_true, List.all_eq_true, decide_eq_true_eq] at h
  exact ⟨by omega, fun x hx => (h.2.1.1 x hx).1⟩
theorem arr_mem {as_ : List Arr} (h : arrsV as_ = true) {i : Nat} {x : Arr} (hx : as_[i]? = some x) : arrOk x = true := arrsV_at h (List.mem_of_getElem? hx)


theorem l4Size_fn {a : Arr} (h : arrOk a = true) : Fn Try.prog 72 [] [ad (rR a)] (.o (nat1 (sizeA a.2))) [] := by
  obtain ⟨hl, hd⟩ := arrOk_at h
  refine Fn.code0 Try.func72 rfl rfl rfl rfl ?_
  refine .seq <| .region <| .cons (St1.boxP rfl rfl rfl rfl rfl rfl) <| .cons (.asg rfl rfl) <| .nil <| ks_n <| .seq <| .region <| .cons (.asg rfl rfl) <| .nil <| ks_n <| .seq <| .seq <| .region <| .cons (.asg rfl rfl) <| .nil <| ks_n <| .block ?_
  refine .loopK (fun m σ => (∃ (i : Nat) (n : Int), m = a.2.length - i ∧ (i ≤ a.2.length) ∧ (sizeA a.2 = sizeF n (a.2.drop i)) ∧ (B6 i n) ∧ σ = [(.t 1, .v (.o (.c (.ptr (rR a))))), (.t 2, .v (.o (nat1 0))), (.t 3, .v (.o (nat1 n))), (.t 4, .v (.o (nat1 (i : Nat))))])) [] ⟨0, 1, rfl, by omega, rfl, by unfold B6; omega, rfl⟩ ⟨ks rfl .dt, ks rfl .dt, ks rfl .dt, ks rfl .dt, trivial⟩ ?_
  rintro m σ ⟨i, n, hm0, hi, hF, hB, rfl⟩
  refine .seq <| .seq <| .region <| .cons (.mv rfl rfl) <| .cons (.fP 1 0 false rfl rfl) <| .cons (.l1 1 rfl rfl) <| .cons (.ln 3 1 8 rfl rfl rfl) <| .cons (.ls rfl rfl rfl) <| .nil <| ks_n ?_
  refine .cD rfl (fun h9 => ?_) (fun h9 => ?_)
  · skip
    obtain ⟨d, hd1⟩ : ∃ x_, a.2[i]? = some x_ := ⟨_, List.getElem?_eq_getElem (by omega)⟩
    have hM := hB.mul (hd d (List.mem_of_getElem? hd1)) (by omega)
    have hMb := hM.bd
    refine .skip <| ks_n <| .seq <| .block <| .region <| .cons (.mv rfl rfl) <| .cons (.fP 1 0 false rfl rfl) <| .cons (.l1 1 rfl rfl) <| .cons (.mv rfl rfl) <| .cons (.xL 3 1 8 rfl rfl rfl rfl rfl) ?_
    refine .cons (.l1 1 rfl rfl) <| .cons (.ml rfl rfl rfl) <| .cons (.asg rfl rfl) <| .nil <| kb_n <| ks_n <| .region <| .cons (.mv rfl rfl) <| .cons (.pl rfl rfl rfl) <| .cons (.asg rfl rfl) <| .nil ?_
    refine kl_k [] ⟨i + 1, n * d, rfl, by omega, by rw [hF, sizeF_drop hd1], hM, rfl⟩ ⟨ks rfl .dt, ks rfl .dt, ks rfl .dt, ks rfl .dt, trivial⟩
  · skip
    refine .exit <| ks_e <| kl_e <| kb_hit <| ks_n <| .seq <| .region <| .cons (.mv rfl rfl) <| .cons (.asg rfl rfl) <| .nil <| ks_n <| .ret ?_
    refine kf_ret rfl ?_ nobox
    exact leafI (by rw [hF, sizeF_end (by omega)])


theorem l4Cell_fn {ar : List Arr} (hv : arrsV ar = true) {D : Nat} {a : Acc} {p : List Int} (ha : accV D a = true) (hS : Small p) (hn : p.length ≤ 4) : Fn Try.prog 52 [] [vD (dRs ar), ad (rC a), vD (dIs p)] (.o (nat1 (cellG a p ar 0))) [] := by
 obtain ⟨hal, hav⟩ := accV_at ha
 have hl := arrsV_len hv
 refine Fn.code0 Try.func52 rfl rfl rfl rfl ?_
 refine .seq <| .region <| .cons (St1.boxP rfl rfl rfl rfl rfl rfl) <| .cons (.asg rfl rfl) <| .nil <| ks_n <| .seq <| .region <| .cons (.asg rfl rfl) <| .nil <| ks_n <| .seq <| .seq <| .region <| .cons (.asg rfl rfl) <| .nil <| ks_n <| .block ?_
 refine .loopK (fun m σ => (∃ (i : Nat) (b : Int), m = ar.length - i ∧ (i ≤ ar.length) ∧ (cellG a p ar 0 = cellG a p (ar.drop i) b) ∧ (0 ≤ b ∧ b ≤ 36 * i) ∧ σ = [(.t 0, .v (.o (vD (dRs ar)))), (.t 2, .v (.o (vD (dIs p)))), (.t 4, .v (.o (.c (.ptr (rC a))))), (.t 6, .v (.o (nat1 0))), (.t 7, .v (.o (nat1 b))), (.t 8, .v (.o (nat1 (i : Nat))))])) [] ⟨0, 0, rfl, by omega, rfl, by omega, rfl⟩ ⟨ks rfl .dt, ks rfl .dt, ks rfl .dt, ks rfl .dt, ks rfl .dt, ks rfl .dt, trivial⟩ ?_
 rintro m σ ⟨i, b, hm0, hi, hF, hb, rfl⟩
 refine .seq <| .seq <| .region <| .cons (.mv rfl rfl) <| .cons (.mv rfl rfl) <| .cons (.ln 88 2 40 rfl rfl rfl) <| .cons (.ls rfl rfl rfl) <| .nil <| ks_n ?_
 refine .cD rfl (fun h15 => ?_) (fun h15 => ?_)
 ·skip
  obtain ⟨x, hx1⟩ : ∃ x_, ar[i]? = some x_ := ⟨_, List.getElem?_eq_getElem (by omega)⟩
  have hxo := arr_mem hv hx1
  obtain ⟨hxl, hxd⟩ := arrOk_at hxo
  have hsz := sizeA_bd hxo
  refine .skip <| ks_n <| .seq <| .block <| .seq <| .seq ?_
  refine ACode.drawK (by kernel_rfl) (by kernel_rfl) ?_
  refine .cons (.mv rfl rfl) <| .cons (.mv rfl rfl) <| .cons (.xL 88 2 40 rfl rfl rfl rfl rfl) ?_
  refine .cons (.fP 0 0 false rfl rfl) <| .cons (.l1 1 rfl rfl) <| .cons (.fP 0 0 false rfl rfl) <| .cons (.l1 1 rfl rfl) <| .cons (St1.neS rfl rfl rfl) ?_
  refine .nil ⟨by kernel_rfl, ?_⟩
  refine ks_n ?_
  refine ACode.condT rfl (fun h25 => ?_) (fun h25 => ?_)
  ·try simp only [zs1, zs2, zs3, zs4, zs5, zs6, zs7] at h25
   have hne : sEq x.1 a.1 = false := by first | assumption | simp_all
   refine .seq <| .region <| .cons (.mv rfl rfl) <| .cons (.mv rfl rfl) <| .cons (.mv rfl rfl) <| .cons (.xL 88 2 40 rfl rfl rfl rfl rfl) ?_
   refine .cons (.lN 2 rfl rfl rfl) <| .cons (.cP [.tmp 30] rfl rfl rfl rfl (l4Size_fn hxo) rfl) ?_
   refine .cons (.pl rfl rfl rfl) <| .cons (.asg rfl rfl) <| .nil <| ks_n <| .exit <| ks_e <| kb_hit <| ks_n <| .region <| .cons (.mv rfl rfl) <| .cons (.pl rfl rfl rfl) <| .cons (.asg rfl rfl) <| .nil ?_
   refine kl_k [] ⟨i + 1, b + sizeA x.2, rfl, by omega, by rw [hF, cellG_next hx1 hne], by omega, rfl⟩ ⟨ks rfl .dt, ks rfl .dt, ks rfl .dt, ks rfl .dt, ks rfl .dt, ks rfl .dt, trivial⟩
  ·try simp only [zs1, zs2, zs3, zs4, zs5, zs6, zs7] at h25
   have heq : sEq x.1 a.1 = true := by first | assumption | simp_all
   refine .skip <| ks_n <| .seq <| .region <| .cons (.asg rfl rfl) <| .nil <| ks_n <| .seq <| .seq <| .region <| .cons (.asg rfl rfl) <| .nil <| ks_n <| .block ?_
   refine .loopK (fun m σ => (∃ (k : Nat) (n : Int), m = a.2.length - k ∧ (k ≤ a.2.length) ∧ (atG p x.2 a.2 0 = atG p (x.2.drop k) (a.2.drop k) n) ∧ (0 ≤ n) ∧ (B6 k (n + 1)) ∧ (k = 0 ∨ a.2.length = x.2.length) ∧ σ = [(.t 0, .v (.o (vD (dRs ar)))), (.t 2, .v (.o (vD (dIs p)))), (.t 4, .v (.o (.c (.ptr (rC a))))), (.t 6, .v (.o (nat1 0))), (.t 7, .v (.o (nat1 b))), (.t 8, .v (.o (nat1 (i : Nat)))), (.t 9, .v (.o (nat1 n))), (.t 10, .v (.o (nat1 (k : Nat))))])) [] ⟨0, 0, rfl, by omega, rfl, by omega, by unfold B6; omega, .inl rfl, rfl⟩ ⟨ks rfl .dt, ks rfl .dt, ks rfl .dt, ks rfl .dt, ks rfl .dt, ks rfl .dt, ks rfl .dt, ks rfl .dt, trivial⟩ ?_
   rintro m σ ⟨k, n, hm0, hk, hG, h0, hB, hz, rfl⟩
   refine .seq <| .seq <| .region <| .cons (.mv rfl rfl) <| .cons (.fP 1 0 false rfl rfl) <| .cons (.l1 1 rfl rfl) <| .cons (.ln 74 2 32 rfl rfl rfl) <| .cons (.ls rfl rfl rfl) <| .nil <| ks_n ?_
   refine .cD rfl (fun h37 => ?_) (fun h37 => ?_)
   ·skip
    obtain ⟨s, hs1⟩ : ∃ x_, a.2[k]? = some x_ := ⟨_, List.getElem?_eq_getElem (by omega)⟩
    have hsv := hav s (List.mem_of_getElem? hs1)
    refine .skip <| ks_n <| .seq <| .block <| .seq <| .seq ?_
    refine ACode.drawK (by kernel_rfl) (by kernel_rfl) ?_
    refine .cons (.fP 1 0 false rfl rfl) <| .cons (.l1 1 rfl rfl) <| .cons (.ln 74 2 32 rfl rfl rfl) <| .cons (.mv rfl rfl) <| .cons (.mv rfl rfl) <| .cons (.xL 88 2 40 rfl rfl rfl rfl rfl) ?_
    refine .cons (.fP 1 0 false rfl rfl) <| .cons (.l1 1 rfl rfl) <| .cons (.ln 3 1 8 rfl rfl rfl) <| .cons (.ne rfl rfl rfl) ?_
    refine .nil ⟨by kernel_rfl, ?_⟩
    refine ks_n ?_
    refine .cND rfl (fun h49 => ?_) (fun h49 => ?_)
    ·skip
     refine .seq <| .region <| .cons (.asg rfl rfl) <| .nil <| ks_n <| .ret <| ks_r <| kb_r <| ks_r <| kl_r <| kb_r <| ks_r <| kb_r <| ks_r <| kl_r <| kb_r <| ks_r ?_
     refine kf_ret rfl ?_ nobox
     exact leafI (by rw [hF, cellG_len hx1 heq (by omega)])
    ·skip
     have hle : a.2.length = x.2.length := by omega
     obtain ⟨d, hd1⟩ : ∃ x_, x.2[k]? = some x_ := ⟨_, List.getElem?_eq_getElem (by omega)⟩
     have hdd := hxd d (List.mem_of_getElem? hd1)
     refine .skip <| ks_n <| .seq <| .region <| .cons (.fP 1 0 false rfl rfl) <| .cons (.l1 1 rfl rfl) <| .cons (.mv rfl rfl) <| .cons (.xL 74 2 32 rfl rfl rfl rfl rfl) ?_
     refine .cons (.lN 2 rfl rfl rfl) <| .cons (.mv rfl rfl) <| .cons (.cP [.tmp 54, .tmp 55] rfl rfl rfl rfl (l1Eval_fn hsv hS hn) rfl) ?_
     refine .cons (.asg rfl rfl) <| .nil <| ks_n <| .seq <| .seq <| .region <| .cons (.mv rfl rfl) <| .cons (.ls rfl rfl rfl) <| .cons (.mv rfl rfl) ?_
     refine .cD 59 rfl (fun g59 => ?_) (fun g59 => ?_)
     ·skip
      refine .cons (.gF rfl rfl rfl) <| .cons (.gF rfl rfl rfl) <| .cons (.gF rfl rfl rfl) <| .cons (.gF rfl rfl rfl) <| .cons (.gF rfl rfl rfl) <| .cons (.gF rfl rfl rfl) <| .cons (.gF rfl rfl rfl) <| .cons (.gF rfl rfl rfl) <| .cons (.gF rfl rfl rfl) <| .cons (.gF rfl rfl rfl) <| .cons (.pT rfl rfl rfl) <| .nil <| ks_n ?_
      refine ACode.condT rfl (fun _ => ?_) (fun h => by first | (cases h; done) | (simp [*] at h; done) | (exfalso; simp_all; done))
      refine .seq ?_
      have hnin : ¬ inB (affEval s p) 0 (d - 1) = true := fun h => by have := of_decide_eq_true h; omega
      refine .region <| .cons (.asg rfl rfl) <| .nil <| ks_n <| .ret <| ks_r <| kb_r <| ks_r <| kl_r <| kb_r <| ks_r <| kb_r <| ks_r <| kl_r <| kb_r <| ks_r ?_
      refine kf_ret rfl ?_ nobox
      exact leafI (by rw [hF, cellG_at hx1 heq hle, hG, atG_no hd1 hs1 hnin, if_pos rfl])
     ·skip
      refine .cons (.gT rfl rfl rfl (.mv rfl rfl)) <| .cons (.gT rfl rfl rfl (.mv rfl rfl)) <| .cons (.gT rfl rfl rfl (.mv rfl rfl)) <| .cons (.gT rfl rfl rfl (.xL 88 2 40 rfl rfl rfl rfl rfl)) ?_
      refine .cons (.gT rfl rfl rfl (.fP 1 0 false rfl rfl)) <| .cons (.gT rfl rfl rfl (.l1 1 rfl rfl)) <| .cons (.gT rfl rfl rfl (.mv rfl rfl)) <| .cons (.gT rfl rfl rfl (.xL 3 1 8 rfl rfl rfl rfl rfl)) ?_
      refine .cons (.gT rfl rfl rfl (.l1 1 rfl rfl)) <| .cons (.gT rfl rfl rfl (.ge rfl rfl rfl)) <| .cons (.pF rfl rfl rfl) <| .nil <| ks_n ?_
      refine ACode.condT rfl (fun h70 => ?_) (fun h70 => ?_)
      ·try simp only [zs1, zs2, zs3, zs4, zs5, zs6, zs7] at h70
       refine .seq ?_
       have hnin : ¬ inB (affEval s p) 0 (d - 1) = true := fun h => by have := of_decide_eq_true h; omega
       refine .region <| .cons (.asg rfl rfl) <| .nil <| ks_n <| .ret <| ks_r <| kb_r <| ks_r <| kl_r <| kb_r <| ks_r <| kb_r <| ks_r <| kl_r <| kb_r <| ks_r ?_
       refine kf_ret rfl ?_ nobox
       exact leafI (by rw [hF, cellG_at hx1 heq hle, hG, atG_no hd1 hs1 hnin, if_pos rfl])
      ·try simp only [zs1, zs2, zs3, zs4, zs5, zs6, zs7] at h70
       have hin : inB (affEval s p) 0 (d - 1) = true := decide_eq_true (by omega)
       have hM := B6.at h0 hB hdd (by omega) (of_decide_eq_true hin)
       have hvb := of_decide_eq_true hin
       refine .skip <| ks_n <| .region <| .cons (.mv rfl rfl) <| .cons (.mv rfl rfl) <| .cons (.mv rfl rfl) <| .cons (.xL 88 2 40 rfl rfl rfl rfl rfl) ?_
       refine .cons (.fP 1 0 false rfl rfl) <| .cons (.l1 1 rfl rfl) <| .cons (.mv rfl rfl) <| .cons (.xL 3 1 8 rfl rfl rfl rfl rfl) ?_
       refine .cons (.l1 1 rfl rfl) <| .cons (.ml rfl rfl rfl) <| .cons (.mv rfl rfl) <| .cons (.pl rfl rfl rfl) <| .cons (.asg rfl rfl) <| .nil <| kb_n <| ks_n <| .region <| .cons (.mv rfl rfl) <| .cons (.pl rfl rfl rfl) <| .cons (.asg rfl rfl) <| .nil ?_
       refine kl_k [] ⟨k + 1, n * d + affEval s p, rfl, by omega, by rw [hG, atG_yes hd1 hs1 hin], by omega, hM.2.2.2, .inr hle, rfl⟩ ⟨ks rfl .dt, ks rfl .dt, ks rfl .dt, ks rfl .dt, ks rfl .dt, ks rfl .dt, ks rfl .dt, ks rfl .dt, trivial⟩
   ·skip
    have hnb := hB.bd
    refine .exit <| ks_e <| kl_e <| kb_hit <| ks_n <| .seq ?_
    have hle : a.2.length = x.2.length := by omega
    refine .region <| .cons (.mv rfl rfl) <| .cons (.mv rfl rfl) <| .cons (.pl rfl rfl rfl) <| .cons (.asg rfl rfl) <| .nil <| ks_n <| .ret <| kb_r <| ks_r <| kl_r <| kb_r <| ks_r ?_
    refine kf_ret rfl ?_ nobox
    exact leafI (by rw [hF, cellG_at hx1 heq hle, hG, atG_end (by omega), if_neg (by omega)])
 ·skip
  refine .exit <| ks_e <| kl_e <| kb_hit <| ks_n <| .seq <| .region <| .cons (.asg rfl rfl) <| .nil <| ks_n <| .ret ?_
  refine kf_ret rfl ?_ nobox
  exact leafI (by rw [hF, cellG_end (by omega)])
end Go.Proofs.Ytlelonbakckkgaa
namespace Go.Proofs.Ytlelonbakckkgaa
set_option linter.unusedVariables false
set_option linter.unusedSimpArgs false
open Go.ChangeShapes Go.WideShapes Go.ChangeAt Go.RowKit
/-- Cells stand for data, one by one; all that they lead to is old. -/
def Rs (w : World) (ds : List D) (cs : List Value) : Prop := cs.length = ds.length ∧ ∀ (i : Nat) d v, ds[i]? = some d → cs[i]? = some v → Dr (fun b => b < w.heap.size) w d v
theorem Rs.app {w : World} {a b : List D} {c e : List Value} (h : Rs w a c) (h2 : Rs w b e) : Rs w (a ++ b) (c ++ e) := by
  refine ⟨by rw [List.length_append, List.length_append, h.1, h2.1], fun i d v hd hv => ?_⟩
  rw [List.getElem?_append] at hd hv
  rw [h.1] at hv
  split at hd
  · rename_i hi; rw [if_pos hi] at hv; exact h.2 i d v hd hv
  · rename_i hi; rw [if_neg hi] at hv; exact h2.2 _ d v hd hv
theorem Rs.one {w : World} {d : D} {v : Value} (h : Dr (fun b => b < w.heap.size) w d v) : Rs w [d] [v] := by
  refine ⟨rfl, fun i d' v' hd hv => ?_⟩
  match i, hd, hv with
  | 0, hd, hv => cases hd; cases hv; exact h
section
variable {H : Type} (enc : TypeId × Value → H) (P : Program) (w : World) (spare : Nat → Bool) (held : Bool)
/-- Whatever reads at the type t (with so much fuel) stands for some a. -/
def OpF (n : Nat) (t : TypeId) {α : Type} (f : α → List D) (ok : α → Prop) : Prop :=
  ∀ fuel, fuel ≤ n → ∀ (cs : List Value) (x : DataW H × List MemPlace), DataW.trod enc P w 0 spare held fuel t cs = some x → (∀ m ∈ x.1.weights P t, m ≤ reachBytes) → ∃ a, ok a ∧ Rs w (f a) cs
end
section
variable {H : Type} {enc : TypeId × Value → H} {P : Program} {w : World} {spare : Nat → Bool} {held : Bool} {n : Nat} {t e : TypeId}
theorem OpF.mono {α : Type} {f : α → List D} {ok ok' : α → Prop} {m : Nat} (h : OpF enc P w spare held n t f ok) (hm : m ≤ n) (hok : ∀ a, ok a → ok' a) : OpF enc P w spare held m t f ok' := fun fuel hf cs x hx hw => by
  obtain ⟨a, h1, h2⟩ := h fuel (by omega) cs x hx hw
  exact ⟨a, hok a h1, h2⟩
end



end Go.Proofs.Ytlelonbakckkgaa
namespace Go.Proofs.Ytlelonbakckkgaa
set_option linter.unusedVariables false
set_option linter.unusedSimpArgs false
open Go.RowKit


def tyMk (P : Program) (t : TypeId) : Option (TypeId × Nat × Nat × List Value) :=
  match P.underlying t with
  | some (.slice e) => (P.info? e).bind fun i => i.zero.map fun z => (e, i.size, i.bytes, z.cells.toList)
  | _ => none
theorem tyMk_out {P : Program} {t e : TypeId} {sz by' : Nat} {zs : List Value} (h : tyMk P t = some (e, sz, by', zs)) : P.underlying t = some (.slice e) ∧ ∃ i z, P.info? e = some i ∧ i.zero = some z ∧ i.size = sz ∧ i.bytes = by' ∧ z.cells.toList = zs := by
  unfold tyMk at h
  cases hu : P.underlying t with
  | none => simp [hu] at h
  | some d =>
    cases d <;> simp only [hu, reduceCtorEq] at h
    case slice e' =>
      cases hi : P.info? e' with
      | none => rw [hi] at h; cases h
      | some i =>
        cases hz : i.zero with
        | none => rw [hi] at h; simp [hz] at h
        | some z =>
          rw [hi] at h
          simp only [Option.bind_some, hz, Option.map_some, Option.some.injEq, Prod.mk.injEq] at h
          obtain ⟨rfl, h1, h2, h3⟩ := h
          exact ⟨rfl, i, z, hi, hz, h1, h2, h3⟩
theorem made_at {z : Value} {n i j sz : Nat} {u : Value} (hs : z.cells.toList.length = sz) (hi : i < n) (hu : z.cells.toList[j]? = some u) : (madeCells z.cells (n * sz))[i * sz + j]? = some u := by
  have hj : j < sz := by rw [← hs]; exact (List.getElem?_eq_some_iff.1 hu).1
  have hlt : i * sz + j < n * sz := by
    have := Nat.mul_le_mul_right sz (show i + 1 ≤ n by omega)
    rw [Nat.add_mul] at this; omega
  have hz : z.cells.size = sz := by rw [← hs, Array.length_toList]
  have hm : (i * sz + j) % sz = j := by rw [Nat.add_comm, Nat.add_mul_mod_self_right, Nat.mod_eq_of_lt hj]
  rw [Array.getElem?_toList] at hu
  simp [madeCells, hlt, hz, hm, Array.getElem!_eq_getD, hu, Array.getD_eq_getD_getElem?]
section
variable {P : Program} {n : Nat} {ops : Array Oper} {o : Oper} {σ : St} {d : Nat}
theorem St1.mk (k' : Nat) (e : TypeId) (sz by' : Nat) (zs : List Value) {t : TypeId} {x y : Operand} {m : Nat} (h4 : (o.op, o.guard, o.dst, Nat.blt d n) = (Op.makeSlice t x y, none, some d, true)) (hx : ev σ x = some (.o (nat1 (m : Nat)))) (hy : ev σ y = some (.o (nat1 (m : Nat)))) (hm : m ≤ 1073741824) (hz : (Nat.beq zs.length sz && zs.all (·.oneCell') && Nat.ble by' 65536) = true)
    (hf : (lk σ (.u k'), Nat.ble 100 k') = (.no, true)) (ht : tyMk P t = some (e, sz, by', zs) := by kernel_rfl) :
    St1 P n ops o σ (.u k' :: (rd x ++ rd y)) [.t d, .u k', .b k', .b k'] ((.t d, .v (.o (.c (.own k' sz m)))) :: (.u k', .u) :: (.b k', .b e sz (dR (List.replicate m (zs.map D.val)))) :: (.b k', .no) :: σ) := by
  simp only [Prod.mk.injEq] at h4 hf
  obtain ⟨ho, hg, hd, hn⟩ := h4
  simp only [Bool.and_eq_true] at hz
  have hzl : zs.length = sz := Nat.eq_of_beq_eq_true hz.1.1
  have hz1 : ∀ u ∈ zs, u.oneCell' = true := fun u hu => List.all_eq_true.1 hz.1.2 u hu
  have hby := Nat.le_of_ble_eq_true hz.2
  have hrow : ∀ {i : Nat} {r : List C}, (dR (List.replicate m (zs.map D.val)))[i]? = some r → i < m ∧ r = zs.map fun u => C.d (.val u) := fun {i r} h => by
    rw [dR, List.map_replicate, List.map_map] at h
    have hi : i < m := by have := (List.getElem?_eq_some_iff.1 h).1; simpa using this
    rw [List.getElem?_replicate, if_pos hi] at h
    exact ⟨hi, (Option.some.inj h).symm⟩
  refine St1.place hg hd hn hf.1 hf.2 (okk_self hf.2) rfl fun E bx τ a w hR hs => ?_
  obtain ⟨hu, i, z, hi, hzz, hs1, hs2, hs3⟩ := tyMk_out ht
  have hbm : i.bytes * m ≤ 281474976710656 := by
    have := Nat.mul_le_mul (show i.bytes ≤ 65536 by omega) hm; omega
  have hb' : (i.bytes : Int) * (m : Int) ≤ 281474976710656 := by
    have h : ((i.bytes * m : Nat) : Int) ≤ 281474976710656 := by omega
    rwa [Int.natCast_mul] at h
  have hr := run_make (P := P) w t e i z hu hi hzz .i64 .i64 (m : Int) (m : Int) (by omega) (Int.le_refl _) hb' (by omega)
  simp only [Int.toNat_natCast, hs1] at hr
  have hsz : (madeCells z.cells (m * sz)).size = m * sz := size_madeCells _ _
  refine ⟨.slice (some ⟨w.heap.size, 0, none⟩) m m, w.alloc (.cells (madeCells z.cells (m * sz)) e), w.heap.size, w.heap.size, madeCells z.cells (m * sz), ?_, .inr (Nat.le_refl _), World.grownBy_alloc w _ _, .inl rfl, heap_alloc_new w _, ?_, fun i r hi => ?_, fun i r j c hi hj => ?_, fun r hr' c hc l hl => ?_, fun bx' al B w2 hbx => ⟨rfl, fun _ => ⟨m, by rw [hbx], Nat.le_refl _, by unfold maxLen; omega, by rw [hbx, hsz]⟩⟩⟩
  · simp only [execOp, ho, ev_val hx (rd_l hR) hs, ev_val hy (rd_r hR) hs, Sem.run_bind, hr]; rfl
  · rw [hsz, dR, List.length_map, List.length_replicate]; exact Nat.le_refl _
  · rw [(hrow hi).2, List.length_map, hzl]
  · obtain ⟨h1, rfl⟩ := hrow hi
    rw [List.getElem?_map] at hj
    cases hq : zs[j]? with
    | none => rw [hq] at hj; cases hj
    | some u =>
      rw [hq] at hj; cases hj
      exact ⟨u, made_at (by rw [hs3, hzl]) h1 (by rw [hs3]; exact hq), .val _ (hz1 u (List.mem_of_getElem? hq))⟩
  · obtain ⟨i, hi⟩ := List.mem_iff_getElem?.1 hr'
    obtain ⟨_, rfl⟩ := hrow hi
    obtain ⟨u, _, rfl⟩ := List.mem_map.1 hc
    cases hl
end


/-- Sizes of loops. -/
def szL (l : Lp) : Nat := szAs l.1 + szAs l.2
def szLs (l : List Lp) : Nat := l.length + (l.map szL).sum
theorem szLs_mem {l : List Lp} {a : Lp} (h : a ∈ l) : l.length + szL a ≤ szLs l := by
  rw [szLs]
  have : ∀ (l : List Nat) (n : Nat), n ∈ l → n ≤ l.sum := by
    intro l
    induction l with
    | nil => intro n h; cases h
    | cons m l ih =>
      intro n h
      rw [List.sum_cons]
      rcases List.mem_cons.1 h with rfl | h
      · omega
      · have := ih n h; omega
  have := this _ _ (List.mem_map_of_mem (f := szL) h)
  omega
theorem szLs_len (l : List Lp) : l.length ≤ szLs l := Nat.le_add_right _ _
/-- Sizes of lists of data, of programs. -/
def szO {α : Type} (f : α → Nat) (l : List α) : Nat := l.length + (l.map f).sum
theorem mem_sum : ∀ (l : List Nat) (n : Nat), n ∈ l → n ≤ l.sum := by
  intro l
  induction l with
  | nil => intro n h; cases h
  | cons m l ih =>
    intro n h
    rw [List.sum_cons]
    rcases List.mem_cons.1 h with rfl | h
    · omega
    · have := ih n h; omega
theorem szO_mem {α : Type} {f : α → Nat} {l : List α} {a : α} (h : a ∈ l) : l.length + f a ≤ szO f l := by
  rw [szO]
  have := mem_sum _ _ (List.mem_map_of_mem (f := f) h)
  omega
theorem szO_len {α : Type} {f : α → Nat} (l : List α) : l.length ≤ szO f l := Nat.le_add_right _ _
def szR (a : Arr) : Nat := a.1.size + a.2.length
def szPt (p : Prt) : Nat := szLs p.1 + szO szS p.2
def szG (g : Prg) : Nat := szO szR g.1 + szO szPt g.2
section
variable {a : Aff} {o : Pts} {x : List Int}
end
theorem npR_pt {ns : List Lp} {x : List Int} (h : x ∈ npR ns) : Small x ∧ x.length ≤ 4 := by
  obtain ⟨h1, h2, h3⟩ := npR_mem h
  have hv := (okP_iff.1 h1).1
  obtain ⟨h4, h5⟩ := mem_pts.1 h2
  have h6 := PB_of_in hv h4 h5 ns.length (Nat.le_refl _)
  rw [← h4, List.take_length] at h6
  have h7 := (nsV_at hv).1
  exact ⟨h6.small (by omega), by omega⟩
/-- Nests as large as memory lets them be. -/
def bgL (l : Lp) : Prop := l.1.length ≤ 1073741824 ∧ l.2.length ≤ 1073741824 ∧ (∀ a ∈ l.1, a.1.length ≤ 1073741824) ∧ ∀ a ∈ l.2, a.1.length ≤ 1073741824
def bgN (ns : List Lp) : Prop := ns.length ≤ 1073741824 ∧ ∀ l ∈ ns, bgL l
theorem smN_of {ns : List Lp} (h : nsV ns = true) : smN ns := by
  obtain ⟨h1, h2⟩ := nsV_at h
  refine ⟨by omega, fun l hl => ?_⟩
  obtain ⟨i, hi⟩ := List.mem_iff_getElem?.1 hl
  obtain ⟨a, b⟩ := h2 i l hi
  simp only [sideV, bndV, Bool.and_eq_true, List.all_eq_true, decide_eq_true_eq] at a b
  exact ⟨by omega, by omega, fun x hx => by rw [affV_len (a.1.1 x hx).1]; omega, fun x hx => by rw [affV_len (b.1.1 x hx).1]; omega⟩


theorem specNestV_B (ns : List Lp) (hs : bgN ns) : Fn Try.prog 64 [] [vD (dLs ns)] (.o (bo1 (nsV ns))) [] := by
 have hn := hs.1
 refine Fn.code0 Try.func64 rfl rfl rfl rfl ?_
 refine .seq <| .region <| .cons (.asg rfl rfl) <| .nil <| ks_n <| .seq <| .seq <| .region <| .cons (.asg rfl rfl) <| .nil <| ks_n <| .block ?_
 refine .loopK (fun m σ => (∃ i : Nat, m = ns.length - i ∧ (i ≤ ns.length) ∧ (nestG 0 ns = nestG i (ns.drop i)) ∧ σ = [(.t 0, .v (.o (vD (dLs ns)))), (.t 3, .v (.o (nat1 (i : Nat))))])) [] ⟨0, rfl, by omega, by simp, rfl⟩ ⟨ks rfl .dt, ks rfl .dt, trivial⟩ ?_
 rintro m σ ⟨i, hm0, hi, hF, rfl⟩
 refine .seq <| .seq <| .region <| .cons (.mv rfl rfl) <| .cons (.mv rfl rfl) <| .cons (.ln 100 2 48 rfl rfl rfl) <| .cons (.ls rfl rfl rfl) <| .cons (.mv rfl rfl) ?_
 refine .cD 8 rfl (fun g8 => ?_) (fun g8 => ?_)
 ·skip
  refine .cons (.gT rfl rfl rfl (.mv rfl rfl)) <| .cons (.gT rfl rfl rfl (.ln 100 2 48 rfl rfl rfl)) <| .cons (.gT rfl rfl rfl (.le rfl rfl rfl)) <| .cons (.pT rfl rfl rfl) <| .nil <| ks_n ?_
  refine ACode.condT rfl (fun h12 => ?_) (fun h12 => ?_)
  ·try simp only [zs1, zs2, zs3, zs4, zs5, zs6, zs7] at h12
   obtain ⟨x, hx1⟩ : ∃ x, ns[i]? = some x := ⟨_, List.getElem?_eq_getElem (by omega)⟩
   have hq := hs.2 x (List.mem_of_getElem? hx1)
   refine .skip <| ks_n <| .seq <| .block <| .seq <| .region <| .cons (.mv rfl rfl) <| .cons (.mv rfl rfl) <| .cons (.xL 100 2 48 rfl rfl rfl rfl rfl) ?_
   refine .cons (.fP 0 0 false rfl rfl) <| .cons (.l1 1 rfl rfl) <| .cons (.mv rfl rfl) <| .cons (.cP [.tmp 19, .tmp 20] rfl rfl rfl rfl (l2Side_fn i _ (Nat.le_trans hq.1 (by omega))) rfl) ?_
   refine .cons (.nt rfl rfl) <| .cons (.mv rfl rfl) ?_
   refine AOps.cases 23 _ rfl (fun g23 => ?_) (fun g23 => ?_)
   ·try simp only [zs1, zs2, zs3, zs4, zs5, zs6, zs7] at g23
    refine .cons (.gF rfl rfl rfl) <| .cons (.gF rfl rfl rfl) <| .cons (.gF rfl rfl rfl) <| .cons (.gF rfl rfl rfl) <| .cons (.gF rfl rfl rfl) <| .cons (.gF rfl rfl rfl) <| .cons (.gF rfl rfl rfl) <| .cons (.gF rfl rfl rfl) <| .cons (.pT rfl rfl rfl) <| .nil <| ks_n ?_
    refine ACode.condT rfl (fun _ => ?_) (fun h => by first | (cases h; done) | (simp [*] at h; done) | (exfalso; simp_all; done))
    refine .seq ?_
    have g : (sideV i x.1 && sideV i x.2) = false := by simp [*]
    refine .region <| .cons (.asg rfl rfl) <| .nil <| ks_n <| .ret <| kb_r <| ks_r <| kl_r <| kb_r <| ks_r ?_
    refine kf_ret rfl ?_ nobox
    exact leafB (by rw [nsV, hF, nestG_drop hx1, g]; simp)
   ·try simp only [zs1, zs2, zs3, zs4, zs5, zs6, zs7] at g23
    refine .cons (.gT rfl rfl rfl (.mv rfl rfl)) <| .cons (.gT rfl rfl rfl (.mv rfl rfl)) <| .cons (.gT rfl rfl rfl (.xL 100 2 48 rfl rfl rfl rfl rfl)) ?_
    refine .cons (.gT rfl rfl rfl (.fP 1 0 false rfl rfl)) <| .cons (.gT rfl rfl rfl (.l1 1 rfl rfl)) <| .cons (.gT rfl rfl rfl (.mv rfl rfl)) <| .cons (.gT rfl rfl rfl (.cP [.tmp 28, .tmp 29] rfl rfl rfl rfl (l2Side_fn i _ (Nat.le_trans hq.2.1 (by omega))) rfl)) ?_
    refine .cons (.gT rfl rfl rfl (.nt rfl rfl)) <| .cons (.pF rfl rfl rfl) <| .nil <| ks_n ?_
    refine ACode.condT rfl (fun h32 => ?_) (fun h32 => ?_)
    ·try simp only [zs1, zs2, zs3, zs4, zs5, zs6, zs7] at h32
     refine .seq ?_
     have g : (sideV i x.1 && sideV i x.2) = false := by simp [*]
     refine .region <| .cons (.asg rfl rfl) <| .nil <| ks_n <| .ret <| kb_r <| ks_r <| kl_r <| kb_r <| ks_r ?_
     refine kf_ret rfl ?_ nobox
     exact leafB (by rw [nsV, hF, nestG_drop hx1, g]; simp)
    ·try simp only [zs1, zs2, zs3, zs4, zs5, zs6, zs7] at h32
     refine .skip <| kb_n <| ks_n ?_
     have g : (sideV i x.1 && sideV i x.2) = true := by simp [*]
     refine .region <| .cons (.mv rfl rfl) <| .cons (.pl rfl rfl rfl) <| .cons (.asg rfl rfl) <| .nil ?_
     refine kl_k [] ⟨i + 1, rfl, by omega, by rw [hF, nestG_drop hx1, g, Bool.true_and], rfl⟩ ⟨ks rfl .dt, ks rfl .dt, trivial⟩
  ·try simp only [zs1, zs2, zs3, zs4, zs5, zs6, zs7] at h12
   refine .exit <| ks_e <| kl_e <| kb_hit <| ks_n <| .seq <| .region <| .cons (.mv rfl rfl) <| .cons (.ln 100 2 48 rfl rfl rfl) <| .cons (.le rfl rfl rfl) <| .cons (.asg rfl rfl) <| .nil <| ks_n <| .ret ?_
   refine kf_ret rfl ?_ nobox
   first | exact leafB (by rw [nsV, hF, List.drop_of_length_le (by omega), nestG, Bool.and_true, Bool.eq_iff_iff]; simp; omega) | exact leafB (by rw [nsV, decide_eq_false (show ¬ ns.length ≤ 4 by omega)]; simp; omega)
 ·skip
  refine .cons (.gF rfl rfl rfl) <| .cons (.gF rfl rfl rfl) <| .cons (.gF rfl rfl rfl) <| .cons (.pF rfl rfl rfl) <| .nil <| ks_n ?_
  refine ACode.condT rfl (fun h => by first | (cases h; done) | (simp [*] at h; done) | (exfalso; simp_all; done)) (fun _ => ?_)
  refine .exit <| ks_e <| kl_e <| kb_hit <| ks_n <| .seq <| .region <| .cons (.mv rfl rfl) <| .cons (.ln 100 2 48 rfl rfl rfl) <| .cons (.le rfl rfl rfl) <| .cons (.asg rfl rfl) <| .nil <| ks_n <| .ret ?_
  refine kf_ret rfl ?_ nobox
  first | exact leafB (by rw [nsV, hF, List.drop_of_length_le (by omega), nestG, Bool.and_true, Bool.eq_iff_iff]; simp; omega) | exact leafB (by rw [nsV, decide_eq_false (show ¬ ns.length ≤ 4 by omega)]; simp; omega)


theorem specNestPts_bad (ns : List Lp) (hs : bgN ns) (hb : nsV ns = false) : Fn Try.prog 47 [] [vD (dLs ns)] (.tup [vD (dPs (npR ns)), bo1 (okP ns)]) [] := by
 have hO : okP ns = false := by rw [okP, hb]; rfl
 have hN := npR_no hO
 refine Fn.code0 Try.func47 rfl rfl rfl rfl ?_
 refine .seq <| .region <| .cons (.asg rfl rfl) <| .cons (.asg rfl rfl) <| .nil <| ks_n <| .seq <| .seq <| .region <| .cons (.mv rfl rfl) <| .cons (.cP [.tmp 5] rfl rfl rfl rfl (specNestV_B ns hs) rfl) ?_
 refine .cons (.nt rfl rfl) <| .cons (.mv rfl rfl) ?_
 refine AOps.cases 8 _ rfl (fun g8 => ?_) (fun g8 => ?_)
 ·try simp only [zs1, zs2, zs3, zs4, zs5, zs6, zs7] at g8
  refine .cons (.gF rfl rfl rfl) <| .cons (.gF rfl rfl rfl) <| .cons (.gF rfl rfl rfl) <| .cons (.pT rfl rfl rfl) <| .nil <| ks_n ?_
  refine ACode.condT rfl (fun _ => ?_) (fun h => by first | (cases h; done) | (simp [*] at h; done) | (exfalso; simp_all; done))
  refine .seq <| .region <| .cons (St1.lit0 (k' := 113) (e := 23) (sz := 1) (b := true) rfl rfl rfl rfl (by kernel_rfl) rfl rfl) ?_
  refine .cons (.asg rfl rfl) <| .cons (.asg rfl rfl) <| .nil <| ks_n <| .ret <| ks_r ?_
  refine kf_wret [(.t 2, .v (.o (vD (dPs (npR ns))))), (.t 3, .v (.o (bo1 (okP ns))))] (Wk.keep [] rfl rfl ⟨ks rfl (.c (.fz rfl (by rw [hN]; first | rfl | simp [dR]) (by rw [hN]; rfl) (by omega))), ks rfl (.dt (by rw [hO])), trivial⟩) rfl ?_ nobox
  rfl
 ·try simp only [zs1, zs2, zs3, zs4, zs5, zs6, zs7] at g8
  rw [hb] at g8; cases g8


theorem specNestPts_B (ns : List Lp) (hs : bgN ns) : Fn Try.prog 47 [] [vD (dLs ns)] (.tup [vD (dPs (npR ns)), bo1 (okP ns)]) [] := by
  cases h : nsV ns with
  | true => exact specNestPts_fn ns (smN_of h)
  | false => exact specNestPts_bad ns hs h
theorem sz_bg {ns : List Lp} (h : szLs ns ≤ 1073741824) : bgN ns := by
  have hl := szLs_len ns
  refine ⟨by omega, fun l hl2 => ?_⟩
  have h1 := szLs_mem hl2
  have e : szL l = szAs l.1 + szAs l.2 := rfl
  have a1 := szAs_len l.1
  have a2 := szAs_len l.2
  exact ⟨by omega, by omega, fun x hx => by have := szAs_mem hx; omega, fun x hx => by have := szAs_mem hx; omega⟩
theorem mem_rdEs {a : Acc} : ∀ {l : List Ex}, a ∈ rdEs l → ∃ x ∈ l, a ∈ rdE x
  | [], h => by rw [rdEs] at h; cases h
  | x :: l, h => by
    rw [rdEs, List.mem_append] at h
    rcases h with h | h
    · exact ⟨x, by simp, h⟩
    · obtain ⟨y, hy, h2⟩ := mem_rdEs h
      exact ⟨y, by simp [hy], h2⟩
theorem rdE_acc {d : Nat} {a : Acc} : ∀ {L : Nat} {e : Ex}, exV d L e = true → a ∈ rdE e → accV d a = true
  | 0, e, h, _ => by cases h
  | L + 1, e, h, ha => by
    rw [exV, Bool.and_eq_true, Bool.and_eq_true] at h
    rw [rdE_eq, List.mem_append] at ha
    rcases ha with ha | ha
    · split at ha
      · rename_i hk
        have h2 := h.1.2
        rw [fldV, if_neg (by omega), if_neg (by omega), if_pos hk, Bool.and_eq_true] at h2
        rw [List.mem_singleton.1 ha]; exact h2.2
      · cases ha
    · obtain ⟨x, hx, h3⟩ := mem_rdEs ha
      exact rdE_acc (List.all_eq_true.1 h.2 x hx) h3
theorem stm_accs {D : Int} {s : Stm} (h : stmtV D s = true) : accV D.toNat s.1 = true ∧ (∀ a ∈ rdE s.2, accV D.toNat a = true) ∧ (rdE s.2).length ≤ 12 := by
  obtain ⟨h1, h2, h3, _⟩ := stmtV_ex h
  exact ⟨h2, fun a ha => rdE_acc h1 ha, Nat.le_trans (rdE_len s.2) h3⟩
theorem all_of {α : Type} {l : List α} {p : α → Bool} (h : ∀ (j : Nat) x, l[j]? = some x → p x = true) : l.all p = true := by
  rw [List.all_eq_true]
  intro x hx
  obtain ⟨j, hj⟩ := List.mem_iff_getElem?.1 hx
  exact h j x hj
def clsV (ar : List Arr) (s : Stm) (p : List Int) : List Int := if stmG ar s p = true then (rdE s.2).map fun a => cellG a p ar 0 else []
def wrV (ar : List Arr) (s : Stm) (p : List Int) : Int := if stmG ar s p = true then cellG s.1 p ar 0 else 0
def cntP (ar : List Arr) (q : Prt) : Int := if prtV ar q = true then (((npR q.1).length * q.2.length : Nat) : Int) else 0
theorem cls_no {ar : List Arr} {s : Stm} {p : List Int} (h : stmG ar s p = false) : clsV ar s p = [] ∧ wrV ar s p = 0 := ⟨if_neg (by rw [h]; simp), if_neg (by rw [h]; simp)⟩
theorem cls_yes {ar : List Arr} {s : Stm} {p : List Int} (h : stmG ar s p = true) : clsV ar s p = (rdE s.2).map (fun a => cellG a p ar 0) ∧ wrV ar s p = cellG s.1 p ar 0 := ⟨if_pos h, if_pos h⟩
theorem accG_no {ar : List Arr} {p : List Int} {a : Acc} (h : cellG a p ar 0 < 0) : accG ar p a = false := decide_eq_false (by omega)
theorem accG_yes {ar : List Arr} {p : List Int} {a : Acc} (h : ¬ cellG a p ar 0 < 0) : accG ar p a = true := decide_eq_true (by omega)
theorem stmG_r {ar : List Arr} {s : Stm} {p : List Int} {a : Acc} (ha : a ∈ rdE s.2) (h : cellG a p ar 0 < 0) : stmG ar s p = false := Bool.eq_false_iff.2 fun h2 => by
  rw [stmG, Bool.and_eq_true] at h2
  have := List.all_eq_true.1 h2.2 a ha
  rw [accG_no h] at this; cases this
theorem stmG_w {ar : List Arr} {s : Stm} {p : List Int} (h : cellG s.1 p ar 0 < 0) : stmG ar s p = false := by rw [stmG, accG_no h]; rfl
theorem stmG_t {ar : List Arr} {s : Stm} {p : List Int} (h : ¬ cellG s.1 p ar 0 < 0) (h2 : ∀ (j : Nat) a, j < (rdE s.2).length → (rdE s.2)[j]? = some a → accG ar p a = true) : stmG ar s p = true := by
  rw [stmG, accG_yes h, Bool.true_and]
  exact all_of fun j a h => h2 j a (List.getElem?_eq_some_iff.1 h).1 h
theorem cntP_no {ar : List Arr} {q : Prt} (h : prtV ar q = false) : cntP ar q = 0 := if_neg (by rw [h]; simp)
theorem cntP_yes {ar : List Arr} {q : Prt} (h : prtV ar q = true) : cntP ar q = (((npR q.1).length * q.2.length : Nat) : Int) := if_pos h
theorem cntP_len {ar : List Arr} {q : Prt} (h : prtV ar q = true) (k : Nat) : cntP ar q = ((insP k q).length : Nat) ∧ (insP k q).length ≤ 480 := by
  obtain ⟨h1, h2⟩ := insP_len (k := k) (prtV_iff.1 h).2.1.2
  exact ⟨by rw [cntP_yes h, h1], h2⟩
theorem np_pts {ns : List Lp} (h : okP ns = true) : nsV ns = true ∧ npR ns = ptsF ns [] [] := by
  have hv := (okP_iff.1 h).1
  exact ⟨hv, (np_yes hv (fun h2 => by rw [np_no1 h2] at h; cases h) (fun h2 => by rw [np_no2 h2] at h; cases h)).2⟩

theorem l4Cells_fn {ar : List Arr} (hv : arrsV ar = true) {D : Int} {s : Stm} {p : List Int} (hs : stmtV D s = true) (hz : szS s ≤ 1073741824) (hS : Small p) (hn : p.length ≤ 4) : Fn Try.prog 41 [] [vD (dRs ar), ad (rS s), vD (dIs p)] (.tup [vD (dIs (clsV ar s p)), nat1 (wrV ar s p), bo1 (stmG ar s p)]) [] := by
  obtain ⟨ha, hr, hrl⟩ := stm_accs hs
  have hz2 : szE s.2 ≤ 1073741824 := by have : szS s = szC s.1 + szE s.2 := rfl; omega
  refine Fn.code0 Try.func41 rfl rfl rfl rfl ?_
  refine .seq <| .region <| .cons (St1.boxP rfl rfl rfl rfl rfl rfl) <| .cons (.asg rfl rfl) <| .cons (.asg rfl rfl) <| .cons (.asg rfl rfl) <| .nil <| ks_n <| .seq <| .region <| .cons (St1.lit0 (k' := 114) (e := 3) (sz := 1) (b := true) rfl rfl rfl rfl (by kernel_rfl) rfl rfl) ?_
  refine .cons (.asg rfl rfl) <| .nil <| ks_n <| .seq <| .region <| .cons (St1.lit0 (k' := 115) (e := 72) (sz := 2) (b := true) rfl rfl rfl rfl (by kernel_rfl) rfl rfl) ?_
  refine .cons (.fP 2 6 true rfl rfl) <| .cons (.lN 7 rfl rfl rfl) <| .cons (.cO [.tmp 15, .tmp 17] [(0, 115), (1000, 118)] rfl rfl rfl rfl (l3Reads_fn s.2 hz2 [] (by simp; omega)) rfl ⟨rfl, trivial⟩ (hbL_flat _ _) (hbL_flat _ _) (hbL_HB _ _) outS_one) ?_
  refine .cons (.asg rfl rfl) <| .nil <| ks_n <| .seq <| .seq <| .region <| .cons (.asg rfl rfl) <| .nil <| ks_n <| .block ?_
  refine .loopK (fun m σ => (∃ i : Nat, m = (rdE s.2).length - i ∧ (i ≤ (rdE s.2).length) ∧ (∀ j a, j < i → (rdE s.2)[j]? = some a → accG ar p a = true) ∧ σ = [(.t 0, .v (.o (vD (dRs ar)))), (.t 2, .v (.o (vD (dIs p)))), (.t 4, .v (.o (.c (.ptr (rS s))))), (.t 9, .v (.o (.c (.own 110 1 (i))))), (.t 10, .v (.o (vD (dCs (rdE s.2))))), (.t 11, .v (.o (nat1 (i : Nat)))), (.b 110, .b 3 1 (dR (((rdE s.2).take i).map fun a => rI (cellG a p ar 0)))), (.u 110, .u)])) [(110, 114)] ⟨0, rfl, by omega, fun j a hj _ => absurd hj (by omega), rfl⟩ ⟨ks rfl .dt, ks rfl .dt, ks rfl .dt, ks rfl (.c .ow), ks rfl (.c (.fz rfl rfl (by simp) (by simp; omega))), ks rfl .dt, kb 114 rfl (.dt rfl (by first | exact dR_take (fun a : Acc => rI (cellG a p ar 0)) hx1 | exact dR_take1 (fun a : Acc => rI (cellG a p ar 0)) hx1 | rfl | (simp [dR]; done))), trivial⟩ ?_
  rintro m σ ⟨i, hm0, hi, hF, rfl⟩
  refine .seq <| .seq <| .region <| .cons (.mv rfl rfl) <| .cons (.mv rfl rfl) <| .cons (.ln 72 2 40 rfl rfl rfl) <| .cons (.ls rfl rfl rfl) <| .nil <| ks_n ?_
  refine .cD rfl (fun h22 => ?_) (fun h22 => ?_)
  · skip
    obtain ⟨x, hx1⟩ : ∃ x_, (rdE s.2)[i]? = some x_ := ⟨_, List.getElem?_eq_getElem (by omega)⟩
    refine .skip <| ks_n <| .seq <| .block <| .seq <| .region <| .cons (.mv rfl rfl) <| .cons (.mv rfl rfl) <| .cons (.mv rfl rfl) <| .cons (.xL 72 2 40 rfl rfl rfl rfl rfl) ?_
    refine .cons (.lN 2 rfl rfl rfl) <| .cons (.mv rfl rfl) <| .cons (.cP [.tmp 25, .tmp 29, .tmp 30] rfl rfl rfl rfl (l4Cell_fn hv (hr x (List.mem_of_getElem? hx1)) hS hn) rfl) ?_
    refine .cons (.asg rfl rfl) <| .nil <| ks_n <| .seq <| .seq <| .region <| .cons (.mv rfl rfl) <| .cons (.ls rfl rfl rfl) <| .nil <| ks_n ?_
    refine .cD rfl (fun h33 => ?_) (fun h33 => ?_)
    · skip
      refine .seq ?_
      have hG := stmG_r (List.mem_of_getElem? hx1) h33
      obtain ⟨hC, hW⟩ := cls_no hG
      refine .region <| .cons (St1.lit0D (e := 3) (sz := 1) (b := true) rfl rfl rfl rfl (by kernel_rfl)) ?_
      refine .cons (.asg rfl rfl) <| .cons (.asg rfl rfl) <| .cons (.asg rfl rfl) <| .nil <| ks_n <| .ret <| ks_r <| kb_r <| ks_r <| kl_r <| kb_r <| ks_r ?_
      refine kf_wret [(.t 6, .v (.o (vD (dIs (clsV ar s p))))), (.t 7, .v (.o (nat1 (wrV ar s p)))), (.t 8, .v (.o (bo1 (stmG ar s p))))] (Wk.keep [] rfl rfl ⟨ks rfl (.dt (by rw [hC]; rfl)), ks rfl (.dt (by rw [hW])), ks rfl (.dt (by rw [hG])), trivial⟩) rfl ?_ nobox
      rfl
    · skip
      refine .skip <| ks_n <| .region <| .cons (.mv rfl rfl) <| .cons (.mv rfl rfl) <| .cons (.li 3 0 0 [.tmp 36] rfl rfl rfl rfl rfl rfl) <| .cons (St1.appB (k' := 138) (e := 3) (sz := 0) (by' := 8) rfl rfl rfl rfl rfl (by kernel_rfl) rfl rfl rfl rfl (by first | (simp [dR]; done) | (simp [dR]; omega)) (by first | (simp [dR]; done) | (simp [dR]; omega)) rfl rfl rfl) ?_
      refine .cons (.asg rfl rfl) <| .nil <| kb_n <| ks_n <| .region <| .cons (.mv rfl rfl) <| .cons (.pl rfl rfl rfl) <| .cons (.asg rfl rfl) <| .nil ?_
      refine kl_k [(110, 138)] ⟨i + 1, rfl, by omega, fun j a' hj h' => (Nat.lt_succ_iff_lt_or_eq.1 hj).elim (fun h => hF j a' h h') (fun h => by subst h; rw [hx1] at h'; cases h'; exact accG_yes h33), rfl⟩ ⟨ks rfl .dt, ks rfl .dt, ks rfl .dt, ks rfl (.c .ow), ks rfl .dt, ks rfl .dt, kb 138 rfl (.dt rfl (by first | exact dR_take (fun a : Acc => rI (cellG a p ar 0)) hx1 | exact dR_take1 (fun a : Acc => rI (cellG a p ar 0)) hx1 | rfl | (simp [dR]; done))), trivial⟩
  · skip
    obtain rfl : i = (rdE s.2).length := by omega
    refine .exit <| ks_e <| kl_e <| kb_hit <| ks_n <| .seq <| .region <| .cons (.mv rfl rfl) <| .cons (.fP 0 1 true rfl rfl) <| .cons (.lN 2 rfl rfl rfl) <| .cons (.mv rfl rfl) <| .cons (.cP [.tmp 39, .tmp 41, .tmp 42] rfl rfl rfl rfl (l4Cell_fn hv ha hS hn) rfl) ?_
    refine .cons (.asg rfl rfl) <| .nil <| ks_n <| .seq <| .seq <| .region <| .cons (.mv rfl rfl) <| .cons (.ls rfl rfl rfl) <| .nil <| ks_n ?_
    refine .cD rfl (fun h45 => ?_) (fun h45 => ?_)
    · skip
      refine .seq ?_
      have hG : stmG ar s p = false := stmG_w h45
      obtain ⟨hC, hW⟩ := cls_no hG
      refine .region <| .cons (St1.lit0D (e := 3) (sz := 1) (b := true) rfl rfl rfl rfl (by kernel_rfl)) ?_
      refine .cons (.asg rfl rfl) <| .cons (.asg rfl rfl) <| .cons (.asg rfl rfl) <| .nil <| ks_n <| .ret <| ks_r ?_
      refine kf_wret [(.t 6, .v (.o (vD (dIs (clsV ar s p))))), (.t 7, .v (.o (nat1 (wrV ar s p)))), (.t 8, .v (.o (bo1 (stmG ar s p))))] (Wk.keep [] rfl rfl ⟨ks rfl (.dt (by rw [hC]; rfl)), ks rfl (.dt (by rw [hW])), ks rfl (.dt (by rw [hG])), trivial⟩) rfl ?_ nobox
      rfl
    · skip
      refine .skip <| ks_n <| .seq ?_
      have hG := stmG_t h45 hF
      obtain ⟨hC, hW⟩ := cls_yes hG
      refine .region <| .cons (.mv rfl rfl) <| .cons (.mv rfl rfl) <| .cons (.asg rfl rfl) <| .cons (.asg rfl rfl) <| .cons (.asg rfl rfl) <| .nil <| ks_n <| .ret ?_
      refine kf_wret [(.t 6, .v (.o (vD (dIs (clsV ar s p))))), (.t 7, .v (.o (nat1 (wrV ar s p)))), (.t 8, .v (.o (bo1 (stmG ar s p))))] (Wk.keep [] rfl rfl ⟨ks rfl (.c (.fz rfl (by rw [hC]; first | rfl | (rw [List.take_length, List.map_map]; rfl)) (by rw [hC]; simp) (by omega))), ks rfl (.dt (by rw [hW])), ks rfl (.dt (by rw [hG])), trivial⟩) rfl ?_ nobox
      rfl

theorem l4Part_fn {ar : List Arr} (hv : arrsV ar = true) {q : Prt} (hs : szPt q ≤ 1073741824) : Fn Try.prog 39 [] [vD (dRs ar), ad (rP q)] (.tup [nat1 (cntP ar q), bo1 (prtV ar q)]) [] := by
 have hqe : szPt q = szLs q.1 + szO szS q.2 := rfl
 have hbg := sz_bg (ns := q.1) (by omega)
 have hql := szO_len (f := szS) q.2
 have hnl := npR_len q.1
 refine Fn.code0 Try.func39 rfl rfl rfl rfl ?_
 refine .seq <| .region <| .cons (St1.boxP rfl rfl rfl rfl rfl rfl) <| .cons (.asg rfl rfl) <| .cons (.asg rfl rfl) <| .nil <| ks_n <| .seq <| .region <| .cons (.fP 0 0 false rfl rfl) <| .cons (.l1 1 rfl rfl) <| .cons (.cP [.tmp 15] rfl rfl rfl rfl (specNestPts_B q.1 hbg) rfl) ?_
 refine .cons (.mv rfl rfl) <| .cons (.ex rfl rfl rfl) <| .cons (.ex rfl rfl rfl) <| .cons (.asg rfl rfl) <| .cons (.asg rfl rfl) <| .nil <| ks_n <| .seq <| .seq <| .region <| .cons (.mv rfl rfl) <| .cons (.nt rfl rfl) <| .cons (.mv rfl rfl) ?_
 refine AOps.cases 21 _ rfl (fun g21 => ?_) (fun g21 => ?_)
 ·try simp only [zs1, zs2, zs3, zs4, zs5, zs6, zs7] at g21
  refine .cons (.gF rfl rfl rfl) <| .cons (.gF rfl rfl rfl) <| .cons (.gF rfl rfl rfl) <| .cons (.gF rfl rfl rfl) <| .cons (.pT rfl rfl rfl) <| .cons (.mv rfl rfl) <| .cons (.gF rfl rfl rfl) <| .cons (.gF rfl rfl rfl) <| .cons (.gF rfl rfl rfl) <| .cons (.gF rfl rfl rfl) <| .cons (.pT rfl rfl rfl) <| .nil <| ks_n ?_
  refine ACode.condT rfl (fun _ => ?_) (fun h => by first | (cases h; done) | (simp [*] at h; done) | (exfalso; simp_all; done))
  refine .seq ?_
  have hP : prtV ar q = false := by first | exact prtV_f1 (by assumption) | exact prtV_f2 (by omega)
  have hC := cntP_no hP
  refine .region <| .cons (.asg rfl rfl) <| .cons (.asg rfl rfl) <| .nil <| ks_n <| .ret <| ks_r ?_
  refine kf_wret [(.t 4, .v (.o (nat1 (cntP ar q)))), (.t 5, .v (.o (bo1 (prtV ar q))))] (Wk.keep [] rfl rfl ⟨ks rfl (.dt (by first | (rw [hC]; done) | (rw [hC]; rfl) | (rw [hC]; exact congrArg (fun z => V.o (nat1 z)) (by rw [Int.natCast_mul])))), ks rfl (.dt (by rw [hP])), trivial⟩) rfl ?_ nobox
  rfl
 ·try simp only [zs1, zs2, zs3, zs4, zs5, zs6, zs7] at g21
  refine .cons (.gT rfl rfl rfl (.fP 1 0 false rfl rfl)) <| .cons (.gT rfl rfl rfl (.l1 1 rfl rfl)) <| .cons (.gT rfl rfl rfl (.ln 79 9 152 rfl rfl rfl)) <| .cons (.gT rfl rfl rfl (.ls rfl rfl rfl)) <| .cons (.pF rfl rfl rfl) <| .cons (.mv rfl rfl) ?_
  refine AOps.cases 27 _ rfl (fun g27 => ?_) (fun g27 => ?_)
  ·try simp only [zs1, zs2, zs3, zs4, zs5, zs6, zs7] at g27
   refine .cons (.gF rfl rfl rfl) <| .cons (.gF rfl rfl rfl) <| .cons (.gF rfl rfl rfl) <| .cons (.gF rfl rfl rfl) <| .cons (.pT rfl rfl rfl) <| .nil <| ks_n ?_
   refine ACode.condT rfl (fun _ => ?_) (fun h => by first | (cases h; done) | (simp [*] at h; done) | (exfalso; simp_all; done))
   refine .seq ?_
   have hP : prtV ar q = false := by first | exact prtV_f1 (by assumption) | exact prtV_f2 (by omega)
   have hC := cntP_no hP
   refine .region <| .cons (.asg rfl rfl) <| .cons (.asg rfl rfl) <| .nil <| ks_n <| .ret <| ks_r ?_
   refine kf_wret [(.t 4, .v (.o (nat1 (cntP ar q)))), (.t 5, .v (.o (bo1 (prtV ar q))))] (Wk.keep [] rfl rfl ⟨ks rfl (.dt (by first | (rw [hC]; done) | (rw [hC]; rfl) | (rw [hC]; exact congrArg (fun z => V.o (nat1 z)) (by rw [Int.natCast_mul])))), ks rfl (.dt (by rw [hP])), trivial⟩) rfl ?_ nobox
   rfl
  ·try simp only [zs1, zs2, zs3, zs4, zs5, zs6, zs7] at g27
   refine .cons (.gT rfl rfl rfl (.fP 1 0 false rfl rfl)) <| .cons (.gT rfl rfl rfl (.l1 1 rfl rfl)) <| .cons (.gT rfl rfl rfl (.ln 79 9 152 rfl rfl rfl)) <| .cons (.gT rfl rfl rfl (.gt rfl rfl rfl)) <| .cons (.pF rfl rfl rfl) <| .nil <| ks_n ?_
   refine ACode.condT rfl (fun h32 => ?_) (fun h32 => ?_)
   ·try simp only [zs1, zs2, zs3, zs4, zs5, zs6, zs7] at h32
    refine .seq ?_
    have hP : prtV ar q = false := by first | exact prtV_f1 (by assumption) | exact prtV_f2 (by omega)
    have hC := cntP_no hP
    refine .region <| .cons (.asg rfl rfl) <| .cons (.asg rfl rfl) <| .nil <| ks_n <| .ret <| ks_r ?_
    refine kf_wret [(.t 4, .v (.o (nat1 (cntP ar q)))), (.t 5, .v (.o (bo1 (prtV ar q))))] (Wk.keep [] rfl rfl ⟨ks rfl (.dt (by first | (rw [hC]; done) | (rw [hC]; rfl) | (rw [hC]; exact congrArg (fun z => V.o (nat1 z)) (by rw [Int.natCast_mul])))), ks rfl (.dt (by rw [hP])), trivial⟩) rfl ?_ nobox
    rfl
   ·try simp only [zs1, zs2, zs3, zs4, zs5, zs6, zs7] at h32
    have hv1 : okP q.1 = true := by first | assumption | simp_all
    have hv2 : 1 ≤ q.2.length ∧ q.2.length ≤ 4 := by omega
    have hmb := Nat.mul_le_mul hnl hv2.2
    refine .skip <| ks_n <| .seq <| .seq <| .region <| .cons (.asg rfl rfl) <| .nil <| ks_n <| .block ?_
    refine .loopK (fun m σ => (∃ i : Nat, m = q.2.length - i ∧ (i ≤ q.2.length) ∧ (∀ j s, j < i → q.2[j]? = some s → stmtV (q.1.length : Nat) s = true ∧ ∀ p ∈ npR q.1, stmG ar s p = true ∧ isPt p = true) ∧ σ = [(.t 0, .v (.o (vD (dRs ar)))), (.t 3, .v (.o (.c (.ptr (rP q))))), (.t 6, .v (.o (vD (dPs (npR q.1))))), (.t 8, .v (.o (nat1 (i : Nat))))])) [] ⟨0, rfl, by omega, fun j s hj _ => absurd hj (by omega), rfl⟩ ⟨ks rfl .dt, ks rfl .dt, ks rfl .dt, ks rfl .dt, trivial⟩ ?_
    rintro m σ ⟨i, hm0, hi, hF, rfl⟩
    refine .seq <| .seq <| .region <| .cons (.mv rfl rfl) <| .cons (.fP 1 0 false rfl rfl) <| .cons (.l1 1 rfl rfl) <| .cons (.ln 79 9 152 rfl rfl rfl) <| .cons (.ls rfl rfl rfl) <| .nil <| ks_n ?_
    refine .cD rfl (fun h37 => ?_) (fun h37 => ?_)
    ·skip
     obtain ⟨s, hs1⟩ : ∃ x_, q.2[i]? = some x_ := ⟨_, List.getElem?_eq_getElem (by omega)⟩
     have hsm := List.mem_of_getElem? hs1
     have hss := szO_mem (f := szS) hsm
     refine .skip <| ks_n <| .seq <| .block <| .seq <| .seq ?_
     refine ACode.drawK (by kernel_rfl) (by kernel_rfl) ?_
     refine .cons (.fP 1 0 false rfl rfl) <| .cons (.l1 1 rfl rfl) <| .cons (.mv rfl rfl) <| .cons (.xL 79 9 152 rfl rfl rfl rfl rfl) ?_
     refine .cons (.lN 9 rfl rfl rfl) <| .cons (.fP 0 0 false rfl rfl) <| .cons (.l1 1 rfl rfl) <| .cons (.ln 100 2 48 rfl rfl rfl) <| .cons (.cP [.tmp 44, .tmp 47] rfl rfl rfl rfl (specStmtV_fn (q.1.length : Nat) s (by omega)) rfl) ?_
     refine .cons (.nt rfl rfl) ?_
     refine .nil ⟨by kernel_rfl, ?_⟩
     refine ks_n ?_
     refine ACode.condT rfl (fun h49 => ?_) (fun h49 => ?_)
     ·try simp only [zs1, zs2, zs3, zs4, zs5, zs6, zs7] at h49
      refine .seq ?_
      have hP := prtV_f3 (ar := ar) hsm (by assumption)
      have hC := cntP_no hP
      refine .region <| .cons (.asg rfl rfl) <| .cons (.asg rfl rfl) <| .nil <| ks_n <| .ret <| ks_r <| kb_r <| ks_r <| kl_r <| kb_r <| ks_r ?_
      refine kf_wret [(.t 4, .v (.o (nat1 (cntP ar q)))), (.t 5, .v (.o (bo1 (prtV ar q))))] (Wk.keep [] rfl rfl ⟨ks rfl (.dt (by first | (rw [hC]; done) | (rw [hC]; rfl) | (rw [hC]; exact congrArg (fun z => V.o (nat1 z)) (by rw [Int.natCast_mul])))), ks rfl (.dt (by rw [hP])), trivial⟩) rfl ?_ nobox
      rfl
     ·try simp only [zs1, zs2, zs3, zs4, zs5, zs6, zs7] at h49
      have hsv : stmtV (q.1.length : Nat) s = true := by assumption
      refine .skip <| ks_n <| .seq <| .region <| .cons (.asg rfl rfl) <| .nil <| ks_n <| .block ?_
      refine .loopK (fun m σ => (∃ k : Nat, m = (npR q.1).length - k ∧ (k ≤ (npR q.1).length) ∧ (∀ j p, j < k → (npR q.1)[j]? = some p → stmG ar s p = true ∧ isPt p = true) ∧ σ = [(.t 0, .v (.o (vD (dRs ar)))), (.t 3, .v (.o (.c (.ptr (rP q))))), (.t 6, .v (.o (vD (dPs (npR q.1))))), (.t 8, .v (.o (nat1 (i : Nat)))), (.t 9, .v (.o (nat1 (k : Nat))))])) [] ⟨0, rfl, by omega, fun j p hj _ => absurd hj (by omega), rfl⟩ ⟨ks rfl .dt, ks rfl .dt, ks rfl .dt, ks rfl .dt, ks rfl .dt, trivial⟩ ?_
      rintro m σ ⟨k, hm0, hk, hG, rfl⟩
      refine .seq <| .seq <| .region <| .cons (.mv rfl rfl) <| .cons (.mv rfl rfl) <| .cons (.ln 23 1 24 rfl rfl rfl) <| .cons (.ls rfl rfl rfl) <| .nil <| ks_n ?_
      refine .cD rfl (fun h53 => ?_) (fun h53 => ?_)
      ·skip
       obtain ⟨p, hp1⟩ : ∃ x_, (npR q.1)[k]? = some x_ := ⟨_, List.getElem?_eq_getElem (by omega)⟩
       have hpm := List.mem_of_getElem? hp1
       have hpt := npR_pt hpm
       refine .skip <| ks_n <| .seq <| .block <| .seq ?_
       refine ACode.drawK (by kernel_rfl) (by kernel_rfl) ?_
       refine .cons (.mv rfl rfl) <| .cons (.fP 1 0 false rfl rfl) <| .cons (.l1 1 rfl rfl) <| .cons (.mv rfl rfl) <| .cons (.xL 79 9 152 rfl rfl rfl rfl rfl) ?_
       refine .cons (.lN 9 rfl rfl rfl) <| .cons (.mv rfl rfl) <| .cons (.mv rfl rfl) <| .cons (.xL 23 1 24 rfl rfl rfl rfl rfl) ?_
       refine .cons (.l1 1 rfl rfl) <| .cons (.cP [.tmp 57, .tmp 62, .tmp 66] rfl rfl rfl rfl (l4Cells_fn hv hsv (by omega) hpt.1 hpt.2) rfl) ?_
       refine .cons (.mv rfl rfl) <| .cons (.ex rfl rfl rfl) <| .cons (.ex rfl rfl rfl) <| .cons (.ex rfl rfl rfl) <| .cons (.asg rfl rfl) <| .cons (.asg rfl rfl) <| .cons (.asg rfl rfl) ?_
       refine .nil ⟨by kernel_rfl, ?_⟩
       refine ks_n <| .seq <| .region <| .cons (.mv rfl rfl) <| .cons (.nt rfl rfl) <| .cons (.mv rfl rfl) ?_
       refine AOps.cases 73 _ rfl (fun g73 => ?_) (fun g73 => ?_)
       ·try simp only [zs1, zs2, zs3, zs4, zs5, zs6, zs7] at g73
        refine .cons (.gF rfl rfl rfl) <| .cons (.gF rfl rfl rfl) <| .cons (.gF rfl rfl rfl) <| .cons (.gF rfl rfl rfl) <| .cons (.gF rfl rfl rfl) <| .cons (.gF rfl rfl rfl) <| .cons (.pT rfl rfl rfl) <| .nil <| ks_n ?_
        refine ACode.condT rfl (fun _ => ?_) (fun h => by first | (cases h; done) | (simp [*] at h; done) | (exfalso; simp_all; done))
        refine .seq ?_
        have hP : prtV ar q = false := by first | exact prtV_f5 hpm hsm (by assumption) | exact prtV_f4 hpm (by assumption)
        have hC := cntP_no hP
        refine .region <| .cons (.asg rfl rfl) <| .cons (.asg rfl rfl) <| .nil <| ks_n <| .ret <| kb_r <| ks_r <| kl_r <| kb_r <| kb_r <| ks_r <| kl_r <| kb_r <| ks_r ?_
        refine kf_wret [(.t 4, .v (.o (nat1 (cntP ar q)))), (.t 5, .v (.o (bo1 (prtV ar q))))] (Wk.keep [] rfl rfl ⟨ks rfl (.dt (by first | (rw [hC]; done) | (rw [hC]; rfl) | (rw [hC]; exact congrArg (fun z => V.o (nat1 z)) (by rw [Int.natCast_mul])))), ks rfl (.dt (by rw [hP])), trivial⟩) rfl ?_ nobox
        rfl
       ·try simp only [zs1, zs2, zs3, zs4, zs5, zs6, zs7] at g73
        refine .cons (.gT rfl rfl rfl (.mv rfl rfl)) <| .cons (.gT rfl rfl rfl (.mv rfl rfl)) <| .cons (.gT rfl rfl rfl (.xL 23 1 24 rfl rfl rfl rfl rfl)) ?_
        refine .cons (.gT rfl rfl rfl (.l1 1 rfl rfl)) <| .cons (.gT rfl rfl rfl (.cP [.tmp 77] rfl rfl rfl rfl (l1Point_fn _) rfl)) ?_
        refine .cons (.gT rfl rfl rfl (.nt rfl rfl)) <| .cons (.pF rfl rfl rfl) <| .nil <| ks_n ?_
        refine ACode.condT rfl (fun h80 => ?_) (fun h80 => ?_)
        ·try simp only [zs1, zs2, zs3, zs4, zs5, zs6, zs7] at h80
         refine .seq ?_
         have hP : prtV ar q = false := by first | exact prtV_f5 hpm hsm (by assumption) | exact prtV_f4 hpm (by assumption)
         have hC := cntP_no hP
         refine .region <| .cons (.asg rfl rfl) <| .cons (.asg rfl rfl) <| .nil <| ks_n <| .ret <| kb_r <| ks_r <| kl_r <| kb_r <| kb_r <| ks_r <| kl_r <| kb_r <| ks_r ?_
         refine kf_wret [(.t 4, .v (.o (nat1 (cntP ar q)))), (.t 5, .v (.o (bo1 (prtV ar q))))] (Wk.keep [] rfl rfl ⟨ks rfl (.dt (by first | (rw [hC]; done) | (rw [hC]; rfl) | (rw [hC]; exact congrArg (fun z => V.o (nat1 z)) (by rw [Int.natCast_mul])))), ks rfl (.dt (by rw [hP])), trivial⟩) rfl ?_ nobox
         rfl
        ·try simp only [zs1, zs2, zs3, zs4, zs5, zs6, zs7] at h80
         have hSG : stmG ar s p = true := by first | assumption | simp_all
         have hPT : isPt p = true := by first | assumption | simp_all
         refine .skip <| kb_n <| ks_n <| .region <| .cons (.mv rfl rfl) <| .cons (.pl rfl rfl rfl) <| .cons (.asg rfl rfl) <| .nil ?_
         refine kl_k [] ⟨k + 1, rfl, by omega, fun j p' hj h' => (Nat.lt_succ_iff_lt_or_eq.1 hj).elim (fun h => hG j p' h h') (fun h => by subst h; rw [hp1] at h'; cases h'; exact ⟨hSG, hPT⟩), rfl⟩ ⟨ks rfl .dt, ks rfl .dt, ks rfl .dt, ks rfl .dt, ks rfl .dt, trivial⟩
      ·skip
       have hAll : ∀ p ∈ npR q.1, stmG ar s p = true ∧ isPt p = true := fun p hp => by obtain ⟨j, hj⟩ := List.mem_iff_getElem?.1 hp; exact hG j p (by have := (List.getElem?_eq_some_iff.1 hj).1; omega) hj
       refine .exit <| ks_e <| kl_e <| kb_hit <| kb_n <| ks_n <| .region <| .cons (.mv rfl rfl) <| .cons (.pl rfl rfl rfl) <| .cons (.asg rfl rfl) <| .nil ?_
       refine kl_k [] ⟨i + 1, rfl, by omega, fun j s' hj h' => (Nat.lt_succ_iff_lt_or_eq.1 hj).elim (fun h => hF j s' h h') (fun h => by subst h; rw [hs1] at h'; cases h'; exact ⟨hsv, hAll⟩), rfl⟩ ⟨ks rfl .dt, ks rfl .dt, ks rfl .dt, ks rfl .dt, trivial⟩
    ·skip
     have hP : prtV ar q = true := prtV_iff.2 ⟨hv1, hv2, fun s hs => by obtain ⟨j, hj⟩ := List.mem_iff_getElem?.1 hs; exact (hF j s (by have := (List.getElem?_eq_some_iff.1 hj).1; omega) hj).1, fun p hp => ⟨by obtain ⟨s, hs⟩ : ∃ s, q.2[0]? = some s := ⟨_, List.getElem?_eq_getElem (by omega)⟩; exact ((hF 0 s (by omega) hs).2 p hp).2, fun s hs => by obtain ⟨j, hj⟩ := List.mem_iff_getElem?.1 hs; exact ((hF j s (by have := (List.getElem?_eq_some_iff.1 hj).1; omega) hj).2 p hp).1⟩⟩
     have hC := cntP_yes hP
     refine .exit <| ks_e <| kl_e <| kb_hit <| ks_n <| .seq <| .region <| .cons (.mv rfl rfl) <| .cons (.ln 23 1 24 rfl rfl rfl) <| .cons (.fP 1 0 false rfl rfl) <| .cons (.l1 1 rfl rfl) <| .cons (.ln 79 9 152 rfl rfl rfl) <| .cons (.ml rfl rfl rfl (by omega)) ?_
     refine .cons (.asg rfl rfl) <| .cons (.asg rfl rfl) <| .nil <| ks_n <| .ret ?_
     refine kf_wret [(.t 4, .v (.o (nat1 (cntP ar q)))), (.t 5, .v (.o (bo1 (prtV ar q))))] (Wk.keep [] rfl rfl ⟨ks rfl (.dt (by first | (rw [hC]; done) | (rw [hC]; rfl) | (rw [hC]; exact congrArg (fun z => V.o (nat1 z)) (by rw [Int.natCast_mul])))), ks rfl (.dt (by rw [hP])), trivial⟩) rfl ?_ nobox
     rfl

theorem specPV_fn {g : Prg} (hs : szG g ≤ 1073741824) : Fn Try.prog 33 [] [ad (rG g)] (.o (bo1 (prgV g))) [] := by
 have h1 := szO_len (f := szR) g.1
 have h2 := szO_len (f := szPt) g.2
 have hsz : szG g = szO szR g.1 + szO szPt g.2 := rfl
 refine Fn.code0 Try.func33 rfl rfl rfl rfl ?_
 refine .seq <| .region <| .cons (St1.boxP rfl rfl rfl rfl rfl rfl) <| .cons (.asg rfl rfl) <| .nil <| ks_n <| .seq <| .seq <| .region <| .cons (.fP 0 0 false rfl rfl) <| .cons (.l1 1 rfl rfl) <| .cons (.cP [.tmp 8] rfl rfl rfl rfl (l4Arrays_fn g.1 (by omega) (fun x hx => by have := szO_mem (f := szR) hx; have e : szR x = x.1.size + x.2.length := rfl; omega)) rfl) ?_
 refine .cons (.nt rfl rfl) <| .cons (.mv rfl rfl) ?_
 refine AOps.cases 11 _ rfl (fun g11 => ?_) (fun g11 => ?_)
 ·try simp only [zs1, zs2, zs3, zs4, zs5, zs6, zs7] at g11
  refine .cons (.gF rfl rfl rfl) <| .cons (.gF rfl rfl rfl) <| .cons (.gF rfl rfl rfl) <| .cons (.gF rfl rfl rfl) <| .cons (.pT rfl rfl rfl) <| .nil <| ks_n ?_
  refine ACode.condT rfl (fun _ => ?_) (fun h => by first | (cases h; done) | (simp [*] at h; done) | (exfalso; simp_all; done))
  refine .seq ?_
  obtain ⟨hO, hN⟩ := prgV_f (g := g) (by first | exact prgS_f2 (show ¬ g.2.length ≤ 4 by omega) | exact prgS_f1 (by assumption))
  refine .region <| .cons (.asg rfl rfl) <| .nil <| ks_n <| .ret <| ks_r ?_
  refine kf_ret rfl ?_ nobox
  exact leafB (by rw [hO]; try (rw [decide_eq_decide]; omega))
 ·try simp only [zs1, zs2, zs3, zs4, zs5, zs6, zs7] at g11
  refine .cons (.gT rfl rfl rfl (.fP 1 0 false rfl rfl)) <| .cons (.gT rfl rfl rfl (.l1 1 rfl rfl)) <| .cons (.gT rfl rfl rfl (.ln 65 2 48 rfl rfl rfl)) <| .cons (.gT rfl rfl rfl (.gt rfl rfl rfl)) <| .cons (.pF rfl rfl rfl) <| .nil <| ks_n ?_
  refine ACode.condT rfl (fun h16 => ?_) (fun h16 => ?_)
  ·try simp only [zs1, zs2, zs3, zs4, zs5, zs6, zs7] at h16
   refine .seq ?_
   obtain ⟨hO, hN⟩ := prgV_f (g := g) (by first | exact prgS_f2 (show ¬ g.2.length ≤ 4 by omega) | exact prgS_f1 (by assumption))
   refine .region <| .cons (.asg rfl rfl) <| .nil <| ks_n <| .ret <| ks_r ?_
   refine kf_ret rfl ?_ nobox
   exact leafB (by rw [hO]; try (rw [decide_eq_decide]; omega))
  ·try simp only [zs1, zs2, zs3, zs4, zs5, zs6, zs7] at h16
   have hA : arrsV g.1 = true := by first | assumption | simp_all
   have h4 : g.2.length ≤ 4 := by omega
   refine .skip <| ks_n <| .seq <| .region <| .cons (.asg rfl rfl) <| .nil <| ks_n <| .seq <| .seq <| .region <| .cons (.asg rfl rfl) <| .nil <| ks_n <| .block ?_
   refine .loopK (fun m σ => (∃ (k : Nat) (t : Int), m = g.2.length - k ∧ (k ≤ g.2.length) ∧ (∀ j q, j < k → g.2[j]? = some q → prtV g.1 q = true) ∧ (t = ((insG 0 (g.2.take k)).length : Nat)) ∧ (0 ≤ t ∧ t ≤ 480 * k) ∧ σ = [(.t 1, .v (.o (.c (.ptr (rG g))))), (.t 2, .v (.o (bo1 false))), (.t 3, .v (.o (nat1 t))), (.t 4, .v (.o (nat1 (k : Nat))))])) [] ⟨0, 0, rfl, by omega, fun j q hj _ => absurd hj (by omega), rfl, by omega, rfl⟩ ⟨ks rfl .dt, ks rfl .dt, ks rfl .dt, ks rfl .dt, trivial⟩ ?_
   rintro m σ ⟨k, t, hm0, hk, hF, hT, hb, rfl⟩
   refine .seq <| .seq <| .region <| .cons (.mv rfl rfl) <| .cons (.fP 1 0 false rfl rfl) <| .cons (.l1 1 rfl rfl) <| .cons (.ln 65 2 48 rfl rfl rfl) <| .cons (.ls rfl rfl rfl) <| .nil <| ks_n ?_
   refine .cD rfl (fun h21 => ?_) (fun h21 => ?_)
   ·skip
    obtain ⟨q, hq1⟩ : ∃ x_, g.2[k]? = some x_ := ⟨_, List.getElem?_eq_getElem (by omega)⟩
    have hqm := List.mem_of_getElem? hq1
    have hqs := szO_mem (f := szPt) hqm
    refine .skip <| ks_n <| .seq <| .block <| .seq ?_
    refine ACode.drawK (by kernel_rfl) (by kernel_rfl) ?_
    refine .cons (.fP 0 0 false rfl rfl) <| .cons (.l1 1 rfl rfl) <| .cons (.fP 1 0 false rfl rfl) <| .cons (.l1 1 rfl rfl) <| .cons (.mv rfl rfl) <| .cons (.xL 65 2 48 rfl rfl rfl rfl rfl) ?_
    refine .cons (.lN 2 rfl rfl rfl) <| .cons (.cP [.tmp 26, .tmp 31] rfl rfl rfl rfl (l4Part_fn hA (by omega)) rfl) ?_
    refine .cons (.mv rfl rfl) <| .cons (.ex rfl rfl rfl) <| .cons (.ex rfl rfl rfl) <| .cons (.asg rfl rfl) <| .cons (.asg rfl rfl) ?_
    refine .nil ⟨by kernel_rfl, ?_⟩
    refine ks_n <| .seq <| .seq <| .region <| .cons (.mv rfl rfl) <| .cons (.nt rfl rfl) <| .nil <| ks_n ?_
    refine ACode.condT rfl (fun h36 => ?_) (fun h36 => ?_)
    ·try simp only [zs1, zs2, zs3, zs4, zs5, zs6, zs7] at h36
     refine .seq ?_
     obtain ⟨hO, hN⟩ := prgV_f (prgS_f3 hqm (by assumption))
     refine .region <| .cons (.asg rfl rfl) <| .nil <| ks_n <| .ret <| ks_r <| kb_r <| ks_r <| kl_r <| kb_r <| ks_r ?_
     refine kf_ret rfl ?_ nobox
     exact leafB (by rw [hO]; try (rw [decide_eq_decide]; omega))
    ·try simp only [zs1, zs2, zs3, zs4, zs5, zs6, zs7] at h36
     have hPV : prtV g.1 q = true := by assumption
     have hcl := cntP_len hPV k
     refine .skip <| ks_n <| .region <| .cons (.mv rfl rfl) <| .cons (.mv rfl rfl) <| .cons (.pl rfl rfl rfl) <| .cons (.asg rfl rfl) <| .nil <| kb_n <| ks_n <| .region <| .cons (.mv rfl rfl) <| .cons (.pl rfl rfl rfl) <| .cons (.asg rfl rfl) <| .nil ?_
     refine kl_k [] ⟨k + 1, t + cntP g.1 q, rfl, by omega, fun j q' hj h' => (Nat.lt_succ_iff_lt_or_eq.1 hj).elim (fun h => hF j q' h h') (fun h => by subst h; rw [hq1] at h'; cases h'; exact hPV), by rw [insG_take hq1, List.length_append, hT, hcl.1]; omega, by omega, rfl⟩ ⟨ks rfl .dt, ks rfl .dt, ks rfl .dt, ks rfl .dt, trivial⟩
   ·skip
    obtain rfl : k = g.2.length := by omega
    rw [List.take_length] at hT
    obtain ⟨hO, hN⟩ := prgV_t (prgS_eq hA h4 hF)
    refine .exit <| ks_e <| kl_e <| kb_hit <| ks_n <| .seq <| .region <| .cons (.mv rfl rfl) <| .cons (.le rfl rfl rfl) <| .cons (.asg rfl rfl) <| .nil <| ks_n <| .ret ?_
    refine kf_ret rfl ?_ nobox
    exact leafB (by rw [hO]; try (rw [decide_eq_decide]; omega))

theorem l4Instances_fn {g : Prg} (hg : prgS g = true) : Fn Try.prog 40 [] [ad (rG g)] (.o (vD (dNs (insG 0 g.2)))) [] := by
  obtain ⟨hA, h4, hP⟩ := prgS_iff.1 hg
  refine Fn.code0 Try.func40 rfl rfl rfl rfl ?_
  refine .seq <| .region <| .cons (St1.boxP rfl rfl rfl rfl rfl rfl) <| .cons (.asg rfl rfl) <| .nil <| ks_n <| .seq <| .region <| .cons (St1.lit0 (k' := 108) (e := 81) (sz := 3) (b := true) rfl rfl rfl rfl (by kernel_rfl) rfl rfl) ?_
  refine .cons (.asg rfl rfl) <| .nil <| ks_n <| .seq <| .seq <| .region <| .cons (.asg rfl rfl) <| .nil <| ks_n <| .block ?_
  refine .loopK (fun m σ => (∃ (k : Nat) (o : List Ins), m = g.2.length - k ∧ (k ≤ g.2.length) ∧ (insG 0 (g.2.take k) = o) ∧ (o.length ≤ 480 * k) ∧ σ = [(.t 1, .v (.o (.c (.ptr (rG g))))), (.t 3, .v (.o (.c (.own 110 3 (o.length))))), (.t 4, .v (.o (nat1 (k : Nat)))), (.b 110, .b 81 3 (dR (o.map rN))), (.u 110, .u)])) [(110, 108)] ⟨0, [], rfl, by omega, rfl, by simp, rfl⟩ ⟨ks rfl .dt, ks rfl (.c .ow), ks rfl .dt, kb 108 rfl (.dt rfl (by first | rfl | (simp [dR, rN, dI]; done) | (simp [dR, rN, dI]; rfl))), trivial⟩ ?_
  rintro m σ ⟨k, o, hm0, hk, hE, ho, rfl⟩
  refine .seq <| .seq <| .region <| .cons (.mv rfl rfl) <| .cons (.fP 1 0 false rfl rfl) <| .cons (.l1 1 rfl rfl) <| .cons (.ln 65 2 48 rfl rfl rfl) <| .cons (.ls rfl rfl rfl) <| .nil <| ks_n ?_
  refine .cD rfl (fun h13 => ?_) (fun h13 => ?_)
  · skip
    obtain ⟨q, hq1⟩ : ∃ x_, g.2[k]? = some x_ := ⟨_, List.getElem?_eq_getElem (by omega)⟩
    have hqm := List.mem_of_getElem? hq1
    have hqv := prtV_iff.1 (hP q hqm)
    have hnp := np_pts hqv.1
    have hnl := npR_len q.1
    have hq4 := hqv.2.1
    refine .skip <| ks_n <| .seq <| .block <| .seq <| .region <| .cons (St1.lit0 (k' := 116) (e := 23) (sz := 1) (b := true) rfl rfl rfl rfl (by kernel_rfl) rfl rfl) ?_
    refine .cons (.fP 1 0 false rfl rfl) <| .cons (.l1 1 rfl rfl) <| .cons (.mv rfl rfl) <| .cons (.xL 65 2 48 rfl rfl rfl rfl rfl) ?_
    refine .cons (.fP 0 0 false rfl rfl) <| .cons (.l1 1 rfl rfl) <| .cons (.cO [.tmp 16, .tmp 22, .const (.slice none 0 0)] [(0, 116), (1000, 123)] rfl rfl rfl rfl (Fn.nilArg (pre := [.c (.own 0 1 0), vD (dLs q.1)]) (post := []) (sz := 1) (l2Points_fn hnp.1 q.1 [] [] rfl (by simp) PB.nil (by simp))) rfl (hbIn_one rfl) (hbPt_flat _ _) (hbPt_flat _ _) (hbPt_HB _ _) outS_one) ?_
    refine .cons (.asg rfl rfl) <| .nil <| ks_n <| .seq <| .region <| .cons (.asg rfl rfl) <| .nil <| ks_n <| .block ?_
    refine .loopK (fun m σ => (∃ (i : Nat) (o2 : List Ins), m = (npR q.1).length - i ∧ (i ≤ (npR q.1).length) ∧ (o ++ insT k q.2.length ((npR q.1).take i) = o2) ∧ (o2.length ≤ 480 * k + 4 * i) ∧ σ = [(.t 1, .v (.o (.c (.ptr (rG g))))), (.t 3, .v (.o (.c (.own 120 3 (o2.length))))), (.t 4, .v (.o (nat1 (k : Nat)))), (.t 5, .v (.o (vD (dPs (npR q.1))))), (.t 6, .v (.o (nat1 (i : Nat)))), (.b 120, .b 81 3 (dR (o2.map rN))), (.u 120, .u)])) [(120, 110)] ⟨0, o, rfl, by omega, by simp [insT], by omega, rfl⟩ ⟨ks rfl .dt, ks rfl (.c .ow), ks rfl .dt, ks rfl (.c (.fz rfl (by first | (rw [hnp.2]; done) | (rw [hnp.2]; rfl)) (by rw [hnp.2, List.length_map]) (by rw [← hnp.2]; omega))), ks rfl .dt, kb 110 rfl (.dt rfl (by first | rfl | (simp [dR, rN, dI]; done) | (simp [dR, rN, dI]; rfl))), trivial⟩ ?_
    rintro m σ ⟨i, o2, hm0, hi, hEo, ho2, rfl⟩
    refine .seq <| .seq <| .region <| .cons (.mv rfl rfl) <| .cons (.mv rfl rfl) <| .cons (.ln 23 1 24 rfl rfl rfl) <| .cons (.ls rfl rfl rfl) <| .nil <| ks_n ?_
    refine .cD rfl (fun h27 => ?_) (fun h27 => ?_)
    · skip
      obtain ⟨p, hp1⟩ : ∃ x_, (npR q.1)[i]? = some x_ := ⟨_, List.getElem?_eq_getElem (by omega)⟩
      have hpt := npR_pt (List.mem_of_getElem? hp1)
      refine .skip <| ks_n <| .seq <| .block <| .seq <| .region <| .cons (.asg rfl rfl) <| .nil <| ks_n <| .block ?_
      refine .loopK (fun m σ => (∃ (j : Nat) (o3 : List Ins), m = q.2.length - j ∧ (j ≤ q.2.length) ∧ (o2 ++ rowI k j p = o3) ∧ (o3.length ≤ 480 * k + 4 * i + j) ∧ σ = [(.t 1, .v (.o (.c (.ptr (rG g))))), (.t 3, .v (.o (.c (.own 130 3 (o3.length))))), (.t 4, .v (.o (nat1 (k : Nat)))), (.t 5, .v (.o (vD (dPs (npR q.1))))), (.t 6, .v (.o (nat1 (i : Nat)))), (.t 7, .v (.o (nat1 (j : Nat)))), (.b 130, .b 81 3 (dR (o3.map rN))), (.u 130, .u)])) [(130, 120)] ⟨0, o2, rfl, by omega, by simp [rowI_zero], by omega, rfl⟩ ⟨ks rfl .dt, ks rfl (.c .ow), ks rfl .dt, ks rfl .dt, ks rfl .dt, ks rfl .dt, kb 120 rfl (.dt rfl (by first | rfl | (simp [dR, rN, dI]; done) | (simp [dR, rN, dI]; rfl))), trivial⟩ ?_
      rintro m σ ⟨j, o3, hm0, hj, hEp, ho3, rfl⟩
      refine .seq <| .seq <| .region <| .cons (.mv rfl rfl) <| .cons (.fP 1 0 false rfl rfl) <| .cons (.l1 1 rfl rfl) <| .cons (.mv rfl rfl) <| .cons (.xL 65 2 48 rfl rfl rfl rfl rfl) ?_
      refine .cons (.fP 1 0 false rfl rfl) <| .cons (.l1 1 rfl rfl) <| .cons (.ln 79 9 152 rfl rfl rfl) <| .cons (.ls rfl rfl rfl) <| .nil <| ks_n ?_
      refine .cD rfl (fun h38 => ?_) (fun h38 => ?_)
      · skip
        refine .skip <| ks_n <| .seq <| .block <| .region <| .cons (.mv rfl rfl) <| .cons (.mv rfl rfl) <| .cons (.mv rfl rfl) <| .cons (St1.lit0 (k' := 144) (e := 3) (sz := 1) (b := true) rfl rfl rfl rfl (by kernel_rfl) rfl rfl) ?_
        refine .cons (.mv rfl rfl) <| .cons (.mv rfl rfl) <| .cons (.xL 23 1 24 rfl rfl rfl rfl rfl) ?_
        refine .cons (.l1 1 rfl rfl) <| .cons (St1.appD (rows := []) (e := 3) (sz := 0) (by' := 8) rfl rfl rfl rfl rfl (by kernel_rfl) rfl rfl rfl rfl (by simp) (by simp; omega) rfl) ?_
        refine .cons (.bu [(0, .tmp 42), (1, .tmp 43), (2, .tmp 49)] [(0, 1), (1, 1), (2, 1)] [.int .i64 0, .int .i64 0, .slice none 0 0] rfl rfl rfl rfl rfl) <| .cons (.li 81 2 0 [.tmp 50] rfl rfl rfl rfl rfl rfl) <| .cons (St1.appB (k' := 152) (e := 81) (sz := 2) (by' := 40) rfl rfl rfl rfl rfl (by kernel_rfl) rfl rfl rfl rfl (by first | (simp [dR]; done) | (simp [dR]; omega)) (by first | (simp [dR]; done) | (simp [dR]; omega)) rfl rfl rfl) ?_
        refine .cons (.asg rfl rfl) <| .nil <| kb_n <| ks_n <| .region <| .cons (.mv rfl rfl) <| .cons (.pl rfl rfl rfl) <| .cons (.asg rfl rfl) <| .nil ?_
        refine kl_k [(130, 152)] ⟨j + 1, o3 ++ [((k : Int), ((j : Nat) : Int), p)], rfl, by omega, by rw [rowI_snoc, ← List.append_assoc, hEp], by rw [List.length_append, List.length_singleton]; omega, rfl⟩ ⟨ks rfl .dt, ks rfl (.c .ow), ks rfl .dt, ks rfl .dt, ks rfl .dt, ks rfl .dt, kb 152 rfl (.dt rfl (by first | rfl | (simp [dR, rN, dI]; done) | (simp [dR, rN, dI]; rfl))), trivial⟩
      · skip
        obtain rfl : j = q.2.length := by omega
        refine .exit <| ks_e <| kl_e <| kb_hit <| kb_n <| ks_n <| .region <| .cons (.mv rfl rfl) <| .cons (.pl rfl rfl rfl) <| .cons (.asg rfl rfl) <| .nil ?_
        refine kl_k [(120, 130)] ⟨i + 1, o3, rfl, by omega, by rw [insT_take hp1, ← List.append_assoc, hEo]; exact hEp, by omega, rfl⟩ ⟨ks rfl .dt, ks rfl (.c .ow), ks rfl .dt, ks rfl .dt, ks rfl .dt, kb 130 rfl (.dt rfl (by first | rfl | (simp [dR, rN, dI]; done) | (simp [dR, rN, dI]; rfl))), trivial⟩
    · skip
      obtain rfl : i = (npR q.1).length := by omega
      rw [List.take_length] at hEo
      refine .exit <| ks_e <| kl_e <| kb_hit <| kb_n <| ks_n <| .region <| .cons (.mv rfl rfl) <| .cons (.pl rfl rfl rfl) <| .cons (.asg rfl rfl) <| .nil ?_
      refine kl_k [(110, 120)] ⟨k + 1, o2, rfl, by omega, by rw [insG_take hq1, hE]; exact hEo, by omega, rfl⟩ ⟨ks rfl .dt, ks rfl (.c .ow), ks rfl .dt, kb 120 rfl (.dt rfl (by first | rfl | (simp [dR, rN, dI]; done) | (simp [dR, rN, dI]; rfl))), trivial⟩
  · skip
    obtain rfl : k = g.2.length := by omega
    rw [List.take_length] at hE
    refine .exit <| ks_e <| kl_e <| kb_hit <| ks_n <| .seq <| .region <| .cons (.mv rfl rfl) <| .cons (.asg rfl rfl) <| .nil <| ks_n <| .ret ?_
    refine kf_wret [(.t 2, .v (.o (vD (dNs (insG 0 g.2)))))] (Wk.keep [] rfl rfl ⟨ks rfl (.c (.fz rfl (by rw [hE]) (by rw [hE, List.length_map]) (by omega))), trivial⟩) rfl ?_ nobox
    rfl
/-- The statement of an instance. -/
def stI (g : Prg) (x : Ins) : Stm := match (g.2[x.1.toNat]?).bind fun q => q.2[x.2.1.toNat]? with | some s => s | none => ((ByteArray.empty, []), .mk 0 0 ([], 0) (ByteArray.empty, []) [])
theorem stI_eq {g : Prg} {x : Ins} {k c : Nat} {q : Prt} {s : Stm} (h1 : x.1 = (k : Int)) (hq : g.2[k]? = some q) (h2 : x.2.1 = (c : Int)) (hs : q.2[c]? = some s) : stI g x = s := by
  rw [stI, h1, h2, Int.toNat_natCast, Int.toNat_natCast, hq, Option.bind_some, hs]
structure InsOk (g : Prg) (x : Ins) (k c : Nat) (q : Prt) : Prop where
  e1 : x.1 = (k : Int)
  hq : g.2[k]? = some q
  e2 : x.2.1 = (c : Int)
  hs : q.2[c]? = some (stI g x)
  pt : x.2.2 ∈ npR q.1
  sv : stmtV (q.1.length : Nat) (stI g x) = true
  ok : stmG g.1 (stI g x) x.2.2 = true
  ip : isPt x.2.2 = true
  hk : k < g.2.length
  hc : c < q.2.length
theorem ins_at {g : Prg} {x : Ins} (hg : prgS g = true) (hx : x ∈ insG 0 g.2) : ∃ k c q, InsOk g x k c q := by
  obtain ⟨k, q, c, h1, h2, h3, h4, h5⟩ := insG_mem hx
  rw [Nat.zero_add] at h2
  obtain ⟨s, hs⟩ : ∃ s, q.2[c]? = some s := ⟨_, List.getElem?_eq_getElem h4⟩
  have e := stI_eq h2 h1 h3 hs
  have hp := prtV_iff.1 ((prgS_iff.1 hg).2.2 q (List.mem_of_getElem? h1))
  have hm := List.mem_of_getElem? hs
  exact ⟨k, c, q, h2, h1, h3, by rw [e]; exact hs, h5, by rw [e]; exact hp.2.2.1 s hm, by rw [e]; exact (hp.2.2.2 _ h5).2 s hm, (hp.2.2.2 _ h5).1, (List.getElem?_eq_some_iff.1 h1).1, h4⟩
theorem stI_sz {g : Prg} {x : Ins} {k c : Nat} {q : Prt} (h : InsOk g x k c q) : szS (stI g x) ≤ szG g := by
  have h1 := szO_mem (f := szS) (List.mem_of_getElem? h.hs)
  have h2 := szO_mem (f := szPt) (List.mem_of_getElem? h.hq)
  have e1 : szPt q = szLs q.1 + szO szS q.2 := rfl
  have e2 : szG g = szO szR g.1 + szO szPt g.2 := rfl
  omega
/-- The cells that an instance reads, the one that it writes. -/
def usR (g : Prg) (x : Ins) : List Int := (rdE (stI g x).2).map fun a => cellG a x.2.2 g.1 0
def usW (g : Prg) (x : Ins) : Int := cellG (stI g x).1 x.2.2 g.1 0
def rU (u : List Int × Int) : List D := [dIs u.1, dI u.2]
def dUs (l : List (List Int × Int)) : D := .list 2 (l.map rU)
def usG (g : Prg) (x : Ins) : List Int × Int := (usR g x, usW g x)
def usL (g : Prg) : List (List Int × Int) := (insG 0 g.2).map (usG g)
def totN (l : List Arr) : Nat := (l.map fun a => (sizeA a.2).toNat).sum
theorem totN_bd {l : List Arr} (h : arrsV l = true) : totN l ≤ 144 := by
  have key : ∀ l : List Arr, (∀ a ∈ l, arrOk a = true) → totN l ≤ 36 * l.length := by
    intro l
    induction l with
    | nil => intro _; simp [totN]
    | cons a l ih =>
      intro h
      have h1 := sizeA_bd (h a (by simp))
      have h2 := ih fun b hb => h b (by simp [hb])
      rw [totN, List.map_cons, List.sum_cons, List.length_cons]
      rw [totN] at h2
      omega
  have h1 := key l fun a ha => arrsV_at h ha
  have h2 := arrsV_len h
  omega
theorem sizeF_mono {l : List Int} : ∀ {a b : Int}, 0 ≤ a → a ≤ b → (∀ d ∈ l, 1 ≤ d) → sizeF a l ≤ sizeF b l := by
  induction l with
  | nil => intro a b _ h _; exact h
  | cons d l ih =>
    intro a b h0 h hd
    have h1 := hd d (by simp)
    exact ih (Int.mul_nonneg h0 (by omega)) (Int.mul_le_mul_of_nonneg_right h (by omega)) fun e he => hd e (by simp [he])
theorem atG_bd {p : List Int} : ∀ {ds : List Int} {ss : List Aff} {n : Int}, 0 ≤ n → (∀ d ∈ ds, 1 ≤ d) → ss.length = ds.length → atG p ds ss n ≠ -1 → 0 ≤ atG p ds ss n ∧ atG p ds ss n + 1 ≤ sizeF (n + 1) ds
  | [], ss, n, h0, _, hl, _ => by
    rw [List.eq_nil_of_length_eq_zero hl, atG]
    · exact ⟨h0, Int.le_refl _⟩
    · intros; contradiction
  | d :: ds, [], n, _, _, hl, _ => by cases hl
  | d :: ds, s :: ss, n, h0, hd, hl, hne => by
    rw [atG] at hne ⊢
    split at hne
    · rename_i hin
      rw [if_pos hin]
      have hv := of_decide_eq_true hin
      have h1 := hd d (by simp)
      have hm := Int.mul_nonneg h0 (show 0 ≤ d by omega)
      have e : (n + 1) * d = n * d + d := by rw [Int.add_mul, Int.one_mul]
      obtain ⟨h2, h3⟩ := atG_bd (p := p) (ds := ds) (ss := ss) (n := n * d + affEval s p) (by omega) (fun e he => hd e (by simp [he])) (by simpa using hl) hne
      refine ⟨h2, Int.le_trans h3 ?_⟩
      rw [show sizeF (n + 1) (d :: ds) = sizeF ((n + 1) * d) ds from rfl]
      exact sizeF_mono (by omega) (by omega) fun e he => hd e (by simp [he])
    · exact absurd rfl hne
theorem cellG_lt {a : Acc} {p : List Int} : ∀ {l : List Arr} {b : Int}, (∀ x ∈ l, arrOk x = true) → 0 ≤ b → cellG a p l b = -1 ∨ (b ≤ cellG a p l b ∧ cellG a p l b < b + totN l)
  | [], b, _, _ => .inl rfl
  | x :: l, b, h, h0 => by
    have hx := h x (by simp)
    have hs := sizeA_bd hx
    obtain ⟨hl, hd⟩ := arrOk_at hx
    have e : totN (x :: l) = (sizeA x.2).toNat + totN l := by simp [totN]
    rw [cellG]
    split
    · split
      · rename_i hle
        split
        · exact .inl rfl
        · rename_i hne
          obtain ⟨h1, h2⟩ := atG_bd (p := p) (n := 0) (Int.le_refl _) (fun d hd' => (hd d hd').1) hle hne
          have : sizeF (0 + 1) x.2 = sizeA x.2 := rfl
          right; omega
      · exact .inl rfl
    · rcases cellG_lt (a := a) (p := p) (l := l) (b := b + sizeA x.2) (fun y hy => h y (by simp [hy])) (by omega) with h1 | h1
      · exact .inl h1
      · right; omega
theorem cell_in {ar : List Arr} (hv : arrsV ar = true) {a : Acc} {p : List Int} (h : accG ar p a = true) : 0 ≤ cellG a p ar 0 ∧ (cellG a p ar 0).toNat < totN ar := by
  have h1 : 0 ≤ cellG a p ar 0 := of_decide_eq_true h
  rcases cellG_lt (a := a) (p := p) (l := ar) (b := 0) (fun x hx => arrsV_at hv hx) (Int.le_refl _) with h2 | h2
  · omega
  · exact ⟨h1, by omega⟩
theorem use_in {g : Prg} {x : Ins} {k c : Nat} {q : Prt} (hv : arrsV g.1 = true) (h : InsOk g x k c q) : (∀ n ∈ usR g x, 0 ≤ n ∧ n.toNat < totN g.1) ∧ 0 ≤ usW g x ∧ (usW g x).toNat < totN g.1 := by
  have h1 := h.ok
  rw [stmG, Bool.and_eq_true] at h1
  refine ⟨fun n hn => ?_, cell_in hv h1.1⟩
  obtain ⟨a, ha, rfl⟩ := List.mem_map.1 hn
  exact cell_in hv (List.all_eq_true.1 h1.2 a ha)
theorem usR_len {g : Prg} {x : Ins} {k c : Nat} {q : Prt} (h : InsOk g x k c q) : (usR g x).length ≤ 12 := by
  rw [usR, List.length_map]; exact (stm_accs h.sv).2.2

theorem exV_n {d L : Nat} {e : Ex} (h : exV d L e = true) : 0 ≤ e.n ∧ e.n ≤ 99 := by
  cases L with
  | zero => cases h
  | succ L =>
    rw [exV, Bool.and_eq_true, Bool.and_eq_true] at h
    have h1 := h.1.2
    unfold fldV at h1
    split at h1
    · simp only [Bool.and_eq_true, inB, decide_eq_true_eq] at h1; exact h1.1.1
    · split at h1
      · simp only [Bool.and_eq_true, decide_eq_true_eq] at h1; omega
      · split at h1
        · simp only [Bool.and_eq_true, decide_eq_true_eq] at h1; omega
        · simp only [Bool.and_eq_true, decide_eq_true_eq] at h1; omega
def drE (bs : List Int) : Nat → Nat → List Int → Nat → List Int × Nat
  | 0, _, cs, p => (cs, p)
  | n + 1, i, cs, p => drE bs n (i + 1) (cs.set i (numV bs p [0, 1, 0, -1, 2, 0, 9])) (p + 1)
def drD (bs : List Int) (p d : Nat) : Aff × Nat := (((drE bs d 0 [0, 0, 0, 0] (p + 1)).1, numV bs p [0, 1, -1, 2, 0, 5, -9, 99]), (drE bs d 0 [0, 0, 0, 0] (p + 1)).2)
theorem drE_len (bs : List Int) : ∀ (n i : Nat) (cs : List Int) (p : Nat), (drE bs n i cs p).1.length = cs.length ∧ (drE bs n i cs p).2 = p + n
  | 0, i, cs, p => ⟨rfl, rfl⟩
  | n + 1, i, cs, p => by
    obtain ⟨h1, h2⟩ := drE_len bs n (i + 1) (cs.set i (numV bs p [0, 1, 0, -1, 2, 0, 9])) (p + 1)
    exact ⟨by rw [drE, h1, List.length_set], by rw [drE, h2]; omega⟩
theorem l1Draw_fn {bs : List Int} (hb : Bytes bs) {p : Nat} (hp : p ≤ 100000000) (d : Nat) (hd : d ≤ 4) : Fn Try.prog 99 (hbR bs p) [vR, nat1 (d : Nat)] (.o (ad (rA (drD bs p d).1))) (hbR bs (drD bs p d).2) := by
 refine Fn.of_code Try.func99 rfl rfl (hbR_HB _ _) rfl rfl (hbR_HB _ _) rfl (hbR_num _ _ _) ?_
 refine .seq <| .region <| .cons (.al 104 [.slice none 0 0, .int .i64 0] rfl rfl rfl) <| .nil <| ks_n <| .seq <| .region <| .cons (.mv rfl rfl) <| .cons (.li 3 0 7 [.const (.int .i64 (0)), .const (.int .i64 (1)), .const (.int .i64 (-1)), .const (.int .i64 (2)), .const (.int .i64 (0)), .const (.int .i64 (5)), .const (.int .i64 (-9)), .const (.int .i64 (99))] rfl rfl rfl rfl rfl rfl) <| .cons (.cR [.tmp 7, .tmp 8] 0 rfl rfl rfl rfl (num_fn hb (by omega) [0, 1, -1, 2, 0, 5, -9, 99] (by simp)) rfl ⟨rfl, trivial⟩) ?_
 refine .cons (.cO [.tmp 9] [(101, 610)] rfl rfl rfl rfl (l1Const_own _) rfl trivial flatS.nil (flatS.nil.cons rfl) HB.nil.data outS_one) ?_
 refine .cons (.al 105 [.slice none 0 0, .int .i64 0] rfl rfl rfl) <| .cons (.sT 2 true rfl rfl rfl rfl rfl rfl rfl) <| .nil <| ks_n <| .seq <| .seq <| .region <| .cons (.asg rfl rfl) <| .nil <| ks_n <| .block ?_
 refine .loopK (fun m σ => (∃ (i : Nat) (cs : List Int) (q : Nat), m = d - i ∧ (i ≤ d) ∧ (cs.length = 4) ∧ (q + (d - i) ≤ p + 1 + d) ∧ (drE bs (d - i) i cs q = drE bs d 0 [0, 0, 0, 0] (p + 1)) ∧ σ = [(.t 0, .v (.o (.c (.box 0 2 0 0)))), (.t 1, .v (.o (nat1 (d : Nat)))), (.t 4, .v (.o (.c (.box 110 2 0 0)))), (.t 5, .v (.o (.c (.box 111 2 0 0)))), (.t 6, .v (.o (nat1 (i : Nat)))), (.b 0, .b 48 2 (dR ([rRd bs q]))), (.u 0, .u), (.b 110, .b 74 2 [[.d (.val (.slice none 0 0)), .d (dI 0)]]), (.u 110, .u), (.b 112, .b 3 1 (dR (cs.map rI))), (.u 112, .u), (.b 111, .b 74 2 [[.own 112 1 (4), .d (dI (numV bs p [0, 1, -1, 2, 0, 5, -9, 99]))]]), (.u 111, .u)])) [(0, 0), (110, 104), (111, 105), (112, 610)] ⟨0, [0, 0, 0, 0], p + 1, rfl, (by omega), rfl, (by omega), rfl, rfl⟩ ⟨ks rfl (.c .bx), ks rfl .dt, ks rfl (.c .bx), ks rfl (.c .bx), ks rfl .dt, kb 0 rfl (.dt rfl), kb 104 rfl (.cons (.cons .dt (.cons .dt Ctos.nil)) .nil), kb 610 rfl (.dt rfl (by first | rfl | exact dR_setI _ _ _ _)), kb 105 rfl (.cons (.cons .ow (.cons .dt Ctos.nil)) .nil), trivial⟩ ?_
 rintro m σ ⟨i, cs, q, hm0, hi, hc, hq, hE, rfl⟩
 refine .seq <| .seq <| .region <| .cons (.mv rfl rfl) <| .cons (.mv rfl rfl) <| .cons (.ls rfl rfl rfl) <| .nil <| ks_n ?_
 refine .cD rfl (fun h13 => ?_) (fun h13 => ?_)
 ·skip
  refine .skip <| ks_n <| .seq <| .block ?_
  refine ACode.drawK (by kernel_rfl) (by kernel_rfl) ?_
  refine .cons (.fB 0 0 false rfl rfl rfl) <| .cons (.b1 1 rfl rfl rfl rfl rfl rfl) <| .cons (.mv rfl rfl) <| .cons (.mv rfl rfl) <| .cons (.li 3 0 6 [.const (.int .i64 (0)), .const (.int .i64 (1)), .const (.int .i64 (0)), .const (.int .i64 (-1)), .const (.int .i64 (2)), .const (.int .i64 (0)), .const (.int .i64 (9))] rfl rfl rfl rfl rfl rfl) <| .cons (.cR [.tmp 19, .tmp 20] 0 rfl rfl rfl rfl (num_fn hb (by omega) [0, 1, 0, -1, 2, 0, 9] (by simp)) rfl ⟨rfl, trivial⟩) ?_
  refine .cons (.xB 3 1 8 rfl rfl rfl rfl rfl rfl (by omega)) ?_
  refine .cons (.sT 1 false rfl rfl rfl rfl (dR_at (map_at (getD_at (by omega)))) rfl rfl) ?_
  refine .nil ⟨by kernel_rfl, ?_⟩
  refine kb_n <| ks_n <| .region <| .cons (.mv rfl rfl) <| .cons (.pl rfl rfl rfl) <| .cons (.asg rfl rfl) <| .nil ?_
  refine kl_k [(0, 0), (110, 110), (111, 111), (112, 112)] ⟨i + 1, cs.set i (numV bs q [0, 1, 0, -1, 2, 0, 9]), q + 1, rfl, by omega, by rw [List.length_set, hc], by omega, by rw [← hE, show d - i = (d - (i + 1)) + 1 by omega]; rfl, rfl⟩ ⟨ks rfl (.c .bx), ks rfl .dt, ks rfl (.c .bx), ks rfl (.c .bx), ks rfl .dt, kb 0 rfl (.dt rfl), kb 110 rfl (.cons (.cons .dt (.cons .dt Ctos.nil)) .nil), kb 112 rfl (.dt rfl (by first | rfl | exact dR_setI _ _ _ _)), kb 111 rfl (.cons (.cons .ow (.cons .dt Ctos.nil)) .nil), trivial⟩
 ·skip
  obtain rfl : i = d := by omega
  rw [Nat.sub_self] at hE
  obtain ⟨r, hr⟩ : ∃ r, r = drD bs p i := ⟨_, rfl⟩
  rw [← hr]
  have hr2 : r = ((cs, numV bs p [0, 1, -1, 2, 0, 5, -9, 99]), q) := by rw [hr, drD, ← hE]; rfl
  subst hr2
  refine .exit <| ks_e <| kl_e <| kb_hit <| ks_n <| .seq <| .region <| .cons (.bN 2 rfl rfl rfl rfl rfl rfl) <| .cons (.sT 2 true rfl rfl rfl rfl rfl rfl rfl) <| .nil <| ks_n <| .ret ?_
  refine kf_wret [(.t 4, .v (.o (.c (.box 100 2 0 0)))), (.b 0, .b 48 2 (dR ([rRd bs q]))), (.u 0, .u), (.b 100, .b 74 2 [[.d (dIs cs), .d (dI (numV bs p [0, 1, -1, 2, 0, 5, -9, 99]))]]), (.u 100, .u)] (Wk.keep [(0, 0), (100, 110)] rfl rfl ⟨ks rfl (.c .bx), kb 0 rfl (.dt rfl), kb 110 rfl (.cons (.cons (.fz rfl rfl (by rw [List.length_map, hc]) (by omega)) (.cons .dt Ctos.nil)) .nil), trivial⟩) rfl ?_ (hbR_box rfl)
  rfl
def dSs (l : List ByteArray) : D := .list 1 (l.map fun s => [dS s])
def ofV (bs : List Int) (p : Nat) (xs : List ByteArray) : ByteArray := xs.getD (pickV bs p xs.length).toNat ByteArray.empty
theorem ofV_at {bs : List Int} (h : Bytes bs) {p : Nat} (hp : p ≤ 1099511627776) {xs : List ByteArray} (hx : 0 < xs.length) : pickV bs p xs.length = ((pickV bs p xs.length).toNat : Int) ∧ xs[(pickV bs p xs.length).toNat]? = some (ofV bs p xs) := by
  have h1 := pickV_bd h hp (xs.length : Nat)
  have h2 := h1.2 (by omega)
  have h3 : (pickV bs p xs.length).toNat < xs.length := by omega
  exact ⟨by omega, by rw [ofV, List.getD, List.getElem?_eq_getElem h3]; rfl⟩
theorem ofV_mem {bs : List Int} (h : Bytes bs) {p : Nat} (hp : p ≤ 1099511627776) {xs : List ByteArray} (hx : 0 < xs.length) : ofV bs p xs ∈ xs := List.mem_of_getElem? (ofV_at h hp hx).2

theorem of_fn {bs : List Int} (hb : Bytes bs) {p : Nat} (hp : p ≤ 1099511627776) (xs : List ByteArray) (hx : 0 < xs.length) : Fn Try.prog 35 (hbR bs p) [vR, vD (dSs xs)] (.o (st1 (ofV bs p xs))) (hbR bs (p + 1)) := by
  refine Fn.of_code Try.func35 rfl rfl (hbR_HB _ _) rfl rfl (hbR_HB _ _) rfl (hbR_num _ _ _) ?_
  refine .seq <| .region <| .cons (.asg rfl rfl) <| .nil <| ks_n <| .seq <| .region <| .cons (.mv rfl rfl) <| .cons (.mv rfl rfl) <| .cons (.mv rfl rfl) <| .cons (.ln 9 1 16 rfl rfl rfl) <| .cons (.cR [.tmp 6, .tmp 8] 0 rfl rfl rfl rfl (pick_fn hb hp (xs.length : Nat)) rfl ⟨rfl, trivial⟩) ?_
  refine .cons (.xL 9 1 16 (i := (pickV bs p (xs.length : Nat)).toNat) rfl rfl rfl rfl (ofV_at hb hp hx).1 (map_at (ofV_at hb hp hx).2)) ?_
  refine .cons (.l1 1 rfl rfl) <| .cons (.asg rfl rfl) <| .nil <| ks_n <| .ret ?_
  refine kf_ret rfl ?_ (hbR_box rfl)
  rfl

/-- A drawn subscript. -/
def elemX (bs : List Int) (d : Nat) (p : Nat) : Aff × Nat :=
  if 0 < d then (if 0 < pickV bs (p + 1) 5 then (cmbA (varA (pickV bs (p + 1 + 1) (d : Nat)).toNat) (numV bs (p + 1 + 1 + 1) [1, 1, 1, 2, -1]) (cA (numV bs (p + 1 + 1 + 1 + 1) [0, 1, 0, 0, 2])) 1, p + 1 + 1 + 1 + 1 + 1) else (cA (numV bs p [0, 1, 0, 2]), p + 1 + 1))
  else (cA (numV bs p [0, 1, 0, 2]), p + 1)
def elemN (bs : List Int) (p : Nat) : Nat := if sEq (ofV bs p [⟨#[65]⟩, ⟨#[66]⟩, ⟨#[65]⟩, ⟨#[67]⟩]) ⟨#[66]⟩ = true then 2 else 1
def elemL (bs : List Int) (d : Nat) : Nat → List Aff → Nat → List Aff × Nat
  | 0, l, p => (l, p)
  | n + 1, l, p => elemL bs d n (l ++ [(elemX bs d p).1]) (elemX bs d p).2
def elemD (bs : List Int) (d p : Nat) : Acc × Nat := ((ofV bs p [⟨#[65]⟩, ⟨#[66]⟩, ⟨#[65]⟩, ⟨#[67]⟩], (elemL bs d (elemN bs p) [] (p + 1)).1), (elemL bs d (elemN bs p) [] (p + 1)).2)
theorem elemX_p (bs : List Int) (d p : Nat) : p ≤ (elemX bs d p).2 ∧ (elemX bs d p).2 ≤ p + 5 ∧ (elemX bs d p).1.1.length = 4 := by
  unfold elemX
  split
  · split
    · exact ⟨by dsimp only; omega, by dsimp only; omega, by simp [cmbA, cmbTo]⟩
    · exact ⟨by dsimp only; omega, by dsimp only; omega, rfl⟩
  · exact ⟨by dsimp only; omega, by dsimp only; omega, rfl⟩
theorem elemL_p (bs : List Int) (d : Nat) : ∀ (n : Nat) (l : List Aff) (p : Nat), (∀ x ∈ l, x.1.length = 4) → p ≤ (elemL bs d n l p).2 ∧ (elemL bs d n l p).2 ≤ p + 5 * n ∧ (elemL bs d n l p).1.length = l.length + n ∧ ∀ x ∈ (elemL bs d n l p).1, x.1.length = 4
  | 0, l, p, h => ⟨Nat.le_refl _, Nat.le_refl _, rfl, h⟩
  | n + 1, l, p, h => by
    obtain ⟨h1, h2, h3⟩ := elemX_p bs d p
    obtain ⟨q1, q2, q3, q4⟩ := elemL_p bs d n (l ++ [(elemX bs d p).1]) (elemX bs d p).2 (fun x hx => by
      rcases List.mem_append.1 hx with hx | hx
      · exact h x hx
      · rw [List.mem_singleton.1 hx]; exact h3)
    rw [elemL]
    exact ⟨by omega, by omega, by rw [q3]; simp; omega, q4⟩
theorem elemD_p (bs : List Int) (d p : Nat) : p ≤ (elemD bs d p).2 ∧ (elemD bs d p).2 ≤ p + 11 ∧ 0 < (elemD bs d p).1.2.length ∧ (elemD bs d p).1.2.length ≤ 2 ∧ ∀ x ∈ (elemD bs d p).1.2, x.1.length = 4 := by
  have h : elemN bs p = 1 ∨ elemN bs p = 2 := by unfold elemN; split <;> simp
  obtain ⟨q1, q2, q3, q4⟩ := elemL_p bs d (elemN bs p) [] (p + 1) (by simp)
  rw [List.length_nil] at q3
  exact ⟨by show p ≤ (elemL _ _ _ _ _).2; omega, by show (elemL _ _ _ _ _).2 ≤ _; omega, by show 0 < (elemL _ _ _ _ _).1.length; omega, by show (elemL _ _ _ _ _).1.length ≤ 2; omega, q4⟩

theorem l3Elem_fn {bs : List Int} (hb : Bytes bs) {p : Nat} (hp : p ≤ 90000000) (d : Nat) (hd : d ≤ 4) : Fn Try.prog 82 (hbR bs p) [vR, nat1 (d : Nat)] (.o (ad (rC (elemD bs d p).1))) (hbR bs (elemD bs d p).2) := by
 have hN : 1 ≤ elemN bs p ∧ elemN bs p ≤ 2 := by unfold elemN; split <;> simp
 refine Fn.of_code Try.func82 rfl rfl (hbR_HB _ _) rfl rfl (hbR_HB _ _) rfl (hbR_num _ _ _) ?_
 refine .seq <| .region <| .cons (.al 104 [.string ByteArray.empty, .slice none 0 0] rfl rfl rfl) <| .nil <| ks_n <| .seq <| .region <| .cons (.mv rfl rfl) <| .cons (.li 9 0 3 [.const (.string ⟨#[65]⟩), .const (.string ⟨#[66]⟩), .const (.string ⟨#[65]⟩), .const (.string ⟨#[67]⟩)] rfl rfl rfl rfl rfl rfl) <| .cons (.cR [.tmp 10, .tmp 11] 0 rfl rfl rfl rfl (of_fn hb (by omega) [⟨#[65]⟩, ⟨#[66]⟩, ⟨#[65]⟩, ⟨#[67]⟩] (by simp)) rfl ⟨rfl, trivial⟩) ?_
 refine .cons (.bu [(0, .tmp 12)] [(0, 1), (1, 1)] [.string ByteArray.empty, .slice none 0 0] rfl rfl rfl rfl rfl) <| .cons (.al 105 [.string ByteArray.empty, .slice none 0 0] rfl rfl rfl) <| .cons (.sT 2 true rfl rfl rfl rfl rfl rfl rfl) <| .nil <| ks_n <| .seq <| .region <| .cons (.asg rfl rfl) <| .nil <| ks_n <| .seq ?_
 refine ACode.cut [(.t 0, .v (.o (.c (.box 0 2 0 0)))), (.t 1, .v (.o (nat1 (d : Nat)))), (.t 4, .v (.o (.c (.box 830 2 0 0)))), (.t 5, .v (.o (.c (.box 831 2 0 0)))), (.t 6, .v (.o (nat1 (elemN bs p : Nat)))), (.b 0, .b 48 2 (dR ([rRd bs (p + 1)]))), (.u 0, .u), (.b 830, .b 72 2 [[.d (dS ByteArray.empty), .d (.val (.slice none 0 0))]]), (.u 830, .u), (.b 831, .b 72 2 [[.d (dS (ofV bs p [⟨#[65]⟩, ⟨#[66]⟩, ⟨#[65]⟩, ⟨#[67]⟩])), .d (.val (.slice none 0 0))]]), (.u 831, .u)] ?_ ?_
 ·skip
  refine .seq <| .region <| .cons (.fB 0 0 false rfl rfl rfl) <| .cons (.b1 1 rfl rfl rfl rfl rfl rfl) <| .cons (St1.eqS rfl rfl rfl) <| .nil <| ks_n ?_
  refine ACode.condT rfl (fun h16 => ?_) (fun h16 => ?_)
  ·try simp only [zs1, zs2, zs3, zs4, zs5, zs6, zs7] at h16
   refine .region <| .cons (.asg rfl rfl) <| .nil ?_
   exact kc_n (Wk.keep [(0, 0), (830, 104), (831, 105)] rfl rfl ⟨ks rfl (.c .bx), ks rfl .dt, ks rfl (.c .bx), ks rfl (.c .bx), ks rfl (.dt (vI (by rw [elemN]; first | (rw [if_pos h16]; rfl) | (rw [h16]; rfl)))), kb 0 rfl (.dt rfl), kb 104 rfl (.cons (.cons .dt (.cons .dt Ctos.nil)) .nil), kb 105 rfl (.cons (.cons .dt (.cons .dt Ctos.nil)) .nil), trivial⟩)
  ·try simp only [zs1, zs2, zs3, zs4, zs5, zs6, zs7] at h16
   refine .skip ?_
   exact kc_n (Wk.keep [(0, 0), (830, 104), (831, 105)] rfl rfl ⟨ks rfl (.c .bx), ks rfl .dt, ks rfl (.c .bx), ks rfl (.c .bx), ks rfl (.dt (vI (by rw [elemN]; first | (rw [if_pos h16]; rfl) | (rw [h16]; rfl)))), kb 0 rfl (.dt rfl), kb 104 rfl (.cons (.cons .dt (.cons .dt Ctos.nil)) .nil), kb 105 rfl (.cons (.cons .dt (.cons .dt Ctos.nil)) .nil), trivial⟩)
 refine ks_n <| .seq <| .seq <| .region <| .cons (.asg rfl rfl) <| .nil <| ks_n <| .block ?_
 refine .loopK (fun m σ => (∃ (n q : Nat), m = n + 0 ∧ (n = elemN bs p) ∧ (1 ≤ n) ∧ (q = p + 1) ∧ (elemL bs d n [] q = elemL bs d (elemN bs p) [] (p + 1)) ∧ σ = [(.t 0, .v (.o (.c (.box 0 2 0 0)))), (.t 1, .v (.o (nat1 (d : Nat)))), (.t 4, .v (.o (.c (.box 110 2 0 0)))), (.t 5, .v (.o (.c (.box 111 2 0 0)))), (.t 6, .v (.o (nat1 (elemN bs p : Nat)))), (.t 7, .v (.o (nat1 ((elemN bs p : Nat) - (n : Nat))))), (.b 0, .b 48 2 (dR ([rRd bs q]))), (.u 0, .u), (.b 110, .b 72 2 [[.d (dS ByteArray.empty), .d (.val (.slice none 0 0))]]), (.u 110, .u), (.b 111, .b 72 2 [[.d (dS (ofV bs p [⟨#[65]⟩, ⟨#[66]⟩, ⟨#[65]⟩, ⟨#[67]⟩])), .d (.val (.slice none 0 0))]]), (.u 111, .u)]) ∨ (∃ (n q : Nat) (xs : List Aff), m = n + 0 ∧ (0 < xs.length) ∧ (xs.length + n = elemN bs p) ∧ (q ≤ p + 1 + 5 * (elemN bs p - n)) ∧ (elemL bs d n xs q = elemL bs d (elemN bs p) [] (p + 1)) ∧ (∀ x ∈ xs, x.1.length = 4) ∧ σ = [(.t 0, .v (.o (.c (.box 0 2 0 0)))), (.t 1, .v (.o (nat1 (d : Nat)))), (.t 4, .v (.o (.c (.box 110 2 0 0)))), (.t 5, .v (.o (.c (.box 111 2 0 0)))), (.t 6, .v (.o (nat1 (elemN bs p : Nat)))), (.t 7, .v (.o (nat1 ((elemN bs p : Nat) - (n : Nat))))), (.b 0, .b 48 2 (dR ([rRd bs q]))), (.u 0, .u), (.b 110, .b 72 2 [[.d (dS ByteArray.empty), .d (.val (.slice none 0 0))]]), (.u 110, .u), (.b 112, .b 74 2 (dR (xs.map rA))), (.u 112, .u), (.b 111, .b 72 2 [[.d (dS (ofV bs p [⟨#[65]⟩, ⟨#[66]⟩, ⟨#[65]⟩, ⟨#[67]⟩])), .own 112 2 (xs.length)]]), (.u 111, .u)])) [(0, 0), (110, 830), (111, 831)] (.inl ⟨elemN bs p, p + 1, rfl, rfl, hN.1, rfl, rfl, rfl⟩) ⟨ks rfl (.c .bx), ks rfl .dt, ks rfl (.c .bx), ks rfl (.c .bx), ks rfl .dt, ks rfl .dt, kb 0 rfl (.dt rfl), kb 830 rfl (.cons (.cons .dt (.cons .dt Ctos.nil)) .nil), kb 831 rfl (.cons (.cons .dt (.cons .dt Ctos.nil)) .nil), trivial⟩ ?_
 rintro m σ (⟨n, q, hm0, hnn, hn1, hq, hE, rfl⟩ | ⟨n, q, xs, hm0, hxl, hn1, hq, hE, hx4, rfl⟩)
 ·skip
  refine .seq <| .seq <| .region <| .cons (.mv rfl rfl) <| .cons (.mv rfl rfl) <| .cons (.ls rfl rfl rfl) <| .nil <| ks_n ?_
  refine .cD rfl (fun h19 => ?_) (fun h19 => ?_)
  ·skip
   have hXp := elemX_p bs d q
   refine .skip <| ks_n <| .seq <| .block <| .seq <| .region <| .cons (.mv rfl rfl) <| .cons (.li 3 0 3 [.const (.int .i64 (0)), .const (.int .i64 (1)), .const (.int .i64 (0)), .const (.int .i64 (2))] rfl rfl rfl rfl rfl rfl) <| .cons (.cR [.tmp 22, .tmp 23] 0 rfl rfl rfl rfl (num_fn hb (by omega) [0, 1, 0, 2] (by simp)) rfl ⟨rfl, trivial⟩) ?_
   refine .cons (.cP [.tmp 24] rfl rfl rfl rfl (l1Const_fn _) rfl) ?_
   refine .cons (.al 108 [.slice none 0 0, .int .i64 0] rfl rfl rfl) <| .cons (.sT 2 true rfl rfl rfl rfl rfl rfl rfl) <| .nil <| ks_n <| .seq ?_
   refine ACode.cut [(.t 0, .v (.o (.c (.box 0 2 0 0)))), (.t 1, .v (.o (nat1 (d : Nat)))), (.t 4, .v (.o (.c (.box 890 2 0 0)))), (.t 5, .v (.o (.c (.box 891 2 0 0)))), (.t 6, .v (.o (nat1 (elemN bs p : Nat)))), (.t 7, .v (.o (nat1 ((elemN bs p : Nat) - (n : Nat))))), (.t 8, .v (.o (.c (.box 892 2 0 0)))), (.b 0, .b 48 2 (dR ([rRd bs (elemX bs d q).2]))), (.u 0, .u), (.b 890, .b 72 2 [[.d (dS ByteArray.empty), .d (.val (.slice none 0 0))]]), (.u 890, .u), (.b 891, .b 72 2 [[.d (dS (ofV bs p [⟨#[65]⟩, ⟨#[66]⟩, ⟨#[65]⟩, ⟨#[67]⟩])), .d (.val (.slice none 0 0))]]), (.u 891, .u), (.b 892, .b 74 2 [[.d (dIs (elemX bs d q).1.1), .d (dI (elemX bs d q).1.2)]]), (.u 892, .u)] ?_ ?_
   ·skip
    refine .seq <| .region <| .cons (.mv rfl rfl) <| .cons (.gt rfl rfl rfl) <| .cons (.mv rfl rfl) ?_
    refine .cD 28 rfl (fun g28 => ?_) (fun g28 => ?_)
    ·skip
     refine .cons (.gT rfl rfl rfl (.mv rfl rfl)) <| .cons (.gT rfl rfl rfl (.cR [.tmp 29, .const (.int .i64 (5))] 0 rfl rfl rfl rfl (pick_fn hb (by omega) 5) rfl ⟨rfl, trivial⟩)) ?_
     refine .cons (.gT rfl rfl rfl (.gt rfl rfl rfl)) <| .cons (.pT rfl rfl rfl) <| .nil <| ks_n ?_
     refine ACode.condT rfl (fun h32 => ?_) (fun h32 => ?_)
     ·try simp only [zs1, zs2, zs3, zs4, zs5, zs6, zs7] at h32
      have hv := pickV_bd hb (p := q + 1 + 1) (by omega) (d : Nat)
      have hv2 := hv.2 (by omega)
      have hv : 0 ≤ pickV bs (q + 1 + 1) (d : Nat) ∧ pickV bs (q + 1 + 1) (d : Nat) < 4 := by omega
      have hm1 := numV_mem hb (p := q + 1 + 1 + 1) (by omega) (xs := [1, 1, 1, 2, -1]) (by simp)
      have hm2 := numV_mem hb (p := q + 1 + 1 + 1 + 1) (by omega) (xs := [0, 1, 0, 0, 2]) (by simp)
      simp only [List.mem_cons, List.not_mem_nil, or_false] at hm1 hm2
      have hk1 : -1000 ≤ numV bs (q + 1 + 1 + 1) [1, 1, 1, 2, -1] ∧ numV bs (q + 1 + 1 + 1) [1, 1, 1, 2, -1] ≤ 1000 := by omega
      have hk2 : -1000 ≤ numV bs (q + 1 + 1 + 1 + 1) [0, 1, 0, 0, 2] ∧ numV bs (q + 1 + 1 + 1 + 1) [0, 1, 0, 0, 2] ≤ 1000 := by omega
      refine .seq <| .region <| .cons (.mv rfl rfl) <| .cons (.mv rfl rfl) <| .cons (.cR [.tmp 33, .tmp 34] 0 rfl rfl rfl rfl (pick_fn hb (by omega) _) rfl ⟨rfl, trivial⟩) ?_
      refine .cons (.asg rfl rfl) <| .nil <| ks_n <| .region <| .cons (.mv rfl rfl) <| .cons (.cP [.tmp 36] rfl rfl rfl rfl (l1Var_fn _ hv) rfl) ?_
      refine .cons (.mv rfl rfl) <| .cons (.li 3 0 4 [.const (.int .i64 (1)), .const (.int .i64 (1)), .const (.int .i64 (1)), .const (.int .i64 (2)), .const (.int .i64 (-1))] rfl rfl rfl rfl rfl rfl) <| .cons (.cR [.tmp 38, .tmp 39] 0 rfl rfl rfl rfl (num_fn hb (by omega) [1, 1, 1, 2, -1] (by simp)) rfl ⟨rfl, trivial⟩) ?_
      refine .cons (.mv rfl rfl) <| .cons (.li 3 0 4 [.const (.int .i64 (0)), .const (.int .i64 (1)), .const (.int .i64 (0)), .const (.int .i64 (0)), .const (.int .i64 (2))] rfl rfl rfl rfl rfl rfl) <| .cons (.cR [.tmp 41, .tmp 42] 0 rfl rfl rfl rfl (num_fn hb (by omega) [0, 1, 0, 0, 2] (by simp)) rfl ⟨rfl, trivial⟩) ?_
      refine .cons (.cP [.tmp 43] rfl rfl rfl rfl (l1Const_fn _) rfl) ?_
      refine .cons (.cP [.tmp 37, .tmp 40, .tmp 44, .const (.int .i64 (1))] rfl rfl rfl rfl (l1Combine_fn _ _ _ 1 hk1 (by omega) (varA_sm _).1 rfl (varA_sm _).2.1 (by simp [cA]; omega) (varA_sm _).2.2 (cA_sm (by omega)).2.2) rfl) ?_
      refine .cons (.sT 2 true rfl rfl rfl rfl rfl rfl rfl) <| .nil ?_
      have hX : elemX bs d q = elemX bs d q := rfl
      conv at hX => rhs; unfold elemX
      first | rw [if_pos (show 0 < d by omega), if_pos (by assumption)] at hX | rw [if_pos (show 0 < d by omega), if_neg (by assumption)] at hX | rw [if_neg (show ¬ 0 < d by omega)] at hX
      exact kc_n (Wk.keep [(0, 0), (890, 110), (891, 111), (892, 108)] rfl rfl ⟨ks rfl (.c .bx), ks rfl .dt, ks rfl (.c .bx), ks rfl (.c .bx), ks rfl .dt, ks rfl .dt, ks rfl (.c .bx), kb 0 rfl (.dt rfl (by rw [hX]; try rfl)), kb 110 rfl (.cons (.cons .dt (.cons .dt Ctos.nil)) .nil), kb 111 rfl (.cons (.cons .dt (.cons .dt Ctos.nil)) .nil), kb 108 rfl (.cons (.cons (.dt (by rw [hX]; try rfl)) (.cons (.dt (by rw [hX]; try rfl)) Ctos.nil)) .nil), trivial⟩)
     ·try simp only [zs1, zs2, zs3, zs4, zs5, zs6, zs7] at h32
      refine .skip ?_
      have hX : elemX bs d q = elemX bs d q := rfl
      conv at hX => rhs; unfold elemX
      first | rw [if_pos (show 0 < d by omega), if_pos (by assumption)] at hX | rw [if_pos (show 0 < d by omega), if_neg (by assumption)] at hX | rw [if_neg (show ¬ 0 < d by omega)] at hX
      exact kc_n (Wk.keep [(0, 0), (890, 110), (891, 111), (892, 108)] rfl rfl ⟨ks rfl (.c .bx), ks rfl .dt, ks rfl (.c .bx), ks rfl (.c .bx), ks rfl .dt, ks rfl .dt, ks rfl (.c .bx), kb 0 rfl (.dt rfl (by rw [hX]; try rfl)), kb 110 rfl (.cons (.cons .dt (.cons .dt Ctos.nil)) .nil), kb 111 rfl (.cons (.cons .dt (.cons .dt Ctos.nil)) .nil), kb 108 rfl (.cons (.cons (.dt (by rw [hX]; try rfl)) (.cons (.dt (by rw [hX]; try rfl)) Ctos.nil)) .nil), trivial⟩)
    ·skip
     refine .cons (.gF rfl rfl rfl) <| .cons (.gF rfl rfl rfl) <| .cons (.gF rfl rfl rfl) <| .cons (.pF rfl rfl rfl) <| .nil <| ks_n ?_
     refine ACode.condT rfl (fun h => by first | (cases h; done) | (simp [*] at h; done) | (exfalso; simp_all; done)) (fun _ => ?_)
     refine .skip ?_
     have hX : elemX bs d q = elemX bs d q := rfl
     conv at hX => rhs; unfold elemX
     first | rw [if_pos (show 0 < d by omega), if_pos (by assumption)] at hX | rw [if_pos (show 0 < d by omega), if_neg (by assumption)] at hX | rw [if_neg (show ¬ 0 < d by omega)] at hX
     exact kc_n (Wk.keep [(0, 0), (890, 110), (891, 111), (892, 108)] rfl rfl ⟨ks rfl (.c .bx), ks rfl .dt, ks rfl (.c .bx), ks rfl (.c .bx), ks rfl .dt, ks rfl .dt, ks rfl (.c .bx), kb 0 rfl (.dt rfl (by rw [hX]; try rfl)), kb 110 rfl (.cons (.cons .dt (.cons .dt Ctos.nil)) .nil), kb 111 rfl (.cons (.cons .dt (.cons .dt Ctos.nil)) .nil), kb 108 rfl (.cons (.cons (.dt (by rw [hX]; try rfl)) (.cons (.dt (by rw [hX]; try rfl)) Ctos.nil)) .nil), trivial⟩)
   refine ks_n <| .region <| .cons (.fB 1 0 false rfl rfl rfl) <| .cons (.b1 1 rfl rfl rfl rfl rfl rfl) <| .cons (.bN 2 rfl rfl rfl rfl rfl rfl) <| .cons (.li 74 1 0 [.tmp 48] rfl rfl rfl rfl rfl rfl) <| .cons (St1.appN (k' := 150) (e := 74) (sz := 1) (by' := 32) rfl rfl rfl rfl rfl (by kernel_rfl) rfl rfl rfl (by simp) (by simp [dR] <;> omega) rfl rfl) ?_
   refine .cons (.fB 1 0 false rfl rfl rfl) <| .cons (.sT 1 false rfl rfl rfl rfl rfl rfl rfl) <| .nil <| kb_n <| ks_n <| .region <| .cons (.mv rfl rfl) <| .cons (.pl rfl rfl rfl) <| .cons (.asg rfl rfl) <| .nil ?_
   refine kl_k [(0, 0), (110, 890), (111, 891), (112, 150)] (.inr ⟨n - 1, (elemX bs d q).2, [(elemX bs d q).1], rfl, by simp, by simp; omega, by omega, by rw [← hE, show elemL bs d n [] q = elemL bs d (n - 1 + 1) [] q by rw [Nat.sub_add_cancel (by omega)], elemL] <;> first | rfl | simp, by intro x hx; rw [List.mem_singleton.1 hx]; exact hXp.2.2, rfl⟩) ⟨ks rfl (.c .bx), ks rfl .dt, ks rfl (.c .bx), ks rfl (.c .bx), ks rfl .dt, ks rfl .dt, kb 0 rfl (.dt rfl), kb 890 rfl (.cons (.cons .dt (.cons .dt Ctos.nil)) .nil), kb 150 rfl (.dt rfl (by first | (rw [dR_app]; simp; done) | (simp [dR]; done) | (rw [dR_app]; simp; rfl) | (simp [dR]; rfl))), kb 891 rfl (.cons (.cons .dt (.cons .ow Ctos.nil)) .nil), trivial⟩
  ·skip
   omega
 ·skip
  refine .seq <| .seq <| .region <| .cons (.mv rfl rfl) <| .cons (.mv rfl rfl) <| .cons (.ls rfl rfl rfl) <| .nil <| ks_n ?_
  refine .cD rfl (fun h19 => ?_) (fun h19 => ?_)
  ·skip
   have hXp := elemX_p bs d q
   refine .skip <| ks_n <| .seq <| .block <| .seq <| .region <| .cons (.mv rfl rfl) <| .cons (.li 3 0 3 [.const (.int .i64 (0)), .const (.int .i64 (1)), .const (.int .i64 (0)), .const (.int .i64 (2))] rfl rfl rfl rfl rfl rfl) <| .cons (.cR [.tmp 22, .tmp 23] 0 rfl rfl rfl rfl (num_fn hb (by omega) [0, 1, 0, 2] (by simp)) rfl ⟨rfl, trivial⟩) ?_
   refine .cons (.cP [.tmp 24] rfl rfl rfl rfl (l1Const_fn _) rfl) ?_
   refine .cons (.al 108 [.slice none 0 0, .int .i64 0] rfl rfl rfl) <| .cons (.sT 2 true rfl rfl rfl rfl rfl rfl rfl) <| .nil <| ks_n <| .seq ?_
   refine ACode.cut [(.t 0, .v (.o (.c (.box 0 2 0 0)))), (.t 1, .v (.o (nat1 (d : Nat)))), (.t 4, .v (.o (.c (.box 890 2 0 0)))), (.t 5, .v (.o (.c (.box 891 2 0 0)))), (.t 6, .v (.o (nat1 (elemN bs p : Nat)))), (.t 7, .v (.o (nat1 ((elemN bs p : Nat) - (n : Nat))))), (.t 8, .v (.o (.c (.box 893 2 0 0)))), (.b 0, .b 48 2 (dR ([rRd bs (elemX bs d q).2]))), (.u 0, .u), (.b 890, .b 72 2 [[.d (dS ByteArray.empty), .d (.val (.slice none 0 0))]]), (.u 890, .u), (.b 892, .b 74 2 (dR (xs.map rA))), (.u 892, .u), (.b 891, .b 72 2 [[.d (dS (ofV bs p [⟨#[65]⟩, ⟨#[66]⟩, ⟨#[65]⟩, ⟨#[67]⟩])), .own 892 2 (xs.length)]]), (.u 891, .u), (.b 893, .b 74 2 [[.d (dIs (elemX bs d q).1.1), .d (dI (elemX bs d q).1.2)]]), (.u 893, .u)] ?_ ?_
   ·skip
    refine .seq <| .region <| .cons (.mv rfl rfl) <| .cons (.gt rfl rfl rfl) <| .cons (.mv rfl rfl) ?_
    refine .cD 28 rfl (fun g28 => ?_) (fun g28 => ?_)
    ·skip
     refine .cons (.gT rfl rfl rfl (.mv rfl rfl)) <| .cons (.gT rfl rfl rfl (.cR [.tmp 29, .const (.int .i64 (5))] 0 rfl rfl rfl rfl (pick_fn hb (by omega) 5) rfl ⟨rfl, trivial⟩)) ?_
     refine .cons (.gT rfl rfl rfl (.gt rfl rfl rfl)) <| .cons (.pT rfl rfl rfl) <| .nil <| ks_n ?_
     refine ACode.condT rfl (fun h32 => ?_) (fun h32 => ?_)
     ·try simp only [zs1, zs2, zs3, zs4, zs5, zs6, zs7] at h32
      have hv := pickV_bd hb (p := q + 1 + 1) (by omega) (d : Nat)
      have hv2 := hv.2 (by omega)
      have hv : 0 ≤ pickV bs (q + 1 + 1) (d : Nat) ∧ pickV bs (q + 1 + 1) (d : Nat) < 4 := by omega
      have hm1 := numV_mem hb (p := q + 1 + 1 + 1) (by omega) (xs := [1, 1, 1, 2, -1]) (by simp)
      have hm2 := numV_mem hb (p := q + 1 + 1 + 1 + 1) (by omega) (xs := [0, 1, 0, 0, 2]) (by simp)
      simp only [List.mem_cons, List.not_mem_nil, or_false] at hm1 hm2
      have hk1 : -1000 ≤ numV bs (q + 1 + 1 + 1) [1, 1, 1, 2, -1] ∧ numV bs (q + 1 + 1 + 1) [1, 1, 1, 2, -1] ≤ 1000 := by omega
      have hk2 : -1000 ≤ numV bs (q + 1 + 1 + 1 + 1) [0, 1, 0, 0, 2] ∧ numV bs (q + 1 + 1 + 1 + 1) [0, 1, 0, 0, 2] ≤ 1000 := by omega
      refine .seq <| .region <| .cons (.mv rfl rfl) <| .cons (.mv rfl rfl) <| .cons (.cR [.tmp 33, .tmp 34] 0 rfl rfl rfl rfl (pick_fn hb (by omega) _) rfl ⟨rfl, trivial⟩) ?_
      refine .cons (.asg rfl rfl) <| .nil <| ks_n <| .region <| .cons (.mv rfl rfl) <| .cons (.cP [.tmp 36] rfl rfl rfl rfl (l1Var_fn _ hv) rfl) ?_
      refine .cons (.mv rfl rfl) <| .cons (.li 3 0 4 [.const (.int .i64 (1)), .const (.int .i64 (1)), .const (.int .i64 (1)), .const (.int .i64 (2)), .const (.int .i64 (-1))] rfl rfl rfl rfl rfl rfl) <| .cons (.cR [.tmp 38, .tmp 39] 0 rfl rfl rfl rfl (num_fn hb (by omega) [1, 1, 1, 2, -1] (by simp)) rfl ⟨rfl, trivial⟩) ?_
      refine .cons (.mv rfl rfl) <| .cons (.li 3 0 4 [.const (.int .i64 (0)), .const (.int .i64 (1)), .const (.int .i64 (0)), .const (.int .i64 (0)), .const (.int .i64 (2))] rfl rfl rfl rfl rfl rfl) <| .cons (.cR [.tmp 41, .tmp 42] 0 rfl rfl rfl rfl (num_fn hb (by omega) [0, 1, 0, 0, 2] (by simp)) rfl ⟨rfl, trivial⟩) ?_
      refine .cons (.cP [.tmp 43] rfl rfl rfl rfl (l1Const_fn _) rfl) ?_
      refine .cons (.cP [.tmp 37, .tmp 40, .tmp 44, .const (.int .i64 (1))] rfl rfl rfl rfl (l1Combine_fn _ _ _ 1 hk1 (by omega) (varA_sm _).1 rfl (varA_sm _).2.1 (by simp [cA]; omega) (varA_sm _).2.2 (cA_sm (by omega)).2.2) rfl) ?_
      refine .cons (.sT 2 true rfl rfl rfl rfl rfl rfl rfl) <| .nil ?_
      have hX : elemX bs d q = elemX bs d q := rfl
      conv at hX => rhs; unfold elemX
      first | rw [if_pos (show 0 < d by omega), if_pos (by assumption)] at hX | rw [if_pos (show 0 < d by omega), if_neg (by assumption)] at hX | rw [if_neg (show ¬ 0 < d by omega)] at hX
      exact kc_n (Wk.keep [(0, 0), (890, 110), (891, 111), (892, 112), (893, 108)] rfl rfl ⟨ks rfl (.c .bx), ks rfl .dt, ks rfl (.c .bx), ks rfl (.c .bx), ks rfl .dt, ks rfl .dt, ks rfl (.c .bx), kb 0 rfl (.dt rfl (by rw [hX]; try rfl)), kb 110 rfl (.cons (.cons .dt (.cons .dt Ctos.nil)) .nil), kb 112 rfl (.dt rfl (by first | (rw [dR_app]; simp; done) | (simp [dR]; done) | (rw [dR_app]; simp; rfl) | (simp [dR]; rfl))), kb 111 rfl (.cons (.cons .dt (.cons .ow Ctos.nil)) .nil), kb 108 rfl (.cons (.cons (.dt (by rw [hX]; try rfl)) (.cons (.dt (by rw [hX]; try rfl)) Ctos.nil)) .nil), trivial⟩)
     ·try simp only [zs1, zs2, zs3, zs4, zs5, zs6, zs7] at h32
      refine .skip ?_
      have hX : elemX bs d q = elemX bs d q := rfl
      conv at hX => rhs; unfold elemX
      first | rw [if_pos (show 0 < d by omega), if_pos (by assumption)] at hX | rw [if_pos (show 0 < d by omega), if_neg (by assumption)] at hX | rw [if_neg (show ¬ 0 < d by omega)] at hX
      exact kc_n (Wk.keep [(0, 0), (890, 110), (891, 111), (892, 112), (893, 108)] rfl rfl ⟨ks rfl (.c .bx), ks rfl .dt, ks rfl (.c .bx), ks rfl (.c .bx), ks rfl .dt, ks rfl .dt, ks rfl (.c .bx), kb 0 rfl (.dt rfl (by rw [hX]; try rfl)), kb 110 rfl (.cons (.cons .dt (.cons .dt Ctos.nil)) .nil), kb 112 rfl (.dt rfl (by first | (rw [dR_app]; simp; done) | (simp [dR]; done) | (rw [dR_app]; simp; rfl) | (simp [dR]; rfl))), kb 111 rfl (.cons (.cons .dt (.cons .ow Ctos.nil)) .nil), kb 108 rfl (.cons (.cons (.dt (by rw [hX]; try rfl)) (.cons (.dt (by rw [hX]; try rfl)) Ctos.nil)) .nil), trivial⟩)
    ·skip
     refine .cons (.gF rfl rfl rfl) <| .cons (.gF rfl rfl rfl) <| .cons (.gF rfl rfl rfl) <| .cons (.pF rfl rfl rfl) <| .nil <| ks_n ?_
     refine ACode.condT rfl (fun h => by first | (cases h; done) | (simp [*] at h; done) | (exfalso; simp_all; done)) (fun _ => ?_)
     refine .skip ?_
     have hX : elemX bs d q = elemX bs d q := rfl
     conv at hX => rhs; unfold elemX
     first | rw [if_pos (show 0 < d by omega), if_pos (by assumption)] at hX | rw [if_pos (show 0 < d by omega), if_neg (by assumption)] at hX | rw [if_neg (show ¬ 0 < d by omega)] at hX
     exact kc_n (Wk.keep [(0, 0), (890, 110), (891, 111), (892, 112), (893, 108)] rfl rfl ⟨ks rfl (.c .bx), ks rfl .dt, ks rfl (.c .bx), ks rfl (.c .bx), ks rfl .dt, ks rfl .dt, ks rfl (.c .bx), kb 0 rfl (.dt rfl (by rw [hX]; try rfl)), kb 110 rfl (.cons (.cons .dt (.cons .dt Ctos.nil)) .nil), kb 112 rfl (.dt rfl (by first | (rw [dR_app]; simp; done) | (simp [dR]; done) | (rw [dR_app]; simp; rfl) | (simp [dR]; rfl))), kb 111 rfl (.cons (.cons .dt (.cons .ow Ctos.nil)) .nil), kb 108 rfl (.cons (.cons (.dt (by rw [hX]; try rfl)) (.cons (.dt (by rw [hX]; try rfl)) Ctos.nil)) .nil), trivial⟩)
   refine ks_n <| .region <| .cons (.fB 1 0 false rfl rfl rfl) <| .cons (.b1 1 rfl rfl rfl rfl rfl rfl) <| .cons (.bN 2 rfl rfl rfl rfl rfl rfl) <| .cons (.li 74 1 0 [.tmp 48] rfl rfl rfl rfl rfl rfl) <| .cons (St1.appB (k' := 150) (e := 74) (sz := 1) (by' := 32) rfl rfl rfl rfl rfl (by kernel_rfl) rfl rfl rfl rfl (by simp [dR]) (by simp [dR] <;> omega) rfl rfl rfl) ?_
   refine .cons (.fB 1 0 false rfl rfl rfl) <| .cons (.sT 1 false rfl rfl rfl rfl rfl rfl rfl) <| .nil <| kb_n <| ks_n <| .region <| .cons (.mv rfl rfl) <| .cons (.pl rfl rfl rfl) <| .cons (.asg rfl rfl) <| .nil ?_
   refine kl_k [(0, 0), (110, 890), (111, 891), (112, 150)] (.inr ⟨n - 1, (elemX bs d q).2, xs ++ [(elemX bs d q).1], rfl, by simp, by simp; omega, by omega, by rw [← hE, show elemL bs d n xs q = elemL bs d (n - 1 + 1) xs q by rw [Nat.sub_add_cancel (by omega)], elemL] <;> first | rfl | simp, by intro x hx; rcases List.mem_append.1 hx with hx | hx; exact hx4 x hx; rw [List.mem_singleton.1 hx]; exact hXp.2.2, rfl⟩) ⟨ks rfl (.c .bx), ks rfl .dt, ks rfl (.c .bx), ks rfl (.c .bx), ks rfl .dt, ks rfl .dt, kb 0 rfl (.dt rfl), kb 890 rfl (.cons (.cons .dt (.cons .dt Ctos.nil)) .nil), kb 150 rfl (.dt rfl (by first | (rw [dR_app]; simp; done) | (simp [dR]; done) | (rw [dR_app]; simp; rfl) | (simp [dR]; rfl))), kb 891 rfl (.cons (.cons .dt (.cons .ow Ctos.nil)) .nil), trivial⟩
  ·skip
   obtain rfl : n = 0 := by omega
   rw [elemL] at hE
   have hr : elemD bs d p = ((ofV bs p [⟨#[65]⟩, ⟨#[66]⟩, ⟨#[65]⟩, ⟨#[67]⟩], xs), q) := by rw [elemD, ← hE]
   rw [hr]
   refine .exit <| ks_e <| kl_e <| kb_hit <| ks_n <| .seq <| .region <| .cons (.bN 2 rfl rfl rfl rfl rfl rfl) <| .cons (.sT 2 true rfl rfl rfl rfl rfl rfl rfl) <| .nil <| ks_n <| .ret ?_
   refine kf_wret [(.t 4, .v (.o (.c (.box 100 2 0 0)))), (.b 0, .b 48 2 (dR ([rRd bs q]))), (.u 0, .u), (.b 100, .b 72 2 [[.d (dS (ofV bs p [⟨#[65]⟩, ⟨#[66]⟩, ⟨#[65]⟩, ⟨#[67]⟩])), .d (dAs xs)]]), (.u 100, .u)] (Wk.keep [(0, 0), (100, 110)] rfl rfl ⟨ks rfl (.c .bx), kb 0 rfl (.dt rfl), kb 110 rfl (.cons (.cons .dt (.cons (.fz rfl rfl (by simp) (by omega)) Ctos.nil)) .nil), trivial⟩) rfl ?_ (hbR_box rfl)
   rfl

def zA0 : Aff := ([], 0)
def zC0 : Acc := (ByteArray.empty, [])
def leafD (bs : List Int) (d p : Nat) : Ex × Nat :=
  if pickV bs p 4 = 0 then (.mk 1 (numV bs (p + 1) [1, 2, 0, 99, 3]) zA0 zC0 [], p + 1 + 1)
  else if pickV bs p 4 = 1 then (.mk 2 0 (drD bs (p + 1) d).1 zC0 [], (drD bs (p + 1) d).2)
  else (.mk 3 0 zA0 (elemD bs d (p + 1)).1 [], (elemD bs d (p + 1)).2)
def kidG (f : Nat → Ex × Nat) : Nat → List Ex → Nat → List Ex × Nat
  | 0, l, p => (l, p)
  | n + 1, l, p => kidG f n (l ++ [(f p).1]) (f p).2
def nodeG (bs : List Int) (leaf : Nat → Ex × Nat) (m : Int) (ops : List Int) (f : Nat → Ex × Nat) (p : Nat) : Ex × Nat :=
  if pickV bs p m = 0 then leaf (p + 1) else (.mk (numV bs (p + 1) ops) 0 zA0 zC0 (kidG f 2 [] (p + 1 + 1)).1, (kidG f 2 [] (p + 1 + 1)).2)
def valG (bs : List Int) (leaf : Nat → Ex × Nat) (m : Int) (ops : List Int) : Nat → Nat → Ex × Nat
  | 0, p => leaf p
  | 1, p => leaf p
  | L + 2, p => nodeG bs leaf m ops (fun q => valG bs leaf m ops (L + 1) q) p
/-- Steps and sizes of draws are bounded. -/
def Bnd (f : Nat → Ex × Nat) (N : Nat) : Prop := ∀ p, p ≤ (f p).2 ∧ (f p).2 ≤ p + N ∧ szE (f p).1 ≤ N
theorem szC_elem {a : Acc} (h1 : a.1.size ≤ 2) (h : a.2.length ≤ 2) (h4 : ∀ x ∈ a.2, x.1.length = 4) : szC a ≤ 12 := by
  rw [szC, szAs]
  match hh : a.2, h with
  | [], _ => simp; try omega
  | [x], _ => have := h4 x (by rw [hh]; simp); simp [this]; try omega
  | [x, y], _ => have := h4 x (by rw [hh]; simp); have := h4 y (by rw [hh]; simp); simp [*]; try omega
theorem ofV_size (bs : List Int) (p : Nat) (xs : List ByteArray) (h : ∀ s ∈ xs, s.size ≤ 2) : (ofV bs p xs).size ≤ 2 := by
  rw [ofV, List.getD]
  cases hq : xs[(pickV bs p xs.length).toNat]? with
  | none => exact Nat.zero_le _
  | some s => exact h s (List.mem_of_getElem? hq)
theorem elemD_sz (bs : List Int) (d p : Nat) : szC (elemD bs d p).1 ≤ 12 := by
  obtain ⟨_, _, _, h2, h3⟩ := elemD_p bs d p
  exact szC_elem (ofV_size _ _ _ (by decide)) h2 h3
theorem szE_mk (k n : Int) (i : Aff) (r : Acc) (l : List Ex) : szE (.mk k n i r l) = i.1.length + szC r + l.length + szEs l := by rw [szE]
theorem drD_len (bs : List Int) (p d : Nat) : (drD bs p d).1.1.length = 4 ∧ (drD bs p d).2 = p + 1 + d := by
  obtain ⟨h1, h2⟩ := drE_len bs d 0 [0, 0, 0, 0] (p + 1)
  exact ⟨h1, h2⟩
theorem leafD_bd (bs : List Int) {d : Nat} (hd : d ≤ 4) : Bnd (leafD bs d) 14 := fun p => by
  unfold leafD
  obtain ⟨a1, a2⟩ := drD_len bs (p + 1) d
  obtain ⟨b1, b2, _⟩ := elemD_p bs d (p + 1)
  have b3 := elemD_sz bs d (p + 1)
  split
  · exact ⟨by dsimp only; omega, by dsimp only; omega, by dsimp only; rw [szE_mk]; decide⟩
  · split
    · exact ⟨by dsimp only; omega, by dsimp only; omega, by dsimp only; rw [szE_mk, a1]; decide⟩
    · exact ⟨by dsimp only; omega, by dsimp only; omega, by dsimp only; rw [szE_mk]; show 0 + szC _ + 0 + szEs [] ≤ 14; rw [szEs]; omega⟩
theorem kidG_bd {f : Nat → Ex × Nat} {N : Nat} (hf : Bnd f N) : ∀ (n : Nat) (l : List Ex) (p : Nat), p ≤ (kidG f n l p).2 ∧ (kidG f n l p).2 ≤ p + N * n ∧ (kidG f n l p).1.length = l.length + n ∧ szEs (kidG f n l p).1 ≤ szEs l + N * n
  | 0, l, p => ⟨Nat.le_refl _, Nat.le_refl _, rfl, Nat.le_refl _⟩
  | n + 1, l, p => by
    obtain ⟨h1, h2, h3⟩ := hf p
    obtain ⟨q1, q2, q3, q4⟩ := kidG_bd hf n (l ++ [(f p).1]) (f p).2
    have key : ∀ (a : List Ex) (x : Ex), szEs (a ++ [x]) = szEs a + szE x := by
      intro a x
      induction a with
      | nil => simp [szEs]
      | cons y a ih => rw [List.cons_append, szEs, szEs, ih]; omega
    rw [key] at q4
    rw [kidG, Nat.mul_add, Nat.mul_one]
    exact ⟨by omega, by omega, by rw [q3]; simp; omega, by omega⟩
theorem nodeG_bd {bs : List Int} {leaf : Nat → Ex × Nat} {m : Int} {ops : List Int} {f : Nat → Ex × Nat} {N : Nat} (hN : 14 ≤ N) (hl : Bnd leaf 14) (hf : Bnd f N) : Bnd (nodeG bs leaf m ops f) (2 * N + 2) := fun p => by
  unfold nodeG
  obtain ⟨h1, h2, h3⟩ := hl (p + 1)
  obtain ⟨q1, q2, q3, q4⟩ := kidG_bd hf 2 [] (p + 1 + 1)
  have e0 : szEs [] = 0 := by rw [szEs]
  rw [e0] at q4
  rw [List.length_nil] at q3
  split
  · exact ⟨by omega, by omega, by omega⟩
  · refine ⟨by dsimp only; omega, by dsimp only; omega, ?_⟩
    dsimp only
    rw [szE_mk, q3]
    show 0 + 0 + (0 + 2) + szEs _ ≤ _
    omega
theorem valG_bd {bs : List Int} {leaf : Nat → Ex × Nat} {m : Int} {ops : List Int} (hl : Bnd leaf 14) : ∀ L : Nat, Bnd (valG bs leaf m ops L) (16 * 2 ^ L - 2)
  | 0 => fun p => hl p
  | 1 => fun p => by obtain ⟨h1, h2, h3⟩ := hl p; exact ⟨h1, by show (leaf p).2 ≤ _; omega, by show szE (leaf p).1 ≤ _; omega⟩
  | L + 2 => fun p => by
    have hp : 1 ≤ 2 ^ L := Nat.one_le_two_pow
    have ih := valG_bd (bs := bs) (m := m) (ops := ops) hl (L + 1)
    have h := nodeG_bd (bs := bs) (m := m) (ops := ops) (N := 16 * 2 ^ (L + 1) - 2) (by rw [Nat.pow_succ]; omega) hl ih p
    simp only [Nat.pow_succ] at h ⊢
    obtain ⟨h1, h2, h3⟩ := h
    exact ⟨h1, Nat.le_trans h2 (by omega), Nat.le_trans h3 (by omega)⟩

theorem l3Value_small {bs : List Int} (hb : Bytes bs) {p : Nat} (hp : p ≤ 80000000) (d : Nat) (hd : d ≤ 4) (lv : Int) (hlv : lv < 2) : Fn Try.prog 83 (hbR bs p) [vR, nat1 (d : Nat), nat1 lv] (.o (ad (rX (leafD bs d p).1))) (hbR bs (leafD bs d p).2) := by
 refine Fn.of_code Try.func83 rfl rfl (hbR_HB _ _) rfl rfl (hbR_HB _ _) rfl (hbR_num _ _ _) ?_
 refine .seq <| .region <| .cons (.al 106 [.int .i64 0, .int .i64 0, .slice none 0 0, .int .i64 0, .string ByteArray.empty, .slice none 0 0, .slice none 0 0] rfl rfl rfl) <| .nil <| ks_n <| .seq <| .seq <| .region <| .cons (.mv rfl rfl) <| .cons (.ls rfl rfl rfl) <| .cons (.mv rfl rfl) ?_
 refine .cD 11 rfl (fun g11 => ?_) (fun g11 => ?_)
 ·skip
  refine .cons (.gF rfl rfl rfl) <| .cons (.gF rfl rfl rfl) <| .cons (.gF rfl rfl rfl) <| .cons (.pT rfl rfl rfl) <| .nil <| ks_n ?_
  refine ACode.condT rfl (fun _ => ?_) (fun h => by first | (cases h; done) | (simp [*] at h; done) | (exfalso; simp_all; done))
  refine .seq <| .seq ?_
  obtain ⟨r, hr⟩ : ∃ r, r = leafD bs d p := ⟨_, rfl⟩
  rw [← hr]
  have hR := hr
  unfold leafD at hR
  refine .region <| .cons (.mv rfl rfl) <| .cons (.cR [.tmp 16, .const (.int .i64 (4))] 0 rfl rfl rfl rfl (pick_fn hb (by omega) 4) rfl ⟨rfl, trivial⟩) ?_
  refine .nil <| ks_n <| .block <| .seq <| .region <| .cons (.eq rfl rfl rfl) <| .cons (.asg rfl rfl) <| .nil <| ks_n ?_
  refine .cD rfl (fun h18 => ?_) (fun h18 => ?_)
  ·skip
   refine .seq <| .region <| .cons (.mv rfl rfl) <| .cons (.li 3 0 4 [.const (.int .i64 (1)), .const (.int .i64 (2)), .const (.int .i64 (0)), .const (.int .i64 (99)), .const (.int .i64 (3))] rfl rfl rfl rfl rfl rfl) <| .cons (.cR [.tmp 20, .tmp 21] 0 rfl rfl rfl rfl (num_fn hb (by omega) [1, 2, 0, 99, 3] (by simp)) rfl ⟨rfl, trivial⟩) ?_
   refine .cons (.bu [(0, .const (.int .i64 (1))), (1, .tmp 22)] [(0, 1), (1, 1), (2, 2), (4, 2), (6, 1)] [.int .i64 0, .int .i64 0, .slice none 0 0, .int .i64 0, .string ByteArray.empty, .slice none 0 0, .slice none 0 0] rfl rfl rfl rfl rfl) <| .cons (.sT 7 true rfl rfl rfl rfl rfl rfl rfl) <| .nil <| ks_n <| .ret <| kb_r <| ks_r <| ks_r ?_
   first | rw [if_pos (by assumption)] at hR | rw [if_neg (by assumption), if_pos (by assumption)] at hR | rw [if_neg (by assumption), if_neg (by assumption)] at hR
   refine kf_wret [(.t 6, .v (.o (.c (.box 100 7 0 0)))), (.b 0, .b 48 2 (dR ([rRd bs r.2]))), (.u 0, .u), (.b 100, .b 77 7 [[.d (dI r.1.k), .d (dI r.1.n), .d (dIs r.1.i.1), .d (dI r.1.i.2), .d (dS r.1.r.1), .d (dAs r.1.r.2), .d (dEs r.1.ks)]]), (.u 100, .u)] (Wk.keep [(0, 0), (100, 106)] rfl rfl ⟨ks rfl (.c .bx), kb 0 rfl (.dt rfl (by first | rfl | (rw [hR]; done) | (rw [hR]; rfl))), kb 106 rfl (.cons (.cons (.dt (by first | rfl | (rw [hR]; done) | (rw [hR]; rfl))) (.cons (.dt (by first | rfl | (rw [hR]; done) | (rw [hR]; rfl))) (.cons (Cto.nilE 1 (by first | rfl | (rw [hR]; done) | (rw [hR]; rfl))) (.cons (.dt (by first | rfl | (rw [hR]; done) | (rw [hR]; rfl))) (.cons (.dt (by first | rfl | (rw [hR]; done) | (rw [hR]; rfl))) (.cons (Cto.nilE 2 (by first | rfl | (rw [hR]; done) | (rw [hR]; rfl))) (.cons (Cto.nilE 7 (by first | rfl | (rw [hR]; done) | (rw [hR]; rfl))) Ctos.nil))))))) .nil), trivial⟩) rfl ?_ (hbR_box rfl)
   rfl
  ·skip
   refine .seq <| .region <| .cons (.eq rfl rfl rfl) <| .cons (.asg rfl rfl) <| .nil <| ks_n ?_
   refine .cD rfl (fun h24 => ?_) (fun h24 => ?_)
   ·skip
    refine .seq <| .region <| .cons (.mv rfl rfl) <| .cons (.mv rfl rfl) <| .cons (.cR [.tmp 26, .tmp 27] 0 rfl rfl rfl rfl (l1Draw_fn hb (by omega) d hd) rfl ⟨rfl, trivial⟩) ?_
    refine .cons (.bu [(0, .const (.int .i64 (2))), (2, .tmp 28)] [(0, 1), (1, 1), (2, 2), (4, 2), (6, 1)] [.int .i64 0, .int .i64 0, .slice none 0 0, .int .i64 0, .string ByteArray.empty, .slice none 0 0, .slice none 0 0] rfl rfl rfl rfl rfl) <| .cons (.sT 7 true rfl rfl rfl rfl rfl rfl rfl) <| .nil <| ks_n <| .ret <| kb_r <| ks_r <| ks_r ?_
    first | rw [if_pos (by assumption)] at hR | rw [if_neg (by assumption), if_pos (by assumption)] at hR | rw [if_neg (by assumption), if_neg (by assumption)] at hR
    refine kf_wret [(.t 6, .v (.o (.c (.box 100 7 0 0)))), (.b 0, .b 48 2 (dR ([rRd bs r.2]))), (.u 0, .u), (.b 100, .b 77 7 [[.d (dI r.1.k), .d (dI r.1.n), .d (dIs r.1.i.1), .d (dI r.1.i.2), .d (dS r.1.r.1), .d (dAs r.1.r.2), .d (dEs r.1.ks)]]), (.u 100, .u)] (Wk.keep [(0, 0), (100, 106)] rfl rfl ⟨ks rfl (.c .bx), kb 0 rfl (.dt rfl (by first | rfl | (rw [hR]; done) | (rw [hR]; rfl))), kb 106 rfl (.cons (.cons (.dt (by first | rfl | (rw [hR]; done) | (rw [hR]; rfl))) (.cons (.dt (by first | rfl | (rw [hR]; done) | (rw [hR]; rfl))) (.cons (.dt (by first | rfl | (rw [hR]; done) | (rw [hR]; rfl))) (.cons (.dt (by first | rfl | (rw [hR]; done) | (rw [hR]; rfl))) (.cons (.dt (by first | rfl | (rw [hR]; done) | (rw [hR]; rfl))) (.cons (Cto.nilE 2 (by first | rfl | (rw [hR]; done) | (rw [hR]; rfl))) (.cons (Cto.nilE 7 (by first | rfl | (rw [hR]; done) | (rw [hR]; rfl))) Ctos.nil))))))) .nil), trivial⟩) rfl ?_ (hbR_box rfl)
    rfl
   ·skip
    refine .skip <| kb_n <| ks_n <| .seq <| .region <| .cons (.mv rfl rfl) <| .cons (.mv rfl rfl) <| .cons (.cR [.tmp 30, .tmp 31] 0 rfl rfl rfl rfl (l3Elem_fn hb (by omega) d hd) rfl ⟨rfl, trivial⟩) ?_
    refine .cons (.bu [(0, .const (.int .i64 (3))), (3, .tmp 32)] [(0, 1), (1, 1), (2, 2), (4, 2), (6, 1)] [.int .i64 0, .int .i64 0, .slice none 0 0, .int .i64 0, .string ByteArray.empty, .slice none 0 0, .slice none 0 0] rfl rfl rfl rfl rfl) <| .cons (.sT 7 true rfl rfl rfl rfl rfl rfl rfl) <| .nil <| ks_n <| .ret <| ks_r ?_
    first | rw [if_pos (by assumption)] at hR | rw [if_neg (by assumption), if_pos (by assumption)] at hR | rw [if_neg (by assumption), if_neg (by assumption)] at hR
    refine kf_wret [(.t 6, .v (.o (.c (.box 100 7 0 0)))), (.b 0, .b 48 2 (dR ([rRd bs r.2]))), (.u 0, .u), (.b 100, .b 77 7 [[.d (dI r.1.k), .d (dI r.1.n), .d (dIs r.1.i.1), .d (dI r.1.i.2), .d (dS r.1.r.1), .d (dAs r.1.r.2), .d (dEs r.1.ks)]]), (.u 100, .u)] (Wk.keep [(0, 0), (100, 106)] rfl rfl ⟨ks rfl (.c .bx), kb 0 rfl (.dt rfl (by first | rfl | (rw [hR]; done) | (rw [hR]; rfl))), kb 106 rfl (.cons (.cons (.dt (by first | rfl | (rw [hR]; done) | (rw [hR]; rfl))) (.cons (.dt (by first | rfl | (rw [hR]; done) | (rw [hR]; rfl))) (.cons (Cto.nilE 1 (by first | rfl | (rw [hR]; done) | (rw [hR]; rfl))) (.cons (.dt (by first | rfl | (rw [hR]; done) | (rw [hR]; rfl))) (.cons (.dt (by first | rfl | (rw [hR]; done) | (rw [hR]; rfl))) (.cons (.dt (by first | rfl | (rw [hR]; done) | (rw [hR]; rfl))) (.cons (Cto.nilE 7 (by first | rfl | (rw [hR]; done) | (rw [hR]; rfl))) Ctos.nil))))))) .nil), trivial⟩) rfl ?_ (hbR_box rfl)
    rfl
 ·skip
  exact absurd hlv g11

theorem l3Value_big {bs : List Int} (hb : Bytes bs) {p : Nat} (d : Nat) (hd : d ≤ 4) (lv : Int) (hlv : ¬ lv < 2) (hlv2 : lv ≤ 100) {f : Nat → Ex × Nat} {N : Nat} (hf : Bnd f N) (hp : p + 2 * N + 4 ≤ 70000000) (ih : ∀ q, q + N + 2 ≤ 70000000 → Fn Try.prog 83 (hbR bs q) [vR, nat1 (d : Nat), nat1 (lv - 1)] (.o (ad (rX (f q).1))) (hbR bs (f q).2)) : Fn Try.prog 83 (hbR bs p) [vR, nat1 (d : Nat), nat1 lv] (.o (ad (rX (nodeG bs (leafD bs d) 4 [4, 6, 5, 4] f p).1))) (hbR bs (nodeG bs (leafD bs d) 4 [4, 6, 5, 4] f p).2) := by
 refine Fn.of_code Try.func83 rfl rfl (hbR_HB _ _) rfl rfl (hbR_HB _ _) rfl (hbR_num _ _ _) ?_
 refine .seq <| .region <| .cons (.al 106 [.int .i64 0, .int .i64 0, .slice none 0 0, .int .i64 0, .string ByteArray.empty, .slice none 0 0, .slice none 0 0] rfl rfl rfl) <| .nil <| ks_n <| .seq <| .seq <| .region <| .cons (.mv rfl rfl) <| .cons (.ls rfl rfl rfl) <| .cons (.mv rfl rfl) ?_
 refine .cD 11 rfl (fun g11 => ?_) (fun g11 => ?_)
 ·skip
  exact absurd g11 hlv
 ·skip
  refine .cons (.gT rfl rfl rfl (.mv rfl rfl)) <| .cons (.gT rfl rfl rfl (.cR [.tmp 12, .const (.int .i64 (4))] 0 rfl rfl rfl rfl (pick_fn hb (by omega) 4) rfl ⟨rfl, trivial⟩)) ?_
  refine .cons (.gT rfl rfl rfl (.eq rfl rfl rfl)) <| .cons (.pF rfl rfl rfl) <| .nil <| ks_n ?_
  refine ACode.condT rfl (fun h15 => ?_) (fun h15 => ?_)
  ·try simp only [zs1, zs2, zs3, zs4, zs5, zs6, zs7] at h15
   refine .seq <| .seq ?_
   obtain ⟨r, hr⟩ : ∃ r, r = nodeG bs (leafD bs d) 4 [4, 6, 5, 4] f p := ⟨_, rfl⟩
   rw [← hr]
   have hR := hr
   unfold nodeG at hR
   rw [if_pos h15] at hR
   unfold leafD at hR
   refine .region <| .cons (.mv rfl rfl) <| .cons (.cR [.tmp 16, .const (.int .i64 (4))] 0 rfl rfl rfl rfl (pick_fn hb (by omega) 4) rfl ⟨rfl, trivial⟩) ?_
   refine .nil <| ks_n <| .block <| .seq <| .region <| .cons (.eq rfl rfl rfl) <| .cons (.asg rfl rfl) <| .nil <| ks_n ?_
   refine .cD rfl (fun h18 => ?_) (fun h18 => ?_)
   ·skip
    refine .seq <| .region <| .cons (.mv rfl rfl) <| .cons (.li 3 0 4 [.const (.int .i64 (1)), .const (.int .i64 (2)), .const (.int .i64 (0)), .const (.int .i64 (99)), .const (.int .i64 (3))] rfl rfl rfl rfl rfl rfl) <| .cons (.cR [.tmp 20, .tmp 21] 0 rfl rfl rfl rfl (num_fn hb (by omega) [1, 2, 0, 99, 3] (by simp)) rfl ⟨rfl, trivial⟩) ?_
    refine .cons (.bu [(0, .const (.int .i64 (1))), (1, .tmp 22)] [(0, 1), (1, 1), (2, 2), (4, 2), (6, 1)] [.int .i64 0, .int .i64 0, .slice none 0 0, .int .i64 0, .string ByteArray.empty, .slice none 0 0, .slice none 0 0] rfl rfl rfl rfl rfl) <| .cons (.sT 7 true rfl rfl rfl rfl rfl rfl rfl) <| .nil <| ks_n <| .ret <| kb_r <| ks_r <| ks_r ?_
    first | rw [if_pos (by assumption)] at hR | rw [if_neg (by assumption), if_pos (by assumption)] at hR | rw [if_neg (by assumption), if_neg (by assumption)] at hR | skip
    refine kf_wret [(.t 6, .v (.o (.c (.box 100 7 0 0)))), (.b 0, .b 48 2 (dR ([rRd bs r.2]))), (.u 0, .u), (.b 100, .b 77 7 [[.d (dI r.1.k), .d (dI r.1.n), .d (dIs r.1.i.1), .d (dI r.1.i.2), .d (dS r.1.r.1), .d (dAs r.1.r.2), .d (dEs r.1.ks)]]), (.u 100, .u)] (Wk.keep [(0, 0), (100, 106)] rfl rfl ⟨ks rfl (.c .bx), kb 0 rfl (.dt rfl (by first | rfl | (rw [hR]; done) | (rw [hR]; rfl))), kb 106 rfl (.cons (.cons (.dt (by first | rfl | (rw [hR]; done) | (rw [hR]; rfl))) (.cons (.dt (by first | rfl | (rw [hR]; done) | (rw [hR]; rfl))) (.cons (Cto.nilE 1 (by first | rfl | (rw [hR]; done) | (rw [hR]; rfl))) (.cons (.dt (by first | rfl | (rw [hR]; done) | (rw [hR]; rfl))) (.cons (.dt (by first | rfl | (rw [hR]; done) | (rw [hR]; rfl))) (.cons (Cto.nilE 2 (by first | rfl | (rw [hR]; done) | (rw [hR]; rfl))) (.cons (Cto.nilE 7 (by first | rfl | (rw [hR]; done) | (rw [hR]; rfl))) Ctos.nil))))))) .nil), trivial⟩) rfl ?_ (hbR_box rfl)
    rfl
   ·skip
    refine .seq <| .region <| .cons (.eq rfl rfl rfl) <| .cons (.asg rfl rfl) <| .nil <| ks_n ?_
    refine .cD rfl (fun h24 => ?_) (fun h24 => ?_)
    ·skip
     refine .seq <| .region <| .cons (.mv rfl rfl) <| .cons (.mv rfl rfl) <| .cons (.cR [.tmp 26, .tmp 27] 0 rfl rfl rfl rfl (l1Draw_fn hb (by omega) d hd) rfl ⟨rfl, trivial⟩) ?_
     refine .cons (.bu [(0, .const (.int .i64 (2))), (2, .tmp 28)] [(0, 1), (1, 1), (2, 2), (4, 2), (6, 1)] [.int .i64 0, .int .i64 0, .slice none 0 0, .int .i64 0, .string ByteArray.empty, .slice none 0 0, .slice none 0 0] rfl rfl rfl rfl rfl) <| .cons (.sT 7 true rfl rfl rfl rfl rfl rfl rfl) <| .nil <| ks_n <| .ret <| kb_r <| ks_r <| ks_r ?_
     first | rw [if_pos (by assumption)] at hR | rw [if_neg (by assumption), if_pos (by assumption)] at hR | rw [if_neg (by assumption), if_neg (by assumption)] at hR | skip
     refine kf_wret [(.t 6, .v (.o (.c (.box 100 7 0 0)))), (.b 0, .b 48 2 (dR ([rRd bs r.2]))), (.u 0, .u), (.b 100, .b 77 7 [[.d (dI r.1.k), .d (dI r.1.n), .d (dIs r.1.i.1), .d (dI r.1.i.2), .d (dS r.1.r.1), .d (dAs r.1.r.2), .d (dEs r.1.ks)]]), (.u 100, .u)] (Wk.keep [(0, 0), (100, 106)] rfl rfl ⟨ks rfl (.c .bx), kb 0 rfl (.dt rfl (by first | rfl | (rw [hR]; done) | (rw [hR]; rfl))), kb 106 rfl (.cons (.cons (.dt (by first | rfl | (rw [hR]; done) | (rw [hR]; rfl))) (.cons (.dt (by first | rfl | (rw [hR]; done) | (rw [hR]; rfl))) (.cons (.dt (by first | rfl | (rw [hR]; done) | (rw [hR]; rfl))) (.cons (.dt (by first | rfl | (rw [hR]; done) | (rw [hR]; rfl))) (.cons (.dt (by first | rfl | (rw [hR]; done) | (rw [hR]; rfl))) (.cons (Cto.nilE 2 (by first | rfl | (rw [hR]; done) | (rw [hR]; rfl))) (.cons (Cto.nilE 7 (by first | rfl | (rw [hR]; done) | (rw [hR]; rfl))) Ctos.nil))))))) .nil), trivial⟩) rfl ?_ (hbR_box rfl)
     rfl
    ·skip
     refine .skip <| kb_n <| ks_n <| .seq <| .region <| .cons (.mv rfl rfl) <| .cons (.mv rfl rfl) <| .cons (.cR [.tmp 30, .tmp 31] 0 rfl rfl rfl rfl (l3Elem_fn hb (by omega) d hd) rfl ⟨rfl, trivial⟩) ?_
     refine .cons (.bu [(0, .const (.int .i64 (3))), (3, .tmp 32)] [(0, 1), (1, 1), (2, 2), (4, 2), (6, 1)] [.int .i64 0, .int .i64 0, .slice none 0 0, .int .i64 0, .string ByteArray.empty, .slice none 0 0, .slice none 0 0] rfl rfl rfl rfl rfl) <| .cons (.sT 7 true rfl rfl rfl rfl rfl rfl rfl) <| .nil <| ks_n <| .ret <| ks_r ?_
     first | rw [if_pos (by assumption)] at hR | rw [if_neg (by assumption), if_pos (by assumption)] at hR | rw [if_neg (by assumption), if_neg (by assumption)] at hR | skip
     refine kf_wret [(.t 6, .v (.o (.c (.box 100 7 0 0)))), (.b 0, .b 48 2 (dR ([rRd bs r.2]))), (.u 0, .u), (.b 100, .b 77 7 [[.d (dI r.1.k), .d (dI r.1.n), .d (dIs r.1.i.1), .d (dI r.1.i.2), .d (dS r.1.r.1), .d (dAs r.1.r.2), .d (dEs r.1.ks)]]), (.u 100, .u)] (Wk.keep [(0, 0), (100, 106)] rfl rfl ⟨ks rfl (.c .bx), kb 0 rfl (.dt rfl (by first | rfl | (rw [hR]; done) | (rw [hR]; rfl))), kb 106 rfl (.cons (.cons (.dt (by first | rfl | (rw [hR]; done) | (rw [hR]; rfl))) (.cons (.dt (by first | rfl | (rw [hR]; done) | (rw [hR]; rfl))) (.cons (Cto.nilE 1 (by first | rfl | (rw [hR]; done) | (rw [hR]; rfl))) (.cons (.dt (by first | rfl | (rw [hR]; done) | (rw [hR]; rfl))) (.cons (.dt (by first | rfl | (rw [hR]; done) | (rw [hR]; rfl))) (.cons (.dt (by first | rfl | (rw [hR]; done) | (rw [hR]; rfl))) (.cons (Cto.nilE 7 (by first | rfl | (rw [hR]; done) | (rw [hR]; rfl))) Ctos.nil))))))) .nil), trivial⟩) rfl ?_ (hbR_box rfl)
     rfl
  ·try simp only [zs1, zs2, zs3, zs4, zs5, zs6, zs7] at h15
   refine .skip <| ks_n <| .seq ?_
   obtain ⟨r, hr⟩ : ∃ r, r = nodeG bs (leafD bs d) 4 [4, 6, 5, 4] f p := ⟨_, rfl⟩
   rw [← hr]
   have hR := hr
   unfold nodeG at hR
   rw [if_neg h15] at hR
   refine .region <| .cons (.mv rfl rfl) <| .cons (.li 3 0 3 [.const (.int .i64 (4)), .const (.int .i64 (6)), .const (.int .i64 (5)), .const (.int .i64 (4))] rfl rfl rfl rfl rfl rfl) <| .cons (.cR [.tmp 34, .tmp 35] 0 rfl rfl rfl rfl (num_fn hb (by omega) [4, 6, 5, 4] (by simp)) rfl ⟨rfl, trivial⟩) ?_
   refine .cons (.bu [(0, .tmp 36)] [(0, 1), (1, 1), (2, 2), (4, 2), (6, 1)] [.int .i64 0, .int .i64 0, .slice none 0 0, .int .i64 0, .string ByteArray.empty, .slice none 0 0, .slice none 0 0] rfl rfl rfl rfl rfl) <| .cons (.al 107 [.int .i64 0, .int .i64 0, .slice none 0 0, .int .i64 0, .string ByteArray.empty, .slice none 0 0, .slice none 0 0] rfl rfl rfl) <| .cons (.sT 7 true rfl rfl rfl rfl rfl rfl rfl) <| .nil <| ks_n <| .seq <| .seq <| .region <| .cons (.asg rfl rfl) <| .nil <| ks_n <| .block ?_
   refine .loopK (fun m σ => (∃ (n q : Nat), m = n + 0 ∧ (n = 2) ∧ (q = p + 1 + 1) ∧ (kidG f n [] q = kidG f 2 [] (p + 1 + 1)) ∧ σ = [(.t 0, .v (.o (.c (.box 0 2 0 0)))), (.t 1, .v (.o (nat1 (d : Nat)))), (.t 2, .v (.o (nat1 lv))), (.t 6, .v (.o (.c (.box 110 7 0 0)))), (.t 7, .v (.o (.c (.box 111 7 0 0)))), (.t 8, .v (.o (nat1 (2 - (n : Nat))))), (.b 0, .b 48 2 (dR ([rRd bs q]))), (.u 0, .u), (.b 110, .b 77 7 [[.d (dI 0), .d (dI 0), .d (.val (.slice none 0 0)), .d (dI 0), .d (dS ByteArray.empty), .d (.val (.slice none 0 0)), .d (.val (.slice none 0 0))]]), (.u 110, .u), (.b 111, .b 77 7 [[.d (dI (numV bs (p + 1) [4, 6, 5, 4])), .d (dI 0), .d (.val (.slice none 0 0)), .d (dI 0), .d (dS ByteArray.empty), .d (.val (.slice none 0 0)), .d (.val (.slice none 0 0))]]), (.u 111, .u)]) ∨ (∃ (n q : Nat) (l : List Ex), m = n + 0 ∧ (0 < l.length) ∧ (l.length + n = 2) ∧ (q ≤ p + 2 + 2 * N ∧ (n = 1 → q ≤ p + 2 + N)) ∧ (kidG f n l q = kidG f 2 [] (p + 1 + 1)) ∧ σ = [(.t 0, .v (.o (.c (.box 0 2 0 0)))), (.t 1, .v (.o (nat1 (d : Nat)))), (.t 2, .v (.o (nat1 lv))), (.t 6, .v (.o (.c (.box 110 7 0 0)))), (.t 7, .v (.o (.c (.box 111 7 0 0)))), (.t 8, .v (.o (nat1 (2 - (n : Nat))))), (.b 0, .b 48 2 (dR ([rRd bs q]))), (.u 0, .u), (.b 110, .b 77 7 [[.d (dI 0), .d (dI 0), .d (.val (.slice none 0 0)), .d (dI 0), .d (dS ByteArray.empty), .d (.val (.slice none 0 0)), .d (.val (.slice none 0 0))]]), (.u 110, .u), (.b 112, .b 77 7 (dR (l.map rE))), (.u 112, .u), (.b 111, .b 77 7 [[.d (dI (numV bs (p + 1) [4, 6, 5, 4])), .d (dI 0), .d (.val (.slice none 0 0)), .d (dI 0), .d (dS ByteArray.empty), .d (.val (.slice none 0 0)), .own 112 7 (l.length)]]), (.u 111, .u)])) [(0, 0), (110, 106), (111, 107)] (.inl ⟨2, p + 1 + 1, rfl, rfl, rfl, rfl, rfl⟩) ⟨ks rfl (.c .bx), ks rfl .dt, ks rfl .dt, ks rfl (.c .bx), ks rfl (.c .bx), ks rfl .dt, kb 0 rfl (.dt rfl), kb 106 rfl (.cons (.cons .dt (.cons .dt (.cons .dt (.cons .dt (.cons .dt (.cons .dt (.cons .dt Ctos.nil))))))) .nil), kb 107 rfl (.cons (.cons .dt (.cons .dt (.cons .dt (.cons .dt (.cons .dt (.cons .dt (.cons .dt Ctos.nil))))))) .nil), trivial⟩ ?_
   rintro m σ (⟨n, q, hm0, hn, hq, hE, rfl⟩ | ⟨n, q, l, hm0, hl0, hln, hq, hE, rfl⟩)
   ·skip
    refine .seq <| .seq <| .region <| .cons (.mv rfl rfl) <| .cons (.ls rfl rfl rfl) <| .nil <| ks_n ?_
    refine .cD rfl (fun h39 => ?_) (fun h39 => ?_)
    ·skip
     obtain ⟨f1, f2, f3⟩ := hf q
     refine .skip <| ks_n <| .seq <| .block ?_
     refine ACode.drawK (by kernel_rfl) (by kernel_rfl) ?_
     refine .cons (.fB 6 0 false rfl rfl rfl) <| .cons (.b1 1 rfl rfl rfl rfl rfl rfl) <| .cons (.mv rfl rfl) <| .cons (.mv rfl rfl) <| .cons (.mv rfl rfl) <| .cons (.sb rfl rfl rfl) <| .cons (.cR [.tmp 44, .tmp 45, .tmp 47] 0 rfl rfl rfl rfl (ih q (by omega)) rfl ⟨rfl, trivial⟩) ?_
     refine .cons (.li 77 6 0 [.tmp 48] rfl rfl rfl rfl rfl rfl) <| .cons (St1.appN (k' := 150) (e := 77) (sz := 6) (by' := 112) rfl rfl rfl rfl rfl (by kernel_rfl) rfl rfl rfl (by simp) (by simp [dR] <;> omega) rfl rfl) ?_
     refine .cons (.fB 6 0 false rfl rfl rfl) <| .cons (.sT 1 false rfl rfl rfl rfl rfl rfl rfl) ?_
     refine .nil ⟨by kernel_rfl, ?_⟩
     refine kb_n <| ks_n <| .region <| .cons (.mv rfl rfl) <| .cons (.pl rfl rfl rfl) <| .cons (.asg rfl rfl) <| .nil ?_
     refine kl_k [(0, 0), (110, 110), (111, 111), (112, 150)] (.inr ⟨n - 1, (f q).2, [(f q).1], rfl, by simp, by simp; omega, by omega, by rw [← hE, show kidG f n [] q = kidG f (n - 1 + 1) [] q by rw [Nat.sub_add_cancel (by omega)], kidG] <;> first | rfl | simp, rfl⟩) ⟨ks rfl (.c .bx), ks rfl .dt, ks rfl .dt, ks rfl (.c .bx), ks rfl (.c .bx), ks rfl .dt, kb 0 rfl (.dt rfl), kb 110 rfl (.cons (.cons .dt (.cons .dt (.cons .dt (.cons .dt (.cons .dt (.cons .dt (.cons .dt Ctos.nil))))))) .nil), kb 150 rfl (.dt rfl (by first | (rw [← rE_one, dR_app, ← List.map_append]; done) | (rw [← rE_one]; simp [dR]; done) | (simp [dR, rE_eq]; done) | (simp [dR, rE_eq]; rfl))), kb 111 rfl (.cons (.cons .dt (.cons .dt (.cons .dt (.cons .dt (.cons .dt (.cons .dt (.cons .ow Ctos.nil))))))) .nil), trivial⟩
    ·skip
     omega
   ·skip
    refine .seq <| .seq <| .region <| .cons (.mv rfl rfl) <| .cons (.ls rfl rfl rfl) <| .nil <| ks_n ?_
    refine .cD rfl (fun h39 => ?_) (fun h39 => ?_)
    ·skip
     obtain ⟨f1, f2, f3⟩ := hf q
     refine .skip <| ks_n <| .seq <| .block ?_
     refine ACode.drawK (by kernel_rfl) (by kernel_rfl) ?_
     refine .cons (.fB 6 0 false rfl rfl rfl) <| .cons (.b1 1 rfl rfl rfl rfl rfl rfl) <| .cons (.mv rfl rfl) <| .cons (.mv rfl rfl) <| .cons (.mv rfl rfl) <| .cons (.sb rfl rfl rfl) <| .cons (.cR [.tmp 44, .tmp 45, .tmp 47] 0 rfl rfl rfl rfl (ih q (by omega)) rfl ⟨rfl, trivial⟩) ?_
     refine .cons (.li 77 6 0 [.tmp 48] rfl rfl rfl rfl rfl rfl) <| .cons (St1.appB (k' := 150) (e := 77) (sz := 6) (by' := 112) rfl rfl rfl rfl rfl (by kernel_rfl) rfl rfl rfl rfl (by simp [dR]) (by simp [dR] <;> omega) rfl rfl rfl) ?_
     refine .cons (.fB 6 0 false rfl rfl rfl) <| .cons (.sT 1 false rfl rfl rfl rfl rfl rfl rfl) ?_
     refine .nil ⟨by kernel_rfl, ?_⟩
     refine kb_n <| ks_n <| .region <| .cons (.mv rfl rfl) <| .cons (.pl rfl rfl rfl) <| .cons (.asg rfl rfl) <| .nil ?_
     refine kl_k [(0, 0), (110, 110), (111, 111), (112, 150)] (.inr ⟨n - 1, (f q).2, l ++ [(f q).1], rfl, by simp, by simp; omega, by omega, by rw [← hE, show kidG f n l q = kidG f (n - 1 + 1) l q by rw [Nat.sub_add_cancel (by omega)], kidG] <;> first | rfl | simp, rfl⟩) ⟨ks rfl (.c .bx), ks rfl .dt, ks rfl .dt, ks rfl (.c .bx), ks rfl (.c .bx), ks rfl .dt, kb 0 rfl (.dt rfl), kb 110 rfl (.cons (.cons .dt (.cons .dt (.cons .dt (.cons .dt (.cons .dt (.cons .dt (.cons .dt Ctos.nil))))))) .nil), kb 150 rfl (.dt rfl (by first | (rw [← rE_one, dR_app, ← List.map_append]; done) | (rw [← rE_one]; simp [dR]; done) | (simp [dR, rE_eq]; done) | (simp [dR, rE_eq]; rfl))), kb 111 rfl (.cons (.cons .dt (.cons .dt (.cons .dt (.cons .dt (.cons .dt (.cons .dt (.cons .ow Ctos.nil))))))) .nil), trivial⟩
    ·skip
     obtain rfl : n = 0 := by omega
     rw [kidG] at hE
     rw [← hE] at hR
     refine .exit <| ks_e <| kl_e <| kb_hit <| ks_n <| .seq <| .region <| .cons (.bN 7 rfl rfl rfl rfl rfl rfl) <| .cons (.sT 7 true rfl rfl rfl rfl rfl rfl rfl) <| .nil <| ks_n <| .ret ?_
     first | rw [if_pos (by assumption)] at hR | rw [if_neg (by assumption), if_pos (by assumption)] at hR | rw [if_neg (by assumption), if_neg (by assumption)] at hR | skip
     refine kf_wret [(.t 6, .v (.o (.c (.box 100 7 0 0)))), (.b 0, .b 48 2 (dR ([rRd bs r.2]))), (.u 0, .u), (.b 100, .b 77 7 [[.d (dI r.1.k), .d (dI r.1.n), .d (dIs r.1.i.1), .d (dI r.1.i.2), .d (dS r.1.r.1), .d (dAs r.1.r.2), .d (dEs r.1.ks)]]), (.u 100, .u)] (Wk.keep [(0, 0), (100, 110)] rfl rfl ⟨ks rfl (.c .bx), kb 0 rfl (.dt rfl (by first | rfl | (rw [hR]; done) | (rw [hR]; rfl))), kb 110 rfl (.cons (.cons (.dt (by first | rfl | (rw [hR]; done) | (rw [hR]; rfl))) (.cons (.dt (by first | rfl | (rw [hR]; done) | (rw [hR]; rfl))) (.cons (Cto.nilE 1 (by first | rfl | (rw [hR]; done) | (rw [hR]; rfl))) (.cons (.dt (by first | rfl | (rw [hR]; done) | (rw [hR]; rfl))) (.cons (.dt (by first | rfl | (rw [hR]; done) | (rw [hR]; rfl))) (.cons (Cto.nilE 2 (by first | rfl | (rw [hR]; done) | (rw [hR]; rfl))) (.cons (.fz rfl (by first | rfl | (rw [hR]; done) | (rw [hR]; rfl)) (by rw [hR, List.length_map]; try rfl) (by omega)) Ctos.nil))))))) .nil), trivial⟩) rfl ?_ (hbR_box rfl)
     rfl

theorem l3Value_fn {bs : List Int} (hb : Bytes bs) (d : Nat) (hd : d ≤ 4) : ∀ (L : Nat) (lv : Int) (p : Nat), lv = (L : Int) → L ≤ 10 → p + 16 * 2 ^ L ≤ 70000000 → Fn Try.prog 83 (hbR bs p) [vR, nat1 (d : Nat), nat1 lv] (.o (ad (rX (valG bs (leafD bs d) 4 [4, 6, 5, 4] L p).1))) (hbR bs (valG bs (leafD bs d) 4 [4, 6, 5, 4] L p).2)
  | 0, lv, p, hl, hL, hp => l3Value_small hb (by omega) d hd lv (by omega)
  | 1, lv, p, hl, hL, hp => l3Value_small hb (by omega) d hd lv (by omega)
  | L + 2, lv, p, hl, hL, hp => l3Value_big hb d hd lv (by omega) (by omega) (valG_bd (bs := bs) (m := 4) (ops := [4, 6, 5, 4]) (leafD_bd bs hd) (L + 1)) (by have : 1 ≤ 2 ^ L := Nat.one_le_two_pow; simp only [Nat.pow_succ] at hp ⊢; omega) fun q hq => l3Value_fn hb d hd (L + 1) (lv - 1) q (by omega) (by omega) (by have : 1 ≤ 2 ^ L := Nat.one_le_two_pow; simp only [Nat.pow_succ] at hp hq ⊢; omega)




def dfltS : Stm := ((⟨#[65]⟩, [zA]), .mk 1 1 zA0 zC0 [])
theorem sz_dflt : szS dfltS = 6 := by decide
/-- A drawn statement. -/
def drawS (bs : List Int) (d : Nat) (lvs : List Int) (val : Nat → Nat → Ex × Nat) (dflt : Nat → Stm × Nat) (p : Nat) : Stm × Nat :=
  let a := elemD bs d p
  let e := val (numV bs a.2 lvs).toNat (a.2 + 1)
  if stmtV (d : Nat) (a.1, e.1) = true then ((a.1, e.1), e.2) else dflt e.2
def stmD (bs : List Int) (d p : Nat) : Stm × Nat := drawS bs d [2, 3, 1, 2] (fun L q => valG bs (leafD bs d) 4 [4, 6, 5, 4] L q) (fun q => (dfltS, q)) p
theorem lv_bd {bs : List Int} (hb : Bytes bs) {q : Nat} (hq : q ≤ 1099511627776) {xs : List Int} (hx : 0 < xs.length) (h4 : ∀ x ∈ xs, 1 ≤ x ∧ x ≤ 4) : ∃ L : Nat, (numV bs q xs).toNat = L ∧ numV bs q xs = (L : Int) ∧ L ≤ 4 := by
  have := h4 _ (numV_mem hb hq hx)
  exact ⟨_, rfl, by omega, by omega⟩
theorem szS_mk {a : Acc} {e : Ex} {m n : Nat} (h1 : szC a ≤ m) (h2 : szE e ≤ n) : szS (a, e) ≤ m + n := Nat.add_le_add h1 h2
theorem drawS_bd {bs : List Int} (hb : Bytes bs) {d : Nat} {lvs : List Int} {val : Nat → Nat → Ex × Nat} {dflt : Nat → Stm × Nat} {N : Nat} (hx : 0 < lvs.length) (h4 : ∀ x ∈ lvs, 1 ≤ x ∧ x ≤ 4) (hv : ∀ L : Nat, L ≤ 4 → Bnd (val L) 254) (hd : ∀ q, q ≤ (dflt q).2 ∧ (dflt q).2 ≤ q + N ∧ szS (dflt q).1 ≤ 266 ∧ 0 < (dflt q).1.1.2.length) (p : Nat) (hp : p ≤ 1000000000) :
    p ≤ (drawS bs d lvs val dflt p).2 ∧ (drawS bs d lvs val dflt p).2 ≤ p + 266 + N ∧ szS (drawS bs d lvs val dflt p).1 ≤ 266 ∧ 0 < (drawS bs d lvs val dflt p).1.1.2.length := by
  obtain ⟨a1, a2, a3, a4, a5⟩ := elemD_p bs d p
  have a6 := elemD_sz bs d p
  obtain ⟨L, hL, _, hL4⟩ := lv_bd hb (q := (elemD bs d p).2) (by omega) hx h4
  obtain ⟨b1, b2, b3⟩ := hv L hL4 ((elemD bs d p).2 + 1)
  obtain ⟨c1, c2, c3, c4⟩ := hd (val L ((elemD bs d p).2 + 1)).2
  have h9 := szS_mk a6 b3
  unfold drawS
  simp only [hL]
  split
  · exact ⟨by dsimp only; omega, by dsimp only; omega, by dsimp only; omega, a3⟩
  · exact ⟨by omega, by omega, c3, c4⟩
theorem val254 {bs : List Int} {leaf : Nat → Ex × Nat} {m : Int} {ops : List Int} (hl : Bnd leaf 14) (L : Nat) (hL : L ≤ 4) : Bnd (valG bs leaf m ops L) 254 := fun p => by
  obtain ⟨h1, h2, h3⟩ := valG_bd (bs := bs) (m := m) (ops := ops) hl L p
  have : 2 ^ L ≤ 2 ^ 4 := Nat.pow_le_pow_right (by omega) hL
  exact ⟨h1, by omega, by omega⟩
theorem stmD_bd {bs : List Int} (hb : Bytes bs) {d : Nat} (hd : d ≤ 4) (p : Nat) (hp : p ≤ 1000000000) : p ≤ (stmD bs d p).2 ∧ (stmD bs d p).2 ≤ p + 266 ∧ szS (stmD bs d p).1 ≤ 266 ∧ 0 < (stmD bs d p).1.1.2.length :=
  drawS_bd (N := 0) hb (by decide) (by decide) (fun L hL => val254 (leafD_bd bs hd) L hL) (fun q => ⟨Nat.le_refl _, Nat.le_refl _, by rw [sz_dflt]; omega, by show 0 < [zA].length; decide⟩) p hp

theorem l3Stmt_fn {bs : List Int} (hb : Bytes bs) {p : Nat} (hp : p ≤ 60000000) (d : Nat) (hd : d ≤ 4) : Fn Try.prog 62 (hbR bs p) [vR, nat1 (d : Nat)] (.o (ad (rS (stmD bs d p).1))) (hbR bs (stmD bs d p).2) := by
 obtain ⟨a1, a2, a3, a4, a5⟩ := elemD_p bs d p
 have a6 := elemD_sz bs d p
 obtain ⟨L, hL1, hL, hL4⟩ := lv_bd hb (q := (elemD bs d p).2) (by omega) (xs := [2, 3, 1, 2]) (by decide) (by decide)
 have h16 : 2 ^ L ≤ 2 ^ 4 := Nat.pow_le_pow_right (by omega) hL4
 obtain ⟨b1, b2, b3⟩ := val254 (bs := bs) (m := 4) (ops := [4, 6, 5, 4]) (leafD_bd bs hd) L hL4 ((elemD bs d p).2 + 1)
 have h9 := szS_mk a6 b3
 have hR : stmD bs d p = if stmtV (d : Nat) ((elemD bs d p).1, (valG bs (leafD bs d) 4 [4, 6, 5, 4] L ((elemD bs d p).2 + 1)).1) = true then (((elemD bs d p).1, (valG bs (leafD bs d) 4 [4, 6, 5, 4] L ((elemD bs d p).2 + 1)).1), (valG bs (leafD bs d) 4 [4, 6, 5, 4] L ((elemD bs d p).2 + 1)).2) else (dfltS, (valG bs (leafD bs d) 4 [4, 6, 5, 4] L ((elemD bs d p).2 + 1)).2) := by rw [stmD, drawS]; simp only [hL1]
 refine Fn.of_code Try.func62 rfl rfl (hbR_HB _ _) rfl rfl (hbR_HB _ _) rfl (hbR_num _ _ _) ?_
 refine .seq <| .region <| .cons (.al 104 [.string ByteArray.empty, .slice none 0 0, .int .i64 0, .int .i64 0, .slice none 0 0, .int .i64 0, .string ByteArray.empty, .slice none 0 0, .slice none 0 0] rfl rfl rfl) <| .nil <| ks_n <| .seq <| .region <| .cons (.mv rfl rfl) <| .cons (.mv rfl rfl) <| .cons (.cR [.tmp 6, .tmp 7] 0 rfl rfl rfl rfl (l3Elem_fn hb (by omega) d hd) rfl ⟨rfl, trivial⟩) ?_
 refine .cons (.mv rfl rfl) <| .cons (.mv rfl rfl) <| .cons (.mv rfl rfl) <| .cons (.li 3 0 3 [.const (.int .i64 (2)), .const (.int .i64 (3)), .const (.int .i64 (1)), .const (.int .i64 (2))] rfl rfl rfl rfl rfl rfl) <| .cons (.cR [.tmp 11, .tmp 12] 0 rfl rfl rfl rfl (num_fn hb (by omega) [2, 3, 1, 2] (by simp)) rfl ⟨rfl, trivial⟩) ?_
 refine .cons (.cR [.tmp 9, .tmp 10, .tmp 13] 0 rfl rfl rfl rfl (l3Value_fn hb d hd L _ _ hL (by omega) (by omega)) rfl ⟨rfl, trivial⟩) ?_
 refine .cons (.bu [(0, .tmp 8), (1, .tmp 14)] [(0, 2), (2, 7)] [.string ByteArray.empty, .slice none 0 0, .int .i64 0, .int .i64 0, .slice none 0 0, .int .i64 0, .string ByteArray.empty, .slice none 0 0, .slice none 0 0] rfl rfl rfl rfl rfl) <| .cons (.al 105 [.string ByteArray.empty, .slice none 0 0, .int .i64 0, .int .i64 0, .slice none 0 0, .int .i64 0, .string ByteArray.empty, .slice none 0 0, .slice none 0 0] rfl rfl rfl) <| .cons (.sT 9 true rfl rfl rfl rfl rfl rfl rfl) <| .nil <| ks_n <| .seq <| .seq <| .region <| .cons (.bN 9 rfl rfl rfl rfl rfl rfl) <| .cons (.mv rfl rfl) <| .cons (.cP [.tmp 16, .tmp 17] rfl rfl rfl rfl (specStmtV_fn (d : Nat) ((elemD bs d p).1, (valG bs (leafD bs d) 4 [4, 6, 5, 4] L ((elemD bs d p).2 + 1)).1) (by omega)) rfl) ?_
 refine .nil <| ks_n ?_
 refine ACode.condT rfl (fun h18 => ?_) (fun h18 => ?_)
 ·try simp only [zs1, zs2, zs3, zs4, zs5, zs6, zs7] at h18
  refine .seq ?_
  rw [if_pos h18] at hR
  rw [hR]
  refine .region <| .cons (.bN 9 rfl rfl rfl rfl rfl rfl) <| .cons (.sT 9 true rfl rfl rfl rfl rfl rfl rfl) <| .nil <| ks_n <| .ret <| ks_r ?_
  refine kf_ret rfl ?_ (hbR_box rfl)
  rfl
 ·try simp only [zs1, zs2, zs3, zs4, zs5, zs6, zs7] at h18
  refine .skip <| ks_n <| .seq ?_
  rw [if_neg (by rw [h18]; decide)] at hR
  rw [hR]
  refine .region <| .cons (.cP [] rfl rfl rfl rfl (l1Zero_fn) rfl) ?_
  refine .cons (.li 74 1 0 [.tmp 20] rfl rfl rfl rfl rfl rfl) <| .cons (.bu [(0, .const (.string ⟨#[65]⟩)), (1, .tmp 21)] [(0, 1), (1, 1)] [.string ByteArray.empty, .slice none 0 0] rfl rfl rfl rfl rfl) <| .cons (.bu [(0, .const (.int .i64 (1))), (1, .const (.int .i64 (1)))] [(0, 1), (1, 1), (2, 2), (4, 2), (6, 1)] [.int .i64 0, .int .i64 0, .slice none 0 0, .int .i64 0, .string ByteArray.empty, .slice none 0 0, .slice none 0 0] rfl rfl rfl rfl rfl) <| .cons (.bu [(0, .tmp 22), (1, .tmp 23)] [(0, 2), (2, 7)] [.string ByteArray.empty, .slice none 0 0, .int .i64 0, .int .i64 0, .slice none 0 0, .int .i64 0, .string ByteArray.empty, .slice none 0 0, .slice none 0 0] rfl rfl rfl rfl rfl) <| .cons (.sT 9 true rfl rfl rfl rfl rfl rfl rfl) <| .nil <| ks_n <| .ret ?_
  refine kf_wret [(.t 4, .v (.o (.c (.box 100 9 0 0)))), (.b 0, .b 48 2 (dR ([rRd bs (valG bs (leafD bs d) 4 [4, 6, 5, 4] L ((elemD bs d p).2 + 1)).2]))), (.u 0, .u), (.b 100, .b 79 9 [[.d (dS ⟨#[65]⟩), .d (dAs [zA]), .d (dI 1), .d (dI 1), .d (dIs []), .d (dI 0), .d (dS ByteArray.empty), .d (dAs []), .d (dEs [])]]), (.u 100, .u)] (Wk.keep [(0, 0), (100, 104)] rfl rfl ⟨ks rfl (.c .bx), kb 0 rfl (.dt rfl), kb 104 rfl (.cons (.cons .dt (.cons .dt (.cons .dt (.cons .dt (.cons (Cto.nil _) (.cons .dt (.cons .dt (.cons (Cto.nil _) (.cons (Cto.nil _) Ctos.nil))))))))) .nil), trivial⟩) rfl ?_ (hbR_box rfl)
  rfl
end Go.Proofs.Ytlelonbakckkgaa
