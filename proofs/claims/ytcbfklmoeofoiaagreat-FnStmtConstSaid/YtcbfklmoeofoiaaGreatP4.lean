/- Part 4 of 6 of the proof: laws on memory and data, then what the functions compute, in the order in which they build on each other; conditions: those that each theorem names. -/
import Derived.SizedLaws
import Derived.Laws.MakeOwn
import Derived.Test.YtcbfklmoeofoiaaGreatP3

namespace Go.Proofs.YtcbfklmoeofoiaaGreat
set_option linter.unusedVariables false
set_option linter.unusedSimpArgs false
open Go.RowKit
theorem op_two {d L : Nat} {e : Ex} (h : exV d L e = true) (hk : 4 ≤ e.k ∧ e.k ≤ 6) : ∃ x y, e.ks = [x, y] := by
  cases L with
  | zero => cases h
  | succ L =>
    rw [exV, Bool.and_eq_true, Bool.and_eq_true] at h
    have h1 := h.1.1
    rw [kidV, if_neg (by omega), if_pos hk] at h1
    exact two_of (of_decide_eq_true h1)

set_option maxRecDepth 100000 in
set_option maxHeartbeats 1600000 in
theorem idx_acc {f : FuncId} {cap : List (List D)} (hc : callable Tryz.prog f = true) (p : Acc → Bool) (xs : List Acc) (hx : xs.length ≤ 1099511627776) (hf : ∀ x ∈ xs, Fn Tryz.prog f [] (ad (rC x) :: cap.map fun c => .c (.ptr c)) (.o (bo1 (p x))) []) : Fn Tryz.prog 98 [] [vD (dCs xs), .c (.fn f cap)] (.o (nat1 (idxF p xs))) [] := by
 refine Fn.code0 Tryz.func98 rfl rfl rfl rfl ?_
 refine ACode.seq ?_
 refine ACode.region ?_
 refine .cons (.asg rfl rfl) ?_
 refine .nil ?_
 refine ks_n ?_
 refine ACode.seq ?_
 refine ACode.seq ?_
 refine ACode.region ?_
 refine .cons (.mv rfl rfl) ?_
 refine .cons (.ln 25 2 40 rfl rfl rfl) ?_
 refine .cons (.mv rfl rfl) ?_
 refine .nil ?_
 refine ks_n ?_
 refine ACode.block ?_
 refine .loopK (fun m σ => (∃ i : Nat, m = xs.length - i ∧ (i ≤ xs.length) ∧ (idxF p xs = idxG p i (xs.drop i)) ∧ σ = [(.t 0, .v (.o (vD (dCs xs)))), (.t 1, .v (.o (.c (.fn f cap)))), (.t 7, .v (.o (nat1 (xs.length : Nat)))), (.t 8, .v (.o (nat1 (i : Nat))))])) [] ⟨0, rfl, by omega, rfl, rfl⟩ ⟨ks rfl .dt, ks rfl .dt, ks rfl .dt, ks rfl .dt, trivial⟩ ?_
 rintro m σ ⟨i, hm0, hi, hF, rfl⟩
 refine ACode.seq ?_
 refine ACode.region ?_
 refine .cons (.ls rfl rfl rfl) ?_
 refine .nil ?_
 refine ks_n ?_
 refine ACode.seq ?_
 refine .cD rfl (fun h9 => ?_) (fun h9 => ?_)
 ·skip
  obtain ⟨x, hx1⟩ : ∃ x, xs[i]? = some x := ⟨_, List.getElem?_eq_getElem (by omega)⟩
  refine ACode.skip ?_
  refine ks_n ?_
  refine ACode.seq ?_
  refine ACode.block ?_
  refine ACode.seq ?_
  refine ACode.region ?_
  refine .cons (.mv rfl rfl) ?_
  refine .cons (.asg rfl rfl) ?_
  refine .nil ?_
  refine ks_n ?_
  refine ACode.seq ?_
  refine ACode.region ?_
  refine .cons (.mv rfl rfl) ?_
  refine .cons (.mv rfl rfl) ?_
  refine .cons (.mv rfl rfl) ?_
  refine .cons (.xL 25 2 40 rfl rfl rfl rfl rfl) ?_
  refine .cons (.lN 2 rfl rfl rfl) ?_
  refine .cons (.cP [.tmp 15] rfl rfl rfl rfl (hf x (List.mem_of_getElem? hx1)) rfl hc) ?_
  refine .nil ?_
  refine ks_n ?_
  refine ACode.condT rfl (fun h16 => ?_) (fun h16 => ?_)
  ·try simp only [zs1, zs2, zs3, zs4, zs5, zs6, zs7] at h16
   refine ACode.seq ?_
   refine ACode.region ?_
   refine .cons (.mv rfl rfl) ?_
   refine .cons (.asg rfl rfl) ?_
   refine .nil ?_
   refine ks_n ?_
   refine ACode.ret ?_
   refine kb_r ?_
   refine ks_r ?_
   refine kl_r ?_
   refine kb_r ?_
   refine ks_r ?_
   refine kf_ret rfl ?_ nobox
   exact leafI (by rw [hF, idxG_drop hx1, h16]; rfl)
  ·try simp only [zs1, zs2, zs3, zs4, zs5, zs6, zs7] at h16
   refine ACode.skip ?_
   refine kb_n ?_
   refine ks_n ?_
   refine ACode.region ?_
   refine .cons (.pl rfl rfl rfl) ?_
   refine .cons (.mv rfl rfl) ?_
   refine .nil ?_
   refine kl_k [] ⟨i + 1, rfl, by omega, by rw [hF, idxG_drop hx1, h16]; rfl, rfl⟩ ⟨ks rfl .dt, ks rfl .dt, ks rfl .dt, ks rfl .dt, trivial⟩
 ·skip
  refine ACode.exit ?_
  refine ks_e ?_
  refine kl_e ?_
  refine kb_hit ?_
  refine ks_n ?_
  refine ACode.seq ?_
  refine ACode.region ?_
  refine .cons (.asg rfl rfl) ?_
  refine .nil ?_
  refine ks_n ?_
  refine ACode.ret ?_
  refine kf_ret rfl ?_ nobox
  exact leafI (by rw [hF, List.drop_of_length_le (by omega)]; rfl)

set_option maxRecDepth 100000 in
set_option maxHeartbeats 1600000 in
theorem cnt_acc {f : FuncId} {cap : List (List D)} (hc : callable Tryz.prog f = true) (p : Acc → Bool) (xs : List Acc) (hx : xs.length ≤ 1099511627776) (hf : ∀ x ∈ xs, Fn Tryz.prog f [] (ad (rC x) :: cap.map fun c => .c (.ptr c)) (.o (bo1 (p x))) []) : Fn Tryz.prog 86 [] [vD (dCs xs), .c (.fn f cap)] (.o (bo1 (xs.any p))) [] := by
 refine Fn.code0 Tryz.func86 rfl rfl rfl rfl ?_
 refine ACode.seq ?_
 refine ACode.region ?_
 refine .cons (.asg rfl rfl) ?_
 refine .nil ?_
 refine ks_n ?_
 refine ACode.seq ?_
 refine ACode.region ?_
 refine .cons (.mv rfl rfl) ?_
 refine .cons (.mv rfl rfl) ?_
 refine .cons (.cP [.tmp 5, .tmp 6] rfl rfl rfl rfl (idx_acc hc p xs hx hf) rfl) ?_
 refine .cons (.ge rfl rfl rfl) ?_
 refine .cons (.asg rfl rfl) ?_
 refine .nil ?_
 refine ks_n ?_
 refine ACode.ret ?_
 refine kf_ret rfl ?_ nobox
 exact leafB idxG_any

theorem fld_aff {d : Nat} {e : Ex} (h : fldV d e.k e.n e.i e.r = true) : (e.k = 2 → bndV d e.i = true) ∧ (e.k = 3 → ∀ x ∈ e.r.2, bndV d x = true) := by
  unfold fldV at h
  refine ⟨fun hk => ?_, fun hk x hx => ?_⟩
  · rw [if_neg (by omega), if_pos hk] at h
    simp only [Bool.and_eq_true] at h
    rw [bndV]; exact Bool.and_eq_true_iff.2 h.1.2
  · rw [if_neg (by omega), if_neg (by omega), if_pos hk] at h
    simp only [Bool.and_eq_true, accV, sideV] at h
    exact List.all_eq_true.1 h.2.2.1.1 x hx
/-- The statement without anything. -/
def zS : Stm := ((ByteArray.empty, []), .mk 0 0 ([], 0) (ByteArray.empty, []) [])



/-- An array, a part, a program, an instance. -/
abbrev Arr := ByteArray × List Int
def rR (a : Arr) : List D := [dS a.1, dIs a.2]
def dRs (l : List Arr) : D := .list 2 (l.map rR)
def dMs (l : List Stm) : D := .list 9 (l.map rS)
abbrev Prt := List Lp × List Stm
def rP (p : Prt) : List D := [dLs p.1, dMs p.2]
def dPts (l : List Prt) : D := .list 2 (l.map rP)
abbrev Prg := List Arr × List Prt
def rG (g : Prg) : List D := [dRs g.1, dPts g.2]
abbrev Ins := Int × Int × List Int
def rN (x : Ins) : List D := [dI x.1, dI x.2.1, dIs x.2.2]
def dNs (l : List Ins) : D := .list 3 (l.map rN)

/-- Arrays: names in order, dimensions within the limits. -/
def dimV (n : Int) : Bool := inB n 1 6
def arrOk (a : Arr) : Bool := arrV a.1 && (decide (1 ≤ a.2.length ∧ a.2.length ≤ 2) && a.2.all dimV)
def lastV (l : List Arr) (i : Nat) (a : Arr) : Bool := match l[i]? with | some b => sLt b.1 a.1 | none => true
def arrAt (l : List Arr) (i : Nat) : Bool := match l[i]? with
  | none => true
  | some a => arrOk a && (decide (i = 0) || lastV l (i - 1) a)
def arrsV (l : List Arr) : Bool := (List.range l.length).all (arrAt l) && decide (l.length ≤ 4)
theorem arrAt_eq {l : List Arr} {i : Nat} {a : Arr} (h : l[i]? = some a) : arrAt l i = (arrOk a && (decide (i = 0) || lastV l (i - 1) a)) := by rw [arrAt, h]
theorem lastV_eq {l : List Arr} {i : Nat} {a b : Arr} (h : l[i]? = some b) : lastV l i a = sLt b.1 a.1 := by rw [lastV, h]
theorem arrsV_bad {l : List Arr} {i : Nat} (hi : i < l.length) (h : arrAt l i = false) : arrsV l = false := by
  rw [arrsV, Bool.and_eq_false_iff]
  refine .inl (Bool.eq_false_iff.2 fun h2 => ?_)
  have := List.all_eq_true.1 h2 i (List.mem_range.2 hi)
  rw [h] at this; cases this
theorem arrsV_end {l : List Arr} (h : ∀ j, j < l.length → arrAt l j = true) : arrsV l = decide (l.length ≤ 4) := by
  rw [arrsV, show (List.range l.length).all (arrAt l) = true from List.all_eq_true.2 fun j hj => h j (List.mem_range.1 hj), Bool.true_and]
theorem arrsV_at {l : List Arr} (h : arrsV l = true) {a : Arr} (ha : a ∈ l) : arrOk a = true := by
  obtain ⟨i, hi⟩ := List.mem_iff_getElem?.1 ha
  rw [arrsV, Bool.and_eq_true] at h
  have := List.all_eq_true.1 h.1 i (List.mem_range.2 (List.getElem?_eq_some_iff.1 hi).1)
  rw [arrAt_eq hi, Bool.and_eq_true] at this
  exact this.1
theorem arrsV_len {l : List Arr} (h : arrsV l = true) : l.length ≤ 4 := by
  rw [arrsV, Bool.and_eq_true] at h; exact of_decide_eq_true h.2
theorem arrOk_at {a : Arr} (h : arrOk a = true) : (1 ≤ a.2.length ∧ a.2.length ≤ 2) ∧ ∀ d ∈ a.2, 1 ≤ d ∧ d ≤ 6 := by
  rw [arrOk, Bool.and_eq_true, Bool.and_eq_true] at h
  exact ⟨of_decide_eq_true h.2.1, fun d hd => of_decide_eq_true (List.all_eq_true.1 h.2.2 d hd)⟩
/-- A product of k numbers from 1 to 6 at the most. -/
def B6 (k : Nat) (n : Int) : Prop := 0 ≤ n ∧ ((k = 0 ∧ n ≤ 1) ∨ (k = 1 ∧ n ≤ 6) ∨ (k = 2 ∧ n ≤ 36))
theorem B6.bd {k : Nat} {n : Int} (h : B6 k n) : 0 ≤ n ∧ n ≤ 36 := by unfold B6 at h; omega
theorem mul_b6 {n d A : Int} (h0 : 0 ≤ n) (h1 : n ≤ A) (h2 : 0 ≤ d) (h3 : d ≤ 6) : 0 ≤ n * d ∧ n * d ≤ A * 6 :=
  ⟨Int.mul_nonneg h0 h2, Int.le_trans (Int.mul_le_mul_of_nonneg_right h1 h2) (Int.mul_le_mul_of_nonneg_left h3 (Int.le_trans h0 h1))⟩
theorem B6.mul {k : Nat} {n d : Int} (h : B6 k n) (hd : 1 ≤ d ∧ d ≤ 6) (hk : k < 2) : B6 (k + 1) (n * d) := by
  obtain ⟨h0, h | h | h⟩ := h
  · have := mul_b6 h0 h.2 (by omega) hd.2; unfold B6; omega
  · have := mul_b6 h0 h.2 (by omega) hd.2; unfold B6; omega
  · omega
theorem B6.at {k : Nat} {n d v : Int} (h0 : 0 ≤ n) (h : B6 k (n + 1)) (hd : 1 ≤ d ∧ d ≤ 6) (hk : k < 2) (hv : 0 ≤ v ∧ v ≤ d - 1) : 0 ≤ n * d ∧ n * d + v + 1 ≤ 36 ∧ 0 ≤ n * d + v ∧ B6 (k + 1) (n * d + v + 1) := by
  have h1 := h.mul hd hk
  have e : (n + 1) * d = n * d + d := by rw [Int.add_mul, Int.one_mul]
  rw [e] at h1
  have h2 := Int.mul_nonneg h0 (show 0 ≤ d by omega)
  have h3 := h1.bd
  refine ⟨h2, by omega, by omega, ?_⟩
  unfold B6 at h1 ⊢; omega
def sizeF (n : Int) (l : List Int) : Int := l.foldl (· * ·) n
def sizeA (l : List Int) : Int := sizeF 1 l
theorem sizeF_drop {l : List Int} {i : Nat} {d : Int} {n : Int} (h : l[i]? = some d) : sizeF n (l.drop i) = sizeF (n * d) (l.drop (i + 1)) := by
  obtain ⟨hi, rfl⟩ := List.getElem?_eq_some_iff.1 h
  rw [List.drop_eq_getElem_cons hi]; rfl
theorem sizeF_end {l : List Int} {i : Nat} {n : Int} (h : l.length ≤ i) : sizeF n (l.drop i) = n := by rw [List.drop_of_length_le h]; rfl
theorem sizeA_bd {a : Arr} (h : arrOk a = true) : 0 ≤ sizeA a.2 ∧ sizeA a.2 ≤ 36 := by
  obtain ⟨h1, h2⟩ := arrOk_at h
  have key : ∀ (l : List Int) (k : Nat) (n : Int), B6 k n → k + l.length ≤ 2 → (∀ d ∈ l, 1 ≤ d ∧ d ≤ 6) → 0 ≤ sizeF n l ∧ sizeF n l ≤ 36 := by
    intro l
    induction l with
    | nil => intro k n hb _ _; exact hb.bd
    | cons d l ih =>
      intro k n hb hk hd
      rw [List.length_cons] at hk
      exact ih (k + 1) (n * d) (hb.mul (hd d (by simp)) (by omega)) (by omega) fun d hd' => hd d (by simp [hd'])
  exact key a.2 0 1 (by unfold B6; omega) (by omega) h2
/-- The place of an element within its array, or -1. -/
def atG (p : List Int) : List Int → List Aff → Int → Int
  | d :: ds, s :: ss, n => if inB (affEval s p) 0 (d - 1) = true then atG p ds ss (n * d + affEval s p) else -1
  | _, _, n => n
theorem atG_yes {p : List Int} {ds : List Int} {ss : List Aff} {i : Nat} {d : Int} {s : Aff} {n : Int} (hd : ds[i]? = some d) (hs : ss[i]? = some s) (h : inB (affEval s p) 0 (d - 1) = true) : atG p (ds.drop i) (ss.drop i) n = atG p (ds.drop (i + 1)) (ss.drop (i + 1)) (n * d + affEval s p) := by
  obtain ⟨hi, rfl⟩ := List.getElem?_eq_some_iff.1 hd
  obtain ⟨hj, rfl⟩ := List.getElem?_eq_some_iff.1 hs
  rw [List.drop_eq_getElem_cons hi, List.drop_eq_getElem_cons hj, atG, if_pos h]
theorem atG_no {p : List Int} {ds : List Int} {ss : List Aff} {i : Nat} {d : Int} {s : Aff} {n : Int} (hd : ds[i]? = some d) (hs : ss[i]? = some s) (h : ¬ inB (affEval s p) 0 (d - 1) = true) : atG p (ds.drop i) (ss.drop i) n = -1 := by
  obtain ⟨hi, rfl⟩ := List.getElem?_eq_some_iff.1 hd
  obtain ⟨hj, rfl⟩ := List.getElem?_eq_some_iff.1 hs
  rw [List.drop_eq_getElem_cons hi, List.drop_eq_getElem_cons hj, atG, if_neg h]
theorem atG_end {p : List Int} {ds : List Int} {ss : List Aff} {i : Nat} {n : Int} (h : ss.length ≤ i) : atG p (ds.drop i) (ss.drop i) n = n := by
  rw [List.drop_of_length_le h, atG]; intros; contradiction
def cellG (a : Acc) (p : List Int) : List Arr → Int → Int
  | [], _ => -1
  | x :: l, base => if sEq x.1 a.1 = true then (if a.2.length = x.2.length then (if atG p x.2 a.2 0 = -1 then -1 else base + atG p x.2 a.2 0) else -1) else cellG a p l (base + sizeA x.2)
theorem cellG_next {a : Acc} {p : List Int} {l : List Arr} {i : Nat} {x : Arr} {b : Int} (hx : l[i]? = some x) (h : sEq x.1 a.1 = false) : cellG a p (l.drop i) b = cellG a p (l.drop (i + 1)) (b + sizeA x.2) := by
  obtain ⟨hi, rfl⟩ := List.getElem?_eq_some_iff.1 hx
  rw [List.drop_eq_getElem_cons hi, cellG, if_neg (by rw [h]; simp)]
theorem cellG_len {a : Acc} {p : List Int} {l : List Arr} {i : Nat} {x : Arr} {b : Int} (hx : l[i]? = some x) (h : sEq x.1 a.1 = true) (hl : ¬ a.2.length = x.2.length) : cellG a p (l.drop i) b = -1 := by
  obtain ⟨hi, rfl⟩ := List.getElem?_eq_some_iff.1 hx
  rw [List.drop_eq_getElem_cons hi, cellG, if_pos h, if_neg hl]
theorem cellG_at {a : Acc} {p : List Int} {l : List Arr} {i : Nat} {x : Arr} {b : Int} (hx : l[i]? = some x) (h : sEq x.1 a.1 = true) (hl : a.2.length = x.2.length) : cellG a p (l.drop i) b = if atG p x.2 a.2 0 = -1 then -1 else b + atG p x.2 a.2 0 := by
  obtain ⟨hi, rfl⟩ := List.getElem?_eq_some_iff.1 hx
  rw [List.drop_eq_getElem_cons hi, cellG, if_pos h, if_pos hl]
theorem cellG_end {a : Acc} {p : List Int} {l : List Arr} {i : Nat} {b : Int} (h : l.length ≤ i) : cellG a p (l.drop i) b = -1 := by rw [List.drop_of_length_le h]; rfl
def accG (ar : List Arr) (p : List Int) (a : Acc) : Bool := decide (0 ≤ cellG a p ar 0)
def stmG (ar : List Arr) (s : Stm) (p : List Int) : Bool := accG ar p s.1 && (rdE s.2).all (accG ar p)
def ptG' (ar : List Arr) (b : List Stm) (p : List Int) : Bool := isPt p && b.all fun s => stmG ar s p
def prtV (ar : List Arr) (q : Prt) : Bool := okP q.1 && (decide (1 ≤ q.2.length ∧ q.2.length ≤ 4) && (q.2.all (stmtV (q.1.length : Nat)) && (npR q.1).all (ptG' ar q.2)))
theorem prtV_eq {ar : List Arr} {q : Prt} (h1 : okP q.1 = true) (h2 : 1 ≤ q.2.length ∧ q.2.length ≤ 4) (h3 : q.2.all (stmtV (q.1.length : Nat)) = true) : prtV ar q = (npR q.1).all (ptG' ar q.2) := by
  rw [prtV, h1, decide_eq_true h2, h3]; rfl
theorem prtV_iff {ar : List Arr} {q : Prt} : prtV ar q = true ↔ okP q.1 = true ∧ (1 ≤ q.2.length ∧ q.2.length ≤ 4) ∧ (∀ s ∈ q.2, stmtV (q.1.length : Nat) s = true) ∧ ∀ p ∈ npR q.1, isPt p = true ∧ ∀ s ∈ q.2, stmG ar s p = true := by
  simp only [prtV, ptG', Bool.and_eq_true, decide_eq_true_eq, List.all_eq_true]
theorem prtV_f1 {ar : List Arr} {q : Prt} (h : okP q.1 = false) : prtV ar q = false := by rw [prtV, h]; rfl
theorem prtV_f2 {ar : List Arr} {q : Prt} (h : ¬ (1 ≤ q.2.length ∧ q.2.length ≤ 4)) : prtV ar q = false := Bool.eq_false_iff.2 fun h2 => h (prtV_iff.1 h2).2.1
theorem prtV_f3 {ar : List Arr} {q : Prt} {s : Stm} (hs : s ∈ q.2) (h : stmtV (q.1.length : Nat) s = false) : prtV ar q = false := Bool.eq_false_iff.2 fun h2 => by
  have := (prtV_iff.1 h2).2.2.1 s hs; rw [h] at this; cases this
theorem prtV_f4 {ar : List Arr} {q : Prt} {p : List Int} (hp : p ∈ npR q.1) (h : isPt p = false) : prtV ar q = false := Bool.eq_false_iff.2 fun h2 => by
  have := ((prtV_iff.1 h2).2.2.2 p hp).1; rw [h] at this; cases this
theorem prtV_f5 {ar : List Arr} {q : Prt} {p : List Int} {s : Stm} (hp : p ∈ npR q.1) (hs : s ∈ q.2) (h : stmG ar s p = false) : prtV ar q = false := Bool.eq_false_iff.2 fun h2 => by
  have := ((prtV_iff.1 h2).2.2.2 p hp).2 s hs; rw [h] at this; cases this
/-- The instances. -/
def rowI (k m : Nat) (p : List Int) : List Ins := (List.range m).map fun (i : Nat) => ((k : Int), (i : Int), p)
def insT (k m : Nat) (l : Pts) : List Ins := l.flatMap (rowI k m)
def insP (k : Nat) (q : Prt) : List Ins := insT k q.2.length (npR q.1)
def insG : Nat → List Prt → List Ins
  | _, [] => []
  | k, q :: l => insP k q ++ insG (k + 1) l
theorem rowI_snoc {k m : Nat} {p : List Int} : rowI k (m + 1) p = rowI k m p ++ [((k : Int), (m : Int), p)] := by rw [rowI, List.range_succ, List.map_append]; rfl
theorem rowI_zero {k : Nat} {p : List Int} : rowI k 0 p = [] := rfl
theorem insT_take {k m : Nat} {l : Pts} {i : Nat} {p : List Int} (h : l[i]? = some p) : insT k m (l.take (i + 1)) = insT k m (l.take i) ++ rowI k m p := by
  rw [List.take_add_one, h, insT, List.flatMap_append]; simp [insT]
theorem insG_app : ∀ (l : List Prt) (n : Nat) (q : Prt), insG n (l ++ [q]) = insG n l ++ insP (n + l.length) q
  | [], n, q => by simp [insG]
  | x :: l, n, q => by
    rw [List.cons_append, insG, insG, insG_app l (n + 1) q, List.append_assoc, List.length_cons, show n + 1 + l.length = n + (l.length + 1) by omega]
theorem insG_take {l : List Prt} {i : Nat} {q : Prt} (h : l[i]? = some q) : insG 0 (l.take (i + 1)) = insG 0 (l.take i) ++ insP i q := by
  have hi := (List.getElem?_eq_some_iff.1 h).1
  rw [List.take_add_one, h, Option.toList_some, insG_app, List.length_take, Nat.min_eq_left (by omega), Nat.zero_add]
def prgS (g : Prg) : Bool := arrsV g.1 && (decide (g.2.length ≤ 4) && g.2.all (prtV g.1))
def insV (g : Prg) : List Ins := if prgS g = true then insG 0 g.2 else []
def prgV (g : Prg) : Bool := prgS g && decide ((insG 0 g.2).length ≤ 120)
theorem prgS_f1 {g : Prg} (h : arrsV g.1 = false) : prgS g = false := by rw [prgS, h]; rfl
theorem prgS_f2 {g : Prg} (h : ¬ g.2.length ≤ 4) : prgS g = false := by rw [prgS, decide_eq_false h]; cases arrsV g.1 <;> rfl
theorem prgS_f3 {g : Prg} {q : Prt} (hq : q ∈ g.2) (h : prtV g.1 q = false) : prgS g = false := Bool.eq_false_iff.2 fun h2 => by
  rw [prgS, Bool.and_eq_true, Bool.and_eq_true] at h2
  have := List.all_eq_true.1 h2.2.2 q hq; rw [h] at this; cases this
theorem prgS_eq {g : Prg} (h1 : arrsV g.1 = true) (h2 : g.2.length ≤ 4) (h3 : ∀ j q, j < g.2.length → g.2[j]? = some q → prtV g.1 q = true) : prgS g = true := by
  rw [prgS, h1, decide_eq_true h2, List.all_eq_true.2]; · rfl
  intro q hq
  obtain ⟨j, hj⟩ := List.mem_iff_getElem?.1 hq
  exact h3 j q (List.getElem?_eq_some_iff.1 hj).1 hj
theorem prgS_iff {g : Prg} : prgS g = true ↔ arrsV g.1 = true ∧ g.2.length ≤ 4 ∧ ∀ q ∈ g.2, prtV g.1 q = true := by
  simp only [prgS, Bool.and_eq_true, decide_eq_true_eq, List.all_eq_true]
theorem prgV_f {g : Prg} (h : prgS g = false) : prgV g = false ∧ insV g = [] := ⟨by rw [prgV, h]; rfl, if_neg (by rw [h]; simp)⟩
theorem prgV_t {g : Prg} (h : prgS g = true) : prgV g = decide ((insG 0 g.2).length ≤ 120) ∧ insV g = insG 0 g.2 := ⟨by rw [prgV, h]; rfl, if_pos h⟩
theorem prgV_s {g : Prg} (h : prgV g = true) : prgS g = true ∧ insV g = insG 0 g.2 ∧ (insG 0 g.2).length ≤ 120 := by
  rw [prgV, Bool.and_eq_true] at h
  exact ⟨h.1, (prgV_t h.1).2, of_decide_eq_true h.2⟩
theorem insG_mem {x : Ins} : ∀ {l : List Prt} {n : Nat}, x ∈ insG n l → ∃ k q i, l[k]? = some q ∧ x.1 = ((n + k : Nat) : Int) ∧ x.2.1 = ((i : Nat) : Int) ∧ i < q.2.length ∧ x.2.2 ∈ npR q.1
  | [], n, h => by cases h
  | q :: l, n, h => by
    rw [insG, List.mem_append] at h
    rcases h with h | h
    · rw [insP, insT, List.mem_flatMap] at h
      obtain ⟨p, hp, h⟩ := h
      rw [rowI, List.mem_map] at h
      obtain ⟨i, hi, rfl⟩ := h
      exact ⟨0, q, i, rfl, rfl, rfl, List.mem_range.1 hi, hp⟩
    · obtain ⟨k, q', i, h1, h2, h3, h4, h5⟩ := insG_mem h
      exact ⟨k + 1, q', i, h1, by rw [h2]; congr 1; omega, h3, h4, h5⟩
section
variable {P : Program} {n : Nat} {ops : Array Oper} {o : Oper} {σ : St} {d : Nat} {t t2 : TypeId} {x y : Operand} {a b : ByteArray}
end

theorem arrOk_eq (a : Arr) : arrOk a = (arrV a.1 && (inB (a.2.length : Nat) 1 2 && !(a.2.any fun n => !dimV n))) := by
  rw [arrOk, inB]
  congr 1
  congr 1
  · rw [decide_eq_decide]; omega
  · rw [List.any_eq_not_all_not, Bool.not_not]; simp

set_option maxRecDepth 100000 in
set_option maxHeartbeats 1600000 in
theorem arr1_fn (n : Int) : Fn Tryz.prog 82 [] [nat1 n] (.o (bo1 (!dimV n))) [] := by
 refine Fn.code0 Tryz.func82 rfl rfl rfl rfl ?_
 refine ACode.seq ?_
 refine ACode.region ?_
 refine .cons (.asg rfl rfl) ?_
 refine .nil ?_
 refine ks_n ?_
 refine ACode.seq ?_
 refine ACode.region ?_
 refine .cons (.mv rfl rfl) ?_
 refine .cons (.cP [.tmp 3, .const (.int .i64 (1)), .const (.int .i64 (6))] rfl rfl rfl rfl (within_fn _ 1 6) rfl) ?_
 refine .cons (.nt rfl rfl) ?_
 refine .cons (.asg rfl rfl) ?_
 refine .nil ?_
 refine ks_n ?_
 refine ACode.ret ?_
 refine kf_ret rfl ?_ nobox
 first | rfl | exact leafB (by rw [dimV])

set_option maxRecDepth 100000 in
set_option maxHeartbeats 1600000 in
theorem arraysOk_fn (ar : List Arr) (hl : ar.length ≤ 1099511627776) (hq : ∀ x ∈ ar, x.2.length ≤ 1099511627776) : Fn Tryz.prog 55 [] [vD (dRs ar)] (.o (bo1 (arrsV ar))) [] := by
 refine Fn.code0 Tryz.func55 rfl rfl rfl rfl ?_
 refine ACode.seq ?_
 refine ACode.region ?_
 refine .cons (.asg rfl rfl) ?_
 refine .nil ?_
 refine ks_n ?_
 refine ACode.seq ?_
 refine ACode.seq ?_
 refine ACode.region ?_
 refine .cons (.mv rfl rfl) ?_
 refine .cons (.ln 38 2 40 rfl rfl rfl) ?_
 refine .cons (.mv rfl rfl) ?_
 refine .nil ?_
 refine ks_n ?_
 refine ACode.block ?_
 refine .loopK (fun m σ => (∃ i : Nat, m = ar.length - i ∧ (i ≤ ar.length) ∧ (∀ j, j < i → arrAt ar j = true) ∧ σ = [(.t 0, .v (.o (vD (dRs ar)))), (.t 2, .v (.o (bo1 false))), (.t 5, .v (.o (vD (dRs ar)))), (.t 6, .v (.o (nat1 (ar.length : Nat)))), (.t 7, .v (.o (nat1 (i : Nat))))])) [] ⟨0, rfl, by omega, fun j hj => absurd hj (by omega), rfl⟩ ⟨ks rfl .dt, ks rfl .dt, ks rfl .dt, ks rfl .dt, ks rfl .dt, trivial⟩ ?_
 rintro m σ ⟨i, hm0, hi, hF, rfl⟩
 refine ACode.seq ?_
 refine ACode.region ?_
 refine .cons (.ls rfl rfl rfl) ?_
 refine .nil ?_
 refine ks_n ?_
 refine ACode.seq ?_
 refine .cD rfl (fun h8 => ?_) (fun h8 => ?_)
 ·skip
  obtain ⟨x, hx1⟩ : ∃ x_, ar[i]? = some x_ := ⟨_, List.getElem?_eq_getElem (by omega)⟩
  have hA := arrAt_eq hx1
  refine ACode.skip ?_
  refine ks_n ?_
  refine ACode.seq ?_
  refine ACode.block ?_
  refine ACode.seq ?_
  refine ACode.region ?_
  refine .cons (.mv rfl rfl) ?_
  refine .cons (.xL 38 2 40 rfl rfl rfl rfl rfl) ?_
  refine .cons (.lN 2 rfl rfl rfl) ?_
  refine .cons (.al 104 [.string ByteArray.empty, .slice none 0 0] rfl rfl rfl) ?_
  refine .cons (.asg rfl rfl) ?_
  refine .cons (.sT 2 true rfl rfl rfl rfl rfl rfl rfl) ?_
  refine .nil ?_
  refine ks_n ?_
  refine ACode.seq ?_
  refine ACode.drawK (by kernel_rfl) (by kernel_rfl) ?_
  refine .cons (.fB 0 0 false rfl rfl rfl) ?_
  refine .cons (.b1 1 rfl rfl rfl rfl rfl rfl) ?_
  refine .cons (.cP [.tmp 13] rfl rfl rfl rfl (isArray_fn _) rfl) ?_
  refine .cons (.nt rfl rfl) ?_
  refine .cons (.mv rfl rfl) ?_
  refine RunK.cases 16 _ rfl (fun g16 => ?_) (fun g16 => ?_)
  ·try simp only [zs1, zs2, zs3, zs4, zs5, zs6, zs7] at g16
   refine .cons (.gF rfl rfl rfl) ?_
   refine .cons (.gF rfl rfl rfl) ?_
   refine .cons (.gF rfl rfl rfl) ?_
   refine .cons (.gU rfl rfl) ?_
   refine .cons (.gU rfl rfl) ?_
   refine .cons (.gU rfl rfl) ?_
   refine .cons (.gU rfl rfl) ?_
   refine .cons (.gU rfl rfl) ?_
   refine .cons (.gU rfl rfl) ?_
   refine .cons (.gU rfl rfl) ?_
   refine .cons (.gU rfl rfl) ?_
   refine .cons (.gU rfl rfl) ?_
   refine .cons (.gF rfl rfl rfl) ?_
   refine .cons (.pT rfl rfl rfl) ?_
   refine .cons (.mv rfl rfl) ?_
   refine .cons (.gF rfl rfl rfl) ?_
   refine .cons (.gF rfl rfl rfl) ?_
   refine .cons (.gF rfl rfl rfl) ?_
   refine .cons (.gF rfl rfl rfl) ?_
   refine .cons (.gF rfl rfl rfl) ?_
   refine .cons (.pT rfl rfl rfl) ?_
   refine .cons (.mv rfl rfl) ?_
   refine .cons (.gF rfl rfl rfl) ?_
   refine .cons (.gF rfl rfl rfl) ?_
   refine .cons (.gF rfl rfl rfl) ?_
   refine .cons (.pT rfl rfl rfl) ?_
   refine .nil ⟨by kernel_rfl, ?_⟩
   refine ks_n ?_
   refine ACode.condT rfl (fun _ => ?_) (fun h => by first | (cases h; done) | (simp [*] at h; done) | (exfalso; simp_all; done))
   refine ACode.seq ?_
   refine ACode.region ?_
   refine .cons (.asg rfl rfl) ?_
   refine .nil ?_
   refine ks_n ?_
   refine ACode.ret ?_
   refine kb_r ?_
   refine ks_r ?_
   refine kl_r ?_
   refine kb_r ?_
   refine ks_r ?_
   refine kf_ret rfl ?_ nobox
   exact leafB (arrsV_bad (i := i) (by omega) (by rw [hA, arrOk_eq]; first | (simp_all; done) | (simp_all; omega) | grind)).symm
  ·try simp only [zs1, zs2, zs3, zs4, zs5, zs6, zs7] at g16
   refine .cons (.gT rfl rfl rfl (.mv rfl rfl)) ?_
   refine .cons (.gT rfl rfl rfl (.gt rfl rfl rfl)) ?_
   refine .cons (.gT rfl rfl rfl (.mv rfl rfl)) ?_
   refine .cD 19 rfl (fun g19 => ?_) (fun g19 => ?_)
   ·skip
    obtain ⟨y, hy1⟩ : ∃ x_, ar[i - 1]? = some x_ := ⟨_, List.getElem?_eq_getElem (by omega)⟩
    have hB := lastV_eq (a := x) hy1
    refine .cons (.gT rfl rfl rfl (.mv rfl rfl)) ?_
    refine .cons (.gT rfl rfl rfl (.mv rfl rfl)) ?_
    refine .cons (.gT rfl rfl rfl (.sb rfl rfl rfl)) ?_
    refine .cons (.gT rfl rfl rfl (.xL 38 2 40 (i := (i - 1)) rfl rfl rfl rfl (by omega) (map_at hy1))) ?_
    refine .cons (.gT rfl rfl rfl (.fP 0 0 false rfl rfl)) ?_
    refine .cons (.gT rfl rfl rfl (.l1 1 rfl rfl)) ?_
    refine .cons (.gT rfl rfl rfl (.fB 0 0 false rfl rfl rfl)) ?_
    refine .cons (.gT rfl rfl rfl (.b1 1 rfl rfl rfl rfl rfl rfl)) ?_
    refine .cons (.gT rfl rfl rfl (St1.geS rfl rfl rfl)) ?_
    refine .cons (.gT rfl rfl rfl (.pT rfl rfl rfl)) ?_
    refine .cons (.pF rfl rfl rfl) ?_
    refine .cons (.mv rfl rfl) ?_
    refine RunK.cases 31 _ rfl (fun g31 => ?_) (fun g31 => ?_)
    ·try simp only [zs1, zs2, zs3, zs4, zs5, zs6, zs7] at g31
     refine .cons (.gF rfl rfl rfl) ?_
     refine .cons (.gF rfl rfl rfl) ?_
     refine .cons (.gF rfl rfl rfl) ?_
     refine .cons (.gF rfl rfl rfl) ?_
     refine .cons (.gF rfl rfl rfl) ?_
     refine .cons (.pT rfl rfl rfl) ?_
     refine .cons (.mv rfl rfl) ?_
     refine .cons (.gF rfl rfl rfl) ?_
     refine .cons (.gF rfl rfl rfl) ?_
     refine .cons (.gF rfl rfl rfl) ?_
     refine .cons (.pT rfl rfl rfl) ?_
     refine .nil ⟨by kernel_rfl, ?_⟩
     refine ks_n ?_
     refine ACode.condT rfl (fun _ => ?_) (fun h => by first | (cases h; done) | (simp [*] at h; done) | (exfalso; simp_all; done))
     refine ACode.seq ?_
     refine ACode.region ?_
     refine .cons (.asg rfl rfl) ?_
     refine .nil ?_
     refine ks_n ?_
     refine ACode.ret ?_
     refine kb_r ?_
     refine ks_r ?_
     refine kl_r ?_
     refine kb_r ?_
     refine ks_r ?_
     refine kf_ret rfl ?_ nobox
     exact leafB (arrsV_bad (i := i) (by omega) (by rw [hA, arrOk_eq]; first | (simp_all; done) | (simp_all; omega) | grind)).symm
    ·try simp only [zs1, zs2, zs3, zs4, zs5, zs6, zs7] at g31
     refine .cons (.gT rfl rfl rfl (.fB 1 0 false rfl rfl rfl)) ?_
     refine .cons (.gT rfl rfl rfl (.b1 1 rfl rfl rfl rfl rfl rfl)) ?_
     refine .cons (.gT rfl rfl rfl (.ln 3 1 8 rfl rfl rfl)) ?_
     refine .cons (.gT rfl rfl rfl (.cP [.tmp 34, .const (.int .i64 (1)), .const (.int .i64 (2))] rfl rfl rfl rfl (within_fn _ 1 2) rfl)) ?_
     refine .cons (.gT rfl rfl rfl (.nt rfl rfl)) ?_
     refine .cons (.pF rfl rfl rfl) ?_
     refine .cons (.mv rfl rfl) ?_
     refine RunK.cases 38 _ rfl (fun g38 => ?_) (fun g38 => ?_)
     ·try simp only [zs1, zs2, zs3, zs4, zs5, zs6, zs7] at g38
      refine .cons (.gF rfl rfl rfl) ?_
      refine .cons (.gF rfl rfl rfl) ?_
      refine .cons (.gF rfl rfl rfl) ?_
      refine .cons (.pT rfl rfl rfl) ?_
      refine .nil ⟨by kernel_rfl, ?_⟩
      refine ks_n ?_
      refine ACode.condT rfl (fun _ => ?_) (fun h => by first | (cases h; done) | (simp [*] at h; done) | (exfalso; simp_all; done))
      refine ACode.seq ?_
      refine ACode.region ?_
      refine .cons (.asg rfl rfl) ?_
      refine .nil ?_
      refine ks_n ?_
      refine ACode.ret ?_
      refine kb_r ?_
      refine ks_r ?_
      refine kl_r ?_
      refine kb_r ?_
      refine ks_r ?_
      refine kf_ret rfl ?_ nobox
      exact leafB (arrsV_bad (i := i) (by omega) (by rw [hA, arrOk_eq]; first | (simp_all; done) | (simp_all; omega) | grind)).symm
     ·try simp only [zs1, zs2, zs3, zs4, zs5, zs6, zs7] at g38
      refine .cons (.gT rfl rfl rfl (.fB 1 0 false rfl rfl rfl)) ?_
      refine .cons (.gT rfl rfl rfl (.b1 1 rfl rfl rfl rfl rfl rfl)) ?_
      refine .cons (.gT rfl rfl rfl (.cP [.tmp 40, .func 82] rfl rfl rfl rfl (cnt_int (f := 82) (cap := []) (by kernel_rfl) (fun n => !dimV n) x.2 (hq x (List.mem_of_getElem? hx1)) (fun n _ => arr1_fn n)) rfl)) ?_
      refine .cons (.pF rfl rfl rfl) ?_
      refine .nil ⟨by kernel_rfl, ?_⟩
      refine ks_n ?_
      refine ACode.condT rfl (fun h42 => ?_) (fun h42 => ?_)
      ·try simp only [zs1, zs2, zs3, zs4, zs5, zs6, zs7] at h42
       refine ACode.seq ?_
       refine ACode.region ?_
       refine .cons (.asg rfl rfl) ?_
       refine .nil ?_
       refine ks_n ?_
       refine ACode.ret ?_
       refine kb_r ?_
       refine ks_r ?_
       refine kl_r ?_
       refine kb_r ?_
       refine ks_r ?_
       refine kf_ret rfl ?_ nobox
       exact leafB (arrsV_bad (i := i) (by omega) (by rw [hA, arrOk_eq]; first | (simp_all; done) | (simp_all; omega) | grind)).symm
      ·try simp only [zs1, zs2, zs3, zs4, zs5, zs6, zs7] at h42
       refine ACode.skip ?_
       refine kb_n ?_
       refine ks_n ?_
       refine ACode.region ?_
       refine .cons (.pl rfl rfl rfl) ?_
       refine .cons (.mv rfl rfl) ?_
       refine .nil ?_
       refine kl_k [] ⟨i + 1, rfl, by omega, fun j hj => by exact (Nat.lt_succ_iff_lt_or_eq.1 hj).elim (fun h => hF j h) (fun h => by rw [h, hA, arrOk_eq]; first | (simp_all; done) | (simp_all; omega) | grind), rfl⟩ ⟨ks rfl .dt, ks rfl .dt, ks rfl .dt, ks rfl .dt, ks rfl .dt, trivial⟩
   ·skip
    have hB0 : i = 0 := by omega
    refine .cons (.gF rfl rfl rfl) ?_
    refine .cons (.gF rfl rfl rfl) ?_
    refine .cons (.gF rfl rfl rfl) ?_
    refine .cons (.gF rfl rfl rfl) ?_
    refine .cons (.gF rfl rfl rfl) ?_
    refine .cons (.gF rfl rfl rfl) ?_
    refine .cons (.gF rfl rfl rfl) ?_
    refine .cons (.gF rfl rfl rfl) ?_
    refine .cons (.gF rfl rfl rfl) ?_
    refine .cons (.gT rfl rfl rfl (.pF rfl rfl rfl)) ?_
    refine .cons (.pF rfl rfl rfl) ?_
    refine .cons (.mv rfl rfl) ?_
    refine .cons (.gT rfl rfl rfl (.fB 1 0 false rfl rfl rfl)) ?_
    refine .cons (.gT rfl rfl rfl (.b1 1 rfl rfl rfl rfl rfl rfl)) ?_
    refine .cons (.gT rfl rfl rfl (.ln 3 1 8 rfl rfl rfl)) ?_
    refine .cons (.gT rfl rfl rfl (.cP [.tmp 34, .const (.int .i64 (1)), .const (.int .i64 (2))] rfl rfl rfl rfl (within_fn _ 1 2) rfl)) ?_
    refine .cons (.gT rfl rfl rfl (.nt rfl rfl)) ?_
    refine .cons (.pF rfl rfl rfl) ?_
    refine .cons (.mv rfl rfl) ?_
    refine RunK.cases 38 _ rfl (fun g38 => ?_) (fun g38 => ?_)
    ·try simp only [zs1, zs2, zs3, zs4, zs5, zs6, zs7] at g38
     refine .cons (.gF rfl rfl rfl) ?_
     refine .cons (.gF rfl rfl rfl) ?_
     refine .cons (.gF rfl rfl rfl) ?_
     refine .cons (.pT rfl rfl rfl) ?_
     refine .nil ⟨by kernel_rfl, ?_⟩
     refine ks_n ?_
     refine ACode.condT rfl (fun _ => ?_) (fun h => by first | (cases h; done) | (simp [*] at h; done) | (exfalso; simp_all; done))
     refine ACode.seq ?_
     refine ACode.region ?_
     refine .cons (.asg rfl rfl) ?_
     refine .nil ?_
     refine ks_n ?_
     refine ACode.ret ?_
     refine kb_r ?_
     refine ks_r ?_
     refine kl_r ?_
     refine kb_r ?_
     refine ks_r ?_
     refine kf_ret rfl ?_ nobox
     exact leafB (arrsV_bad (i := i) (by omega) (by rw [hA, arrOk_eq]; first | (simp_all; done) | (simp_all; omega) | grind)).symm
    ·try simp only [zs1, zs2, zs3, zs4, zs5, zs6, zs7] at g38
     refine .cons (.gT rfl rfl rfl (.fB 1 0 false rfl rfl rfl)) ?_
     refine .cons (.gT rfl rfl rfl (.b1 1 rfl rfl rfl rfl rfl rfl)) ?_
     refine .cons (.gT rfl rfl rfl (.cP [.tmp 40, .func 82] rfl rfl rfl rfl (cnt_int (f := 82) (cap := []) (by kernel_rfl) (fun n => !dimV n) x.2 (hq x (List.mem_of_getElem? hx1)) (fun n _ => arr1_fn n)) rfl)) ?_
     refine .cons (.pF rfl rfl rfl) ?_
     refine .nil ⟨by kernel_rfl, ?_⟩
     refine ks_n ?_
     refine ACode.condT rfl (fun h42 => ?_) (fun h42 => ?_)
     ·try simp only [zs1, zs2, zs3, zs4, zs5, zs6, zs7] at h42
      refine ACode.seq ?_
      refine ACode.region ?_
      refine .cons (.asg rfl rfl) ?_
      refine .nil ?_
      refine ks_n ?_
      refine ACode.ret ?_
      refine kb_r ?_
      refine ks_r ?_
      refine kl_r ?_
      refine kb_r ?_
      refine ks_r ?_
      refine kf_ret rfl ?_ nobox
      exact leafB (arrsV_bad (i := i) (by omega) (by rw [hA, arrOk_eq]; first | (simp_all; done) | (simp_all; omega) | grind)).symm
     ·try simp only [zs1, zs2, zs3, zs4, zs5, zs6, zs7] at h42
      refine ACode.skip ?_
      refine kb_n ?_
      refine ks_n ?_
      refine ACode.region ?_
      refine .cons (.pl rfl rfl rfl) ?_
      refine .cons (.mv rfl rfl) ?_
      refine .nil ?_
      refine kl_k [] ⟨i + 1, rfl, by omega, fun j hj => by exact (Nat.lt_succ_iff_lt_or_eq.1 hj).elim (fun h => hF j h) (fun h => by rw [h, hA, arrOk_eq]; first | (simp_all; done) | (simp_all; omega) | grind), rfl⟩ ⟨ks rfl .dt, ks rfl .dt, ks rfl .dt, ks rfl .dt, ks rfl .dt, trivial⟩
 ·skip
  refine ACode.exit ?_
  refine ks_e ?_
  refine kl_e ?_
  refine kb_hit ?_
  refine ks_n ?_
  refine ACode.seq ?_
  refine ACode.region ?_
  refine .cons (.mv rfl rfl) ?_
  refine .cons (.ln 38 2 40 rfl rfl rfl) ?_
  refine .cons (.le rfl rfl rfl) ?_
  refine .cons (.asg rfl rfl) ?_
  refine .nil ?_
  refine ks_n ?_
  refine ACode.ret ?_
  refine kf_ret rfl ?_ nobox
  exact leafB (by rw [arrsV_end fun j hj => hF j (by omega)]; rw [decide_eq_decide]; omega)
theorem accV_at {D : Nat} {a : Acc} (h : accV D a = true) : (1 ≤ a.2.length ∧ a.2.length ≤ 2) ∧ ∀ s ∈ a.2, affV s = true := by
  simp only [accV, sideV, bndV, Bool.and_eq_true, List.all_eq_true, decide_eq_true_eq] at h
  exact ⟨by omega, fun x hx => (h.2.1.1 x hx).1⟩
theorem arr_mem {as_ : List Arr} (h : arrsV as_ = true) {i : Nat} {x : Arr} (hx : as_[i]? = some x) : arrOk x = true := arrsV_at h (List.mem_of_getElem? hx)

set_option maxRecDepth 100000 in
set_option maxHeartbeats 1600000 in
theorem size_fn {a : Arr} (h : arrOk a = true) : Fn Tryz.prog 33 [] [ad (rR a)] (.o (nat1 (sizeA a.2))) [] := by
 obtain ⟨hl, hd⟩ := arrOk_at h
 refine Fn.code0 Tryz.func33 rfl rfl rfl rfl ?_
 refine ACode.seq ?_
 refine ACode.region ?_
 refine .cons (St1.boxP rfl rfl rfl rfl rfl rfl) ?_
 refine .cons (.asg rfl rfl) ?_
 refine .nil ?_
 refine ks_n ?_
 refine ACode.seq ?_
 refine ACode.region ?_
 refine .cons (.asg rfl rfl) ?_
 refine .nil ?_
 refine ks_n ?_
 refine ACode.seq ?_
 refine ACode.seq ?_
 refine ACode.region ?_
 refine .cons (.fP 1 0 false rfl rfl) ?_
 refine .cons (.l1 1 rfl rfl) ?_
 refine .cons (.ln 3 1 8 rfl rfl rfl) ?_
 refine .cons (.mv rfl rfl) ?_
 refine .nil ?_
 refine ks_n ?_
 refine ACode.block ?_
 refine .loopK (fun m σ => (∃ (i : Nat) (n : Int), m = a.2.length - i ∧ (i ≤ a.2.length) ∧ (sizeA a.2 = sizeF n (a.2.drop i)) ∧ (B6 i n) ∧ σ = [(.t 1, .v (.o (.c (.ptr (rR a))))), (.t 2, .v (.o (nat1 0))), (.t 3, .v (.o (nat1 n))), (.t 7, .v (.o (vD (dIs a.2)))), (.t 8, .v (.o (nat1 (a.2.length : Nat)))), (.t 9, .v (.o (nat1 (i : Nat))))])) [] ⟨0, 1, rfl, by omega, rfl, by unfold B6; omega, rfl⟩ ⟨ks rfl .dt, ks rfl .dt, ks rfl .dt, ks rfl .dt, ks rfl .dt, ks rfl .dt, trivial⟩ ?_
 rintro m σ ⟨i, n, hm0, hi, hF, hB, rfl⟩
 refine ACode.seq ?_
 refine ACode.region ?_
 refine .cons (.ls rfl rfl rfl) ?_
 refine .nil ?_
 refine ks_n ?_
 refine ACode.seq ?_
 refine .cD rfl (fun h10 => ?_) (fun h10 => ?_)
 ·skip
  obtain ⟨d, hd1⟩ : ∃ x_, a.2[i]? = some x_ := ⟨_, List.getElem?_eq_getElem (by omega)⟩
  have hM := hB.mul (hd d (List.mem_of_getElem? hd1)) (by omega)
  have hMb := hM.bd
  refine ACode.skip ?_
  refine ks_n ?_
  refine ACode.seq ?_
  refine ACode.block ?_
  refine ACode.seq ?_
  refine ACode.region ?_
  refine .cons (.xL 3 1 8 rfl rfl rfl rfl rfl) ?_
  refine .cons (.l1 1 rfl rfl) ?_
  refine .cons (.asg rfl rfl) ?_
  refine .nil ?_
  refine ks_n ?_
  refine ACode.region ?_
  refine .cons (.mv rfl rfl) ?_
  refine .cons (.mv rfl rfl) ?_
  refine .cons (.ml rfl rfl rfl) ?_
  refine .cons (.asg rfl rfl) ?_
  refine .nil ?_
  refine kb_n ?_
  refine ks_n ?_
  refine ACode.region ?_
  refine .cons (.pl rfl rfl rfl) ?_
  refine .cons (.mv rfl rfl) ?_
  refine .nil ?_
  refine kl_k [] ⟨i + 1, n * d, rfl, by omega, by rw [hF, sizeF_drop hd1], hM, rfl⟩ ⟨ks rfl .dt, ks rfl .dt, ks rfl .dt, ks rfl .dt, ks rfl .dt, ks rfl .dt, trivial⟩
 ·skip
  refine ACode.exit ?_
  refine ks_e ?_
  refine kl_e ?_
  refine kb_hit ?_
  refine ks_n ?_
  refine ACode.seq ?_
  refine ACode.region ?_
  refine .cons (.mv rfl rfl) ?_
  refine .cons (.asg rfl rfl) ?_
  refine .nil ?_
  refine ks_n ?_
  refine ACode.ret ?_
  refine kf_ret rfl ?_ nobox
  exact leafI (by rw [hF, sizeF_end (by omega)])


set_option maxRecDepth 100000 in
set_option maxHeartbeats 1600000 in
theorem cell_fn {g : Prg} (hv : arrsV g.1 = true) {D : Nat} {a : Acc} {p : List Int} (ha : accV D a = true) (hS : Small p) (hn : p.length ≤ 4) : Fn Tryz.prog 39 [] [ad (rG g), ad (rC a), vD (dIs p)] (.o (nat1 (cellG a p g.1 0))) [] := by
 obtain ⟨hal, hav⟩ := accV_at ha
 have hl := arrsV_len hv
 refine Fn.code0 Tryz.func39 rfl rfl rfl rfl ?_
 refine ACode.seq ?_
 refine ACode.region ?_
 refine .cons (St1.boxP rfl rfl rfl rfl rfl rfl) ?_
 refine .cons (St1.boxP rfl rfl rfl rfl rfl rfl) ?_
 refine .cons (.asg rfl rfl) ?_
 refine .nil ?_
 refine ks_n ?_
 refine ACode.seq ?_
 refine ACode.region ?_
 refine .cons (.asg rfl rfl) ?_
 refine .nil ?_
 refine ks_n ?_
 refine ACode.seq ?_
 refine ACode.seq ?_
 refine ACode.region ?_
 refine .cons (.fP 0 0 false rfl rfl) ?_
 refine .cons (.l1 1 rfl rfl) ?_
 refine .cons (.ln 38 2 40 rfl rfl rfl) ?_
 refine .cons (.mv rfl rfl) ?_
 refine .nil ?_
 refine ks_n ?_
 refine ACode.block ?_
 refine .loopK (fun m σ => (∃ (i : Nat) (b : Int), m = g.1.length - i ∧ (i ≤ g.1.length) ∧ (cellG a p g.1 0 = cellG a p (g.1.drop i) b) ∧ (0 ≤ b ∧ b ≤ 36 * i) ∧ σ = [(.t 2, .v (.o (vD (dIs p)))), (.t 3, .v (.o (.c (.ptr (rG g))))), (.t 4, .v (.o (.c (.ptr (rC a))))), (.t 6, .v (.o (nat1 0))), (.t 7, .v (.o (nat1 b))), (.t 15, .v (.o (vD (dRs g.1)))), (.t 16, .v (.o (nat1 (g.1.length : Nat)))), (.t 17, .v (.o (nat1 (i : Nat))))])) [] ⟨0, 0, rfl, by omega, rfl, by omega, rfl⟩ ⟨ks rfl .dt, ks rfl .dt, ks rfl .dt, ks rfl .dt, ks rfl .dt, ks rfl .dt, ks rfl .dt, ks rfl .dt, trivial⟩ ?_
 rintro m σ ⟨i, b, hm0, hi, hF, hb, rfl⟩
 refine ACode.seq ?_
 refine ACode.region ?_
 refine .cons (.ls rfl rfl rfl) ?_
 refine .nil ?_
 refine ks_n ?_
 refine ACode.seq ?_
 refine .cD rfl (fun h18 => ?_) (fun h18 => ?_)
 ·skip
  obtain ⟨x, hx1⟩ : ∃ x_, g.1[i]? = some x_ := ⟨_, List.getElem?_eq_getElem (by omega)⟩
  have hxo := arr_mem hv hx1
  obtain ⟨hxl, hxd⟩ := arrOk_at hxo
  have hsz := sizeA_bd hxo
  refine ACode.skip ?_
  refine ks_n ?_
  refine ACode.seq ?_
  refine ACode.block ?_
  refine ACode.seq ?_
  refine ACode.region ?_
  refine .cons (.xL 38 2 40 rfl rfl rfl rfl rfl) ?_
  refine .cons (.lN 2 rfl rfl rfl) ?_
  refine .cons (.al 109 [.string ByteArray.empty, .slice none 0 0] rfl rfl rfl) ?_
  refine .cons (.sT 2 true rfl rfl rfl rfl rfl rfl rfl) ?_
  refine .nil ?_
  refine ks_n ?_
  refine ACode.seq ?_
  refine ACode.seq ?_
  refine ACode.region ?_
  refine .cons (.fB 0 0 false rfl rfl rfl) ?_
  refine .cons (.b1 1 rfl rfl rfl rfl rfl rfl) ?_
  refine .cons (.fP 0 0 false rfl rfl) ?_
  refine .cons (.l1 1 rfl rfl) ?_
  refine .cons (St1.neS rfl rfl rfl) ?_
  refine .nil ?_
  refine ks_n ?_
  refine ACode.condT rfl (fun h25 => ?_) (fun h25 => ?_)
  ·try simp only [zs1, zs2, zs3, zs4, zs5, zs6, zs7] at h25
   have hne : sEq x.1 a.1 = false := by first | assumption | simp_all
   refine ACode.seq ?_
   refine ACode.region ?_
   refine .cons (.mv rfl rfl) ?_
   refine .cons (.bN 2 rfl rfl rfl rfl rfl rfl) ?_
   refine .cons (.cP [.tmp 27] rfl rfl rfl rfl (size_fn hxo) rfl) ?_
   refine .cons (.pl rfl rfl rfl) ?_
   refine .cons (.asg rfl rfl) ?_
   refine .nil ?_
   refine ks_n ?_
   refine ACode.exit ?_
   refine ks_e ?_
   refine kb_hit ?_
   refine ks_n ?_
   refine ACode.region ?_
   refine .cons (.pl rfl rfl rfl) ?_
   refine .cons (.mv rfl rfl) ?_
   refine .nil ?_
   refine kl_k [] ⟨i + 1, b + sizeA x.2, rfl, by omega, by rw [hF, cellG_next hx1 hne], by omega, rfl⟩ ⟨ks rfl .dt, ks rfl .dt, ks rfl .dt, ks rfl .dt, ks rfl .dt, ks rfl .dt, ks rfl .dt, ks rfl .dt, trivial⟩
  ·try simp only [zs1, zs2, zs3, zs4, zs5, zs6, zs7] at h25
   have heq : sEq x.1 a.1 = true := by first | assumption | simp_all
   refine ACode.skip ?_
   refine ks_n ?_
   refine ACode.seq ?_
   refine ACode.seq ?_
   refine ACode.region ?_
   refine .cons (.fP 1 0 false rfl rfl) ?_
   refine .cons (.l1 1 rfl rfl) ?_
   refine .cons (.ln 28 2 32 rfl rfl rfl) ?_
   refine .cons (.fB 1 0 false rfl rfl rfl) ?_
   refine .cons (.b1 1 rfl rfl rfl rfl rfl rfl) ?_
   refine .cons (.ln 3 1 8 rfl rfl rfl) ?_
   refine .cons (.ne rfl rfl rfl) ?_
   refine .nil ?_
   refine ks_n ?_
   refine .cND rfl (fun h36 => ?_) (fun h36 => ?_)
   ·skip
    refine ACode.seq ?_
    refine ACode.region ?_
    refine .cons (.asg rfl rfl) ?_
    refine .nil ?_
    refine ks_n ?_
    refine ACode.ret ?_
    refine ks_r ?_
    refine kb_r ?_
    refine ks_r ?_
    refine kl_r ?_
    refine kb_r ?_
    refine ks_r ?_
    refine kf_ret rfl ?_ nobox
    exact leafI (by rw [hF, cellG_len hx1 heq (by omega)])
   ·skip
    have hle : a.2.length = x.2.length := by omega
    refine ACode.skip ?_
    refine ks_n ?_
    refine ACode.seq ?_
    refine ACode.region ?_
    refine .cons (.asg rfl rfl) ?_
    refine .nil ?_
    refine ks_n ?_
    refine ACode.seq ?_
    refine ACode.seq ?_
    refine ACode.region ?_
    refine .cons (.fP 1 0 false rfl rfl) ?_
    refine .cons (.l1 1 rfl rfl) ?_
    refine .cons (.ln 28 2 32 rfl rfl rfl) ?_
    refine .cons (.mv rfl rfl) ?_
    refine .nil ?_
    refine ks_n ?_
    refine ACode.block ?_
    refine .loopK (fun m σ => (∃ (k : Nat) (n : Int), m = a.2.length - k ∧ (k ≤ a.2.length) ∧ (atG p x.2 a.2 0 = atG p (x.2.drop k) (a.2.drop k) n) ∧ (0 ≤ n) ∧ (B6 k (n + 1)) ∧ σ = [(.t 2, .v (.o (vD (dIs p)))), (.t 3, .v (.o (.c (.ptr (rG g))))), (.t 4, .v (.o (.c (.ptr (rC a))))), (.t 6, .v (.o (nat1 0))), (.t 7, .v (.o (nat1 b))), (.t 9, .v (.o (.c (.ptr (rR x))))), (.t 10, .v (.o (nat1 n))), (.t 15, .v (.o (vD (dRs g.1)))), (.t 16, .v (.o (nat1 (g.1.length : Nat)))), (.t 17, .v (.o (nat1 (i : Nat)))), (.t 38, .v (.o (vD (dAs a.2)))), (.t 39, .v (.o (nat1 (a.2.length : Nat)))), (.t 40, .v (.o (nat1 (k : Nat))))])) [] ⟨0, 0, rfl, by omega, rfl, by omega, by unfold B6; omega, rfl⟩ ⟨ks rfl .dt, ks rfl .dt, ks rfl .dt, ks rfl .dt, ks rfl .dt, ks rfl (.c (.frzP _ _ _ _ _ _ _ _ rfl (show _ = dR [rR x] from rfl) rfl rfl rfl)), ks rfl .dt, ks rfl .dt, ks rfl .dt, ks rfl .dt, ks rfl .dt, ks rfl .dt, ks rfl .dt, trivial⟩ ?_
    rintro m σ ⟨k, n, hm0, hk, hG, h0, hB, rfl⟩
    refine ACode.seq ?_
    refine ACode.region ?_
    refine .cons (.ls rfl rfl rfl) ?_
    refine .nil ?_
    refine ks_n ?_
    refine ACode.seq ?_
    refine .cD rfl (fun h41 => ?_) (fun h41 => ?_)
    ·skip
     obtain ⟨s, hs1⟩ : ∃ x_, a.2[k]? = some x_ := ⟨_, List.getElem?_eq_getElem (by omega)⟩
     have hsv := hav s (List.mem_of_getElem? hs1)
     obtain ⟨d, hd1⟩ : ∃ x_, x.2[k]? = some x_ := ⟨_, List.getElem?_eq_getElem (by omega)⟩
     have hdd := hxd d (List.mem_of_getElem? hd1)
     refine ACode.skip ?_
     refine ks_n ?_
     refine ACode.seq ?_
     refine ACode.block ?_
     refine ACode.seq ?_
     refine ACode.region ?_
     refine .cons (.mv rfl rfl) ?_
     refine .cons (.xL 28 2 32 rfl rfl rfl rfl rfl) ?_
     refine .cons (.lN 2 rfl rfl rfl) ?_
     refine .cons (.al 112 [.slice none 0 0, .int .i64 0] rfl rfl rfl) ?_
     refine .cons (.asg rfl rfl) ?_
     refine .cons (.sT 2 true rfl rfl rfl rfl rfl rfl rfl) ?_
     refine .nil ?_
     refine ks_n ?_
     refine ACode.seq ?_
     refine ACode.region ?_
     refine .cons (.bN 2 rfl rfl rfl rfl rfl rfl) ?_
     refine .cons (.mv rfl rfl) ?_
     refine .cons (.cP [.tmp 45, .tmp 46] rfl rfl rfl rfl (eval_fn hsv hS hn) rfl) ?_
     refine .cons (.asg rfl rfl) ?_
     refine .nil ?_
     refine ks_n ?_
     refine ACode.seq ?_
     refine ACode.seq ?_
     refine ACode.region ?_
     refine .cons (.mv rfl rfl) ?_
     refine .cons (.fP 1 0 false rfl rfl) ?_
     refine .cons (.l1 1 rfl rfl) ?_
     refine .cons (.mv rfl rfl) ?_
     refine .cons (.xL 3 1 8 rfl rfl rfl rfl rfl) ?_
     refine .cons (.l1 1 rfl rfl) ?_
     refine .cons (.sb rfl rfl rfl) ?_
     refine .cons (.cP [.tmp 48, .const (.int .i64 (0)), .tmp 54] rfl rfl rfl rfl (within_fn _ 0 _) rfl) ?_
     refine .cons (.nt rfl rfl) ?_
     refine .nil ?_
     refine ks_n ?_
     refine ACode.condT rfl (fun h56 => ?_) (fun h56 => ?_)
     ·try simp only [zs1, zs2, zs3, zs4, zs5, zs6, zs7] at h56
      have hnin : ¬ inB (affEval s p) 0 (d - 1) = true := by first | assumption | simp_all
      refine ACode.seq ?_
      refine ACode.region ?_
      refine .cons (.asg rfl rfl) ?_
      refine .nil ?_
      refine ks_n ?_
      refine ACode.ret ?_
      refine ks_r ?_
      refine kb_r ?_
      refine ks_r ?_
      refine kl_r ?_
      refine kb_r ?_
      refine ks_r ?_
      refine kb_r ?_
      refine ks_r ?_
      refine kl_r ?_
      refine kb_r ?_
      refine ks_r ?_
      refine kf_ret rfl ?_ nobox
      exact leafI (by rw [hF, cellG_at hx1 heq hle, hG, atG_no hd1 hs1 hnin, if_pos rfl])
     ·try simp only [zs1, zs2, zs3, zs4, zs5, zs6, zs7] at h56
      have hin : inB (affEval s p) 0 (d - 1) = true := by first | assumption | simp_all
      have hM := B6.at h0 hB hdd (by omega) (of_decide_eq_true hin)
      have hvb := of_decide_eq_true hin
      refine ACode.skip ?_
      refine ks_n ?_
      refine ACode.region ?_
      refine .cons (.mv rfl rfl) ?_
      refine .cons (.fP 1 0 false rfl rfl) ?_
      refine .cons (.l1 1 rfl rfl) ?_
      refine .cons (.mv rfl rfl) ?_
      refine .cons (.xL 3 1 8 rfl rfl rfl rfl rfl) ?_
      refine .cons (.l1 1 rfl rfl) ?_
      refine .cons (.ml rfl rfl rfl) ?_
      refine .cons (.mv rfl rfl) ?_
      refine .cons (.pl rfl rfl rfl) ?_
      refine .cons (.asg rfl rfl) ?_
      refine .nil ?_
      refine kb_n ?_
      refine ks_n ?_
      refine ACode.region ?_
      refine .cons (.pl rfl rfl rfl) ?_
      refine .cons (.mv rfl rfl) ?_
      refine .nil ?_
      refine kl_k [] ⟨k + 1, n * d + affEval s p, rfl, by omega, by rw [hG, atG_yes hd1 hs1 hin], by omega, hM.2.2.2, rfl⟩ ⟨ks rfl .dt, ks rfl .dt, ks rfl .dt, ks rfl .dt, ks rfl .dt, ks rfl .dt, ks rfl .dt, ks rfl .dt, ks rfl .dt, ks rfl .dt, ks rfl .dt, ks rfl .dt, ks rfl .dt, trivial⟩
    ·skip
     have hnb := hB.bd
     refine ACode.exit ?_
     refine ks_e ?_
     refine kl_e ?_
     refine kb_hit ?_
     refine ks_n ?_
     refine ACode.seq ?_
     refine ACode.region ?_
     refine .cons (.mv rfl rfl) ?_
     refine .cons (.mv rfl rfl) ?_
     refine .cons (.pl rfl rfl rfl) ?_
     refine .cons (.asg rfl rfl) ?_
     refine .nil ?_
     refine ks_n ?_
     refine ACode.ret ?_
     refine kb_r ?_
     refine ks_r ?_
     refine kl_r ?_
     refine kb_r ?_
     refine ks_r ?_
     refine kf_ret rfl ?_ nobox
     exact leafI (by rw [hF, cellG_at hx1 heq hle, hG, atG_end (by omega), if_neg (by omega)])
 ·skip
  refine ACode.exit ?_
  refine ks_e ?_
  refine kl_e ?_
  refine kb_hit ?_
  refine ks_n ?_
  refine ACode.seq ?_
  refine ACode.region ?_
  refine .cons (.asg rfl rfl) ?_
  refine .nil ?_
  refine ks_n ?_
  refine ACode.ret ?_
  refine kf_ret rfl ?_ nobox
  exact leafI (by rw [hF, cellG_end (by omega)])
end Go.Proofs.YtcbfklmoeofoiaaGreat
namespace Go.Proofs.YtcbfklmoeofoiaaGreat
set_option linter.unusedVariables false
set_option linter.unusedSimpArgs false
open Go.ChangeShapes Go.WideShapes Go.ChangeAt Go.RowKit
/-- Cells stand for data, one by one; all that they lead to is old. -/
def Rs (w : World) (ds : List D) (cs : List Value) : Prop := cs.length = ds.length ∧ ∀ (i : Nat) d v, ds[i]? = some d → cs[i]? = some v → Dr (fun b => b < w.heap.size) w d v
section
variable {H : Type} (enc : TypeId × Value → H) (P : Program) (w : World) (spare : Nat → Bool) (held : Bool)
/-- Whatever reads at the type t (with so much fuel) stands for some a. -/
def OpF (n : Nat) (t : TypeId) {α : Type} (f : α → List D) (ok : α → Prop) : Prop :=
  ∀ fuel, fuel ≤ n → ∀ (cs : List Value) (x : DataW H × List MemPlace), DataW.trod enc P w 0 spare held fuel t cs = some x → (∀ m ∈ x.1.weights P t, m ≤ reachBytes) → ∃ a, ok a ∧ Rs w (f a) cs
end
section
variable {H : Type} {enc : TypeId × Value → H} {P : Program} {w : World} {spare : Nat → Bool} {held : Bool} {n : Nat} {t e : TypeId}
theorem OpF.mono {α : Type} {f : α → List D} {ok ok' : α → Prop} {m : Nat} (h : OpF enc P w spare held n t f ok) (hm : m ≤ n) (hok : ∀ a, ok a → ok' a) : OpF enc P w spare held m t f ok' := fun fuel hf cs x hx hw => by
  obtain ⟨a, h1, h2⟩ := h fuel (by omega) cs x hx hw
  exact ⟨a, hok a h1, h2⟩
end



end Go.Proofs.YtcbfklmoeofoiaaGreat
namespace Go.Proofs.YtcbfklmoeofoiaaGreat
set_option linter.unusedVariables false
set_option linter.unusedSimpArgs false
open Go.RowKit


def tyMk (P : Program) (t : TypeId) : Option (TypeId × Nat × Nat × List Value) :=
  match P.underlying t with
  | some (.slice e) => (P.info? e).bind fun i => i.zero.map fun z => (e, i.size, i.bytes, z.cells.toList)
  | _ => none
theorem tyMk_out {P : Program} {t e : TypeId} {sz by' : Nat} {zs : List Value} (h : tyMk P t = some (e, sz, by', zs)) : P.underlying t = some (.slice e) ∧ ∃ i z, P.info? e = some i ∧ i.zero = some z ∧ i.size = sz ∧ i.bytes = by' ∧ z.cells.toList = zs := by
  unfold tyMk at h
  cases hu : P.underlying t with
  | none => simp [hu] at h
  | some d =>
    cases d <;> simp only [hu, reduceCtorEq] at h
    case slice e' =>
      cases hi : P.info? e' with
      | none => rw [hi] at h; cases h
      | some i =>
        cases hz : i.zero with
        | none => rw [hi] at h; simp [hz] at h
        | some z =>
          rw [hi] at h
          simp only [Option.bind_some, hz, Option.map_some, Option.some.injEq, Prod.mk.injEq] at h
          obtain ⟨rfl, h1, h2, h3⟩ := h
          exact ⟨rfl, i, z, hi, hz, h1, h2, h3⟩
theorem made_at {z : Value} {n i j sz : Nat} {u : Value} (hs : z.cells.toList.length = sz) (hi : i < n) (hu : z.cells.toList[j]? = some u) : (madeCells z.cells (n * sz))[i * sz + j]? = some u := by
  have hj : j < sz := by rw [← hs]; exact (List.getElem?_eq_some_iff.1 hu).1
  have hlt : i * sz + j < n * sz := by
    have := Nat.mul_le_mul_right sz (show i + 1 ≤ n by omega)
    rw [Nat.add_mul] at this; omega
  have hz : z.cells.size = sz := by rw [← hs, Array.length_toList]
  have hm : (i * sz + j) % sz = j := by rw [Nat.add_comm, Nat.add_mul_mod_self_right, Nat.mod_eq_of_lt hj]
  rw [Array.getElem?_toList] at hu
  simp [madeCells, hlt, hz, hm, Array.getElem!_eq_getD, hu, Array.getD_eq_getD_getElem?]
section
variable {P : Program} {n : Nat} {ops : Array Oper} {o : Oper} {σ : St} {d : Nat}
theorem St1.mk (k' : Nat) (e : TypeId) (sz by' : Nat) (zs : List Value) {t : TypeId} {x y : Operand} {m : Nat} (h4 : (o.op, o.guard, o.dst, Nat.blt d n) = (Op.makeSlice t x y, none, some d, true)) (hx : ev σ x = some (.o (nat1 (m : Nat)))) (hy : ev σ y = some (.o (nat1 (m : Nat)))) (hm : m ≤ 1073741824) (hz : (Nat.beq zs.length sz && zs.all (·.oneCell') && Nat.ble by' 65536) = true)
    (hf : (lk σ (.u k'), Nat.ble 100 k') = (.no, true)) (ht : tyMk P t = some (e, sz, by', zs) := by kernel_rfl) :
    St1 P n ops o σ (.u k' :: (rd x ++ rd y)) [.t d, .u k', .b k', .b k'] ((.t d, .v (.o (.c (.own k' sz m)))) :: (.u k', .u) :: (.b k', .b e sz (dR (List.replicate m (zs.map D.val)))) :: (.b k', .no) :: σ) := by
  simp only [Prod.mk.injEq] at h4 hf
  obtain ⟨ho, hg, hd, hn⟩ := h4
  simp only [Bool.and_eq_true] at hz
  have hzl : zs.length = sz := Nat.eq_of_beq_eq_true hz.1.1
  have hz1 : ∀ u ∈ zs, u.oneCell' = true := fun u hu => List.all_eq_true.1 hz.1.2 u hu
  have hby := Nat.le_of_ble_eq_true hz.2
  have hrow : ∀ {i : Nat} {r : List C}, (dR (List.replicate m (zs.map D.val)))[i]? = some r → i < m ∧ r = zs.map fun u => C.d (.val u) := fun {i r} h => by
    rw [dR, List.map_replicate, List.map_map] at h
    have hi : i < m := by have := (List.getElem?_eq_some_iff.1 h).1; simpa using this
    rw [List.getElem?_replicate, if_pos hi] at h
    exact ⟨hi, (Option.some.inj h).symm⟩
  refine St1.place hg hd hn hf.1 hf.2 (okk_self hf.2) rfl fun E bx τ a w hR hs => ?_
  obtain ⟨hu, i, z, hi, hzz, hs1, hs2, hs3⟩ := tyMk_out ht
  have hbm : i.bytes * m ≤ 281474976710656 := by
    have := Nat.mul_le_mul (show i.bytes ≤ 65536 by omega) hm; omega
  have hb' : (i.bytes : Int) * (m : Int) ≤ 281474976710656 := by
    have h : ((i.bytes * m : Nat) : Int) ≤ 281474976710656 := by omega
    rwa [Int.natCast_mul] at h
  have hr := run_make (P := P) w t e i z hu hi hzz .i64 .i64 (m : Int) (m : Int) (by omega) (Int.le_refl _) hb' (by omega)
  simp only [Int.toNat_natCast, hs1] at hr
  have hsz : (madeCells z.cells (m * sz)).size = m * sz := size_madeCells _ _
  refine ⟨.slice (some ⟨w.heap.size, 0, none⟩) m m, w.alloc (.cells (madeCells z.cells (m * sz)) e), w.heap.size, w.heap.size, madeCells z.cells (m * sz), ?_, .inr (Nat.le_refl _), World.grownBy_alloc w _ _, .inl rfl, heap_alloc_new w _, ?_, fun i r hi => ?_, fun i r j c hi hj => ?_, fun r hr' c hc l hl => ?_, fun bx' al B w2 hbx => ⟨rfl, fun _ => ⟨m, by rw [hbx], Nat.le_refl _, by unfold maxLen; omega, by rw [hbx, hsz]⟩⟩⟩
  · simp only [execOp, ho, ev_val hx (rd_l hR) hs, ev_val hy (rd_r hR) hs, Sem.run_bind, hr]; rfl
  · rw [hsz, dR, List.length_map, List.length_replicate]; exact Nat.le_refl _
  · rw [(hrow hi).2, List.length_map, hzl]
  · obtain ⟨h1, rfl⟩ := hrow hi
    rw [List.getElem?_map] at hj
    cases hq : zs[j]? with
    | none => rw [hq] at hj; cases hj
    | some u =>
      rw [hq] at hj; cases hj
      exact ⟨u, made_at (by rw [hs3, hzl]) h1 (by rw [hs3]; exact hq), .val _ (hz1 u (List.mem_of_getElem? hq))⟩
  · obtain ⟨i, hi⟩ := List.mem_iff_getElem?.1 hr'
    obtain ⟨_, rfl⟩ := hrow hi
    obtain ⟨u, _, rfl⟩ := List.mem_map.1 hc
    cases hl
end
/-- Rows of which the first have been filled. -/
theorem fill_at {α : Type} {f : α → List D} {z : List D} {l : List α} {i : Nat} (h : i < l.length) : (dR ((l.take i).map f ++ List.replicate (l.length - i) z))[i]? = some (z.map C.d) := by
  rw [dR, List.getElem?_map, List.getElem?_append_right (by rw [List.length_map, List.length_take]; omega), List.length_map, List.length_take, Nat.min_eq_left (by omega), Nat.sub_self, List.getElem?_replicate, if_pos (by omega)]; rfl
theorem fill_set {α : Type} (f : α → List D) {z : List D} {l : List α} {i : Nat} {x : α} {r : List C} (h : l[i]? = some x) (hr : r = (f x).map C.d) : (dR ((l.take i).map f ++ List.replicate (l.length - i) z)).set i r = dR ((l.take (i + 1)).map f ++ List.replicate (l.length - (i + 1)) z) := by
  subst hr
  have hi := (List.getElem?_eq_some_iff.1 h).1
  have hl : (List.map (fun x => List.map C.d x) ((l.take i).map f)).length = i := by simp; omega
  rw [dR, dR, List.map_append, List.map_append, List.set_append_right _ _ (by omega), hl, Nat.sub_self, show l.length - i = (l.length - (i + 1)) + 1 by omega, List.replicate_succ, List.map_cons, List.set_cons_zero, List.take_add_one, h, List.map_append, List.map_append, List.append_assoc]
  rfl
theorem fill_new {α : Type} (f : α → List D) {z : List D} (l : List α) : dR (List.replicate l.length z) = dR ((l.take 0).map f ++ List.replicate (l.length - 0) z) := by simp
theorem fill_end {α : Type} (f : α → List D) {z : List D} (l : List α) : dR ((l.take l.length).map f ++ List.replicate (l.length - l.length) z) = dR (l.map f) := by rw [List.take_length, Nat.sub_self]; simp


/-- Sizes of loops. -/
def szL (l : Lp) : Nat := szAs l.1 + szAs l.2
def szLs (l : List Lp) : Nat := l.length + (l.map szL).sum
theorem szLs_mem {l : List Lp} {a : Lp} (h : a ∈ l) : l.length + szL a ≤ szLs l := by
  rw [szLs]
  have : ∀ (l : List Nat) (n : Nat), n ∈ l → n ≤ l.sum := by
    intro l
    induction l with
    | nil => intro n h; cases h
    | cons m l ih =>
      intro n h
      rw [List.sum_cons]
      rcases List.mem_cons.1 h with rfl | h
      · omega
      · have := ih n h; omega
  have := this _ _ (List.mem_map_of_mem (f := szL) h)
  omega
theorem szLs_len (l : List Lp) : l.length ≤ szLs l := Nat.le_add_right _ _
/-- Sizes of lists of data, of programs. -/
def szO {α : Type} (f : α → Nat) (l : List α) : Nat := l.length + (l.map f).sum
theorem mem_sum : ∀ (l : List Nat) (n : Nat), n ∈ l → n ≤ l.sum := by
  intro l
  induction l with
  | nil => intro n h; cases h
  | cons m l ih =>
    intro n h
    rw [List.sum_cons]
    rcases List.mem_cons.1 h with rfl | h
    · omega
    · have := ih n h; omega
theorem szO_mem {α : Type} {f : α → Nat} {l : List α} {a : α} (h : a ∈ l) : l.length + f a ≤ szO f l := by
  rw [szO]
  have := mem_sum _ _ (List.mem_map_of_mem (f := f) h)
  omega
theorem szO_len {α : Type} {f : α → Nat} (l : List α) : l.length ≤ szO f l := Nat.le_add_right _ _
def szR (a : Arr) : Nat := a.1.size + a.2.length
def szPt (p : Prt) : Nat := szLs p.1 + szO szS p.2
def szG (g : Prg) : Nat := szO szR g.1 + szO szPt g.2
section
variable {a : Aff} {o : Pts} {x : List Int}
end
theorem npR_pt {ns : List Lp} {x : List Int} (h : x ∈ npR ns) : Small x ∧ x.length ≤ 4 := by
  obtain ⟨h1, h2, h3⟩ := npR_mem h
  have hv := (okP_iff.1 h1).1
  obtain ⟨h4, h5⟩ := mem_pts.1 h2
  have h6 := PB_of_in hv h4 h5 ns.length (Nat.le_refl _)
  rw [← h4, List.take_length] at h6
  have h7 := (nsV_at hv).1
  exact ⟨h6.small (by omega), by omega⟩
/-- Nests as large as memory lets them be. -/
def bgL (l : Lp) : Prop := l.1.length ≤ 1073741824 ∧ l.2.length ≤ 1073741824 ∧ (∀ a ∈ l.1, a.1.length ≤ 1073741824) ∧ ∀ a ∈ l.2, a.1.length ≤ 1073741824
def bgN (ns : List Lp) : Prop := ns.length ≤ 1073741824 ∧ ∀ l ∈ ns, bgL l
theorem smN_of {ns : List Lp} (h : nsV ns = true) : smN ns := by
  obtain ⟨h1, h2⟩ := nsV_at h
  refine ⟨by omega, fun l hl => ?_⟩
  obtain ⟨i, hi⟩ := List.mem_iff_getElem?.1 hl
  obtain ⟨a, b⟩ := h2 i l hi
  simp only [sideV, bndV, Bool.and_eq_true, List.all_eq_true, decide_eq_true_eq] at a b
  exact ⟨by omega, by omega, fun x hx => by rw [affV_len (a.1.1 x hx).1]; omega, fun x hx => by rw [affV_len (b.1.1 x hx).1]; omega⟩

set_option maxRecDepth 100000 in
set_option maxHeartbeats 1600000 in
theorem implNestV_B (ns : List Lp) (hs : bgN ns) : Fn Tryz.prog 63 [] [vD (dLs ns)] (.o (bo1 (nsV ns))) [] := by
 have hn := hs.1
 refine Fn.code0 Tryz.func63 rfl rfl rfl rfl ?_
 refine ACode.seq ?_
 refine ACode.region ?_
 refine .cons (.asg rfl rfl) ?_
 refine .nil ?_
 refine ks_n ?_
 refine ACode.seq ?_
 refine ACode.seq ?_
 refine ACode.region ?_
 refine .cons (.mv rfl rfl) ?_
 refine .cons (.ln 106 2 48 rfl rfl rfl) ?_
 refine .cons (.mv rfl rfl) ?_
 refine .nil ?_
 refine ks_n ?_
 refine ACode.block ?_
 refine .loopK (fun m σ => (∃ i : Nat, m = ns.length - i ∧ (i ≤ ns.length) ∧ (nestG 0 ns = nestG i (ns.drop i)) ∧ σ = [(.t 0, .v (.o (vD (dLs ns)))), (.t 5, .v (.o (vD (dLs ns)))), (.t 6, .v (.o (nat1 (ns.length : Nat)))), (.t 7, .v (.o (nat1 (i : Nat))))])) [] ⟨0, rfl, by omega, by simp, rfl⟩ ⟨ks rfl .dt, ks rfl .dt, ks rfl .dt, ks rfl .dt, trivial⟩ ?_
 rintro m σ ⟨i, hm0, hi, hF, rfl⟩
 refine ACode.seq ?_
 refine ACode.region ?_
 refine .cons (.ls rfl rfl rfl) ?_
 refine .nil ?_
 refine ks_n ?_
 refine ACode.seq ?_
 refine .cD rfl (fun h8 => ?_) (fun h8 => ?_)
 ·skip
  obtain ⟨x, hx1⟩ : ∃ x, ns[i]? = some x := ⟨_, List.getElem?_eq_getElem (by omega)⟩
  have hq := hs.2 x (List.mem_of_getElem? hx1)
  refine ACode.skip ?_
  refine ks_n ?_
  refine ACode.seq ?_
  refine ACode.block ?_
  refine ACode.seq ?_
  refine ACode.region ?_
  refine .cons (.mv rfl rfl) ?_
  refine .cons (.xL 106 2 48 rfl rfl rfl rfl rfl) ?_
  refine .cons (.lN 2 rfl rfl rfl) ?_
  refine .cons (.al 104 [.slice none 0 0, .slice none 0 0] rfl rfl rfl) ?_
  refine .cons (.asg rfl rfl) ?_
  refine .cons (.sT 2 true rfl rfl rfl rfl rfl rfl rfl) ?_
  refine .nil ?_
  refine ks_n ?_
  refine ACode.seq ?_
  refine ACode.region ?_
  refine .cons (.fB 0 0 false rfl rfl rfl) ?_
  refine .cons (.b1 1 rfl rfl rfl rfl rfl rfl) ?_
  refine .cons (.mv rfl rfl) ?_
  refine .cons (.cP [.tmp 13, .tmp 14] rfl rfl rfl rfl (boundsOk_fn i _ (Nat.le_trans hq.1 (by omega))) rfl) ?_
  refine .cons (.nt rfl rfl) ?_
  refine .cons (.mv rfl rfl) ?_
  refine AOps.cases 17 _ rfl (fun g17 => ?_) (fun g17 => ?_)
  ·try simp only [zs1, zs2, zs3, zs4, zs5, zs6, zs7] at g17
   refine .cons (.gF rfl rfl rfl) ?_
   refine .cons (.gF rfl rfl rfl) ?_
   refine .cons (.gF rfl rfl rfl) ?_
   refine .cons (.gF rfl rfl rfl) ?_
   refine .cons (.gF rfl rfl rfl) ?_
   refine .cons (.pT rfl rfl rfl) ?_
   refine .nil ?_
   refine ks_n ?_
   refine ACode.condT rfl (fun _ => ?_) (fun h => by first | (cases h; done) | (simp [*] at h; done) | (exfalso; simp_all; done))
   refine ACode.seq ?_
   have g : (sideV i x.1 && sideV i x.2) = false := by simp [*]
   refine ACode.region ?_
   refine .cons (.asg rfl rfl) ?_
   refine .nil ?_
   refine ks_n ?_
   refine ACode.ret ?_
   refine kb_r ?_
   refine ks_r ?_
   refine kl_r ?_
   refine kb_r ?_
   refine ks_r ?_
   refine kf_ret rfl ?_ nobox
   exact leafB (by rw [nsV, hF, nestG_drop hx1, g]; simp)
  ·try simp only [zs1, zs2, zs3, zs4, zs5, zs6, zs7] at g17
   refine .cons (.gT rfl rfl rfl (.fB 1 0 false rfl rfl rfl)) ?_
   refine .cons (.gT rfl rfl rfl (.b1 1 rfl rfl rfl rfl rfl rfl)) ?_
   refine .cons (.gT rfl rfl rfl (.mv rfl rfl)) ?_
   refine .cons (.gT rfl rfl rfl (.cP [.tmp 19, .tmp 20] rfl rfl rfl rfl (boundsOk_fn i _ (Nat.le_trans hq.2.1 (by omega))) rfl)) ?_
   refine .cons (.gT rfl rfl rfl (.nt rfl rfl)) ?_
   refine .cons (.pF rfl rfl rfl) ?_
   refine .nil ?_
   refine ks_n ?_
   refine ACode.condT rfl (fun h23 => ?_) (fun h23 => ?_)
   ·try simp only [zs1, zs2, zs3, zs4, zs5, zs6, zs7] at h23
    refine ACode.seq ?_
    have g : (sideV i x.1 && sideV i x.2) = false := by simp [*]
    refine ACode.region ?_
    refine .cons (.asg rfl rfl) ?_
    refine .nil ?_
    refine ks_n ?_
    refine ACode.ret ?_
    refine kb_r ?_
    refine ks_r ?_
    refine kl_r ?_
    refine kb_r ?_
    refine ks_r ?_
    refine kf_ret rfl ?_ nobox
    exact leafB (by rw [nsV, hF, nestG_drop hx1, g]; simp)
   ·try simp only [zs1, zs2, zs3, zs4, zs5, zs6, zs7] at h23
    refine ACode.skip ?_
    refine kb_n ?_
    refine ks_n ?_
    have g : (sideV i x.1 && sideV i x.2) = true := by simp [*]
    refine ACode.region ?_
    refine .cons (.pl rfl rfl rfl) ?_
    refine .cons (.mv rfl rfl) ?_
    refine .nil ?_
    refine kl_k [] ⟨i + 1, rfl, by omega, by rw [hF, nestG_drop hx1, g, Bool.true_and], rfl⟩ ⟨ks rfl .dt, ks rfl .dt, ks rfl .dt, ks rfl .dt, trivial⟩
 ·skip
  refine ACode.exit ?_
  refine ks_e ?_
  refine kl_e ?_
  refine kb_hit ?_
  refine ks_n ?_
  refine ACode.seq ?_
  refine ACode.region ?_
  refine .cons (.mv rfl rfl) ?_
  refine .cons (.ln 106 2 48 rfl rfl rfl) ?_
  refine .cons (.le rfl rfl rfl) ?_
  refine .cons (.asg rfl rfl) ?_
  refine .nil ?_
  refine ks_n ?_
  refine ACode.ret ?_
  refine kf_ret rfl ?_ nobox
  exact leafB (by rw [nsV, hF, List.drop_of_length_le (by omega), nestG, Bool.and_true, Bool.eq_iff_iff]; simp; omega)


set_option maxRecDepth 100000 in
set_option maxHeartbeats 1600000 in
theorem implNestPts_bad (ns : List Lp) (hs : bgN ns) (hb : nsV ns = false) : Fn Tryz.prog 56 [] [vD (dLs ns)] (.tup [vD (dPs (npR ns)), bo1 (okP ns)]) [] := by
 have hO : okP ns = false := by rw [okP, hb]; rfl
 have hN := npR_no hO
 refine Fn.code0 Tryz.func56 rfl rfl rfl rfl ?_
 refine ACode.seq ?_
 refine ACode.region ?_
 refine .cons (.asg rfl rfl) ?_
 refine .cons (.asg rfl rfl) ?_
 refine .nil ?_
 refine ks_n ?_
 refine ACode.seq ?_
 refine ACode.seq ?_
 refine ACode.region ?_
 refine .cons (.mv rfl rfl) ?_
 refine .cons (.cP [.tmp 5] rfl rfl rfl rfl (implNestV_B ns hs) rfl) ?_
 refine .cons (.nt rfl rfl) ?_
 refine .nil ?_
 refine ks_n ?_
 refine ACode.condT rfl (fun h7 => ?_) (fun h7 => ?_)
 ·try simp only [zs1, zs2, zs3, zs4, zs5, zs6, zs7] at h7
  refine ACode.seq ?_
  refine ACode.region ?_
  refine .cons (.asg rfl rfl) ?_
  refine .cons (.asg rfl rfl) ?_
  refine .nil ?_
  refine ks_n ?_
  refine ACode.ret ?_
  refine ks_r ?_
  refine kf_wret [(.t 2, .v (.o (vD (dPs (npR ns))))), (.t 3, .v (.o (bo1 (okP ns))))] (Wk.keep [] rfl rfl ⟨ks rfl (.c (Cto.nilE 1 (by rw [hN]; rfl))), ks rfl (.dt (by rw [hO])), trivial⟩) rfl ?_ nobox
  rfl
 ·try simp only [zs1, zs2, zs3, zs4, zs5, zs6, zs7] at h7
  rw [hb] at h7; cases h7


theorem implNestPts_B (ns : List Lp) (hs : bgN ns) : Fn Tryz.prog 56 [] [vD (dLs ns)] (.tup [vD (dPs (npR ns)), bo1 (okP ns)]) [] := by
  cases h : nsV ns with
  | true => exact implNestPts_fn ns (smN_of h)
  | false => exact implNestPts_bad ns hs h
theorem sz_bg {ns : List Lp} (h : szLs ns ≤ 1073741824) : bgN ns := by
  have hl := szLs_len ns
  refine ⟨by omega, fun l hl2 => ?_⟩
  have h1 := szLs_mem hl2
  have e : szL l = szAs l.1 + szAs l.2 := rfl
  have a1 := szAs_len l.1
  have a2 := szAs_len l.2
  exact ⟨by omega, by omega, fun x hx => by have := szAs_mem hx; omega, fun x hx => by have := szAs_mem hx; omega⟩
theorem mem_rdEs {a : Acc} : ∀ {l : List Ex}, a ∈ rdEs l → ∃ x ∈ l, a ∈ rdE x
  | [], h => by rw [rdEs] at h; cases h
  | x :: l, h => by
    rw [rdEs, List.mem_append] at h
    rcases h with h | h
    · exact ⟨x, by simp, h⟩
    · obtain ⟨y, hy, h2⟩ := mem_rdEs h
      exact ⟨y, by simp [hy], h2⟩
theorem rdE_acc {d : Nat} {a : Acc} : ∀ {L : Nat} {e : Ex}, exV d L e = true → a ∈ rdE e → accV d a = true
  | 0, e, h, _ => by cases h
  | L + 1, e, h, ha => by
    rw [exV, Bool.and_eq_true, Bool.and_eq_true] at h
    rw [rdE_eq, List.mem_append] at ha
    rcases ha with ha | ha
    · split at ha
      · rename_i hk
        have h2 := h.1.2
        rw [fldV, if_neg (by omega), if_neg (by omega), if_pos hk, Bool.and_eq_true] at h2
        rw [List.mem_singleton.1 ha]; exact h2.2
      · cases ha
    · obtain ⟨x, hx, h3⟩ := mem_rdEs ha
      exact rdE_acc (List.all_eq_true.1 h.2 x hx) h3
theorem stm_accs {D : Int} {s : Stm} (h : stmtV D s = true) : accV D.toNat s.1 = true ∧ (∀ a ∈ rdE s.2, accV D.toNat a = true) ∧ (rdE s.2).length ≤ 12 := by
  obtain ⟨h1, h2, h3, _⟩ := stmtV_ex h
  exact ⟨h2, fun a ha => rdE_acc h1 ha, Nat.le_trans (rdE_len s.2) h3⟩
theorem accG_not {ar : List Arr} {p : List Int} : (fun a => decide (cellG a p ar 0 < 0)) = fun a => !accG ar p a := by
  funext a; rw [accG, Bool.eq_iff_iff]; simp
theorem cloneInts_fn (p : List Int) (hp : p.length ≤ 4294967296) : Fn Tryz.prog 61 [] [vD (dIs p)] (.o (vD (dIs p))) [] :=
  Fn.pure fun B bx al w vs hv => by
    obtain ⟨v, rfl, h⟩ := vals1 hv
    have h3 := dr_ints h
    obtain ⟨a, n, c, rfl, rfl⟩ := sl_form h3
    exact (clone_any B a _ c p w h3 hp).mono fun e w' ⟨v, h1, h2, h4⟩ => ⟨_, h1, h4, ints_dr ((h2.sl (by omega)).mono fun b hb _ => .inr (h2.lt b hb).1)⟩

set_option maxRecDepth 100000 in
set_option maxHeartbeats 1600000 in
theorem idx_stm {f : FuncId} {cap : List (List D)} (hc : callable Tryz.prog f = true) (p : Stm → Bool) (xs : List Stm) (hx : xs.length ≤ 1099511627776) (hf : ∀ x ∈ xs, Fn Tryz.prog f [] (ad (rS x) :: cap.map fun c => .c (.ptr c)) (.o (bo1 (p x))) []) : Fn Tryz.prog 84 [] [vD (.list 9 (xs.map rS)), .c (.fn f cap)] (.o (nat1 (idxF p xs))) [] := by
 refine Fn.code0 Tryz.func84 rfl rfl rfl rfl ?_
 refine ACode.seq ?_
 refine ACode.region ?_
 refine .cons (.asg rfl rfl) ?_
 refine .nil ?_
 refine ks_n ?_
 refine ACode.seq ?_
 refine ACode.seq ?_
 refine ACode.region ?_
 refine .cons (.mv rfl rfl) ?_
 refine .cons (.ln 33 9 152 rfl rfl rfl) ?_
 refine .cons (.mv rfl rfl) ?_
 refine .nil ?_
 refine ks_n ?_
 refine ACode.block ?_
 refine .loopK (fun m σ => (∃ i : Nat, m = xs.length - i ∧ (i ≤ xs.length) ∧ (idxF p xs = idxG p i (xs.drop i)) ∧ σ = [(.t 0, .v (.o (vD (.list 9 (xs.map rS))))), (.t 1, .v (.o (.c (.fn f cap)))), (.t 7, .v (.o (nat1 (xs.length : Nat)))), (.t 8, .v (.o (nat1 (i : Nat))))])) [] ⟨0, rfl, by omega, rfl, rfl⟩ ⟨ks rfl .dt, ks rfl .dt, ks rfl .dt, ks rfl .dt, trivial⟩ ?_
 rintro m σ ⟨i, hm0, hi, hF, rfl⟩
 refine ACode.seq ?_
 refine ACode.region ?_
 refine .cons (.ls rfl rfl rfl) ?_
 refine .nil ?_
 refine ks_n ?_
 refine ACode.seq ?_
 refine .cD rfl (fun h9 => ?_) (fun h9 => ?_)
 ·skip
  obtain ⟨x, hx1⟩ : ∃ x_, xs[i]? = some x_ := ⟨_, List.getElem?_eq_getElem (by omega)⟩
  refine ACode.skip ?_
  refine ks_n ?_
  refine ACode.seq ?_
  refine ACode.block ?_
  refine ACode.seq ?_
  refine ACode.region ?_
  refine .cons (.mv rfl rfl) ?_
  refine .cons (.asg rfl rfl) ?_
  refine .nil ?_
  refine ks_n ?_
  refine ACode.seq ?_
  refine ACode.region ?_
  refine .cons (.mv rfl rfl) ?_
  refine .cons (.mv rfl rfl) ?_
  refine .cons (.mv rfl rfl) ?_
  refine .cons (.xL 33 9 152 rfl rfl rfl rfl rfl) ?_
  refine .cons (.lN 9 rfl rfl rfl) ?_
  refine .cons (.cP [.tmp 15] rfl rfl rfl rfl (hf x (List.mem_of_getElem? hx1)) rfl hc) ?_
  refine .nil ?_
  refine ks_n ?_
  refine ACode.condT rfl (fun h16 => ?_) (fun h16 => ?_)
  ·try simp only [zs1, zs2, zs3, zs4, zs5, zs6, zs7] at h16
   refine ACode.seq ?_
   refine ACode.region ?_
   refine .cons (.mv rfl rfl) ?_
   refine .cons (.asg rfl rfl) ?_
   refine .nil ?_
   refine ks_n ?_
   refine ACode.ret ?_
   refine kb_r ?_
   refine ks_r ?_
   refine kl_r ?_
   refine kb_r ?_
   refine ks_r ?_
   refine kf_ret rfl ?_ nobox
   exact leafI (by rw [hF, idxG_drop hx1, h16]; rfl)
  ·try simp only [zs1, zs2, zs3, zs4, zs5, zs6, zs7] at h16
   refine ACode.skip ?_
   refine kb_n ?_
   refine ks_n ?_
   refine ACode.region ?_
   refine .cons (.pl rfl rfl rfl) ?_
   refine .cons (.mv rfl rfl) ?_
   refine .nil ?_
   refine kl_k [] ⟨i + 1, rfl, by omega, by rw [hF, idxG_drop hx1, h16]; rfl, rfl⟩ ⟨ks rfl .dt, ks rfl .dt, ks rfl .dt, ks rfl .dt, trivial⟩
 ·skip
  refine ACode.exit ?_
  refine ks_e ?_
  refine kl_e ?_
  refine kb_hit ?_
  refine ks_n ?_
  refine ACode.seq ?_
  refine ACode.region ?_
  refine .cons (.asg rfl rfl) ?_
  refine .nil ?_
  refine ks_n ?_
  refine ACode.ret ?_
  refine kf_ret rfl ?_ nobox
  exact leafI (by rw [hF, List.drop_of_length_le (by omega)]; rfl)

set_option maxRecDepth 100000 in
set_option maxHeartbeats 1600000 in
theorem cnt_stm {f : FuncId} {cap : List (List D)} (hc : callable Tryz.prog f = true) (p : Stm → Bool) (xs : List Stm) (hx : xs.length ≤ 1099511627776) (hf : ∀ x ∈ xs, Fn Tryz.prog f [] (ad (rS x) :: cap.map fun c => .c (.ptr c)) (.o (bo1 (p x))) []) : Fn Tryz.prog 57 [] [vD (.list 9 (xs.map rS)), .c (.fn f cap)] (.o (bo1 (xs.any p))) [] := by
 refine Fn.code0 Tryz.func57 rfl rfl rfl rfl ?_
 refine ACode.seq ?_
 refine ACode.region ?_
 refine .cons (.asg rfl rfl) ?_
 refine .nil ?_
 refine ks_n ?_
 refine ACode.seq ?_
 refine ACode.region ?_
 refine .cons (.mv rfl rfl) ?_
 refine .cons (.mv rfl rfl) ?_
 refine .cons (.cP [.tmp 5, .tmp 6] rfl rfl rfl rfl (idx_stm hc p xs hx hf) rfl) ?_
 refine .cons (.ge rfl rfl rfl) ?_
 refine .cons (.asg rfl rfl) ?_
 refine .nil ?_
 refine ks_n ?_
 refine ACode.ret ?_
 refine kf_ret rfl ?_ nobox
 exact leafB idxG_any

set_option maxRecDepth 100000 in
set_option maxHeartbeats 1600000 in
theorem sok1_fn {g : Prg} (hv : arrsV g.1 = true) {D : Nat} {a : Acc} {p : List Int} (ha : accV D a = true) (hS : Small p) (hn : p.length ≤ 4) : Fn Tryz.prog 88 [] [ad (rC a), .c (.ptr (rG g)), .c (.ptr [dIs p])] (.o (bo1 (decide (cellG a p g.1 0 < 0)))) [] := by
 refine Fn.code0 Tryz.func88 rfl rfl rfl rfl ?_
 refine ACode.seq ?_
 refine ACode.region ?_
 refine .cons (St1.boxP rfl rfl rfl rfl rfl rfl) ?_
 refine .cons (.asg rfl rfl) ?_
 refine .nil ?_
 refine ks_n ?_
 refine ACode.seq ?_
 refine ACode.region ?_
 refine .cons (.lN 2 rfl rfl rfl) ?_
 refine .cons (.lN 2 rfl rfl rfl) ?_
 refine .cons (.l1 1 rfl rfl) ?_
 refine .cons (.cP [.tmp 5, .tmp 6, .tmp 7] rfl rfl rfl rfl (cell_fn hv ha hS hn) rfl) ?_
 refine .cons (.ls rfl rfl rfl) ?_
 refine .cons (.asg rfl rfl) ?_
 refine .nil ?_
 refine ks_n ?_
 refine ACode.ret ?_
 refine kf_ret rfl ?_ nobox
 rfl

set_option maxRecDepth 100000 in
set_option maxHeartbeats 1600000 in
theorem sok_fn {g : Prg} (hv : arrsV g.1 = true) {D : Int} {s : Stm} {p : List Int} (hs : stmtV D s = true) (hS : Small p) (hn : p.length ≤ 4) : Fn Tryz.prog 60 [] [ad (rG g), ad (rS s), vD (dIs p)] (.o (bo1 (stmG g.1 s p))) [] := by
 obtain ⟨ha, hr, hrl⟩ := stm_accs hs
 refine Fn.code0 Tryz.func60 rfl rfl rfl rfl ?_
 refine ACode.seq ?_
 refine ACode.region ?_
 refine .cons (St1.boxP rfl rfl rfl rfl rfl rfl) ?_
 refine .cons (St1.boxP rfl rfl rfl rfl rfl rfl) ?_
 refine .cons (St1.boxP rfl rfl rfl rfl rfl rfl) ?_
 refine .cons (.asg rfl rfl) ?_
 refine .nil ?_
 refine ks_n ?_
 refine ACode.seq ?_
 refine ACode.region ?_
 refine .cons (.lN 2 rfl rfl rfl) ?_
 refine .cons (.fP 0 1 true rfl rfl) ?_
 refine .cons (.lN 2 rfl rfl rfl) ?_
 refine .cons (.l1 1 rfl rfl) ?_
 refine .cons (.cP [.tmp 7, .tmp 9, .tmp 10] rfl rfl rfl rfl (cell_fn hv ha hS hn) rfl) ?_
 refine .cons (.ge rfl rfl rfl) ?_
 refine .cons (.mv rfl rfl) ?_
 refine .cD 13 rfl (fun g13 => ?_) (fun g13 => ?_)
 ·skip
  refine .cons (.gT rfl rfl rfl (.fP 2 6 true rfl rfl)) ?_
  refine .cons (.gT rfl rfl rfl (.lN 7 rfl rfl rfl)) ?_
  refine .cons (.gT rfl rfl rfl (.cP [.tmp 15] rfl rfl rfl rfl (reads_fn (L := 5) s.2 (by omega) (stmtV_ex hs).1) rfl)) ?_
  refine .cons (.gT rfl rfl rfl (St1.makeFunc (xs := [.tmp 3, .tmp 5]) rfl rfl rfl rfl rfl rfl rfl)) ?_
  refine .cons (.gT rfl rfl rfl (.cP [.tmp 16, .tmp 17] rfl rfl rfl rfl (cnt_acc (f := 88) (cap := [rG g, [dIs p]]) (by kernel_rfl) (fun a => decide (cellG a p g.1 0 < 0)) (rdE s.2) (by omega) (fun a ha => sok1_fn hv (hr a ha) hS hn)) rfl)) ?_
  refine .cons (.gT rfl rfl rfl (.nt rfl rfl)) ?_
  refine .cons (.pT rfl rfl rfl) ?_
  refine .cons (.asg rfl rfl) ?_
  refine .nil ?_
  refine ks_n ?_
  refine ACode.ret ?_
  refine kf_ret rfl ?_ nobox
  exact leafB (by rw [stmG, accG]; first | (rw [accG_not, nany]; simp [*]; done) | (simp [*]; done))
 ·skip
  refine .cons (.gF rfl rfl rfl) ?_
  refine .cons (.gF rfl rfl rfl) ?_
  refine .cons (.gF rfl rfl rfl) ?_
  refine .cons (.gF rfl rfl rfl) ?_
  refine .cons (.gF rfl rfl rfl) ?_
  refine .cons (.gF rfl rfl rfl) ?_
  refine .cons (.pF rfl rfl rfl) ?_
  refine .cons (.asg rfl rfl) ?_
  refine .nil ?_
  refine ks_n ?_
  refine ACode.ret ?_
  refine kf_ret rfl ?_ nobox
  exact leafB (by rw [stmG, accG]; first | (rw [accG_not, nany]; simp [*]; done) | (simp [*]; done))

set_option maxRecDepth 100000 in
set_option maxHeartbeats 1600000 in
theorem ins1_fn {q : Prt} {s : Stm} (hs : szS s ≤ 1073741824) : Fn Tryz.prog 58 [] [ad (rS s), .c (.ptr (rP q))] (.o (bo1 (!stmtV (q.1.length : Nat) s))) [] := by
 refine Fn.code0 Tryz.func58 rfl rfl rfl rfl ?_
 refine ACode.seq ?_
 refine ACode.region ?_
 refine .cons (St1.boxP rfl rfl rfl rfl rfl rfl) ?_
 refine .cons (.asg rfl rfl) ?_
 refine .nil ?_
 refine ks_n ?_
 refine ACode.seq ?_
 refine ACode.region ?_
 refine .cons (.lN 9 rfl rfl rfl) ?_
 refine .cons (.fP 0 0 false rfl rfl) ?_
 refine .cons (.l1 1 rfl rfl) ?_
 refine .cons (.ln 106 2 48 rfl rfl rfl) ?_
 refine .cons (.cP [.tmp 4, .tmp 7] rfl rfl rfl rfl (implStmtV_fn (q.1.length : Nat) s (by omega)) rfl) ?_
 refine .cons (.nt rfl rfl) ?_
 refine .cons (.asg rfl rfl) ?_
 refine .nil ?_
 refine ks_n ?_
 refine ACode.ret ?_
 refine kf_ret rfl ?_ nobox
 rfl
theorem all_of {α : Type} {l : List α} {p : α → Bool} (h : ∀ (j : Nat) x, l[j]? = some x → p x = true) : l.all p = true := by
  rw [List.all_eq_true]
  intro x hx
  obtain ⟨j, hj⟩ := List.mem_iff_getElem?.1 hx
  exact h j x hj

set_option maxRecDepth 100000 in
set_option maxHeartbeats 1600000 in
theorem instances_fn {g : Prg} (hs : szG g ≤ 1073741824) : Fn Tryz.prog 32 [] [ad (rG g)] (.tup [vD (dNs (insV g)), bo1 (prgV g)]) [] := by
 have h1 := szO_len (f := szR) g.1
 have h2 := szO_len (f := szPt) g.2
 have hsz : szG g = szO szR g.1 + szO szPt g.2 := rfl
 refine Fn.code0 Tryz.func32 rfl rfl rfl rfl ?_
 refine ACode.seq ?_
 refine ACode.region ?_
 refine .cons (St1.boxP rfl rfl rfl rfl rfl rfl) ?_
 refine .cons (.asg rfl rfl) ?_
 refine .cons (.asg rfl rfl) ?_
 refine .nil ?_
 refine ks_n ?_
 refine ACode.seq ?_
 refine ACode.seq ?_
 refine ACode.region ?_
 refine .cons (.fP 0 0 false rfl rfl) ?_
 refine .cons (.l1 1 rfl rfl) ?_
 refine .cons (.cP [.tmp 14] rfl rfl rfl rfl (arraysOk_fn g.1 (by omega) (fun x hx => by have := szO_mem (f := szR) hx; have e : szR x = x.1.size + x.2.length := rfl; omega)) rfl) ?_
 refine .cons (.nt rfl rfl) ?_
 refine .cons (.mv rfl rfl) ?_
 refine AOps.cases 17 _ rfl (fun g17 => ?_) (fun g17 => ?_)
 ·try simp only [zs1, zs2, zs3, zs4, zs5, zs6, zs7] at g17
  refine .cons (.gF rfl rfl rfl) ?_
  refine .cons (.gF rfl rfl rfl) ?_
  refine .cons (.gF rfl rfl rfl) ?_
  refine .cons (.gF rfl rfl rfl) ?_
  refine .cons (.pT rfl rfl rfl) ?_
  refine .nil ?_
  refine ks_n ?_
  refine ACode.condT rfl (fun _ => ?_) (fun h => by first | (cases h; done) | (simp [*] at h; done) | (exfalso; simp_all; done))
  refine ACode.seq ?_
  obtain ⟨hO, hN⟩ := prgV_f (g := g) (by first | exact prgS_f2 (show ¬ g.2.length ≤ 4 by omega) | exact prgS_f1 (by assumption))
  refine ACode.region ?_
  refine .cons (.asg rfl rfl) ?_
  refine .cons (.asg rfl rfl) ?_
  refine .nil ?_
  refine ks_n ?_
  refine ACode.ret ?_
  refine ks_r ?_
  refine kf_wret [(.t 2, .v (.o (vD (dNs (insV g))))), (.t 3, .v (.o (bo1 (prgV g))))] (Wk.keep [] rfl rfl ⟨ks rfl (.c (Cto.nilE 3 (by first | (rw [hN]; rfl) | (rw [hN, hEz]; rfl)))), ks rfl (.dt (by first | exact congrArg (fun b => V.o (bo1 b)) hO.symm | exact congrArg (fun b => V.o (bo1 b)) (by rw [hO, hEz, decide_eq_decide]; simp) | exact congrArg (fun b => V.o (bo1 b)) (by rw [hO, hEz, decide_eq_decide]; omega))), trivial⟩) rfl ?_ nobox
  rfl
 ·try simp only [zs1, zs2, zs3, zs4, zs5, zs6, zs7] at g17
  refine .cons (.gT rfl rfl rfl (.fP 1 0 false rfl rfl)) ?_
  refine .cons (.gT rfl rfl rfl (.l1 1 rfl rfl)) ?_
  refine .cons (.gT rfl rfl rfl (.ln 43 2 48 rfl rfl rfl)) ?_
  refine .cons (.gT rfl rfl rfl (.gt rfl rfl rfl)) ?_
  refine .cons (.pF rfl rfl rfl) ?_
  refine .nil ?_
  refine ks_n ?_
  refine ACode.condT rfl (fun h22 => ?_) (fun h22 => ?_)
  ·try simp only [zs1, zs2, zs3, zs4, zs5, zs6, zs7] at h22
   refine ACode.seq ?_
   obtain ⟨hO, hN⟩ := prgV_f (g := g) (by first | exact prgS_f2 (show ¬ g.2.length ≤ 4 by omega) | exact prgS_f1 (by assumption))
   refine ACode.region ?_
   refine .cons (.asg rfl rfl) ?_
   refine .cons (.asg rfl rfl) ?_
   refine .nil ?_
   refine ks_n ?_
   refine ACode.ret ?_
   refine ks_r ?_
   refine kf_wret [(.t 2, .v (.o (vD (dNs (insV g))))), (.t 3, .v (.o (bo1 (prgV g))))] (Wk.keep [] rfl rfl ⟨ks rfl (.c (Cto.nilE 3 (by first | (rw [hN]; rfl) | (rw [hN, hEz]; rfl)))), ks rfl (.dt (by first | exact congrArg (fun b => V.o (bo1 b)) hO.symm | exact congrArg (fun b => V.o (bo1 b)) (by rw [hO, hEz, decide_eq_decide]; simp) | exact congrArg (fun b => V.o (bo1 b)) (by rw [hO, hEz, decide_eq_decide]; omega))), trivial⟩) rfl ?_ nobox
   rfl
  ·try simp only [zs1, zs2, zs3, zs4, zs5, zs6, zs7] at h22
   have hA : arrsV g.1 = true := by first | assumption | simp_all
   have h4 : g.2.length ≤ 4 := by omega
   refine ACode.skip ?_
   refine ks_n ?_
   refine ACode.seq ?_
   refine ACode.region ?_
   refine .cons (.asg rfl rfl) ?_
   refine .nil ?_
   refine ks_n ?_
   refine ACode.seq ?_
   refine ACode.seq ?_
   refine ACode.region ?_
   refine .cons (.fP 1 0 false rfl rfl) ?_
   refine .cons (.l1 1 rfl rfl) ?_
   refine .cons (.ln 43 2 48 rfl rfl rfl) ?_
   refine .cons (.mv rfl rfl) ?_
   refine .nil ?_
   refine ks_n ?_
   refine ACode.block ?_
   refine .loopK (fun m σ => (∃ k : Nat, m = g.2.length - k ∧ (k ≤ g.2.length) ∧ (∀ j q, j < k → g.2[j]? = some q → prtV g.1 q = true) ∧ (insG 0 (g.2.take k) = []) ∧ σ = [(.t 1, .v (.o (.c (.ptr (rG g))))), (.t 4, .v (.o (.c (.d (.val (.slice none 0 0)))))), (.t 24, .v (.o (vD (dPts g.2)))), (.t 25, .v (.o (nat1 (g.2.length : Nat)))), (.t 26, .v (.o (nat1 (k : Nat))))]) ∨ (∃ (k : Nat) (o : List Ins), m = g.2.length - k ∧ (k ≤ g.2.length) ∧ (∀ j q, j < k → g.2[j]? = some q → prtV g.1 q = true) ∧ (insG 0 (g.2.take k) = o) ∧ (o.length ≤ 480 * k) ∧ σ = [(.t 1, .v (.o (.c (.ptr (rG g))))), (.t 4, .v (.o (.c (.own 110 3 (o.length))))), (.t 24, .v (.o (vD (dPts g.2)))), (.t 25, .v (.o (nat1 (g.2.length : Nat)))), (.t 26, .v (.o (nat1 (k : Nat)))), (.b 110, .b 50 3 (dR (o.map rN))), (.u 110, .u)])) [] (.inl ⟨0, rfl, by omega, fun j q hj _ => absurd hj (by omega), rfl, rfl⟩) ⟨ks rfl .dt, ks rfl .dt, ks rfl .dt, ks rfl .dt, ks rfl .dt, trivial⟩ ?_
   rintro m σ (⟨k, hm0, hk, hF, hE, rfl⟩ | ⟨k, o, hm0, hk, hF, hE, ho, rfl⟩)
   ·skip
    refine ACode.seq ?_
    refine ACode.region ?_
    refine .cons (.ls rfl rfl rfl) ?_
    refine .nil ?_
    refine ks_n ?_
    refine ACode.seq ?_
    refine .cD rfl (fun h27 => ?_) (fun h27 => ?_)
    ·skip
     obtain ⟨q, hq1⟩ : ∃ x_, g.2[k]? = some x_ := ⟨_, List.getElem?_eq_getElem (by omega)⟩
     have hqm := List.mem_of_getElem? hq1
     have hqs := szO_mem (f := szPt) hqm
     have hqe : szPt q = szLs q.1 + szO szS q.2 := rfl
     have hbg := sz_bg (ns := q.1) (by omega)
     have hql := szO_len (f := szS) q.2
     refine ACode.skip ?_
     refine ks_n ?_
     refine ACode.seq ?_
     refine ACode.block ?_
     refine ACode.seq ?_
     refine ACode.region ?_
     refine .cons (.mv rfl rfl) ?_
     refine .cons (.xL 43 2 48 rfl rfl rfl rfl rfl) ?_
     refine .cons (.lN 2 rfl rfl rfl) ?_
     refine .cons (.al 106 [.slice none 0 0, .slice none 0 0] rfl rfl rfl) ?_
     refine .cons (.asg rfl rfl) ?_
     refine .cons (.sT 2 true rfl rfl rfl rfl rfl rfl rfl) ?_
     refine .nil ?_
     refine ks_n ?_
     refine ACode.seq ?_
     refine .keep [(.t 1, .v (.o (.c (.ptr (rG g))))), (.t 4, .v (.o (.c (.d (.val (.slice none 0 0)))))), (.t 5, .v (.o (nat1 (k : Nat)))), (.t 6, .v (.o (.c (.ptr (rP q))))), (.t 24, .v (.o (vD (dPts g.2)))), (.t 25, .v (.o (nat1 (g.2.length : Nat)))), (.t 26, .v (.o (nat1 (k : Nat))))] [] ⟨ks rfl .dt, ks rfl .dt, ks rfl .dt, ks rfl (.c (.frzP _ _ _ _ _ _ _ _ rfl (show _ = dR [rP q] from rfl) rfl rfl rfl)), ks rfl .dt, ks rfl .dt, ks rfl .dt, trivial⟩ ?_
     refine ACode.region ?_
     refine .cons (.fP 0 0 false rfl rfl) ?_
     refine .cons (.l1 1 rfl rfl) ?_
     refine .cons (.cP [.tmp 33] rfl rfl rfl rfl (implNestPts_B q.1 hbg) rfl) ?_
     refine .cons (.mv rfl rfl) ?_
     refine .cons (.ex rfl rfl rfl) ?_
     refine .cons (.ex rfl rfl rfl) ?_
     refine .cons (.asg rfl rfl) ?_
     refine .cons (.asg rfl rfl) ?_
     refine .nil ?_
     refine ks_n ?_
     refine ACode.seq ?_
     refine ACode.seq ?_
     refine ACode.region ?_
     refine .cons (.mv rfl rfl) ?_
     refine .cons (.nt rfl rfl) ?_
     refine .cons (.mv rfl rfl) ?_
     refine AOps.cases 39 _ rfl (fun g39 => ?_) (fun g39 => ?_)
     ·try simp only [zs1, zs2, zs3, zs4, zs5, zs6, zs7] at g39
      refine .cons (.gF rfl rfl rfl) ?_
      refine .cons (.gF rfl rfl rfl) ?_
      refine .cons (.gF rfl rfl rfl) ?_
      refine .cons (.gF rfl rfl rfl) ?_
      refine .cons (.gF rfl rfl rfl) ?_
      refine .cons (.pT rfl rfl rfl) ?_
      refine .cons (.mv rfl rfl) ?_
      refine .cons (.gF rfl rfl rfl) ?_
      refine .cons (.gF rfl rfl rfl) ?_
      refine .cons (.gF rfl rfl rfl) ?_
      refine .cons (.gF rfl rfl rfl) ?_
      refine .cons (.pT rfl rfl rfl) ?_
      refine .nil ?_
      refine ks_n ?_
      refine ACode.condT rfl (fun _ => ?_) (fun h => by first | (cases h; done) | (simp [*] at h; done) | (exfalso; simp_all; done))
      refine ACode.seq ?_
      have hbad : prtV g.1 q = false := by first | exact prtV_f1 (by assumption) | exact prtV_f2 (fun h => by simp_all [inB]; omega) | (obtain ⟨s, hs, hs2⟩ := List.any_eq_true.1 (by assumption); exact prtV_f3 hs (by simpa using hs2))
      obtain ⟨hO, hN⟩ := prgV_f (g := g) (prgS_f3 hqm hbad)
      refine ACode.region ?_
      refine .cons (.asg rfl rfl) ?_
      refine .cons (.asg rfl rfl) ?_
      refine .nil ?_
      refine ks_n ?_
      refine ACode.ret ?_
      refine ks_r ?_
      refine kb_r ?_
      refine ks_r ?_
      refine kl_r ?_
      refine kb_r ?_
      refine ks_r ?_
      refine kf_wret [(.t 2, .v (.o (vD (dNs (insV g))))), (.t 3, .v (.o (bo1 (prgV g))))] (Wk.keep [] rfl rfl ⟨ks rfl (.c (Cto.nilE 3 (by first | (rw [hN]; rfl) | (rw [hN, hEz]; rfl)))), ks rfl (.dt (by first | exact congrArg (fun b => V.o (bo1 b)) hO.symm | exact congrArg (fun b => V.o (bo1 b)) (by rw [hO, hEz, decide_eq_decide]; simp) | exact congrArg (fun b => V.o (bo1 b)) (by rw [hO, hEz, decide_eq_decide]; omega))), trivial⟩) rfl ?_ nobox
      rfl
     ·try simp only [zs1, zs2, zs3, zs4, zs5, zs6, zs7] at g39
      refine .cons (.gT rfl rfl rfl (.fP 1 0 false rfl rfl)) ?_
      refine .cons (.gT rfl rfl rfl (.l1 1 rfl rfl)) ?_
      refine .cons (.gT rfl rfl rfl (.ln 33 9 152 rfl rfl rfl)) ?_
      refine .cons (.gT rfl rfl rfl (.cP [.tmp 42, .const (.int .i64 (1)), .const (.int .i64 (4))] rfl rfl rfl rfl (within_fn _ 1 4) rfl)) ?_
      refine .cons (.gT rfl rfl rfl (.nt rfl rfl)) ?_
      refine .cons (.pF rfl rfl rfl) ?_
      refine .cons (.mv rfl rfl) ?_
      refine AOps.cases 46 _ rfl (fun g46 => ?_) (fun g46 => ?_)
      ·try simp only [zs1, zs2, zs3, zs4, zs5, zs6, zs7] at g46
       refine .cons (.gF rfl rfl rfl) ?_
       refine .cons (.gF rfl rfl rfl) ?_
       refine .cons (.gF rfl rfl rfl) ?_
       refine .cons (.gF rfl rfl rfl) ?_
       refine .cons (.pT rfl rfl rfl) ?_
       refine .nil ?_
       refine ks_n ?_
       refine ACode.condT rfl (fun _ => ?_) (fun h => by first | (cases h; done) | (simp [*] at h; done) | (exfalso; simp_all; done))
       refine ACode.seq ?_
       have hbad : prtV g.1 q = false := by first | exact prtV_f1 (by assumption) | exact prtV_f2 (fun h => by simp_all [inB]; omega) | (obtain ⟨s, hs, hs2⟩ := List.any_eq_true.1 (by assumption); exact prtV_f3 hs (by simpa using hs2))
       obtain ⟨hO, hN⟩ := prgV_f (g := g) (prgS_f3 hqm hbad)
       refine ACode.region ?_
       refine .cons (.asg rfl rfl) ?_
       refine .cons (.asg rfl rfl) ?_
       refine .nil ?_
       refine ks_n ?_
       refine ACode.ret ?_
       refine ks_r ?_
       refine kb_r ?_
       refine ks_r ?_
       refine kl_r ?_
       refine kb_r ?_
       refine ks_r ?_
       refine kf_wret [(.t 2, .v (.o (vD (dNs (insV g))))), (.t 3, .v (.o (bo1 (prgV g))))] (Wk.keep [] rfl rfl ⟨ks rfl (.c (Cto.nilE 3 (by first | (rw [hN]; rfl) | (rw [hN, hEz]; rfl)))), ks rfl (.dt (by first | exact congrArg (fun b => V.o (bo1 b)) hO.symm | exact congrArg (fun b => V.o (bo1 b)) (by rw [hO, hEz, decide_eq_decide]; simp) | exact congrArg (fun b => V.o (bo1 b)) (by rw [hO, hEz, decide_eq_decide]; omega))), trivial⟩) rfl ?_ nobox
       rfl
      ·try simp only [zs1, zs2, zs3, zs4, zs5, zs6, zs7] at g46
       refine .cons (.gT rfl rfl rfl (.fP 1 0 false rfl rfl)) ?_
       refine .cons (.gT rfl rfl rfl (.l1 1 rfl rfl)) ?_
       refine .cons (.gT rfl rfl rfl (St1.makeFunc (xs := [.tmp 6]) rfl rfl rfl rfl rfl rfl rfl)) ?_
       refine .cons (.gT rfl rfl rfl (.cP [.tmp 48, .tmp 49] rfl rfl rfl rfl (cnt_stm (f := 58) (cap := [rP q]) (by kernel_rfl) (fun s => !stmtV (q.1.length : Nat) s) q.2 (by omega) (fun s hs => ins1_fn (by have := szO_mem (f := szS) hs; omega))) rfl)) ?_
       refine .cons (.pF rfl rfl rfl) ?_
       refine .nil ?_
       refine ks_n ?_
       refine ACode.condT rfl (fun h51 => ?_) (fun h51 => ?_)
       ·try simp only [zs1, zs2, zs3, zs4, zs5, zs6, zs7] at h51
        refine ACode.seq ?_
        have hbad : prtV g.1 q = false := by first | exact prtV_f1 (by assumption) | exact prtV_f2 (fun h => by simp_all [inB]; omega) | (obtain ⟨s, hs, hs2⟩ := List.any_eq_true.1 (by assumption); exact prtV_f3 hs (by simpa using hs2))
        obtain ⟨hO, hN⟩ := prgV_f (g := g) (prgS_f3 hqm hbad)
        refine ACode.region ?_
        refine .cons (.asg rfl rfl) ?_
        refine .cons (.asg rfl rfl) ?_
        refine .nil ?_
        refine ks_n ?_
        refine ACode.ret ?_
        refine ks_r ?_
        refine kb_r ?_
        refine ks_r ?_
        refine kl_r ?_
        refine kb_r ?_
        refine ks_r ?_
        refine kf_wret [(.t 2, .v (.o (vD (dNs (insV g))))), (.t 3, .v (.o (bo1 (prgV g))))] (Wk.keep [] rfl rfl ⟨ks rfl (.c (Cto.nilE 3 (by first | (rw [hN]; rfl) | (rw [hN, hEz]; rfl)))), ks rfl (.dt (by first | exact congrArg (fun b => V.o (bo1 b)) hO.symm | exact congrArg (fun b => V.o (bo1 b)) (by rw [hO, hEz, decide_eq_decide]; simp) | exact congrArg (fun b => V.o (bo1 b)) (by rw [hO, hEz, decide_eq_decide]; omega))), trivial⟩) rfl ?_ nobox
        rfl
       ·try simp only [zs1, zs2, zs3, zs4, zs5, zs6, zs7] at h51
        have hv1 : okP q.1 = true := by first | assumption | simp_all
        have hv2 : 1 ≤ q.2.length ∧ q.2.length ≤ 4 := by simp_all [inB]; omega
        have hv3 : ∀ s ∈ q.2, stmtV (q.1.length : Nat) s = true := by simp_all
        refine ACode.skip ?_
        refine ks_n ?_
        refine ACode.seq ?_
        refine ACode.region ?_
        refine .cons (.mv rfl rfl) ?_
        refine .cons (.ln 26 1 24 rfl rfl rfl) ?_
        refine .cons (.mv rfl rfl) ?_
        refine .nil ?_
        refine ks_n ?_
        refine ACode.block ?_
        refine .loopK (fun m σ => (∃ i : Nat, m = (npR q.1).length - i ∧ (i = 0) ∧ σ = [(.t 1, .v (.o (.c (.ptr (rG g))))), (.t 4, .v (.o (.c (.d (.val (.slice none 0 0)))))), (.t 5, .v (.o (nat1 (k : Nat)))), (.t 6, .v (.o (.c (.ptr (rP q))))), (.t 24, .v (.o (vD (dPts g.2)))), (.t 25, .v (.o (nat1 (g.2.length : Nat)))), (.t 26, .v (.o (nat1 (k : Nat)))), (.t 52, .v (.o (vD (dPs (npR q.1))))), (.t 53, .v (.o (nat1 ((npR q.1).length : Nat)))), (.t 54, .v (.o (nat1 (i : Nat))))]) ∨ (∃ (i : Nat) (o2 : List Ins), m = (npR q.1).length - i ∧ (i ≤ (npR q.1).length) ∧ (∀ j p, j < i → (npR q.1)[j]? = some p → ptG' g.1 q.2 p = true) ∧ ([] ++ insT k q.2.length ((npR q.1).take i) = o2) ∧ (o2.length ≤ 480 * k + 4 * i) ∧ σ = [(.t 1, .v (.o (.c (.ptr (rG g))))), (.t 4, .v (.o (.c (.own 120 3 (o2.length))))), (.t 5, .v (.o (nat1 (k : Nat)))), (.t 6, .v (.o (.c (.ptr (rP q))))), (.t 24, .v (.o (vD (dPts g.2)))), (.t 25, .v (.o (nat1 (g.2.length : Nat)))), (.t 26, .v (.o (nat1 (k : Nat)))), (.t 52, .v (.o (vD (dPs (npR q.1))))), (.t 53, .v (.o (nat1 ((npR q.1).length : Nat)))), (.t 54, .v (.o (nat1 (i : Nat)))), (.b 120, .b 50 3 (dR (o2.map rN))), (.u 120, .u)])) [] (.inl ⟨0, rfl, rfl, rfl⟩) ⟨ks rfl .dt, ks rfl .dt, ks rfl .dt, ks rfl .dt, ks rfl .dt, ks rfl .dt, ks rfl .dt, ks rfl .dt, ks rfl .dt, ks rfl .dt, trivial⟩ ?_
        rintro m σ (⟨i, hm0, rfl, rfl⟩ | ⟨i, o2, hm0, hi, hG, hEo, ho2, rfl⟩)
        ·skip
         refine ACode.seq ?_
         refine ACode.region ?_
         refine .cons (.ls rfl rfl rfl) ?_
         refine .nil ?_
         refine ks_n ?_
         refine ACode.seq ?_
         refine .cD rfl (fun h55 => ?_) (fun h55 => ?_)
         ·skip
          obtain ⟨p, hp1⟩ : ∃ x_, (npR q.1)[0]? = some x_ := ⟨_, List.getElem?_eq_getElem (by omega)⟩
          have hpm := List.mem_of_getElem? hp1
          have hpt := npR_pt hpm
          have hnl := npR_len q.1
          refine ACode.skip ?_
          refine ks_n ?_
          refine ACode.seq ?_
          refine ACode.block ?_
          refine ACode.seq ?_
          refine ACode.region ?_
          refine .cons (.xL 26 1 24 rfl rfl rfl rfl rfl) ?_
          refine .cons (.l1 1 rfl rfl) ?_
          refine .cons (.asg rfl rfl) ?_
          refine .nil ?_
          refine ks_n ?_
          refine ACode.seq ?_
          refine ACode.seq ?_
          refine ACode.region ?_
          refine .cons (.mv rfl rfl) ?_
          refine .cons (.cP [.tmp 58] rfl rfl rfl rfl (isPoint_fn _) rfl) ?_
          refine .cons (.nt rfl rfl) ?_
          refine .nil ?_
          refine ks_n ?_
          refine ACode.condT rfl (fun h60 => ?_) (fun h60 => ?_)
          ·try simp only [zs1, zs2, zs3, zs4, zs5, zs6, zs7] at h60
           refine ACode.seq ?_
           obtain ⟨hO, hN⟩ := prgV_f (g := g) (prgS_f3 hqm (prtV_f4 hpm (by assumption)))
           refine ACode.region ?_
           refine .cons (.asg rfl rfl) ?_
           refine .cons (.asg rfl rfl) ?_
           refine .nil ?_
           refine ks_n ?_
           refine ACode.ret ?_
           refine ks_r ?_
           refine kb_r ?_
           refine ks_r ?_
           refine kl_r ?_
           refine kb_r ?_
           refine kb_r ?_
           refine ks_r ?_
           refine kl_r ?_
           refine kb_r ?_
           refine ks_r ?_
           refine kf_wret [(.t 2, .v (.o (vD (dNs (insV g))))), (.t 3, .v (.o (bo1 (prgV g))))] (Wk.keep [] rfl rfl ⟨ks rfl (.c (Cto.nilE 3 (by first | (rw [hN]; rfl) | (rw [hN, hEz]; rfl)))), ks rfl (.dt (by first | exact congrArg (fun b => V.o (bo1 b)) hO.symm | exact congrArg (fun b => V.o (bo1 b)) (by rw [hO, hEz, decide_eq_decide]; simp) | exact congrArg (fun b => V.o (bo1 b)) (by rw [hO, hEz, decide_eq_decide]; omega))), trivial⟩) rfl ?_ nobox
           rfl
          ·try simp only [zs1, zs2, zs3, zs4, zs5, zs6, zs7] at h60
           refine ACode.skip ?_
           refine ks_n ?_
           refine ACode.seq ?_
           refine ACode.region ?_
           refine .cons (.fP 1 0 false rfl rfl) ?_
           refine .cons (.l1 1 rfl rfl) ?_
           refine .cons (.ln 33 9 152 rfl rfl rfl) ?_
           refine .cons (.mv rfl rfl) ?_
           refine .nil ?_
           refine ks_n ?_
           refine ACode.block ?_
           refine .loopK (fun m σ => (∃ j : Nat, m = q.2.length - j ∧ (j = 0) ∧ σ = [(.t 1, .v (.o (.c (.ptr (rG g))))), (.t 4, .v (.o (.c (.d (.val (.slice none 0 0)))))), (.t 5, .v (.o (nat1 (k : Nat)))), (.t 6, .v (.o (.c (.ptr (rP q))))), (.t 10, .v (.o (vD (dIs p)))), (.t 24, .v (.o (vD (dPts g.2)))), (.t 25, .v (.o (nat1 (g.2.length : Nat)))), (.t 26, .v (.o (nat1 (k : Nat)))), (.t 52, .v (.o (vD (dPs (npR q.1))))), (.t 53, .v (.o (nat1 ((npR q.1).length : Nat)))), (.t 54, .v (.o (nat1 (0 : Nat)))), (.t 62, .v (.o (vD (dMs q.2)))), (.t 63, .v (.o (nat1 (q.2.length : Nat)))), (.t 64, .v (.o (nat1 (j : Nat))))]) ∨ (∃ (j : Nat) (o3 : List Ins), m = q.2.length - j ∧ (j ≤ q.2.length) ∧ (∀ t s, t < j → q.2[t]? = some s → stmG g.1 s p = true) ∧ ([] ++ rowI k j p = o3) ∧ (o3.length ≤ 480 * k + 4 * 0 + j) ∧ σ = [(.t 1, .v (.o (.c (.ptr (rG g))))), (.t 4, .v (.o (.c (.own 130 3 (o3.length))))), (.t 5, .v (.o (nat1 (k : Nat)))), (.t 6, .v (.o (.c (.ptr (rP q))))), (.t 10, .v (.o (vD (dIs p)))), (.t 24, .v (.o (vD (dPts g.2)))), (.t 25, .v (.o (nat1 (g.2.length : Nat)))), (.t 26, .v (.o (nat1 (k : Nat)))), (.t 52, .v (.o (vD (dPs (npR q.1))))), (.t 53, .v (.o (nat1 ((npR q.1).length : Nat)))), (.t 54, .v (.o (nat1 (0 : Nat)))), (.t 62, .v (.o (vD (dMs q.2)))), (.t 63, .v (.o (nat1 (q.2.length : Nat)))), (.t 64, .v (.o (nat1 (j : Nat)))), (.b 130, .b 50 3 (dR (o3.map rN))), (.u 130, .u)])) [] (.inl ⟨0, rfl, rfl, rfl⟩) ⟨ks rfl .dt, ks rfl .dt, ks rfl .dt, ks rfl .dt, ks rfl .dt, ks rfl .dt, ks rfl .dt, ks rfl .dt, ks rfl .dt, ks rfl .dt, ks rfl .dt, ks rfl .dt, ks rfl .dt, ks rfl .dt, trivial⟩ ?_
           rintro m σ (⟨j, hm0, rfl, rfl⟩ | ⟨j, o3, hm0, hj, hH, hEp, ho3, rfl⟩)
           ·skip
            refine ACode.seq ?_
            refine ACode.region ?_
            refine .cons (.ls rfl rfl rfl) ?_
            refine .nil ?_
            refine ks_n ?_
            refine ACode.seq ?_
            refine .cD rfl (fun h65 => ?_) (fun h65 => ?_)
            ·skip
             obtain ⟨s, hs1⟩ : ∃ x_, q.2[0]? = some x_ := ⟨_, List.getElem?_eq_getElem (by omega)⟩
             have hsm := List.mem_of_getElem? hs1
             have hsv := hv3 s hsm
             refine ACode.skip ?_
             refine ks_n ?_
             refine ACode.seq ?_
             refine ACode.block ?_
             refine ACode.seq ?_
             refine ACode.region ?_
             refine .cons (.mv rfl rfl) ?_
             refine .cons (.xL 33 9 152 rfl rfl rfl rfl rfl) ?_
             refine .cons (.lN 9 rfl rfl rfl) ?_
             refine .cons (.al 112 [.string ByteArray.empty, .slice none 0 0, .int .i64 0, .int .i64 0, .slice none 0 0, .int .i64 0, .string ByteArray.empty, .slice none 0 0, .slice none 0 0] rfl rfl rfl) ?_
             refine .cons (.asg rfl rfl) ?_
             refine .cons (.sT 9 true rfl rfl rfl rfl rfl rfl rfl) ?_
             refine .nil ?_
             refine ks_n ?_
             refine ACode.seq ?_
             refine ACode.seq ?_
             refine ACode.region ?_
             refine .cons (.lN 2 rfl rfl rfl) ?_
             refine .cons (.bN 9 rfl rfl rfl rfl rfl rfl) ?_
             refine .cons (.mv rfl rfl) ?_
             refine .cons (.cP [.tmp 69, .tmp 70, .tmp 71] rfl rfl rfl rfl (sok_fn hA hsv hpt.1 hpt.2) rfl) ?_
             refine .cons (.nt rfl rfl) ?_
             refine .nil ?_
             refine ks_n ?_
             refine ACode.condT rfl (fun h73 => ?_) (fun h73 => ?_)
             ·try simp only [zs1, zs2, zs3, zs4, zs5, zs6, zs7] at h73
              refine ACode.seq ?_
              obtain ⟨hO, hN⟩ := prgV_f (g := g) (prgS_f3 hqm (prtV_f5 hpm hsm (by assumption)))
              refine ACode.region ?_
              refine .cons (.asg rfl rfl) ?_
              refine .cons (.asg rfl rfl) ?_
              refine .nil ?_
              refine ks_n ?_
              refine ACode.ret ?_
              refine ks_r ?_
              refine kb_r ?_
              refine ks_r ?_
              refine kl_r ?_
              refine kb_r ?_
              refine kb_r ?_
              refine ks_r ?_
              refine kl_r ?_
              refine kb_r ?_
              refine kb_r ?_
              refine ks_r ?_
              refine kl_r ?_
              refine kb_r ?_
              refine ks_r ?_
              refine kf_wret [(.t 2, .v (.o (vD (dNs (insV g))))), (.t 3, .v (.o (bo1 (prgV g))))] (Wk.keep [] rfl rfl ⟨ks rfl (.c (Cto.nilE 3 (by first | (rw [hN]; rfl) | (rw [hN, hEz]; rfl)))), ks rfl (.dt (by first | exact congrArg (fun b => V.o (bo1 b)) hO.symm | exact congrArg (fun b => V.o (bo1 b)) (by rw [hO, hEz, decide_eq_decide]; simp) | exact congrArg (fun b => V.o (bo1 b)) (by rw [hO, hEz, decide_eq_decide]; omega))), trivial⟩) rfl ?_ nobox
              rfl
             ·try simp only [zs1, zs2, zs3, zs4, zs5, zs6, zs7] at h73
              have hST : stmG g.1 s p = true := by assumption
              refine ACode.skip ?_
              refine ks_n ?_
              refine ACode.region ?_
              refine .cons (.mv rfl rfl) ?_
              refine .cons (.mv rfl rfl) ?_
              refine .cons (.mv rfl rfl) ?_
              refine .cons (.mv rfl rfl) ?_
              refine .cons (.cP [.tmp 77] rfl rfl rfl rfl (cloneInts_fn p (by omega)) rfl) ?_
              refine .cons (.bu [(0, .tmp 75), (1, .tmp 76), (2, .tmp 78)] [(0, 1), (1, 1), (2, 1)] [.int .i64 0, .int .i64 0, .slice none 0 0] rfl rfl rfl rfl rfl) ?_
              refine .cons (.li 50 2 0 [.tmp 79] rfl rfl rfl rfl rfl rfl) ?_
              refine .cons (St1.appN (k' := 181) (e := 50) (sz := 2) (by' := 40) rfl rfl rfl rfl rfl (by kernel_rfl) rfl rfl rfl (by simp) (by first | (simp [dR]; done) | (simp [dR]; omega)) rfl rfl) ?_
              refine .cons (.asg rfl rfl) ?_
              refine .nil ?_
              refine kb_n ?_
              refine ks_n ?_
              refine ACode.region ?_
              refine .cons (.pl rfl rfl rfl) ?_
              refine .cons (.mv rfl rfl) ?_
              refine .nil ?_
              refine kl_k [(130, 181)] (.inr ⟨1, [((k : Int), ((0 : Nat) : Int), p)], rfl, by omega, fun t s' ht hs' => (Nat.lt_succ_iff_lt_or_eq.1 ht).elim (fun h => absurd h (by omega)) (fun h => by subst h; rw [hs1] at hs'; cases hs'; exact hST), rfl, by simp, rfl⟩) ⟨ks rfl .dt, ks rfl (.c .ow), ks rfl .dt, ks rfl .dt, ks rfl .dt, ks rfl .dt, ks rfl .dt, ks rfl .dt, ks rfl .dt, ks rfl .dt, ks rfl .dt, ks rfl .dt, ks rfl .dt, ks rfl .dt, kb 181 rfl (.dt rfl (by first | rfl | (simp [dR, rN, dI]; done))), trivial⟩
            ·skip
             exfalso; omega
           ·skip
            refine ACode.seq ?_
            refine ACode.region ?_
            refine .cons (.ls rfl rfl rfl) ?_
            refine .nil ?_
            refine ks_n ?_
            refine ACode.seq ?_
            refine .cD rfl (fun h65 => ?_) (fun h65 => ?_)
            ·skip
             obtain ⟨s, hs1⟩ : ∃ x_, q.2[j]? = some x_ := ⟨_, List.getElem?_eq_getElem (by omega)⟩
             have hsm := List.mem_of_getElem? hs1
             have hsv := hv3 s hsm
             refine ACode.skip ?_
             refine ks_n ?_
             refine ACode.seq ?_
             refine ACode.block ?_
             refine ACode.seq ?_
             refine ACode.region ?_
             refine .cons (.mv rfl rfl) ?_
             refine .cons (.xL 33 9 152 rfl rfl rfl rfl rfl) ?_
             refine .cons (.lN 9 rfl rfl rfl) ?_
             refine .cons (.al 112 [.string ByteArray.empty, .slice none 0 0, .int .i64 0, .int .i64 0, .slice none 0 0, .int .i64 0, .string ByteArray.empty, .slice none 0 0, .slice none 0 0] rfl rfl rfl) ?_
             refine .cons (.asg rfl rfl) ?_
             refine .cons (.sT 9 true rfl rfl rfl rfl rfl rfl rfl) ?_
             refine .nil ?_
             refine ks_n ?_
             refine ACode.seq ?_
             refine ACode.seq ?_
             refine ACode.region ?_
             refine .cons (.lN 2 rfl rfl rfl) ?_
             refine .cons (.bN 9 rfl rfl rfl rfl rfl rfl) ?_
             refine .cons (.mv rfl rfl) ?_
             refine .cons (.cP [.tmp 69, .tmp 70, .tmp 71] rfl rfl rfl rfl (sok_fn hA hsv hpt.1 hpt.2) rfl) ?_
             refine .cons (.nt rfl rfl) ?_
             refine .nil ?_
             refine ks_n ?_
             refine ACode.condT rfl (fun h73 => ?_) (fun h73 => ?_)
             ·try simp only [zs1, zs2, zs3, zs4, zs5, zs6, zs7] at h73
              refine ACode.seq ?_
              obtain ⟨hO, hN⟩ := prgV_f (g := g) (prgS_f3 hqm (prtV_f5 hpm hsm (by assumption)))
              refine ACode.region ?_
              refine .cons (.asg rfl rfl) ?_
              refine .cons (.asg rfl rfl) ?_
              refine .nil ?_
              refine ks_n ?_
              refine ACode.ret ?_
              refine ks_r ?_
              refine kb_r ?_
              refine ks_r ?_
              refine kl_r ?_
              refine kb_r ?_
              refine kb_r ?_
              refine ks_r ?_
              refine kl_r ?_
              refine kb_r ?_
              refine kb_r ?_
              refine ks_r ?_
              refine kl_r ?_
              refine kb_r ?_
              refine ks_r ?_
              refine kf_wret [(.t 2, .v (.o (vD (dNs (insV g))))), (.t 3, .v (.o (bo1 (prgV g))))] (Wk.keep [] rfl rfl ⟨ks rfl (.c (Cto.nilE 3 (by first | (rw [hN]; rfl) | (rw [hN, hEz]; rfl)))), ks rfl (.dt (by first | exact congrArg (fun b => V.o (bo1 b)) hO.symm | exact congrArg (fun b => V.o (bo1 b)) (by rw [hO, hEz, decide_eq_decide]; simp) | exact congrArg (fun b => V.o (bo1 b)) (by rw [hO, hEz, decide_eq_decide]; omega))), trivial⟩) rfl ?_ nobox
              rfl
             ·try simp only [zs1, zs2, zs3, zs4, zs5, zs6, zs7] at h73
              have hST : stmG g.1 s p = true := by assumption
              refine ACode.skip ?_
              refine ks_n ?_
              refine ACode.region ?_
              refine .cons (.mv rfl rfl) ?_
              refine .cons (.mv rfl rfl) ?_
              refine .cons (.mv rfl rfl) ?_
              refine .cons (.mv rfl rfl) ?_
              refine .cons (.cP [.tmp 77] rfl rfl rfl rfl (cloneInts_fn p (by omega)) rfl) ?_
              refine .cons (.bu [(0, .tmp 75), (1, .tmp 76), (2, .tmp 78)] [(0, 1), (1, 1), (2, 1)] [.int .i64 0, .int .i64 0, .slice none 0 0] rfl rfl rfl rfl rfl) ?_
              refine .cons (.li 50 2 0 [.tmp 79] rfl rfl rfl rfl rfl rfl) ?_
              refine .cons (St1.appB (k' := 181) (e := 50) (sz := 2) (by' := 40) rfl rfl rfl rfl rfl (by kernel_rfl) rfl rfl rfl rfl (by first | (simp [dR]; done) | (simp [dR]; omega)) (by first | (simp [dR]; done) | (simp [dR]; omega)) rfl rfl rfl) ?_
              refine .cons (.asg rfl rfl) ?_
              refine .nil ?_
              refine kb_n ?_
              refine ks_n ?_
              refine ACode.region ?_
              refine .cons (.pl rfl rfl rfl) ?_
              refine .cons (.mv rfl rfl) ?_
              refine .nil ?_
              refine kl_k [(130, 181)] (.inr ⟨j + 1, o3 ++ [((k : Int), ((j : Nat) : Int), p)], rfl, by omega, fun t s' ht hs' => (Nat.lt_succ_iff_lt_or_eq.1 ht).elim (fun h => hH t s' h hs') (fun h => by subst h; rw [hs1] at hs'; cases hs'; exact hST), by rw [rowI_snoc, ← List.append_assoc, hEp], by rw [List.length_append, List.length_singleton]; omega, rfl⟩) ⟨ks rfl .dt, ks rfl (.c .ow), ks rfl .dt, ks rfl .dt, ks rfl .dt, ks rfl .dt, ks rfl .dt, ks rfl .dt, ks rfl .dt, ks rfl .dt, ks rfl .dt, ks rfl .dt, ks rfl .dt, ks rfl .dt, kb 181 rfl (.dt rfl (by first | rfl | (simp [dR, rN, dI]; done))), trivial⟩
            ·skip
             obtain rfl : j = q.2.length := by omega
             have hPT : ptG' g.1 q.2 p = true := by rw [ptG', show isPt p = true by assumption, Bool.true_and]; exact all_of fun j s h => hH j s (List.getElem?_eq_some_iff.1 h).1 h
             refine ACode.exit ?_
             refine ks_e ?_
             refine kl_e ?_
             refine kb_hit ?_
             refine kb_n ?_
             refine ks_n ?_
             refine ACode.region ?_
             refine .cons (.pl rfl rfl rfl) ?_
             refine .cons (.mv rfl rfl) ?_
             refine .nil ?_
             refine kl_k [(120, 130)] (.inr ⟨1, o3, rfl, by omega, fun j p' hj hp' => (Nat.lt_succ_iff_lt_or_eq.1 hj).elim (fun h => absurd h (by omega)) (fun h => by subst h; rw [hp1] at hp'; cases hp'; exact hPT), by rw [insT_take hp1]; exact hEp, by omega, rfl⟩) ⟨ks rfl .dt, ks rfl (.c .ow), ks rfl .dt, ks rfl .dt, ks rfl .dt, ks rfl .dt, ks rfl .dt, ks rfl .dt, ks rfl .dt, ks rfl .dt, kb 130 rfl (.dt rfl (by first | rfl | (simp [dR, rN, dI]; done))), trivial⟩
         ·skip
          have hn0 : npR q.1 = [] := List.eq_nil_of_length_eq_zero (by omega)
          have hPV : prtV g.1 q = true := by rw [prtV_eq hv1 hv2 (List.all_eq_true.2 hv3), hn0]; rfl
          refine ACode.exit ?_
          refine ks_e ?_
          refine kl_e ?_
          refine kb_hit ?_
          refine kb_n ?_
          refine ks_n ?_
          refine ACode.region ?_
          refine .cons (.pl rfl rfl rfl) ?_
          refine .cons (.mv rfl rfl) ?_
          refine .nil ?_
          refine kl_k [] (.inl ⟨k + 1, rfl, by omega, fun j q' hj hq' => (Nat.lt_succ_iff_lt_or_eq.1 hj).elim (fun h => hF j q' h hq') (fun h => by subst h; rw [hq1] at hq'; cases hq'; exact hPV), by rw [insG_take hq1, hE, insP, hn0]; rfl, rfl⟩) ⟨ks rfl .dt, ks rfl .dt, ks rfl .dt, ks rfl .dt, ks rfl .dt, trivial⟩
        ·skip
         refine ACode.seq ?_
         refine ACode.region ?_
         refine .cons (.ls rfl rfl rfl) ?_
         refine .nil ?_
         refine ks_n ?_
         refine ACode.seq ?_
         refine .cD rfl (fun h55 => ?_) (fun h55 => ?_)
         ·skip
          obtain ⟨p, hp1⟩ : ∃ x_, (npR q.1)[i]? = some x_ := ⟨_, List.getElem?_eq_getElem (by omega)⟩
          have hpm := List.mem_of_getElem? hp1
          have hpt := npR_pt hpm
          have hnl := npR_len q.1
          refine ACode.skip ?_
          refine ks_n ?_
          refine ACode.seq ?_
          refine ACode.block ?_
          refine ACode.seq ?_
          refine ACode.region ?_
          refine .cons (.xL 26 1 24 rfl rfl rfl rfl rfl) ?_
          refine .cons (.l1 1 rfl rfl) ?_
          refine .cons (.asg rfl rfl) ?_
          refine .nil ?_
          refine ks_n ?_
          refine ACode.seq ?_
          refine ACode.seq ?_
          refine ACode.region ?_
          refine .cons (.mv rfl rfl) ?_
          refine .cons (.cP [.tmp 58] rfl rfl rfl rfl (isPoint_fn _) rfl) ?_
          refine .cons (.nt rfl rfl) ?_
          refine .nil ?_
          refine ks_n ?_
          refine ACode.condT rfl (fun h60 => ?_) (fun h60 => ?_)
          ·try simp only [zs1, zs2, zs3, zs4, zs5, zs6, zs7] at h60
           refine ACode.seq ?_
           obtain ⟨hO, hN⟩ := prgV_f (g := g) (prgS_f3 hqm (prtV_f4 hpm (by assumption)))
           refine ACode.region ?_
           refine .cons (.asg rfl rfl) ?_
           refine .cons (.asg rfl rfl) ?_
           refine .nil ?_
           refine ks_n ?_
           refine ACode.ret ?_
           refine ks_r ?_
           refine kb_r ?_
           refine ks_r ?_
           refine kl_r ?_
           refine kb_r ?_
           refine kb_r ?_
           refine ks_r ?_
           refine kl_r ?_
           refine kb_r ?_
           refine ks_r ?_
           refine kf_wret [(.t 2, .v (.o (vD (dNs (insV g))))), (.t 3, .v (.o (bo1 (prgV g))))] (Wk.keep [] rfl rfl ⟨ks rfl (.c (Cto.nilE 3 (by first | (rw [hN]; rfl) | (rw [hN, hEz]; rfl)))), ks rfl (.dt (by first | exact congrArg (fun b => V.o (bo1 b)) hO.symm | exact congrArg (fun b => V.o (bo1 b)) (by rw [hO, hEz, decide_eq_decide]; simp) | exact congrArg (fun b => V.o (bo1 b)) (by rw [hO, hEz, decide_eq_decide]; omega))), trivial⟩) rfl ?_ nobox
           rfl
          ·try simp only [zs1, zs2, zs3, zs4, zs5, zs6, zs7] at h60
           refine ACode.skip ?_
           refine ks_n ?_
           refine ACode.seq ?_
           refine ACode.region ?_
           refine .cons (.fP 1 0 false rfl rfl) ?_
           refine .cons (.l1 1 rfl rfl) ?_
           refine .cons (.ln 33 9 152 rfl rfl rfl) ?_
           refine .cons (.mv rfl rfl) ?_
           refine .nil ?_
           refine ks_n ?_
           refine ACode.block ?_
           refine .loopK (fun m σ => (∃ (j : Nat) (o3 : List Ins), m = q.2.length - j ∧ (j ≤ q.2.length) ∧ (∀ t s, t < j → q.2[t]? = some s → stmG g.1 s p = true) ∧ (o2 ++ rowI k j p = o3) ∧ (o3.length ≤ 480 * k + 4 * i + j) ∧ σ = [(.t 1, .v (.o (.c (.ptr (rG g))))), (.t 4, .v (.o (.c (.own 130 3 (o3.length))))), (.t 5, .v (.o (nat1 (k : Nat)))), (.t 6, .v (.o (.c (.ptr (rP q))))), (.t 10, .v (.o (vD (dIs p)))), (.t 24, .v (.o (vD (dPts g.2)))), (.t 25, .v (.o (nat1 (g.2.length : Nat)))), (.t 26, .v (.o (nat1 (k : Nat)))), (.t 52, .v (.o (vD (dPs (npR q.1))))), (.t 53, .v (.o (nat1 ((npR q.1).length : Nat)))), (.t 54, .v (.o (nat1 (i : Nat)))), (.t 62, .v (.o (vD (dMs q.2)))), (.t 63, .v (.o (nat1 (q.2.length : Nat)))), (.t 64, .v (.o (nat1 (j : Nat)))), (.b 130, .b 50 3 (dR (o3.map rN))), (.u 130, .u)])) [(130, 120)] ⟨0, o2, rfl, by omega, fun t s ht _ => absurd ht (by omega), by simp [rowI_zero], by omega, rfl⟩ ⟨ks rfl .dt, ks rfl (.c .ow), ks rfl .dt, ks rfl .dt, ks rfl .dt, ks rfl .dt, ks rfl .dt, ks rfl .dt, ks rfl .dt, ks rfl .dt, ks rfl .dt, ks rfl .dt, ks rfl .dt, ks rfl .dt, kb 120 rfl (.dt rfl (by first | rfl | (simp [dR, rN, dI]; done))), trivial⟩ ?_
           rintro m σ ⟨j, o3, hm0, hj, hH, hEp, ho3, rfl⟩
           refine ACode.seq ?_
           refine ACode.region ?_
           refine .cons (.ls rfl rfl rfl) ?_
           refine .nil ?_
           refine ks_n ?_
           refine ACode.seq ?_
           refine .cD rfl (fun h65 => ?_) (fun h65 => ?_)
           ·skip
            obtain ⟨s, hs1⟩ : ∃ x_, q.2[j]? = some x_ := ⟨_, List.getElem?_eq_getElem (by omega)⟩
            have hsm := List.mem_of_getElem? hs1
            have hsv := hv3 s hsm
            refine ACode.skip ?_
            refine ks_n ?_
            refine ACode.seq ?_
            refine ACode.block ?_
            refine ACode.seq ?_
            refine ACode.region ?_
            refine .cons (.mv rfl rfl) ?_
            refine .cons (.xL 33 9 152 rfl rfl rfl rfl rfl) ?_
            refine .cons (.lN 9 rfl rfl rfl) ?_
            refine .cons (.al 112 [.string ByteArray.empty, .slice none 0 0, .int .i64 0, .int .i64 0, .slice none 0 0, .int .i64 0, .string ByteArray.empty, .slice none 0 0, .slice none 0 0] rfl rfl rfl) ?_
            refine .cons (.asg rfl rfl) ?_
            refine .cons (.sT 9 true rfl rfl rfl rfl rfl rfl rfl) ?_
            refine .nil ?_
            refine ks_n ?_
            refine ACode.seq ?_
            refine ACode.seq ?_
            refine ACode.region ?_
            refine .cons (.lN 2 rfl rfl rfl) ?_
            refine .cons (.bN 9 rfl rfl rfl rfl rfl rfl) ?_
            refine .cons (.mv rfl rfl) ?_
            refine .cons (.cP [.tmp 69, .tmp 70, .tmp 71] rfl rfl rfl rfl (sok_fn hA hsv hpt.1 hpt.2) rfl) ?_
            refine .cons (.nt rfl rfl) ?_
            refine .nil ?_
            refine ks_n ?_
            refine ACode.condT rfl (fun h73 => ?_) (fun h73 => ?_)
            ·try simp only [zs1, zs2, zs3, zs4, zs5, zs6, zs7] at h73
             refine ACode.seq ?_
             obtain ⟨hO, hN⟩ := prgV_f (g := g) (prgS_f3 hqm (prtV_f5 hpm hsm (by assumption)))
             refine ACode.region ?_
             refine .cons (.asg rfl rfl) ?_
             refine .cons (.asg rfl rfl) ?_
             refine .nil ?_
             refine ks_n ?_
             refine ACode.ret ?_
             refine ks_r ?_
             refine kb_r ?_
             refine ks_r ?_
             refine kl_r ?_
             refine kb_r ?_
             refine kb_r ?_
             refine ks_r ?_
             refine kl_r ?_
             refine kb_r ?_
             refine kb_r ?_
             refine ks_r ?_
             refine kl_r ?_
             refine kb_r ?_
             refine ks_r ?_
             refine kf_wret [(.t 2, .v (.o (vD (dNs (insV g))))), (.t 3, .v (.o (bo1 (prgV g))))] (Wk.keep [] rfl rfl ⟨ks rfl (.c (Cto.nilE 3 (by first | (rw [hN]; rfl) | (rw [hN, hEz]; rfl)))), ks rfl (.dt (by first | exact congrArg (fun b => V.o (bo1 b)) hO.symm | exact congrArg (fun b => V.o (bo1 b)) (by rw [hO, hEz, decide_eq_decide]; simp) | exact congrArg (fun b => V.o (bo1 b)) (by rw [hO, hEz, decide_eq_decide]; omega))), trivial⟩) rfl ?_ nobox
             rfl
            ·try simp only [zs1, zs2, zs3, zs4, zs5, zs6, zs7] at h73
             have hST : stmG g.1 s p = true := by assumption
             refine ACode.skip ?_
             refine ks_n ?_
             refine ACode.region ?_
             refine .cons (.mv rfl rfl) ?_
             refine .cons (.mv rfl rfl) ?_
             refine .cons (.mv rfl rfl) ?_
             refine .cons (.mv rfl rfl) ?_
             refine .cons (.cP [.tmp 77] rfl rfl rfl rfl (cloneInts_fn p (by omega)) rfl) ?_
             refine .cons (.bu [(0, .tmp 75), (1, .tmp 76), (2, .tmp 78)] [(0, 1), (1, 1), (2, 1)] [.int .i64 0, .int .i64 0, .slice none 0 0] rfl rfl rfl rfl rfl) ?_
             refine .cons (.li 50 2 0 [.tmp 79] rfl rfl rfl rfl rfl rfl) ?_
             refine .cons (St1.appB (k' := 181) (e := 50) (sz := 2) (by' := 40) rfl rfl rfl rfl rfl (by kernel_rfl) rfl rfl rfl rfl (by first | (simp [dR]; done) | (simp [dR]; omega)) (by first | (simp [dR]; done) | (simp [dR]; omega)) rfl rfl rfl) ?_
             refine .cons (.asg rfl rfl) ?_
             refine .nil ?_
             refine kb_n ?_
             refine ks_n ?_
             refine ACode.region ?_
             refine .cons (.pl rfl rfl rfl) ?_
             refine .cons (.mv rfl rfl) ?_
             refine .nil ?_
             refine kl_k [(130, 181)] ⟨j + 1, o3 ++ [((k : Int), ((j : Nat) : Int), p)], rfl, by omega, fun t s' ht hs' => (Nat.lt_succ_iff_lt_or_eq.1 ht).elim (fun h => hH t s' h hs') (fun h => by subst h; rw [hs1] at hs'; cases hs'; exact hST), by rw [rowI_snoc, ← List.append_assoc, hEp], by rw [List.length_append, List.length_singleton]; omega, rfl⟩ ⟨ks rfl .dt, ks rfl (.c .ow), ks rfl .dt, ks rfl .dt, ks rfl .dt, ks rfl .dt, ks rfl .dt, ks rfl .dt, ks rfl .dt, ks rfl .dt, ks rfl .dt, ks rfl .dt, ks rfl .dt, ks rfl .dt, kb 181 rfl (.dt rfl (by first | rfl | (simp [dR, rN, dI]; done))), trivial⟩
           ·skip
            obtain rfl : j = q.2.length := by omega
            have hPT : ptG' g.1 q.2 p = true := by rw [ptG', show isPt p = true by assumption, Bool.true_and]; exact all_of fun j s h => hH j s (List.getElem?_eq_some_iff.1 h).1 h
            refine ACode.exit ?_
            refine ks_e ?_
            refine kl_e ?_
            refine kb_hit ?_
            refine kb_n ?_
            refine ks_n ?_
            refine ACode.region ?_
            refine .cons (.pl rfl rfl rfl) ?_
            refine .cons (.mv rfl rfl) ?_
            refine .nil ?_
            refine kl_k [(120, 130)] (.inr ⟨i + 1, o3, rfl, by omega, fun j p' hj hp' => (Nat.lt_succ_iff_lt_or_eq.1 hj).elim (fun h => hG j p' h hp') (fun h => by subst h; rw [hp1] at hp'; cases hp'; exact hPT), by rw [insT_take hp1, ← List.append_assoc, hEo]; exact hEp, by omega, rfl⟩) ⟨ks rfl .dt, ks rfl (.c .ow), ks rfl .dt, ks rfl .dt, ks rfl .dt, ks rfl .dt, ks rfl .dt, ks rfl .dt, ks rfl .dt, ks rfl .dt, kb 130 rfl (.dt rfl (by first | rfl | (simp [dR, rN, dI]; done))), trivial⟩
         ·skip
          obtain rfl : i = (npR q.1).length := by omega
          rw [List.take_length] at hEo
          have hPV : prtV g.1 q = true := by rw [prtV_eq hv1 hv2 (List.all_eq_true.2 hv3)]; exact all_of fun j p h => hG j p (List.getElem?_eq_some_iff.1 h).1 h
          have hnl := npR_len q.1
          refine ACode.exit ?_
          refine ks_e ?_
          refine kl_e ?_
          refine kb_hit ?_
          refine kb_n ?_
          refine ks_n ?_
          refine ACode.region ?_
          refine .cons (.pl rfl rfl rfl) ?_
          refine .cons (.mv rfl rfl) ?_
          refine .nil ?_
          refine kl_k [(110, 120)] (.inr ⟨k + 1, o2, rfl, by omega, fun j q' hj hq' => (Nat.lt_succ_iff_lt_or_eq.1 hj).elim (fun h => hF j q' h hq') (fun h => by subst h; rw [hq1] at hq'; cases hq'; exact hPV), by rw [insG_take hq1, hE]; exact hEo, by omega, rfl⟩) ⟨ks rfl .dt, ks rfl (.c .ow), ks rfl .dt, ks rfl .dt, ks rfl .dt, kb 120 rfl (.dt rfl (by first | rfl | (simp [dR, rN, dI]; done))), trivial⟩
    ·skip
     obtain rfl : k = g.2.length := by omega
     rw [List.take_length] at hE
     have hEz := hE
     obtain ⟨hO, hN⟩ := prgV_t (prgS_eq hA h4 hF)
     refine ACode.exit ?_
     refine ks_e ?_
     refine kl_e ?_
     refine kb_hit ?_
     refine ks_n ?_
     refine ACode.seq ?_
     refine ACode.region ?_
     refine .cons (.mv rfl rfl) ?_
     refine .cons (.mv rfl rfl) ?_
     refine .cons (St1.lenN (e := 50) (m := 3) (by' := 40) rfl rfl rfl rfl rfl (by kernel_rfl) rfl) ?_
     refine .cons (.le rfl rfl rfl) ?_
     refine .cons (.asg rfl rfl) ?_
     refine .cons (.asg rfl rfl) ?_
     refine .nil ?_
     refine ks_n ?_
     refine ACode.ret ?_
     refine kf_wret [(.t 2, .v (.o (vD (dNs (insV g))))), (.t 3, .v (.o (bo1 (prgV g))))] (Wk.keep [] rfl rfl ⟨ks rfl (.c (Cto.nilE 3 (by first | (rw [hN]; rfl) | (rw [hN, hEz]; rfl)))), ks rfl (.dt (by first | exact congrArg (fun b => V.o (bo1 b)) hO.symm | exact congrArg (fun b => V.o (bo1 b)) (by rw [hO, hEz, decide_eq_decide]; simp) | exact congrArg (fun b => V.o (bo1 b)) (by rw [hO, hEz, decide_eq_decide]; omega))), trivial⟩) rfl ?_ nobox
     rfl
   ·skip
    refine ACode.seq ?_
    refine ACode.region ?_
    refine .cons (.ls rfl rfl rfl) ?_
    refine .nil ?_
    refine ks_n ?_
    refine ACode.seq ?_
    refine .cD rfl (fun h27 => ?_) (fun h27 => ?_)
    ·skip
     obtain ⟨q, hq1⟩ : ∃ x_, g.2[k]? = some x_ := ⟨_, List.getElem?_eq_getElem (by omega)⟩
     have hqm := List.mem_of_getElem? hq1
     have hqs := szO_mem (f := szPt) hqm
     have hqe : szPt q = szLs q.1 + szO szS q.2 := rfl
     have hbg := sz_bg (ns := q.1) (by omega)
     have hql := szO_len (f := szS) q.2
     refine ACode.skip ?_
     refine ks_n ?_
     refine ACode.seq ?_
     refine ACode.block ?_
     refine ACode.seq ?_
     refine ACode.region ?_
     refine .cons (.mv rfl rfl) ?_
     refine .cons (.xL 43 2 48 rfl rfl rfl rfl rfl) ?_
     refine .cons (.lN 2 rfl rfl rfl) ?_
     refine .cons (.al 106 [.slice none 0 0, .slice none 0 0] rfl rfl rfl) ?_
     refine .cons (.asg rfl rfl) ?_
     refine .cons (.sT 2 true rfl rfl rfl rfl rfl rfl rfl) ?_
     refine .nil ?_
     refine ks_n ?_
     refine ACode.seq ?_
     refine .keep [(.t 1, .v (.o (.c (.ptr (rG g))))), (.t 4, .v (.o (.c (.own 770 3 (o.length))))), (.t 5, .v (.o (nat1 (k : Nat)))), (.t 6, .v (.o (.c (.ptr (rP q))))), (.t 24, .v (.o (vD (dPts g.2)))), (.t 25, .v (.o (nat1 (g.2.length : Nat)))), (.t 26, .v (.o (nat1 (k : Nat)))), (.b 770, .b 50 3 (dR (o.map rN))), (.u 770, .u)] [(770, 110)] ⟨ks rfl .dt, ks rfl (.c .ow), ks rfl .dt, ks rfl (.c (.frzP _ _ _ _ _ _ _ _ rfl (show _ = dR [rP q] from rfl) rfl rfl rfl)), ks rfl .dt, ks rfl .dt, ks rfl .dt, kb 110 rfl (.dt rfl (by first | rfl | (simp [dR, rN, dI]; done))), trivial⟩ ?_
     refine ACode.region ?_
     refine .cons (.fP 0 0 false rfl rfl) ?_
     refine .cons (.l1 1 rfl rfl) ?_
     refine .cons (.cP [.tmp 33] rfl rfl rfl rfl (implNestPts_B q.1 hbg) rfl) ?_
     refine .cons (.mv rfl rfl) ?_
     refine .cons (.ex rfl rfl rfl) ?_
     refine .cons (.ex rfl rfl rfl) ?_
     refine .cons (.asg rfl rfl) ?_
     refine .cons (.asg rfl rfl) ?_
     refine .nil ?_
     refine ks_n ?_
     refine ACode.seq ?_
     refine ACode.seq ?_
     refine ACode.region ?_
     refine .cons (.mv rfl rfl) ?_
     refine .cons (.nt rfl rfl) ?_
     refine .cons (.mv rfl rfl) ?_
     refine AOps.cases 39 _ rfl (fun g39 => ?_) (fun g39 => ?_)
     ·try simp only [zs1, zs2, zs3, zs4, zs5, zs6, zs7] at g39
      refine .cons (.gF rfl rfl rfl) ?_
      refine .cons (.gF rfl rfl rfl) ?_
      refine .cons (.gF rfl rfl rfl) ?_
      refine .cons (.gF rfl rfl rfl) ?_
      refine .cons (.gF rfl rfl rfl) ?_
      refine .cons (.pT rfl rfl rfl) ?_
      refine .cons (.mv rfl rfl) ?_
      refine .cons (.gF rfl rfl rfl) ?_
      refine .cons (.gF rfl rfl rfl) ?_
      refine .cons (.gF rfl rfl rfl) ?_
      refine .cons (.gF rfl rfl rfl) ?_
      refine .cons (.pT rfl rfl rfl) ?_
      refine .nil ?_
      refine ks_n ?_
      refine ACode.condT rfl (fun _ => ?_) (fun h => by first | (cases h; done) | (simp [*] at h; done) | (exfalso; simp_all; done))
      refine ACode.seq ?_
      have hbad : prtV g.1 q = false := by first | exact prtV_f1 (by assumption) | exact prtV_f2 (fun h => by simp_all [inB]; omega) | (obtain ⟨s, hs, hs2⟩ := List.any_eq_true.1 (by assumption); exact prtV_f3 hs (by simpa using hs2))
      obtain ⟨hO, hN⟩ := prgV_f (g := g) (prgS_f3 hqm hbad)
      refine ACode.region ?_
      refine .cons (.asg rfl rfl) ?_
      refine .cons (.asg rfl rfl) ?_
      refine .nil ?_
      refine ks_n ?_
      refine ACode.ret ?_
      refine ks_r ?_
      refine kb_r ?_
      refine ks_r ?_
      refine kl_r ?_
      refine kb_r ?_
      refine ks_r ?_
      refine kf_wret [(.t 2, .v (.o (vD (dNs (insV g))))), (.t 3, .v (.o (bo1 (prgV g))))] (Wk.keep [] rfl rfl ⟨ks rfl (.c (Cto.nilE 3 (by first | (rw [hN]; rfl) | (rw [hN, hEz]; rfl)))), ks rfl (.dt (by first | exact congrArg (fun b => V.o (bo1 b)) hO.symm | exact congrArg (fun b => V.o (bo1 b)) (by rw [hO, hEz, decide_eq_decide]; simp) | exact congrArg (fun b => V.o (bo1 b)) (by rw [hO, hEz, decide_eq_decide]; omega))), trivial⟩) rfl ?_ nobox
      rfl
     ·try simp only [zs1, zs2, zs3, zs4, zs5, zs6, zs7] at g39
      refine .cons (.gT rfl rfl rfl (.fP 1 0 false rfl rfl)) ?_
      refine .cons (.gT rfl rfl rfl (.l1 1 rfl rfl)) ?_
      refine .cons (.gT rfl rfl rfl (.ln 33 9 152 rfl rfl rfl)) ?_
      refine .cons (.gT rfl rfl rfl (.cP [.tmp 42, .const (.int .i64 (1)), .const (.int .i64 (4))] rfl rfl rfl rfl (within_fn _ 1 4) rfl)) ?_
      refine .cons (.gT rfl rfl rfl (.nt rfl rfl)) ?_
      refine .cons (.pF rfl rfl rfl) ?_
      refine .cons (.mv rfl rfl) ?_
      refine AOps.cases 46 _ rfl (fun g46 => ?_) (fun g46 => ?_)
      ·try simp only [zs1, zs2, zs3, zs4, zs5, zs6, zs7] at g46
       refine .cons (.gF rfl rfl rfl) ?_
       refine .cons (.gF rfl rfl rfl) ?_
       refine .cons (.gF rfl rfl rfl) ?_
       refine .cons (.gF rfl rfl rfl) ?_
       refine .cons (.pT rfl rfl rfl) ?_
       refine .nil ?_
       refine ks_n ?_
       refine ACode.condT rfl (fun _ => ?_) (fun h => by first | (cases h; done) | (simp [*] at h; done) | (exfalso; simp_all; done))
       refine ACode.seq ?_
       have hbad : prtV g.1 q = false := by first | exact prtV_f1 (by assumption) | exact prtV_f2 (fun h => by simp_all [inB]; omega) | (obtain ⟨s, hs, hs2⟩ := List.any_eq_true.1 (by assumption); exact prtV_f3 hs (by simpa using hs2))
       obtain ⟨hO, hN⟩ := prgV_f (g := g) (prgS_f3 hqm hbad)
       refine ACode.region ?_
       refine .cons (.asg rfl rfl) ?_
       refine .cons (.asg rfl rfl) ?_
       refine .nil ?_
       refine ks_n ?_
       refine ACode.ret ?_
       refine ks_r ?_
       refine kb_r ?_
       refine ks_r ?_
       refine kl_r ?_
       refine kb_r ?_
       refine ks_r ?_
       refine kf_wret [(.t 2, .v (.o (vD (dNs (insV g))))), (.t 3, .v (.o (bo1 (prgV g))))] (Wk.keep [] rfl rfl ⟨ks rfl (.c (Cto.nilE 3 (by first | (rw [hN]; rfl) | (rw [hN, hEz]; rfl)))), ks rfl (.dt (by first | exact congrArg (fun b => V.o (bo1 b)) hO.symm | exact congrArg (fun b => V.o (bo1 b)) (by rw [hO, hEz, decide_eq_decide]; simp) | exact congrArg (fun b => V.o (bo1 b)) (by rw [hO, hEz, decide_eq_decide]; omega))), trivial⟩) rfl ?_ nobox
       rfl
      ·try simp only [zs1, zs2, zs3, zs4, zs5, zs6, zs7] at g46
       refine .cons (.gT rfl rfl rfl (.fP 1 0 false rfl rfl)) ?_
       refine .cons (.gT rfl rfl rfl (.l1 1 rfl rfl)) ?_
       refine .cons (.gT rfl rfl rfl (St1.makeFunc (xs := [.tmp 6]) rfl rfl rfl rfl rfl rfl rfl)) ?_
       refine .cons (.gT rfl rfl rfl (.cP [.tmp 48, .tmp 49] rfl rfl rfl rfl (cnt_stm (f := 58) (cap := [rP q]) (by kernel_rfl) (fun s => !stmtV (q.1.length : Nat) s) q.2 (by omega) (fun s hs => ins1_fn (by have := szO_mem (f := szS) hs; omega))) rfl)) ?_
       refine .cons (.pF rfl rfl rfl) ?_
       refine .nil ?_
       refine ks_n ?_
       refine ACode.condT rfl (fun h51 => ?_) (fun h51 => ?_)
       ·try simp only [zs1, zs2, zs3, zs4, zs5, zs6, zs7] at h51
        refine ACode.seq ?_
        have hbad : prtV g.1 q = false := by first | exact prtV_f1 (by assumption) | exact prtV_f2 (fun h => by simp_all [inB]; omega) | (obtain ⟨s, hs, hs2⟩ := List.any_eq_true.1 (by assumption); exact prtV_f3 hs (by simpa using hs2))
        obtain ⟨hO, hN⟩ := prgV_f (g := g) (prgS_f3 hqm hbad)
        refine ACode.region ?_
        refine .cons (.asg rfl rfl) ?_
        refine .cons (.asg rfl rfl) ?_
        refine .nil ?_
        refine ks_n ?_
        refine ACode.ret ?_
        refine ks_r ?_
        refine kb_r ?_
        refine ks_r ?_
        refine kl_r ?_
        refine kb_r ?_
        refine ks_r ?_
        refine kf_wret [(.t 2, .v (.o (vD (dNs (insV g))))), (.t 3, .v (.o (bo1 (prgV g))))] (Wk.keep [] rfl rfl ⟨ks rfl (.c (Cto.nilE 3 (by first | (rw [hN]; rfl) | (rw [hN, hEz]; rfl)))), ks rfl (.dt (by first | exact congrArg (fun b => V.o (bo1 b)) hO.symm | exact congrArg (fun b => V.o (bo1 b)) (by rw [hO, hEz, decide_eq_decide]; simp) | exact congrArg (fun b => V.o (bo1 b)) (by rw [hO, hEz, decide_eq_decide]; omega))), trivial⟩) rfl ?_ nobox
        rfl
       ·try simp only [zs1, zs2, zs3, zs4, zs5, zs6, zs7] at h51
        have hv1 : okP q.1 = true := by first | assumption | simp_all
        have hv2 : 1 ≤ q.2.length ∧ q.2.length ≤ 4 := by simp_all [inB]; omega
        have hv3 : ∀ s ∈ q.2, stmtV (q.1.length : Nat) s = true := by simp_all
        refine ACode.skip ?_
        refine ks_n ?_
        refine ACode.seq ?_
        refine ACode.region ?_
        refine .cons (.mv rfl rfl) ?_
        refine .cons (.ln 26 1 24 rfl rfl rfl) ?_
        refine .cons (.mv rfl rfl) ?_
        refine .nil ?_
        refine ks_n ?_
        refine ACode.block ?_
        refine .loopK (fun m σ => (∃ (i : Nat) (o2 : List Ins), m = (npR q.1).length - i ∧ (i ≤ (npR q.1).length) ∧ (∀ j p, j < i → (npR q.1)[j]? = some p → ptG' g.1 q.2 p = true) ∧ (o ++ insT k q.2.length ((npR q.1).take i) = o2) ∧ (o2.length ≤ 480 * k + 4 * i) ∧ σ = [(.t 1, .v (.o (.c (.ptr (rG g))))), (.t 4, .v (.o (.c (.own 120 3 (o2.length))))), (.t 5, .v (.o (nat1 (k : Nat)))), (.t 6, .v (.o (.c (.ptr (rP q))))), (.t 24, .v (.o (vD (dPts g.2)))), (.t 25, .v (.o (nat1 (g.2.length : Nat)))), (.t 26, .v (.o (nat1 (k : Nat)))), (.t 52, .v (.o (vD (dPs (npR q.1))))), (.t 53, .v (.o (nat1 ((npR q.1).length : Nat)))), (.t 54, .v (.o (nat1 (i : Nat)))), (.b 120, .b 50 3 (dR (o2.map rN))), (.u 120, .u)])) [(120, 770)] ⟨0, o, rfl, by omega, fun j p hj _ => absurd hj (by omega), by simp [insT], by omega, rfl⟩ ⟨ks rfl .dt, ks rfl (.c .ow), ks rfl .dt, ks rfl .dt, ks rfl .dt, ks rfl .dt, ks rfl .dt, ks rfl .dt, ks rfl .dt, ks rfl .dt, kb 770 rfl (.dt rfl (by first | rfl | (simp [dR, rN, dI]; done))), trivial⟩ ?_
        rintro m σ ⟨i, o2, hm0, hi, hG, hEo, ho2, rfl⟩
        refine ACode.seq ?_
        refine ACode.region ?_
        refine .cons (.ls rfl rfl rfl) ?_
        refine .nil ?_
        refine ks_n ?_
        refine ACode.seq ?_
        refine .cD rfl (fun h55 => ?_) (fun h55 => ?_)
        ·skip
         obtain ⟨p, hp1⟩ : ∃ x_, (npR q.1)[i]? = some x_ := ⟨_, List.getElem?_eq_getElem (by omega)⟩
         have hpm := List.mem_of_getElem? hp1
         have hpt := npR_pt hpm
         have hnl := npR_len q.1
         refine ACode.skip ?_
         refine ks_n ?_
         refine ACode.seq ?_
         refine ACode.block ?_
         refine ACode.seq ?_
         refine ACode.region ?_
         refine .cons (.xL 26 1 24 rfl rfl rfl rfl rfl) ?_
         refine .cons (.l1 1 rfl rfl) ?_
         refine .cons (.asg rfl rfl) ?_
         refine .nil ?_
         refine ks_n ?_
         refine ACode.seq ?_
         refine ACode.seq ?_
         refine ACode.region ?_
         refine .cons (.mv rfl rfl) ?_
         refine .cons (.cP [.tmp 58] rfl rfl rfl rfl (isPoint_fn _) rfl) ?_
         refine .cons (.nt rfl rfl) ?_
         refine .nil ?_
         refine ks_n ?_
         refine ACode.condT rfl (fun h60 => ?_) (fun h60 => ?_)
         ·try simp only [zs1, zs2, zs3, zs4, zs5, zs6, zs7] at h60
          refine ACode.seq ?_
          obtain ⟨hO, hN⟩ := prgV_f (g := g) (prgS_f3 hqm (prtV_f4 hpm (by assumption)))
          refine ACode.region ?_
          refine .cons (.asg rfl rfl) ?_
          refine .cons (.asg rfl rfl) ?_
          refine .nil ?_
          refine ks_n ?_
          refine ACode.ret ?_
          refine ks_r ?_
          refine kb_r ?_
          refine ks_r ?_
          refine kl_r ?_
          refine kb_r ?_
          refine kb_r ?_
          refine ks_r ?_
          refine kl_r ?_
          refine kb_r ?_
          refine ks_r ?_
          refine kf_wret [(.t 2, .v (.o (vD (dNs (insV g))))), (.t 3, .v (.o (bo1 (prgV g))))] (Wk.keep [] rfl rfl ⟨ks rfl (.c (Cto.nilE 3 (by first | (rw [hN]; rfl) | (rw [hN, hEz]; rfl)))), ks rfl (.dt (by first | exact congrArg (fun b => V.o (bo1 b)) hO.symm | exact congrArg (fun b => V.o (bo1 b)) (by rw [hO, hEz, decide_eq_decide]; simp) | exact congrArg (fun b => V.o (bo1 b)) (by rw [hO, hEz, decide_eq_decide]; omega))), trivial⟩) rfl ?_ nobox
          rfl
         ·try simp only [zs1, zs2, zs3, zs4, zs5, zs6, zs7] at h60
          refine ACode.skip ?_
          refine ks_n ?_
          refine ACode.seq ?_
          refine ACode.region ?_
          refine .cons (.fP 1 0 false rfl rfl) ?_
          refine .cons (.l1 1 rfl rfl) ?_
          refine .cons (.ln 33 9 152 rfl rfl rfl) ?_
          refine .cons (.mv rfl rfl) ?_
          refine .nil ?_
          refine ks_n ?_
          refine ACode.block ?_
          refine .loopK (fun m σ => (∃ (j : Nat) (o3 : List Ins), m = q.2.length - j ∧ (j ≤ q.2.length) ∧ (∀ t s, t < j → q.2[t]? = some s → stmG g.1 s p = true) ∧ (o2 ++ rowI k j p = o3) ∧ (o3.length ≤ 480 * k + 4 * i + j) ∧ σ = [(.t 1, .v (.o (.c (.ptr (rG g))))), (.t 4, .v (.o (.c (.own 130 3 (o3.length))))), (.t 5, .v (.o (nat1 (k : Nat)))), (.t 6, .v (.o (.c (.ptr (rP q))))), (.t 10, .v (.o (vD (dIs p)))), (.t 24, .v (.o (vD (dPts g.2)))), (.t 25, .v (.o (nat1 (g.2.length : Nat)))), (.t 26, .v (.o (nat1 (k : Nat)))), (.t 52, .v (.o (vD (dPs (npR q.1))))), (.t 53, .v (.o (nat1 ((npR q.1).length : Nat)))), (.t 54, .v (.o (nat1 (i : Nat)))), (.t 62, .v (.o (vD (dMs q.2)))), (.t 63, .v (.o (nat1 (q.2.length : Nat)))), (.t 64, .v (.o (nat1 (j : Nat)))), (.b 130, .b 50 3 (dR (o3.map rN))), (.u 130, .u)])) [(130, 120)] ⟨0, o2, rfl, by omega, fun t s ht _ => absurd ht (by omega), by simp [rowI_zero], by omega, rfl⟩ ⟨ks rfl .dt, ks rfl (.c .ow), ks rfl .dt, ks rfl .dt, ks rfl .dt, ks rfl .dt, ks rfl .dt, ks rfl .dt, ks rfl .dt, ks rfl .dt, ks rfl .dt, ks rfl .dt, ks rfl .dt, ks rfl .dt, kb 120 rfl (.dt rfl (by first | rfl | (simp [dR, rN, dI]; done))), trivial⟩ ?_
          rintro m σ ⟨j, o3, hm0, hj, hH, hEp, ho3, rfl⟩
          refine ACode.seq ?_
          refine ACode.region ?_
          refine .cons (.ls rfl rfl rfl) ?_
          refine .nil ?_
          refine ks_n ?_
          refine ACode.seq ?_
          refine .cD rfl (fun h65 => ?_) (fun h65 => ?_)
          ·skip
           obtain ⟨s, hs1⟩ : ∃ x_, q.2[j]? = some x_ := ⟨_, List.getElem?_eq_getElem (by omega)⟩
           have hsm := List.mem_of_getElem? hs1
           have hsv := hv3 s hsm
           refine ACode.skip ?_
           refine ks_n ?_
           refine ACode.seq ?_
           refine ACode.block ?_
           refine ACode.seq ?_
           refine ACode.region ?_
           refine .cons (.mv rfl rfl) ?_
           refine .cons (.xL 33 9 152 rfl rfl rfl rfl rfl) ?_
           refine .cons (.lN 9 rfl rfl rfl) ?_
           refine .cons (.al 112 [.string ByteArray.empty, .slice none 0 0, .int .i64 0, .int .i64 0, .slice none 0 0, .int .i64 0, .string ByteArray.empty, .slice none 0 0, .slice none 0 0] rfl rfl rfl) ?_
           refine .cons (.asg rfl rfl) ?_
           refine .cons (.sT 9 true rfl rfl rfl rfl rfl rfl rfl) ?_
           refine .nil ?_
           refine ks_n ?_
           refine ACode.seq ?_
           refine ACode.seq ?_
           refine ACode.region ?_
           refine .cons (.lN 2 rfl rfl rfl) ?_
           refine .cons (.bN 9 rfl rfl rfl rfl rfl rfl) ?_
           refine .cons (.mv rfl rfl) ?_
           refine .cons (.cP [.tmp 69, .tmp 70, .tmp 71] rfl rfl rfl rfl (sok_fn hA hsv hpt.1 hpt.2) rfl) ?_
           refine .cons (.nt rfl rfl) ?_
           refine .nil ?_
           refine ks_n ?_
           refine ACode.condT rfl (fun h73 => ?_) (fun h73 => ?_)
           ·try simp only [zs1, zs2, zs3, zs4, zs5, zs6, zs7] at h73
            refine ACode.seq ?_
            obtain ⟨hO, hN⟩ := prgV_f (g := g) (prgS_f3 hqm (prtV_f5 hpm hsm (by assumption)))
            refine ACode.region ?_
            refine .cons (.asg rfl rfl) ?_
            refine .cons (.asg rfl rfl) ?_
            refine .nil ?_
            refine ks_n ?_
            refine ACode.ret ?_
            refine ks_r ?_
            refine kb_r ?_
            refine ks_r ?_
            refine kl_r ?_
            refine kb_r ?_
            refine kb_r ?_
            refine ks_r ?_
            refine kl_r ?_
            refine kb_r ?_
            refine kb_r ?_
            refine ks_r ?_
            refine kl_r ?_
            refine kb_r ?_
            refine ks_r ?_
            refine kf_wret [(.t 2, .v (.o (vD (dNs (insV g))))), (.t 3, .v (.o (bo1 (prgV g))))] (Wk.keep [] rfl rfl ⟨ks rfl (.c (Cto.nilE 3 (by first | (rw [hN]; rfl) | (rw [hN, hEz]; rfl)))), ks rfl (.dt (by first | exact congrArg (fun b => V.o (bo1 b)) hO.symm | exact congrArg (fun b => V.o (bo1 b)) (by rw [hO, hEz, decide_eq_decide]; simp) | exact congrArg (fun b => V.o (bo1 b)) (by rw [hO, hEz, decide_eq_decide]; omega))), trivial⟩) rfl ?_ nobox
            rfl
           ·try simp only [zs1, zs2, zs3, zs4, zs5, zs6, zs7] at h73
            have hST : stmG g.1 s p = true := by assumption
            refine ACode.skip ?_
            refine ks_n ?_
            refine ACode.region ?_
            refine .cons (.mv rfl rfl) ?_
            refine .cons (.mv rfl rfl) ?_
            refine .cons (.mv rfl rfl) ?_
            refine .cons (.mv rfl rfl) ?_
            refine .cons (.cP [.tmp 77] rfl rfl rfl rfl (cloneInts_fn p (by omega)) rfl) ?_
            refine .cons (.bu [(0, .tmp 75), (1, .tmp 76), (2, .tmp 78)] [(0, 1), (1, 1), (2, 1)] [.int .i64 0, .int .i64 0, .slice none 0 0] rfl rfl rfl rfl rfl) ?_
            refine .cons (.li 50 2 0 [.tmp 79] rfl rfl rfl rfl rfl rfl) ?_
            refine .cons (St1.appB (k' := 181) (e := 50) (sz := 2) (by' := 40) rfl rfl rfl rfl rfl (by kernel_rfl) rfl rfl rfl rfl (by first | (simp [dR]; done) | (simp [dR]; omega)) (by first | (simp [dR]; done) | (simp [dR]; omega)) rfl rfl rfl) ?_
            refine .cons (.asg rfl rfl) ?_
            refine .nil ?_
            refine kb_n ?_
            refine ks_n ?_
            refine ACode.region ?_
            refine .cons (.pl rfl rfl rfl) ?_
            refine .cons (.mv rfl rfl) ?_
            refine .nil ?_
            refine kl_k [(130, 181)] ⟨j + 1, o3 ++ [((k : Int), ((j : Nat) : Int), p)], rfl, by omega, fun t s' ht hs' => (Nat.lt_succ_iff_lt_or_eq.1 ht).elim (fun h => hH t s' h hs') (fun h => by subst h; rw [hs1] at hs'; cases hs'; exact hST), by rw [rowI_snoc, ← List.append_assoc, hEp], by rw [List.length_append, List.length_singleton]; omega, rfl⟩ ⟨ks rfl .dt, ks rfl (.c .ow), ks rfl .dt, ks rfl .dt, ks rfl .dt, ks rfl .dt, ks rfl .dt, ks rfl .dt, ks rfl .dt, ks rfl .dt, ks rfl .dt, ks rfl .dt, ks rfl .dt, ks rfl .dt, kb 181 rfl (.dt rfl (by first | rfl | (simp [dR, rN, dI]; done))), trivial⟩
          ·skip
           obtain rfl : j = q.2.length := by omega
           have hPT : ptG' g.1 q.2 p = true := by rw [ptG', show isPt p = true by assumption, Bool.true_and]; exact all_of fun j s h => hH j s (List.getElem?_eq_some_iff.1 h).1 h
           refine ACode.exit ?_
           refine ks_e ?_
           refine kl_e ?_
           refine kb_hit ?_
           refine kb_n ?_
           refine ks_n ?_
           refine ACode.region ?_
           refine .cons (.pl rfl rfl rfl) ?_
           refine .cons (.mv rfl rfl) ?_
           refine .nil ?_
           refine kl_k [(120, 130)] ⟨i + 1, o3, rfl, by omega, fun j p' hj hp' => (Nat.lt_succ_iff_lt_or_eq.1 hj).elim (fun h => hG j p' h hp') (fun h => by subst h; rw [hp1] at hp'; cases hp'; exact hPT), by rw [insT_take hp1, ← List.append_assoc, hEo]; exact hEp, by omega, rfl⟩ ⟨ks rfl .dt, ks rfl (.c .ow), ks rfl .dt, ks rfl .dt, ks rfl .dt, ks rfl .dt, ks rfl .dt, ks rfl .dt, ks rfl .dt, ks rfl .dt, kb 130 rfl (.dt rfl (by first | rfl | (simp [dR, rN, dI]; done))), trivial⟩
        ·skip
         obtain rfl : i = (npR q.1).length := by omega
         rw [List.take_length] at hEo
         have hPV : prtV g.1 q = true := by rw [prtV_eq hv1 hv2 (List.all_eq_true.2 hv3)]; exact all_of fun j p h => hG j p (List.getElem?_eq_some_iff.1 h).1 h
         have hnl := npR_len q.1
         refine ACode.exit ?_
         refine ks_e ?_
         refine kl_e ?_
         refine kb_hit ?_
         refine kb_n ?_
         refine ks_n ?_
         refine ACode.region ?_
         refine .cons (.pl rfl rfl rfl) ?_
         refine .cons (.mv rfl rfl) ?_
         refine .nil ?_
         refine kl_k [(110, 120)] (.inr ⟨k + 1, o2, rfl, by omega, fun j q' hj hq' => (Nat.lt_succ_iff_lt_or_eq.1 hj).elim (fun h => hF j q' h hq') (fun h => by subst h; rw [hq1] at hq'; cases hq'; exact hPV), by rw [insG_take hq1, hE]; exact hEo, by omega, rfl⟩) ⟨ks rfl .dt, ks rfl (.c .ow), ks rfl .dt, ks rfl .dt, ks rfl .dt, kb 120 rfl (.dt rfl (by first | rfl | (simp [dR, rN, dI]; done))), trivial⟩
    ·skip
     obtain rfl : k = g.2.length := by omega
     rw [List.take_length] at hE
     have hEz := hE
     obtain ⟨hO, hN⟩ := prgV_t (prgS_eq hA h4 hF)
     refine ACode.exit ?_
     refine ks_e ?_
     refine kl_e ?_
     refine kb_hit ?_
     refine ks_n ?_
     refine ACode.seq ?_
     refine ACode.region ?_
     refine .cons (.mv rfl rfl) ?_
     refine .cons (.mv rfl rfl) ?_
     refine .cons (.lB 50 3 40 rfl rfl rfl rfl) ?_
     refine .cons (.le rfl rfl rfl) ?_
     refine .cons (.asg rfl rfl) ?_
     refine .cons (.asg rfl rfl) ?_
     refine .nil ?_
     refine ks_n ?_
     refine ACode.ret ?_
     refine kf_wret [(.t 2, .v (.o (vD (dNs (insV g))))), (.t 3, .v (.o (bo1 (prgV g))))] (Wk.keep [] rfl rfl ⟨ks rfl (.c (.fz rfl (by first | (rw [hN, hEz]; done) | (rw [hN, hEz]; rfl)) (by rw [hN, hEz, List.length_map]) (by omega))), ks rfl (.dt (by first | exact congrArg (fun b => V.o (bo1 b)) hO.symm | exact congrArg (fun b => V.o (bo1 b)) (by rw [hO, hEz, decide_eq_decide]; simp) | exact congrArg (fun b => V.o (bo1 b)) (by rw [hO, hEz, decide_eq_decide]; omega))), trivial⟩) rfl ?_ nobox
     rfl

/-- The statement of an instance. -/
def stI (g : Prg) (x : Ins) : Stm := match (g.2[x.1.toNat]?).bind fun q => q.2[x.2.1.toNat]? with | some s => s | none => ((ByteArray.empty, []), .mk 0 0 ([], 0) (ByteArray.empty, []) [])
theorem stI_eq {g : Prg} {x : Ins} {k c : Nat} {q : Prt} {s : Stm} (h1 : x.1 = (k : Int)) (hq : g.2[k]? = some q) (h2 : x.2.1 = (c : Int)) (hs : q.2[c]? = some s) : stI g x = s := by
  rw [stI, h1, h2, Int.toNat_natCast, Int.toNat_natCast, hq, Option.bind_some, hs]
structure InsOk (g : Prg) (x : Ins) (k c : Nat) (q : Prt) : Prop where
  e1 : x.1 = (k : Int)
  hq : g.2[k]? = some q
  e2 : x.2.1 = (c : Int)
  hs : q.2[c]? = some (stI g x)
  pt : x.2.2 ∈ npR q.1
  sv : stmtV (q.1.length : Nat) (stI g x) = true
  ok : stmG g.1 (stI g x) x.2.2 = true
  ip : isPt x.2.2 = true
  hk : k < g.2.length
  hc : c < q.2.length
theorem ins_at {g : Prg} {x : Ins} (hg : prgS g = true) (hx : x ∈ insG 0 g.2) : ∃ k c q, InsOk g x k c q := by
  obtain ⟨k, q, c, h1, h2, h3, h4, h5⟩ := insG_mem hx
  rw [Nat.zero_add] at h2
  obtain ⟨s, hs⟩ : ∃ s, q.2[c]? = some s := ⟨_, List.getElem?_eq_getElem h4⟩
  have e := stI_eq h2 h1 h3 hs
  have hp := prtV_iff.1 ((prgS_iff.1 hg).2.2 q (List.mem_of_getElem? h1))
  have hm := List.mem_of_getElem? hs
  exact ⟨k, c, q, h2, h1, h3, by rw [e]; exact hs, h5, by rw [e]; exact hp.2.2.1 s hm, by rw [e]; exact (hp.2.2.2 _ h5).2 s hm, (hp.2.2.2 _ h5).1, (List.getElem?_eq_some_iff.1 h1).1, h4⟩
set_option maxRecDepth 100000 in
set_option maxHeartbeats 1600000 in
theorem stmt_fn {g : Prg} {x : Ins} {k c : Nat} {q : Prt} (h : InsOk g x k c q) : Fn Tryz.prog 18 [] [ad (rG g), ad (rN x)] (.o (ad (rS (stI g x)))) [] := by
 refine Fn.code0 Tryz.func18 rfl rfl rfl rfl ?_
 refine ACode.seq ?_
 refine ACode.region ?_
 refine .cons (St1.boxP rfl rfl rfl rfl rfl rfl) ?_
 refine .cons (St1.boxP rfl rfl rfl rfl rfl rfl) ?_
 refine .cons (.al 104 [.string ByteArray.empty, .slice none 0 0, .int .i64 0, .int .i64 0, .slice none 0 0, .int .i64 0, .string ByteArray.empty, .slice none 0 0, .slice none 0 0] rfl rfl rfl) ?_
 refine .nil ?_
 refine ks_n ?_
 refine ACode.seq ?_
 refine ACode.drawK (by kernel_rfl) (by kernel_rfl) ?_
 refine .cons (.fP 1 0 false rfl rfl) ?_
 refine .cons (.l1 1 rfl rfl) ?_
 refine .cons (.fP 0 0 false rfl rfl) ?_
 refine .cons (.l1 1 rfl rfl) ?_
 refine .cons (.xL 43 2 48 (i := k) rfl rfl rfl rfl h.e1 (map_at h.hq)) ?_
 refine .cons (.fP 1 0 false rfl rfl) ?_
 refine .cons (.l1 1 rfl rfl) ?_
 refine .cons (.fP 1 0 false rfl rfl) ?_
 refine .cons (.l1 1 rfl rfl) ?_
 refine .cons (.xL 33 9 152 (i := c) rfl rfl rfl rfl h.e2 (map_at h.hs)) ?_
 refine .cons (.lN 9 rfl rfl rfl) ?_
 refine .cons (.sT 9 true rfl rfl rfl rfl rfl rfl rfl) ?_
 refine .nil ⟨by kernel_rfl, ?_⟩
 refine ks_n ?_
 refine ACode.ret ?_
 refine kf_ret rfl ?_ nobox
 rfl
def totN (l : List Arr) : Nat := (l.map fun a => (sizeA a.2).toNat).sum
theorem totN_take {l : List Arr} {i : Nat} {x : Arr} (h : l[i]? = some x) : totN (l.take (i + 1)) = totN (l.take i) + (sizeA x.2).toNat := by
  rw [List.take_add_one, h, totN, List.map_append, List.sum_append]; simp [totN]
theorem totN_bd {l : List Arr} (h : arrsV l = true) : totN l ≤ 144 := by
  have key : ∀ l : List Arr, (∀ a ∈ l, arrOk a = true) → totN l ≤ 36 * l.length := by
    intro l
    induction l with
    | nil => intro _; simp [totN]
    | cons a l ih =>
      intro h
      have h1 := sizeA_bd (h a (by simp))
      have h2 := ih fun b hb => h b (by simp [hb])
      rw [totN, List.map_cons, List.sum_cons, List.length_cons]
      rw [totN] at h2
      omega
  have h1 := key l fun a ha => arrsV_at h ha
  have h2 := arrsV_len h
  omega
theorem sizeF_mono {l : List Int} : ∀ {a b : Int}, 0 ≤ a → a ≤ b → (∀ d ∈ l, 1 ≤ d) → sizeF a l ≤ sizeF b l := by
  induction l with
  | nil => intro a b _ h _; exact h
  | cons d l ih =>
    intro a b h0 h hd
    have h1 := hd d (by simp)
    exact ih (Int.mul_nonneg h0 (by omega)) (Int.mul_le_mul_of_nonneg_right h (by omega)) fun e he => hd e (by simp [he])
theorem atG_bd {p : List Int} : ∀ {ds : List Int} {ss : List Aff} {n : Int}, 0 ≤ n → (∀ d ∈ ds, 1 ≤ d) → ss.length = ds.length → atG p ds ss n ≠ -1 → 0 ≤ atG p ds ss n ∧ atG p ds ss n + 1 ≤ sizeF (n + 1) ds
  | [], ss, n, h0, _, hl, _ => by
    rw [List.eq_nil_of_length_eq_zero hl, atG]
    · exact ⟨h0, Int.le_refl _⟩
    · intros; contradiction
  | d :: ds, [], n, _, _, hl, _ => by cases hl
  | d :: ds, s :: ss, n, h0, hd, hl, hne => by
    rw [atG] at hne ⊢
    split at hne
    · rename_i hin
      rw [if_pos hin]
      have hv := of_decide_eq_true hin
      have h1 := hd d (by simp)
      have hm := Int.mul_nonneg h0 (show 0 ≤ d by omega)
      have e : (n + 1) * d = n * d + d := by rw [Int.add_mul, Int.one_mul]
      obtain ⟨h2, h3⟩ := atG_bd (p := p) (ds := ds) (ss := ss) (n := n * d + affEval s p) (by omega) (fun e he => hd e (by simp [he])) (by simpa using hl) hne
      refine ⟨h2, Int.le_trans h3 ?_⟩
      rw [show sizeF (n + 1) (d :: ds) = sizeF ((n + 1) * d) ds from rfl]
      exact sizeF_mono (by omega) (by omega) fun e he => hd e (by simp [he])
    · exact absurd rfl hne
theorem cellG_lt {a : Acc} {p : List Int} : ∀ {l : List Arr} {b : Int}, (∀ x ∈ l, arrOk x = true) → 0 ≤ b → cellG a p l b = -1 ∨ (b ≤ cellG a p l b ∧ cellG a p l b < b + totN l)
  | [], b, _, _ => .inl rfl
  | x :: l, b, h, h0 => by
    have hx := h x (by simp)
    have hs := sizeA_bd hx
    obtain ⟨hl, hd⟩ := arrOk_at hx
    have e : totN (x :: l) = (sizeA x.2).toNat + totN l := by simp [totN]
    rw [cellG]
    split
    · split
      · rename_i hle
        split
        · exact .inl rfl
        · rename_i hne
          obtain ⟨h1, h2⟩ := atG_bd (p := p) (n := 0) (Int.le_refl _) (fun d hd' => (hd d hd').1) hle hne
          have : sizeF (0 + 1) x.2 = sizeA x.2 := rfl
          right; omega
      · exact .inl rfl
    · rcases cellG_lt (a := a) (p := p) (l := l) (b := b + sizeA x.2) (fun y hy => h y (by simp [hy])) (by omega) with h1 | h1
      · exact .inl h1
      · right; omega
theorem cell_in {ar : List Arr} (hv : arrsV ar = true) {a : Acc} {p : List Int} (h : accG ar p a = true) : 0 ≤ cellG a p ar 0 ∧ (cellG a p ar 0).toNat < totN ar := by
  have h1 : 0 ≤ cellG a p ar 0 := of_decide_eq_true h
  rcases cellG_lt (a := a) (p := p) (l := ar) (b := 0) (fun x hx => arrsV_at hv hx) (Int.le_refl _) with h2 | h2
  · omega
  · exact ⟨h1, by omega⟩
def numE (n : Int) : Ex := .mk 1 n ([], 0) (ByteArray.empty, []) []
def isN (e : Ex) (n : Int) : Bool := decide (e.k = 1) && decide (e.n = n)
/-- The value of an operator on numbers. -/
def valN (k a b : Int) : Int := if k = 5 then a - b else if k = 6 then a * b else a + b
/-- A node whose operands are simple. -/
def foldN (e x y : Ex) : Ex :=
  if (decide (x.k = 1) && decide (y.k = 1)) = true then (if inB (valN e.k x.n y.n) 0 99 = true then numE (valN e.k x.n y.n) else e)
  else if (!decide (e.k = 6) && isN y 0 || decide (e.k = 6) && isN y 1) = true then x
  else if (decide (e.k = 4) && isN x 0 || decide (e.k = 6) && isN x 1) = true then y
  else if (decide (e.k = 6) && (isN x 0 || isN y 0)) = true then numE 0 else e
def outE (k : Int) (x y : Ex) : Ex := .mk k 0 ([], 0) (ByteArray.empty, []) [x, y]
def idxV (e : Ex) : Bool := decide (e.k = 2) && decide (affDepth e.i = 0) && decide (0 ≤ e.i.2)
mutual
def foldE : Ex → Ex
  | .mk k n i r ks => if idxV (.mk k n i r ks) = true then numE i.2 else if 4 ≤ k ∧ k ≤ 6 then
    match foldEs ks with
    | [x, y] => foldN (outE k x y) x y
    | _ => .mk k n i r ks
    else .mk k n i r ks
def foldEs : List Ex → List Ex
  | [] => []
  | e :: l => foldE e :: foldEs l
end
theorem idxV_no {e : Ex} (h : ¬ e.k = 2) : idxV e = false := by rw [idxV, decide_eq_false h]; rfl
theorem foldE_leaf {e : Ex} (h : ¬ (4 ≤ e.k ∧ e.k ≤ 6)) : foldE e = if idxV e = true then numE e.i.2 else e := by
  cases e with
  | mk k n i r ks =>
    rw [foldE]
    have h' : ¬ (4 ≤ k ∧ k ≤ 6) := h
    rw [if_neg h']; rfl
theorem foldE_op {e x y : Ex} (h : 4 ≤ e.k ∧ e.k ≤ 6) (hks : e.ks = [x, y]) : foldE e = foldN (outE e.k (foldE x) (foldE y)) (foldE x) (foldE y) := by
  cases e with
  | mk k n i r ks =>
    have h' : 4 ≤ k ∧ k ≤ 6 := h
    have hk' : ks = [x, y] := hks
    subst hk'
    rw [foldE, idxV_no (show ¬ (Ex.mk k n i r [x, y]).k = 2 by show ¬ k = 2; omega), if_neg (by simp), if_pos h', foldEs, foldEs, foldEs]; rfl
theorem dEs_two (x y : Ex) : dEs [x, y] = .list 7 [rX x, rX y] := by rw [dEs, List.map_cons, List.map_cons, List.map_nil, rE_eq, rE_eq]
theorem foldN_num {k : Int} {X Y : Ex} (h : (decide (X.k = 1) && decide (Y.k = 1)) = true) (h2 : inB (valN k X.n Y.n) 0 99 = true) : foldN (outE k X Y) X Y = numE (valN k X.n Y.n) := by rw [foldN, if_pos h]; exact if_pos h2
theorem foldN_out {k : Int} {X Y : Ex} (h : (decide (X.k = 1) && decide (Y.k = 1)) = true) (h2 : inB (valN k X.n Y.n) 0 99 = false) : foldN (outE k X Y) X Y = outE k X Y := by rw [foldN, if_pos h]; exact if_neg (by intro h3; exact absurd (h2.symm.trans h3) (by decide))
theorem foldN_x {k : Int} {X Y : Ex} (h : (decide (X.k = 1) && decide (Y.k = 1)) = false) (h2 : (!decide (k = 6) && isN Y 0 || decide (k = 6) && isN Y 1) = true) : foldN (outE k X Y) X Y = X := by rw [foldN, if_neg (by rw [h]; decide)]; exact if_pos h2
theorem foldN_y {k : Int} {X Y : Ex} (h : (decide (X.k = 1) && decide (Y.k = 1)) = false) (h2 : (!decide (k = 6) && isN Y 0 || decide (k = 6) && isN Y 1) = false) (h3 : (decide (k = 4) && isN X 0 || decide (k = 6) && isN X 1) = true) : foldN (outE k X Y) X Y = Y := by
  rw [foldN, if_neg (by rw [h]; decide)]
  exact (if_neg (fun h4 => absurd (h2.symm.trans h4) (by decide))).trans (if_pos h3)
theorem foldN_z {k : Int} {X Y : Ex} (h : (decide (X.k = 1) && decide (Y.k = 1)) = false) (h2 : (!decide (k = 6) && isN Y 0 || decide (k = 6) && isN Y 1) = false) (h3 : (decide (k = 4) && isN X 0 || decide (k = 6) && isN X 1) = false) (h5 : (decide (k = 6) && (isN X 0 || isN Y 0)) = true) : foldN (outE k X Y) X Y = numE 0 := by
  rw [foldN, if_neg (by rw [h]; decide)]
  exact (if_neg (fun h4 => absurd (h2.symm.trans h4) (by decide))).trans ((if_neg (fun h4 => absurd (h3.symm.trans h4) (by decide))).trans (if_pos h5))
theorem foldN_e {k : Int} {X Y : Ex} (h : (decide (X.k = 1) && decide (Y.k = 1)) = false) (h2 : (!decide (k = 6) && isN Y 0 || decide (k = 6) && isN Y 1) = false) (h3 : (decide (k = 4) && isN X 0 || decide (k = 6) && isN X 1) = false) (h5 : (decide (k = 6) && (isN X 0 || isN Y 0)) = false) : foldN (outE k X Y) X Y = outE k X Y := by
  rw [foldN, if_neg (by rw [h]; decide)]
  exact (if_neg (fun h4 => absurd (h2.symm.trans h4) (by decide))).trans ((if_neg (fun h4 => absurd (h3.symm.trans h4) (by decide))).trans (if_neg (fun h4 => absurd (h5.symm.trans h4) (by decide))))
theorem inB_mul {a b : Int} (ha : -1000 ≤ a ∧ a ≤ 1000) (hb : -1000 ≤ b ∧ b ≤ 1000) : -1000000 ≤ a * b ∧ a * b ≤ 1000000 := mulb ha hb

set_option maxRecDepth 100000 in
set_option maxHeartbeats 1600000 in
theorem implNum_fn (n : Int) : Fn Tryz.prog 25 [] [nat1 n] (.o (ad (rX (numE n)))) [] := by
 refine Fn.code0 Tryz.func25 rfl rfl rfl rfl ?_
 refine ACode.seq ?_
 refine ACode.region ?_
 refine .cons (.al 102 [.int .i64 0, .int .i64 0, .slice none 0 0, .int .i64 0, .string ByteArray.empty, .slice none 0 0, .slice none 0 0] rfl rfl rfl) ?_
 refine .nil ?_
 refine ks_n ?_
 refine ACode.seq ?_
 refine ACode.region ?_
 refine .cons (.mv rfl rfl) ?_
 refine .cons (.bu [(0, .const (.int .i64 (1))), (1, .tmp 3)] [(0, 1), (1, 1), (2, 2), (4, 2), (6, 1)] [.int .i64 0, .int .i64 0, .slice none 0 0, .int .i64 0, .string ByteArray.empty, .slice none 0 0, .slice none 0 0] rfl rfl rfl rfl rfl) ?_
 refine .cons (.sT 7 true rfl rfl rfl rfl rfl rfl rfl) ?_
 refine .nil ?_
 refine ks_n ?_
 refine ACode.ret ?_
 refine kf_wret [(.t 2, .v (.o (.c (.box 100 7 0 0)))), (.b 100, .b 31 7 [[.d (dI 1), .d (dI n), .d (dIs []), .d (dI 0), .d (dS ByteArray.empty), .d (dAs []), .d (dEs [])]]), (.u 100, .u)] (Wk.keep [(100, 102)] rfl rfl ⟨ks rfl (.c .bx), kb 102 rfl (.cons (.cons .dt (.cons .dt (.cons (Cto.nil _) (.cons .dt (.cons .dt (.cons (Cto.nil _) (.cons (Cto.nil _) Ctos.nil))))))) .nil), trivial⟩) rfl ?_ nobox
 rfl

set_option maxRecDepth 100000 in
set_option maxHeartbeats 1600000 in
theorem l13Num_fn (n : Int) : Fn Tryz.prog 68 [] [nat1 n] (.o (ad (rX (numE n)))) [] := by
 refine Fn.code0 Tryz.func68 rfl rfl rfl rfl ?_
 refine ACode.seq ?_
 refine ACode.region ?_
 refine .cons (.al 102 [.int .i64 0, .int .i64 0, .slice none 0 0, .int .i64 0, .string ByteArray.empty, .slice none 0 0, .slice none 0 0] rfl rfl rfl) ?_
 refine .nil ?_
 refine ks_n ?_
 refine ACode.seq ?_
 refine ACode.region ?_
 refine .cons (.mv rfl rfl) ?_
 refine .cons (.bu [(0, .const (.int .i64 (1))), (1, .tmp 3)] [(0, 1), (1, 1), (2, 2), (4, 2), (6, 1)] [.int .i64 0, .int .i64 0, .slice none 0 0, .int .i64 0, .string ByteArray.empty, .slice none 0 0, .slice none 0 0] rfl rfl rfl rfl rfl) ?_
 refine .cons (.sT 7 true rfl rfl rfl rfl rfl rfl rfl) ?_
 refine .nil ?_
 refine ks_n ?_
 refine ACode.ret ?_
 refine kf_wret [(.t 2, .v (.o (.c (.box 100 7 0 0)))), (.b 100, .b 31 7 [[.d (dI 1), .d (dI n), .d (dIs []), .d (dI 0), .d (dS ByteArray.empty), .d (dAs []), .d (dEs [])]]), (.u 100, .u)] (Wk.keep [(100, 102)] rfl rfl ⟨ks rfl (.c .bx), kb 102 rfl (.cons (.cons .dt (.cons .dt (.cons (Cto.nil _) (.cons .dt (.cons .dt (.cons (Cto.nil _) (.cons (Cto.nil _) Ctos.nil))))))) .nil), trivial⟩) rfl ?_ nobox
 rfl

set_option maxRecDepth 100000 in
set_option maxHeartbeats 1600000 in
theorem implIsNum_fn (e : Ex) (n : Int) : Fn Tryz.prog 28 [] [ad (rX e), nat1 n] (.o (bo1 (isN e n))) [] := by
 refine Fn.code0 Tryz.func28 rfl rfl rfl rfl ?_
 refine ACode.seq ?_
 refine ACode.region ?_
 refine .cons (St1.boxP rfl rfl rfl rfl rfl rfl) ?_
 refine .cons (.asg rfl rfl) ?_
 refine .nil ?_
 refine ks_n ?_
 refine ACode.seq ?_
 refine ACode.region ?_
 refine .cons (.fP 0 0 false rfl rfl) ?_
 refine .cons (.l1 1 rfl rfl) ?_
 refine .cons (.eq rfl rfl rfl) ?_
 refine .cons (.mv rfl rfl) ?_
 refine .cD 8 rfl (fun g8 => ?_) (fun g8 => ?_)
 ·skip
  refine .cons (.gT rfl rfl rfl (.fP 1 0 false rfl rfl)) ?_
  refine .cons (.gT rfl rfl rfl (.l1 1 rfl rfl)) ?_
  refine .cons (.gT rfl rfl rfl (.mv rfl rfl)) ?_
  refine .cons (.gT rfl rfl rfl (.eq rfl rfl rfl)) ?_
  refine .cons (.pT rfl rfl rfl) ?_
  refine .cons (.asg rfl rfl) ?_
  refine .nil ?_
  refine ks_n ?_
  refine ACode.ret ?_
  refine kf_ret rfl ?_ nobox
  exact leafB (by rw [isN]; first | rfl | grind)
 ·skip
  refine .cons (.gF rfl rfl rfl) ?_
  refine .cons (.gF rfl rfl rfl) ?_
  refine .cons (.gF rfl rfl rfl) ?_
  refine .cons (.gF rfl rfl rfl) ?_
  refine .cons (.pF rfl rfl rfl) ?_
  refine .cons (.asg rfl rfl) ?_
  refine .nil ?_
  refine ks_n ?_
  refine ACode.ret ?_
  refine kf_ret rfl ?_ nobox
  exact leafB (by rw [isN]; first | rfl | grind)

set_option maxRecDepth 100000 in
set_option maxHeartbeats 1600000 in
theorem l13Is_fn (e : Ex) (n : Int) : Fn Tryz.prog 81 [] [ad (rX e), nat1 n] (.o (bo1 (isN e n))) [] := by
 refine Fn.code0 Tryz.func81 rfl rfl rfl rfl ?_
 refine ACode.seq ?_
 refine ACode.region ?_
 refine .cons (St1.boxP rfl rfl rfl rfl rfl rfl) ?_
 refine .cons (.asg rfl rfl) ?_
 refine .nil ?_
 refine ks_n ?_
 refine ACode.seq ?_
 refine ACode.region ?_
 refine .cons (.fP 0 0 false rfl rfl) ?_
 refine .cons (.l1 1 rfl rfl) ?_
 refine .cons (.eq rfl rfl rfl) ?_
 refine .cons (.mv rfl rfl) ?_
 refine .cD 8 rfl (fun g8 => ?_) (fun g8 => ?_)
 ·skip
  refine .cons (.gT rfl rfl rfl (.fP 1 0 false rfl rfl)) ?_
  refine .cons (.gT rfl rfl rfl (.l1 1 rfl rfl)) ?_
  refine .cons (.gT rfl rfl rfl (.mv rfl rfl)) ?_
  refine .cons (.gT rfl rfl rfl (.eq rfl rfl rfl)) ?_
  refine .cons (.pT rfl rfl rfl) ?_
  refine .cons (.asg rfl rfl) ?_
  refine .nil ?_
  refine ks_n ?_
  refine ACode.ret ?_
  refine kf_ret rfl ?_ nobox
  exact leafB (by rw [isN]; first | rfl | grind)
 ·skip
  refine .cons (.gF rfl rfl rfl) ?_
  refine .cons (.gF rfl rfl rfl) ?_
  refine .cons (.gF rfl rfl rfl) ?_
  refine .cons (.gF rfl rfl rfl) ?_
  refine .cons (.pF rfl rfl rfl) ?_
  refine .cons (.asg rfl rfl) ?_
  refine .nil ?_
  refine ks_n ?_
  refine ACode.ret ?_
  refine kf_ret rfl ?_ nobox
  exact leafB (by rw [isN]; first | rfl | grind)

set_option maxRecDepth 100000 in
set_option maxHeartbeats 1600000 in
theorem fold_leaf {e : Ex} (hk : ¬ (4 ≤ e.k ∧ e.k ≤ 6)) : Fn Tryz.prog 11 [] [ad (rX e)] (.o (ad (rX (if idxV e = true then numE e.i.2 else e)))) [] := by
 refine Fn.code0 Tryz.func11 rfl rfl rfl rfl ?_
 refine ACode.seq ?_
 refine ACode.region ?_
 refine .cons (St1.boxP rfl rfl rfl rfl rfl rfl) ?_
 refine .cons (.al 102 [.int .i64 0, .int .i64 0, .slice none 0 0, .int .i64 0, .string ByteArray.empty, .slice none 0 0, .slice none 0 0] rfl rfl rfl) ?_
 refine .nil ?_
 refine ks_n ?_
 refine ACode.seq ?_
 refine ACode.seq ?_
 refine ACode.cut [(.t 1, .v (.o (.c (.ptr (rX e))))), (.t 2, .v (.o (.c (.box 810 7 0 0)))), (.t 22, .v (.o (bo1 (idxV e)))), (.b 810, .b 31 7 [[.d (dI 0), .d (dI 0), .d (.val (.slice none 0 0)), .d (dI 0), .d (dS ByteArray.empty), .d (.val (.slice none 0 0)), .d (.val (.slice none 0 0))]]), (.u 810, .u)] ?_ ?_
 ·skip
  refine ACode.region ?_
  refine .cons (.fP 0 0 false rfl rfl) ?_
  refine .cons (.l1 1 rfl rfl) ?_
  refine .cons (.eq rfl rfl rfl) ?_
  refine .cons (.mv rfl rfl) ?_
  refine .cD 11 rfl (fun g11 => ?_) (fun g11 => ?_)
  ·skip
   refine .cons (.gT rfl rfl rfl (.fP 2 1 true rfl rfl)) ?_
   refine .cons (.gT rfl rfl rfl (.lN 2 rfl rfl rfl)) ?_
   refine .cons (.gT rfl rfl rfl (.cP [.tmp 13] rfl rfl rfl rfl (depth_fn _) rfl)) ?_
   refine .cons (.gT rfl rfl rfl (.eq rfl rfl rfl)) ?_
   refine .cons (.pT rfl rfl rfl) ?_
   refine .cons (.mv rfl rfl) ?_
   refine AOps.cases 17 _ rfl (fun g17 => ?_) (fun g17 => ?_)
   ·try simp only [zs1, zs2, zs3, zs4, zs5, zs6, zs7] at g17
    refine .cons (.gT rfl rfl rfl (.fP 2 1 true rfl rfl)) ?_
    refine .cons (.gT rfl rfl rfl (.fP 1 0 false rfl rfl)) ?_
    refine .cons (.gT rfl rfl rfl (.l1 1 rfl rfl)) ?_
    refine .cons (.gT rfl rfl rfl (.ge rfl rfl rfl)) ?_
    refine .cons (.pT rfl rfl rfl) ?_
    refine .nil ?_
    exact kc_n (Wk.keep [(810, 102)] rfl rfl ⟨ks rfl .dt, ks rfl (.c .bx), ks rfl (.dt (vB (by rw [idxV]; first | rfl | (simp [*]; done) | grind))), kb 102 rfl (.cons (.cons .dt (.cons .dt (.cons .dt (.cons .dt (.cons .dt (.cons .dt (.cons .dt Ctos.nil))))))) .nil), trivial⟩)
   ·try simp only [zs1, zs2, zs3, zs4, zs5, zs6, zs7] at g17
    refine .cons (.gF rfl rfl rfl) ?_
    refine .cons (.gF rfl rfl rfl) ?_
    refine .cons (.gF rfl rfl rfl) ?_
    refine .cons (.gF rfl rfl rfl) ?_
    refine .cons (.pF rfl rfl rfl) ?_
    refine .nil ?_
    exact kc_n (Wk.keep [(810, 102)] rfl rfl ⟨ks rfl .dt, ks rfl (.c .bx), ks rfl (.dt (vB (by rw [idxV]; first | rfl | (simp [*]; done) | grind))), kb 102 rfl (.cons (.cons .dt (.cons .dt (.cons .dt (.cons .dt (.cons .dt (.cons .dt (.cons .dt Ctos.nil))))))) .nil), trivial⟩)
  ·skip
   refine .cons (.gF rfl rfl rfl) ?_
   refine .cons (.gF rfl rfl rfl) ?_
   refine .cons (.gF rfl rfl rfl) ?_
   refine .cons (.gF rfl rfl rfl) ?_
   refine .cons (.pF rfl rfl rfl) ?_
   refine .cons (.mv rfl rfl) ?_
   refine .cons (.gF rfl rfl rfl) ?_
   refine .cons (.gF rfl rfl rfl) ?_
   refine .cons (.gF rfl rfl rfl) ?_
   refine .cons (.gF rfl rfl rfl) ?_
   refine .cons (.pF rfl rfl rfl) ?_
   refine .nil ?_
   exact kc_n (Wk.keep [(810, 102)] rfl rfl ⟨ks rfl .dt, ks rfl (.c .bx), ks rfl (.dt (vB (by rw [idxV]; first | rfl | (simp [*]; done) | grind))), kb 102 rfl (.cons (.cons .dt (.cons .dt (.cons .dt (.cons .dt (.cons .dt (.cons .dt (.cons .dt Ctos.nil))))))) .nil), trivial⟩)
 refine ks_n ?_
 refine ACode.condT rfl (fun h22 => ?_) (fun h22 => ?_)
 ·try simp only [zs1, zs2, zs3, zs4, zs5, zs6, zs7] at h22
  refine ACode.seq ?_
  refine ACode.region ?_
  refine .cons (.fP 2 1 true rfl rfl) ?_
  refine .cons (.fP 1 0 false rfl rfl) ?_
  refine .cons (.l1 1 rfl rfl) ?_
  refine .cons (.cP [.tmp 25] rfl rfl rfl rfl (implNum_fn _) rfl) ?_
  refine .cons (.sT 7 true rfl rfl rfl rfl rfl rfl rfl) ?_
  refine .nil ?_
  refine ks_n ?_
  refine ACode.ret ?_
  refine ks_r ?_
  refine kf_ret rfl ?_ nobox
  rw [if_pos h22]; rfl
 ·try simp only [zs1, zs2, zs3, zs4, zs5, zs6, zs7] at h22
  refine ACode.skip ?_
  refine ks_n ?_
  refine ACode.seq ?_
  refine ACode.seq ?_
  refine ACode.region ?_
  refine .cons (.fP 0 0 false rfl rfl) ?_
  refine .cons (.l1 1 rfl rfl) ?_
  refine .cons (.cP [.tmp 28] rfl rfl rfl rfl (isOp_fn _) rfl) ?_
  refine .cons (.nt rfl rfl) ?_
  refine .nil ?_
  refine ks_n ?_
  refine ACode.condT rfl (fun h30 => ?_) (fun h30 => ?_)
  ·try simp only [zs1, zs2, zs3, zs4, zs5, zs6, zs7] at h30
   refine ACode.seq ?_
   refine ACode.region ?_
   refine .cons (.lN 7 rfl rfl rfl) ?_
   refine .cons (.sT 7 true rfl rfl rfl rfl rfl rfl rfl) ?_
   refine .nil ?_
   refine ks_n ?_
   refine ACode.ret ?_
   refine ks_r ?_
   refine kf_ret rfl ?_ nobox
   rw [if_neg (by rw [h22]; decide)]; rfl
  ·try simp only [zs1, zs2, zs3, zs4, zs5, zs6, zs7] at h30
   exact absurd (by simpa [inB] using h30) hk

set_option maxRecDepth 100000 in
set_option maxHeartbeats 1600000 in
theorem fold_op {e x y X Y : Ex} (hk : 4 ≤ e.k ∧ e.k ≤ 6) (hks : e.ks = [x, y]) (ihx : Fn Tryz.prog 11 [] [ad (rX x)] (.o (ad (rX X))) []) (ihy : Fn Tryz.prog 11 [] [ad (rX y)] (.o (ad (rX Y))) []) (hX : -1000 ≤ X.n ∧ X.n ≤ 1000) (hY : -1000 ≤ Y.n ∧ Y.n ≤ 1000) : Fn Tryz.prog 11 [] [ad (rX e)] (.o (ad (rX (foldN (outE e.k X Y) X Y)))) [] := by
 have hm := inB_mul hX hY
 refine Fn.code0 Tryz.func11 rfl rfl rfl rfl ?_
 refine ACode.seq ?_
 refine ACode.region ?_
 refine .cons (St1.boxP rfl rfl rfl rfl rfl rfl) ?_
 refine .cons (.al 102 [.int .i64 0, .int .i64 0, .slice none 0 0, .int .i64 0, .string ByteArray.empty, .slice none 0 0, .slice none 0 0] rfl rfl rfl) ?_
 refine .nil ?_
 refine ks_n ?_
 refine ACode.seq ?_
 refine ACode.seq ?_
 refine ACode.cut [(.t 1, .v (.o (.c (.ptr (rX e))))), (.t 2, .v (.o (.c (.box 810 7 0 0)))), (.t 22, .v (.o (bo1 (idxV e)))), (.b 810, .b 31 7 [[.d (dI 0), .d (dI 0), .d (.val (.slice none 0 0)), .d (dI 0), .d (dS ByteArray.empty), .d (.val (.slice none 0 0)), .d (.val (.slice none 0 0))]]), (.u 810, .u)] ?_ ?_
 ·skip
  refine ACode.region ?_
  refine .cons (.fP 0 0 false rfl rfl) ?_
  refine .cons (.l1 1 rfl rfl) ?_
  refine .cons (.eq rfl rfl rfl) ?_
  refine .cons (.mv rfl rfl) ?_
  refine .cD 11 rfl (fun g11 => ?_) (fun g11 => ?_)
  ·skip
   refine .cons (.gT rfl rfl rfl (.fP 2 1 true rfl rfl)) ?_
   refine .cons (.gT rfl rfl rfl (.lN 2 rfl rfl rfl)) ?_
   refine .cons (.gT rfl rfl rfl (.cP [.tmp 13] rfl rfl rfl rfl (depth_fn _) rfl)) ?_
   refine .cons (.gT rfl rfl rfl (.eq rfl rfl rfl)) ?_
   refine .cons (.pT rfl rfl rfl) ?_
   refine .cons (.mv rfl rfl) ?_
   refine AOps.cases 17 _ rfl (fun g17 => ?_) (fun g17 => ?_)
   ·try simp only [zs1, zs2, zs3, zs4, zs5, zs6, zs7] at g17
    refine .cons (.gT rfl rfl rfl (.fP 2 1 true rfl rfl)) ?_
    refine .cons (.gT rfl rfl rfl (.fP 1 0 false rfl rfl)) ?_
    refine .cons (.gT rfl rfl rfl (.l1 1 rfl rfl)) ?_
    refine .cons (.gT rfl rfl rfl (.ge rfl rfl rfl)) ?_
    refine .cons (.pT rfl rfl rfl) ?_
    refine .nil ?_
    exact kc_n (Wk.keep [(810, 102)] rfl rfl ⟨ks rfl .dt, ks rfl (.c .bx), ks rfl (.dt (vB (by rw [idxV]; first | rfl | (simp [*]; done) | grind))), kb 102 rfl (.cons (.cons .dt (.cons .dt (.cons .dt (.cons .dt (.cons .dt (.cons .dt (.cons .dt Ctos.nil))))))) .nil), trivial⟩)
   ·try simp only [zs1, zs2, zs3, zs4, zs5, zs6, zs7] at g17
    refine .cons (.gF rfl rfl rfl) ?_
    refine .cons (.gF rfl rfl rfl) ?_
    refine .cons (.gF rfl rfl rfl) ?_
    refine .cons (.gF rfl rfl rfl) ?_
    refine .cons (.pF rfl rfl rfl) ?_
    refine .nil ?_
    exact kc_n (Wk.keep [(810, 102)] rfl rfl ⟨ks rfl .dt, ks rfl (.c .bx), ks rfl (.dt (vB (by rw [idxV]; first | rfl | (simp [*]; done) | grind))), kb 102 rfl (.cons (.cons .dt (.cons .dt (.cons .dt (.cons .dt (.cons .dt (.cons .dt (.cons .dt Ctos.nil))))))) .nil), trivial⟩)
  ·skip
   refine .cons (.gF rfl rfl rfl) ?_
   refine .cons (.gF rfl rfl rfl) ?_
   refine .cons (.gF rfl rfl rfl) ?_
   refine .cons (.gF rfl rfl rfl) ?_
   refine .cons (.pF rfl rfl rfl) ?_
   refine .cons (.mv rfl rfl) ?_
   refine .cons (.gF rfl rfl rfl) ?_
   refine .cons (.gF rfl rfl rfl) ?_
   refine .cons (.gF rfl rfl rfl) ?_
   refine .cons (.gF rfl rfl rfl) ?_
   refine .cons (.pF rfl rfl rfl) ?_
   refine .nil ?_
   exact kc_n (Wk.keep [(810, 102)] rfl rfl ⟨ks rfl .dt, ks rfl (.c .bx), ks rfl (.dt (vB (by rw [idxV]; first | rfl | (simp [*]; done) | grind))), kb 102 rfl (.cons (.cons .dt (.cons .dt (.cons .dt (.cons .dt (.cons .dt (.cons .dt (.cons .dt Ctos.nil))))))) .nil), trivial⟩)
 refine ks_n ?_
 refine ACode.condT rfl (fun h22 => ?_) (fun h22 => ?_)
 ·try simp only [zs1, zs2, zs3, zs4, zs5, zs6, zs7] at h22
  exact absurd (h22.symm.trans (idxV_no (by omega))) (by decide)
 ·try simp only [zs1, zs2, zs3, zs4, zs5, zs6, zs7] at h22
  refine ACode.skip ?_
  refine ks_n ?_
  refine ACode.seq ?_
  refine ACode.seq ?_
  refine ACode.region ?_
  refine .cons (.fP 0 0 false rfl rfl) ?_
  refine .cons (.l1 1 rfl rfl) ?_
  refine .cons (.cP [.tmp 28] rfl rfl rfl rfl (isOp_fn _) rfl) ?_
  refine .cons (.nt rfl rfl) ?_
  refine .nil ?_
  refine ks_n ?_
  refine ACode.condT rfl (fun h30 => ?_) (fun h30 => ?_)
  ·try simp only [zs1, zs2, zs3, zs4, zs5, zs6, zs7] at h30
   exact absurd hk (by simpa [inB] using h30)
  ·try simp only [zs1, zs2, zs3, zs4, zs5, zs6, zs7] at h30
   refine ACode.skip ?_
   refine ks_n ?_
   refine ACode.seq ?_
   refine ACode.drawK (by kernel_rfl) (by kernel_rfl) ?_
   refine .cons (.fP 6 0 false rfl rfl) ?_
   refine .cons (.l1 1 rfl rfl) ?_
   refine .cons (.xL 31 7 112 (i := 0) rfl rfl rfl rfl rfl (by rw [hks]; exact rE_at rfl)) ?_
   refine .cons (.lN 7 rfl rfl rfl) ?_
   refine .cons (.cP [.tmp 35] rfl rfl rfl rfl (ihx) rfl) ?_
   refine .cons (.fP 6 0 false rfl rfl) ?_
   refine .cons (.l1 1 rfl rfl) ?_
   refine .cons (.xL 31 7 112 (i := 1) rfl rfl rfl rfl rfl (by rw [hks]; exact rE_at rfl)) ?_
   refine .cons (.lN 7 rfl rfl rfl) ?_
   refine .cons (.cP [.tmp 40] rfl rfl rfl rfl (ihy) rfl) ?_
   refine .cons (.al 103 [.int .i64 0, .int .i64 0, .slice none 0 0, .int .i64 0, .string ByteArray.empty, .slice none 0 0, .slice none 0 0] rfl rfl rfl) ?_
   refine .cons (.al 104 [.int .i64 0, .int .i64 0, .slice none 0 0, .int .i64 0, .string ByteArray.empty, .slice none 0 0, .slice none 0 0] rfl rfl rfl) ?_
   refine .cons (.sT 7 true rfl rfl rfl rfl rfl rfl rfl) ?_
   refine .cons (.sT 7 true rfl rfl rfl rfl rfl rfl rfl) ?_
   refine .nil ⟨by kernel_rfl, ?_⟩
   refine ks_n ?_
   refine ACode.seq ?_
   refine ACode.region ?_
   refine .cons (.fP 0 0 false rfl rfl) ?_
   refine .cons (.l1 1 rfl rfl) ?_
   refine .cons (.bN 7 rfl rfl rfl rfl rfl rfl) ?_
   refine .cons (.bN 7 rfl rfl rfl rfl rfl rfl) ?_
   refine .cons (.li 31 6 1 [.tmp 44, .tmp 45] rfl rfl rfl rfl rfl rfl) ?_
   refine .cons (.bu [(0, .tmp 43), (4, .tmp 46)] [(0, 1), (1, 1), (2, 2), (4, 2), (6, 1)] [.int .i64 0, .int .i64 0, .slice none 0 0, .int .i64 0, .string ByteArray.empty, .slice none 0 0, .slice none 0 0] rfl rfl rfl rfl rfl) ?_
   refine .cons (.al 105 [.int .i64 0, .int .i64 0, .slice none 0 0, .int .i64 0, .string ByteArray.empty, .slice none 0 0, .slice none 0 0] rfl rfl rfl) ?_
   refine .cons (.sT 7 true rfl rfl rfl rfl rfl rfl rfl) ?_
   refine .nil ?_
   refine ks_n ?_
   refine ACode.seq ?_
   refine ACode.region ?_
   refine .cons (.fP 0 0 false rfl rfl) ?_
   refine .cons (.l1 1 rfl rfl) ?_
   refine .cons (.eq rfl rfl rfl) ?_
   refine .cons (.asg rfl rfl) ?_
   refine .nil ?_
   refine ks_n ?_
   refine ACode.seq ?_
   refine ACode.seq ?_
   refine ACode.cut [(.t 1, .v (.o (.c (.ptr (rX e))))), (.t 2, .v (.o (.c (.box 880 7 0 0)))), (.t 3, .v (.o (.c (.box 881 7 0 0)))), (.t 4, .v (.o (.c (.box 882 7 0 0)))), (.t 5, .v (.o (.c (.box 883 7 0 0)))), (.t 6, .v (.o (bo1 (decide (e.k = 6))))), (.t 58, .v (.o (bo1 ((decide (X.k = 1) && decide (Y.k = 1)))))), (.b 880, .b 31 7 [[.d (dI 0), .d (dI 0), .d (.val (.slice none 0 0)), .d (dI 0), .d (dS ByteArray.empty), .d (.val (.slice none 0 0)), .d (.val (.slice none 0 0))]]), (.u 880, .u), (.b 881, .b 31 7 (dR ([rX X]))), (.u 881, .u), (.b 882, .b 31 7 (dR ([rX Y]))), (.u 882, .u), (.b 883, .b 31 7 [[.d (dI e.k), .d (dI 0), .d (.val (.slice none 0 0)), .d (dI 0), .d (dS ByteArray.empty), .d (.val (.slice none 0 0)), .d (dEs [X, Y])]]), (.u 883, .u)] ?_ ?_
   ·skip
    refine ACode.region ?_
    refine .cons (.fB 0 0 false rfl rfl rfl) ?_
    refine .cons (.b1 1 rfl rfl rfl rfl rfl rfl) ?_
    refine .cons (.eq rfl rfl rfl) ?_
    refine .cons (.mv rfl rfl) ?_
    refine .cD 54 rfl (fun g54 => ?_) (fun g54 => ?_)
    ·skip
     refine .cons (.gT rfl rfl rfl (.fB 0 0 false rfl rfl rfl)) ?_
     refine .cons (.gT rfl rfl rfl (.b1 1 rfl rfl rfl rfl rfl rfl)) ?_
     refine .cons (.gT rfl rfl rfl (.eq rfl rfl rfl)) ?_
     refine .cons (.pT rfl rfl rfl) ?_
     refine .nil ?_
     exact kc_n (Wk.keep [(880, 810), (881, 103), (882, 104), (883, 105)] rfl rfl ⟨ks rfl .dt, ks rfl (.c .bx), ks rfl (.c .bx), ks rfl (.c .bx), ks rfl (.c .bx), ks rfl .dt, ks rfl (.dt (vB (by first | rfl | (simp [*]; done) | grind))), kb 810 rfl (.cons (.cons .dt (.cons .dt (.cons .dt (.cons .dt (.cons .dt (.cons .dt (.cons .dt Ctos.nil))))))) .nil), kb 103 rfl (.dt rfl), kb 104 rfl (.dt rfl), kb 105 rfl (.cons (.cons .dt (.cons .dt (.cons .dt (.cons .dt (.cons .dt (.cons .dt (.cons (.dt (by first | rfl | exact (dEs_two _ _).symm)) Ctos.nil))))))) .nil), trivial⟩)
    ·skip
     refine .cons (.gF rfl rfl rfl) ?_
     refine .cons (.gF rfl rfl rfl) ?_
     refine .cons (.gF rfl rfl rfl) ?_
     refine .cons (.pF rfl rfl rfl) ?_
     refine .nil ?_
     exact kc_n (Wk.keep [(880, 810), (881, 103), (882, 104), (883, 105)] rfl rfl ⟨ks rfl .dt, ks rfl (.c .bx), ks rfl (.c .bx), ks rfl (.c .bx), ks rfl (.c .bx), ks rfl .dt, ks rfl (.dt (vB (by first | rfl | (simp [*]; done) | grind))), kb 810 rfl (.cons (.cons .dt (.cons .dt (.cons .dt (.cons .dt (.cons .dt (.cons .dt (.cons .dt Ctos.nil))))))) .nil), kb 103 rfl (.dt rfl), kb 104 rfl (.dt rfl), kb 105 rfl (.cons (.cons .dt (.cons .dt (.cons .dt (.cons .dt (.cons .dt (.cons .dt (.cons (.dt (by first | rfl | exact (dEs_two _ _).symm)) Ctos.nil))))))) .nil), trivial⟩)
   refine ks_n ?_
   refine ACode.condT rfl (fun h58 => ?_) (fun h58 => ?_)
   ·try simp only [zs1, zs2, zs3, zs4, zs5, zs6, zs7] at h58
    refine ACode.seq ?_
    refine ACode.region ?_
    refine .cons (.fB 1 0 false rfl rfl rfl) ?_
    refine .cons (.b1 1 rfl rfl rfl rfl rfl rfl) ?_
    refine .cons (.fB 1 0 false rfl rfl rfl) ?_
    refine .cons (.b1 1 rfl rfl rfl rfl rfl rfl) ?_
    refine .cons (.pl rfl rfl rfl) ?_
    refine .cons (.asg rfl rfl) ?_
    refine .nil ?_
    refine ks_n ?_
    refine ACode.seq ?_
    refine ACode.cut [(.t 1, .v (.o (.c (.ptr (rX e))))), (.t 2, .v (.o (.c (.box 900 7 0 0)))), (.t 3, .v (.o (.c (.box 901 7 0 0)))), (.t 4, .v (.o (.c (.box 902 7 0 0)))), (.t 5, .v (.o (.c (.box 903 7 0 0)))), (.t 6, .v (.o (bo1 (decide (e.k = 6))))), (.t 7, .v (.o (nat1 (valN e.k X.n Y.n)))), (.b 900, .b 31 7 [[.d (dI 0), .d (dI 0), .d (.val (.slice none 0 0)), .d (dI 0), .d (dS ByteArray.empty), .d (.val (.slice none 0 0)), .d (.val (.slice none 0 0))]]), (.u 900, .u), (.b 901, .b 31 7 (dR ([rX X]))), (.u 901, .u), (.b 902, .b 31 7 (dR ([rX Y]))), (.u 902, .u), (.b 903, .b 31 7 [[.d (dI e.k), .d (dI 0), .d (.val (.slice none 0 0)), .d (dI 0), .d (dS ByteArray.empty), .d (.val (.slice none 0 0)), .d (dEs [X, Y])]]), (.u 903, .u)] ?_ ?_
    ·skip
     refine ACode.seq ?_
     refine ACode.region ?_
     refine .cons (.fP 0 0 false rfl rfl) ?_
     refine .cons (.l1 1 rfl rfl) ?_
     refine .nil ?_
     refine ks_n ?_
     refine ACode.block ?_
     refine ACode.seq ?_
     refine ACode.region ?_
     refine .cons (.eq rfl rfl rfl) ?_
     refine .cons (.asg rfl rfl) ?_
     refine .nil ?_
     refine ks_n ?_
     refine .cD rfl (fun h66 => ?_) (fun h66 => ?_)
     ·skip
      refine ACode.region ?_
      refine .cons (.fB 1 0 false rfl rfl rfl) ?_
      refine .cons (.b1 1 rfl rfl rfl rfl rfl rfl) ?_
      refine .cons (.fB 1 0 false rfl rfl rfl) ?_
      refine .cons (.b1 1 rfl rfl rfl rfl rfl rfl) ?_
      refine .cons (.sb rfl rfl rfl) ?_
      refine .cons (.asg rfl rfl) ?_
      refine .nil ?_
      refine kb_n ?_
      exact kc_n (Wk.keep [(900, 880), (901, 881), (902, 882), (903, 883)] rfl rfl ⟨ks rfl .dt, ks rfl (.c .bx), ks rfl (.c .bx), ks rfl (.c .bx), ks rfl (.c .bx), ks rfl .dt, ks rfl (.dt (vI (by rw [valN]; first | (simp [*]; done) | (rw [if_pos (by assumption)]; done) | (rw [if_neg (by assumption), if_pos (by assumption)]; done) | (rw [if_neg (by assumption), if_neg (by assumption)])))), kb 880 rfl (.cons (.cons .dt (.cons .dt (.cons .dt (.cons .dt (.cons .dt (.cons .dt (.cons .dt Ctos.nil))))))) .nil), kb 881 rfl (.dt rfl), kb 882 rfl (.dt rfl), kb 883 rfl (.cons (.cons .dt (.cons .dt (.cons .dt (.cons .dt (.cons .dt (.cons .dt (.cons (.dt (by first | rfl | exact (dEs_two _ _).symm)) Ctos.nil))))))) .nil), trivial⟩)
     ·skip
      refine ACode.seq ?_
      refine ACode.region ?_
      refine .cons (.eq rfl rfl rfl) ?_
      refine .cons (.asg rfl rfl) ?_
      refine .nil ?_
      refine ks_n ?_
      refine .cD rfl (fun h73 => ?_) (fun h73 => ?_)
      ·skip
       refine ACode.region ?_
       refine .cons (.fB 1 0 false rfl rfl rfl) ?_
       refine .cons (.b1 1 rfl rfl rfl rfl rfl rfl) ?_
       refine .cons (.fB 1 0 false rfl rfl rfl) ?_
       refine .cons (.b1 1 rfl rfl rfl rfl rfl rfl) ?_
       refine .cons (.ml rfl rfl rfl) ?_
       refine .cons (.asg rfl rfl) ?_
       refine .nil ?_
       refine kb_n ?_
       exact kc_n (Wk.keep [(900, 880), (901, 881), (902, 882), (903, 883)] rfl rfl ⟨ks rfl .dt, ks rfl (.c .bx), ks rfl (.c .bx), ks rfl (.c .bx), ks rfl (.c .bx), ks rfl .dt, ks rfl (.dt (vI (by rw [valN]; first | (simp [*]; done) | (rw [if_pos (by assumption)]; done) | (rw [if_neg (by assumption), if_pos (by assumption)]; done) | (rw [if_neg (by assumption), if_neg (by assumption)])))), kb 880 rfl (.cons (.cons .dt (.cons .dt (.cons .dt (.cons .dt (.cons .dt (.cons .dt (.cons .dt Ctos.nil))))))) .nil), kb 881 rfl (.dt rfl), kb 882 rfl (.dt rfl), kb 883 rfl (.cons (.cons .dt (.cons .dt (.cons .dt (.cons .dt (.cons .dt (.cons .dt (.cons (.dt (by first | rfl | exact (dEs_two _ _).symm)) Ctos.nil))))))) .nil), trivial⟩)
      ·skip
       refine ACode.skip ?_
       refine kb_n ?_
       exact kc_n (Wk.keep [(900, 880), (901, 881), (902, 882), (903, 883)] rfl rfl ⟨ks rfl .dt, ks rfl (.c .bx), ks rfl (.c .bx), ks rfl (.c .bx), ks rfl (.c .bx), ks rfl .dt, ks rfl (.dt (vI (by rw [valN]; first | (simp [*]; done) | (rw [if_pos (by assumption)]; done) | (rw [if_neg (by assumption), if_pos (by assumption)]; done) | (rw [if_neg (by assumption), if_neg (by assumption)])))), kb 880 rfl (.cons (.cons .dt (.cons .dt (.cons .dt (.cons .dt (.cons .dt (.cons .dt (.cons .dt Ctos.nil))))))) .nil), kb 881 rfl (.dt rfl), kb 882 rfl (.dt rfl), kb 883 rfl (.cons (.cons .dt (.cons .dt (.cons .dt (.cons .dt (.cons .dt (.cons .dt (.cons (.dt (by first | rfl | exact (dEs_two _ _).symm)) Ctos.nil))))))) .nil), trivial⟩)
    refine ks_n ?_
    refine ACode.seq ?_
    refine ACode.seq ?_
    refine ACode.region ?_
    refine .cons (.mv rfl rfl) ?_
    refine .cons (.cP [.tmp 80, .const (.int .i64 (0)), .const (.int .i64 (99))] rfl rfl rfl rfl (within_fn _ 0 99) rfl) ?_
    refine .nil ?_
    refine ks_n ?_
    refine ACode.condT rfl (fun h81 => ?_) (fun h81 => ?_)
    ·try simp only [zs1, zs2, zs3, zs4, zs5, zs6, zs7] at h81
     refine ACode.seq ?_
     refine ACode.region ?_
     refine .cons (.mv rfl rfl) ?_
     refine .cons (.cP [.tmp 82] rfl rfl rfl rfl (implNum_fn _) rfl) ?_
     refine .cons (.sT 7 true rfl rfl rfl rfl rfl rfl rfl) ?_
     refine .nil ?_
     refine ks_n ?_
     refine ACode.ret ?_
     refine ks_r ?_
     refine ks_r ?_
     refine kf_ret rfl ?_ nobox
     rw [foldN_num h58 h81]; rfl
    ·try simp only [zs1, zs2, zs3, zs4, zs5, zs6, zs7] at h81
     refine ACode.skip ?_
     refine ks_n ?_
     refine ACode.seq ?_
     refine ACode.region ?_
     refine .cons (.bN 7 rfl rfl rfl rfl rfl rfl) ?_
     refine .cons (.sT 7 true rfl rfl rfl rfl rfl rfl rfl) ?_
     refine .nil ?_
     refine ks_n ?_
     refine ACode.ret ?_
     refine ks_r ?_
     refine kf_wret [(.t 2, .v (.o (.c (.box 100 7 0 0)))), (.b 100, .b 31 7 [[.d (dI e.k), .d (dI 0), .d (dIs []), .d (dI 0), .d (dS ByteArray.empty), .d (dAs []), .d (dEs [X, Y])]]), (.u 100, .u)] (Wk.keep [(100, 900)] rfl rfl ⟨ks rfl (.c .bx), kb 900 rfl (.cons (.cons .dt (.cons .dt (.cons (Cto.nil _) (.cons .dt (.cons .dt (.cons (Cto.nil _) (.cons .dt Ctos.nil))))))) .nil), trivial⟩) rfl ?_ nobox
     rw [foldN_out h58 h81]; rfl
   ·try simp only [zs1, zs2, zs3, zs4, zs5, zs6, zs7] at h58
    refine ACode.skip ?_
    refine ks_n ?_
    refine ACode.seq ?_
    refine ACode.block ?_
    refine ACode.seq ?_
    refine ACode.cut [(.t 1, .v (.o (.c (.ptr (rX e))))), (.t 2, .v (.o (.c (.box 980 7 0 0)))), (.t 3, .v (.o (.c (.box 981 7 0 0)))), (.t 4, .v (.o (.c (.box 982 7 0 0)))), (.t 5, .v (.o (.c (.box 983 7 0 0)))), (.t 6, .v (.o (bo1 (decide (e.k = 6))))), (.t 85, .v (.o (bo1 ((!decide (e.k = 6) && isN Y 0 || decide (e.k = 6) && isN Y 1))))), (.b 980, .b 31 7 [[.d (dI 0), .d (dI 0), .d (.val (.slice none 0 0)), .d (dI 0), .d (dS ByteArray.empty), .d (.val (.slice none 0 0)), .d (.val (.slice none 0 0))]]), (.u 980, .u), (.b 981, .b 31 7 (dR ([rX X]))), (.u 981, .u), (.b 982, .b 31 7 (dR ([rX Y]))), (.u 982, .u), (.b 983, .b 31 7 [[.d (dI e.k), .d (dI 0), .d (.val (.slice none 0 0)), .d (dI 0), .d (dS ByteArray.empty), .d (.val (.slice none 0 0)), .d (dEs [X, Y])]]), (.u 983, .u)] ?_ ?_
    ·skip
     refine ACode.region ?_
     refine .cons (.mv rfl rfl) ?_
     refine .cons (.nt rfl rfl) ?_
     refine .cons (.mv rfl rfl) ?_
     refine AOps.cases 88 _ rfl (fun g88 => ?_) (fun g88 => ?_)
     ·try simp only [zs1, zs2, zs3, zs4, zs5, zs6, zs7] at g88
      refine .cons (.gT rfl rfl rfl (.bN 7 rfl rfl rfl rfl rfl rfl)) ?_
      refine .cons (.gT rfl rfl rfl (.cP [.tmp 89, .const (.int .i64 (0))] rfl rfl rfl rfl (implIsNum_fn _ 0) rfl)) ?_
      refine .cons (.pT rfl rfl rfl) ?_
      refine .cons (.mv rfl rfl) ?_
      refine AOps.cases 92 _ rfl (fun g92 => ?_) (fun g92 => ?_)
      ·try simp only [zs1, zs2, zs3, zs4, zs5, zs6, zs7] at g92
       refine .cons (.gF rfl rfl rfl) ?_
       refine .cons (.gF rfl rfl rfl) ?_
       refine .cons (.gU rfl rfl) ?_
       refine .cons (.gU rfl rfl) ?_
       refine .cons (.gF rfl rfl rfl) ?_
       refine .cons (.pT rfl rfl rfl) ?_
       refine .cons (.asg rfl rfl) ?_
       refine .nil ?_
       exact kc_n (Wk.keep [(980, 880), (981, 881), (982, 882), (983, 883)] rfl rfl ⟨ks rfl .dt, ks rfl (.c .bx), ks rfl (.c .bx), ks rfl (.c .bx), ks rfl (.c .bx), ks rfl .dt, ks rfl (.dt (vB (by first | rfl | (simp [*]; done) | grind))), kb 880 rfl (.cons (.cons .dt (.cons .dt (.cons .dt (.cons .dt (.cons .dt (.cons .dt (.cons .dt Ctos.nil))))))) .nil), kb 881 rfl (.dt rfl), kb 882 rfl (.dt rfl), kb 883 rfl (.cons (.cons .dt (.cons .dt (.cons .dt (.cons .dt (.cons .dt (.cons .dt (.cons (.dt (by first | rfl | exact (dEs_two _ _).symm)) Ctos.nil))))))) .nil), trivial⟩)
      ·try simp only [zs1, zs2, zs3, zs4, zs5, zs6, zs7] at g92
       refine .cons (.gT rfl rfl rfl (.mv rfl rfl)) ?_
       refine .cons (.gT rfl rfl rfl (.mv rfl rfl)) ?_
       refine AOps.cases 94 _ rfl (fun g94 => ?_) (fun g94 => ?_)
       ·try simp only [zs1, zs2, zs3, zs4, zs5, zs6, zs7] at g94
        refine .cons (.gT rfl rfl rfl (.bN 7 rfl rfl rfl rfl rfl rfl)) ?_
        refine .cons (.gT rfl rfl rfl (.cP [.tmp 95, .const (.int .i64 (1))] rfl rfl rfl rfl (implIsNum_fn _ 1) rfl)) ?_
        refine .cons (.gT rfl rfl rfl (.pT rfl rfl rfl)) ?_
        refine .cons (.pF rfl rfl rfl) ?_
        refine .cons (.asg rfl rfl) ?_
        refine .nil ?_
        exact kc_n (Wk.keep [(980, 880), (981, 881), (982, 882), (983, 883)] rfl rfl ⟨ks rfl .dt, ks rfl (.c .bx), ks rfl (.c .bx), ks rfl (.c .bx), ks rfl (.c .bx), ks rfl .dt, ks rfl (.dt (vB (by first | rfl | (simp [*]; done) | grind))), kb 880 rfl (.cons (.cons .dt (.cons .dt (.cons .dt (.cons .dt (.cons .dt (.cons .dt (.cons .dt Ctos.nil))))))) .nil), kb 881 rfl (.dt rfl), kb 882 rfl (.dt rfl), kb 883 rfl (.cons (.cons .dt (.cons .dt (.cons .dt (.cons .dt (.cons .dt (.cons .dt (.cons (.dt (by first | rfl | exact (dEs_two _ _).symm)) Ctos.nil))))))) .nil), trivial⟩)
       ·try simp only [zs1, zs2, zs3, zs4, zs5, zs6, zs7] at g94
        refine .cons (.gF rfl rfl rfl) ?_
        refine .cons (.gF rfl rfl rfl) ?_
        refine .cons (.gT rfl rfl rfl (.pF rfl rfl rfl)) ?_
        refine .cons (.pF rfl rfl rfl) ?_
        refine .cons (.asg rfl rfl) ?_
        refine .nil ?_
        exact kc_n (Wk.keep [(980, 880), (981, 881), (982, 882), (983, 883)] rfl rfl ⟨ks rfl .dt, ks rfl (.c .bx), ks rfl (.c .bx), ks rfl (.c .bx), ks rfl (.c .bx), ks rfl .dt, ks rfl (.dt (vB (by first | rfl | (simp [*]; done) | grind))), kb 880 rfl (.cons (.cons .dt (.cons .dt (.cons .dt (.cons .dt (.cons .dt (.cons .dt (.cons .dt Ctos.nil))))))) .nil), kb 881 rfl (.dt rfl), kb 882 rfl (.dt rfl), kb 883 rfl (.cons (.cons .dt (.cons .dt (.cons .dt (.cons .dt (.cons .dt (.cons .dt (.cons (.dt (by first | rfl | exact (dEs_two _ _).symm)) Ctos.nil))))))) .nil), trivial⟩)
     ·try simp only [zs1, zs2, zs3, zs4, zs5, zs6, zs7] at g88
      refine .cons (.gF rfl rfl rfl) ?_
      refine .cons (.gF rfl rfl rfl) ?_
      refine .cons (.pF rfl rfl rfl) ?_
      refine .cons (.mv rfl rfl) ?_
      refine .cons (.gT rfl rfl rfl (.mv rfl rfl)) ?_
      refine .cons (.gT rfl rfl rfl (.mv rfl rfl)) ?_
      refine AOps.cases 94 _ rfl (fun g94 => ?_) (fun g94 => ?_)
      ·try simp only [zs1, zs2, zs3, zs4, zs5, zs6, zs7] at g94
       refine .cons (.gT rfl rfl rfl (.bN 7 rfl rfl rfl rfl rfl rfl)) ?_
       refine .cons (.gT rfl rfl rfl (.cP [.tmp 95, .const (.int .i64 (1))] rfl rfl rfl rfl (implIsNum_fn _ 1) rfl)) ?_
       refine .cons (.gT rfl rfl rfl (.pT rfl rfl rfl)) ?_
       refine .cons (.pF rfl rfl rfl) ?_
       refine .cons (.asg rfl rfl) ?_
       refine .nil ?_
       exact kc_n (Wk.keep [(980, 880), (981, 881), (982, 882), (983, 883)] rfl rfl ⟨ks rfl .dt, ks rfl (.c .bx), ks rfl (.c .bx), ks rfl (.c .bx), ks rfl (.c .bx), ks rfl .dt, ks rfl (.dt (vB (by first | rfl | (simp [*]; done) | grind))), kb 880 rfl (.cons (.cons .dt (.cons .dt (.cons .dt (.cons .dt (.cons .dt (.cons .dt (.cons .dt Ctos.nil))))))) .nil), kb 881 rfl (.dt rfl), kb 882 rfl (.dt rfl), kb 883 rfl (.cons (.cons .dt (.cons .dt (.cons .dt (.cons .dt (.cons .dt (.cons .dt (.cons (.dt (by first | rfl | exact (dEs_two _ _).symm)) Ctos.nil))))))) .nil), trivial⟩)
      ·try simp only [zs1, zs2, zs3, zs4, zs5, zs6, zs7] at g94
       refine .cons (.gF rfl rfl rfl) ?_
       refine .cons (.gF rfl rfl rfl) ?_
       refine .cons (.gT rfl rfl rfl (.pF rfl rfl rfl)) ?_
       refine .cons (.pF rfl rfl rfl) ?_
       refine .cons (.asg rfl rfl) ?_
       refine .nil ?_
       exact kc_n (Wk.keep [(980, 880), (981, 881), (982, 882), (983, 883)] rfl rfl ⟨ks rfl .dt, ks rfl (.c .bx), ks rfl (.c .bx), ks rfl (.c .bx), ks rfl (.c .bx), ks rfl .dt, ks rfl (.dt (vB (by first | rfl | (simp [*]; done) | grind))), kb 880 rfl (.cons (.cons .dt (.cons .dt (.cons .dt (.cons .dt (.cons .dt (.cons .dt (.cons .dt Ctos.nil))))))) .nil), kb 881 rfl (.dt rfl), kb 882 rfl (.dt rfl), kb 883 rfl (.cons (.cons .dt (.cons .dt (.cons .dt (.cons .dt (.cons .dt (.cons .dt (.cons (.dt (by first | rfl | exact (dEs_two _ _).symm)) Ctos.nil))))))) .nil), trivial⟩)
    refine ks_n ?_
    refine ACode.condT rfl (fun h85 => ?_) (fun h85 => ?_)
    ·try simp only [zs1, zs2, zs3, zs4, zs5, zs6, zs7] at h85
     refine ACode.seq ?_
     refine ACode.region ?_
     refine .cons (.bN 7 rfl rfl rfl rfl rfl rfl) ?_
     refine .cons (.sT 7 true rfl rfl rfl rfl rfl rfl rfl) ?_
     refine .nil ?_
     refine ks_n ?_
     refine ACode.ret ?_
     refine kb_r ?_
     refine ks_r ?_
     refine kf_ret rfl ?_ nobox
     rw [foldN_x h58 h85]; rfl
    ·try simp only [zs1, zs2, zs3, zs4, zs5, zs6, zs7] at h85
     refine ACode.seq ?_
     refine ACode.cut [(.t 1, .v (.o (.c (.ptr (rX e))))), (.t 2, .v (.o (.c (.box 800 7 0 0)))), (.t 3, .v (.o (.c (.box 801 7 0 0)))), (.t 4, .v (.o (.c (.box 802 7 0 0)))), (.t 5, .v (.o (.c (.box 803 7 0 0)))), (.t 6, .v (.o (bo1 (decide (e.k = 6))))), (.t 100, .v (.o (bo1 ((decide (e.k = 4) && isN X 0 || decide (e.k = 6) && isN X 1))))), (.b 800, .b 31 7 [[.d (dI 0), .d (dI 0), .d (.val (.slice none 0 0)), .d (dI 0), .d (dS ByteArray.empty), .d (.val (.slice none 0 0)), .d (.val (.slice none 0 0))]]), (.u 800, .u), (.b 801, .b 31 7 (dR ([rX X]))), (.u 801, .u), (.b 802, .b 31 7 (dR ([rX Y]))), (.u 802, .u), (.b 803, .b 31 7 [[.d (dI e.k), .d (dI 0), .d (.val (.slice none 0 0)), .d (dI 0), .d (dS ByteArray.empty), .d (.val (.slice none 0 0)), .d (dEs [X, Y])]]), (.u 803, .u)] ?_ ?_
     ·skip
      refine ACode.region ?_
      refine .cons (.fP 0 0 false rfl rfl) ?_
      refine .cons (.l1 1 rfl rfl) ?_
      refine .cons (.eq rfl rfl rfl) ?_
      refine .cons (.mv rfl rfl) ?_
      refine .cD 104 rfl (fun g104 => ?_) (fun g104 => ?_)
      ·skip
       refine .cons (.gT rfl rfl rfl (.bN 7 rfl rfl rfl rfl rfl rfl)) ?_
       refine .cons (.gT rfl rfl rfl (.cP [.tmp 105, .const (.int .i64 (0))] rfl rfl rfl rfl (implIsNum_fn _ 0) rfl)) ?_
       refine .cons (.pT rfl rfl rfl) ?_
       refine .cons (.mv rfl rfl) ?_
       refine AOps.cases 108 _ rfl (fun g108 => ?_) (fun g108 => ?_)
       ·try simp only [zs1, zs2, zs3, zs4, zs5, zs6, zs7] at g108
        refine .cons (.gF rfl rfl rfl) ?_
        refine .cons (.gF rfl rfl rfl) ?_
        refine .cons (.gU rfl rfl) ?_
        refine .cons (.gU rfl rfl) ?_
        refine .cons (.gF rfl rfl rfl) ?_
        refine .cons (.pT rfl rfl rfl) ?_
        refine .cons (.asg rfl rfl) ?_
        refine .nil ?_
        exact kc_n (Wk.keep [(800, 980), (801, 981), (802, 982), (803, 983)] rfl rfl ⟨ks rfl .dt, ks rfl (.c .bx), ks rfl (.c .bx), ks rfl (.c .bx), ks rfl (.c .bx), ks rfl .dt, ks rfl (.dt (vB (by first | rfl | (simp [*]; done) | grind))), kb 980 rfl (.cons (.cons .dt (.cons .dt (.cons .dt (.cons .dt (.cons .dt (.cons .dt (.cons .dt Ctos.nil))))))) .nil), kb 981 rfl (.dt rfl), kb 982 rfl (.dt rfl), kb 983 rfl (.cons (.cons .dt (.cons .dt (.cons .dt (.cons .dt (.cons .dt (.cons .dt (.cons (.dt (by first | rfl | exact (dEs_two _ _).symm)) Ctos.nil))))))) .nil), trivial⟩)
       ·try simp only [zs1, zs2, zs3, zs4, zs5, zs6, zs7] at g108
        refine .cons (.gT rfl rfl rfl (.mv rfl rfl)) ?_
        refine .cons (.gT rfl rfl rfl (.mv rfl rfl)) ?_
        refine AOps.cases 110 _ rfl (fun g110 => ?_) (fun g110 => ?_)
        ·try simp only [zs1, zs2, zs3, zs4, zs5, zs6, zs7] at g110
         refine .cons (.gT rfl rfl rfl (.bN 7 rfl rfl rfl rfl rfl rfl)) ?_
         refine .cons (.gT rfl rfl rfl (.cP [.tmp 111, .const (.int .i64 (1))] rfl rfl rfl rfl (implIsNum_fn _ 1) rfl)) ?_
         refine .cons (.gT rfl rfl rfl (.pT rfl rfl rfl)) ?_
         refine .cons (.pF rfl rfl rfl) ?_
         refine .cons (.asg rfl rfl) ?_
         refine .nil ?_
         exact kc_n (Wk.keep [(800, 980), (801, 981), (802, 982), (803, 983)] rfl rfl ⟨ks rfl .dt, ks rfl (.c .bx), ks rfl (.c .bx), ks rfl (.c .bx), ks rfl (.c .bx), ks rfl .dt, ks rfl (.dt (vB (by first | rfl | (simp [*]; done) | grind))), kb 980 rfl (.cons (.cons .dt (.cons .dt (.cons .dt (.cons .dt (.cons .dt (.cons .dt (.cons .dt Ctos.nil))))))) .nil), kb 981 rfl (.dt rfl), kb 982 rfl (.dt rfl), kb 983 rfl (.cons (.cons .dt (.cons .dt (.cons .dt (.cons .dt (.cons .dt (.cons .dt (.cons (.dt (by first | rfl | exact (dEs_two _ _).symm)) Ctos.nil))))))) .nil), trivial⟩)
        ·try simp only [zs1, zs2, zs3, zs4, zs5, zs6, zs7] at g110
         refine .cons (.gF rfl rfl rfl) ?_
         refine .cons (.gF rfl rfl rfl) ?_
         refine .cons (.gT rfl rfl rfl (.pF rfl rfl rfl)) ?_
         refine .cons (.pF rfl rfl rfl) ?_
         refine .cons (.asg rfl rfl) ?_
         refine .nil ?_
         exact kc_n (Wk.keep [(800, 980), (801, 981), (802, 982), (803, 983)] rfl rfl ⟨ks rfl .dt, ks rfl (.c .bx), ks rfl (.c .bx), ks rfl (.c .bx), ks rfl (.c .bx), ks rfl .dt, ks rfl (.dt (vB (by first | rfl | (simp [*]; done) | grind))), kb 980 rfl (.cons (.cons .dt (.cons .dt (.cons .dt (.cons .dt (.cons .dt (.cons .dt (.cons .dt Ctos.nil))))))) .nil), kb 981 rfl (.dt rfl), kb 982 rfl (.dt rfl), kb 983 rfl (.cons (.cons .dt (.cons .dt (.cons .dt (.cons .dt (.cons .dt (.cons .dt (.cons (.dt (by first | rfl | exact (dEs_two _ _).symm)) Ctos.nil))))))) .nil), trivial⟩)
      ·skip
       refine .cons (.gF rfl rfl rfl) ?_
       refine .cons (.gF rfl rfl rfl) ?_
       refine .cons (.pF rfl rfl rfl) ?_
       refine .cons (.mv rfl rfl) ?_
       refine .cons (.gT rfl rfl rfl (.mv rfl rfl)) ?_
       refine .cons (.gT rfl rfl rfl (.mv rfl rfl)) ?_
       refine AOps.cases 110 _ rfl (fun g110 => ?_) (fun g110 => ?_)
       ·try simp only [zs1, zs2, zs3, zs4, zs5, zs6, zs7] at g110
        refine .cons (.gT rfl rfl rfl (.bN 7 rfl rfl rfl rfl rfl rfl)) ?_
        refine .cons (.gT rfl rfl rfl (.cP [.tmp 111, .const (.int .i64 (1))] rfl rfl rfl rfl (implIsNum_fn _ 1) rfl)) ?_
        refine .cons (.gT rfl rfl rfl (.pT rfl rfl rfl)) ?_
        refine .cons (.pF rfl rfl rfl) ?_
        refine .cons (.asg rfl rfl) ?_
        refine .nil ?_
        exact kc_n (Wk.keep [(800, 980), (801, 981), (802, 982), (803, 983)] rfl rfl ⟨ks rfl .dt, ks rfl (.c .bx), ks rfl (.c .bx), ks rfl (.c .bx), ks rfl (.c .bx), ks rfl .dt, ks rfl (.dt (vB (by first | rfl | (simp [*]; done) | grind))), kb 980 rfl (.cons (.cons .dt (.cons .dt (.cons .dt (.cons .dt (.cons .dt (.cons .dt (.cons .dt Ctos.nil))))))) .nil), kb 981 rfl (.dt rfl), kb 982 rfl (.dt rfl), kb 983 rfl (.cons (.cons .dt (.cons .dt (.cons .dt (.cons .dt (.cons .dt (.cons .dt (.cons (.dt (by first | rfl | exact (dEs_two _ _).symm)) Ctos.nil))))))) .nil), trivial⟩)
       ·try simp only [zs1, zs2, zs3, zs4, zs5, zs6, zs7] at g110
        refine .cons (.gF rfl rfl rfl) ?_
        refine .cons (.gF rfl rfl rfl) ?_
        refine .cons (.gT rfl rfl rfl (.pF rfl rfl rfl)) ?_
        refine .cons (.pF rfl rfl rfl) ?_
        refine .cons (.asg rfl rfl) ?_
        refine .nil ?_
        exact kc_n (Wk.keep [(800, 980), (801, 981), (802, 982), (803, 983)] rfl rfl ⟨ks rfl .dt, ks rfl (.c .bx), ks rfl (.c .bx), ks rfl (.c .bx), ks rfl (.c .bx), ks rfl .dt, ks rfl (.dt (vB (by first | rfl | (simp [*]; done) | grind))), kb 980 rfl (.cons (.cons .dt (.cons .dt (.cons .dt (.cons .dt (.cons .dt (.cons .dt (.cons .dt Ctos.nil))))))) .nil), kb 981 rfl (.dt rfl), kb 982 rfl (.dt rfl), kb 983 rfl (.cons (.cons .dt (.cons .dt (.cons .dt (.cons .dt (.cons .dt (.cons .dt (.cons (.dt (by first | rfl | exact (dEs_two _ _).symm)) Ctos.nil))))))) .nil), trivial⟩)
     refine ks_n ?_
     refine ACode.condT rfl (fun h100 => ?_) (fun h100 => ?_)
     ·try simp only [zs1, zs2, zs3, zs4, zs5, zs6, zs7] at h100
      refine ACode.seq ?_
      refine ACode.region ?_
      refine .cons (.bN 7 rfl rfl rfl rfl rfl rfl) ?_
      refine .cons (.sT 7 true rfl rfl rfl rfl rfl rfl rfl) ?_
      refine .nil ?_
      refine ks_n ?_
      refine ACode.ret ?_
      refine kb_r ?_
      refine ks_r ?_
      refine kf_ret rfl ?_ nobox
      rw [foldN_y h58 h85 h100]; rfl
     ·try simp only [zs1, zs2, zs3, zs4, zs5, zs6, zs7] at h100
      refine ACode.seq ?_
      refine ACode.cut [(.t 1, .v (.o (.c (.ptr (rX e))))), (.t 2, .v (.o (.c (.box 820 7 0 0)))), (.t 3, .v (.o (.c (.box 821 7 0 0)))), (.t 4, .v (.o (.c (.box 822 7 0 0)))), (.t 5, .v (.o (.c (.box 823 7 0 0)))), (.t 6, .v (.o (bo1 (decide (e.k = 6))))), (.t 116, .v (.o (bo1 ((decide (e.k = 6) && (isN X 0 || isN Y 0)))))), (.b 820, .b 31 7 [[.d (dI 0), .d (dI 0), .d (.val (.slice none 0 0)), .d (dI 0), .d (dS ByteArray.empty), .d (.val (.slice none 0 0)), .d (.val (.slice none 0 0))]]), (.u 820, .u), (.b 821, .b 31 7 (dR ([rX X]))), (.u 821, .u), (.b 822, .b 31 7 (dR ([rX Y]))), (.u 822, .u), (.b 823, .b 31 7 [[.d (dI e.k), .d (dI 0), .d (.val (.slice none 0 0)), .d (dI 0), .d (dS ByteArray.empty), .d (.val (.slice none 0 0)), .d (dEs [X, Y])]]), (.u 823, .u)] ?_ ?_
      ·skip
       refine ACode.region ?_
       refine .cons (.mv rfl rfl) ?_
       refine .cons (.mv rfl rfl) ?_
       refine AOps.cases 118 _ rfl (fun g118 => ?_) (fun g118 => ?_)
       ·try simp only [zs1, zs2, zs3, zs4, zs5, zs6, zs7] at g118
        refine .cons (.gT rfl rfl rfl (.bN 7 rfl rfl rfl rfl rfl rfl)) ?_
        refine .cons (.gT rfl rfl rfl (.cP [.tmp 119, .const (.int .i64 (0))] rfl rfl rfl rfl (implIsNum_fn _ 0) rfl)) ?_
        refine .cons (.gT rfl rfl rfl (.mv rfl rfl)) ?_
        refine AOps.cases 121 _ rfl (fun g121 => ?_) (fun g121 => ?_)
        ·try simp only [zs1, zs2, zs3, zs4, zs5, zs6, zs7] at g121
         refine .cons (.gF rfl rfl rfl) ?_
         refine .cons (.gF rfl rfl rfl) ?_
         refine .cons (.gT rfl rfl rfl (.pT rfl rfl rfl)) ?_
         refine .cons (.pT rfl rfl rfl) ?_
         refine .cons (.asg rfl rfl) ?_
         refine .nil ?_
         exact kc_n (Wk.keep [(820, 800), (821, 801), (822, 802), (823, 803)] rfl rfl ⟨ks rfl .dt, ks rfl (.c .bx), ks rfl (.c .bx), ks rfl (.c .bx), ks rfl (.c .bx), ks rfl .dt, ks rfl (.dt (vB (by first | rfl | (simp [*]; done) | grind))), kb 800 rfl (.cons (.cons .dt (.cons .dt (.cons .dt (.cons .dt (.cons .dt (.cons .dt (.cons .dt Ctos.nil))))))) .nil), kb 801 rfl (.dt rfl), kb 802 rfl (.dt rfl), kb 803 rfl (.cons (.cons .dt (.cons .dt (.cons .dt (.cons .dt (.cons .dt (.cons .dt (.cons (.dt (by first | rfl | exact (dEs_two _ _).symm)) Ctos.nil))))))) .nil), trivial⟩)
        ·try simp only [zs1, zs2, zs3, zs4, zs5, zs6, zs7] at g121
         refine .cons (.gT rfl rfl rfl (.bN 7 rfl rfl rfl rfl rfl rfl)) ?_
         refine .cons (.gT rfl rfl rfl (.cP [.tmp 122, .const (.int .i64 (0))] rfl rfl rfl rfl (implIsNum_fn _ 0) rfl)) ?_
         refine .cons (.gT rfl rfl rfl (.pF rfl rfl rfl)) ?_
         refine .cons (.pT rfl rfl rfl) ?_
         refine .cons (.asg rfl rfl) ?_
         refine .nil ?_
         exact kc_n (Wk.keep [(820, 800), (821, 801), (822, 802), (823, 803)] rfl rfl ⟨ks rfl .dt, ks rfl (.c .bx), ks rfl (.c .bx), ks rfl (.c .bx), ks rfl (.c .bx), ks rfl .dt, ks rfl (.dt (vB (by first | rfl | (simp [*]; done) | grind))), kb 800 rfl (.cons (.cons .dt (.cons .dt (.cons .dt (.cons .dt (.cons .dt (.cons .dt (.cons .dt Ctos.nil))))))) .nil), kb 801 rfl (.dt rfl), kb 802 rfl (.dt rfl), kb 803 rfl (.cons (.cons .dt (.cons .dt (.cons .dt (.cons .dt (.cons .dt (.cons .dt (.cons (.dt (by first | rfl | exact (dEs_two _ _).symm)) Ctos.nil))))))) .nil), trivial⟩)
       ·try simp only [zs1, zs2, zs3, zs4, zs5, zs6, zs7] at g118
        refine .cons (.gF rfl rfl rfl) ?_
        refine .cons (.gF rfl rfl rfl) ?_
        refine .cons (.gF rfl rfl rfl) ?_
        refine .cons (.gU rfl rfl) ?_
        refine .cons (.gU rfl rfl) ?_
        refine .cons (.gF rfl rfl rfl) ?_
        refine .cons (.pF rfl rfl rfl) ?_
        refine .cons (.asg rfl rfl) ?_
        refine .nil ?_
        exact kc_n (Wk.keep [(820, 800), (821, 801), (822, 802), (823, 803)] rfl rfl ⟨ks rfl .dt, ks rfl (.c .bx), ks rfl (.c .bx), ks rfl (.c .bx), ks rfl (.c .bx), ks rfl .dt, ks rfl (.dt (vB (by first | rfl | (simp [*]; done) | grind))), kb 800 rfl (.cons (.cons .dt (.cons .dt (.cons .dt (.cons .dt (.cons .dt (.cons .dt (.cons .dt Ctos.nil))))))) .nil), kb 801 rfl (.dt rfl), kb 802 rfl (.dt rfl), kb 803 rfl (.cons (.cons .dt (.cons .dt (.cons .dt (.cons .dt (.cons .dt (.cons .dt (.cons (.dt (by first | rfl | exact (dEs_two _ _).symm)) Ctos.nil))))))) .nil), trivial⟩)
      refine ks_n ?_
      refine ACode.condT rfl (fun h116 => ?_) (fun h116 => ?_)
      ·try simp only [zs1, zs2, zs3, zs4, zs5, zs6, zs7] at h116
       refine ACode.seq ?_
       refine ACode.region ?_
       refine .cons (.cP [.const (.int .i64 (0))] rfl rfl rfl rfl (implNum_fn 0) rfl) ?_
       refine .cons (.sT 7 true rfl rfl rfl rfl rfl rfl rfl) ?_
       refine .nil ?_
       refine ks_n ?_
       refine ACode.ret ?_
       refine kb_r ?_
       refine ks_r ?_
       refine kf_ret rfl ?_ nobox
       rw [foldN_z h58 h85 h100 h116]; rfl
      ·try simp only [zs1, zs2, zs3, zs4, zs5, zs6, zs7] at h116
       refine ACode.skip ?_
       refine kb_n ?_
       refine ks_n ?_
       refine ACode.seq ?_
       refine ACode.region ?_
       refine .cons (.bN 7 rfl rfl rfl rfl rfl rfl) ?_
       refine .cons (.sT 7 true rfl rfl rfl rfl rfl rfl rfl) ?_
       refine .nil ?_
       refine ks_n ?_
       refine ACode.ret ?_
       refine kf_wret [(.t 2, .v (.o (.c (.box 100 7 0 0)))), (.b 100, .b 31 7 [[.d (dI e.k), .d (dI 0), .d (dIs []), .d (dI 0), .d (dS ByteArray.empty), .d (dAs []), .d (dEs [X, Y])]]), (.u 100, .u)] (Wk.keep [(100, 820)] rfl rfl ⟨ks rfl (.c .bx), kb 820 rfl (.cons (.cons .dt (.cons .dt (.cons (Cto.nil _) (.cons .dt (.cons .dt (.cons (Cto.nil _) (.cons .dt Ctos.nil))))))) .nil), trivial⟩) rfl ?_ nobox
       rw [foldN_e h58 h85 h100 h116]; rfl
theorem exV_up {d : Nat} : ∀ {L : Nat} {e : Ex}, exV d L e = true → exV d (L + 1) e = true
  | 0, e, h => by cases h
  | L + 1, e, h => by
    rw [exV, Bool.and_eq_true] at h
    rw [exV, Bool.and_eq_true]
    exact ⟨h.1, List.all_eq_true.2 fun x hx => exV_up (List.all_eq_true.1 h.2 x hx)⟩
theorem exV_n {d L : Nat} {e : Ex} (h : exV d L e = true) : 0 ≤ e.n ∧ e.n ≤ 99 := by
  cases L with
  | zero => cases h
  | succ L =>
    rw [exV, Bool.and_eq_true, Bool.and_eq_true] at h
    have h1 := h.1.2
    unfold fldV at h1
    split at h1
    · simp only [Bool.and_eq_true, inB, decide_eq_true_eq] at h1; exact h1.1.1
    · split at h1
      · simp only [Bool.and_eq_true, decide_eq_true_eq] at h1; omega
      · split at h1
        · simp only [Bool.and_eq_true, decide_eq_true_eq] at h1; omega
        · simp only [Bool.and_eq_true, decide_eq_true_eq] at h1; omega
theorem numE_ok {d L : Nat} {n : Int} (h : 0 ≤ n ∧ n ≤ 99) : exV d (L + 1) (numE n) = true := by
  have h1 : nonC (ByteArray.empty, []) = true := nonC_iff.2 rfl
  have h2 : nonA ([], 0) = true := nonA_iff.2 rfl
  show (kidV 1 0 && fldV d 1 n ([], 0) (ByteArray.empty, []) && true) = true
  rw [fldV, if_pos rfl, h1, h2, inB, decide_eq_true h]; rfl
theorem outE_ok {d L : Nat} {k : Int} {X Y : Ex} (hk : 4 ≤ k ∧ k ≤ 6) (hX : exV d L X = true) (hY : exV d L Y = true) : exV d (L + 1) (outE k X Y) = true := by
  have h1 : nonC (ByteArray.empty, []) = true := nonC_iff.2 rfl
  have h2 : nonA ([], 0) = true := nonA_iff.2 rfl
  show (kidV k 2 && fldV d k 0 ([], 0) (ByteArray.empty, []) && (exV d L X && (exV d L Y && true))) = true
  rw [kidV, if_neg (by omega), if_pos hk, fldV, if_neg (by omega), if_neg (by omega), if_neg (by omega), h1, h2, hX, hY]; rfl
theorem foldN_cases (k : Int) (X Y : Ex) : (∃ n, 0 ≤ n ∧ n ≤ 99 ∧ foldN (outE k X Y) X Y = numE n) ∨ foldN (outE k X Y) X Y = X ∨ foldN (outE k X Y) X Y = Y ∨ foldN (outE k X Y) X Y = outE k X Y := by
  unfold foldN
  split
  · split
    · rename_i h; simp only [inB, decide_eq_true_eq] at h; exact .inl ⟨_, h.1, h.2, rfl⟩
    · exact .inr (.inr (.inr rfl))
  · split
    · exact .inr (.inl rfl)
    · split
      · exact .inr (.inr (.inl rfl))
      · split
        · exact .inl ⟨0, by omega, by omega, rfl⟩
        · exact .inr (.inr (.inr rfl))
/-- What holds of numbers, of what lies below, and of nodes over simple operands, holds of what is simplified. -/
theorem fold_ind {d : Nat} {p : Nat → Ex → Ex → Prop} (hnum : ∀ L n e, exV d (L + 1) e = true → 0 ≤ n → n ≤ 99 → p (L + 1) e (numE n)) (hsame : ∀ L e, exV d (L + 1) e = true → ¬ (4 ≤ e.k ∧ e.k ≤ 6) → idxV e = false → p (L + 1) e e)
    (hx : ∀ L e x y X, exV d (L + 1) e = true → 4 ≤ e.k ∧ e.k ≤ 6 → e.ks = [x, y] → p L x X → p (L + 1) e X) (hy : ∀ L e x y Y, exV d (L + 1) e = true → 4 ≤ e.k ∧ e.k ≤ 6 → e.ks = [x, y] → p L y Y → p (L + 1) e Y)
    (ho : ∀ L e x y, exV d (L + 1) e = true → 4 ≤ e.k ∧ e.k ≤ 6 → e.ks = [x, y] → p L x (foldE x) → p L y (foldE y) → foldN (outE e.k (foldE x) (foldE y)) (foldE x) (foldE y) = outE e.k (foldE x) (foldE y) → p (L + 1) e (outE e.k (foldE x) (foldE y))) : ∀ {L : Nat} {e : Ex}, exV d L e = true → p L e (foldE e)
  | 0, e, h => by cases h
  | L + 1, e, h => by
    by_cases hk : 4 ≤ e.k ∧ e.k ≤ 6
    · obtain ⟨x, y, hks⟩ := op_two h hk
      have hkv := (exV_kids h).2
      have ihx := fold_ind hnum hsame hx hy ho (hkv x (by rw [hks]; simp))
      have ihy := fold_ind hnum hsame hx hy ho (hkv y (by rw [hks]; simp))
      rw [foldE_op hk hks]
      rcases foldN_cases e.k (foldE x) (foldE y) with ⟨n, h1, h2, e1⟩ | e1 | e1 | e1
      · rw [e1]; exact hnum L n e h h1 h2
      · rw [e1]; exact hx L e x y _ h hk hks ihx
      · rw [e1]; exact hy L e x y _ h hk hks ihy
      · have e2 := e1; rw [e1]; exact ho L e x y h hk hks ihx ihy e2
    · rw [foldE_leaf hk]
      split
      · rename_i hi
        simp only [idxV, Bool.and_eq_true, decide_eq_true_eq] at hi
        refine hnum L _ e h hi.2 ?_
        have h2 := h
        rw [exV, Bool.and_eq_true, Bool.and_eq_true] at h2
        have h3 := (fld_aff h2.1.2).1 hi.1.1
        rw [bndV, Bool.and_eq_true] at h3
        exact (affV_const h3.1).2
      · rename_i hi
        exact hsame L e h hk (by simpa using hi)
theorem fold_ok {d L : Nat} {e : Ex} (h : exV d L e = true) : exV d L (foldE e) = true :=
  fold_ind (p := fun L _ X => exV d L X = true) (fun L n e _ h1 h2 => numE_ok ⟨h1, h2⟩) (fun L e h _ _ => h) (fun L e x y X _ _ _ h => exV_up h) (fun L e x y Y _ _ _ h => exV_up h) (fun L e x y _ hk _ h1 h2 _ => outE_ok hk h1 h2) h
def foldS (s : Stm) : Stm := (s.1, foldE s.2)
theorem fold_fn {d : Nat} : ∀ {L : Nat} (e : Ex), exV d L e = true → Fn Tryz.prog 11 [] [ad (rX e)] (.o (ad (rX (foldE e)))) []
  | 0, e, h => by cases h
  | L + 1, e, h => by
    by_cases hk : 4 ≤ e.k ∧ e.k ≤ 6
    · obtain ⟨x, y, hks⟩ := op_two h hk
      have hx := (exV_kids h).2 x (by rw [hks]; simp)
      have hy := (exV_kids h).2 y (by rw [hks]; simp)
      rw [foldE_op hk hks]
      have b1 := exV_n (fold_ok hx)
      have b2 := exV_n (fold_ok hy)
      exact fold_op hk hks (fold_fn (L := L) x hx) (fold_fn (L := L) y hy) (by omega) (by omega)
    · rw [foldE_leaf hk]; exact fold_leaf hk
def foldT (s : Stm) : Stm × Bool := if stmtV 4 s = true then (foldS s, true) else (zS, false)
theorem foldT_yes {s : Stm} (h : stmtV 4 s = true) : foldT s = (foldS s, true) := if_pos h
theorem foldT_no {s : Stm} (h : stmtV 4 s = false) : foldT s = (zS, false) := if_neg (by rw [h]; decide)
/-- The number of a constant statement. -/
def cstT (s : Stm) : Int × Bool := if (stmtV 4 s && decide ((foldE s.2).k = 1)) = true then ((foldE s.2).n, true) else (0, false)



set_option maxRecDepth 100000 in
set_option maxHeartbeats 1600000 in
theorem implConst_fn (s : Stm) (hs : szS s ≤ 1073741824) : Fn Tryz.prog 5 [] [ad (rS s)] (.tup [nat1 (cstT s).1, bo1 (cstT s).2]) [] := by
 refine Fn.code0 Tryz.func5 rfl rfl rfl rfl ?_
 refine ACode.seq ?_
 refine ACode.region ?_
 refine .cons (St1.boxP rfl rfl rfl rfl rfl rfl) ?_
 refine .cons (.asg rfl rfl) ?_
 refine .cons (.asg rfl rfl) ?_
 refine .nil ?_
 refine ks_n ?_
 refine ACode.seq ?_
 refine ACode.seq ?_
 refine ACode.region ?_
 refine .cons (.lN 9 rfl rfl rfl) ?_
 refine .cons (.cP [.tmp 5] rfl rfl rfl rfl (isStmt_fn s (by omega)) rfl) ?_
 refine .cons (.nt rfl rfl) ?_
 refine .nil ?_
 refine ks_n ?_
 refine ACode.condT rfl (fun h7 => ?_) (fun h7 => ?_)
 ·try simp only [zs1, zs2, zs3, zs4, zs5, zs6, zs7] at h7
  refine ACode.seq ?_
  refine ACode.region ?_
  refine .cons (.asg rfl rfl) ?_
  refine .cons (.asg rfl rfl) ?_
  refine .nil ?_
  refine ks_n ?_
  refine ACode.ret ?_
  refine ks_r ?_
  refine kf_ret rfl ?_ nobox
  rw [cstT]; first | (rw [if_neg (by simp [*])]; rfl) | (rw [if_pos (by simp [*])]; rfl)
 ·try simp only [zs1, zs2, zs3, zs4, zs5, zs6, zs7] at h7
  refine ACode.skip ?_
  refine ks_n ?_
  refine ACode.seq ?_
  refine ACode.region ?_
  refine .cons (.fP 2 6 true rfl rfl) ?_
  refine .cons (.lN 7 rfl rfl rfl) ?_
  refine .cons (.cP [.tmp 9] rfl rfl rfl rfl (fold_fn (d := 4) (L := 5) s.2 (stmtV_ex h7).1) rfl) ?_
  refine .cons (.al 104 [.int .i64 0, .int .i64 0, .slice none 0 0, .int .i64 0, .string ByteArray.empty, .slice none 0 0, .slice none 0 0] rfl rfl rfl) ?_
  refine .cons (.sT 7 true rfl rfl rfl rfl rfl rfl rfl) ?_
  refine .nil ?_
  refine ks_n ?_
  refine ACode.seq ?_
  refine ACode.seq ?_
  refine ACode.region ?_
  refine .cons (.fB 0 0 false rfl rfl rfl) ?_
  refine .cons (.b1 1 rfl rfl rfl rfl rfl rfl) ?_
  refine .cons (.ne rfl rfl rfl) ?_
  refine .nil ?_
  refine ks_n ?_
  refine .cND rfl (fun h13 => ?_) (fun h13 => ?_)
  ·skip
   refine ACode.seq ?_
   refine ACode.region ?_
   refine .cons (.asg rfl rfl) ?_
   refine .cons (.asg rfl rfl) ?_
   refine .nil ?_
   refine ks_n ?_
   refine ACode.ret ?_
   refine ks_r ?_
   refine kf_ret rfl ?_ nobox
   rw [cstT]; first | (rw [if_neg (by simp [*])]; rfl) | (rw [if_pos (by simp [*])]; rfl)
  ·skip
   refine ACode.skip ?_
   refine ks_n ?_
   refine ACode.seq ?_
   refine ACode.region ?_
   refine .cons (.fB 1 0 false rfl rfl rfl) ?_
   refine .cons (.b1 1 rfl rfl rfl rfl rfl rfl) ?_
   refine .cons (.asg rfl rfl) ?_
   refine .cons (.asg rfl rfl) ?_
   refine .nil ?_
   refine ks_n ?_
   refine ACode.ret ?_
   refine kf_ret rfl ?_ nobox
   rw [cstT]; first | (rw [if_neg (by simp [*])]; rfl) | (rw [if_pos (by simp [*])]; rfl)

set_option maxRecDepth 100000 in
set_option maxHeartbeats 1600000 in
theorem l13Two_fn {e : Ex} {a b : Int} (hk : 4 ≤ e.k ∧ e.k ≤ 6) (ha : -1000 ≤ a ∧ a ≤ 1000) (hb : -1000 ≤ b ∧ b ≤ 1000) : Fn Tryz.prog 80 [] [ad (rX e), nat1 a, nat1 b] (.o (ad (rX (if inB (valN e.k a b) 0 99 = true then numE (valN e.k a b) else e)))) [] := by
 have hm := inB_mul ha hb
 refine Fn.code0 Tryz.func80 rfl rfl rfl rfl ?_
 refine ACode.seq ?_
 refine ACode.region ?_
 refine .cons (St1.boxP rfl rfl rfl rfl rfl rfl) ?_
 refine .cons (.al 106 [.int .i64 0, .int .i64 0, .slice none 0 0, .int .i64 0, .string ByteArray.empty, .slice none 0 0, .slice none 0 0] rfl rfl rfl) ?_
 refine .nil ?_
 refine ks_n ?_
 refine ACode.seq ?_
 refine ACode.region ?_
 refine .cons (.mv rfl rfl) ?_
 refine .cons (.mv rfl rfl) ?_
 refine .cons (.ml rfl rfl rfl) ?_
 refine .cons (.asg rfl rfl) ?_
 refine .nil ?_
 refine ks_n ?_
 refine ACode.seq ?_
 refine ACode.cut [(.t 3, .v (.o (.c (.ptr (rX e))))), (.t 6, .v (.o (.c (.box 820 7 0 0)))), (.t 7, .v (.o (nat1 (valN e.k a b)))), (.b 820, .b 31 7 [[.d (dI 0), .d (dI 0), .d (.val (.slice none 0 0)), .d (dI 0), .d (dS ByteArray.empty), .d (.val (.slice none 0 0)), .d (.val (.slice none 0 0))]]), (.u 820, .u)] ?_ ?_
 ·skip
  refine ACode.seq ?_
  refine ACode.region ?_
  refine .cons (.fP 0 0 false rfl rfl) ?_
  refine .cons (.l1 1 rfl rfl) ?_
  refine .nil ?_
  refine ks_n ?_
  refine ACode.block ?_
  refine ACode.seq ?_
  refine ACode.region ?_
  refine .cons (.eq rfl rfl rfl) ?_
  refine .cons (.asg rfl rfl) ?_
  refine .nil ?_
  refine ks_n ?_
  refine .cD rfl (fun h13 => ?_) (fun h13 => ?_)
  ·skip
   refine ACode.region ?_
   refine .cons (.mv rfl rfl) ?_
   refine .cons (.mv rfl rfl) ?_
   refine .cons (.pl rfl rfl rfl) ?_
   refine .cons (.asg rfl rfl) ?_
   refine .nil ?_
   refine kb_n ?_
   exact kc_n (Wk.keep [(820, 106)] rfl rfl ⟨ks rfl .dt, ks rfl (.c .bx), ks rfl (.dt (vI (by rw [valN]; first | (rw [if_pos (by assumption)]; done) | (rw [if_neg (by omega), if_neg (by omega)]; done) | (rw [if_neg (by assumption), if_pos (by omega)])))), kb 106 rfl (.cons (.cons .dt (.cons .dt (.cons .dt (.cons .dt (.cons .dt (.cons .dt (.cons .dt Ctos.nil))))))) .nil), trivial⟩)
  ·skip
   refine ACode.seq ?_
   refine ACode.region ?_
   refine .cons (.eq rfl rfl rfl) ?_
   refine .cons (.asg rfl rfl) ?_
   refine .nil ?_
   refine ks_n ?_
   refine .cD rfl (fun h18 => ?_) (fun h18 => ?_)
   ·skip
    refine ACode.region ?_
    refine .cons (.mv rfl rfl) ?_
    refine .cons (.mv rfl rfl) ?_
    refine .cons (.sb rfl rfl rfl) ?_
    refine .cons (.asg rfl rfl) ?_
    refine .nil ?_
    refine kb_n ?_
    exact kc_n (Wk.keep [(820, 106)] rfl rfl ⟨ks rfl .dt, ks rfl (.c .bx), ks rfl (.dt (vI (by rw [valN]; first | (rw [if_pos (by assumption)]; done) | (rw [if_neg (by omega), if_neg (by omega)]; done) | (rw [if_neg (by assumption), if_pos (by omega)])))), kb 106 rfl (.cons (.cons .dt (.cons .dt (.cons .dt (.cons .dt (.cons .dt (.cons .dt (.cons .dt Ctos.nil))))))) .nil), trivial⟩)
   ·skip
    refine ACode.skip ?_
    refine kb_n ?_
    exact kc_n (Wk.keep [(820, 106)] rfl rfl ⟨ks rfl .dt, ks rfl (.c .bx), ks rfl (.dt (vI (by rw [valN]; first | (rw [if_pos (by assumption)]; done) | (rw [if_neg (by omega), if_neg (by omega)]; done) | (rw [if_neg (by assumption), if_pos (by omega)])))), kb 106 rfl (.cons (.cons .dt (.cons .dt (.cons .dt (.cons .dt (.cons .dt (.cons .dt (.cons .dt Ctos.nil))))))) .nil), trivial⟩)
 refine ks_n ?_
 refine ACode.seq ?_
 refine ACode.seq ?_
 refine ACode.cut [(.t 3, .v (.o (.c (.ptr (rX e))))), (.t 6, .v (.o (.c (.box 870 7 0 0)))), (.t 7, .v (.o (nat1 (valN e.k a b)))), (.t 28, .v (.o (bo1 (!inB (valN e.k a b) 0 99)))), (.b 870, .b 31 7 [[.d (dI 0), .d (dI 0), .d (.val (.slice none 0 0)), .d (dI 0), .d (dS ByteArray.empty), .d (.val (.slice none 0 0)), .d (.val (.slice none 0 0))]]), (.u 870, .u)] ?_ ?_
 ·skip
  refine ACode.region ?_
  refine .cons (.mv rfl rfl) ?_
  refine .cons (.ls rfl rfl rfl) ?_
  refine .cons (.mv rfl rfl) ?_
  refine .cD 25 rfl (fun g25 => ?_) (fun g25 => ?_)
  ·skip
   refine .cons (.gF rfl rfl rfl) ?_
   refine .cons (.gF rfl rfl rfl) ?_
   refine .cons (.pT rfl rfl rfl) ?_
   refine .nil ?_
   exact kc_n (Wk.keep [(870, 820)] rfl rfl ⟨ks rfl .dt, ks rfl (.c .bx), ks rfl .dt, ks rfl (.dt (vB (by rw [inB]; first | rfl | grind))), kb 820 rfl (.cons (.cons .dt (.cons .dt (.cons .dt (.cons .dt (.cons .dt (.cons .dt (.cons .dt Ctos.nil))))))) .nil), trivial⟩)
  ·skip
   refine .cons (.gT rfl rfl rfl (.mv rfl rfl)) ?_
   refine .cons (.gT rfl rfl rfl (.gt rfl rfl rfl)) ?_
   refine .cons (.pF rfl rfl rfl) ?_
   refine .nil ?_
   exact kc_n (Wk.keep [(870, 820)] rfl rfl ⟨ks rfl .dt, ks rfl (.c .bx), ks rfl .dt, ks rfl (.dt (vB (by rw [inB]; first | rfl | grind))), kb 820 rfl (.cons (.cons .dt (.cons .dt (.cons .dt (.cons .dt (.cons .dt (.cons .dt (.cons .dt Ctos.nil))))))) .nil), trivial⟩)
 refine ks_n ?_
 refine ACode.condT rfl (fun h28 => ?_) (fun h28 => ?_)
 ·try simp only [zs1, zs2, zs3, zs4, zs5, zs6, zs7] at h28
  refine ACode.seq ?_
  refine ACode.region ?_
  refine .cons (.lN 7 rfl rfl rfl) ?_
  refine .cons (.sT 7 true rfl rfl rfl rfl rfl rfl rfl) ?_
  refine .nil ?_
  refine ks_n ?_
  refine ACode.ret ?_
  refine ks_r ?_
  refine kf_ret rfl ?_ nobox
  rw [if_neg (by rw [h28]; decide)]; rfl
 ·try simp only [zs1, zs2, zs3, zs4, zs5, zs6, zs7] at h28
  refine ACode.skip ?_
  refine ks_n ?_
  refine ACode.seq ?_
  refine ACode.region ?_
  refine .cons (.mv rfl rfl) ?_
  refine .cons (.cP [.tmp 30] rfl rfl rfl rfl (l13Num_fn _) rfl) ?_
  refine .cons (.sT 7 true rfl rfl rfl rfl rfl rfl rfl) ?_
  refine .nil ?_
  refine ks_n ?_
  refine ACode.ret ?_
  refine kf_ret rfl ?_ nobox
  rw [if_pos h28]; rfl

set_option maxRecDepth 100000 in
set_option maxHeartbeats 1600000 in
theorem node_leaf {e : Ex} (hks : e.ks = []) : Fn Tryz.prog 54 [] [ad (rX e)] (.o (ad (rX (if idxV e = true then numE e.i.2 else e)))) [] := by
 refine Fn.code0 Tryz.func54 rfl rfl rfl rfl ?_
 refine ACode.seq ?_
 refine ACode.region ?_
 refine .cons (St1.boxP rfl rfl rfl rfl rfl rfl) ?_
 refine .cons (.al 102 [.int .i64 0, .int .i64 0, .slice none 0 0, .int .i64 0, .string ByteArray.empty, .slice none 0 0, .slice none 0 0] rfl rfl rfl) ?_
 refine .nil ?_
 refine ks_n ?_
 refine ACode.seq ?_
 refine ACode.seq ?_
 refine ACode.cut [(.t 1, .v (.o (.c (.ptr (rX e))))), (.t 2, .v (.o (.c (.box 810 7 0 0)))), (.t 19, .v (.o (bo1 (idxV e)))), (.b 810, .b 31 7 [[.d (dI 0), .d (dI 0), .d (.val (.slice none 0 0)), .d (dI 0), .d (dS ByteArray.empty), .d (.val (.slice none 0 0)), .d (.val (.slice none 0 0))]]), (.u 810, .u)] ?_ ?_
 ·skip
  refine ACode.region ?_
  refine .cons (.fP 0 0 false rfl rfl) ?_
  refine .cons (.l1 1 rfl rfl) ?_
  refine .cons (.eq rfl rfl rfl) ?_
  refine .cons (.mv rfl rfl) ?_
  refine .cD 8 rfl (fun g8 => ?_) (fun g8 => ?_)
  ·skip
   refine .cons (.gT rfl rfl rfl (.fP 2 1 true rfl rfl)) ?_
   refine .cons (.gT rfl rfl rfl (.lN 2 rfl rfl rfl)) ?_
   refine .cons (.gT rfl rfl rfl (.cP [.tmp 10] rfl rfl rfl rfl (l1Depth_fn _) rfl)) ?_
   refine .cons (.gT rfl rfl rfl (.eq rfl rfl rfl)) ?_
   refine .cons (.pT rfl rfl rfl) ?_
   refine .cons (.mv rfl rfl) ?_
   refine AOps.cases 14 _ rfl (fun g14 => ?_) (fun g14 => ?_)
   ·try simp only [zs1, zs2, zs3, zs4, zs5, zs6, zs7] at g14
    refine .cons (.gT rfl rfl rfl (.fP 2 1 true rfl rfl)) ?_
    refine .cons (.gT rfl rfl rfl (.fP 1 0 false rfl rfl)) ?_
    refine .cons (.gT rfl rfl rfl (.l1 1 rfl rfl)) ?_
    refine .cons (.gT rfl rfl rfl (.ge rfl rfl rfl)) ?_
    refine .cons (.pT rfl rfl rfl) ?_
    refine .nil ?_
    exact kc_n (Wk.keep [(810, 102)] rfl rfl ⟨ks rfl .dt, ks rfl (.c .bx), ks rfl (.dt (vB (by rw [idxV]; first | rfl | (simp [*]; done) | grind))), kb 102 rfl (.cons (.cons .dt (.cons .dt (.cons .dt (.cons .dt (.cons .dt (.cons .dt (.cons .dt Ctos.nil))))))) .nil), trivial⟩)
   ·try simp only [zs1, zs2, zs3, zs4, zs5, zs6, zs7] at g14
    refine .cons (.gF rfl rfl rfl) ?_
    refine .cons (.gF rfl rfl rfl) ?_
    refine .cons (.gF rfl rfl rfl) ?_
    refine .cons (.gF rfl rfl rfl) ?_
    refine .cons (.pF rfl rfl rfl) ?_
    refine .nil ?_
    exact kc_n (Wk.keep [(810, 102)] rfl rfl ⟨ks rfl .dt, ks rfl (.c .bx), ks rfl (.dt (vB (by rw [idxV]; first | rfl | (simp [*]; done) | grind))), kb 102 rfl (.cons (.cons .dt (.cons .dt (.cons .dt (.cons .dt (.cons .dt (.cons .dt (.cons .dt Ctos.nil))))))) .nil), trivial⟩)
  ·skip
   refine .cons (.gF rfl rfl rfl) ?_
   refine .cons (.gF rfl rfl rfl) ?_
   refine .cons (.gF rfl rfl rfl) ?_
   refine .cons (.gF rfl rfl rfl) ?_
   refine .cons (.pF rfl rfl rfl) ?_
   refine .cons (.mv rfl rfl) ?_
   refine .cons (.gF rfl rfl rfl) ?_
   refine .cons (.gF rfl rfl rfl) ?_
   refine .cons (.gF rfl rfl rfl) ?_
   refine .cons (.gF rfl rfl rfl) ?_
   refine .cons (.pF rfl rfl rfl) ?_
   refine .nil ?_
   exact kc_n (Wk.keep [(810, 102)] rfl rfl ⟨ks rfl .dt, ks rfl (.c .bx), ks rfl (.dt (vB (by rw [idxV]; first | rfl | (simp [*]; done) | grind))), kb 102 rfl (.cons (.cons .dt (.cons .dt (.cons .dt (.cons .dt (.cons .dt (.cons .dt (.cons .dt Ctos.nil))))))) .nil), trivial⟩)
 refine ks_n ?_
 refine ACode.condT rfl (fun h19 => ?_) (fun h19 => ?_)
 ·try simp only [zs1, zs2, zs3, zs4, zs5, zs6, zs7] at h19
  refine ACode.seq ?_
  refine ACode.region ?_
  refine .cons (.fP 2 1 true rfl rfl) ?_
  refine .cons (.fP 1 0 false rfl rfl) ?_
  refine .cons (.l1 1 rfl rfl) ?_
  refine .cons (.cP [.tmp 22] rfl rfl rfl rfl (l13Num_fn _) rfl) ?_
  refine .cons (.sT 7 true rfl rfl rfl rfl rfl rfl rfl) ?_
  refine .nil ?_
  refine ks_n ?_
  refine ACode.ret ?_
  refine ks_r ?_
  refine kf_ret rfl ?_ nobox
  rw [if_pos h19]; rfl
 ·try simp only [zs1, zs2, zs3, zs4, zs5, zs6, zs7] at h19
  refine ACode.skip ?_
  refine ks_n ?_
  refine ACode.seq ?_
  refine ACode.seq ?_
  refine ACode.region ?_
  refine .cons (.fP 6 0 false rfl rfl) ?_
  refine .cons (.l1 1 rfl rfl) ?_
  refine .cons (.ln 31 7 112 rfl rfl rfl) ?_
  refine .cons (.eq rfl rfl rfl) ?_
  refine .nil ?_
  refine ks_n ?_
  refine .cD rfl (fun h27 => ?_) (fun h27 => ?_)
  ·skip
   refine ACode.seq ?_
   refine ACode.region ?_
   refine .cons (.lN 7 rfl rfl rfl) ?_
   refine .cons (.sT 7 true rfl rfl rfl rfl rfl rfl rfl) ?_
   refine .nil ?_
   refine ks_n ?_
   refine ACode.ret ?_
   refine ks_r ?_
   refine kf_ret rfl ?_ nobox
   rw [if_neg (by rw [h19]; decide)]; rfl
  ·skip
   exact absurd (by rw [hks]; rfl) h27

set_option maxRecDepth 100000 in
set_option maxHeartbeats 1600000 in
theorem node_op {e X Y : Ex} (hk : 4 ≤ e.k ∧ e.k ≤ 6) (hks : e.ks = [X, Y]) (hX : -1000 ≤ X.n ∧ X.n ≤ 1000) (hY : -1000 ≤ Y.n ∧ Y.n ≤ 1000) : Fn Tryz.prog 54 [] [ad (rX e)] (.o (ad (rX (foldN e X Y)))) [] := by
 refine Fn.code0 Tryz.func54 rfl rfl rfl rfl ?_
 refine ACode.seq ?_
 refine ACode.region ?_
 refine .cons (St1.boxP rfl rfl rfl rfl rfl rfl) ?_
 refine .cons (.al 102 [.int .i64 0, .int .i64 0, .slice none 0 0, .int .i64 0, .string ByteArray.empty, .slice none 0 0, .slice none 0 0] rfl rfl rfl) ?_
 refine .nil ?_
 refine ks_n ?_
 refine ACode.seq ?_
 refine ACode.seq ?_
 refine ACode.cut [(.t 1, .v (.o (.c (.ptr (rX e))))), (.t 2, .v (.o (.c (.box 810 7 0 0)))), (.t 19, .v (.o (bo1 (idxV e)))), (.b 810, .b 31 7 [[.d (dI 0), .d (dI 0), .d (.val (.slice none 0 0)), .d (dI 0), .d (dS ByteArray.empty), .d (.val (.slice none 0 0)), .d (.val (.slice none 0 0))]]), (.u 810, .u)] ?_ ?_
 ·skip
  refine ACode.region ?_
  refine .cons (.fP 0 0 false rfl rfl) ?_
  refine .cons (.l1 1 rfl rfl) ?_
  refine .cons (.eq rfl rfl rfl) ?_
  refine .cons (.mv rfl rfl) ?_
  refine .cD 8 rfl (fun g8 => ?_) (fun g8 => ?_)
  ·skip
   refine .cons (.gT rfl rfl rfl (.fP 2 1 true rfl rfl)) ?_
   refine .cons (.gT rfl rfl rfl (.lN 2 rfl rfl rfl)) ?_
   refine .cons (.gT rfl rfl rfl (.cP [.tmp 10] rfl rfl rfl rfl (l1Depth_fn _) rfl)) ?_
   refine .cons (.gT rfl rfl rfl (.eq rfl rfl rfl)) ?_
   refine .cons (.pT rfl rfl rfl) ?_
   refine .cons (.mv rfl rfl) ?_
   refine AOps.cases 14 _ rfl (fun g14 => ?_) (fun g14 => ?_)
   ·try simp only [zs1, zs2, zs3, zs4, zs5, zs6, zs7] at g14
    refine .cons (.gT rfl rfl rfl (.fP 2 1 true rfl rfl)) ?_
    refine .cons (.gT rfl rfl rfl (.fP 1 0 false rfl rfl)) ?_
    refine .cons (.gT rfl rfl rfl (.l1 1 rfl rfl)) ?_
    refine .cons (.gT rfl rfl rfl (.ge rfl rfl rfl)) ?_
    refine .cons (.pT rfl rfl rfl) ?_
    refine .nil ?_
    exact kc_n (Wk.keep [(810, 102)] rfl rfl ⟨ks rfl .dt, ks rfl (.c .bx), ks rfl (.dt (vB (by rw [idxV]; first | rfl | (simp [*]; done) | grind))), kb 102 rfl (.cons (.cons .dt (.cons .dt (.cons .dt (.cons .dt (.cons .dt (.cons .dt (.cons .dt Ctos.nil))))))) .nil), trivial⟩)
   ·try simp only [zs1, zs2, zs3, zs4, zs5, zs6, zs7] at g14
    refine .cons (.gF rfl rfl rfl) ?_
    refine .cons (.gF rfl rfl rfl) ?_
    refine .cons (.gF rfl rfl rfl) ?_
    refine .cons (.gF rfl rfl rfl) ?_
    refine .cons (.pF rfl rfl rfl) ?_
    refine .nil ?_
    exact kc_n (Wk.keep [(810, 102)] rfl rfl ⟨ks rfl .dt, ks rfl (.c .bx), ks rfl (.dt (vB (by rw [idxV]; first | rfl | (simp [*]; done) | grind))), kb 102 rfl (.cons (.cons .dt (.cons .dt (.cons .dt (.cons .dt (.cons .dt (.cons .dt (.cons .dt Ctos.nil))))))) .nil), trivial⟩)
  ·skip
   refine .cons (.gF rfl rfl rfl) ?_
   refine .cons (.gF rfl rfl rfl) ?_
   refine .cons (.gF rfl rfl rfl) ?_
   refine .cons (.gF rfl rfl rfl) ?_
   refine .cons (.pF rfl rfl rfl) ?_
   refine .cons (.mv rfl rfl) ?_
   refine .cons (.gF rfl rfl rfl) ?_
   refine .cons (.gF rfl rfl rfl) ?_
   refine .cons (.gF rfl rfl rfl) ?_
   refine .cons (.gF rfl rfl rfl) ?_
   refine .cons (.pF rfl rfl rfl) ?_
   refine .nil ?_
   exact kc_n (Wk.keep [(810, 102)] rfl rfl ⟨ks rfl .dt, ks rfl (.c .bx), ks rfl (.dt (vB (by rw [idxV]; first | rfl | (simp [*]; done) | grind))), kb 102 rfl (.cons (.cons .dt (.cons .dt (.cons .dt (.cons .dt (.cons .dt (.cons .dt (.cons .dt Ctos.nil))))))) .nil), trivial⟩)
 refine ks_n ?_
 refine ACode.condT rfl (fun h19 => ?_) (fun h19 => ?_)
 ·try simp only [zs1, zs2, zs3, zs4, zs5, zs6, zs7] at h19
  exact absurd (h19.symm.trans (idxV_no (by omega))) (by decide)
 ·try simp only [zs1, zs2, zs3, zs4, zs5, zs6, zs7] at h19
  refine ACode.skip ?_
  refine ks_n ?_
  refine ACode.seq ?_
  refine ACode.seq ?_
  refine ACode.region ?_
  refine .cons (.fP 6 0 false rfl rfl) ?_
  refine .cons (.l1 1 rfl rfl) ?_
  refine .cons (.ln 31 7 112 rfl rfl rfl) ?_
  refine .cons (.eq rfl rfl rfl) ?_
  refine .nil ?_
  refine ks_n ?_
  refine .cD rfl (fun h27 => ?_) (fun h27 => ?_)
  ·skip
   exact absurd h27 (by rw [hks]; simp)
  ·skip
   refine ACode.skip ?_
   refine ks_n ?_
   refine ACode.seq ?_
   refine ACode.region ?_
   refine .cons (.fP 6 0 false rfl rfl) ?_
   refine .cons (.l1 1 rfl rfl) ?_
   refine .cons (.xL 31 7 112 (i := 0) rfl rfl rfl rfl rfl (by rw [hks]; exact rE_at rfl)) ?_
   refine .cons (.lN 7 rfl rfl rfl) ?_
   refine .cons (.al 103 [.int .i64 0, .int .i64 0, .slice none 0 0, .int .i64 0, .string ByteArray.empty, .slice none 0 0, .slice none 0 0] rfl rfl rfl) ?_
   refine .cons (.sT 7 true rfl rfl rfl rfl rfl rfl rfl) ?_
   refine .nil ?_
   refine ks_n ?_
   refine ACode.seq ?_
   refine ACode.region ?_
   refine .cons (.fP 6 0 false rfl rfl) ?_
   refine .cons (.l1 1 rfl rfl) ?_
   refine .cons (.xL 31 7 112 (i := 1) rfl rfl rfl rfl rfl (by rw [hks]; exact rE_at rfl)) ?_
   refine .cons (.lN 7 rfl rfl rfl) ?_
   refine .cons (.al 104 [.int .i64 0, .int .i64 0, .slice none 0 0, .int .i64 0, .string ByteArray.empty, .slice none 0 0, .slice none 0 0] rfl rfl rfl) ?_
   refine .cons (.sT 7 true rfl rfl rfl rfl rfl rfl rfl) ?_
   refine .nil ?_
   refine ks_n ?_
   refine ACode.seq ?_
   refine ACode.block ?_
   refine ACode.seq ?_
   refine ACode.cut [(.t 1, .v (.o (.c (.ptr (rX e))))), (.t 2, .v (.o (.c (.box 870 7 0 0)))), (.t 3, .v (.o (.c (.box 871 7 0 0)))), (.t 4, .v (.o (.c (.box 872 7 0 0)))), (.t 37, .v (.o (bo1 ((decide (X.k = 1) && decide (Y.k = 1)))))), (.b 870, .b 31 7 [[.d (dI 0), .d (dI 0), .d (.val (.slice none 0 0)), .d (dI 0), .d (dS ByteArray.empty), .d (.val (.slice none 0 0)), .d (.val (.slice none 0 0))]]), (.u 870, .u), (.b 871, .b 31 7 (dR ([rX X]))), (.u 871, .u), (.b 872, .b 31 7 (dR ([rX Y]))), (.u 872, .u)] ?_ ?_
   ·skip
    refine ACode.region ?_
    refine .cons (.fB 0 0 false rfl rfl rfl) ?_
    refine .cons (.b1 1 rfl rfl rfl rfl rfl rfl) ?_
    refine .cons (.eq rfl rfl rfl) ?_
    refine .cons (.mv rfl rfl) ?_
    refine .cD 41 rfl (fun g41 => ?_) (fun g41 => ?_)
    ·skip
     refine .cons (.gT rfl rfl rfl (.fB 0 0 false rfl rfl rfl)) ?_
     refine .cons (.gT rfl rfl rfl (.b1 1 rfl rfl rfl rfl rfl rfl)) ?_
     refine .cons (.gT rfl rfl rfl (.eq rfl rfl rfl)) ?_
     refine .cons (.pT rfl rfl rfl) ?_
     refine .cons (.asg rfl rfl) ?_
     refine .nil ?_
     exact kc_n (Wk.keep [(870, 810), (871, 103), (872, 104)] rfl rfl ⟨ks rfl .dt, ks rfl (.c .bx), ks rfl (.c .bx), ks rfl (.c .bx), ks rfl (.dt (vB (by first | rfl | (simp [*]; done) | grind))), kb 810 rfl (.cons (.cons .dt (.cons .dt (.cons .dt (.cons .dt (.cons .dt (.cons .dt (.cons .dt Ctos.nil))))))) .nil), kb 103 rfl (.dt rfl), kb 104 rfl (.dt rfl), trivial⟩)
    ·skip
     refine .cons (.gF rfl rfl rfl) ?_
     refine .cons (.gF rfl rfl rfl) ?_
     refine .cons (.gF rfl rfl rfl) ?_
     refine .cons (.pF rfl rfl rfl) ?_
     refine .cons (.asg rfl rfl) ?_
     refine .nil ?_
     exact kc_n (Wk.keep [(870, 810), (871, 103), (872, 104)] rfl rfl ⟨ks rfl .dt, ks rfl (.c .bx), ks rfl (.c .bx), ks rfl (.c .bx), ks rfl (.dt (vB (by first | rfl | (simp [*]; done) | grind))), kb 810 rfl (.cons (.cons .dt (.cons .dt (.cons .dt (.cons .dt (.cons .dt (.cons .dt (.cons .dt Ctos.nil))))))) .nil), kb 103 rfl (.dt rfl), kb 104 rfl (.dt rfl), trivial⟩)
   refine ks_n ?_
   refine ACode.condT rfl (fun h37 => ?_) (fun h37 => ?_)
   ·try simp only [zs1, zs2, zs3, zs4, zs5, zs6, zs7] at h37
    refine ACode.seq ?_
    refine ACode.region ?_
    refine .cons (.lN 7 rfl rfl rfl) ?_
    refine .cons (.fB 1 0 false rfl rfl rfl) ?_
    refine .cons (.b1 1 rfl rfl rfl rfl rfl rfl) ?_
    refine .cons (.fB 1 0 false rfl rfl rfl) ?_
    refine .cons (.b1 1 rfl rfl rfl rfl rfl rfl) ?_
    refine .cons (.cP [.tmp 46, .tmp 48, .tmp 50] rfl rfl rfl rfl (l13Two_fn hk hX hY) rfl) ?_
    refine .cons (.sT 7 true rfl rfl rfl rfl rfl rfl rfl) ?_
    refine .nil ?_
    refine ks_n ?_
    refine ACode.ret ?_
    refine kb_r ?_
    refine ks_r ?_
    refine kf_ret rfl ?_ nobox
    rw [foldN, if_pos h37]; rfl
   ·try simp only [zs1, zs2, zs3, zs4, zs5, zs6, zs7] at h37
    refine ACode.seq ?_
    refine ACode.cut [(.t 1, .v (.o (.c (.ptr (rX e))))), (.t 2, .v (.o (.c (.box 890 7 0 0)))), (.t 3, .v (.o (.c (.box 891 7 0 0)))), (.t 4, .v (.o (.c (.box 892 7 0 0)))), (.t 52, .v (.o (bo1 ((!decide (e.k = 6) && isN Y 0 || decide (e.k = 6) && isN Y 1))))), (.b 890, .b 31 7 [[.d (dI 0), .d (dI 0), .d (.val (.slice none 0 0)), .d (dI 0), .d (dS ByteArray.empty), .d (.val (.slice none 0 0)), .d (.val (.slice none 0 0))]]), (.u 890, .u), (.b 891, .b 31 7 (dR ([rX X]))), (.u 891, .u), (.b 892, .b 31 7 (dR ([rX Y]))), (.u 892, .u)] ?_ ?_
    ·skip
     refine ACode.seq ?_
     refine ACode.region ?_
     refine .cons (.fP 0 0 false rfl rfl) ?_
     refine .cons (.l1 1 rfl rfl) ?_
     refine .cons (.ne rfl rfl rfl) ?_
     refine .cons (.mv rfl rfl) ?_
     refine .cND 56 rfl (fun g56 => ?_) (fun g56 => ?_)
     ·skip
      refine .cons (.gT rfl rfl rfl (.bN 7 rfl rfl rfl rfl rfl rfl)) ?_
      refine .cons (.gT rfl rfl rfl (.cP [.tmp 57, .const (.int .i64 (0))] rfl rfl rfl rfl (l13Is_fn _ 0) rfl)) ?_
      refine .cons (.pT rfl rfl rfl) ?_
      refine .cons (.asg rfl rfl) ?_
      refine .nil ?_
      refine ks_n ?_
      refine ACode.condT rfl (fun h52 => ?_) (fun h52 => ?_)
      ·try simp only [zs1, zs2, zs3, zs4, zs5, zs6, zs7] at h52
       refine ACode.skip ?_
       exact kc_n (Wk.keep [(890, 870), (891, 871), (892, 872)] rfl rfl ⟨ks rfl .dt, ks rfl (.c .bx), ks rfl (.c .bx), ks rfl (.c .bx), ks rfl (.dt (vB (by first | rfl | (simp [*]; done) | grind))), kb 870 rfl (.cons (.cons .dt (.cons .dt (.cons .dt (.cons .dt (.cons .dt (.cons .dt (.cons .dt Ctos.nil))))))) .nil), kb 871 rfl (.dt rfl), kb 872 rfl (.dt rfl), trivial⟩)
      ·try simp only [zs1, zs2, zs3, zs4, zs5, zs6, zs7] at h52
       refine ACode.region ?_
       refine .cons (.fP 0 0 false rfl rfl) ?_
       refine .cons (.l1 1 rfl rfl) ?_
       refine .cons (.eq rfl rfl rfl) ?_
       refine .cons (.mv rfl rfl) ?_
       refine .cD 63 rfl (fun g63 => ?_) (fun g63 => ?_)
       ·skip
        refine .cons (.gT rfl rfl rfl (.bN 7 rfl rfl rfl rfl rfl rfl)) ?_
        refine .cons (.gT rfl rfl rfl (.cP [.tmp 64, .const (.int .i64 (1))] rfl rfl rfl rfl (l13Is_fn _ 1) rfl)) ?_
        refine .cons (.pT rfl rfl rfl) ?_
        refine .cons (.asg rfl rfl) ?_
        refine .nil ?_
        exact kc_n (Wk.keep [(890, 870), (891, 871), (892, 872)] rfl rfl ⟨ks rfl .dt, ks rfl (.c .bx), ks rfl (.c .bx), ks rfl (.c .bx), ks rfl (.dt (vB (by first | rfl | (simp [*]; done) | grind))), kb 870 rfl (.cons (.cons .dt (.cons .dt (.cons .dt (.cons .dt (.cons .dt (.cons .dt (.cons .dt Ctos.nil))))))) .nil), kb 871 rfl (.dt rfl), kb 872 rfl (.dt rfl), trivial⟩)
       ·skip
        refine .cons (.gF rfl rfl rfl) ?_
        refine .cons (.gF rfl rfl rfl) ?_
        refine .cons (.pF rfl rfl rfl) ?_
        refine .cons (.asg rfl rfl) ?_
        refine .nil ?_
        exact kc_n (Wk.keep [(890, 870), (891, 871), (892, 872)] rfl rfl ⟨ks rfl .dt, ks rfl (.c .bx), ks rfl (.c .bx), ks rfl (.c .bx), ks rfl (.dt (vB (by first | rfl | (simp [*]; done) | grind))), kb 870 rfl (.cons (.cons .dt (.cons .dt (.cons .dt (.cons .dt (.cons .dt (.cons .dt (.cons .dt Ctos.nil))))))) .nil), kb 871 rfl (.dt rfl), kb 872 rfl (.dt rfl), trivial⟩)
     ·skip
      refine .cons (.gF rfl rfl rfl) ?_
      refine .cons (.gF rfl rfl rfl) ?_
      refine .cons (.pF rfl rfl rfl) ?_
      refine .cons (.asg rfl rfl) ?_
      refine .nil ?_
      refine ks_n ?_
      refine ACode.condT rfl (fun h => by first | (cases h; done) | (simp [*] at h; done) | (exfalso; simp_all; done)) (fun _ => ?_)
      refine ACode.region ?_
      refine .cons (.fP 0 0 false rfl rfl) ?_
      refine .cons (.l1 1 rfl rfl) ?_
      refine .cons (.eq rfl rfl rfl) ?_
      refine .cons (.mv rfl rfl) ?_
      refine .cD 63 rfl (fun g63 => ?_) (fun g63 => ?_)
      ·skip
       refine .cons (.gT rfl rfl rfl (.bN 7 rfl rfl rfl rfl rfl rfl)) ?_
       refine .cons (.gT rfl rfl rfl (.cP [.tmp 64, .const (.int .i64 (1))] rfl rfl rfl rfl (l13Is_fn _ 1) rfl)) ?_
       refine .cons (.pT rfl rfl rfl) ?_
       refine .cons (.asg rfl rfl) ?_
       refine .nil ?_
       exact kc_n (Wk.keep [(890, 870), (891, 871), (892, 872)] rfl rfl ⟨ks rfl .dt, ks rfl (.c .bx), ks rfl (.c .bx), ks rfl (.c .bx), ks rfl (.dt (vB (by first | rfl | (simp [*]; done) | grind))), kb 870 rfl (.cons (.cons .dt (.cons .dt (.cons .dt (.cons .dt (.cons .dt (.cons .dt (.cons .dt Ctos.nil))))))) .nil), kb 871 rfl (.dt rfl), kb 872 rfl (.dt rfl), trivial⟩)
      ·skip
       refine .cons (.gF rfl rfl rfl) ?_
       refine .cons (.gF rfl rfl rfl) ?_
       refine .cons (.pF rfl rfl rfl) ?_
       refine .cons (.asg rfl rfl) ?_
       refine .nil ?_
       exact kc_n (Wk.keep [(890, 870), (891, 871), (892, 872)] rfl rfl ⟨ks rfl .dt, ks rfl (.c .bx), ks rfl (.c .bx), ks rfl (.c .bx), ks rfl (.dt (vB (by first | rfl | (simp [*]; done) | grind))), kb 870 rfl (.cons (.cons .dt (.cons .dt (.cons .dt (.cons .dt (.cons .dt (.cons .dt (.cons .dt Ctos.nil))))))) .nil), kb 871 rfl (.dt rfl), kb 872 rfl (.dt rfl), trivial⟩)
    refine ks_n ?_
    refine ACode.condT rfl (fun h52 => ?_) (fun h52 => ?_)
    ·try simp only [zs1, zs2, zs3, zs4, zs5, zs6, zs7] at h52
     refine ACode.seq ?_
     refine ACode.region ?_
     refine .cons (.bN 7 rfl rfl rfl rfl rfl rfl) ?_
     refine .cons (.sT 7 true rfl rfl rfl rfl rfl rfl rfl) ?_
     refine .nil ?_
     refine ks_n ?_
     refine ACode.ret ?_
     refine kb_r ?_
     refine ks_r ?_
     refine kf_ret rfl ?_ nobox
     rw [foldN, if_neg (by rw [h37]; decide), if_pos h52]; rfl
    ·try simp only [zs1, zs2, zs3, zs4, zs5, zs6, zs7] at h52
     refine ACode.seq ?_
     refine ACode.cut [(.t 1, .v (.o (.c (.ptr (rX e))))), (.t 2, .v (.o (.c (.box 920 7 0 0)))), (.t 3, .v (.o (.c (.box 921 7 0 0)))), (.t 4, .v (.o (.c (.box 922 7 0 0)))), (.t 68, .v (.o (bo1 ((decide (e.k = 4) && isN X 0 || decide (e.k = 6) && isN X 1))))), (.b 920, .b 31 7 [[.d (dI 0), .d (dI 0), .d (.val (.slice none 0 0)), .d (dI 0), .d (dS ByteArray.empty), .d (.val (.slice none 0 0)), .d (.val (.slice none 0 0))]]), (.u 920, .u), (.b 921, .b 31 7 (dR ([rX X]))), (.u 921, .u), (.b 922, .b 31 7 (dR ([rX Y]))), (.u 922, .u)] ?_ ?_
     ·skip
      refine ACode.seq ?_
      refine ACode.region ?_
      refine .cons (.fP 0 0 false rfl rfl) ?_
      refine .cons (.l1 1 rfl rfl) ?_
      refine .cons (.eq rfl rfl rfl) ?_
      refine .cons (.mv rfl rfl) ?_
      refine .cD 72 rfl (fun g72 => ?_) (fun g72 => ?_)
      ·skip
       refine .cons (.gT rfl rfl rfl (.bN 7 rfl rfl rfl rfl rfl rfl)) ?_
       refine .cons (.gT rfl rfl rfl (.cP [.tmp 73, .const (.int .i64 (0))] rfl rfl rfl rfl (l13Is_fn _ 0) rfl)) ?_
       refine .cons (.pT rfl rfl rfl) ?_
       refine .cons (.asg rfl rfl) ?_
       refine .nil ?_
       refine ks_n ?_
       refine ACode.condT rfl (fun h68 => ?_) (fun h68 => ?_)
       ·try simp only [zs1, zs2, zs3, zs4, zs5, zs6, zs7] at h68
        refine ACode.skip ?_
        exact kc_n (Wk.keep [(920, 890), (921, 891), (922, 892)] rfl rfl ⟨ks rfl .dt, ks rfl (.c .bx), ks rfl (.c .bx), ks rfl (.c .bx), ks rfl (.dt (vB (by first | rfl | (simp [*]; done) | grind))), kb 890 rfl (.cons (.cons .dt (.cons .dt (.cons .dt (.cons .dt (.cons .dt (.cons .dt (.cons .dt Ctos.nil))))))) .nil), kb 891 rfl (.dt rfl), kb 892 rfl (.dt rfl), trivial⟩)
       ·try simp only [zs1, zs2, zs3, zs4, zs5, zs6, zs7] at h68
        refine ACode.region ?_
        refine .cons (.fP 0 0 false rfl rfl) ?_
        refine .cons (.l1 1 rfl rfl) ?_
        refine .cons (.eq rfl rfl rfl) ?_
        refine .cons (.mv rfl rfl) ?_
        refine .cD 79 rfl (fun g79 => ?_) (fun g79 => ?_)
        ·skip
         refine .cons (.gT rfl rfl rfl (.bN 7 rfl rfl rfl rfl rfl rfl)) ?_
         refine .cons (.gT rfl rfl rfl (.cP [.tmp 80, .const (.int .i64 (1))] rfl rfl rfl rfl (l13Is_fn _ 1) rfl)) ?_
         refine .cons (.pT rfl rfl rfl) ?_
         refine .cons (.asg rfl rfl) ?_
         refine .nil ?_
         exact kc_n (Wk.keep [(920, 890), (921, 891), (922, 892)] rfl rfl ⟨ks rfl .dt, ks rfl (.c .bx), ks rfl (.c .bx), ks rfl (.c .bx), ks rfl (.dt (vB (by first | rfl | (simp [*]; done) | grind))), kb 890 rfl (.cons (.cons .dt (.cons .dt (.cons .dt (.cons .dt (.cons .dt (.cons .dt (.cons .dt Ctos.nil))))))) .nil), kb 891 rfl (.dt rfl), kb 892 rfl (.dt rfl), trivial⟩)
        ·skip
         refine .cons (.gF rfl rfl rfl) ?_
         refine .cons (.gF rfl rfl rfl) ?_
         refine .cons (.pF rfl rfl rfl) ?_
         refine .cons (.asg rfl rfl) ?_
         refine .nil ?_
         exact kc_n (Wk.keep [(920, 890), (921, 891), (922, 892)] rfl rfl ⟨ks rfl .dt, ks rfl (.c .bx), ks rfl (.c .bx), ks rfl (.c .bx), ks rfl (.dt (vB (by first | rfl | (simp [*]; done) | grind))), kb 890 rfl (.cons (.cons .dt (.cons .dt (.cons .dt (.cons .dt (.cons .dt (.cons .dt (.cons .dt Ctos.nil))))))) .nil), kb 891 rfl (.dt rfl), kb 892 rfl (.dt rfl), trivial⟩)
      ·skip
       refine .cons (.gF rfl rfl rfl) ?_
       refine .cons (.gF rfl rfl rfl) ?_
       refine .cons (.pF rfl rfl rfl) ?_
       refine .cons (.asg rfl rfl) ?_
       refine .nil ?_
       refine ks_n ?_
       refine ACode.condT rfl (fun h => by first | (cases h; done) | (simp [*] at h; done) | (exfalso; simp_all; done)) (fun _ => ?_)
       refine ACode.region ?_
       refine .cons (.fP 0 0 false rfl rfl) ?_
       refine .cons (.l1 1 rfl rfl) ?_
       refine .cons (.eq rfl rfl rfl) ?_
       refine .cons (.mv rfl rfl) ?_
       refine .cD 79 rfl (fun g79 => ?_) (fun g79 => ?_)
       ·skip
        refine .cons (.gT rfl rfl rfl (.bN 7 rfl rfl rfl rfl rfl rfl)) ?_
        refine .cons (.gT rfl rfl rfl (.cP [.tmp 80, .const (.int .i64 (1))] rfl rfl rfl rfl (l13Is_fn _ 1) rfl)) ?_
        refine .cons (.pT rfl rfl rfl) ?_
        refine .cons (.asg rfl rfl) ?_
        refine .nil ?_
        exact kc_n (Wk.keep [(920, 890), (921, 891), (922, 892)] rfl rfl ⟨ks rfl .dt, ks rfl (.c .bx), ks rfl (.c .bx), ks rfl (.c .bx), ks rfl (.dt (vB (by first | rfl | (simp [*]; done) | grind))), kb 890 rfl (.cons (.cons .dt (.cons .dt (.cons .dt (.cons .dt (.cons .dt (.cons .dt (.cons .dt Ctos.nil))))))) .nil), kb 891 rfl (.dt rfl), kb 892 rfl (.dt rfl), trivial⟩)
       ·skip
        refine .cons (.gF rfl rfl rfl) ?_
        refine .cons (.gF rfl rfl rfl) ?_
        refine .cons (.pF rfl rfl rfl) ?_
        refine .cons (.asg rfl rfl) ?_
        refine .nil ?_
        exact kc_n (Wk.keep [(920, 890), (921, 891), (922, 892)] rfl rfl ⟨ks rfl .dt, ks rfl (.c .bx), ks rfl (.c .bx), ks rfl (.c .bx), ks rfl (.dt (vB (by first | rfl | (simp [*]; done) | grind))), kb 890 rfl (.cons (.cons .dt (.cons .dt (.cons .dt (.cons .dt (.cons .dt (.cons .dt (.cons .dt Ctos.nil))))))) .nil), kb 891 rfl (.dt rfl), kb 892 rfl (.dt rfl), trivial⟩)
     refine ks_n ?_
     refine ACode.condT rfl (fun h68 => ?_) (fun h68 => ?_)
     ·try simp only [zs1, zs2, zs3, zs4, zs5, zs6, zs7] at h68
      refine ACode.seq ?_
      refine ACode.region ?_
      refine .cons (.bN 7 rfl rfl rfl rfl rfl rfl) ?_
      refine .cons (.sT 7 true rfl rfl rfl rfl rfl rfl rfl) ?_
      refine .nil ?_
      refine ks_n ?_
      refine ACode.ret ?_
      refine kb_r ?_
      refine ks_r ?_
      refine kf_ret rfl ?_ nobox
      rw [foldN, if_neg (by rw [h37]; decide), if_neg (by rw [h52]; decide), if_pos h68]; rfl
     ·try simp only [zs1, zs2, zs3, zs4, zs5, zs6, zs7] at h68
      refine ACode.seq ?_
      refine ACode.cut [(.t 1, .v (.o (.c (.ptr (rX e))))), (.t 2, .v (.o (.c (.box 950 7 0 0)))), (.t 3, .v (.o (.c (.box 951 7 0 0)))), (.t 4, .v (.o (.c (.box 952 7 0 0)))), (.t 84, .v (.o (bo1 ((decide (e.k = 6) && (isN X 0 || isN Y 0)))))), (.b 950, .b 31 7 [[.d (dI 0), .d (dI 0), .d (.val (.slice none 0 0)), .d (dI 0), .d (dS ByteArray.empty), .d (.val (.slice none 0 0)), .d (.val (.slice none 0 0))]]), (.u 950, .u), (.b 951, .b 31 7 (dR ([rX X]))), (.u 951, .u), (.b 952, .b 31 7 (dR ([rX Y]))), (.u 952, .u)] ?_ ?_
      ·skip
       refine ACode.region ?_
       refine .cons (.fP 0 0 false rfl rfl) ?_
       refine .cons (.l1 1 rfl rfl) ?_
       refine .cons (.eq rfl rfl rfl) ?_
       refine .cons (.mv rfl rfl) ?_
       refine .cD 88 rfl (fun g88 => ?_) (fun g88 => ?_)
       ·skip
        refine .cons (.gT rfl rfl rfl (.bN 7 rfl rfl rfl rfl rfl rfl)) ?_
        refine .cons (.gT rfl rfl rfl (.cP [.tmp 89, .const (.int .i64 (0))] rfl rfl rfl rfl (l13Is_fn _ 0) rfl)) ?_
        refine .cons (.gT rfl rfl rfl (.mv rfl rfl)) ?_
        refine AOps.cases 91 _ rfl (fun g91 => ?_) (fun g91 => ?_)
        ·try simp only [zs1, zs2, zs3, zs4, zs5, zs6, zs7] at g91
         refine .cons (.gF rfl rfl rfl) ?_
         refine .cons (.gF rfl rfl rfl) ?_
         refine .cons (.gT rfl rfl rfl (.pT rfl rfl rfl)) ?_
         refine .cons (.pT rfl rfl rfl) ?_
         refine .cons (.asg rfl rfl) ?_
         refine .nil ?_
         exact kc_n (Wk.keep [(950, 920), (951, 921), (952, 922)] rfl rfl ⟨ks rfl .dt, ks rfl (.c .bx), ks rfl (.c .bx), ks rfl (.c .bx), ks rfl (.dt (vB (by first | rfl | (simp [*]; done) | grind))), kb 920 rfl (.cons (.cons .dt (.cons .dt (.cons .dt (.cons .dt (.cons .dt (.cons .dt (.cons .dt Ctos.nil))))))) .nil), kb 921 rfl (.dt rfl), kb 922 rfl (.dt rfl), trivial⟩)
        ·try simp only [zs1, zs2, zs3, zs4, zs5, zs6, zs7] at g91
         refine .cons (.gT rfl rfl rfl (.bN 7 rfl rfl rfl rfl rfl rfl)) ?_
         refine .cons (.gT rfl rfl rfl (.cP [.tmp 92, .const (.int .i64 (0))] rfl rfl rfl rfl (l13Is_fn _ 0) rfl)) ?_
         refine .cons (.gT rfl rfl rfl (.pF rfl rfl rfl)) ?_
         refine .cons (.pT rfl rfl rfl) ?_
         refine .cons (.asg rfl rfl) ?_
         refine .nil ?_
         exact kc_n (Wk.keep [(950, 920), (951, 921), (952, 922)] rfl rfl ⟨ks rfl .dt, ks rfl (.c .bx), ks rfl (.c .bx), ks rfl (.c .bx), ks rfl (.dt (vB (by first | rfl | (simp [*]; done) | grind))), kb 920 rfl (.cons (.cons .dt (.cons .dt (.cons .dt (.cons .dt (.cons .dt (.cons .dt (.cons .dt Ctos.nil))))))) .nil), kb 921 rfl (.dt rfl), kb 922 rfl (.dt rfl), trivial⟩)
       ·skip
        refine .cons (.gF rfl rfl rfl) ?_
        refine .cons (.gF rfl rfl rfl) ?_
        refine .cons (.gF rfl rfl rfl) ?_
        refine .cons (.gU rfl rfl) ?_
        refine .cons (.gU rfl rfl) ?_
        refine .cons (.gF rfl rfl rfl) ?_
        refine .cons (.pF rfl rfl rfl) ?_
        refine .cons (.asg rfl rfl) ?_
        refine .nil ?_
        exact kc_n (Wk.keep [(950, 920), (951, 921), (952, 922)] rfl rfl ⟨ks rfl .dt, ks rfl (.c .bx), ks rfl (.c .bx), ks rfl (.c .bx), ks rfl (.dt (vB (by first | rfl | (simp [*]; done) | grind))), kb 920 rfl (.cons (.cons .dt (.cons .dt (.cons .dt (.cons .dt (.cons .dt (.cons .dt (.cons .dt Ctos.nil))))))) .nil), kb 921 rfl (.dt rfl), kb 922 rfl (.dt rfl), trivial⟩)
      refine ks_n ?_
      refine ACode.condT rfl (fun h84 => ?_) (fun h84 => ?_)
      ·try simp only [zs1, zs2, zs3, zs4, zs5, zs6, zs7] at h84
       refine ACode.seq ?_
       refine ACode.region ?_
       refine .cons (.cP [.const (.int .i64 (0))] rfl rfl rfl rfl (l13Num_fn 0) rfl) ?_
       refine .cons (.sT 7 true rfl rfl rfl rfl rfl rfl rfl) ?_
       refine .nil ?_
       refine ks_n ?_
       refine ACode.ret ?_
       refine kb_r ?_
       refine ks_r ?_
       refine kf_ret rfl ?_ nobox
       rw [foldN, if_neg (by rw [h37]; decide), if_neg (by rw [h52]; decide), if_neg (by rw [h68]; decide), if_pos h84]; rfl
      ·try simp only [zs1, zs2, zs3, zs4, zs5, zs6, zs7] at h84
       refine ACode.skip ?_
       refine kb_n ?_
       refine ks_n ?_
       refine ACode.seq ?_
       refine ACode.region ?_
       refine .cons (.lN 7 rfl rfl rfl) ?_
       refine .cons (.sT 7 true rfl rfl rfl rfl rfl rfl rfl) ?_
       refine .nil ?_
       refine ks_n ?_
       refine ACode.ret ?_
       refine kf_ret rfl ?_ nobox
       rw [foldN, if_neg (by rw [h37]; decide), if_neg (by rw [h52]; decide), if_neg (by rw [h68]; decide), if_neg (by rw [h84]; decide)]; rfl

set_option maxRecDepth 100000 in
set_option maxHeartbeats 1600000 in
theorem l13Fold_one {e : Ex} (hi : e.i.1.length ≤ 1073741824) (hr : e.r.2.length ≤ 1073741824) (hq : ∀ x ∈ e.r.2, x.1.length ≤ 1073741824) (hk : e.ks.length ≤ 1073741824) (ih : ∀ x ∈ e.ks, Fn Tryz.prog 31 [] [ad (rX x)] (.o (ad (rX (foldE x)))) []) (hnd : Fn Tryz.prog 54 [] [ad (rX (.mk e.k e.n e.i e.r (e.ks.map foldE) : Ex))] (.o (ad (rX (foldE e)))) []) : Fn Tryz.prog 31 [] [ad (rX e)] (.o (ad (rX (foldE e)))) [] := by
 refine Fn.code0 Tryz.func31 rfl rfl rfl rfl ?_
 refine ACode.seq ?_
 refine ACode.region ?_
 refine .cons (St1.boxP rfl rfl rfl rfl rfl rfl) ?_
 refine .cons (.al 102 [.int .i64 0, .int .i64 0, .slice none 0 0, .int .i64 0, .string ByteArray.empty, .slice none 0 0, .slice none 0 0] rfl rfl rfl) ?_
 refine .nil ?_
 refine ks_n ?_
 refine ACode.seq ?_
 refine ACode.drawK (by kernel_rfl) (by kernel_rfl) ?_
 refine .cons (.fP 0 0 false rfl rfl) ?_
 refine .cons (.l1 1 rfl rfl) ?_
 refine .cons (.fP 1 0 false rfl rfl) ?_
 refine .cons (.l1 1 rfl rfl) ?_
 refine .cons (.fP 2 1 true rfl rfl) ?_
 refine .cons (.lN 2 rfl rfl rfl) ?_
 refine .cons (.cP [.tmp 10] rfl rfl rfl rfl (l3CopyAff_fn hi) rfl) ?_
 refine .cons (.fP 4 1 true rfl rfl) ?_
 refine .cons (.lN 2 rfl rfl rfl) ?_
 refine .cons (.cP [.tmp 13] rfl rfl rfl rfl (l3CopyAcc_fn e.r hr hq) rfl) ?_
 refine .cons (.bu [(0, .tmp 6), (1, .tmp 8), (2, .tmp 11), (3, .tmp 14)] [(0, 1), (1, 1), (2, 2), (4, 2), (6, 1)] [.int .i64 0, .int .i64 0, .slice none 0 0, .int .i64 0, .string ByteArray.empty, .slice none 0 0, .slice none 0 0] rfl rfl rfl rfl rfl) ?_
 refine .cons (.al 103 [.int .i64 0, .int .i64 0, .slice none 0 0, .int .i64 0, .string ByteArray.empty, .slice none 0 0, .slice none 0 0] rfl rfl rfl) ?_
 refine .cons (.sT 7 true rfl rfl rfl rfl rfl rfl rfl) ?_
 refine .nil ⟨by kernel_rfl, ?_⟩
 refine ks_n ?_
 refine ACode.seq ?_
 refine ACode.seq ?_
 refine ACode.region ?_
 refine .cons (.asg rfl rfl) ?_
 refine .nil ?_
 refine ks_n ?_
 refine ACode.block ?_
 refine .loopK (fun m σ => (∃ i : Nat, m = e.ks.length - i ∧ (i = 0) ∧ σ = [(.t 1, .v (.o (.c (.ptr (rX e))))), (.t 2, .v (.o (.c (.box 110 7 0 0)))), (.t 3, .v (.o (.c (.box 111 7 0 0)))), (.t 4, .v (.o (nat1 (i : Nat)))), (.b 110, .b 31 7 [[.d (dI 0), .d (dI 0), .d (.val (.slice none 0 0)), .d (dI 0), .d (dS ByteArray.empty), .d (.val (.slice none 0 0)), .d (.val (.slice none 0 0))]]), (.u 110, .u), (.b 111, .b 31 7 [[.d (dI e.k), .d (dI e.n), .d (dIs e.i.1), .d (dI e.i.2), .d (dS e.r.1), .d (dAs e.r.2), .d (.val (.slice none 0 0))]]), (.u 111, .u)]) ∨ (∃ i : Nat, m = e.ks.length - i ∧ (1 ≤ i) ∧ (i ≤ e.ks.length) ∧ σ = [(.t 1, .v (.o (.c (.ptr (rX e))))), (.t 2, .v (.o (.c (.box 110 7 0 0)))), (.t 3, .v (.o (.c (.box 111 7 0 0)))), (.t 4, .v (.o (nat1 (i : Nat)))), (.b 110, .b 31 7 [[.d (dI 0), .d (dI 0), .d (.val (.slice none 0 0)), .d (dI 0), .d (dS ByteArray.empty), .d (.val (.slice none 0 0)), .d (.val (.slice none 0 0))]]), (.u 110, .u), (.b 112, .b 31 7 (dR ((e.ks.take i).map fun x => rX (foldE x)))), (.u 112, .u), (.b 111, .b 31 7 [[.d (dI e.k), .d (dI e.n), .d (dIs e.i.1), .d (dI e.i.2), .d (dS e.r.1), .d (dAs e.r.2), .own 112 7 (i)]]), (.u 111, .u)])) [(110, 102), (111, 103)] (.inl ⟨0, rfl, rfl, rfl⟩) ⟨ks rfl .dt, ks rfl (.c .bx), ks rfl (.c .bx), ks rfl .dt, kb 102 rfl (.cons (.cons .dt (.cons .dt (.cons .dt (.cons .dt (.cons .dt (.cons .dt (.cons .dt Ctos.nil))))))) .nil), kb 103 rfl (.cons (.cons .dt (.cons .dt (.cons .dt (.cons .dt (.cons .dt (.cons .dt (.cons .dt Ctos.nil))))))) .nil), trivial⟩ ?_
 rintro m σ (⟨i, hm0, rfl, rfl⟩ | ⟨i, hm0, hi1, hi2, rfl⟩)
 ·skip
  refine ACode.seq ?_
  refine ACode.seq ?_
  refine ACode.region ?_
  refine .cons (.mv rfl rfl) ?_
  refine .cons (.fP 6 0 false rfl rfl) ?_
  refine .cons (.l1 1 rfl rfl) ?_
  refine .cons (.ln 31 7 112 rfl rfl rfl) ?_
  refine .cons (.ls rfl rfl rfl) ?_
  refine .nil ?_
  refine ks_n ?_
  refine .cD rfl (fun h20 => ?_) (fun h20 => ?_)
  ·skip
   obtain ⟨x, hx1⟩ : ∃ x, e.ks[0]? = some x := ⟨_, List.getElem?_eq_getElem (by omega)⟩
   refine ACode.skip ?_
   refine ks_n ?_
   refine ACode.seq ?_
   refine ACode.block ?_
   refine ACode.drawK (by kernel_rfl) (by kernel_rfl) ?_
   refine .cons (.fB 6 0 false rfl rfl rfl) ?_
   refine .cons (.b1 1 rfl rfl rfl rfl rfl rfl) ?_
   refine .cons (.fP 6 0 false rfl rfl) ?_
   refine .cons (.l1 1 rfl rfl) ?_
   refine .cons (.mv rfl rfl) ?_
   refine .cons (.xL 31 7 112 rfl rfl rfl rfl rfl (rE_at hx1)) ?_
   refine .cons (.lN 7 rfl rfl rfl) ?_
   refine .cons (.cP [.tmp 29] rfl rfl rfl rfl (ih x (List.mem_of_getElem? hx1)) rfl) ?_
   refine .cons (.li 31 6 0 [.tmp 30] rfl rfl rfl rfl rfl rfl) ?_
   refine .cons (St1.appN (k' := 132) (e := 31) (sz := 6) (by' := 112) rfl rfl rfl rfl rfl (by kernel_rfl) rfl rfl rfl (by simp) (by first | (simp [dR]; done) | (simp [dR]; omega)) rfl rfl) ?_
   refine .cons (.fB 6 0 false rfl rfl rfl) ?_
   refine .cons (.sT 1 false rfl rfl rfl rfl rfl rfl rfl) ?_
   refine .nil ⟨by kernel_rfl, ?_⟩
   refine kb_n ?_
   refine ks_n ?_
   refine ACode.region ?_
   refine .cons (.mv rfl rfl) ?_
   refine .cons (.pl rfl rfl rfl) ?_
   refine .cons (.asg rfl rfl) ?_
   refine .nil ?_
   refine kl_k [(110, 110), (111, 111), (112, 132)] (.inr ⟨1, rfl, by omega, by omega, rfl⟩) ⟨ks rfl .dt, ks rfl (.c .bx), ks rfl (.c .bx), ks rfl .dt, kb 110 rfl (.cons (.cons .dt (.cons .dt (.cons .dt (.cons .dt (.cons .dt (.cons .dt (.cons .dt Ctos.nil))))))) .nil), kb 132 rfl (.dt rfl (by first | exact dR_take (fun x => rX (foldE x)) hx1 | exact dR_take1 (fun x => rX (foldE x)) hx1 | rfl | (simp [dR]; done))), kb 111 rfl (.cons (.cons .dt (.cons .dt (.cons .dt (.cons .dt (.cons .dt (.cons .dt (.cons .ow Ctos.nil))))))) .nil), trivial⟩
  ·skip
   have hn : e.ks = [] := List.eq_nil_of_length_eq_zero (by omega)
   refine ACode.exit ?_
   refine ks_e ?_
   refine kl_e ?_
   refine kb_hit ?_
   refine ks_n ?_
   refine ACode.seq ?_
   refine .keep [(.t 1, .v (.o (.c (.ptr (rX e))))), (.t 2, .v (.o (.c (.box 760 7 0 0)))), (.t 3, .v (.o (.c (.box 761 7 0 0)))), (.b 760, .b 31 7 [[.d (dI 0), .d (dI 0), .d (.val (.slice none 0 0)), .d (dI 0), .d (dS ByteArray.empty), .d (.val (.slice none 0 0)), .d (.val (.slice none 0 0))]]), (.u 760, .u), (.b 761, .b 31 7 [[.d (dI e.k), .d (dI e.n), .d (dIs e.i.1), .d (dI e.i.2), .d (dS e.r.1), .d (dAs e.r.2), .d (dEs (e.ks.map foldE))]]), (.u 761, .u)] [(760, 110), (761, 111)] ⟨ks rfl .dt, ks rfl (.c .bx), ks rfl (.c .bx), kb 110 rfl (.cons (.cons .dt (.cons .dt (.cons .dt (.cons .dt (.cons .dt (.cons .dt (.cons .dt Ctos.nil))))))) .nil), kb 111 rfl (.cons (.cons .dt (.cons .dt (.cons .dt (.cons .dt (.cons .dt (.cons .dt (.cons (Cto.nilE 7 (by rw [hn]; rfl)) Ctos.nil))))))) .nil), trivial⟩ ?_
   refine ACode.region ?_
   refine .cons (.bN 7 rfl rfl rfl rfl rfl rfl) ?_
   refine .cons (.cP [.tmp 34] rfl rfl rfl rfl (hnd) rfl) ?_
   refine .cons (.sT 7 true rfl rfl rfl rfl rfl rfl rfl) ?_
   refine .nil ?_
   refine ks_n ?_
   refine ACode.ret ?_
   refine kf_ret rfl ?_ nobox
   rfl
 ·skip
  refine ACode.seq ?_
  refine ACode.seq ?_
  refine ACode.region ?_
  refine .cons (.mv rfl rfl) ?_
  refine .cons (.fP 6 0 false rfl rfl) ?_
  refine .cons (.l1 1 rfl rfl) ?_
  refine .cons (.ln 31 7 112 rfl rfl rfl) ?_
  refine .cons (.ls rfl rfl rfl) ?_
  refine .nil ?_
  refine ks_n ?_
  refine .cD rfl (fun h20 => ?_) (fun h20 => ?_)
  ·skip
   obtain ⟨x, hx1⟩ : ∃ x, e.ks[i]? = some x := ⟨_, List.getElem?_eq_getElem (by omega)⟩
   refine ACode.skip ?_
   refine ks_n ?_
   refine ACode.seq ?_
   refine ACode.block ?_
   refine ACode.drawK (by kernel_rfl) (by kernel_rfl) ?_
   refine .cons (.fB 6 0 false rfl rfl rfl) ?_
   refine .cons (.b1 1 rfl rfl rfl rfl rfl rfl) ?_
   refine .cons (.fP 6 0 false rfl rfl) ?_
   refine .cons (.l1 1 rfl rfl) ?_
   refine .cons (.mv rfl rfl) ?_
   refine .cons (.xL 31 7 112 rfl rfl rfl rfl rfl (rE_at hx1)) ?_
   refine .cons (.lN 7 rfl rfl rfl) ?_
   refine .cons (.cP [.tmp 29] rfl rfl rfl rfl (ih x (List.mem_of_getElem? hx1)) rfl) ?_
   refine .cons (.li 31 6 0 [.tmp 30] rfl rfl rfl rfl rfl rfl) ?_
   refine .cons (St1.appB (k' := 132) (e := 31) (sz := 6) (by' := 112) rfl rfl rfl rfl rfl (by kernel_rfl) rfl rfl rfl rfl (by first | (simp [dR]; done) | (simp [dR]; omega)) (by first | (simp [dR]; done) | (simp [dR]; omega)) rfl rfl rfl) ?_
   refine .cons (.fB 6 0 false rfl rfl rfl) ?_
   refine .cons (.sT 1 false rfl rfl rfl rfl rfl rfl rfl) ?_
   refine .nil ⟨by kernel_rfl, ?_⟩
   refine kb_n ?_
   refine ks_n ?_
   refine ACode.region ?_
   refine .cons (.mv rfl rfl) ?_
   refine .cons (.pl rfl rfl rfl) ?_
   refine .cons (.asg rfl rfl) ?_
   refine .nil ?_
   refine kl_k [(110, 110), (111, 111), (112, 132)] (.inr ⟨i + 1, rfl, by omega, by omega, rfl⟩) ⟨ks rfl .dt, ks rfl (.c .bx), ks rfl (.c .bx), ks rfl .dt, kb 110 rfl (.cons (.cons .dt (.cons .dt (.cons .dt (.cons .dt (.cons .dt (.cons .dt (.cons .dt Ctos.nil))))))) .nil), kb 132 rfl (.dt rfl (by first | exact dR_take (fun x => rX (foldE x)) hx1 | exact dR_take1 (fun x => rX (foldE x)) hx1 | rfl | (simp [dR]; done))), kb 111 rfl (.cons (.cons .dt (.cons .dt (.cons .dt (.cons .dt (.cons .dt (.cons .dt (.cons .ow Ctos.nil))))))) .nil), trivial⟩
  ·skip
   obtain rfl : i = e.ks.length := by omega
   refine ACode.exit ?_
   refine ks_e ?_
   refine kl_e ?_
   refine kb_hit ?_
   refine ks_n ?_
   refine ACode.seq ?_
   refine .keep [(.t 1, .v (.o (.c (.ptr (rX e))))), (.t 2, .v (.o (.c (.box 760 7 0 0)))), (.t 3, .v (.o (.c (.box 761 7 0 0)))), (.b 760, .b 31 7 [[.d (dI 0), .d (dI 0), .d (.val (.slice none 0 0)), .d (dI 0), .d (dS ByteArray.empty), .d (.val (.slice none 0 0)), .d (.val (.slice none 0 0))]]), (.u 760, .u), (.b 761, .b 31 7 [[.d (dI e.k), .d (dI e.n), .d (dIs e.i.1), .d (dI e.i.2), .d (dS e.r.1), .d (dAs e.r.2), .d (dEs (e.ks.map foldE))]]), (.u 761, .u)] [(760, 110), (761, 111)] ⟨ks rfl .dt, ks rfl (.c .bx), ks rfl (.c .bx), kb 110 rfl (.cons (.cons .dt (.cons .dt (.cons .dt (.cons .dt (.cons .dt (.cons .dt (.cons .dt Ctos.nil))))))) .nil), kb 111 rfl (.cons (.cons .dt (.cons .dt (.cons .dt (.cons .dt (.cons .dt (.cons .dt (.cons (.fz rfl (by first | rfl | exact dR_ex foldE _ | (rw [List.take_length]; done)) (by first | rfl | (simp; done) | (simp; omega)) (by omega)) Ctos.nil))))))) .nil), trivial⟩ ?_
   refine ACode.region ?_
   refine .cons (.bN 7 rfl rfl rfl rfl rfl rfl) ?_
   refine .cons (.cP [.tmp 34] rfl rfl rfl rfl (hnd) rfl) ?_
   refine .cons (.sT 7 true rfl rfl rfl rfl rfl rfl rfl) ?_
   refine .nil ?_
   refine ks_n ?_
   refine ACode.ret ?_
   refine kf_ret rfl ?_ nobox
   rfl

theorem mk_op {d L : Nat} {e X Y : Ex} (h : exV d L e = true) (hk : 4 ≤ e.k ∧ e.k ≤ 6) : (.mk e.k e.n e.i e.r [X, Y] : Ex) = outE e.k X Y := by
  cases L with
  | zero => cases h
  | succ L =>
    rw [exV, Bool.and_eq_true, Bool.and_eq_true] at h
    have h1 := h.1.2
    rw [fldV, if_neg (by omega), if_neg (by omega), if_neg (by omega), Bool.and_eq_true, Bool.and_eq_true, decide_eq_true_eq] at h1
    rw [h1.1.1, nonA_iff.1 h1.1.2, nonC_iff.1 h1.2]; rfl
theorem l13Fold_fn {d : Nat} : ∀ {L : Nat} (e : Ex), szE e ≤ 1073741824 → exV d L e = true → Fn Tryz.prog 31 [] [ad (rX e)] (.o (ad (rX (foldE e)))) []
  | 0, e, _, h => by cases h
  | L + 1, e, hs, h => by
    have hs2 := hs
    rw [szE_eq, szC] at hs2
    have := szAs_len e.r.2
    refine l13Fold_one (by omega) (by omega) (fun x hx => by have := szAs_mem hx; omega) (by omega) (fun x hx => l13Fold_fn (L := L) x (by have := szEs_mem hx; omega) ((exV_kids h).2 x hx)) ?_
    by_cases hk : 4 ≤ e.k ∧ e.k ≤ 6
    · obtain ⟨x, y, hks⟩ := op_two h hk
      have b1 := exV_n (fold_ok ((exV_kids h).2 x (by rw [hks]; simp)))
      have b2 := exV_n (fold_ok ((exV_kids h).2 y (by rw [hks]; simp)))
      rw [foldE_op hk hks, hks, List.map_cons, List.map_cons, List.map_nil, mk_op h hk]
      exact node_op hk rfl (by omega) (by omega)
    · have hks : e.ks = [] := by
        have := mt (op_kids h).2 hk
        exact List.eq_nil_of_length_eq_zero (by omega)
      have hE : (.mk e.k e.n e.i e.r [] : Ex) = e := by rw [← hks, Ex.eta]
      rw [foldE_leaf hk, hks, List.map_nil, hE]
      exact node_leaf hks

set_option maxRecDepth 100000 in
set_option maxHeartbeats 1600000 in
theorem specFold_fn (s : Stm) (hs : szS s ≤ 1073741824) : Fn Tryz.prog 12 [] [ad (rS s)] (.tup [ad (rS (foldT s).1), bo1 (foldT s).2]) [] := by
 have hs2 := hs
 rw [szS, szC] at hs2
 have := szAs_len s.1.2
 refine Fn.code0 Tryz.func12 rfl rfl rfl rfl ?_
 refine ACode.seq ?_
 refine ACode.region ?_
 refine .cons (St1.boxP rfl rfl rfl rfl rfl rfl) ?_
 refine .cons (.al 102 [.string ByteArray.empty, .slice none 0 0, .int .i64 0, .int .i64 0, .slice none 0 0, .int .i64 0, .string ByteArray.empty, .slice none 0 0, .slice none 0 0] rfl rfl rfl) ?_
 refine .cons (.asg rfl rfl) ?_
 refine .nil ?_
 refine ks_n ?_
 refine ACode.seq ?_
 refine ACode.seq ?_
 refine ACode.region ?_
 refine .cons (.lN 9 rfl rfl rfl) ?_
 refine .cons (.cP [.tmp 4, .const (.int .i64 (4))] rfl rfl rfl rfl (specStmtV_fn 4 s (by omega)) rfl) ?_
 refine .cons (.nt rfl rfl) ?_
 refine .nil ?_
 refine ks_n ?_
 refine ACode.condT rfl (fun h6 => ?_) (fun h6 => ?_)
 ·try simp only [zs1, zs2, zs3, zs4, zs5, zs6, zs7] at h6
  refine ACode.seq ?_
  refine ACode.region ?_
  refine .cons (.bu [] [(0, 2), (2, 7)] [.string ByteArray.empty, .slice none 0 0, .int .i64 0, .int .i64 0, .slice none 0 0, .int .i64 0, .string ByteArray.empty, .slice none 0 0, .slice none 0 0] rfl rfl rfl rfl rfl) ?_
  refine .cons (.sT 9 true rfl rfl rfl rfl rfl rfl rfl) ?_
  refine .cons (.asg rfl rfl) ?_
  refine .nil ?_
  refine ks_n ?_
  refine ACode.ret ?_
  refine ks_r ?_
  refine kf_wret [(.t 2, .v (.o (.c (.box 100 9 0 0)))), (.t 3, .v (.o (bo1 false))), (.b 100, .b 33 9 [[.d (dS ByteArray.empty), .d (dAs []), .d (dI 0), .d (dI 0), .d (dIs []), .d (dI 0), .d (dS ByteArray.empty), .d (dAs []), .d (dEs [])]]), (.u 100, .u)] (Wk.keep [(100, 102)] rfl rfl ⟨ks rfl (.c .bx), ks rfl .dt, kb 102 rfl (.cons (.cons .dt (.cons (Cto.nil _) (.cons .dt (.cons .dt (.cons (Cto.nil _) (.cons .dt (.cons .dt (.cons (Cto.nil _) (.cons (Cto.nil _) Ctos.nil))))))))) .nil), trivial⟩) rfl ?_ nobox
  rw [foldT_no h6]; rfl
 ·try simp only [zs1, zs2, zs3, zs4, zs5, zs6, zs7] at h6
  refine ACode.skip ?_
  refine ks_n ?_
  refine ACode.seq ?_
  refine ACode.drawK (by kernel_rfl) (by kernel_rfl) ?_
  refine .cons (.fP 0 1 true rfl rfl) ?_
  refine .cons (.lN 2 rfl rfl rfl) ?_
  refine .cons (.cP [.tmp 9] rfl rfl rfl rfl (l3CopyAcc_fn s.1 (by omega) (fun x hx => by have := szAs_mem hx; omega)) rfl) ?_
  refine .cons (.fP 2 6 true rfl rfl) ?_
  refine .cons (.lN 7 rfl rfl rfl) ?_
  refine .cons (.cP [.tmp 12] rfl rfl rfl rfl (l13Fold_fn (d := 4) (L := 5) s.2 (by omega) (stmtV_ex h6).1) rfl) ?_
  refine .cons (.bu [(0, .tmp 10), (1, .tmp 13)] [(0, 2), (2, 7)] [.string ByteArray.empty, .slice none 0 0, .int .i64 0, .int .i64 0, .slice none 0 0, .int .i64 0, .string ByteArray.empty, .slice none 0 0, .slice none 0 0] rfl rfl rfl rfl rfl) ?_
  refine .cons (.sT 9 true rfl rfl rfl rfl rfl rfl rfl) ?_
  refine .cons (.asg rfl rfl) ?_
  refine .nil ⟨by kernel_rfl, ?_⟩
  refine ks_n ?_
  refine ACode.ret ?_
  refine kf_ret rfl ?_ nobox
  rw [foldT_yes h6]; rfl

set_option maxRecDepth 100000 in
set_option maxHeartbeats 1600000 in
theorem specConst_fn (s : Stm) (hs : szS s ≤ 1073741824) : Fn Tryz.prog 6 [] [ad (rS s)] (.tup [nat1 (cstT s).1, bo1 (cstT s).2]) [] := by
 obtain ⟨r, hr⟩ : ∃ r, r = foldT s := ⟨_, rfl⟩
 have hc : cstT s = if (r.2 && decide (r.1.2.k = 1)) = true then (r.1.2.n, true) else (0, false) := by
  rw [hr, cstT, foldT]
  cases stmtV 4 s <;> rfl
 have hF := specFold_fn s hs
 rw [← hr] at hF
 clear hr
 refine Fn.code0 Tryz.func6 rfl rfl rfl rfl ?_
 refine ACode.seq ?_
 refine ACode.region ?_
 refine .cons (St1.boxP rfl rfl rfl rfl rfl rfl) ?_
 refine .cons (.asg rfl rfl) ?_
 refine .cons (.asg rfl rfl) ?_
 refine .nil ?_
 refine ks_n ?_
 refine ACode.seq ?_
 refine ACode.region ?_
 refine .cons (.lN 9 rfl rfl rfl) ?_
 refine .cons (.cP [.tmp 7] rfl rfl rfl rfl (hF) rfl) ?_
 refine .cons (.mv rfl rfl) ?_
 refine .cons (.ex rfl rfl rfl) ?_
 refine .cons (.ex rfl rfl rfl) ?_
 refine .cons (.al 104 [.string ByteArray.empty, .slice none 0 0, .int .i64 0, .int .i64 0, .slice none 0 0, .int .i64 0, .string ByteArray.empty, .slice none 0 0, .slice none 0 0] rfl rfl rfl) ?_
 refine .cons (.sT 9 true rfl rfl rfl rfl rfl rfl rfl) ?_
 refine .cons (.asg rfl rfl) ?_
 refine .nil ?_
 refine ks_n ?_
 refine ACode.seq ?_
 refine ACode.seq ?_
 refine ACode.region ?_
 refine .cons (.mv rfl rfl) ?_
 refine .cons (.nt rfl rfl) ?_
 refine .cons (.mv rfl rfl) ?_
 refine AOps.cases 13 _ rfl (fun g13 => ?_) (fun g13 => ?_)
 ·try simp only [zs1, zs2, zs3, zs4, zs5, zs6, zs7] at g13
  refine .cons (.gF rfl rfl rfl) ?_
  refine .cons (.gF rfl rfl rfl) ?_
  refine .cons (.gF rfl rfl rfl) ?_
  refine .cons (.gF rfl rfl rfl) ?_
  refine .cons (.pT rfl rfl rfl) ?_
  refine .nil ?_
  refine ks_n ?_
  refine ACode.condT rfl (fun _ => ?_) (fun h => by first | (cases h; done) | (simp [*] at h; done) | (exfalso; simp_all; done))
  refine ACode.seq ?_
  refine ACode.region ?_
  refine .cons (.asg rfl rfl) ?_
  refine .cons (.asg rfl rfl) ?_
  refine .nil ?_
  refine ks_n ?_
  refine ACode.ret ?_
  refine ks_r ?_
  refine kf_ret rfl ?_ nobox
  rw [hc]; first | (rw [if_neg (by simp [*])]; rfl) | (rw [if_pos (by simp [*])]; rfl)
 ·try simp only [zs1, zs2, zs3, zs4, zs5, zs6, zs7] at g13
  refine .cons (.gT rfl rfl rfl (.fB 2 6 true rfl rfl rfl)) ?_
  refine .cons (.gT rfl rfl rfl (.fB 0 0 false rfl rfl rfl)) ?_
  refine .cons (.gT rfl rfl rfl (.b1 1 rfl rfl rfl rfl rfl rfl)) ?_
  refine .cons (.gT rfl rfl rfl (.ne rfl rfl rfl)) ?_
  refine .cons (.pF rfl rfl rfl) ?_
  refine .nil ?_
  refine ks_n ?_
  refine ACode.condT rfl (fun h18 => ?_) (fun h18 => ?_)
  ·try simp only [zs1, zs2, zs3, zs4, zs5, zs6, zs7] at h18
   refine ACode.seq ?_
   refine ACode.region ?_
   refine .cons (.asg rfl rfl) ?_
   refine .cons (.asg rfl rfl) ?_
   refine .nil ?_
   refine ks_n ?_
   refine ACode.ret ?_
   refine ks_r ?_
   refine kf_ret rfl ?_ nobox
   rw [hc]; first | (rw [if_neg (by simp [*])]; rfl) | (rw [if_pos (by simp [*])]; rfl)
  ·try simp only [zs1, zs2, zs3, zs4, zs5, zs6, zs7] at h18
   refine ACode.skip ?_
   refine ks_n ?_
   refine ACode.seq ?_
   refine ACode.region ?_
   refine .cons (.fB 2 6 true rfl rfl rfl) ?_
   refine .cons (.fB 1 0 false rfl rfl rfl) ?_
   refine .cons (.b1 1 rfl rfl rfl rfl rfl rfl) ?_
   refine .cons (.asg rfl rfl) ?_
   refine .cons (.asg rfl rfl) ?_
   refine .nil ?_
   refine ks_n ?_
   refine ACode.ret ?_
   refine kf_ret rfl ?_ nobox
   rw [hc]; first | (rw [if_neg (by simp [*])]; rfl) | (rw [if_pos (by simp [*])]; rfl)

end Go.Proofs.YtcbfklmoeofoiaaGreat
