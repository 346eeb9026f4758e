/- Part 5 of 5 of the proof: laws on memory and data, then what the functions compute, in the order in which they build on each other; conditions: those that each theorem names. -/
import Derived.Test.YtigdfdhjnadieaaP4

/- Statements at a point, of the program; condition: small lists. -/
namespace Go.Proofs.Ytigdfdhjnadieaa
set_option linter.unusedVariables false
set_option linter.unusedSimpArgs false
open Go.RowKit

set_option maxRecDepth 100000 in
set_option maxHeartbeats 1600000 in
theorem isConst_fn (n : Int) : Fn Try.prog 84 [] [nat1 n] (.o (bo1 (inB n (-99) 99))) [] := by
  refine Fn.code0 Try.func84 rfl rfl rfl rfl ?_
  refine ACode.seq ?_
  refine ACode.region ?_
  refine .cons (.asg rfl rfl) ?_
  refine .nil ?_
  refine ks_n ?_
  refine ACode.seq ?_
  refine ACode.region ?_
  refine .cons (.mv rfl rfl) ?_
  refine .cons (.cP [.tmp 3, .const (.int .i64 (-99)), .const (.int .i64 (99))] rfl rfl rfl rfl (within_fn n (-99) 99) rfl) ?_
  refine .cons (.asg rfl rfl) ?_
  refine .nil ?_
  refine ks_n ?_
  refine ACode.ret ?_
  refine kf_ret rfl ?_ nobox
  rfl

set_option maxRecDepth 100000 in
set_option maxHeartbeats 1600000 in
theorem point1_fn (n : Int) : Fn Try.prog 89 [] [nat1 n] (.o (bo1 (!inB n (-99) 99))) [] := by
  refine Fn.code0 Try.func89 rfl rfl rfl rfl ?_
  refine ACode.seq ?_
  refine ACode.region ?_
  refine .cons (.asg rfl rfl) ?_
  refine .nil ?_
  refine ks_n ?_
  refine ACode.seq ?_
  refine ACode.region ?_
  refine .cons (.mv rfl rfl) ?_
  refine .cons (.cP [.tmp 3] rfl rfl rfl rfl (isConst_fn n) rfl) ?_
  refine .cons (.nt rfl rfl) ?_
  refine .cons (.asg rfl rfl) ?_
  refine .nil ?_
  refine ks_n ?_
  refine ACode.ret ?_
  refine kf_ret rfl ?_ nobox
  rfl

set_option maxRecDepth 100000 in
set_option maxHeartbeats 1600000 in
theorem constant_fn (n : Int) : Fn Try.prog 91 [] [nat1 n] (.o (ad (rA ([0, 0, 0, 0], n)))) [] := by
  refine Fn.code0 Try.func91 rfl rfl rfl rfl ?_
  refine ACode.seq ?_
  refine ACode.region ?_
  refine .cons (.al 102 [.slice none 0 0, .int .i64 0] rfl rfl rfl) ?_
  refine .nil ?_
  refine ks_n ?_
  refine ACode.seq ?_
  refine ACode.region ?_
  refine .cons (.mk 103 3 1 8 [.int .i64 0] rfl rfl rfl (m := 4) (by omega) rfl rfl) ?_
  refine .cons (.mv rfl rfl) ?_
  refine .cons (.bu [(0, .tmp 3), (1, .tmp 4)] [(0, 1), (1, 1)] [.slice none 0 0, .int .i64 0] rfl rfl rfl rfl rfl) ?_
  refine .cons (.sT 2 true rfl rfl rfl rfl rfl rfl rfl) ?_
  refine .nil ?_
  refine ks_n ?_
  refine ACode.ret ?_
  refine kf_wret [(.t 2, .v (.o (.c (.box 100 2 0 0)))), (.b 100, .b 28 2 [[.d (dIs [0, 0, 0, 0]), .d (dI n)]]), (.u 100, .u)] (Wk.keep [(100, 102)] rfl rfl ⟨ks rfl (.c .bx), kb 102 rfl (.cons (.cons (.fz rfl rfl rfl (by omega)) (.cons .dt Ctos.nil)) .nil), trivial⟩) rfl ?_ nobox
  rfl

set_option maxRecDepth 100000 in
set_option maxHeartbeats 1600000 in
theorem point2_fn {x : Aff} {p : List Int} (hV : affV x = true) (hS : Small p) (hn : p.length ≤ 4) : Fn Try.prog 90 [] [ad (rA x), .c (.ptr [dIs p])] (.o (ad (rA (ptG p x)))) [] := by
  refine Fn.code0 Try.func90 rfl rfl rfl rfl ?_
  refine ACode.seq ?_
  refine ACode.region ?_
  refine .cons (St1.boxP rfl rfl rfl rfl rfl rfl) ?_
  refine .cons (.al 103 [.slice none 0 0, .int .i64 0] rfl rfl rfl) ?_
  refine .nil ?_
  refine ks_n ?_
  refine ACode.seq ?_
  refine ACode.region ?_
  refine .cons (.lN 2 rfl rfl rfl) ?_
  refine .cons (.l1 1 rfl rfl) ?_
  refine .cons (.cP [.tmp 4, .tmp 5] rfl rfl rfl rfl (eval_fn hV hS hn) rfl) ?_
  refine .cons (.cP [.tmp 6] rfl rfl rfl rfl (constant_fn (affEval x p)) rfl) ?_
  refine .cons (.sT 2 true rfl rfl rfl rfl rfl rfl rfl) ?_
  refine .nil ?_
  refine ks_n ?_
  refine ACode.ret ?_
  refine kf_ret rfl ?_ nobox
  rfl

theorem any_all' {p : List Int} : (!(p.any fun n => !inB n (-99) 99)) = p.all fun n => inB n (-99) 99 := by
  rw [Bool.eq_iff_iff]; simp
set_option maxRecDepth 100000 in
set_option maxHeartbeats 1600000 in
theorem implPoint_fn (s : Stm) (p : List Int) (hs : szS s ≤ 1073741824) (hp : p.length ≤ 1073741824) : Fn Try.prog 37 [] [ad (rS s), vD (dIs p)] (.tup [ad (rS (ptT s p).1), bo1 (ptT s p).2]) [] := by
  refine Fn.code0 Try.func37 rfl rfl rfl rfl ?_
  refine ACode.seq ?_
  refine ACode.region ?_
  refine .cons (St1.boxP rfl rfl rfl rfl rfl rfl) ?_
  refine .cons (St1.boxP rfl rfl rfl rfl rfl rfl) ?_
  refine .cons (.al 104 [.string ByteArray.empty, .slice none 0 0, .int .i64 0, .int .i64 0, .slice none 0 0, .int .i64 0, .string ByteArray.empty, .slice none 0 0, .slice none 0 0] rfl rfl rfl) ?_
  refine .cons (.asg rfl rfl) ?_
  refine .nil ?_
  refine ks_n ?_
  refine ACode.seq ?_
  refine ACode.seq ?_
  refine ACode.cut [(.t 2, .v (.o (.c (.ptr (rS s))))), (.t 3, .v (.o (.c (.ptr [dIs p])))), (.t 4, .v (.o (.c (.box 810 9 0 0)))), (.t 5, .v (.o (bo1 false))), (.t 15, .v (.o (bo1 (!((stmtV (p.length : Nat) s && p.all fun n => inB n (-99) 99)))))), (.b 810, .b 33 9 [[.d (dS ByteArray.empty), .d (.val (.slice none 0 0)), .d (dI 0), .d (dI 0), .d (.val (.slice none 0 0)), .d (dI 0), .d (dS ByteArray.empty), .d (.val (.slice none 0 0)), .d (.val (.slice none 0 0))]]), (.u 810, .u)] ?_ ?_
  · skip
    refine ACode.region ?_
    refine .cons (.lN 9 rfl rfl rfl) ?_
    refine .cons (.l1 1 rfl rfl) ?_
    refine .cons (.ln 3 1 8 rfl rfl rfl) ?_
    refine .cons (.cP [.tmp 7, .tmp 9] rfl rfl rfl rfl (implStmtV_fn (p.length : Nat) s (by omega)) rfl) ?_
    refine .cons (.nt rfl rfl) ?_
    refine .cons (.mv rfl rfl) ?_
    refine AOps.cases 12 _ rfl (fun g12 => ?_) (fun g12 => ?_)
    · try simp only [List.length_map, decide_eq_true_eq, decide_eq_false_iff_not, Bool.not_eq_true', Bool.not_eq_false', Bool.not_eq_true, Bool.not_eq_false] at g12
      refine .cons (.gF rfl rfl rfl) ?_
      refine .cons (.gF rfl rfl rfl) ?_
      refine .cons (.pT rfl rfl rfl) ?_
      refine .nil ?_
      exact kc_n (Wk.keep [(810, 104)] rfl rfl ⟨ks rfl .dt, ks rfl .dt, ks rfl (.c .bx), ks rfl .dt, ks rfl (.dt (vB (by rw [← any_all']; first | (simp [*]; done) | grind))), kb 104 rfl (.cons (.cons .dt (.cons .dt (.cons .dt (.cons .dt (.cons .dt (.cons .dt (.cons .dt (.cons .dt (.cons .dt Ctos.nil))))))))) .nil), trivial⟩)
    · try simp only [List.length_map, decide_eq_true_eq, decide_eq_false_iff_not, Bool.not_eq_true', Bool.not_eq_false', Bool.not_eq_true, Bool.not_eq_false] at g12
      refine .cons (.gT rfl rfl rfl (.l1 1 rfl rfl)) ?_
      refine .cons (.gT rfl rfl rfl (.cP [.tmp 13, .func 89] rfl rfl rfl rfl (cnt_int (f := 89) (cap := []) (by kernel_rfl) (fun n => !inB n (-99) 99) p (by omega) (fun n _ => point1_fn n)) rfl)) ?_
      refine .cons (.pF rfl rfl rfl) ?_
      refine .nil ?_
      exact kc_n (Wk.keep [(810, 104)] rfl rfl ⟨ks rfl .dt, ks rfl .dt, ks rfl (.c .bx), ks rfl .dt, ks rfl (.dt (vB (by rw [← any_all']; first | (simp [*]; done) | grind))), kb 104 rfl (.cons (.cons .dt (.cons .dt (.cons .dt (.cons .dt (.cons .dt (.cons .dt (.cons .dt (.cons .dt (.cons .dt Ctos.nil))))))))) .nil), trivial⟩)
  refine ks_n ?_
  refine ACode.condT rfl (fun h15 => ?_) (fun h15 => ?_)
  · try simp only [List.length_map, decide_eq_true_eq, decide_eq_false_iff_not, Bool.not_eq_true', Bool.not_eq_false', Bool.not_eq_true, Bool.not_eq_false] at h15
    refine ACode.seq ?_
    refine ACode.region ?_
    refine .cons (.bu [] [(0, 2), (2, 7)] [.string ByteArray.empty, .slice none 0 0, .int .i64 0, .int .i64 0, .slice none 0 0, .int .i64 0, .string ByteArray.empty, .slice none 0 0, .slice none 0 0] rfl rfl rfl rfl rfl) ?_
    refine .cons (.sT 9 true rfl rfl rfl rfl rfl rfl rfl) ?_
    refine .cons (.asg rfl rfl) ?_
    refine .nil ?_
    refine ks_n ?_
    refine ACode.ret ?_
    refine ks_r ?_
    refine kf_wret [(.t 4, .v (.o (.c (.box 100 9 0 0)))), (.t 5, .v (.o (bo1 false))), (.b 100, .b 33 9 [[.d (dS ByteArray.empty), .d (dAs []), .d (dI 0), .d (dI 0), .d (dIs []), .d (dI 0), .d (dS ByteArray.empty), .d (dAs []), .d (dEs [])]]), (.u 100, .u)] (Wk.keep [(100, 810)] rfl rfl ⟨ks rfl (.c .bx), ks rfl .dt, kb 810 rfl (.cons (.cons .dt (.cons (Cto.nil _) (.cons .dt (.cons .dt (.cons (Cto.nil _) (.cons .dt (.cons .dt (.cons (Cto.nil _) (.cons (Cto.nil _) Ctos.nil))))))))) .nil), trivial⟩) rfl ?_ nobox
    rw [ptT_no h15]; rfl
  · try simp only [List.length_map, decide_eq_true_eq, decide_eq_false_iff_not, Bool.not_eq_true', Bool.not_eq_false', Bool.not_eq_true, Bool.not_eq_false] at h15
    obtain ⟨hv, ha⟩ : stmtV (p.length : Nat) s = true ∧ (p.all fun n => inB n (-99) 99) = true := by rw [Bool.and_eq_true] at h15; exact h15
    have h4 := (stmtV_ex hv).2.2.2
    have hz := ptS_sz (p := p) hv
    refine ACode.skip ?_
    refine ks_n ?_
    refine ACode.seq ?_
    refine ACode.region ?_
    refine .cons (.lN 9 rfl rfl rfl) ?_
    refine .cons (St1.makeFunc (xs := [.tmp 3]) rfl rfl rfl rfl rfl rfl rfl) ?_
    refine .cons (.cP [.tmp 17, .tmp 18] rfl rfl rfl rfl (stmtMap_fn (f := 90) (cap := [[dIs p]]) (by kernel_rfl) (ptG p) s hs (fun x hx => point2_fn (stmtV_aff hv x hx).1 (small99 ha) (by omega))) rfl) ?_
    refine .cons (.al 106 [.string ByteArray.empty, .slice none 0 0, .int .i64 0, .int .i64 0, .slice none 0 0, .int .i64 0, .string ByteArray.empty, .slice none 0 0, .slice none 0 0] rfl rfl rfl) ?_
    refine .cons (.sT 9 true rfl rfl rfl rfl rfl rfl rfl) ?_
    refine .nil ?_
    refine ks_n ?_
    refine ACode.seq ?_
    refine ACode.seq ?_
    refine ACode.region ?_
    refine .cons (.bN 9 rfl rfl rfl rfl rfl rfl) ?_
    refine .cons (.cP [.tmp 20, .const (.int .i64 (0))] rfl rfl rfl rfl (implStmtV_fn 0 (mapS (ptG p) s) (by omega)) rfl) ?_
    refine .cons (.nt rfl rfl) ?_
    refine .nil ?_
    refine ks_n ?_
    refine ACode.condT rfl (fun h22 => ?_) (fun h22 => ?_)
    · try simp only [List.length_map, decide_eq_true_eq, decide_eq_false_iff_not, Bool.not_eq_true', Bool.not_eq_false', Bool.not_eq_true, Bool.not_eq_false] at h22
      refine ACode.seq ?_
      refine ACode.region ?_
      refine .cons (.bu [] [(0, 2), (2, 7)] [.string ByteArray.empty, .slice none 0 0, .int .i64 0, .int .i64 0, .slice none 0 0, .int .i64 0, .string ByteArray.empty, .slice none 0 0, .slice none 0 0] rfl rfl rfl rfl rfl) ?_
      refine .cons (.sT 9 true rfl rfl rfl rfl rfl rfl rfl) ?_
      refine .cons (.asg rfl rfl) ?_
      refine .nil ?_
      refine ks_n ?_
      refine ACode.ret ?_
      refine ks_r ?_
      refine kf_wret [(.t 4, .v (.o (.c (.box 100 9 0 0)))), (.t 5, .v (.o (bo1 false))), (.b 100, .b 33 9 [[.d (dS ByteArray.empty), .d (dAs []), .d (dI 0), .d (dI 0), .d (dIs []), .d (dI 0), .d (dS ByteArray.empty), .d (dAs []), .d (dEs [])]]), (.u 100, .u)] (Wk.keep [(100, 810)] rfl rfl ⟨ks rfl (.c .bx), ks rfl .dt, kb 810 rfl (.cons (.cons .dt (.cons (Cto.nil _) (.cons .dt (.cons .dt (.cons (Cto.nil _) (.cons .dt (.cons .dt (.cons (Cto.nil _) (.cons (Cto.nil _) Ctos.nil))))))))) .nil), trivial⟩) rfl ?_ nobox
      rw [ptT_yes hv ha, chkS_no h22]; rfl
    · try simp only [List.length_map, decide_eq_true_eq, decide_eq_false_iff_not, Bool.not_eq_true', Bool.not_eq_false', Bool.not_eq_true, Bool.not_eq_false] at h22
      refine ACode.skip ?_
      refine ks_n ?_
      refine ACode.seq ?_
      refine ACode.region ?_
      refine .cons (.bN 9 rfl rfl rfl rfl rfl rfl) ?_
      refine .cons (.sT 9 true rfl rfl rfl rfl rfl rfl rfl) ?_
      refine .cons (.asg rfl rfl) ?_
      refine .nil ?_
      refine ks_n ?_
      refine ACode.ret ?_
      refine kf_ret rfl ?_ nobox
      rw [ptT_yes hv ha, chkS_yes h22]; rfl

end Go.Proofs.Ytigdfdhjnadieaa

/- Statements at a point, of the reference; condition: small lists. -/
namespace Go.Proofs.Ytigdfdhjnadieaa
set_option linter.unusedVariables false
set_option linter.unusedSimpArgs false
open Go.RowKit

set_option maxRecDepth 100000 in
set_option maxHeartbeats 1600000 in
theorem l1Within_fn (n m : Int) (hm : 0 ≤ m ∧ m ≤ 1000000) : Fn Try.prog 95 [] [nat1 n, nat1 m] (.o (bo1 (inB n (-m) m))) [] := by
  refine Fn.code0 Try.func95 rfl rfl rfl rfl ?_
  refine ACode.seq ?_
  refine ACode.region ?_
  refine .cons (.asg rfl rfl) ?_
  refine .nil ?_
  refine ks_n ?_
  refine ACode.seq ?_
  refine ACode.region ?_
  refine .cons (.mv rfl rfl) ?_
  refine .cons (.mv rfl rfl) ?_
  refine .cons (St1.neg rfl rfl rfl rfl rfl (by omega)) ?_
  refine .cons (.ge rfl rfl rfl) ?_
  refine .cons (.mv rfl rfl) ?_
  refine .cD 9 rfl (fun g9 => ?_) (fun g9 => ?_)
  · skip
    refine .cons (.gT rfl rfl rfl (.mv rfl rfl)) ?_
    refine .cons (.gT rfl rfl rfl (.mv rfl rfl)) ?_
    refine .cons (.gT rfl rfl rfl (.le rfl rfl rfl)) ?_
    refine .cons (.pT rfl rfl rfl) ?_
    refine .cons (.asg rfl rfl) ?_
    refine .nil ?_
    refine ks_n ?_
    refine ACode.ret ?_
    refine kf_ret rfl ?_ nobox
    exact leafB (by rw [Bool.eq_iff_iff]; simp [inB] <;> omega)
  · skip
    refine .cons (.gF rfl rfl rfl) ?_
    refine .cons (.gF rfl rfl rfl) ?_
    refine .cons (.gF rfl rfl rfl) ?_
    refine .cons (.pF rfl rfl rfl) ?_
    refine .cons (.asg rfl rfl) ?_
    refine .nil ?_
    refine ks_n ?_
    refine ACode.ret ?_
    refine kf_ret rfl ?_ nobox
    exact leafB (by rw [Bool.eq_iff_iff]; simp [inB] <;> omega)

theorem sb_row {s : Stm} {p : List Int} {i : Nat} {x : Int} (hx : p[i]? = some x) : dR [rS (mapS (fun b => affSubst b ((i : Nat) : Int).toNat ([0, 0, 0, 0], x)) (mapS (sbT p i) s))] = dR [rS (mapS (sbT p (i + 1)) s)] := by
  have e : p.getD i 0 = x := by rw [List.getD_eq_getElem?_getD, hx]; rfl
  rw [← sb_next, e]; rfl
theorem sb_row0 {s : Stm} {p : List Int} {d : Int} (h : stmtV d s = true) : dR [rS s] = dR [rS (mapS (sbT p 0) s)] := by rw [sb_zero h]
theorem all_of {p : List Int} (h : ∀ k, k < p.length → -99 ≤ p.getD k 0 ∧ p.getD k 0 ≤ 99) : (p.all fun n => inB n (-99) 99) = true := by
  rw [List.all_eq_true]
  intro n hn
  obtain ⟨k, hk⟩ := List.mem_iff_getElem?.1 hn
  have := h k (List.getElem?_eq_some_iff.1 hk).1
  rw [List.getD_eq_getElem?_getD, hk] at this
  simpa [inB] using this
theorem pt_step {p : List Int} {i : Nat} {x : Int} (h : ∀ k, k < i → -99 ≤ p.getD k 0 ∧ p.getD k 0 ≤ 99) (hx : p[i]? = some x) (hb : inB x (-99) 99 = true) : ∀ k, k < i + 1 → -99 ≤ p.getD k 0 ∧ p.getD k 0 ≤ 99 := by
  intro k hk
  by_cases e : k = i
  · subst e
    rw [List.getD_eq_getElem?_getD, hx]
    simpa [inB] using hb
  · exact h k (by omega)
theorem pt_isPt {p : List Int} (h : isPt p = false) (h2 : p.length ≤ 4) : (p.all fun n => inB n (-99) 99) = false := by
  cases e : (p.all fun n => inB n (-99) 99) with
  | false => rfl
  | true =>
    rw [List.all_eq_true] at e
    have : isPt p = true := by
      rw [isPt, Bool.and_eq_true, decide_eq_true_eq, Bool.not_eq_true', List.any_eq_false]
      refine ⟨h2, fun n hn => ?_⟩
      have := e n hn
      simp [inB] at this ⊢
      omega
    rw [this] at h; cases h
theorem ptT_bad {s : Stm} {p : List Int} (h : (stmtV (p.length : Nat) s && isPt p) = false) : ptT s p = (zS, false) := by
  refine ptT_no ?_
  cases hv : stmtV (p.length : Nat) s with
  | false => rfl
  | true =>
    rw [hv, Bool.true_and] at h
    have := (stmtV_ex hv).2.2.2
    rw [pt_isPt h (by omega)]; rfl
theorem ptT_out {s : Stm} {p : List Int} {i : Nat} {x : Int} (hx : p[i]? = some x) (hb : inB x (-99) 99 = false) : ptT s p = (zS, false) := by
  refine ptT_no ?_
  have : (p.all fun n => inB n (-99) 99) = false := by
    rw [List.all_eq_false]; exact ⟨x, List.mem_of_getElem? hx, by rw [hb]; simp⟩
  rw [this]; simp

set_option maxRecDepth 100000 in
set_option maxHeartbeats 1600000 in
theorem specPoint_fn (s : Stm) (p : List Int) (hs : szS s ≤ 1073741824) (hp : p.length ≤ 1073741824) : Fn Try.prog 38 [] [ad (rS s), vD (dIs p)] (.tup [ad (rS (ptT s p).1), bo1 (ptT s p).2]) [] := by
  refine Fn.code0 Try.func38 rfl rfl rfl rfl ?_
  refine ACode.seq ?_
  refine ACode.region ?_
  refine .cons (St1.boxP rfl rfl rfl rfl rfl rfl) ?_
  refine .cons (.al 104 [.string ByteArray.empty, .slice none 0 0, .int .i64 0, .int .i64 0, .slice none 0 0, .int .i64 0, .string ByteArray.empty, .slice none 0 0, .slice none 0 0] rfl rfl rfl) ?_
  refine .cons (.asg rfl rfl) ?_
  refine .nil ?_
  refine ks_n ?_
  refine ACode.seq ?_
  refine ACode.seq ?_
  refine ACode.cut [(.t 1, .v (.o (vD (dIs p)))), (.t 2, .v (.o (.c (.ptr (rS s))))), (.t 4, .v (.o (.c (.box 810 9 0 0)))), (.t 5, .v (.o (bo1 false))), (.t 17, .v (.o (bo1 (!((stmtV (p.length : Nat) s && isPt p)))))), (.b 810, .b 33 9 [[.d (dS ByteArray.empty), .d (.val (.slice none 0 0)), .d (dI 0), .d (dI 0), .d (.val (.slice none 0 0)), .d (dI 0), .d (dS ByteArray.empty), .d (.val (.slice none 0 0)), .d (.val (.slice none 0 0))]]), (.u 810, .u)] ?_ ?_
  · skip
    refine ACode.region ?_
    refine .cons (.lN 9 rfl rfl rfl) ?_
    refine .cons (.mv rfl rfl) ?_
    refine .cons (.ln 3 1 8 rfl rfl rfl) ?_
    refine .cons (.cP [.tmp 8, .tmp 10] rfl rfl rfl rfl (specStmtV_fn (p.length : Nat) s (by omega)) rfl) ?_
    refine .cons (.nt rfl rfl) ?_
    refine .cons (.mv rfl rfl) ?_
    refine AOps.cases 13 _ rfl (fun g13 => ?_) (fun g13 => ?_)
    · try simp only [List.length_map, decide_eq_true_eq, decide_eq_false_iff_not, Bool.not_eq_true', Bool.not_eq_false', Bool.not_eq_true, Bool.not_eq_false] at g13
      refine .cons (.gF rfl rfl rfl) ?_
      refine .cons (.gF rfl rfl rfl) ?_
      refine .cons (.gF rfl rfl rfl) ?_
      refine .cons (.pT rfl rfl rfl) ?_
      refine .nil ?_
      exact kc_n (Wk.keep [(810, 104)] rfl rfl ⟨ks rfl .dt, ks rfl .dt, ks rfl (.c .bx), ks rfl .dt, ks rfl (.dt (vB (by first | (simp [*]; done) | grind))), kb 104 rfl (.cons (.cons .dt (.cons .dt (.cons .dt (.cons .dt (.cons .dt (.cons .dt (.cons .dt (.cons .dt (.cons .dt Ctos.nil))))))))) .nil), trivial⟩)
    · try simp only [List.length_map, decide_eq_true_eq, decide_eq_false_iff_not, Bool.not_eq_true', Bool.not_eq_false', Bool.not_eq_true, Bool.not_eq_false] at g13
      refine .cons (.gT rfl rfl rfl (.mv rfl rfl)) ?_
      refine .cons (.gT rfl rfl rfl (.cP [.tmp 14] rfl rfl rfl rfl (l1Point_fn p) rfl)) ?_
      refine .cons (.gT rfl rfl rfl (.nt rfl rfl)) ?_
      refine .cons (.pF rfl rfl rfl) ?_
      refine .nil ?_
      exact kc_n (Wk.keep [(810, 104)] rfl rfl ⟨ks rfl .dt, ks rfl .dt, ks rfl (.c .bx), ks rfl .dt, ks rfl (.dt (vB (by first | (simp [*]; done) | grind))), kb 104 rfl (.cons (.cons .dt (.cons .dt (.cons .dt (.cons .dt (.cons .dt (.cons .dt (.cons .dt (.cons .dt (.cons .dt Ctos.nil))))))))) .nil), trivial⟩)
  refine ks_n ?_
  refine ACode.condT rfl (fun h17 => ?_) (fun h17 => ?_)
  · try simp only [List.length_map, decide_eq_true_eq, decide_eq_false_iff_not, Bool.not_eq_true', Bool.not_eq_false', Bool.not_eq_true, Bool.not_eq_false] at h17
    refine ACode.seq ?_
    refine ACode.region ?_
    refine .cons (.bu [] [(0, 2), (2, 7)] [.string ByteArray.empty, .slice none 0 0, .int .i64 0, .int .i64 0, .slice none 0 0, .int .i64 0, .string ByteArray.empty, .slice none 0 0, .slice none 0 0] rfl rfl rfl rfl rfl) ?_
    refine .cons (.sT 9 true rfl rfl rfl rfl rfl rfl rfl) ?_
    refine .cons (.asg rfl rfl) ?_
    refine .nil ?_
    refine ks_n ?_
    refine ACode.ret ?_
    refine ks_r ?_
    refine kf_wret [(.t 4, .v (.o (.c (.box 100 9 0 0)))), (.t 5, .v (.o (bo1 false))), (.b 100, .b 33 9 [[.d (dS ByteArray.empty), .d (dAs []), .d (dI 0), .d (dI 0), .d (dIs []), .d (dI 0), .d (dS ByteArray.empty), .d (dAs []), .d (dEs [])]]), (.u 100, .u)] (Wk.keep [(100, 810)] rfl rfl ⟨ks rfl (.c .bx), ks rfl .dt, kb 810 rfl (.cons (.cons .dt (.cons (Cto.nil _) (.cons .dt (.cons .dt (.cons (Cto.nil _) (.cons .dt (.cons .dt (.cons (Cto.nil _) (.cons (Cto.nil _) Ctos.nil))))))))) .nil), trivial⟩) rfl ?_ nobox
    rw [ptT_bad h17]; rfl
  · try simp only [List.length_map, decide_eq_true_eq, decide_eq_false_iff_not, Bool.not_eq_true', Bool.not_eq_false', Bool.not_eq_true, Bool.not_eq_false] at h17
    obtain ⟨hv, ha⟩ : stmtV (p.length : Nat) s = true ∧ isPt p = true := by rw [Bool.and_eq_true] at h17; exact h17
    have h4 := (stmtV_ex hv).2.2.2
    have hz := ptS_sz (p := p) hv
    refine ACode.skip ?_
    refine ks_n ?_
    refine ACode.seq ?_
    refine ACode.region ?_
    refine .cons (.lN 9 rfl rfl rfl) ?_
    refine .cons (.cP [.tmp 19] rfl rfl rfl rfl (l3Copy_fn s hs) rfl) ?_
    refine .cons (.al 106 [.string ByteArray.empty, .slice none 0 0, .int .i64 0, .int .i64 0, .slice none 0 0, .int .i64 0, .string ByteArray.empty, .slice none 0 0, .slice none 0 0] rfl rfl rfl) ?_
    refine .cons (.sT 9 true rfl rfl rfl rfl rfl rfl rfl) ?_
    refine .nil ?_
    refine ks_n ?_
    refine ACode.seq ?_
    refine ACode.seq ?_
    refine ACode.region ?_
    refine .cons (.asg rfl rfl) ?_
    refine .nil ?_
    refine ks_n ?_
    refine ACode.block ?_
    refine .loopK (fun m σ => (∃ i : Nat, m = p.length - i ∧ (i ≤ p.length) ∧ (∀ k, k < i → -99 ≤ p.getD k 0 ∧ p.getD k 0 ≤ 99) ∧ σ = [(.t 1, .v (.o (vD (dIs p)))), (.t 4, .v (.o (.c (.box 110 9 0 0)))), (.t 6, .v (.o (.c (.box 111 9 0 0)))), (.t 7, .v (.o (nat1 (i : Nat)))), (.b 110, .b 33 9 [[.d (dS ByteArray.empty), .d (.val (.slice none 0 0)), .d (dI 0), .d (dI 0), .d (.val (.slice none 0 0)), .d (dI 0), .d (dS ByteArray.empty), .d (.val (.slice none 0 0)), .d (.val (.slice none 0 0))]]), (.u 110, .u), (.b 111, .b 33 9 (dR ([rS (mapS (sbT p i) s)]))), (.u 111, .u)])) [(110, 810), (111, 106)] ⟨0, rfl, by omega, by omega, rfl⟩ ⟨ks rfl .dt, ks rfl (.c .bx), ks rfl (.c .bx), ks rfl .dt, kb 810 rfl (.cons (.cons .dt (.cons .dt (.cons .dt (.cons .dt (.cons .dt (.cons .dt (.cons .dt (.cons .dt (.cons .dt Ctos.nil))))))))) .nil), kb 106 rfl (.dt rfl (by first | exact sb_row0 hv | exact sb_row hx1)), trivial⟩ ?_
    rintro m σ ⟨i, hm0, hi, hF, rfl⟩
    refine ACode.seq ?_
    refine ACode.seq ?_
    refine ACode.region ?_
    refine .cons (.mv rfl rfl) ?_
    refine .cons (.mv rfl rfl) ?_
    refine .cons (.ln 3 1 8 rfl rfl rfl) ?_
    refine .cons (.ls rfl rfl rfl) ?_
    refine .nil ?_
    refine ks_n ?_
    refine .cD rfl (fun h24 => ?_) (fun h24 => ?_)
    · skip
      obtain ⟨x, hx1⟩ : ∃ x, p[i]? = some x := ⟨_, List.getElem?_eq_getElem (by omega)⟩
      refine ACode.skip ?_
      refine ks_n ?_
      refine ACode.seq ?_
      refine ACode.block ?_
      refine ACode.seq ?_
      refine ACode.seq ?_
      refine ACode.region ?_
      refine .cons (.mv rfl rfl) ?_
      refine .cons (.mv rfl rfl) ?_
      refine .cons (.xL 3 1 8 rfl rfl rfl rfl rfl (map_at hx1)) ?_
      refine .cons (.l1 1 rfl rfl) ?_
      refine .cons (.cP [.tmp 30, .const (.int .i64 (99))] rfl rfl rfl rfl (l1Within_fn x 99 (by omega)) rfl) ?_
      refine .cons (.nt rfl rfl) ?_
      refine .nil ?_
      refine ks_n ?_
      refine ACode.condT rfl (fun h32 => ?_) (fun h32 => ?_)
      · try simp only [List.length_map, decide_eq_true_eq, decide_eq_false_iff_not, Bool.not_eq_true', Bool.not_eq_false', Bool.not_eq_true, Bool.not_eq_false] at h32
        refine ACode.seq ?_
        refine ACode.region ?_
        refine .cons (.bu [] [(0, 2), (2, 7)] [.string ByteArray.empty, .slice none 0 0, .int .i64 0, .int .i64 0, .slice none 0 0, .int .i64 0, .string ByteArray.empty, .slice none 0 0, .slice none 0 0] rfl rfl rfl rfl rfl) ?_
        refine .cons (.sT 9 true rfl rfl rfl rfl rfl rfl rfl) ?_
        refine .cons (.asg rfl rfl) ?_
        refine .nil ?_
        refine ks_n ?_
        refine ACode.ret ?_
        refine ks_r ?_
        refine kb_r ?_
        refine ks_r ?_
        refine kl_r ?_
        refine kb_r ?_
        refine ks_r ?_
        refine kf_wret [(.t 4, .v (.o (.c (.box 100 9 0 0)))), (.t 5, .v (.o (bo1 false))), (.b 100, .b 33 9 [[.d (dS ByteArray.empty), .d (dAs []), .d (dI 0), .d (dI 0), .d (dIs []), .d (dI 0), .d (dS ByteArray.empty), .d (dAs []), .d (dEs [])]]), (.u 100, .u)] (Wk.keep [(100, 110)] rfl rfl ⟨ks rfl (.c .bx), ks rfl .dt, kb 110 rfl (.cons (.cons .dt (.cons (Cto.nil _) (.cons .dt (.cons .dt (.cons (Cto.nil _) (.cons .dt (.cons .dt (.cons (Cto.nil _) (.cons (Cto.nil _) Ctos.nil))))))))) .nil), trivial⟩) rfl ?_ nobox
        rw [ptT_out hx1 h32]; rfl
      · try simp only [List.length_map, decide_eq_true_eq, decide_eq_false_iff_not, Bool.not_eq_true', Bool.not_eq_false', Bool.not_eq_true, Bool.not_eq_false] at h32
        refine ACode.skip ?_
        refine ks_n ?_
        refine ACode.drawK (by kernel_rfl) (by kernel_rfl) ?_
        refine .cons (.bN 9 rfl rfl rfl rfl rfl rfl) ?_
        refine .cons (.mv rfl rfl) ?_
        refine .cons (.mv rfl rfl) ?_
        refine .cons (.mv rfl rfl) ?_
        refine .cons (.xL 3 1 8 rfl rfl rfl rfl rfl (map_at hx1)) ?_
        refine .cons (.l1 1 rfl rfl) ?_
        refine .cons (.cP [.tmp 39] rfl rfl rfl rfl (l1Const_fn x) rfl) ?_
        refine .cons (.cP [.tmp 34, .tmp 35, .tmp 40] rfl rfl rfl rfl (l3SubstW_fn (mapS (sbT p i) s) (by have := sbS_sz (p := p) (i := i) (by omega) hv; omega) (y := ([0, 0, 0, 0], x)) (affM_const (by simpa [inB] using h32)) (j := (i : Nat)) (by omega) (sbS_W (by omega) hv hF)) rfl) ?_
        refine .cons (.sT 9 true rfl rfl rfl rfl rfl rfl rfl) ?_
        refine .nil ⟨by kernel_rfl, ?_⟩
        refine kb_n ?_
        refine ks_n ?_
        refine ACode.region ?_
        refine .cons (.mv rfl rfl) ?_
        refine .cons (.pl rfl rfl rfl) ?_
        refine .cons (.asg rfl rfl) ?_
        refine .nil ?_
        refine kl_k [(110, 110), (111, 111)] ⟨i + 1, rfl, by omega, pt_step hF hx1 h32, rfl⟩ ⟨ks rfl .dt, ks rfl (.c .bx), ks rfl (.c .bx), ks rfl .dt, kb 110 rfl (.cons (.cons .dt (.cons .dt (.cons .dt (.cons .dt (.cons .dt (.cons .dt (.cons .dt (.cons .dt (.cons .dt Ctos.nil))))))))) .nil), kb 111 rfl (.dt rfl (by first | exact sb_row0 hv | exact sb_row hx1)), trivial⟩
    · skip
      obtain rfl : i = p.length := by omega
      have ha2 := all_of hF
      refine ACode.exit ?_
      refine ks_e ?_
      refine kl_e ?_
      refine kb_hit ?_
      refine ks_n ?_
      refine ACode.seq ?_
      refine ACode.seq ?_
      refine .keep [(.t 4, .v (.o (.c (.box 800 9 0 0)))), (.t 6, .v (.o (.c (.box 801 9 0 0)))), (.b 800, .b 33 9 [[.d (dS ByteArray.empty), .d (.val (.slice none 0 0)), .d (dI 0), .d (dI 0), .d (.val (.slice none 0 0)), .d (dI 0), .d (dS ByteArray.empty), .d (.val (.slice none 0 0)), .d (.val (.slice none 0 0))]]), (.u 800, .u), (.b 801, .b 33 9 (dR ([rS (mapS (ptG p) s)]))), (.u 801, .u)] [(800, 110), (801, 111)] ⟨ks rfl (.c .bx), ks rfl (.c .bx), kb 110 rfl (.cons (.cons .dt (.cons .dt (.cons .dt (.cons .dt (.cons .dt (.cons .dt (.cons .dt (.cons .dt (.cons .dt Ctos.nil))))))))) .nil), kb 111 rfl (.dt rfl (by rw [sb_all hv])), trivial⟩ ?_
      refine ACode.region ?_
      refine .cons (.bN 9 rfl rfl rfl rfl rfl rfl) ?_
      refine .cons (.cP [.tmp 42, .const (.int .i64 (0))] rfl rfl rfl rfl (specStmtV_fn 0 (mapS (ptG p) s) (by omega)) rfl) ?_
      refine .cons (.nt rfl rfl) ?_
      refine .nil ?_
      refine ks_n ?_
      refine ACode.condT rfl (fun h44 => ?_) (fun h44 => ?_)
      · try simp only [List.length_map, decide_eq_true_eq, decide_eq_false_iff_not, Bool.not_eq_true', Bool.not_eq_false', Bool.not_eq_true, Bool.not_eq_false] at h44
        refine ACode.seq ?_
        refine ACode.region ?_
        refine .cons (.bu [] [(0, 2), (2, 7)] [.string ByteArray.empty, .slice none 0 0, .int .i64 0, .int .i64 0, .slice none 0 0, .int .i64 0, .string ByteArray.empty, .slice none 0 0, .slice none 0 0] rfl rfl rfl rfl rfl) ?_
        refine .cons (.sT 9 true rfl rfl rfl rfl rfl rfl rfl) ?_
        refine .cons (.asg rfl rfl) ?_
        refine .nil ?_
        refine ks_n ?_
        refine ACode.ret ?_
        refine ks_r ?_
        refine kf_wret [(.t 4, .v (.o (.c (.box 100 9 0 0)))), (.t 5, .v (.o (bo1 false))), (.b 100, .b 33 9 [[.d (dS ByteArray.empty), .d (dAs []), .d (dI 0), .d (dI 0), .d (dIs []), .d (dI 0), .d (dS ByteArray.empty), .d (dAs []), .d (dEs [])]]), (.u 100, .u)] (Wk.keep [(100, 800)] rfl rfl ⟨ks rfl (.c .bx), ks rfl .dt, kb 800 rfl (.cons (.cons .dt (.cons (Cto.nil _) (.cons .dt (.cons .dt (.cons (Cto.nil _) (.cons .dt (.cons .dt (.cons (Cto.nil _) (.cons (Cto.nil _) Ctos.nil))))))))) .nil), trivial⟩) rfl ?_ nobox
        rw [ptT_yes hv ha2, chkS_no h44]; rfl
      · try simp only [List.length_map, decide_eq_true_eq, decide_eq_false_iff_not, Bool.not_eq_true', Bool.not_eq_false', Bool.not_eq_true, Bool.not_eq_false] at h44
        refine ACode.skip ?_
        refine ks_n ?_
        refine ACode.seq ?_
        refine ACode.region ?_
        refine .cons (.bN 9 rfl rfl rfl rfl rfl rfl) ?_
        refine .cons (.sT 9 true rfl rfl rfl rfl rfl rfl rfl) ?_
        refine .cons (.asg rfl rfl) ?_
        refine .nil ?_
        refine ks_n ?_
        refine ACode.ret ?_
        refine kf_ret rfl ?_ nobox
        rw [ptT_yes hv ha2, chkS_yes h44]; rfl

end Go.Proofs.Ytigdfdhjnadieaa

/- Depth of statements, of the reference; condition: small lists. -/
namespace Go.Proofs.Ytigdfdhjnadieaa
set_option linter.unusedVariables false
set_option linter.unusedSimpArgs false
open Go.RowKit

end Go.Proofs.Ytigdfdhjnadieaa

/- Statements: the reads, in a slice of their own; condition: small lists. -/
namespace Go.Proofs.Ytigdfdhjnadieaa
set_option linter.unusedVariables false
set_option linter.unusedSimpArgs false
open Go.RowKit

theorem kid_nil {e x : Ex} (h : rdE e = []) (hx : x ∈ e.ks) : rdE x = [] := by
  rw [rdE_eq] at h
  have h2 := (List.append_eq_nil_iff.1 h).2
  revert h2 hx
  generalize e.ks = l
  intro hx h2
  induction l with
  | nil => cases hx
  | cons y l ih =>
    rw [rdEs, List.append_eq_nil_iff] at h2
    rcases List.mem_cons.1 hx with rfl | hx
    · exact h2.1
    · exact ih hx h2.2

set_option maxRecDepth 100000 in
set_option maxHeartbeats 1600000 in
theorem reads_own (e : Ex) {d L : Nat} (hv : exV d L e = true) (hcn : cntE e ≤ 64) (hne : 0 < (rdE e).length) (ih : ∀ x ∈ e.ks, Fn Try.prog 66 [] [ad (rX x)] (.o (vD (dCs (rdE x)))) []) : Fn Try.prog 66 [] [ad (rX e)] (.o (.c (.own 100 2 (rdE e).length))) [(.b 100, .b 25 2 (dR ((rdE e).map rC))), (.u 100, .u)] := by
  have hkl := (exV_kids hv).1
  refine Fn.of_code Try.func66 rfl rfl HB.nil rfl rfl HB.nil.data rfl (one_num rfl) ?_
  refine ACode.seq ?_
  refine ACode.region ?_
  refine .cons (St1.boxP rfl rfl rfl rfl rfl rfl) ?_
  refine .cons (.asg rfl rfl) ?_
  refine .nil ?_
  refine ks_n ?_
  refine ACode.seq ?_
  refine ACode.seq ?_
  refine ACode.region ?_
  refine .cons (.fP 0 0 false rfl rfl) ?_
  refine .cons (.l1 1 rfl rfl) ?_
  refine .cons (.eq rfl rfl rfl) ?_
  refine .nil ?_
  refine ks_n ?_
  refine .cD rfl (fun h8 => ?_) (fun h8 => ?_)
  · skip
    refine ACode.seq ?_
    refine ACode.region ?_
    refine .cons (.fP 4 1 true rfl rfl) ?_
    refine .cons (.lN 2 rfl rfl rfl) ?_
    refine .cons (St1.litB (k' := 111) (e := 25) (sz := 1) (m := 0) (xs := [.tmp 10]) rfl rfl rfl rfl rfl (by kernel_rfl) rfl rfl rfl rfl rfl) ?_
    refine .cons (.asg rfl rfl) ?_
    refine .nil ?_
    refine ks_n ?_
    refine ACode.ret ?_
    refine ks_r ?_
    refine kf_wret [(.t 2, .v (.o (.c (.own 100 2 ((rdE e).length))))), (.b 100, .b 25 2 (dR ((rdE e).map rC))), (.u 100, .u)] (Wk.keep [(100, 111)] rfl rfl ⟨ks rfl (.c (.ow (by rw [rdE_eq, if_pos h8, leaf_nil hv (by omega)]; rfl))), kb 111 rfl (.dt rfl (by rw [rdE_eq, if_pos h8, leaf_nil hv (by omega)]; rfl)), trivial⟩) rfl ?_ (one_box rfl)
    rfl
  · skip
    refine ACode.skip ?_
    refine ks_n ?_
    refine ACode.seq ?_
    refine ACode.region ?_
    refine .cons (.asg rfl rfl) ?_
    refine .nil ?_
    refine ks_n ?_
    refine ACode.seq ?_
    refine ACode.seq ?_
    refine ACode.region ?_
    refine .cons (.fP 6 0 false rfl rfl) ?_
    refine .cons (.l1 1 rfl rfl) ?_
    refine .cons (.ln 31 7 112 rfl rfl rfl) ?_
    refine .cons (.mv rfl rfl) ?_
    refine .nil ?_
    refine ks_n ?_
    refine ACode.block ?_
    refine .loopK (fun m σ => (∃ i : Nat, m = e.ks.length - i ∧ (i ≤ e.ks.length) ∧ (rdEs (e.ks.take i) = []) ∧ σ = [(.t 1, .v (.o (.c (.ptr (rX e))))), (.t 2, .v (.o (.c (.d (.val (.slice none 0 0)))))), (.t 3, .v (.o (.c (.d (.val (.slice none 0 0)))))), (.t 13, .v (.o (vD (dEs e.ks)))), (.t 14, .v (.o (nat1 (e.ks.length : Nat)))), (.t 15, .v (.o (nat1 (i : Nat))))]) ∨ (∃ i : Nat, m = e.ks.length - i ∧ (i ≤ e.ks.length) ∧ (0 < (rdEs (e.ks.take i)).length) ∧ σ = [(.t 1, .v (.o (.c (.ptr (rX e))))), (.t 2, .v (.o (.c (.d (.val (.slice none 0 0)))))), (.t 3, .v (.o (.c (.own 110 2 ((rdEs (e.ks.take i)).length))))), (.t 13, .v (.o (vD (dEs e.ks)))), (.t 14, .v (.o (nat1 (e.ks.length : Nat)))), (.t 15, .v (.o (nat1 (i : Nat)))), (.b 110, .b 25 2 (dR ((rdEs (e.ks.take i)).map rC))), (.u 110, .u)])) [] (.inl ⟨0, rfl, by omega, by simp [rdEs], rfl⟩) ⟨ks rfl .dt, ks rfl .dt, ks rfl .dt, ks rfl .dt, ks rfl .dt, ks rfl .dt, trivial⟩ ?_
    rintro m σ (⟨i, hm0, hi, h0, rfl⟩ | ⟨i, hm0, hi, h0, rfl⟩)
    · skip
      refine ACode.seq ?_
      refine ACode.region ?_
      refine .cons (.ls rfl rfl rfl) ?_
      refine .nil ?_
      refine ks_n ?_
      refine ACode.seq ?_
      refine .cD rfl (fun h16 => ?_) (fun h16 => ?_)
      · skip
        obtain ⟨x, hx1⟩ : ∃ x, e.ks[i]? = some x := ⟨_, List.getElem?_eq_getElem (by omega)⟩
        have hmx := List.mem_of_getElem? hx1
        have hT := rdEs_take hx1
        have h64 := kids64 (i := i + 1) hcn
        refine ACode.skip ?_
        refine ks_n ?_
        refine ACode.seq ?_
        refine ACode.block ?_
        refine ACode.seq ?_
        refine ACode.region ?_
        refine .cons (.xL 31 7 112 rfl rfl rfl rfl rfl (rE_at hx1)) ?_
        refine .cons (.lN 7 rfl rfl rfl) ?_
        refine .cons (.al 105 [.int .i64 0, .int .i64 0, .slice none 0 0, .int .i64 0, .string ByteArray.empty, .slice none 0 0, .slice none 0 0] rfl rfl rfl) ?_
        refine .cons (.sT 7 true rfl rfl rfl rfl rfl rfl rfl) ?_
        refine .nil ?_
        refine ks_n ?_
        by_cases hsp : rdE x = []
        · skip
          refine ACode.region ?_
          refine .cons (.mv rfl rfl) ?_
          refine .cons (.bN 7 rfl rfl rfl rfl rfl rfl) ?_
          refine .cons (.cP [.tmp 20] rfl rfl rfl rfl (ih x hmx) rfl) ?_
          refine .cons (St1.appNE (e := 25) (sz := 1) (by' := 40) rfl rfl rfl rfl rfl (by kernel_rfl) rfl (congrArg (fun l => some (V.o (vD (dCs l)))) hsp)) ?_
          refine .cons (.asg rfl rfl) ?_
          refine .nil ?_
          refine kb_n ?_
          refine ks_n ?_
          refine ACode.region ?_
          refine .cons (.pl rfl rfl rfl) ?_
          refine .cons (.mv rfl rfl) ?_
          refine .nil ?_
          refine kl_k [] (.inl ⟨i + 1, rfl, by omega, by rw [hT, h0, hsp]; rfl, rfl⟩) ⟨ks rfl .dt, ks rfl .dt, ks rfl .dt, ks rfl .dt, ks rfl .dt, ks rfl .dt, trivial⟩
        · skip
          refine ACode.region ?_
          refine .cons (.mv rfl rfl) ?_
          refine .cons (.bN 7 rfl rfl rfl rfl rfl rfl) ?_
          refine .cons (.cP [.tmp 20] rfl rfl rfl rfl (ih x hmx) rfl) ?_
          refine .cons (St1.appN (k' := 122) (e := 25) (sz := 1) (by' := 40) rfl rfl rfl rfl rfl (by kernel_rfl) rfl rfl rfl (by rw [List.length_map]; exact List.length_pos_iff.2 hsp) (by rw [hT, List.length_append] at h64; simp [dR]; omega) rfl rfl) ?_
          refine .cons (.asg rfl rfl) ?_
          refine .nil ?_
          refine kb_n ?_
          refine ks_n ?_
          refine ACode.region ?_
          refine .cons (.pl rfl rfl rfl) ?_
          refine .cons (.mv rfl rfl) ?_
          refine .nil ?_
          refine kl_k [(110, 122)] (.inr ⟨i + 1, rfl, by omega, by rw [hT, List.length_append]; have := List.length_pos_iff.2 hsp; omega, rfl⟩) ⟨ks rfl .dt, ks rfl .dt, ks rfl (.c (.ow (by first | (simp [rdEs]; done) | (rw [hT, List.length_append, List.length_map]; done) | (rw [hT, h0, List.length_map]; rfl) | (simp [hT, h0]; done)))), ks rfl .dt, ks rfl .dt, ks rfl .dt, kb 122 rfl (.dt rfl (by first | (rw [hT, ← dR_apC]; done) | (rw [hT, h0]; rfl) | (rw [hT, dR_apC]; done) | (simp [dR, hT, h0]; done))), trivial⟩
      · skip
        exact absurd hne (by rw [rdE_eq, if_neg h8, ← List.take_of_length_le (l := e.ks) (i := i) (by omega), List.nil_append, h0]; simp)
    · skip
      refine ACode.seq ?_
      refine ACode.region ?_
      refine .cons (.ls rfl rfl rfl) ?_
      refine .nil ?_
      refine ks_n ?_
      refine ACode.seq ?_
      refine .cD rfl (fun h16 => ?_) (fun h16 => ?_)
      · skip
        obtain ⟨x, hx1⟩ : ∃ x, e.ks[i]? = some x := ⟨_, List.getElem?_eq_getElem (by omega)⟩
        have hmx := List.mem_of_getElem? hx1
        have hT := rdEs_take hx1
        have h64 := kids64 (i := i + 1) hcn
        refine ACode.skip ?_
        refine ks_n ?_
        refine ACode.seq ?_
        refine ACode.block ?_
        refine ACode.seq ?_
        refine ACode.region ?_
        refine .cons (.xL 31 7 112 rfl rfl rfl rfl rfl (rE_at hx1)) ?_
        refine .cons (.lN 7 rfl rfl rfl) ?_
        refine .cons (.al 105 [.int .i64 0, .int .i64 0, .slice none 0 0, .int .i64 0, .string ByteArray.empty, .slice none 0 0, .slice none 0 0] rfl rfl rfl) ?_
        refine .cons (.sT 7 true rfl rfl rfl rfl rfl rfl rfl) ?_
        refine .nil ?_
        refine ks_n ?_
        refine ACode.region ?_
        refine .cons (.mv rfl rfl) ?_
        refine .cons (.bN 7 rfl rfl rfl rfl rfl rfl) ?_
        refine .cons (.cP [.tmp 20] rfl rfl rfl rfl (ih x hmx) rfl) ?_
        refine .cons (St1.appB (k' := 122) (e := 25) (sz := 1) (by' := 40) rfl rfl rfl rfl rfl (by kernel_rfl) rfl rfl rfl rfl (by simp [dR]) (by rw [hT, List.length_append] at h64; simp [dR]; omega) rfl rfl rfl) ?_
        refine .cons (.asg rfl rfl) ?_
        refine .nil ?_
        refine kb_n ?_
        refine ks_n ?_
        refine ACode.region ?_
        refine .cons (.pl rfl rfl rfl) ?_
        refine .cons (.mv rfl rfl) ?_
        refine .nil ?_
        refine kl_k [(110, 122)] (.inr ⟨i + 1, rfl, by omega, by rw [hT, List.length_append]; omega, rfl⟩) ⟨ks rfl .dt, ks rfl .dt, ks rfl (.c (.ow (by first | (simp [rdEs]; done) | (rw [hT, List.length_append, List.length_map]; done) | (rw [hT, h0, List.length_map]; rfl) | (simp [hT, h0]; done)))), ks rfl .dt, ks rfl .dt, ks rfl .dt, kb 122 rfl (.dt rfl (by first | (rw [hT, ← dR_apC]; done) | (rw [hT, h0]; rfl) | (rw [hT, dR_apC]; done) | (simp [dR, hT, h0]; done))), trivial⟩
      · skip
        have hR : rdEs (e.ks.take i) = rdE e := by rw [List.take_of_length_le (by omega), rdE_eq, if_neg h8]; rfl
        refine ACode.exit ?_
        refine ks_e ?_
        refine kl_e ?_
        refine kb_hit ?_
        refine ks_n ?_
        refine ACode.seq ?_
        refine ACode.region ?_
        refine .cons (.mv rfl rfl) ?_
        refine .cons (.asg rfl rfl) ?_
        refine .nil ?_
        refine ks_n ?_
        refine ACode.ret ?_
        refine kf_wret [(.t 2, .v (.o (.c (.own 100 2 ((rdE e).length))))), (.b 100, .b 25 2 (dR ((rdE e).map rC))), (.u 100, .u)] (Wk.keep [(100, 110)] rfl rfl ⟨ks rfl (.c (.ow (by rw [hR]))), kb 110 rfl (.dt rfl (by rw [hR])), trivial⟩) rfl ?_ (one_box rfl)
        rfl

set_option maxRecDepth 100000 in
set_option maxHeartbeats 1600000 in
theorem reads_nil (e : Ex) {d L : Nat} (hv : exV d L e = true) (hcn : cntE e ≤ 64) (hn : rdE e = []) (ih : ∀ x ∈ e.ks, Fn Try.prog 66 [] [ad (rX x)] (.o (vD (dCs (rdE x)))) []) : Fn Try.prog 66 [] [ad (rX e)] (.o (.c (.d (.val (.slice none 0 0))))) [] := by
  have hkl := (exV_kids hv).1
  refine Fn.code0 Try.func66 rfl rfl rfl rfl ?_
  refine ACode.seq ?_
  refine ACode.region ?_
  refine .cons (St1.boxP rfl rfl rfl rfl rfl rfl) ?_
  refine .cons (.asg rfl rfl) ?_
  refine .nil ?_
  refine ks_n ?_
  refine ACode.seq ?_
  refine ACode.seq ?_
  refine ACode.region ?_
  refine .cons (.fP 0 0 false rfl rfl) ?_
  refine .cons (.l1 1 rfl rfl) ?_
  refine .cons (.eq rfl rfl rfl) ?_
  refine .nil ?_
  refine ks_n ?_
  refine .cD rfl (fun h8 => ?_) (fun h8 => ?_)
  · skip
    exact absurd hn (by rw [rdE_eq, if_pos h8]; simp)
  · skip
    refine ACode.skip ?_
    refine ks_n ?_
    refine ACode.seq ?_
    refine ACode.region ?_
    refine .cons (.asg rfl rfl) ?_
    refine .nil ?_
    refine ks_n ?_
    refine ACode.seq ?_
    refine ACode.seq ?_
    refine ACode.region ?_
    refine .cons (.fP 6 0 false rfl rfl) ?_
    refine .cons (.l1 1 rfl rfl) ?_
    refine .cons (.ln 31 7 112 rfl rfl rfl) ?_
    refine .cons (.mv rfl rfl) ?_
    refine .nil ?_
    refine ks_n ?_
    refine ACode.block ?_
    refine .loopK (fun m σ => (∃ i : Nat, m = e.ks.length - i ∧ (i ≤ e.ks.length) ∧ (rdEs (e.ks.take i) = []) ∧ σ = [(.t 1, .v (.o (.c (.ptr (rX e))))), (.t 2, .v (.o (.c (.d (.val (.slice none 0 0)))))), (.t 3, .v (.o (.c (.d (.val (.slice none 0 0)))))), (.t 13, .v (.o (vD (dEs e.ks)))), (.t 14, .v (.o (nat1 (e.ks.length : Nat)))), (.t 15, .v (.o (nat1 (i : Nat))))])) [] ⟨0, rfl, by omega, by simp [rdEs], rfl⟩ ⟨ks rfl .dt, ks rfl .dt, ks rfl .dt, ks rfl .dt, ks rfl .dt, ks rfl .dt, trivial⟩ ?_
    rintro m σ ⟨i, hm0, hi, h0, rfl⟩
    refine ACode.seq ?_
    refine ACode.region ?_
    refine .cons (.ls rfl rfl rfl) ?_
    refine .nil ?_
    refine ks_n ?_
    refine ACode.seq ?_
    refine .cD rfl (fun h16 => ?_) (fun h16 => ?_)
    · skip
      obtain ⟨x, hx1⟩ : ∃ x, e.ks[i]? = some x := ⟨_, List.getElem?_eq_getElem (by omega)⟩
      have hmx := List.mem_of_getElem? hx1
      have hT := rdEs_take hx1
      have h64 := kids64 (i := i + 1) hcn
      have hxn : rdE x = [] := kid_nil hn hmx
      refine ACode.skip ?_
      refine ks_n ?_
      refine ACode.seq ?_
      refine ACode.block ?_
      refine ACode.seq ?_
      refine ACode.region ?_
      refine .cons (.xL 31 7 112 rfl rfl rfl rfl rfl (rE_at hx1)) ?_
      refine .cons (.lN 7 rfl rfl rfl) ?_
      refine .cons (.al 105 [.int .i64 0, .int .i64 0, .slice none 0 0, .int .i64 0, .string ByteArray.empty, .slice none 0 0, .slice none 0 0] rfl rfl rfl) ?_
      refine .cons (.sT 7 true rfl rfl rfl rfl rfl rfl rfl) ?_
      refine .nil ?_
      refine ks_n ?_
      refine ACode.region ?_
      refine .cons (.mv rfl rfl) ?_
      refine .cons (.bN 7 rfl rfl rfl rfl rfl rfl) ?_
      refine .cons (.cP [.tmp 20] rfl rfl rfl rfl (ih x hmx) rfl) ?_
      refine .cons (St1.appNE (e := 25) (sz := 1) (by' := 40) rfl rfl rfl rfl rfl (by kernel_rfl) rfl (congrArg (fun l => some (V.o (vD (dCs l)))) hxn)) ?_
      refine .cons (.asg rfl rfl) ?_
      refine .nil ?_
      refine kb_n ?_
      refine ks_n ?_
      refine ACode.region ?_
      refine .cons (.pl rfl rfl rfl) ?_
      refine .cons (.mv rfl rfl) ?_
      refine .nil ?_
      refine kl_k [] ⟨i + 1, rfl, by omega, by rw [hT, h0, hxn]; rfl, rfl⟩ ⟨ks rfl .dt, ks rfl .dt, ks rfl .dt, ks rfl .dt, ks rfl .dt, ks rfl .dt, trivial⟩
    · skip
      refine ACode.exit ?_
      refine ks_e ?_
      refine kl_e ?_
      refine kb_hit ?_
      refine ks_n ?_
      refine ACode.seq ?_
      refine ACode.region ?_
      refine .cons (.mv rfl rfl) ?_
      refine .cons (.asg rfl rfl) ?_
      refine .nil ?_
      refine ks_n ?_
      refine ACode.ret ?_
      refine kf_ret rfl ?_ nobox
      rfl

theorem reads_ownS {s : Stm} (hv : stmtV 4 s = true) (hne : 0 < (rdS s).length) : Fn Try.prog 66 [] [ad (rX (mapS id s).2)] (.o (.c (.own 100 2 (rdS s).length))) [(.b 100, .b 25 2 (dR ((rdS s).map rC))), (.u 100, .u)] := by
  have e : rdS s = rdE s.2 := if_pos hv
  rw [mapS_id hv]; rw [e] at hne ⊢
  have h := (stmtV_ex hv).1
  exact reads_own s.2 h (cnt64 h (by omega)) hne fun x hx => reads_fn (L := 4) x (by omega) ((exV_kids h).2 x hx)
theorem reads_nilS {s : Stm} (hv : stmtV 4 s = true) (hn : (rdS s).length = 0) : Fn Try.prog 66 [] [ad (rX (mapS id s).2)] (.o (.c (.d (.val (.slice none 0 0))))) [] := by
  have e : rdS s = rdE s.2 := if_pos hv
  rw [mapS_id hv]; rw [e] at hn
  have h := (stmtV_ex hv).1
  exact reads_nil s.2 h (cnt64 h (by omega)) (List.eq_nil_of_length_eq_zero hn) fun x hx => reads_fn (L := 4) x (by omega) ((exV_kids h).2 x hx)

set_option maxRecDepth 100000 in
set_option maxHeartbeats 1600000 in
theorem implReads_own (s : Stm) (hs : szS s ≤ 1073741824) (hne : 0 < (rdS s).length) : Fn Try.prog 24 [] [ad (rS s)] (.o (.c (.own 100 2 (rdS s).length))) [(.b 100, .b 25 2 (dR ((rdS s).map rC))), (.u 100, .u)] := by
  refine Fn.of_code Try.func24 rfl rfl HB.nil rfl rfl HB.nil.data rfl (one_num rfl) ?_
  refine ACode.seq ?_
  refine ACode.region ?_
  refine .cons (St1.boxP rfl rfl rfl rfl rfl rfl) ?_
  refine .cons (.asg rfl rfl) ?_
  refine .nil ?_
  refine ks_n ?_
  refine ACode.seq ?_
  refine ACode.seq ?_
  refine ACode.region ?_
  refine .cons (.lN 9 rfl rfl rfl) ?_
  refine .cons (.cP [.tmp 3] rfl rfl rfl rfl (isStmt_fn s (by omega)) rfl) ?_
  refine .cons (.nt rfl rfl) ?_
  refine .nil ?_
  refine ks_n ?_
  refine ACode.condT rfl (fun h5 => ?_) (fun h5 => ?_)
  · try simp only [List.length_map, decide_eq_true_eq, decide_eq_false_iff_not, Bool.not_eq_true', Bool.not_eq_false', Bool.not_eq_true, Bool.not_eq_false] at h5
    exact absurd hne (by rw [rdS, h5]; simp)
  · try simp only [List.length_map, decide_eq_true_eq, decide_eq_false_iff_not, Bool.not_eq_true', Bool.not_eq_false', Bool.not_eq_true, Bool.not_eq_false] at h5
    refine ACode.skip ?_
    refine ks_n ?_
    refine ACode.seq ?_
    refine ACode.region ?_
    refine .cons (.lN 9 rfl rfl rfl) ?_
    refine .cons (.cP [.tmp 6] rfl rfl rfl rfl (ownStmt_fn s hs) rfl) ?_
    refine .cons (.fN 2 7 rfl rfl) ?_
    refine .cons (.cO [.tmp 8] [(100, 109)] rfl rfl rfl rfl (reads_ownS h5 hne) rfl trivial flatS.nil (flatS.nil.cons rfl) HB.nil.data outS_one) ?_
    refine .cons (.asg rfl rfl) ?_
    refine .nil ?_
    refine ks_n ?_
    refine ACode.ret ?_
    refine kf_wret [(.t 2, .v (.o (.c (.own 100 2 ((rdS s).length))))), (.b 100, .b 25 2 (dR ((rdS s).map rC))), (.u 100, .u)] (Wk.keep [(100, 109)] rfl rfl ⟨ks rfl (.c (.ow rfl)), kb 109 rfl (.dt rfl rfl), trivial⟩) rfl ?_ (one_box rfl)
    rfl

set_option maxRecDepth 100000 in
set_option maxHeartbeats 1600000 in
theorem implReads_nil (s : Stm) (hs : szS s ≤ 1073741824) (hn : (rdS s).length = 0) : Fn Try.prog 24 [] [ad (rS s)] (.o (.c (.d (.val (.slice none 0 0))))) [] := by
  refine Fn.of_code Try.func24 rfl rfl HB.nil rfl rfl HB.nil rfl nonum ?_
  refine ACode.seq ?_
  refine ACode.region ?_
  refine .cons (St1.boxP rfl rfl rfl rfl rfl rfl) ?_
  refine .cons (.asg rfl rfl) ?_
  refine .nil ?_
  refine ks_n ?_
  refine ACode.seq ?_
  refine ACode.seq ?_
  refine ACode.region ?_
  refine .cons (.lN 9 rfl rfl rfl) ?_
  refine .cons (.cP [.tmp 3] rfl rfl rfl rfl (isStmt_fn s (by omega)) rfl) ?_
  refine .cons (.nt rfl rfl) ?_
  refine .nil ?_
  refine ks_n ?_
  refine ACode.condT rfl (fun h5 => ?_) (fun h5 => ?_)
  · try simp only [List.length_map, decide_eq_true_eq, decide_eq_false_iff_not, Bool.not_eq_true', Bool.not_eq_false', Bool.not_eq_true, Bool.not_eq_false] at h5
    refine ACode.seq ?_
    refine ACode.region ?_
    refine .cons (.asg rfl rfl) ?_
    refine .nil ?_
    refine ks_n ?_
    refine ACode.ret ?_
    refine ks_r ?_
    refine kf_ret rfl ?_ nobox
    rfl
  · try simp only [List.length_map, decide_eq_true_eq, decide_eq_false_iff_not, Bool.not_eq_true', Bool.not_eq_false', Bool.not_eq_true, Bool.not_eq_false] at h5
    refine ACode.skip ?_
    refine ks_n ?_
    refine ACode.seq ?_
    refine ACode.region ?_
    refine .cons (.lN 9 rfl rfl rfl) ?_
    refine .cons (.cP [.tmp 6] rfl rfl rfl rfl (ownStmt_fn s hs) rfl) ?_
    refine .cons (.fN 2 7 rfl rfl) ?_
    refine .cons (.cP [.tmp 8] rfl rfl rfl rfl (reads_nilS h5 hn) rfl) ?_
    refine .cons (.asg rfl rfl) ?_
    refine .nil ?_
    refine ks_n ?_
    refine ACode.ret ?_
    refine kf_ret rfl ?_ nobox
    rfl

end Go.Proofs.Ytigdfdhjnadieaa

/- Law FnPointStmt; condition: bytes. -/
namespace Go.Proofs.Ytigdfdhjnadieaa
set_option linter.unusedVariables false
set_option linter.unusedSimpArgs false
open Go.RowKit

theorem pt_reads {s : Stm} {p : List Int} (h : (ptT s p).2 = true) : rdS (ptT s p).1 ++ [(ptT s p).1.1] = (rdS s ++ [s.1]).map (mapC (ptG p)) := by
  obtain ⟨h1, h2, h3, e⟩ := ptT_ok h
  rw [e, rdS, rdS, if_pos (stmtV_up h3), if_pos (stmtV_up h1), mapS, rdE_map, List.map_append]; rfl
theorem pt_eval {s : Stm} {p : List Int} (h : (ptT s p).2 = true) {x : Acc} (hx : x ∈ rdS s ++ [s.1]) {y : Aff} (hy : y ∈ x.2) : evalOf y p = evalOf (ptG p y) [] := by
  obtain ⟨h1, h2, h3, e⟩ := ptT_ok h
  have hm : y ∈ affsS s := by
    rw [affsS]
    rcases List.mem_append.1 hx with hx | hx
    · rw [rdS, if_pos (stmtV_up h1)] at hx
      exact List.mem_append_right _ (rdE_aff s.2 hx y hy)
    · rw [List.mem_singleton] at hx; subst hx; exact List.mem_append_left _ hy
  have hm2 : ptG p y ∈ affsS (mapS (ptG p) s) := by
    rw [affsS, mapS]
    rcases List.mem_append.1 hx with hx | hx
    · rw [rdS, if_pos (stmtV_up h1)] at hx
      have : mapC (ptG p) x ∈ rdE (mapE (ptG p) s.2) := by rw [rdE_map]; exact List.mem_map_of_mem hx
      exact List.mem_append_right _ (rdE_aff _ this _ (List.mem_map_of_mem hy))
    · rw [List.mem_singleton] at hx; subst hx; exact List.mem_append_left _ (List.mem_map_of_mem hy)
  have v1 := (stmtV_aff h1 y hm).1
  have v2 := (stmtV_aff h3 _ hm2).1
  have h4 := (stmtV_ex h1).2.2.2
  have hp : isPt p = true := by
    cases hp : isPt p with
    | true => rfl
    | false => have := pt_isPt hp (by omega); rw [h2] at this; cases this
  rw [evalOf, evalOf, v1, v2, hp, if_pos (show (true && true) = true from rfl), if_pos (show (true && isPt []) = true from rfl), affEval, affEval, ptG, affEval]
  simp [evalTo]
theorem pt_end {s : Stm} {p : List Int} (h : (ptT s p).2 = true) : depS (ptT s p).1 = 0 ∧ stmtV 0 (ptT s p).1 = true := by
  obtain ⟨h1, h2, h3, e⟩ := ptT_ok h
  rw [e]
  have := (stmtV_iff (stmtV_up h3) (n := 0) (by omega)).1 h3
  have := depS_bd (s := mapS (ptG p) s)
  exact ⟨by omega, h3⟩
theorem accs_sz {s : Stm} {x : Acc} (hx : x ∈ rdS s ++ [s.1]) : x.2.length ≤ szS s := by
  rcases List.mem_append.1 hx with hx | hx
  · exact rdS_sz hx
  · rw [List.mem_singleton] at hx; subst hx
    have := szAs_len s.1.2
    simp only [szS, szC]; omega

theorem vA (s : Stm) : V.o (vD (.list 2 ((rdS s).map rC ++ [[dS s.1.1, dAs s.1.2]]))) = .o (vD (dCs (rdS s ++ [s.1]))) := by
  rw [dCs, List.map_append]; rfl
theorem vN0 {s : Stm} (h : rdS s = []) : V.o (vD (.list 2 [[dS s.1.1, dAs s.1.2]])) = .o (vD (dCs (rdS s ++ [s.1]))) := by
  rw [h]; rfl

set_option maxRecDepth 100000 in
set_option maxHeartbeats 1600000 in
theorem pointStmt_o {bs : List Int} (hl : bs.length ≤ 1048576) {s : Stm} {p : List Int} (hs : szS s ≤ 400) (hp : p.length ≤ 2) (hD : Fn Try.prog 36 [] [vD (dYs bs)] (.tup [ad (rS s), vD (dIs p)]) []) (hne : 0 < (rdS s).length) : Fn Try.prog 10 [] [vD (dYs bs)] (.o (bo1 true)) [] := by
  have z1 : szS (ptT s p).1 ≤ 400 := ptT_sz hs
  have z2 := rdS_len s
  have z3 := rdS_len (ptT s p).1
  refine Fn.code0 Try.func10 rfl rfl rfl rfl ?_
  refine ACode.seq ?_
  refine ACode.region ?_
  refine .cons (.asg rfl rfl) ?_
  refine .nil ?_
  refine ks_n ?_
  refine ACode.seq ?_
  refine ACode.seq ?_
  refine ACode.region ?_
  refine .cons (.mv rfl rfl) ?_
  refine .cons (.ln 5 1 1 rfl rfl rfl) ?_
  refine .cons (.gt rfl rfl rfl) ?_
  refine .nil ?_
  refine ks_n ?_
  refine .cD rfl (fun h15 => ?_) (fun h15 => ?_)
  · skip
    omega
  · skip
    refine ACode.skip ?_
    refine ks_n ?_
    refine ACode.seq ?_
    refine ACode.region ?_
    refine .cons (.mv rfl rfl) ?_
    refine .cons (.cP [.tmp 17] rfl rfl rfl rfl (hD) rfl) ?_
    refine .cons (.mv rfl rfl) ?_
    refine .cons (.ex rfl rfl rfl) ?_
    refine .cons (.ex rfl rfl rfl) ?_
    refine .cons (.al 103 [.string ByteArray.empty, .slice none 0 0, .int .i64 0, .int .i64 0, .slice none 0 0, .int .i64 0, .string ByteArray.empty, .slice none 0 0, .slice none 0 0] rfl rfl rfl) ?_
    refine .cons (.sT 9 true rfl rfl rfl rfl rfl rfl rfl) ?_
    refine .cons (.asg rfl rfl) ?_
    refine .nil ?_
    refine ks_n ?_
    refine ACode.seq ?_
    refine ACode.region ?_
    refine .cons (.bN 9 rfl rfl rfl rfl rfl rfl) ?_
    refine .cons (.mv rfl rfl) ?_
    refine .cons (.cP [.tmp 22, .tmp 23] rfl rfl rfl rfl (implPoint_fn s p (by omega) (by omega)) rfl) ?_
    refine .cons (.mv rfl rfl) ?_
    refine .cons (.ex rfl rfl rfl) ?_
    refine .cons (.ex rfl rfl rfl) ?_
    refine .cons (.al 105 [.string ByteArray.empty, .slice none 0 0, .int .i64 0, .int .i64 0, .slice none 0 0, .int .i64 0, .string ByteArray.empty, .slice none 0 0, .slice none 0 0] rfl rfl rfl) ?_
    refine .cons (.sT 9 true rfl rfl rfl rfl rfl rfl rfl) ?_
    refine .cons (.asg rfl rfl) ?_
    refine .nil ?_
    refine ks_n ?_
    refine ACode.seq ?_
    refine ACode.region ?_
    refine .cons (.bN 9 rfl rfl rfl rfl rfl rfl) ?_
    refine .cons (.mv rfl rfl) ?_
    refine .cons (.cP [.tmp 28, .tmp 29] rfl rfl rfl rfl (specPoint_fn s p (by omega) (by omega)) rfl) ?_
    refine .cons (.mv rfl rfl) ?_
    refine .cons (.ex rfl rfl rfl) ?_
    refine .cons (.ex rfl rfl rfl) ?_
    refine .cons (.al 107 [.string ByteArray.empty, .slice none 0 0, .int .i64 0, .int .i64 0, .slice none 0 0, .int .i64 0, .string ByteArray.empty, .slice none 0 0, .slice none 0 0] rfl rfl rfl) ?_
    refine .cons (.sT 9 true rfl rfl rfl rfl rfl rfl rfl) ?_
    refine .cons (.asg rfl rfl) ?_
    refine .nil ?_
    refine ks_n ?_
    refine ACode.seq ?_
    refine ACode.seq ?_
    refine ACode.region ?_
    refine .cons (.mv rfl rfl) ?_
    refine .cons (.mv rfl rfl) ?_
    refine .cons (St1.neqB rfl rfl rfl rfl (by kernel_rfl) rfl rfl) ?_
    refine .cons (.mv rfl rfl) ?_
    refine AOps.cases 36 _ rfl (fun g36 => ?_) (fun g36 => ?_)
    · try simp only [List.length_map, decide_eq_true_eq, decide_eq_false_iff_not, Bool.not_eq_true', Bool.not_eq_false', Bool.not_eq_true, Bool.not_eq_false] at g36
      refine .cons (.gF rfl rfl rfl) ?_
      refine .cons (.gF rfl rfl rfl) ?_
      refine .cons (.gF rfl rfl rfl) ?_
      refine .cons (.gF rfl rfl rfl) ?_
      refine .cons (.pT rfl rfl rfl) ?_
      refine .cons (.mv rfl rfl) ?_
      refine .cons (.gF rfl rfl rfl) ?_
      refine .cons (.gF rfl rfl rfl) ?_
      refine .cons (.pT rfl rfl rfl) ?_
      refine .nil ?_
      refine ks_n ?_
      refine ACode.condT rfl (fun _ => ?_) (fun h => by first | (cases h; done) | (simp [*] at h; done) | (exfalso; simp_all; done))
      refine ACode.seq ?_
      refine ACode.region ?_
      refine .cons (.mv rfl rfl) ?_
      refine .cons (.mv rfl rfl) ?_
      refine .cons (St1.eqlB rfl rfl rfl rfl (by kernel_rfl) rfl rfl) ?_
      refine .cons (.mv rfl rfl) ?_
      refine AOps.cases 49 _ rfl (fun g49 => ?_) (fun g49 => ?_)
      · try simp only [List.length_map, decide_eq_true_eq, decide_eq_false_iff_not, Bool.not_eq_true', Bool.not_eq_false', Bool.not_eq_true, Bool.not_eq_false] at g49
        refine .cons (.gT rfl rfl rfl (.bN 9 rfl rfl rfl rfl rfl rfl)) ?_
        refine .cons (.gT rfl rfl rfl (.bN 9 rfl rfl rfl rfl rfl rfl)) ?_
        refine .cons (.gT rfl rfl rfl (.cP [.tmp 50, .tmp 51] rfl rfl rfl rfl (implStmtSame_fn (ptT s p).1 (ptT s p).1 (by omega)) rfl)) ?_
        refine .cons (.pT rfl rfl rfl) ?_
        refine .cons (.asg rfl rfl) ?_
        refine .nil ?_
        refine ks_n ?_
        refine ACode.ret ?_
        refine ks_r ?_
        refine kf_ret rfl ?_ nobox
        first | rfl | exact leafB (decide_eq_true (by omega)) | (exfalso; omega) | (exfalso; simp_all [sameS_self]; done) | exact leafB f2 | first | rfl | (exfalso; omega) | (exfalso; simp_all only [beq_self_eq_true, sameS_self, Bool.true_eq_false, reduceCtorEq]; done) | exact leafB (decide_eq_true (by omega)) | with_reducible exact leafB (sameS_self _) | exact leafB (by simp) | (exfalso; simp_all [sameS_self]; done) | grind
      · try simp only [List.length_map, decide_eq_true_eq, decide_eq_false_iff_not, Bool.not_eq_true', Bool.not_eq_false', Bool.not_eq_true, Bool.not_eq_false] at g49
        refine .cons (.gF rfl rfl rfl) ?_
        refine .cons (.gF rfl rfl rfl) ?_
        refine .cons (.gF rfl rfl rfl) ?_
        refine .cons (.pF rfl rfl rfl) ?_
        refine .cons (.asg rfl rfl) ?_
        refine .nil ?_
        refine ks_n ?_
        refine ACode.ret ?_
        refine ks_r ?_
        refine kf_ret rfl ?_ nobox
        first | rfl | exact leafB (decide_eq_true (by omega)) | (exfalso; omega) | (exfalso; simp_all [sameS_self]; done) | exact leafB f2 | first | rfl | (exfalso; omega) | (exfalso; simp_all only [beq_self_eq_true, sameS_self, Bool.true_eq_false, reduceCtorEq]; done) | exact leafB (decide_eq_true (by omega)) | with_reducible exact leafB (sameS_self _) | exact leafB (by simp) | (exfalso; simp_all [sameS_self]; done) | grind
    · try simp only [List.length_map, decide_eq_true_eq, decide_eq_false_iff_not, Bool.not_eq_true', Bool.not_eq_false', Bool.not_eq_true, Bool.not_eq_false] at g36
      refine .cons (.gT rfl rfl rfl (.bN 9 rfl rfl rfl rfl rfl rfl)) ?_
      refine .cons (.gT rfl rfl rfl (.bN 9 rfl rfl rfl rfl rfl rfl)) ?_
      refine .cons (.gT rfl rfl rfl (.cP [.tmp 37, .tmp 38] rfl rfl rfl rfl (implStmtSame_fn (ptT s p).1 (ptT s p).1 (by omega)) rfl)) ?_
      refine .cons (.gT rfl rfl rfl (.nt rfl rfl)) ?_
      refine .cons (.pF rfl rfl rfl) ?_
      refine .cons (.mv rfl rfl) ?_
      refine AOps.cases 42 _ rfl (fun g42 => ?_) (fun g42 => ?_)
      · try simp only [List.length_map, decide_eq_true_eq, decide_eq_false_iff_not, Bool.not_eq_true', Bool.not_eq_false', Bool.not_eq_true, Bool.not_eq_false] at g42
        refine .cons (.gF rfl rfl rfl) ?_
        refine .cons (.gF rfl rfl rfl) ?_
        refine .cons (.pT rfl rfl rfl) ?_
        refine .nil ?_
        refine ks_n ?_
        refine ACode.condT rfl (fun _ => ?_) (fun h => by first | (cases h; done) | (simp [*] at h; done) | (exfalso; simp_all; done))
        refine ACode.seq ?_
        refine ACode.region ?_
        refine .cons (.mv rfl rfl) ?_
        refine .cons (.mv rfl rfl) ?_
        refine .cons (St1.eqlB rfl rfl rfl rfl (by kernel_rfl) rfl rfl) ?_
        refine .cons (.mv rfl rfl) ?_
        refine AOps.cases 49 _ rfl (fun g49 => ?_) (fun g49 => ?_)
        · try simp only [List.length_map, decide_eq_true_eq, decide_eq_false_iff_not, Bool.not_eq_true', Bool.not_eq_false', Bool.not_eq_true, Bool.not_eq_false] at g49
          refine .cons (.gT rfl rfl rfl (.bN 9 rfl rfl rfl rfl rfl rfl)) ?_
          refine .cons (.gT rfl rfl rfl (.bN 9 rfl rfl rfl rfl rfl rfl)) ?_
          refine .cons (.gT rfl rfl rfl (.cP [.tmp 50, .tmp 51] rfl rfl rfl rfl (implStmtSame_fn (ptT s p).1 (ptT s p).1 (by omega)) rfl)) ?_
          refine .cons (.pT rfl rfl rfl) ?_
          refine .cons (.asg rfl rfl) ?_
          refine .nil ?_
          refine ks_n ?_
          refine ACode.ret ?_
          refine ks_r ?_
          refine kf_ret rfl ?_ nobox
          first | rfl | exact leafB (decide_eq_true (by omega)) | (exfalso; omega) | (exfalso; simp_all [sameS_self]; done) | exact leafB f2 | first | rfl | (exfalso; omega) | (exfalso; simp_all only [beq_self_eq_true, sameS_self, Bool.true_eq_false, reduceCtorEq]; done) | exact leafB (decide_eq_true (by omega)) | with_reducible exact leafB (sameS_self _) | exact leafB (by simp) | (exfalso; simp_all [sameS_self]; done) | grind
        · try simp only [List.length_map, decide_eq_true_eq, decide_eq_false_iff_not, Bool.not_eq_true', Bool.not_eq_false', Bool.not_eq_true, Bool.not_eq_false] at g49
          refine .cons (.gF rfl rfl rfl) ?_
          refine .cons (.gF rfl rfl rfl) ?_
          refine .cons (.gF rfl rfl rfl) ?_
          refine .cons (.pF rfl rfl rfl) ?_
          refine .cons (.asg rfl rfl) ?_
          refine .nil ?_
          refine ks_n ?_
          refine ACode.ret ?_
          refine ks_r ?_
          refine kf_ret rfl ?_ nobox
          first | rfl | exact leafB (decide_eq_true (by omega)) | (exfalso; omega) | (exfalso; simp_all [sameS_self]; done) | exact leafB f2 | first | rfl | (exfalso; omega) | (exfalso; simp_all only [beq_self_eq_true, sameS_self, Bool.true_eq_false, reduceCtorEq]; done) | exact leafB (decide_eq_true (by omega)) | with_reducible exact leafB (sameS_self _) | exact leafB (by simp) | (exfalso; simp_all [sameS_self]; done) | grind
      · try simp only [List.length_map, decide_eq_true_eq, decide_eq_false_iff_not, Bool.not_eq_true', Bool.not_eq_false', Bool.not_eq_true, Bool.not_eq_false] at g42
        refine .cons (.gT rfl rfl rfl (.mv rfl rfl)) ?_
        refine .cons (.gT rfl rfl rfl (.nt rfl rfl)) ?_
        refine .cons (.pF rfl rfl rfl) ?_
        refine .nil ?_
        refine ks_n ?_
        refine ACode.condT rfl (fun h45 => ?_) (fun h45 => ?_)
        · try simp only [List.length_map, decide_eq_true_eq, decide_eq_false_iff_not, Bool.not_eq_true', Bool.not_eq_false', Bool.not_eq_true, Bool.not_eq_false] at h45
          refine ACode.seq ?_
          refine ACode.region ?_
          refine .cons (.mv rfl rfl) ?_
          refine .cons (.mv rfl rfl) ?_
          refine .cons (St1.eqlB rfl rfl rfl rfl (by kernel_rfl) rfl rfl) ?_
          refine .cons (.mv rfl rfl) ?_
          refine AOps.cases 49 _ rfl (fun g49 => ?_) (fun g49 => ?_)
          · try simp only [List.length_map, decide_eq_true_eq, decide_eq_false_iff_not, Bool.not_eq_true', Bool.not_eq_false', Bool.not_eq_true, Bool.not_eq_false] at g49
            refine .cons (.gT rfl rfl rfl (.bN 9 rfl rfl rfl rfl rfl rfl)) ?_
            refine .cons (.gT rfl rfl rfl (.bN 9 rfl rfl rfl rfl rfl rfl)) ?_
            refine .cons (.gT rfl rfl rfl (.cP [.tmp 50, .tmp 51] rfl rfl rfl rfl (implStmtSame_fn (ptT s p).1 (ptT s p).1 (by omega)) rfl)) ?_
            refine .cons (.pT rfl rfl rfl) ?_
            refine .cons (.asg rfl rfl) ?_
            refine .nil ?_
            refine ks_n ?_
            refine ACode.ret ?_
            refine ks_r ?_
            refine kf_ret rfl ?_ nobox
            first | rfl | exact leafB (decide_eq_true (by omega)) | (exfalso; omega) | (exfalso; simp_all [sameS_self]; done) | exact leafB f2 | first | rfl | (exfalso; omega) | (exfalso; simp_all only [beq_self_eq_true, sameS_self, Bool.true_eq_false, reduceCtorEq]; done) | exact leafB (decide_eq_true (by omega)) | with_reducible exact leafB (sameS_self _) | exact leafB (by simp) | (exfalso; simp_all [sameS_self]; done) | grind
          · try simp only [List.length_map, decide_eq_true_eq, decide_eq_false_iff_not, Bool.not_eq_true', Bool.not_eq_false', Bool.not_eq_true, Bool.not_eq_false] at g49
            refine .cons (.gF rfl rfl rfl) ?_
            refine .cons (.gF rfl rfl rfl) ?_
            refine .cons (.gF rfl rfl rfl) ?_
            refine .cons (.pF rfl rfl rfl) ?_
            refine .cons (.asg rfl rfl) ?_
            refine .nil ?_
            refine ks_n ?_
            refine ACode.ret ?_
            refine ks_r ?_
            refine kf_ret rfl ?_ nobox
            first | rfl | exact leafB (decide_eq_true (by omega)) | (exfalso; omega) | (exfalso; simp_all [sameS_self]; done) | exact leafB f2 | first | rfl | (exfalso; omega) | (exfalso; simp_all only [beq_self_eq_true, sameS_self, Bool.true_eq_false, reduceCtorEq]; done) | exact leafB (decide_eq_true (by omega)) | with_reducible exact leafB (sameS_self _) | exact leafB (by simp) | (exfalso; simp_all [sameS_self]; done) | grind
        · try simp only [List.length_map, decide_eq_true_eq, decide_eq_false_iff_not, Bool.not_eq_true', Bool.not_eq_false', Bool.not_eq_true, Bool.not_eq_false] at h45
          have hrd := pt_reads h45
          have hrl := congrArg List.length hrd
          simp only [List.length_append, List.length_map, List.length_cons, List.length_nil] at hrl
          obtain ⟨f1, f2⟩ := pt_end h45
          have hAl : (rdS s ++ [s.1]).length = (rdS s).length + 1 := by simp
          have hBl : (rdS (ptT s p).1 ++ [(ptT s p).1.1]).length = (rdS (ptT s p).1).length + 1 := by simp
          refine ACode.skip ?_
          refine ks_n ?_
          refine ACode.seq ?_
          refine ACode.drawK (by kernel_rfl) (by kernel_rfl) ?_
          refine .cons (.bN 9 rfl rfl rfl rfl rfl rfl) ?_
          refine .cons (.cO [.tmp 54] [(100, 155)] rfl rfl rfl rfl (implReads_own s (by omega) hne) rfl trivial flatS.nil (flatS.nil.cons rfl) HB.nil.data outS_one) ?_
          refine .cons (.fB 0 1 true rfl rfl rfl) ?_
          refine .cons (.bN 2 rfl rfl rfl rfl rfl rfl) ?_
          refine .cons (.li 25 1 0 [.tmp 57] rfl rfl rfl rfl rfl rfl) ?_
          refine .cons (St1.appD (rows := ((rdS s).map rC)) (e := 25) (sz := 1) (by' := 40) rfl rfl rfl rfl rfl (by kernel_rfl) rfl rfl rfl rfl (by simp [dR]) (by simp [dR] <;> omega) rfl) ?_
          refine .cons (.asg rfl rfl) ?_
          refine .nil ⟨by kernel_rfl, ?_⟩
          refine ks_n ?_
          refine ACode.seq ?_
          refine ACode.drawK (by kernel_rfl) (by kernel_rfl) ?_
          refine .cons (.bN 9 rfl rfl rfl rfl rfl rfl) ?_
          refine .cons (.cO [.tmp 60] [(100, 161)] rfl rfl rfl rfl (implReads_own (ptT s p).1 (by omega) (by omega)) rfl trivial flatS.nil (flatS.nil.cons rfl) HB.nil.data outS_one) ?_
          refine .cons (.fB 0 1 true rfl rfl rfl) ?_
          refine .cons (.bN 2 rfl rfl rfl rfl rfl rfl) ?_
          refine .cons (.li 25 1 0 [.tmp 63] rfl rfl rfl rfl rfl rfl) ?_
          refine .cons (St1.appD (rows := ((rdS (ptT s p).1).map rC)) (e := 25) (sz := 1) (by' := 40) rfl rfl rfl rfl rfl (by kernel_rfl) rfl rfl rfl rfl (by simp [dR]) (by simp [dR] <;> omega) rfl) ?_
          refine .cons (.asg rfl rfl) ?_
          refine .nil ⟨by kernel_rfl, ?_⟩
          refine ks_n ?_
          refine ACode.seq ?_
          refine ACode.seq ?_
          refine .keep [(.t 4, .v (.o (vD (dIs p)))), (.t 5, .v (.o (.c (.box 800 9 0 0)))), (.t 9, .v (.o (vD (dCs (rdS s ++ [s.1]))))), (.t 10, .v (.o (vD (dCs (rdS (ptT s p).1 ++ [(ptT s p).1.1]))))), (.b 800, .b 33 9 (dR ([rS (ptT s p).1]))), (.u 800, .u)] [(800, 105)] ⟨ks rfl .dt, ks rfl (.c .bx), ks rfl (.dt (vA s)), ks rfl (.dt (vA (ptT s p).1)), kb 105 rfl (.dt rfl), trivial⟩ ?_
          refine ACode.region ?_
          refine .cons (.asg rfl rfl) ?_
          refine .nil ?_
          refine ks_n ?_
          refine ACode.block ?_
          refine .loopK (fun m σ => (∃ i : Nat, m = (rdS s ++ [s.1]).length - i ∧ (i ≤ (rdS s ++ [s.1]).length) ∧ (True) ∧ σ = [(.t 4, .v (.o (vD (dIs p)))), (.t 5, .v (.o (.c (.box 110 9 0 0)))), (.t 9, .v (.o (vD (dCs (rdS s ++ [s.1]))))), (.t 10, .v (.o (vD (dCs (rdS (ptT s p).1 ++ [(ptT s p).1.1]))))), (.t 11, .v (.o (nat1 (i : Nat)))), (.b 110, .b 33 9 (dR ([rS (ptT s p).1]))), (.u 110, .u)])) [(110, 800)] ⟨0, rfl, by omega, trivial, rfl⟩ ⟨ks rfl .dt, ks rfl (.c .bx), ks rfl .dt, ks rfl .dt, ks rfl .dt, kb 800 rfl (.dt rfl), trivial⟩ ?_
          rintro m σ ⟨i, hm0, hi, hF, rfl⟩
          refine ACode.seq ?_
          refine ACode.seq ?_
          refine ACode.region ?_
          refine .cons (.mv rfl rfl) ?_
          refine .cons (.mv rfl rfl) ?_
          refine .cons (.ln 25 2 40 rfl rfl rfl) ?_
          refine .cons (.ls rfl rfl rfl) ?_
          refine .nil ?_
          refine ks_n ?_
          refine .cD rfl (fun h69 => ?_) (fun h69 => ?_)
          · skip
            obtain ⟨z, hx1⟩ : ∃ x, (rdS s ++ [s.1])[i]? = some x := ⟨_, List.getElem?_eq_getElem (by omega)⟩
            have hzs := accs_sz (List.mem_of_getElem? hx1)
            have hx2 : (rdS (ptT s p).1 ++ [(ptT s p).1.1])[i]? = some (mapC (ptG p) z) := by rw [hrd, List.getElem?_map, hx1]; rfl
            refine ACode.skip ?_
            refine ks_n ?_
            refine ACode.seq ?_
            refine ACode.block ?_
            refine ACode.seq ?_
            refine ACode.region ?_
            refine .cons (.asg rfl rfl) ?_
            refine .nil ?_
            refine ks_n ?_
            refine ACode.block ?_
            refine .loopK (fun m σ => (∃ k : Nat, m = z.2.length - k ∧ (k ≤ z.2.length) ∧ (True) ∧ σ = [(.t 4, .v (.o (vD (dIs p)))), (.t 5, .v (.o (.c (.box 120 9 0 0)))), (.t 9, .v (.o (vD (dCs (rdS s ++ [s.1]))))), (.t 10, .v (.o (vD (dCs (rdS (ptT s p).1 ++ [(ptT s p).1.1]))))), (.t 11, .v (.o (nat1 (i : Nat)))), (.t 12, .v (.o (nat1 (k : Nat)))), (.b 120, .b 33 9 (dR ([rS (ptT s p).1]))), (.u 120, .u)])) [(120, 110)] ⟨0, rfl, by omega, trivial, rfl⟩ ⟨ks rfl .dt, ks rfl (.c .bx), ks rfl .dt, ks rfl .dt, ks rfl .dt, ks rfl .dt, kb 110 rfl (.dt rfl), trivial⟩ ?_
            rintro m σ ⟨k, hm0, hj, hF2, rfl⟩
            refine ACode.seq ?_
            refine ACode.seq ?_
            refine ACode.region ?_
            refine .cons (.mv rfl rfl) ?_
            refine .cons (.mv rfl rfl) ?_
            refine .cons (.mv rfl rfl) ?_
            refine .cons (.xL 25 2 40 rfl rfl rfl rfl rfl (map_at hx1)) ?_
            refine .cons (.fP 1 0 false rfl rfl) ?_
            refine .cons (.l1 1 rfl rfl) ?_
            refine .cons (.ln 28 2 32 rfl rfl rfl) ?_
            refine .cons (.ls rfl rfl rfl) ?_
            refine .nil ?_
            refine ks_n ?_
            refine .cD rfl (fun h79 => ?_) (fun h79 => ?_)
            · skip
              obtain ⟨y, hy1⟩ : ∃ x, z.2[k]? = some x := ⟨_, List.getElem?_eq_getElem (by omega)⟩
              have hy2 : (mapC (ptG p) z).2[k]? = some (ptG p y) := by rw [mapC, List.getElem?_map, hy1]; rfl
              have hev := pt_eval h45 (List.mem_of_getElem? hx1) (List.mem_of_getElem? hy1)
              refine ACode.skip ?_
              refine ks_n ?_
              refine ACode.seq ?_
              refine ACode.block ?_
              refine ACode.seq ?_
              refine ACode.drawK (by kernel_rfl) (by kernel_rfl) ?_
              refine .cons (.mv rfl rfl) ?_
              refine .cons (.ln 25 2 40 rfl rfl rfl) ?_
              refine .cons (.mv rfl rfl) ?_
              refine .cons (.ln 25 2 40 rfl rfl rfl) ?_
              refine .cons (.ne rfl rfl rfl) ?_
              refine .cons (.mv rfl rfl) ?_
              refine .cND 87 rfl (fun g87 => ?_) (fun g87 => ?_)
              · skip
                refine .cons (.gF rfl rfl rfl) ?_
                refine .cons (.gF rfl rfl rfl) ?_
                refine .cons (.gF rfl rfl rfl) ?_
                refine .cons (.gF rfl rfl rfl) ?_
                refine .cons (.gF rfl rfl rfl) ?_
                refine .cons (.gF rfl rfl rfl) ?_
                refine .cons (.gF rfl rfl rfl) ?_
                refine .cons (.gF rfl rfl rfl) ?_
                refine .cons (.gF rfl rfl rfl) ?_
                refine .cons (.gF rfl rfl rfl) ?_
                refine .cons (.gF rfl rfl rfl) ?_
                refine .cons (.gF rfl rfl rfl) ?_
                refine .cons (.gF rfl rfl rfl) ?_
                refine .cons (.gF rfl rfl rfl) ?_
                refine .cons (.gF rfl rfl rfl) ?_
                refine .cons (.gF rfl rfl rfl) ?_
                refine .cons (.gF rfl rfl rfl) ?_
                refine .cons (.gF rfl rfl rfl) ?_
                refine .cons (.gF rfl rfl rfl) ?_
                refine .cons (.gF rfl rfl rfl) ?_
                refine .cons (.gF rfl rfl rfl) ?_
                refine .cons (.pT rfl rfl rfl) ?_
                refine .nil ⟨by kernel_rfl, ?_⟩
                refine ks_n ?_
                refine ACode.condT rfl (fun _ => ?_) (fun h => by first | (cases h; done) | (simp [*] at h; done) | (exfalso; simp_all; done))
                refine ACode.seq ?_
                refine ACode.region ?_
                refine .cons (.asg rfl rfl) ?_
                refine .nil ?_
                refine ks_n ?_
                refine ACode.ret ?_
                refine kb_r ?_
                refine ks_r ?_
                refine kl_r ?_
                refine kb_r ?_
                refine kb_r ?_
                refine ks_r ?_
                refine kl_r ?_
                refine kb_r ?_
                refine ks_r ?_
                refine kf_ret rfl ?_ nobox
                first | rfl | exact leafB (decide_eq_true (by omega)) | (exfalso; omega) | (exfalso; simp_all [sameS_self]; done) | exact leafB f2 | first | rfl | (exfalso; omega) | (exfalso; simp_all only [beq_self_eq_true, sameS_self, Bool.true_eq_false, reduceCtorEq]; done) | exact leafB (decide_eq_true (by omega)) | with_reducible exact leafB (sameS_self _) | exact leafB (by simp) | (exfalso; simp_all [sameS_self]; done) | grind
              · skip
                refine .cons (.gT rfl rfl rfl (.mv rfl rfl)) ?_
                refine .cons (.gT rfl rfl rfl (.mv rfl rfl)) ?_
                refine .cons (.gT rfl rfl rfl (.xL 25 2 40 rfl rfl rfl rfl rfl (map_at hx1))) ?_
                refine .cons (.gT rfl rfl rfl (.fP 1 0 false rfl rfl)) ?_
                refine .cons (.gT rfl rfl rfl (.l1 1 rfl rfl)) ?_
                refine .cons (.gT rfl rfl rfl (.mv rfl rfl)) ?_
                refine .cons (.gT rfl rfl rfl (.xL 28 2 32 rfl rfl rfl rfl rfl (map_at hy1))) ?_
                refine .cons (.gT rfl rfl rfl (.lN 2 rfl rfl rfl)) ?_
                refine .cons (.gT rfl rfl rfl (.mv rfl rfl)) ?_
                refine .cons (.gT rfl rfl rfl (.cP [.tmp 95, .tmp 96] rfl rfl rfl rfl (EvalAff_fn y p) rfl)) ?_
                refine .cons (.gT rfl rfl rfl (.mv rfl rfl)) ?_
                refine .cons (.gT rfl rfl rfl (.mv rfl rfl)) ?_
                refine .cons (.gT rfl rfl rfl (.xL 25 2 40 rfl rfl rfl rfl rfl (map_at hx2))) ?_
                refine .cons (.gT rfl rfl rfl (.fP 1 0 false rfl rfl)) ?_
                refine .cons (.gT rfl rfl rfl (.l1 1 rfl rfl)) ?_
                refine .cons (.gT rfl rfl rfl (.mv rfl rfl)) ?_
                refine .cons (.gT rfl rfl rfl (.xL 28 2 32 rfl rfl rfl rfl rfl (map_at hy2))) ?_
                refine .cons (.gT rfl rfl rfl (.lN 2 rfl rfl rfl)) ?_
                refine .cons (.gT rfl rfl rfl (St1.lit0D (e := 3) (sz := 1) (b := true) rfl rfl rfl rfl (by kernel_rfl))) ?_
                refine .cons (.gT rfl rfl rfl (.cP [.tmp 105, .tmp 106] rfl rfl rfl rfl (EvalAff_fn (ptG p y) []) rfl)) ?_
                refine .cons (.gT rfl rfl rfl (.ne rfl rfl rfl)) ?_
                refine .cons (.pF rfl rfl rfl) ?_
                refine .nil ⟨by kernel_rfl, ?_⟩
                refine ks_n ?_
                refine ACode.condT rfl (fun h109 => ?_) (fun h109 => ?_)
                · try simp only [List.length_map, decide_eq_true_eq, decide_eq_false_iff_not, Bool.not_eq_true', Bool.not_eq_false', Bool.not_eq_true, Bool.not_eq_false] at h109
                  refine ACode.seq ?_
                  refine ACode.region ?_
                  refine .cons (.asg rfl rfl) ?_
                  refine .nil ?_
                  refine ks_n ?_
                  refine ACode.ret ?_
                  refine kb_r ?_
                  refine ks_r ?_
                  refine kl_r ?_
                  refine kb_r ?_
                  refine kb_r ?_
                  refine ks_r ?_
                  refine kl_r ?_
                  refine kb_r ?_
                  refine ks_r ?_
                  refine kf_ret rfl ?_ nobox
                  first | rfl | exact leafB (decide_eq_true (by omega)) | (exfalso; omega) | (exfalso; simp_all [sameS_self]; done) | exact leafB f2 | first | rfl | (exfalso; omega) | (exfalso; simp_all only [beq_self_eq_true, sameS_self, Bool.true_eq_false, reduceCtorEq]; done) | exact leafB (decide_eq_true (by omega)) | with_reducible exact leafB (sameS_self _) | exact leafB (by simp) | (exfalso; simp_all [sameS_self]; done) | grind
                · try simp only [List.length_map, decide_eq_true_eq, decide_eq_false_iff_not, Bool.not_eq_true', Bool.not_eq_false', Bool.not_eq_true, Bool.not_eq_false] at h109
                  refine ACode.skip ?_
                  refine kb_n ?_
                  refine ks_n ?_
                  refine ACode.region ?_
                  refine .cons (.mv rfl rfl) ?_
                  refine .cons (.pl rfl rfl rfl) ?_
                  refine .cons (.asg rfl rfl) ?_
                  refine .nil ?_
                  refine kl_k [(120, 120)] ⟨k + 1, rfl, by omega, trivial, rfl⟩ ⟨ks rfl .dt, ks rfl (.c .bx), ks rfl .dt, ks rfl .dt, ks rfl .dt, ks rfl .dt, kb 120 rfl (.dt rfl), trivial⟩
            · skip
              refine ACode.exit ?_
              refine ks_e ?_
              refine kl_e ?_
              refine kb_hit ?_
              refine kb_n ?_
              refine ks_n ?_
              refine ACode.region ?_
              refine .cons (.mv rfl rfl) ?_
              refine .cons (.pl rfl rfl rfl) ?_
              refine .cons (.asg rfl rfl) ?_
              refine .nil ?_
              refine kl_k [(110, 120)] ⟨i + 1, rfl, by omega, trivial, rfl⟩ ⟨ks rfl .dt, ks rfl (.c .bx), ks rfl .dt, ks rfl .dt, ks rfl .dt, kb 120 rfl (.dt rfl), trivial⟩
          · skip
            refine ACode.exit ?_
            refine ks_e ?_
            refine kl_e ?_
            refine kb_hit ?_
            refine ks_n ?_
            refine ACode.seq ?_
            refine ACode.region ?_
            refine .cons (.bN 9 rfl rfl rfl rfl rfl rfl) ?_
            refine .cons (.cP [.tmp 110] rfl rfl rfl rfl (implDepth_fn (ptT s p).1 (by omega)) rfl) ?_
            refine .cons (.eq rfl rfl rfl) ?_
            refine .cons (.mv rfl rfl) ?_
            refine .cD 113 rfl (fun g113 => ?_) (fun g113 => ?_)
            · skip
              refine .cons (.gT rfl rfl rfl (.bN 9 rfl rfl rfl rfl rfl rfl)) ?_
              refine .cons (.gT rfl rfl rfl (.cP [.tmp 114, .const (.int .i64 (0))] rfl rfl rfl rfl (implStmtV_fn 0 (ptT s p).1 (by omega)) rfl)) ?_
              refine .cons (.pT rfl rfl rfl) ?_
              refine .cons (.asg rfl rfl) ?_
              refine .nil ?_
              refine ks_n ?_
              refine ACode.ret ?_
              refine kf_ret rfl ?_ nobox
              first | rfl | exact leafB (decide_eq_true (by omega)) | (exfalso; omega) | (exfalso; simp_all [sameS_self]; done) | exact leafB f2 | first | rfl | (exfalso; omega) | (exfalso; simp_all only [beq_self_eq_true, sameS_self, Bool.true_eq_false, reduceCtorEq]; done) | exact leafB (decide_eq_true (by omega)) | with_reducible exact leafB (sameS_self _) | exact leafB (by simp) | (exfalso; simp_all [sameS_self]; done) | grind
            · skip
              refine .cons (.gF rfl rfl rfl) ?_
              refine .cons (.gF rfl rfl rfl) ?_
              refine .cons (.pF rfl rfl rfl) ?_
              refine .cons (.asg rfl rfl) ?_
              refine .nil ?_
              refine ks_n ?_
              refine ACode.ret ?_
              refine kf_ret rfl ?_ nobox
              first | rfl | exact leafB (decide_eq_true (by omega)) | (exfalso; omega) | (exfalso; simp_all [sameS_self]; done) | exact leafB f2 | first | rfl | (exfalso; omega) | (exfalso; simp_all only [beq_self_eq_true, sameS_self, Bool.true_eq_false, reduceCtorEq]; done) | exact leafB (decide_eq_true (by omega)) | with_reducible exact leafB (sameS_self _) | exact leafB (by simp) | (exfalso; simp_all [sameS_self]; done) | grind

set_option maxRecDepth 100000 in
set_option maxHeartbeats 1600000 in
theorem pointStmt_n {bs : List Int} (hl : bs.length ≤ 1048576) {s : Stm} {p : List Int} (hs : szS s ≤ 400) (hp : p.length ≤ 2) (hD : Fn Try.prog 36 [] [vD (dYs bs)] (.tup [ad (rS s), vD (dIs p)]) []) (hz : (rdS s).length = 0) : Fn Try.prog 10 [] [vD (dYs bs)] (.o (bo1 true)) [] := by
  have z1 : szS (ptT s p).1 ≤ 400 := ptT_sz hs
  have z2 := rdS_len s
  have z3 := rdS_len (ptT s p).1
  refine Fn.code0 Try.func10 rfl rfl rfl rfl ?_
  refine ACode.seq ?_
  refine ACode.region ?_
  refine .cons (.asg rfl rfl) ?_
  refine .nil ?_
  refine ks_n ?_
  refine ACode.seq ?_
  refine ACode.seq ?_
  refine ACode.region ?_
  refine .cons (.mv rfl rfl) ?_
  refine .cons (.ln 5 1 1 rfl rfl rfl) ?_
  refine .cons (.gt rfl rfl rfl) ?_
  refine .nil ?_
  refine ks_n ?_
  refine .cD rfl (fun h15 => ?_) (fun h15 => ?_)
  · skip
    omega
  · skip
    refine ACode.skip ?_
    refine ks_n ?_
    refine ACode.seq ?_
    refine ACode.region ?_
    refine .cons (.mv rfl rfl) ?_
    refine .cons (.cP [.tmp 17] rfl rfl rfl rfl (hD) rfl) ?_
    refine .cons (.mv rfl rfl) ?_
    refine .cons (.ex rfl rfl rfl) ?_
    refine .cons (.ex rfl rfl rfl) ?_
    refine .cons (.al 103 [.string ByteArray.empty, .slice none 0 0, .int .i64 0, .int .i64 0, .slice none 0 0, .int .i64 0, .string ByteArray.empty, .slice none 0 0, .slice none 0 0] rfl rfl rfl) ?_
    refine .cons (.sT 9 true rfl rfl rfl rfl rfl rfl rfl) ?_
    refine .cons (.asg rfl rfl) ?_
    refine .nil ?_
    refine ks_n ?_
    refine ACode.seq ?_
    refine ACode.region ?_
    refine .cons (.bN 9 rfl rfl rfl rfl rfl rfl) ?_
    refine .cons (.mv rfl rfl) ?_
    refine .cons (.cP [.tmp 22, .tmp 23] rfl rfl rfl rfl (implPoint_fn s p (by omega) (by omega)) rfl) ?_
    refine .cons (.mv rfl rfl) ?_
    refine .cons (.ex rfl rfl rfl) ?_
    refine .cons (.ex rfl rfl rfl) ?_
    refine .cons (.al 105 [.string ByteArray.empty, .slice none 0 0, .int .i64 0, .int .i64 0, .slice none 0 0, .int .i64 0, .string ByteArray.empty, .slice none 0 0, .slice none 0 0] rfl rfl rfl) ?_
    refine .cons (.sT 9 true rfl rfl rfl rfl rfl rfl rfl) ?_
    refine .cons (.asg rfl rfl) ?_
    refine .nil ?_
    refine ks_n ?_
    refine ACode.seq ?_
    refine ACode.region ?_
    refine .cons (.bN 9 rfl rfl rfl rfl rfl rfl) ?_
    refine .cons (.mv rfl rfl) ?_
    refine .cons (.cP [.tmp 28, .tmp 29] rfl rfl rfl rfl (specPoint_fn s p (by omega) (by omega)) rfl) ?_
    refine .cons (.mv rfl rfl) ?_
    refine .cons (.ex rfl rfl rfl) ?_
    refine .cons (.ex rfl rfl rfl) ?_
    refine .cons (.al 107 [.string ByteArray.empty, .slice none 0 0, .int .i64 0, .int .i64 0, .slice none 0 0, .int .i64 0, .string ByteArray.empty, .slice none 0 0, .slice none 0 0] rfl rfl rfl) ?_
    refine .cons (.sT 9 true rfl rfl rfl rfl rfl rfl rfl) ?_
    refine .cons (.asg rfl rfl) ?_
    refine .nil ?_
    refine ks_n ?_
    refine ACode.seq ?_
    refine ACode.seq ?_
    refine ACode.region ?_
    refine .cons (.mv rfl rfl) ?_
    refine .cons (.mv rfl rfl) ?_
    refine .cons (St1.neqB rfl rfl rfl rfl (by kernel_rfl) rfl rfl) ?_
    refine .cons (.mv rfl rfl) ?_
    refine AOps.cases 36 _ rfl (fun g36 => ?_) (fun g36 => ?_)
    · try simp only [List.length_map, decide_eq_true_eq, decide_eq_false_iff_not, Bool.not_eq_true', Bool.not_eq_false', Bool.not_eq_true, Bool.not_eq_false] at g36
      refine .cons (.gF rfl rfl rfl) ?_
      refine .cons (.gF rfl rfl rfl) ?_
      refine .cons (.gF rfl rfl rfl) ?_
      refine .cons (.gF rfl rfl rfl) ?_
      refine .cons (.pT rfl rfl rfl) ?_
      refine .cons (.mv rfl rfl) ?_
      refine .cons (.gF rfl rfl rfl) ?_
      refine .cons (.gF rfl rfl rfl) ?_
      refine .cons (.pT rfl rfl rfl) ?_
      refine .nil ?_
      refine ks_n ?_
      refine ACode.condT rfl (fun _ => ?_) (fun h => by first | (cases h; done) | (simp [*] at h; done) | (exfalso; simp_all; done))
      refine ACode.seq ?_
      refine ACode.region ?_
      refine .cons (.mv rfl rfl) ?_
      refine .cons (.mv rfl rfl) ?_
      refine .cons (St1.eqlB rfl rfl rfl rfl (by kernel_rfl) rfl rfl) ?_
      refine .cons (.mv rfl rfl) ?_
      refine AOps.cases 49 _ rfl (fun g49 => ?_) (fun g49 => ?_)
      · try simp only [List.length_map, decide_eq_true_eq, decide_eq_false_iff_not, Bool.not_eq_true', Bool.not_eq_false', Bool.not_eq_true, Bool.not_eq_false] at g49
        refine .cons (.gT rfl rfl rfl (.bN 9 rfl rfl rfl rfl rfl rfl)) ?_
        refine .cons (.gT rfl rfl rfl (.bN 9 rfl rfl rfl rfl rfl rfl)) ?_
        refine .cons (.gT rfl rfl rfl (.cP [.tmp 50, .tmp 51] rfl rfl rfl rfl (implStmtSame_fn (ptT s p).1 (ptT s p).1 (by omega)) rfl)) ?_
        refine .cons (.pT rfl rfl rfl) ?_
        refine .cons (.asg rfl rfl) ?_
        refine .nil ?_
        refine ks_n ?_
        refine ACode.ret ?_
        refine ks_r ?_
        refine kf_ret rfl ?_ nobox
        first | rfl | exact leafB (decide_eq_true (by omega)) | (exfalso; omega) | (exfalso; simp_all [sameS_self]; done) | exact leafB f2 | first | rfl | (exfalso; omega) | (exfalso; simp_all only [beq_self_eq_true, sameS_self, Bool.true_eq_false, reduceCtorEq]; done) | exact leafB (decide_eq_true (by omega)) | with_reducible exact leafB (sameS_self _) | exact leafB (by simp) | (exfalso; simp_all [sameS_self]; done) | grind
      · try simp only [List.length_map, decide_eq_true_eq, decide_eq_false_iff_not, Bool.not_eq_true', Bool.not_eq_false', Bool.not_eq_true, Bool.not_eq_false] at g49
        refine .cons (.gF rfl rfl rfl) ?_
        refine .cons (.gF rfl rfl rfl) ?_
        refine .cons (.gF rfl rfl rfl) ?_
        refine .cons (.pF rfl rfl rfl) ?_
        refine .cons (.asg rfl rfl) ?_
        refine .nil ?_
        refine ks_n ?_
        refine ACode.ret ?_
        refine ks_r ?_
        refine kf_ret rfl ?_ nobox
        first | rfl | exact leafB (decide_eq_true (by omega)) | (exfalso; omega) | (exfalso; simp_all [sameS_self]; done) | exact leafB f2 | first | rfl | (exfalso; omega) | (exfalso; simp_all only [beq_self_eq_true, sameS_self, Bool.true_eq_false, reduceCtorEq]; done) | exact leafB (decide_eq_true (by omega)) | with_reducible exact leafB (sameS_self _) | exact leafB (by simp) | (exfalso; simp_all [sameS_self]; done) | grind
    · try simp only [List.length_map, decide_eq_true_eq, decide_eq_false_iff_not, Bool.not_eq_true', Bool.not_eq_false', Bool.not_eq_true, Bool.not_eq_false] at g36
      refine .cons (.gT rfl rfl rfl (.bN 9 rfl rfl rfl rfl rfl rfl)) ?_
      refine .cons (.gT rfl rfl rfl (.bN 9 rfl rfl rfl rfl rfl rfl)) ?_
      refine .cons (.gT rfl rfl rfl (.cP [.tmp 37, .tmp 38] rfl rfl rfl rfl (implStmtSame_fn (ptT s p).1 (ptT s p).1 (by omega)) rfl)) ?_
      refine .cons (.gT rfl rfl rfl (.nt rfl rfl)) ?_
      refine .cons (.pF rfl rfl rfl) ?_
      refine .cons (.mv rfl rfl) ?_
      refine AOps.cases 42 _ rfl (fun g42 => ?_) (fun g42 => ?_)
      · try simp only [List.length_map, decide_eq_true_eq, decide_eq_false_iff_not, Bool.not_eq_true', Bool.not_eq_false', Bool.not_eq_true, Bool.not_eq_false] at g42
        refine .cons (.gF rfl rfl rfl) ?_
        refine .cons (.gF rfl rfl rfl) ?_
        refine .cons (.pT rfl rfl rfl) ?_
        refine .nil ?_
        refine ks_n ?_
        refine ACode.condT rfl (fun _ => ?_) (fun h => by first | (cases h; done) | (simp [*] at h; done) | (exfalso; simp_all; done))
        refine ACode.seq ?_
        refine ACode.region ?_
        refine .cons (.mv rfl rfl) ?_
        refine .cons (.mv rfl rfl) ?_
        refine .cons (St1.eqlB rfl rfl rfl rfl (by kernel_rfl) rfl rfl) ?_
        refine .cons (.mv rfl rfl) ?_
        refine AOps.cases 49 _ rfl (fun g49 => ?_) (fun g49 => ?_)
        · try simp only [List.length_map, decide_eq_true_eq, decide_eq_false_iff_not, Bool.not_eq_true', Bool.not_eq_false', Bool.not_eq_true, Bool.not_eq_false] at g49
          refine .cons (.gT rfl rfl rfl (.bN 9 rfl rfl rfl rfl rfl rfl)) ?_
          refine .cons (.gT rfl rfl rfl (.bN 9 rfl rfl rfl rfl rfl rfl)) ?_
          refine .cons (.gT rfl rfl rfl (.cP [.tmp 50, .tmp 51] rfl rfl rfl rfl (implStmtSame_fn (ptT s p).1 (ptT s p).1 (by omega)) rfl)) ?_
          refine .cons (.pT rfl rfl rfl) ?_
          refine .cons (.asg rfl rfl) ?_
          refine .nil ?_
          refine ks_n ?_
          refine ACode.ret ?_
          refine ks_r ?_
          refine kf_ret rfl ?_ nobox
          first | rfl | exact leafB (decide_eq_true (by omega)) | (exfalso; omega) | (exfalso; simp_all [sameS_self]; done) | exact leafB f2 | first | rfl | (exfalso; omega) | (exfalso; simp_all only [beq_self_eq_true, sameS_self, Bool.true_eq_false, reduceCtorEq]; done) | exact leafB (decide_eq_true (by omega)) | with_reducible exact leafB (sameS_self _) | exact leafB (by simp) | (exfalso; simp_all [sameS_self]; done) | grind
        · try simp only [List.length_map, decide_eq_true_eq, decide_eq_false_iff_not, Bool.not_eq_true', Bool.not_eq_false', Bool.not_eq_true, Bool.not_eq_false] at g49
          refine .cons (.gF rfl rfl rfl) ?_
          refine .cons (.gF rfl rfl rfl) ?_
          refine .cons (.gF rfl rfl rfl) ?_
          refine .cons (.pF rfl rfl rfl) ?_
          refine .cons (.asg rfl rfl) ?_
          refine .nil ?_
          refine ks_n ?_
          refine ACode.ret ?_
          refine ks_r ?_
          refine kf_ret rfl ?_ nobox
          first | rfl | exact leafB (decide_eq_true (by omega)) | (exfalso; omega) | (exfalso; simp_all [sameS_self]; done) | exact leafB f2 | first | rfl | (exfalso; omega) | (exfalso; simp_all only [beq_self_eq_true, sameS_self, Bool.true_eq_false, reduceCtorEq]; done) | exact leafB (decide_eq_true (by omega)) | with_reducible exact leafB (sameS_self _) | exact leafB (by simp) | (exfalso; simp_all [sameS_self]; done) | grind
      · try simp only [List.length_map, decide_eq_true_eq, decide_eq_false_iff_not, Bool.not_eq_true', Bool.not_eq_false', Bool.not_eq_true, Bool.not_eq_false] at g42
        refine .cons (.gT rfl rfl rfl (.mv rfl rfl)) ?_
        refine .cons (.gT rfl rfl rfl (.nt rfl rfl)) ?_
        refine .cons (.pF rfl rfl rfl) ?_
        refine .nil ?_
        refine ks_n ?_
        refine ACode.condT rfl (fun h45 => ?_) (fun h45 => ?_)
        · try simp only [List.length_map, decide_eq_true_eq, decide_eq_false_iff_not, Bool.not_eq_true', Bool.not_eq_false', Bool.not_eq_true, Bool.not_eq_false] at h45
          refine ACode.seq ?_
          refine ACode.region ?_
          refine .cons (.mv rfl rfl) ?_
          refine .cons (.mv rfl rfl) ?_
          refine .cons (St1.eqlB rfl rfl rfl rfl (by kernel_rfl) rfl rfl) ?_
          refine .cons (.mv rfl rfl) ?_
          refine AOps.cases 49 _ rfl (fun g49 => ?_) (fun g49 => ?_)
          · try simp only [List.length_map, decide_eq_true_eq, decide_eq_false_iff_not, Bool.not_eq_true', Bool.not_eq_false', Bool.not_eq_true, Bool.not_eq_false] at g49
            refine .cons (.gT rfl rfl rfl (.bN 9 rfl rfl rfl rfl rfl rfl)) ?_
            refine .cons (.gT rfl rfl rfl (.bN 9 rfl rfl rfl rfl rfl rfl)) ?_
            refine .cons (.gT rfl rfl rfl (.cP [.tmp 50, .tmp 51] rfl rfl rfl rfl (implStmtSame_fn (ptT s p).1 (ptT s p).1 (by omega)) rfl)) ?_
            refine .cons (.pT rfl rfl rfl) ?_
            refine .cons (.asg rfl rfl) ?_
            refine .nil ?_
            refine ks_n ?_
            refine ACode.ret ?_
            refine ks_r ?_
            refine kf_ret rfl ?_ nobox
            first | rfl | exact leafB (decide_eq_true (by omega)) | (exfalso; omega) | (exfalso; simp_all [sameS_self]; done) | exact leafB f2 | first | rfl | (exfalso; omega) | (exfalso; simp_all only [beq_self_eq_true, sameS_self, Bool.true_eq_false, reduceCtorEq]; done) | exact leafB (decide_eq_true (by omega)) | with_reducible exact leafB (sameS_self _) | exact leafB (by simp) | (exfalso; simp_all [sameS_self]; done) | grind
          · try simp only [List.length_map, decide_eq_true_eq, decide_eq_false_iff_not, Bool.not_eq_true', Bool.not_eq_false', Bool.not_eq_true, Bool.not_eq_false] at g49
            refine .cons (.gF rfl rfl rfl) ?_
            refine .cons (.gF rfl rfl rfl) ?_
            refine .cons (.gF rfl rfl rfl) ?_
            refine .cons (.pF rfl rfl rfl) ?_
            refine .cons (.asg rfl rfl) ?_
            refine .nil ?_
            refine ks_n ?_
            refine ACode.ret ?_
            refine ks_r ?_
            refine kf_ret rfl ?_ nobox
            first | rfl | exact leafB (decide_eq_true (by omega)) | (exfalso; omega) | (exfalso; simp_all [sameS_self]; done) | exact leafB f2 | first | rfl | (exfalso; omega) | (exfalso; simp_all only [beq_self_eq_true, sameS_self, Bool.true_eq_false, reduceCtorEq]; done) | exact leafB (decide_eq_true (by omega)) | with_reducible exact leafB (sameS_self _) | exact leafB (by simp) | (exfalso; simp_all [sameS_self]; done) | grind
        · try simp only [List.length_map, decide_eq_true_eq, decide_eq_false_iff_not, Bool.not_eq_true', Bool.not_eq_false', Bool.not_eq_true, Bool.not_eq_false] at h45
          have hrd := pt_reads h45
          have hrl := congrArg List.length hrd
          simp only [List.length_append, List.length_map, List.length_cons, List.length_nil] at hrl
          obtain ⟨f1, f2⟩ := pt_end h45
          have hAl : (rdS s ++ [s.1]).length = (rdS s).length + 1 := by simp
          have hBl : (rdS (ptT s p).1 ++ [(ptT s p).1.1]).length = (rdS (ptT s p).1).length + 1 := by simp
          refine ACode.skip ?_
          refine ks_n ?_
          refine ACode.seq ?_
          refine ACode.drawK (by kernel_rfl) (by kernel_rfl) ?_
          refine .cons (.bN 9 rfl rfl rfl rfl rfl rfl) ?_
          refine .cons (.cP [.tmp 54] rfl rfl rfl rfl (implReads_nil s (by omega) hz) rfl) ?_
          refine .cons (.fB 0 1 true rfl rfl rfl) ?_
          refine .cons (.bN 2 rfl rfl rfl rfl rfl rfl) ?_
          refine .cons (.li 25 1 0 [.tmp 57] rfl rfl rfl rfl rfl rfl) ?_
          refine .cons (St1.appND (e := 25) (sz := 1) (by' := 40) rfl rfl rfl rfl rfl (by kernel_rfl) rfl rfl rfl (by simp)) ?_
          refine .cons (.asg rfl rfl) ?_
          refine .nil ⟨by kernel_rfl, ?_⟩
          refine ks_n ?_
          refine ACode.seq ?_
          refine ACode.drawK (by kernel_rfl) (by kernel_rfl) ?_
          refine .cons (.bN 9 rfl rfl rfl rfl rfl rfl) ?_
          refine .cons (.cP [.tmp 60] rfl rfl rfl rfl (implReads_nil (ptT s p).1 (by omega) (by omega)) rfl) ?_
          refine .cons (.fB 0 1 true rfl rfl rfl) ?_
          refine .cons (.bN 2 rfl rfl rfl rfl rfl rfl) ?_
          refine .cons (.li 25 1 0 [.tmp 63] rfl rfl rfl rfl rfl rfl) ?_
          refine .cons (St1.appND (e := 25) (sz := 1) (by' := 40) rfl rfl rfl rfl rfl (by kernel_rfl) rfl rfl rfl (by simp)) ?_
          refine .cons (.asg rfl rfl) ?_
          refine .nil ⟨by kernel_rfl, ?_⟩
          refine ks_n ?_
          refine ACode.seq ?_
          refine ACode.seq ?_
          refine .keep [(.t 4, .v (.o (vD (dIs p)))), (.t 5, .v (.o (.c (.box 800 9 0 0)))), (.t 9, .v (.o (vD (dCs (rdS s ++ [s.1]))))), (.t 10, .v (.o (vD (dCs (rdS (ptT s p).1 ++ [(ptT s p).1.1]))))), (.b 800, .b 33 9 (dR ([rS (ptT s p).1]))), (.u 800, .u)] [(800, 105)] ⟨ks rfl .dt, ks rfl (.c .bx), ks rfl (.dt (vN0 (List.eq_nil_of_length_eq_zero (by omega)))), ks rfl (.dt (vN0 (List.eq_nil_of_length_eq_zero (by omega)))), kb 105 rfl (.dt rfl), trivial⟩ ?_
          refine ACode.region ?_
          refine .cons (.asg rfl rfl) ?_
          refine .nil ?_
          refine ks_n ?_
          refine ACode.block ?_
          refine .loopK (fun m σ => (∃ i : Nat, m = (rdS s ++ [s.1]).length - i ∧ (i ≤ (rdS s ++ [s.1]).length) ∧ (True) ∧ σ = [(.t 4, .v (.o (vD (dIs p)))), (.t 5, .v (.o (.c (.box 110 9 0 0)))), (.t 9, .v (.o (vD (dCs (rdS s ++ [s.1]))))), (.t 10, .v (.o (vD (dCs (rdS (ptT s p).1 ++ [(ptT s p).1.1]))))), (.t 11, .v (.o (nat1 (i : Nat)))), (.b 110, .b 33 9 (dR ([rS (ptT s p).1]))), (.u 110, .u)])) [(110, 800)] ⟨0, rfl, by omega, trivial, rfl⟩ ⟨ks rfl .dt, ks rfl (.c .bx), ks rfl .dt, ks rfl .dt, ks rfl .dt, kb 800 rfl (.dt rfl), trivial⟩ ?_
          rintro m σ ⟨i, hm0, hi, hF, rfl⟩
          refine ACode.seq ?_
          refine ACode.seq ?_
          refine ACode.region ?_
          refine .cons (.mv rfl rfl) ?_
          refine .cons (.mv rfl rfl) ?_
          refine .cons (.ln 25 2 40 rfl rfl rfl) ?_
          refine .cons (.ls rfl rfl rfl) ?_
          refine .nil ?_
          refine ks_n ?_
          refine .cD rfl (fun h69 => ?_) (fun h69 => ?_)
          · skip
            obtain ⟨z, hx1⟩ : ∃ x, (rdS s ++ [s.1])[i]? = some x := ⟨_, List.getElem?_eq_getElem (by omega)⟩
            have hzs := accs_sz (List.mem_of_getElem? hx1)
            have hx2 : (rdS (ptT s p).1 ++ [(ptT s p).1.1])[i]? = some (mapC (ptG p) z) := by rw [hrd, List.getElem?_map, hx1]; rfl
            refine ACode.skip ?_
            refine ks_n ?_
            refine ACode.seq ?_
            refine ACode.block ?_
            refine ACode.seq ?_
            refine ACode.region ?_
            refine .cons (.asg rfl rfl) ?_
            refine .nil ?_
            refine ks_n ?_
            refine ACode.block ?_
            refine .loopK (fun m σ => (∃ k : Nat, m = z.2.length - k ∧ (k ≤ z.2.length) ∧ (True) ∧ σ = [(.t 4, .v (.o (vD (dIs p)))), (.t 5, .v (.o (.c (.box 120 9 0 0)))), (.t 9, .v (.o (vD (dCs (rdS s ++ [s.1]))))), (.t 10, .v (.o (vD (dCs (rdS (ptT s p).1 ++ [(ptT s p).1.1]))))), (.t 11, .v (.o (nat1 (i : Nat)))), (.t 12, .v (.o (nat1 (k : Nat)))), (.b 120, .b 33 9 (dR ([rS (ptT s p).1]))), (.u 120, .u)])) [(120, 110)] ⟨0, rfl, by omega, trivial, rfl⟩ ⟨ks rfl .dt, ks rfl (.c .bx), ks rfl .dt, ks rfl .dt, ks rfl .dt, ks rfl .dt, kb 110 rfl (.dt rfl), trivial⟩ ?_
            rintro m σ ⟨k, hm0, hj, hF2, rfl⟩
            refine ACode.seq ?_
            refine ACode.seq ?_
            refine ACode.region ?_
            refine .cons (.mv rfl rfl) ?_
            refine .cons (.mv rfl rfl) ?_
            refine .cons (.mv rfl rfl) ?_
            refine .cons (.xL 25 2 40 rfl rfl rfl rfl rfl (map_at hx1)) ?_
            refine .cons (.fP 1 0 false rfl rfl) ?_
            refine .cons (.l1 1 rfl rfl) ?_
            refine .cons (.ln 28 2 32 rfl rfl rfl) ?_
            refine .cons (.ls rfl rfl rfl) ?_
            refine .nil ?_
            refine ks_n ?_
            refine .cD rfl (fun h79 => ?_) (fun h79 => ?_)
            · skip
              obtain ⟨y, hy1⟩ : ∃ x, z.2[k]? = some x := ⟨_, List.getElem?_eq_getElem (by omega)⟩
              have hy2 : (mapC (ptG p) z).2[k]? = some (ptG p y) := by rw [mapC, List.getElem?_map, hy1]; rfl
              have hev := pt_eval h45 (List.mem_of_getElem? hx1) (List.mem_of_getElem? hy1)
              refine ACode.skip ?_
              refine ks_n ?_
              refine ACode.seq ?_
              refine ACode.block ?_
              refine ACode.seq ?_
              refine ACode.drawK (by kernel_rfl) (by kernel_rfl) ?_
              refine .cons (.mv rfl rfl) ?_
              refine .cons (.ln 25 2 40 rfl rfl rfl) ?_
              refine .cons (.mv rfl rfl) ?_
              refine .cons (.ln 25 2 40 rfl rfl rfl) ?_
              refine .cons (.ne rfl rfl rfl) ?_
              refine .cons (.mv rfl rfl) ?_
              refine .cND 87 rfl (fun g87 => ?_) (fun g87 => ?_)
              · skip
                refine .cons (.gF rfl rfl rfl) ?_
                refine .cons (.gF rfl rfl rfl) ?_
                refine .cons (.gF rfl rfl rfl) ?_
                refine .cons (.gF rfl rfl rfl) ?_
                refine .cons (.gF rfl rfl rfl) ?_
                refine .cons (.gF rfl rfl rfl) ?_
                refine .cons (.gF rfl rfl rfl) ?_
                refine .cons (.gF rfl rfl rfl) ?_
                refine .cons (.gF rfl rfl rfl) ?_
                refine .cons (.gF rfl rfl rfl) ?_
                refine .cons (.gF rfl rfl rfl) ?_
                refine .cons (.gF rfl rfl rfl) ?_
                refine .cons (.gF rfl rfl rfl) ?_
                refine .cons (.gF rfl rfl rfl) ?_
                refine .cons (.gF rfl rfl rfl) ?_
                refine .cons (.gF rfl rfl rfl) ?_
                refine .cons (.gF rfl rfl rfl) ?_
                refine .cons (.gF rfl rfl rfl) ?_
                refine .cons (.gF rfl rfl rfl) ?_
                refine .cons (.gF rfl rfl rfl) ?_
                refine .cons (.gF rfl rfl rfl) ?_
                refine .cons (.pT rfl rfl rfl) ?_
                refine .nil ⟨by kernel_rfl, ?_⟩
                refine ks_n ?_
                refine ACode.condT rfl (fun _ => ?_) (fun h => by first | (cases h; done) | (simp [*] at h; done) | (exfalso; simp_all; done))
                refine ACode.seq ?_
                refine ACode.region ?_
                refine .cons (.asg rfl rfl) ?_
                refine .nil ?_
                refine ks_n ?_
                refine ACode.ret ?_
                refine kb_r ?_
                refine ks_r ?_
                refine kl_r ?_
                refine kb_r ?_
                refine kb_r ?_
                refine ks_r ?_
                refine kl_r ?_
                refine kb_r ?_
                refine ks_r ?_
                refine kf_ret rfl ?_ nobox
                first | rfl | exact leafB (decide_eq_true (by omega)) | (exfalso; omega) | (exfalso; simp_all [sameS_self]; done) | exact leafB f2 | first | rfl | (exfalso; omega) | (exfalso; simp_all only [beq_self_eq_true, sameS_self, Bool.true_eq_false, reduceCtorEq]; done) | exact leafB (decide_eq_true (by omega)) | with_reducible exact leafB (sameS_self _) | exact leafB (by simp) | (exfalso; simp_all [sameS_self]; done) | grind
              · skip
                refine .cons (.gT rfl rfl rfl (.mv rfl rfl)) ?_
                refine .cons (.gT rfl rfl rfl (.mv rfl rfl)) ?_
                refine .cons (.gT rfl rfl rfl (.xL 25 2 40 rfl rfl rfl rfl rfl (map_at hx1))) ?_
                refine .cons (.gT rfl rfl rfl (.fP 1 0 false rfl rfl)) ?_
                refine .cons (.gT rfl rfl rfl (.l1 1 rfl rfl)) ?_
                refine .cons (.gT rfl rfl rfl (.mv rfl rfl)) ?_
                refine .cons (.gT rfl rfl rfl (.xL 28 2 32 rfl rfl rfl rfl rfl (map_at hy1))) ?_
                refine .cons (.gT rfl rfl rfl (.lN 2 rfl rfl rfl)) ?_
                refine .cons (.gT rfl rfl rfl (.mv rfl rfl)) ?_
                refine .cons (.gT rfl rfl rfl (.cP [.tmp 95, .tmp 96] rfl rfl rfl rfl (EvalAff_fn y p) rfl)) ?_
                refine .cons (.gT rfl rfl rfl (.mv rfl rfl)) ?_
                refine .cons (.gT rfl rfl rfl (.mv rfl rfl)) ?_
                refine .cons (.gT rfl rfl rfl (.xL 25 2 40 rfl rfl rfl rfl rfl (map_at hx2))) ?_
                refine .cons (.gT rfl rfl rfl (.fP 1 0 false rfl rfl)) ?_
                refine .cons (.gT rfl rfl rfl (.l1 1 rfl rfl)) ?_
                refine .cons (.gT rfl rfl rfl (.mv rfl rfl)) ?_
                refine .cons (.gT rfl rfl rfl (.xL 28 2 32 rfl rfl rfl rfl rfl (map_at hy2))) ?_
                refine .cons (.gT rfl rfl rfl (.lN 2 rfl rfl rfl)) ?_
                refine .cons (.gT rfl rfl rfl (St1.lit0D (e := 3) (sz := 1) (b := true) rfl rfl rfl rfl (by kernel_rfl))) ?_
                refine .cons (.gT rfl rfl rfl (.cP [.tmp 105, .tmp 106] rfl rfl rfl rfl (EvalAff_fn (ptG p y) []) rfl)) ?_
                refine .cons (.gT rfl rfl rfl (.ne rfl rfl rfl)) ?_
                refine .cons (.pF rfl rfl rfl) ?_
                refine .nil ⟨by kernel_rfl, ?_⟩
                refine ks_n ?_
                refine ACode.condT rfl (fun h109 => ?_) (fun h109 => ?_)
                · try simp only [List.length_map, decide_eq_true_eq, decide_eq_false_iff_not, Bool.not_eq_true', Bool.not_eq_false', Bool.not_eq_true, Bool.not_eq_false] at h109
                  refine ACode.seq ?_
                  refine ACode.region ?_
                  refine .cons (.asg rfl rfl) ?_
                  refine .nil ?_
                  refine ks_n ?_
                  refine ACode.ret ?_
                  refine kb_r ?_
                  refine ks_r ?_
                  refine kl_r ?_
                  refine kb_r ?_
                  refine kb_r ?_
                  refine ks_r ?_
                  refine kl_r ?_
                  refine kb_r ?_
                  refine ks_r ?_
                  refine kf_ret rfl ?_ nobox
                  first | rfl | exact leafB (decide_eq_true (by omega)) | (exfalso; omega) | (exfalso; simp_all [sameS_self]; done) | exact leafB f2 | first | rfl | (exfalso; omega) | (exfalso; simp_all only [beq_self_eq_true, sameS_self, Bool.true_eq_false, reduceCtorEq]; done) | exact leafB (decide_eq_true (by omega)) | with_reducible exact leafB (sameS_self _) | exact leafB (by simp) | (exfalso; simp_all [sameS_self]; done) | grind
                · try simp only [List.length_map, decide_eq_true_eq, decide_eq_false_iff_not, Bool.not_eq_true', Bool.not_eq_false', Bool.not_eq_true, Bool.not_eq_false] at h109
                  refine ACode.skip ?_
                  refine kb_n ?_
                  refine ks_n ?_
                  refine ACode.region ?_
                  refine .cons (.mv rfl rfl) ?_
                  refine .cons (.pl rfl rfl rfl) ?_
                  refine .cons (.asg rfl rfl) ?_
                  refine .nil ?_
                  refine kl_k [(120, 120)] ⟨k + 1, rfl, by omega, trivial, rfl⟩ ⟨ks rfl .dt, ks rfl (.c .bx), ks rfl .dt, ks rfl .dt, ks rfl .dt, ks rfl .dt, kb 120 rfl (.dt rfl), trivial⟩
            · skip
              refine ACode.exit ?_
              refine ks_e ?_
              refine kl_e ?_
              refine kb_hit ?_
              refine kb_n ?_
              refine ks_n ?_
              refine ACode.region ?_
              refine .cons (.mv rfl rfl) ?_
              refine .cons (.pl rfl rfl rfl) ?_
              refine .cons (.asg rfl rfl) ?_
              refine .nil ?_
              refine kl_k [(110, 120)] ⟨i + 1, rfl, by omega, trivial, rfl⟩ ⟨ks rfl .dt, ks rfl (.c .bx), ks rfl .dt, ks rfl .dt, ks rfl .dt, kb 120 rfl (.dt rfl), trivial⟩
          · skip
            refine ACode.exit ?_
            refine ks_e ?_
            refine kl_e ?_
            refine kb_hit ?_
            refine ks_n ?_
            refine ACode.seq ?_
            refine ACode.region ?_
            refine .cons (.bN 9 rfl rfl rfl rfl rfl rfl) ?_
            refine .cons (.cP [.tmp 110] rfl rfl rfl rfl (implDepth_fn (ptT s p).1 (by omega)) rfl) ?_
            refine .cons (.eq rfl rfl rfl) ?_
            refine .cons (.mv rfl rfl) ?_
            refine .cD 113 rfl (fun g113 => ?_) (fun g113 => ?_)
            · skip
              refine .cons (.gT rfl rfl rfl (.bN 9 rfl rfl rfl rfl rfl rfl)) ?_
              refine .cons (.gT rfl rfl rfl (.cP [.tmp 114, .const (.int .i64 (0))] rfl rfl rfl rfl (implStmtV_fn 0 (ptT s p).1 (by omega)) rfl)) ?_
              refine .cons (.pT rfl rfl rfl) ?_
              refine .cons (.asg rfl rfl) ?_
              refine .nil ?_
              refine ks_n ?_
              refine ACode.ret ?_
              refine kf_ret rfl ?_ nobox
              first | rfl | exact leafB (decide_eq_true (by omega)) | (exfalso; omega) | (exfalso; simp_all [sameS_self]; done) | exact leafB f2 | first | rfl | (exfalso; omega) | (exfalso; simp_all only [beq_self_eq_true, sameS_self, Bool.true_eq_false, reduceCtorEq]; done) | exact leafB (decide_eq_true (by omega)) | with_reducible exact leafB (sameS_self _) | exact leafB (by simp) | (exfalso; simp_all [sameS_self]; done) | grind
            · skip
              refine .cons (.gF rfl rfl rfl) ?_
              refine .cons (.gF rfl rfl rfl) ?_
              refine .cons (.pF rfl rfl rfl) ?_
              refine .cons (.asg rfl rfl) ?_
              refine .nil ?_
              refine ks_n ?_
              refine ACode.ret ?_
              refine kf_ret rfl ?_ nobox
              first | rfl | exact leafB (decide_eq_true (by omega)) | (exfalso; omega) | (exfalso; simp_all [sameS_self]; done) | exact leafB f2 | first | rfl | (exfalso; omega) | (exfalso; simp_all only [beq_self_eq_true, sameS_self, Bool.true_eq_false, reduceCtorEq]; done) | exact leafB (decide_eq_true (by omega)) | with_reducible exact leafB (sameS_self _) | exact leafB (by simp) | (exfalso; simp_all [sameS_self]; done) | grind

set_option maxRecDepth 100000 in
set_option maxHeartbeats 1600000 in
theorem pointStmt_big (a : Option Addr) (n c : Nat) (hn : 1048576 < n) : Fn Try.prog 10 [] [vX a n c] (.o (bo1 true)) [] := by
  refine Fn.code0 Try.func10 rfl rfl rfl rfl ?_
  refine ACode.seq ?_
  refine ACode.region ?_
  refine .cons (.asg rfl rfl) ?_
  refine .nil ?_
  refine ks_n ?_
  refine ACode.seq ?_
  refine ACode.seq ?_
  refine ACode.region ?_
  refine .cons (.mv rfl rfl) ?_
  refine .cons (St1.lenN (e := 5) (m := 1) (by' := 1) rfl rfl rfl rfl rfl (by kernel_rfl) rfl) ?_
  refine .cons (.gt rfl rfl rfl) ?_
  refine .nil ?_
  refine ks_n ?_
  refine .cD rfl (fun h15 => ?_) (fun h15 => ?_)
  · skip
    refine ACode.seq ?_
    refine ACode.region ?_
    refine .cons (.asg rfl rfl) ?_
    refine .nil ?_
    refine ks_n ?_
    refine ACode.ret ?_
    refine ks_r ?_
    refine kf_ret rfl ?_ nobox
    rfl
  · skip
    omega

theorem lawPointStmt (a : Option Addr) (n c : Nat) (bs : List Int) (w : World) (hx : n ≤ 1048576 → Sl Sh.byte (fun b => b < w.heap.size) w (.slice a n c) bs) (hbs : ∀ x ∈ bs, 0 ≤ x ∧ x ≤ 255) : Truth Try.prog 10 #[.slice a n c] w :=
  law1 ⟨hx, hbs⟩ (fun h => pointStmt_big a n c h) (fun hl hb => by
    obtain ⟨s, x, h1, h2, h3, h4, h5⟩ := drawPt_fn hb
    by_cases e : 0 < (rdS s).length
    · exact pointStmt_o hl h1 h3 h5 e
    · exact pointStmt_n hl h1 h3 h5 (by omega))

end Go.Proofs.Ytigdfdhjnadieaa
