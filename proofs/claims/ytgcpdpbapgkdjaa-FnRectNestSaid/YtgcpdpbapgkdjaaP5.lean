/- Part 5 of 5 of the proof: laws on memory and data, then what the functions compute, in the order in which they build on each other; conditions: those that each theorem names. -/
import Derived.Test.YtgcpdpbapgkdjaaP4

/- Ranges of loops and points in nests; condition: small nests. -/
namespace Go.Proofs.Ytgcpdpbapgkdjaa
set_option linter.unusedVariables false
set_option linter.unusedSimpArgs false
open Go.RowKit

set_option maxRecDepth 100000 in
set_option maxHeartbeats 1600000 in
theorem span_fn {l : Lp} {p : List Int} (h : okR l p) : Fn Try.prog 68 [] [ad (rL l), vD (dIs p)] (.tup [nat1 (loF p l.1), nat1 (hiF p l.2)]) [] := by
  obtain ⟨x0, hx0⟩ := ne_at h.n1
  obtain ⟨y0, hy0⟩ := ne_at h.n2
  have hb1 := h.b1
  have hb2 := h.b2
  refine Fn.code0 Try.func68 rfl rfl rfl rfl ?_
  refine ACode.seq ?_
  refine ACode.region ?_
  refine .cons (St1.boxP rfl rfl rfl rfl rfl rfl) ?_
  refine .cons (.asg rfl rfl) ?_
  refine .cons (.asg rfl rfl) ?_
  refine .nil ?_
  refine ks_n ?_
  refine ACode.seq ?_
  refine ACode.drawK (by kernel_rfl) (by kernel_rfl) ?_
  refine .cons (.fP 0 0 false rfl rfl) ?_
  refine .cons (.l1 1 rfl rfl) ?_
  refine .cons (.xL 51 2 32 (i := 0) rfl rfl rfl rfl rfl (map_at hx0)) ?_
  refine .cons (.lN 2 rfl rfl rfl) ?_
  refine .cons (.mv rfl rfl) ?_
  refine .cons (.cP [.tmp 15, .tmp 16] rfl rfl rfl rfl (eval_fn (h.v1 _ (List.mem_of_getElem? hx0)) h.sm h.ln) rfl) ?_
  refine .cons (.fP 1 0 false rfl rfl) ?_
  refine .cons (.l1 1 rfl rfl) ?_
  refine .cons (.xL 51 2 32 (i := 0) rfl rfl rfl rfl rfl (map_at hy0)) ?_
  refine .cons (.lN 2 rfl rfl rfl) ?_
  refine .cons (.mv rfl rfl) ?_
  refine .cons (.cP [.tmp 21, .tmp 22] rfl rfl rfl rfl (eval_fn (h.v2 _ (List.mem_of_getElem? hy0)) h.sm h.ln) rfl) ?_
  refine .cons (.asg rfl rfl) ?_
  refine .cons (.asg rfl rfl) ?_
  refine .nil ⟨by kernel_rfl, ?_⟩
  refine ks_n ?_
  refine ACode.seq ?_
  refine ACode.seq ?_
  refine ACode.region ?_
  refine .cons (.fP 0 0 false rfl rfl) ?_
  refine .cons (.l1 1 rfl rfl) ?_
  refine .cons (.ln 51 2 32 rfl rfl rfl) ?_
  refine .cons (.mv rfl rfl) ?_
  refine .nil ?_
  refine ks_n ?_
  refine ACode.block ?_
  refine .loopK (fun m σ => (∃ (i : Nat) (c : Int), m = l.1.length - i ∧ (i ≤ l.1.length) ∧ (loF p l.1 = mxF p c (l.1.drop i)) ∧ σ = [(.t 1, .v (.o (vD (dIs p)))), (.t 2, .v (.o (.c (.ptr (rL l))))), (.t 6, .v (.o (nat1 c))), (.t 7, .v (.o (nat1 (affEval y0 p)))), (.t 25, .v (.o (vD (dAs l.1)))), (.t 26, .v (.o (nat1 (l.1.length : Nat)))), (.t 27, .v (.o (nat1 (i : Nat))))])) [] ⟨0, affEval x0 p, rfl, (by omega), (loF_zero hx0), rfl⟩ ⟨ks rfl .dt, ks rfl .dt, ks rfl .dt, ks rfl .dt, ks rfl .dt, ks rfl .dt, ks rfl .dt, trivial⟩ ?_
  rintro m σ ⟨i, c, hm0, hi, hF, rfl⟩
  refine ACode.seq ?_
  refine ACode.region ?_
  refine .cons (.ls rfl rfl rfl) ?_
  refine .nil ?_
  refine ks_n ?_
  refine ACode.seq ?_
  refine .cD rfl (fun h28 => ?_) (fun h28 => ?_)
  · skip
    obtain ⟨x, hx1⟩ : ∃ x, l.1[i]? = some x := ⟨_, List.getElem?_eq_getElem (by omega)⟩
    refine ACode.skip ?_
    refine ks_n ?_
    refine ACode.seq ?_
    refine ACode.block ?_
    refine ACode.seq ?_
    refine ACode.region ?_
    refine .cons (.xL 51 2 32 rfl rfl rfl rfl rfl) ?_
    refine .cons (.lN 2 rfl rfl rfl) ?_
    refine .cons (.al 109 [.slice none 0 0, .int .i64 0] rfl rfl rfl) ?_
    refine .cons (.sT 2 true rfl rfl rfl rfl rfl rfl rfl) ?_
    refine .nil ?_
    refine ks_n ?_
    refine ACode.region ?_
    refine .cons (.mv rfl rfl) ?_
    refine .cons (.bN 2 rfl rfl rfl rfl rfl rfl) ?_
    refine .cons (.mv rfl rfl) ?_
    refine .cons (.cP [.tmp 32, .tmp 33] rfl rfl rfl rfl (eval_fn (h.v1 _ (List.mem_of_getElem? hx1)) h.sm h.ln) rfl) ?_
    refine .cons (St1.max2 rfl rfl rfl rfl rfl rfl) ?_
    refine .cons (.asg rfl rfl) ?_
    refine .nil ?_
    refine kb_n ?_
    refine ks_n ?_
    refine ACode.region ?_
    refine .cons (.pl rfl rfl rfl) ?_
    refine .cons (.mv rfl rfl) ?_
    refine .nil ?_
    refine kl_k [] ⟨i + 1, max c (affEval x p), rfl, by omega, by rw [hF, mxF_drop hx1], rfl⟩ ⟨ks rfl .dt, ks rfl .dt, ks rfl .dt, ks rfl .dt, ks rfl .dt, ks rfl .dt, ks rfl .dt, trivial⟩
  · skip
    have hlo : V.o (nat1 c) = .o (nat1 (loF p l.1)) := by rw [hF, mxF_end (by omega)]
    refine ACode.exit ?_
    refine ks_e ?_
    refine kl_e ?_
    refine kb_hit ?_
    refine ks_n ?_
    refine ACode.seq ?_
    refine ACode.seq ?_
    refine ACode.region ?_
    refine .cons (.fP 1 0 false rfl rfl) ?_
    refine .cons (.l1 1 rfl rfl) ?_
    refine .cons (.ln 51 2 32 rfl rfl rfl) ?_
    refine .cons (.mv rfl rfl) ?_
    refine .nil ?_
    refine ks_n ?_
    refine ACode.block ?_
    refine .loopK (fun m σ => (∃ (i : Nat) (c : Int), m = l.2.length - i ∧ (i ≤ l.2.length) ∧ (hiF p l.2 = mnF p c (l.2.drop i)) ∧ σ = [(.t 1, .v (.o (vD (dIs p)))), (.t 2, .v (.o (.c (.ptr (rL l))))), (.t 6, .v (.o (nat1 (loF p l.1)))), (.t 7, .v (.o (nat1 c))), (.t 38, .v (.o (vD (dAs l.2)))), (.t 39, .v (.o (nat1 (l.2.length : Nat)))), (.t 40, .v (.o (nat1 (i : Nat))))])) [] ⟨0, affEval y0 p, rfl, (by omega), (hiF_zero hy0), rfl⟩ ⟨ks rfl .dt, ks rfl .dt, ks rfl (.dt (by first | rfl | exact hlo)), ks rfl .dt, ks rfl .dt, ks rfl .dt, ks rfl .dt, trivial⟩ ?_
    rintro m σ ⟨i, c, hm0, hi, hF, rfl⟩
    refine ACode.seq ?_
    refine ACode.region ?_
    refine .cons (.ls rfl rfl rfl) ?_
    refine .nil ?_
    refine ks_n ?_
    refine ACode.seq ?_
    refine .cD rfl (fun h41 => ?_) (fun h41 => ?_)
    · skip
      obtain ⟨x, hx1⟩ : ∃ x, l.2[i]? = some x := ⟨_, List.getElem?_eq_getElem (by omega)⟩
      refine ACode.skip ?_
      refine ks_n ?_
      refine ACode.seq ?_
      refine ACode.block ?_
      refine ACode.seq ?_
      refine ACode.region ?_
      refine .cons (.xL 51 2 32 rfl rfl rfl rfl rfl) ?_
      refine .cons (.lN 2 rfl rfl rfl) ?_
      refine .cons (.al 111 [.slice none 0 0, .int .i64 0] rfl rfl rfl) ?_
      refine .cons (.sT 2 true rfl rfl rfl rfl rfl rfl rfl) ?_
      refine .nil ?_
      refine ks_n ?_
      refine ACode.region ?_
      refine .cons (.mv rfl rfl) ?_
      refine .cons (.bN 2 rfl rfl rfl rfl rfl rfl) ?_
      refine .cons (.mv rfl rfl) ?_
      refine .cons (.cP [.tmp 45, .tmp 46] rfl rfl rfl rfl (eval_fn (h.v2 _ (List.mem_of_getElem? hx1)) h.sm h.ln) rfl) ?_
      refine .cons (St1.min2 rfl rfl rfl rfl rfl rfl) ?_
      refine .cons (.asg rfl rfl) ?_
      refine .nil ?_
      refine kb_n ?_
      refine ks_n ?_
      refine ACode.region ?_
      refine .cons (.pl rfl rfl rfl) ?_
      refine .cons (.mv rfl rfl) ?_
      refine .nil ?_
      refine kl_k [] ⟨i + 1, min c (affEval x p), rfl, by omega, by rw [hF, mnF_drop hx1], rfl⟩ ⟨ks rfl .dt, ks rfl .dt, ks rfl (.dt (by first | rfl | exact hlo)), ks rfl .dt, ks rfl .dt, ks rfl .dt, ks rfl .dt, trivial⟩
    · skip
      have hhi : c = hiF p l.2 := by rw [hF, mnF_end (by omega)]
      refine ACode.exit ?_
      refine ks_e ?_
      refine kl_e ?_
      refine kb_hit ?_
      refine ks_n ?_
      refine ACode.seq ?_
      refine ACode.region ?_
      refine .cons (.mv rfl rfl) ?_
      refine .cons (.mv rfl rfl) ?_
      refine .cons (.asg rfl rfl) ?_
      refine .cons (.asg rfl rfl) ?_
      refine .nil ?_
      refine ks_n ?_
      refine ACode.ret ?_
      refine kf_ret rfl ?_ nobox
      rw [hhi]; rfl

set_option maxRecDepth 100000 in
set_option maxHeartbeats 1600000 in
theorem l2Range_fn {l : Lp} {p : List Int} (h : okR l p) : Fn Try.prog 71 [] [ad (rL l), vD (dIs p)] (.tup [nat1 (loF p l.1), nat1 (hiF p l.2)]) [] := by
  obtain ⟨x0, hx0⟩ := ne_at h.n1
  obtain ⟨y0, hy0⟩ := ne_at h.n2
  have hb1 := h.b1
  have hb2 := h.b2
  refine Fn.code0 Try.func71 rfl rfl rfl rfl ?_
  refine ACode.seq ?_
  refine ACode.region ?_
  refine .cons (St1.boxP rfl rfl rfl rfl rfl rfl) ?_
  refine .cons (.asg rfl rfl) ?_
  refine .cons (.asg rfl rfl) ?_
  refine .nil ?_
  refine ks_n ?_
  refine ACode.seq ?_
  refine ACode.region ?_
  refine .cons (.fP 0 0 false rfl rfl) ?_
  refine .cons (.l1 1 rfl rfl) ?_
  refine .cons (.xL 51 2 32 (i := 0) rfl rfl rfl rfl rfl (map_at hx0)) ?_
  refine .cons (.lN 2 rfl rfl rfl) ?_
  refine .cons (.mv rfl rfl) ?_
  refine .cons (.cP [.tmp 15, .tmp 16] rfl rfl rfl rfl (l1Eval_fn (h.v1 _ (List.mem_of_getElem? hx0)) h.sm h.ln) rfl) ?_
  refine .cons (.asg rfl rfl) ?_
  refine .nil ?_
  refine ks_n ?_
  refine ACode.seq ?_
  refine ACode.region ?_
  refine .cons (.fP 1 0 false rfl rfl) ?_
  refine .cons (.l1 1 rfl rfl) ?_
  refine .cons (.xL 51 2 32 (i := 0) rfl rfl rfl rfl rfl (map_at hy0)) ?_
  refine .cons (.lN 2 rfl rfl rfl) ?_
  refine .cons (.mv rfl rfl) ?_
  refine .cons (.cP [.tmp 21, .tmp 22] rfl rfl rfl rfl (l1Eval_fn (h.v2 _ (List.mem_of_getElem? hy0)) h.sm h.ln) rfl) ?_
  refine .cons (.asg rfl rfl) ?_
  refine .nil ?_
  refine ks_n ?_
  refine ACode.seq ?_
  refine ACode.seq ?_
  refine ACode.region ?_
  refine .cons (.asg rfl rfl) ?_
  refine .nil ?_
  refine ks_n ?_
  refine ACode.block ?_
  refine .loopK (fun m σ => (∃ (i : Nat) (c : Int), m = l.1.length - i ∧ (i ≤ l.1.length) ∧ (loF p l.1 = mxF p c (l.1.drop i)) ∧ σ = [(.t 1, .v (.o (vD (dIs p)))), (.t 2, .v (.o (.c (.ptr (rL l))))), (.t 6, .v (.o (nat1 c))), (.t 7, .v (.o (nat1 (affEval y0 p)))), (.t 8, .v (.o (nat1 (i : Nat))))])) [] ⟨1, affEval x0 p, rfl, (by have := (List.getElem?_eq_some_iff.1 hx0).1; omega), (loF_one hx0), rfl⟩ ⟨ks rfl .dt, ks rfl .dt, ks rfl (.dt (by first | rfl | exact congrArg (fun z => V.o (nat1 z)) (mx_le h40).symm | exact congrArg (fun z => V.o (nat1 z)) (mx_lt h40).symm)), ks rfl .dt, ks rfl .dt, trivial⟩ ?_
  rintro m σ ⟨i, c, hm0, hi, hF, rfl⟩
  refine ACode.seq ?_
  refine ACode.seq ?_
  refine ACode.region ?_
  refine .cons (.mv rfl rfl) ?_
  refine .cons (.fP 0 0 false rfl rfl) ?_
  refine .cons (.l1 1 rfl rfl) ?_
  refine .cons (.ln 51 2 32 rfl rfl rfl) ?_
  refine .cons (.ls rfl rfl rfl) ?_
  refine .nil ?_
  refine ks_n ?_
  refine .cD rfl (fun h28 => ?_) (fun h28 => ?_)
  · skip
    obtain ⟨x, hx1⟩ : ∃ x, l.1[i]? = some x := ⟨_, List.getElem?_eq_getElem (by omega)⟩
    refine ACode.skip ?_
    refine ks_n ?_
    refine ACode.seq ?_
    refine ACode.block ?_
    refine ACode.seq ?_
    refine ACode.region ?_
    refine .cons (.fP 0 0 false rfl rfl) ?_
    refine .cons (.l1 1 rfl rfl) ?_
    refine .cons (.mv rfl rfl) ?_
    refine .cons (.xL 51 2 32 rfl rfl rfl rfl rfl) ?_
    refine .cons (.lN 2 rfl rfl rfl) ?_
    refine .cons (.mv rfl rfl) ?_
    refine .cons (.cP [.tmp 35, .tmp 36] rfl rfl rfl rfl (l1Eval_fn (h.v1 _ (List.mem_of_getElem? hx1)) h.sm h.ln) rfl) ?_
    refine .cons (.asg rfl rfl) ?_
    refine .nil ?_
    refine ks_n ?_
    refine ACode.seq ?_
    refine ACode.region ?_
    refine .cons (.mv rfl rfl) ?_
    refine .cons (.mv rfl rfl) ?_
    refine .cons (.gt rfl rfl rfl) ?_
    refine .nil ?_
    refine ks_n ?_
    refine .cD rfl (fun h40 => ?_) (fun h40 => ?_)
    · skip
      refine ACode.region ?_
      refine .cons (.mv rfl rfl) ?_
      refine .cons (.asg rfl rfl) ?_
      refine .nil ?_
      refine kb_n ?_
      refine ks_n ?_
      refine ACode.region ?_
      refine .cons (.mv rfl rfl) ?_
      refine .cons (.pl rfl rfl rfl) ?_
      refine .cons (.asg rfl rfl) ?_
      refine .nil ?_
      refine kl_k [] ⟨i + 1, max c (affEval x p), rfl, by omega, by rw [hF, mxF_drop hx1], rfl⟩ ⟨ks rfl .dt, ks rfl .dt, ks rfl (.dt (by first | rfl | exact congrArg (fun z => V.o (nat1 z)) (mx_le h40).symm | exact congrArg (fun z => V.o (nat1 z)) (mx_lt h40).symm)), ks rfl .dt, ks rfl .dt, trivial⟩
    · skip
      refine ACode.skip ?_
      refine kb_n ?_
      refine ks_n ?_
      refine ACode.region ?_
      refine .cons (.mv rfl rfl) ?_
      refine .cons (.pl rfl rfl rfl) ?_
      refine .cons (.asg rfl rfl) ?_
      refine .nil ?_
      refine kl_k [] ⟨i + 1, max c (affEval x p), rfl, by omega, by rw [hF, mxF_drop hx1], rfl⟩ ⟨ks rfl .dt, ks rfl .dt, ks rfl (.dt (by first | rfl | exact congrArg (fun z => V.o (nat1 z)) (mx_le h40).symm | exact congrArg (fun z => V.o (nat1 z)) (mx_lt h40).symm)), ks rfl .dt, ks rfl .dt, trivial⟩
  · skip
    have hlo : V.o (nat1 c) = .o (nat1 (loF p l.1)) := by rw [hF, mxF_end (by omega)]
    refine ACode.exit ?_
    refine ks_e ?_
    refine kl_e ?_
    refine kb_hit ?_
    refine ks_n ?_
    refine ACode.seq ?_
    refine ACode.seq ?_
    refine ACode.region ?_
    refine .cons (.asg rfl rfl) ?_
    refine .nil ?_
    refine ks_n ?_
    refine ACode.block ?_
    refine .loopK (fun m σ => (∃ (i : Nat) (c : Int), m = l.2.length - i ∧ (i ≤ l.2.length) ∧ (hiF p l.2 = mnF p c (l.2.drop i)) ∧ σ = [(.t 1, .v (.o (vD (dIs p)))), (.t 2, .v (.o (.c (.ptr (rL l))))), (.t 6, .v (.o (nat1 (loF p l.1)))), (.t 7, .v (.o (nat1 c))), (.t 10, .v (.o (nat1 (i : Nat))))])) [] ⟨1, affEval y0 p, rfl, (by have := (List.getElem?_eq_some_iff.1 hy0).1; omega), (hiF_one hy0), rfl⟩ ⟨ks rfl .dt, ks rfl .dt, ks rfl (.dt (by first | rfl | exact hlo)), ks rfl (.dt (by first | rfl | exact congrArg (fun z => V.o (nat1 z)) (mn_le h58).symm | exact congrArg (fun z => V.o (nat1 z)) (mn_lt h58).symm)), ks rfl .dt, trivial⟩ ?_
    rintro m σ ⟨i, c, hm0, hi, hF, rfl⟩
    refine ACode.seq ?_
    refine ACode.seq ?_
    refine ACode.region ?_
    refine .cons (.mv rfl rfl) ?_
    refine .cons (.fP 1 0 false rfl rfl) ?_
    refine .cons (.l1 1 rfl rfl) ?_
    refine .cons (.ln 51 2 32 rfl rfl rfl) ?_
    refine .cons (.ls rfl rfl rfl) ?_
    refine .nil ?_
    refine ks_n ?_
    refine .cD rfl (fun h46 => ?_) (fun h46 => ?_)
    · skip
      obtain ⟨x, hx1⟩ : ∃ x, l.2[i]? = some x := ⟨_, List.getElem?_eq_getElem (by omega)⟩
      refine ACode.skip ?_
      refine ks_n ?_
      refine ACode.seq ?_
      refine ACode.block ?_
      refine ACode.seq ?_
      refine ACode.region ?_
      refine .cons (.fP 1 0 false rfl rfl) ?_
      refine .cons (.l1 1 rfl rfl) ?_
      refine .cons (.mv rfl rfl) ?_
      refine .cons (.xL 51 2 32 rfl rfl rfl rfl rfl) ?_
      refine .cons (.lN 2 rfl rfl rfl) ?_
      refine .cons (.mv rfl rfl) ?_
      refine .cons (.cP [.tmp 53, .tmp 54] rfl rfl rfl rfl (l1Eval_fn (h.v2 _ (List.mem_of_getElem? hx1)) h.sm h.ln) rfl) ?_
      refine .cons (.asg rfl rfl) ?_
      refine .nil ?_
      refine ks_n ?_
      refine ACode.seq ?_
      refine ACode.region ?_
      refine .cons (.mv rfl rfl) ?_
      refine .cons (.mv rfl rfl) ?_
      refine .cons (.ls rfl rfl rfl) ?_
      refine .nil ?_
      refine ks_n ?_
      refine .cD rfl (fun h58 => ?_) (fun h58 => ?_)
      · skip
        refine ACode.region ?_
        refine .cons (.mv rfl rfl) ?_
        refine .cons (.asg rfl rfl) ?_
        refine .nil ?_
        refine kb_n ?_
        refine ks_n ?_
        refine ACode.region ?_
        refine .cons (.mv rfl rfl) ?_
        refine .cons (.pl rfl rfl rfl) ?_
        refine .cons (.asg rfl rfl) ?_
        refine .nil ?_
        refine kl_k [] ⟨i + 1, min c (affEval x p), rfl, by omega, by rw [hF, mnF_drop hx1], rfl⟩ ⟨ks rfl .dt, ks rfl .dt, ks rfl (.dt (by first | rfl | exact hlo)), ks rfl (.dt (by first | rfl | exact congrArg (fun z => V.o (nat1 z)) (mn_le h58).symm | exact congrArg (fun z => V.o (nat1 z)) (mn_lt h58).symm)), ks rfl .dt, trivial⟩
      · skip
        refine ACode.skip ?_
        refine kb_n ?_
        refine ks_n ?_
        refine ACode.region ?_
        refine .cons (.mv rfl rfl) ?_
        refine .cons (.pl rfl rfl rfl) ?_
        refine .cons (.asg rfl rfl) ?_
        refine .nil ?_
        refine kl_k [] ⟨i + 1, min c (affEval x p), rfl, by omega, by rw [hF, mnF_drop hx1], rfl⟩ ⟨ks rfl .dt, ks rfl .dt, ks rfl (.dt (by first | rfl | exact hlo)), ks rfl (.dt (by first | rfl | exact congrArg (fun z => V.o (nat1 z)) (mn_le h58).symm | exact congrArg (fun z => V.o (nat1 z)) (mn_lt h58).symm)), ks rfl .dt, trivial⟩
    · skip
      have hhi : c = hiF p l.2 := by rw [hF, mnF_end (by omega)]
      refine ACode.exit ?_
      refine ks_e ?_
      refine kl_e ?_
      refine kb_hit ?_
      refine ks_n ?_
      refine ACode.seq ?_
      refine ACode.region ?_
      refine .cons (.mv rfl rfl) ?_
      refine .cons (.mv rfl rfl) ?_
      refine .cons (.asg rfl rfl) ?_
      refine .cons (.asg rfl rfl) ?_
      refine .nil ?_
      refine ks_n ?_
      refine ACode.ret ?_
      refine kf_ret rfl ?_ nobox
      rw [hhi]; rfl

set_option maxRecDepth 100000 in
set_option maxHeartbeats 1600000 in
theorem loopRange_fn (ns : List Lp) (hs : smN ns) (p : List Int) (hp : p.length ≤ 1099511627776) : Fn Try.prog 24 [] [vD (dLs ns), vD (dIs p)] (.tup [nat1 (lrV ns p).1, nat1 (lrV ns p).2.1, bo1 (lrV ns p).2.2]) [] := by
  have hn := hs.1
  refine Fn.code0 Try.func24 rfl rfl rfl rfl ?_
  refine ACode.seq ?_
  refine ACode.region ?_
  refine .cons (.asg rfl rfl) ?_
  refine .cons (.asg rfl rfl) ?_
  refine .cons (.asg rfl rfl) ?_
  refine .nil ?_
  refine ks_n ?_
  refine ACode.seq ?_
  refine ACode.seq ?_
  refine ACode.region ?_
  refine .cons (.mv rfl rfl) ?_
  refine .cons (.cP [.tmp 9] rfl rfl rfl rfl (implNestV_fn ns hs) rfl) ?_
  refine .cons (.nt rfl rfl) ?_
  refine .cons (.mv rfl rfl) ?_
  refine AOps.cases 12 _ rfl (fun g12 => ?_) (fun g12 => ?_)
  · try simp only [List.length_map, decide_eq_true_eq, decide_eq_false_iff_not, Bool.not_eq_true', Bool.not_eq_false', Bool.not_eq_true, Bool.not_eq_false] at g12
    refine .cons (.gF rfl rfl rfl) ?_
    refine .cons (.gF rfl rfl rfl) ?_
    refine .cons (.gF rfl rfl rfl) ?_
    refine .cons (.pT rfl rfl rfl) ?_
    refine .cons (.mv rfl rfl) ?_
    refine .cons (.gF rfl rfl rfl) ?_
    refine .cons (.gF rfl rfl rfl) ?_
    refine .cons (.gF rfl rfl rfl) ?_
    refine .cons (.gF rfl rfl rfl) ?_
    refine .cons (.gF rfl rfl rfl) ?_
    refine .cons (.pT rfl rfl rfl) ?_
    refine .nil ?_
    refine ks_n ?_
    refine ACode.condT rfl (fun _ => ?_) (fun h => by first | (cases h; done) | (simp [*] at h; done) | (exfalso; simp_all; done))
    refine ACode.seq ?_
    refine ACode.region ?_
    refine .cons (.asg rfl rfl) ?_
    refine .cons (.asg rfl rfl) ?_
    refine .cons (.asg rfl rfl) ?_
    refine .nil ?_
    refine ks_n ?_
    refine ACode.ret ?_
    refine ks_r ?_
    refine kf_ret rfl ?_ nobox
    have e : lrV ns p = (0, 0, false) := if_neg (fun hh => by first | (rw [hh.1] at g12; cases g12; done) | (rw [hh.2.1] at g17; cases g17; done) | (have := hh.2.2; omega)); rw [e]; rfl
  · try simp only [List.length_map, decide_eq_true_eq, decide_eq_false_iff_not, Bool.not_eq_true', Bool.not_eq_false', Bool.not_eq_true, Bool.not_eq_false] at g12
    refine .cons (.gT rfl rfl rfl (.mv rfl rfl)) ?_
    refine .cons (.gT rfl rfl rfl (.cP [.tmp 13] rfl rfl rfl rfl (isPoint_fn p) rfl)) ?_
    refine .cons (.gT rfl rfl rfl (.nt rfl rfl)) ?_
    refine .cons (.pF rfl rfl rfl) ?_
    refine .cons (.mv rfl rfl) ?_
    refine AOps.cases 17 _ rfl (fun g17 => ?_) (fun g17 => ?_)
    · try simp only [List.length_map, decide_eq_true_eq, decide_eq_false_iff_not, Bool.not_eq_true', Bool.not_eq_false', Bool.not_eq_true, Bool.not_eq_false] at g17
      refine .cons (.gF rfl rfl rfl) ?_
      refine .cons (.gF rfl rfl rfl) ?_
      refine .cons (.gF rfl rfl rfl) ?_
      refine .cons (.gF rfl rfl rfl) ?_
      refine .cons (.gF rfl rfl rfl) ?_
      refine .cons (.pT rfl rfl rfl) ?_
      refine .nil ?_
      refine ks_n ?_
      refine ACode.condT rfl (fun _ => ?_) (fun h => by first | (cases h; done) | (simp [*] at h; done) | (exfalso; simp_all; done))
      refine ACode.seq ?_
      refine ACode.region ?_
      refine .cons (.asg rfl rfl) ?_
      refine .cons (.asg rfl rfl) ?_
      refine .cons (.asg rfl rfl) ?_
      refine .nil ?_
      refine ks_n ?_
      refine ACode.ret ?_
      refine ks_r ?_
      refine kf_ret rfl ?_ nobox
      have e : lrV ns p = (0, 0, false) := if_neg (fun hh => by first | (rw [hh.1] at g12; cases g12; done) | (rw [hh.2.1] at g17; cases g17; done) | (have := hh.2.2; omega)); rw [e]; rfl
    · try simp only [List.length_map, decide_eq_true_eq, decide_eq_false_iff_not, Bool.not_eq_true', Bool.not_eq_false', Bool.not_eq_true, Bool.not_eq_false] at g17
      refine .cons (.gT rfl rfl rfl (.mv rfl rfl)) ?_
      refine .cons (.gT rfl rfl rfl (.ln 3 1 8 rfl rfl rfl)) ?_
      refine .cons (.gT rfl rfl rfl (.mv rfl rfl)) ?_
      refine .cons (.gT rfl rfl rfl (.ln 67 2 48 rfl rfl rfl)) ?_
      refine .cons (.gT rfl rfl rfl (.ge rfl rfl rfl)) ?_
      refine .cons (.pF rfl rfl rfl) ?_
      refine .nil ?_
      refine ks_n ?_
      refine ACode.condT rfl (fun h23 => ?_) (fun h23 => ?_)
      · try simp only [List.length_map, decide_eq_true_eq, decide_eq_false_iff_not, Bool.not_eq_true', Bool.not_eq_false', Bool.not_eq_true, Bool.not_eq_false] at h23
        refine ACode.seq ?_
        refine ACode.region ?_
        refine .cons (.asg rfl rfl) ?_
        refine .cons (.asg rfl rfl) ?_
        refine .cons (.asg rfl rfl) ?_
        refine .nil ?_
        refine ks_n ?_
        refine ACode.ret ?_
        refine ks_r ?_
        refine kf_ret rfl ?_ nobox
        have e : lrV ns p = (0, 0, false) := if_neg (fun hh => by first | (rw [hh.1] at g12; cases g12; done) | (rw [hh.2.1] at g17; cases g17; done) | (have := hh.2.2; omega)); rw [e]; rfl
      · try simp only [List.length_map, decide_eq_true_eq, decide_eq_false_iff_not, Bool.not_eq_true', Bool.not_eq_false', Bool.not_eq_true, Bool.not_eq_false] at h23
        obtain ⟨l, hl⟩ : ∃ l, ns[p.length]? = some l := ⟨_, List.getElem?_eq_getElem (by omega)⟩
        refine ACode.skip ?_
        refine ks_n ?_
        refine ACode.seq ?_
        refine ACode.region ?_
        refine .cons (.mv rfl rfl) ?_
        refine .cons (.mv rfl rfl) ?_
        refine .cons (.ln 3 1 8 rfl rfl rfl) ?_
        refine .cons (.xL 67 2 48 rfl rfl rfl rfl rfl) ?_
        refine .cons (.lN 2 rfl rfl rfl) ?_
        refine .cons (.mv rfl rfl) ?_
        refine .cons (.cP [.tmp 29, .tmp 30] rfl rfl rfl rfl (span_fn (okR_of g12 hl (isPt_small g17) (isPt_len g17))) rfl) ?_
        refine .cons (.mv rfl rfl) ?_
        refine .cons (.ex rfl rfl rfl) ?_
        refine .cons (.ex rfl rfl rfl) ?_
        refine .cons (.asg rfl rfl) ?_
        refine .cons (.asg rfl rfl) ?_
        refine .nil ?_
        refine ks_n ?_
        refine ACode.seq ?_
        refine ACode.region ?_
        refine .cons (.mv rfl rfl) ?_
        refine .cons (.mv rfl rfl) ?_
        refine .cons (.asg rfl rfl) ?_
        refine .cons (.asg rfl rfl) ?_
        refine .cons (.asg rfl rfl) ?_
        refine .nil ?_
        refine ks_n ?_
        refine ACode.ret ?_
        refine kf_ret rfl ?_ nobox
        have e : lrV ns p = (loF p l.1, hiF p l.2, true) := by rw [lrV, if_pos ⟨g12, g17, by omega⟩, getD_some hl]
        rw [e]; rfl

set_option maxRecDepth 100000 in
set_option maxHeartbeats 1600000 in
theorem specPointIn_fn (ns : List Lp) (hs : smN ns) (p : List Int) (hp : p.length ≤ 1099511627776) : Fn Try.prog 27 [] [vD (dLs ns), vD (dIs p)] (.o (bo1 (inV ns p))) [] := by
  have hn := hs.1
  refine Fn.code0 Try.func27 rfl rfl rfl rfl ?_
  refine ACode.seq ?_
  refine ACode.region ?_
  refine .cons (.asg rfl rfl) ?_
  refine .nil ?_
  refine ks_n ?_
  refine ACode.seq ?_
  refine ACode.seq ?_
  refine ACode.region ?_
  refine .cons (.mv rfl rfl) ?_
  refine .cons (.cP [.tmp 8] rfl rfl rfl rfl (specNestV_fn ns hs) rfl) ?_
  refine .cons (.nt rfl rfl) ?_
  refine .cons (.mv rfl rfl) ?_
  refine AOps.cases 11 _ rfl (fun g11 => ?_) (fun g11 => ?_)
  · try simp only [List.length_map, decide_eq_true_eq, decide_eq_false_iff_not, Bool.not_eq_true', Bool.not_eq_false', Bool.not_eq_true, Bool.not_eq_false] at g11
    refine .cons (.gF rfl rfl rfl) ?_
    refine .cons (.gF rfl rfl rfl) ?_
    refine .cons (.gF rfl rfl rfl) ?_
    refine .cons (.pT rfl rfl rfl) ?_
    refine .cons (.mv rfl rfl) ?_
    refine .cons (.gF rfl rfl rfl) ?_
    refine .cons (.gF rfl rfl rfl) ?_
    refine .cons (.gF rfl rfl rfl) ?_
    refine .cons (.gF rfl rfl rfl) ?_
    refine .cons (.gF rfl rfl rfl) ?_
    refine .cons (.pT rfl rfl rfl) ?_
    refine .nil ?_
    refine ks_n ?_
    refine ACode.condT rfl (fun _ => ?_) (fun h => by first | (cases h; done) | (simp [*] at h; done) | (exfalso; simp_all; done))
    refine ACode.seq ?_
    refine ACode.region ?_
    refine .cons (.asg rfl rfl) ?_
    refine .nil ?_
    refine ks_n ?_
    refine ACode.ret ?_
    refine ks_r ?_
    refine kf_ret rfl ?_ nobox
    exact leafB (by unfold inV; first | (simp [g11]; done) | (simp [g16]; done) | (simp [show ¬ p.length = ns.length by omega]; done))
  · try simp only [List.length_map, decide_eq_true_eq, decide_eq_false_iff_not, Bool.not_eq_true', Bool.not_eq_false', Bool.not_eq_true, Bool.not_eq_false] at g11
    refine .cons (.gT rfl rfl rfl (.mv rfl rfl)) ?_
    refine .cons (.gT rfl rfl rfl (.cP [.tmp 12] rfl rfl rfl rfl (l1Point_fn p) rfl)) ?_
    refine .cons (.gT rfl rfl rfl (.nt rfl rfl)) ?_
    refine .cons (.pF rfl rfl rfl) ?_
    refine .cons (.mv rfl rfl) ?_
    refine AOps.cases 16 _ rfl (fun g16 => ?_) (fun g16 => ?_)
    · try simp only [List.length_map, decide_eq_true_eq, decide_eq_false_iff_not, Bool.not_eq_true', Bool.not_eq_false', Bool.not_eq_true, Bool.not_eq_false] at g16
      refine .cons (.gF rfl rfl rfl) ?_
      refine .cons (.gF rfl rfl rfl) ?_
      refine .cons (.gF rfl rfl rfl) ?_
      refine .cons (.gF rfl rfl rfl) ?_
      refine .cons (.gF rfl rfl rfl) ?_
      refine .cons (.pT rfl rfl rfl) ?_
      refine .nil ?_
      refine ks_n ?_
      refine ACode.condT rfl (fun _ => ?_) (fun h => by first | (cases h; done) | (simp [*] at h; done) | (exfalso; simp_all; done))
      refine ACode.seq ?_
      refine ACode.region ?_
      refine .cons (.asg rfl rfl) ?_
      refine .nil ?_
      refine ks_n ?_
      refine ACode.ret ?_
      refine ks_r ?_
      refine kf_ret rfl ?_ nobox
      exact leafB (by unfold inV; first | (simp [g11]; done) | (simp [g16]; done) | (simp [show ¬ p.length = ns.length by omega]; done))
    · try simp only [List.length_map, decide_eq_true_eq, decide_eq_false_iff_not, Bool.not_eq_true', Bool.not_eq_false', Bool.not_eq_true, Bool.not_eq_false] at g16
      refine .cons (.gT rfl rfl rfl (.mv rfl rfl)) ?_
      refine .cons (.gT rfl rfl rfl (.ln 3 1 8 rfl rfl rfl)) ?_
      refine .cons (.gT rfl rfl rfl (.mv rfl rfl)) ?_
      refine .cons (.gT rfl rfl rfl (.ln 67 2 48 rfl rfl rfl)) ?_
      refine .cons (.gT rfl rfl rfl (.ne rfl rfl rfl)) ?_
      refine .cons (.pF rfl rfl rfl) ?_
      refine .nil ?_
      refine ks_n ?_
      refine ACode.condT rfl (fun h22 => ?_) (fun h22 => ?_)
      · try simp only [List.length_map, decide_eq_true_eq, decide_eq_false_iff_not, Bool.not_eq_true', Bool.not_eq_false', Bool.not_eq_true, Bool.not_eq_false] at h22
        refine ACode.seq ?_
        refine ACode.region ?_
        refine .cons (.asg rfl rfl) ?_
        refine .nil ?_
        refine ks_n ?_
        refine ACode.ret ?_
        refine ks_r ?_
        refine kf_ret rfl ?_ nobox
        exact leafB (by unfold inV; first | (simp [g11]; done) | (simp [g16]; done) | (simp [show ¬ p.length = ns.length by omega]; done))
      · try simp only [List.length_map, decide_eq_true_eq, decide_eq_false_iff_not, Bool.not_eq_true', Bool.not_eq_false', Bool.not_eq_true, Bool.not_eq_false] at h22
        have hpl : p.length = ns.length := by omega
        have hp4 := isPt_len g16
        refine ACode.skip ?_
        refine ks_n ?_
        refine ACode.seq ?_
        refine ACode.seq ?_
        refine ACode.region ?_
        refine .cons (.asg rfl rfl) ?_
        refine .nil ?_
        refine ks_n ?_
        refine ACode.block ?_
        refine .loopK (fun m σ => (∃ i : Nat, m = ns.length - i ∧ (i ≤ ns.length) ∧ (inG p 0 ns = inG p i (ns.drop i)) ∧ σ = [(.t 0, .v (.o (vD (dLs ns)))), (.t 1, .v (.o (vD (dIs p)))), (.t 5, .v (.o (nat1 (i : Nat))))])) [] ⟨0, rfl, by omega, by simp, rfl⟩ ⟨ks rfl .dt, ks rfl .dt, ks rfl .dt, trivial⟩ ?_
        rintro m σ ⟨i, hm0, hi, hF, rfl⟩
        refine ACode.seq ?_
        refine ACode.seq ?_
        refine ACode.region ?_
        refine .cons (.mv rfl rfl) ?_
        refine .cons (.mv rfl rfl) ?_
        refine .cons (.ln 3 1 8 rfl rfl rfl) ?_
        refine .cons (.ls rfl rfl rfl) ?_
        refine .nil ?_
        refine ks_n ?_
        refine .cD rfl (fun h26 => ?_) (fun h26 => ?_)
        · skip
          obtain ⟨x, hx1⟩ : ∃ x, ns[i]? = some x := ⟨_, List.getElem?_eq_getElem (by omega)⟩
          obtain ⟨z, hz⟩ : ∃ z, p[i]? = some z := ⟨_, List.getElem?_eq_getElem (by omega)⟩
          have hzD : p.getD i 0 = z := getD_some hz
          refine ACode.skip ?_
          refine ks_n ?_
          refine ACode.seq ?_
          refine ACode.block ?_
          refine ACode.seq ?_
          refine ACode.drawK (by kernel_rfl) (by kernel_rfl) ?_
          refine .cons (.mv rfl rfl) ?_
          refine .cons (.mv rfl rfl) ?_
          refine .cons (.xL 67 2 48 rfl rfl rfl rfl rfl) ?_
          refine .cons (.lN 2 rfl rfl rfl) ?_
          refine .cons (.mv rfl rfl) ?_
          refine .cons (.mv rfl rfl) ?_
          refine .cons (St1.sliceTo (e := 3) (sz := 1) (by' := 8) (k := i) rfl rfl rfl rfl (by kernel_rfl) rfl rfl rfl (by first | rfl | omega) (by first | (simp; done) | (simp; omega) | omega)) ?_
          refine .cons (.cP [.tmp 33, .tmp 36] rfl rfl rfl rfl (Fn.arg2 (dIs_take p i) (l2Range_fn (okR_of g11 hx1 ((isPt_small g16).take i) (by rw [List.length_take]; omega)))) rfl) ?_
          refine .cons (.mv rfl rfl) ?_
          refine .cons (.ex rfl rfl rfl) ?_
          refine .cons (.ex rfl rfl rfl) ?_
          refine .cons (.asg rfl rfl) ?_
          refine .cons (.asg rfl rfl) ?_
          refine .nil ⟨by kernel_rfl, ?_⟩
          refine ks_n ?_
          refine ACode.seq ?_
          refine ACode.region ?_
          refine .cons (.mv rfl rfl) ?_
          refine .cons (.mv rfl rfl) ?_
          refine .cons (.xL 3 1 8 rfl rfl rfl rfl rfl (map_at hz)) ?_
          refine .cons (.l1 1 rfl rfl) ?_
          refine .cons (.mv rfl rfl) ?_
          refine .cons (.ls rfl rfl rfl) ?_
          refine .cons (.mv rfl rfl) ?_
          refine .cD 46 rfl (fun g46 => ?_) (fun g46 => ?_)
          · skip
            refine .cons (.gF rfl rfl rfl) ?_
            refine .cons (.gF rfl rfl rfl) ?_
            refine .cons (.gF rfl rfl rfl) ?_
            refine .cons (.gF rfl rfl rfl) ?_
            refine .cons (.gF rfl rfl rfl) ?_
            refine .cons (.gF rfl rfl rfl) ?_
            refine .cons (.pT rfl rfl rfl) ?_
            refine .nil ?_
            refine ks_n ?_
            refine ACode.condT rfl (fun _ => ?_) (fun h => by first | (cases h; done) | (simp [*] at h; done) | (exfalso; simp_all; done))
            refine ACode.seq ?_
            have gg : (decide (loF (p.take i) x.1 ≤ p.getD i 0) && decide (p.getD i 0 < hiF (p.take i) x.2)) = false := by rw [hzD, Bool.and_eq_false_iff]; first | exact .inl (decide_eq_false (by omega)) | exact .inr (decide_eq_false (by omega))
            refine ACode.region ?_
            refine .cons (.asg rfl rfl) ?_
            refine .nil ?_
            refine ks_n ?_
            refine ACode.ret ?_
            refine kb_r ?_
            refine ks_r ?_
            refine kl_r ?_
            refine kb_r ?_
            refine ks_r ?_
            refine kf_ret rfl ?_ nobox
            exact leafB (by unfold inV; rw [hF, inG_drop hx1, gg]; simp)
          · skip
            refine .cons (.gT rfl rfl rfl (.mv rfl rfl)) ?_
            refine .cons (.gT rfl rfl rfl (.mv rfl rfl)) ?_
            refine .cons (.gT rfl rfl rfl (.xL 3 1 8 rfl rfl rfl rfl rfl (map_at hz))) ?_
            refine .cons (.gT rfl rfl rfl (.l1 1 rfl rfl)) ?_
            refine .cons (.gT rfl rfl rfl (.mv rfl rfl)) ?_
            refine .cons (.gT rfl rfl rfl (.ge rfl rfl rfl)) ?_
            refine .cons (.pF rfl rfl rfl) ?_
            refine .nil ?_
            refine ks_n ?_
            refine ACode.condT rfl (fun h53 => ?_) (fun h53 => ?_)
            · try simp only [List.length_map, decide_eq_true_eq, decide_eq_false_iff_not, Bool.not_eq_true', Bool.not_eq_false', Bool.not_eq_true, Bool.not_eq_false] at h53
              refine ACode.seq ?_
              have gg : (decide (loF (p.take i) x.1 ≤ p.getD i 0) && decide (p.getD i 0 < hiF (p.take i) x.2)) = false := by rw [hzD, Bool.and_eq_false_iff]; first | exact .inl (decide_eq_false (by omega)) | exact .inr (decide_eq_false (by omega))
              refine ACode.region ?_
              refine .cons (.asg rfl rfl) ?_
              refine .nil ?_
              refine ks_n ?_
              refine ACode.ret ?_
              refine kb_r ?_
              refine ks_r ?_
              refine kl_r ?_
              refine kb_r ?_
              refine ks_r ?_
              refine kf_ret rfl ?_ nobox
              exact leafB (by unfold inV; rw [hF, inG_drop hx1, gg]; simp)
            · try simp only [List.length_map, decide_eq_true_eq, decide_eq_false_iff_not, Bool.not_eq_true', Bool.not_eq_false', Bool.not_eq_true, Bool.not_eq_false] at h53
              refine ACode.skip ?_
              refine kb_n ?_
              refine ks_n ?_
              have gg : (decide (loF (p.take i) x.1 ≤ p.getD i 0) && decide (p.getD i 0 < hiF (p.take i) x.2)) = true := by rw [hzD, Bool.and_eq_true]; exact ⟨decide_eq_true (by omega), decide_eq_true (by omega)⟩
              refine ACode.region ?_
              refine .cons (.mv rfl rfl) ?_
              refine .cons (.pl rfl rfl rfl) ?_
              refine .cons (.asg rfl rfl) ?_
              refine .nil ?_
              refine kl_k [] ⟨i + 1, rfl, by omega, by rw [hF, inG_drop hx1, gg, Bool.true_and], rfl⟩ ⟨ks rfl .dt, ks rfl .dt, ks rfl .dt, trivial⟩
        · skip
          refine ACode.exit ?_
          refine ks_e ?_
          refine kl_e ?_
          refine kb_hit ?_
          refine ks_n ?_
          refine ACode.seq ?_
          refine ACode.region ?_
          refine .cons (.asg rfl rfl) ?_
          refine .nil ?_
          refine ks_n ?_
          refine ACode.ret ?_
          refine kf_ret rfl ?_ nobox
          exact leafB (by unfold inV; rw [hF, List.drop_of_length_le (by omega), g11, g16, decide_eq_true hpl]; rfl)

set_option maxRecDepth 100000 in
set_option maxHeartbeats 1600000 in
theorem implPointIn_fn (ns : List Lp) (hs : smN ns) (p : List Int) (hp : p.length ≤ 1099511627776) : Fn Try.prog 26 [] [vD (dLs ns), vD (dIs p)] (.o (bo1 (inV ns p))) [] := by
  have hn := hs.1
  refine Fn.code0 Try.func26 rfl rfl rfl rfl ?_
  refine ACode.seq ?_
  refine ACode.region ?_
  refine .cons (.asg rfl rfl) ?_
  refine .nil ?_
  refine ks_n ?_
  refine ACode.seq ?_
  refine ACode.seq ?_
  refine ACode.region ?_
  refine .cons (.mv rfl rfl) ?_
  refine .cons (.cP [.tmp 9] rfl rfl rfl rfl (implNestV_fn ns hs) rfl) ?_
  refine .cons (.nt rfl rfl) ?_
  refine .cons (.mv rfl rfl) ?_
  refine AOps.cases 12 _ rfl (fun g12 => ?_) (fun g12 => ?_)
  · try simp only [List.length_map, decide_eq_true_eq, decide_eq_false_iff_not, Bool.not_eq_true', Bool.not_eq_false', Bool.not_eq_true, Bool.not_eq_false] at g12
    refine .cons (.gF rfl rfl rfl) ?_
    refine .cons (.gF rfl rfl rfl) ?_
    refine .cons (.gF rfl rfl rfl) ?_
    refine .cons (.pT rfl rfl rfl) ?_
    refine .cons (.mv rfl rfl) ?_
    refine .cons (.gF rfl rfl rfl) ?_
    refine .cons (.gF rfl rfl rfl) ?_
    refine .cons (.gF rfl rfl rfl) ?_
    refine .cons (.gF rfl rfl rfl) ?_
    refine .cons (.gF rfl rfl rfl) ?_
    refine .cons (.pT rfl rfl rfl) ?_
    refine .nil ?_
    refine ks_n ?_
    refine ACode.condT rfl (fun _ => ?_) (fun h => by first | (cases h; done) | (simp [*] at h; done) | (exfalso; simp_all; done))
    refine ACode.seq ?_
    refine ACode.region ?_
    refine .cons (.asg rfl rfl) ?_
    refine .nil ?_
    refine ks_n ?_
    refine ACode.ret ?_
    refine ks_r ?_
    refine kf_ret rfl ?_ nobox
    exact leafB (by unfold inV; first | (simp [g12]; done) | (simp [g17]; done) | (simp [show ¬ p.length = ns.length by omega]; done))
  · try simp only [List.length_map, decide_eq_true_eq, decide_eq_false_iff_not, Bool.not_eq_true', Bool.not_eq_false', Bool.not_eq_true, Bool.not_eq_false] at g12
    refine .cons (.gT rfl rfl rfl (.mv rfl rfl)) ?_
    refine .cons (.gT rfl rfl rfl (.cP [.tmp 13] rfl rfl rfl rfl (isPoint_fn p) rfl)) ?_
    refine .cons (.gT rfl rfl rfl (.nt rfl rfl)) ?_
    refine .cons (.pF rfl rfl rfl) ?_
    refine .cons (.mv rfl rfl) ?_
    refine AOps.cases 17 _ rfl (fun g17 => ?_) (fun g17 => ?_)
    · try simp only [List.length_map, decide_eq_true_eq, decide_eq_false_iff_not, Bool.not_eq_true', Bool.not_eq_false', Bool.not_eq_true, Bool.not_eq_false] at g17
      refine .cons (.gF rfl rfl rfl) ?_
      refine .cons (.gF rfl rfl rfl) ?_
      refine .cons (.gF rfl rfl rfl) ?_
      refine .cons (.gF rfl rfl rfl) ?_
      refine .cons (.gF rfl rfl rfl) ?_
      refine .cons (.pT rfl rfl rfl) ?_
      refine .nil ?_
      refine ks_n ?_
      refine ACode.condT rfl (fun _ => ?_) (fun h => by first | (cases h; done) | (simp [*] at h; done) | (exfalso; simp_all; done))
      refine ACode.seq ?_
      refine ACode.region ?_
      refine .cons (.asg rfl rfl) ?_
      refine .nil ?_
      refine ks_n ?_
      refine ACode.ret ?_
      refine ks_r ?_
      refine kf_ret rfl ?_ nobox
      exact leafB (by unfold inV; first | (simp [g12]; done) | (simp [g17]; done) | (simp [show ¬ p.length = ns.length by omega]; done))
    · try simp only [List.length_map, decide_eq_true_eq, decide_eq_false_iff_not, Bool.not_eq_true', Bool.not_eq_false', Bool.not_eq_true, Bool.not_eq_false] at g17
      refine .cons (.gT rfl rfl rfl (.mv rfl rfl)) ?_
      refine .cons (.gT rfl rfl rfl (.ln 3 1 8 rfl rfl rfl)) ?_
      refine .cons (.gT rfl rfl rfl (.mv rfl rfl)) ?_
      refine .cons (.gT rfl rfl rfl (.ln 67 2 48 rfl rfl rfl)) ?_
      refine .cons (.gT rfl rfl rfl (.ne rfl rfl rfl)) ?_
      refine .cons (.pF rfl rfl rfl) ?_
      refine .nil ?_
      refine ks_n ?_
      refine ACode.condT rfl (fun h23 => ?_) (fun h23 => ?_)
      · try simp only [List.length_map, decide_eq_true_eq, decide_eq_false_iff_not, Bool.not_eq_true', Bool.not_eq_false', Bool.not_eq_true, Bool.not_eq_false] at h23
        refine ACode.seq ?_
        refine ACode.region ?_
        refine .cons (.asg rfl rfl) ?_
        refine .nil ?_
        refine ks_n ?_
        refine ACode.ret ?_
        refine ks_r ?_
        refine kf_ret rfl ?_ nobox
        exact leafB (by unfold inV; first | (simp [g12]; done) | (simp [g17]; done) | (simp [show ¬ p.length = ns.length by omega]; done))
      · try simp only [List.length_map, decide_eq_true_eq, decide_eq_false_iff_not, Bool.not_eq_true', Bool.not_eq_false', Bool.not_eq_true, Bool.not_eq_false] at h23
        have hpl : p.length = ns.length := by omega
        have hp4 := isPt_len g17
        refine ACode.skip ?_
        refine ks_n ?_
        refine ACode.seq ?_
        refine ACode.seq ?_
        refine ACode.region ?_
        refine .cons (.mv rfl rfl) ?_
        refine .cons (.ln 67 2 48 rfl rfl rfl) ?_
        refine .cons (.mv rfl rfl) ?_
        refine .nil ?_
        refine ks_n ?_
        refine ACode.block ?_
        refine .loopK (fun m σ => (∃ i : Nat, m = ns.length - i ∧ (i ≤ ns.length) ∧ (inG p 0 ns = inG p i (ns.drop i)) ∧ σ = [(.t 1, .v (.o (vD (dIs p)))), (.t 24, .v (.o (vD (dLs ns)))), (.t 25, .v (.o (nat1 (ns.length : Nat)))), (.t 26, .v (.o (nat1 (i : Nat))))])) [] ⟨0, rfl, by omega, by simp, rfl⟩ ⟨ks rfl .dt, ks rfl .dt, ks rfl .dt, ks rfl .dt, trivial⟩ ?_
        rintro m σ ⟨i, hm0, hi, hF, rfl⟩
        refine ACode.seq ?_
        refine ACode.region ?_
        refine .cons (.ls rfl rfl rfl) ?_
        refine .nil ?_
        refine ks_n ?_
        refine ACode.seq ?_
        refine .cD rfl (fun h27 => ?_) (fun h27 => ?_)
        · skip
          obtain ⟨x, hx1⟩ : ∃ x, ns[i]? = some x := ⟨_, List.getElem?_eq_getElem (by omega)⟩
          obtain ⟨z, hz⟩ : ∃ z, p[i]? = some z := ⟨_, List.getElem?_eq_getElem (by omega)⟩
          have hzD : p.getD i 0 = z := getD_some hz
          refine ACode.skip ?_
          refine ks_n ?_
          refine ACode.seq ?_
          refine ACode.block ?_
          refine ACode.seq ?_
          refine ACode.region ?_
          refine .cons (.mv rfl rfl) ?_
          refine .cons (.xL 67 2 48 rfl rfl rfl rfl rfl) ?_
          refine .cons (.lN 2 rfl rfl rfl) ?_
          refine .cons (.al 106 [.slice none 0 0, .slice none 0 0] rfl rfl rfl) ?_
          refine .cons (.asg rfl rfl) ?_
          refine .cons (.sT 2 true rfl rfl rfl rfl rfl rfl rfl) ?_
          refine .nil ?_
          refine ks_n ?_
          refine ACode.seq ?_
          refine ACode.drawK (by kernel_rfl) (by kernel_rfl) ?_
          refine .cons (.bN 2 rfl rfl rfl rfl rfl rfl) ?_
          refine .cons (.mv rfl rfl) ?_
          refine .cons (.mv rfl rfl) ?_
          refine .cons (St1.sliceTo (e := 3) (sz := 1) (by' := 8) (k := i) rfl rfl rfl rfl (by kernel_rfl) rfl rfl rfl (by first | rfl | omega) (by first | (simp; done) | (simp; omega) | omega)) ?_
          refine .cons (.cP [.tmp 32, .tmp 35] rfl rfl rfl rfl (Fn.arg2 (dIs_take p i) (span_fn (okR_of g12 hx1 ((isPt_small g17).take i) (by rw [List.length_take]; omega)))) rfl) ?_
          refine .cons (.mv rfl rfl) ?_
          refine .cons (.ex rfl rfl rfl) ?_
          refine .cons (.ex rfl rfl rfl) ?_
          refine .cons (.asg rfl rfl) ?_
          refine .cons (.asg rfl rfl) ?_
          refine .nil ⟨by kernel_rfl, ?_⟩
          refine ks_n ?_
          refine ACode.seq ?_
          refine ACode.region ?_
          refine .cons (.mv rfl rfl) ?_
          refine .cons (.mv rfl rfl) ?_
          refine .cons (.xL 3 1 8 rfl rfl rfl rfl rfl (map_at hz)) ?_
          refine .cons (.l1 1 rfl rfl) ?_
          refine .cons (.mv rfl rfl) ?_
          refine .cons (.ls rfl rfl rfl) ?_
          refine .cons (.mv rfl rfl) ?_
          refine .cD 45 rfl (fun g45 => ?_) (fun g45 => ?_)
          · skip
            refine .cons (.gF rfl rfl rfl) ?_
            refine .cons (.gF rfl rfl rfl) ?_
            refine .cons (.gF rfl rfl rfl) ?_
            refine .cons (.gF rfl rfl rfl) ?_
            refine .cons (.gF rfl rfl rfl) ?_
            refine .cons (.gF rfl rfl rfl) ?_
            refine .cons (.pT rfl rfl rfl) ?_
            refine .nil ?_
            refine ks_n ?_
            refine ACode.condT rfl (fun _ => ?_) (fun h => by first | (cases h; done) | (simp [*] at h; done) | (exfalso; simp_all; done))
            refine ACode.seq ?_
            have gg : (decide (loF (p.take i) x.1 ≤ p.getD i 0) && decide (p.getD i 0 < hiF (p.take i) x.2)) = false := by rw [hzD, Bool.and_eq_false_iff]; first | exact .inl (decide_eq_false (by omega)) | exact .inr (decide_eq_false (by omega))
            refine ACode.region ?_
            refine .cons (.asg rfl rfl) ?_
            refine .nil ?_
            refine ks_n ?_
            refine ACode.ret ?_
            refine kb_r ?_
            refine ks_r ?_
            refine kl_r ?_
            refine kb_r ?_
            refine ks_r ?_
            refine kf_ret rfl ?_ nobox
            exact leafB (by unfold inV; rw [hF, inG_drop hx1, gg]; simp)
          · skip
            refine .cons (.gT rfl rfl rfl (.mv rfl rfl)) ?_
            refine .cons (.gT rfl rfl rfl (.mv rfl rfl)) ?_
            refine .cons (.gT rfl rfl rfl (.xL 3 1 8 rfl rfl rfl rfl rfl (map_at hz))) ?_
            refine .cons (.gT rfl rfl rfl (.l1 1 rfl rfl)) ?_
            refine .cons (.gT rfl rfl rfl (.mv rfl rfl)) ?_
            refine .cons (.gT rfl rfl rfl (.ge rfl rfl rfl)) ?_
            refine .cons (.pF rfl rfl rfl) ?_
            refine .nil ?_
            refine ks_n ?_
            refine ACode.condT rfl (fun h52 => ?_) (fun h52 => ?_)
            · try simp only [List.length_map, decide_eq_true_eq, decide_eq_false_iff_not, Bool.not_eq_true', Bool.not_eq_false', Bool.not_eq_true, Bool.not_eq_false] at h52
              refine ACode.seq ?_
              have gg : (decide (loF (p.take i) x.1 ≤ p.getD i 0) && decide (p.getD i 0 < hiF (p.take i) x.2)) = false := by rw [hzD, Bool.and_eq_false_iff]; first | exact .inl (decide_eq_false (by omega)) | exact .inr (decide_eq_false (by omega))
              refine ACode.region ?_
              refine .cons (.asg rfl rfl) ?_
              refine .nil ?_
              refine ks_n ?_
              refine ACode.ret ?_
              refine kb_r ?_
              refine ks_r ?_
              refine kl_r ?_
              refine kb_r ?_
              refine ks_r ?_
              refine kf_ret rfl ?_ nobox
              exact leafB (by unfold inV; rw [hF, inG_drop hx1, gg]; simp)
            · try simp only [List.length_map, decide_eq_true_eq, decide_eq_false_iff_not, Bool.not_eq_true', Bool.not_eq_false', Bool.not_eq_true, Bool.not_eq_false] at h52
              refine ACode.skip ?_
              refine kb_n ?_
              refine ks_n ?_
              have gg : (decide (loF (p.take i) x.1 ≤ p.getD i 0) && decide (p.getD i 0 < hiF (p.take i) x.2)) = true := by rw [hzD, Bool.and_eq_true]; exact ⟨decide_eq_true (by omega), decide_eq_true (by omega)⟩
              refine ACode.region ?_
              refine .cons (.pl rfl rfl rfl) ?_
              refine .cons (.mv rfl rfl) ?_
              refine .nil ?_
              refine kl_k [] ⟨i + 1, rfl, by omega, by rw [hF, inG_drop hx1, gg, Bool.true_and], rfl⟩ ⟨ks rfl .dt, ks rfl .dt, ks rfl .dt, ks rfl .dt, trivial⟩
        · skip
          refine ACode.exit ?_
          refine ks_e ?_
          refine kl_e ?_
          refine kb_hit ?_
          refine ks_n ?_
          refine ACode.seq ?_
          refine ACode.region ?_
          refine .cons (.asg rfl rfl) ?_
          refine .nil ?_
          refine ks_n ?_
          refine ACode.ret ?_
          refine kf_ret rfl ?_ nobox
          exact leafB (by unfold inV; rw [hF, List.drop_of_length_le (by omega), g12, g17, decide_eq_true hpl]; rfl)

end Go.Proofs.Ytgcpdpbapgkdjaa

/- Rectangular nests; condition: small nests. -/
namespace Go.Proofs.Ytgcpdpbapgkdjaa
set_option linter.unusedVariables false
set_option linter.unusedSimpArgs false
open Go.RowKit

theorem flat_no {x : Aff} (h : 0 < affDepth x) : flatA x = false := decide_eq_false (by omega)
theorem flat_yes {x : Aff} (h : ¬ 0 < affDepth x) : flatA x = true := decide_eq_true (by omega)
theorem flat_gt (x : Aff) : decide ((0 : Int) < (affDepth x : Nat)) = !flatA x := by
  rw [Bool.eq_iff_iff]; simp [flatA]; omega

set_option maxRecDepth 100000 in
set_option maxHeartbeats 1600000 in
theorem l2Flat_fn {l : Lp} (h : l.1.length ≤ 100 ∧ l.2.length ≤ 100) : Fn Try.prog 65 [] [ad (rL l)] (.o (bo1 (lpFlat l))) [] := by
  refine Fn.code0 Try.func65 rfl rfl rfl rfl ?_
  refine ACode.seq ?_
  refine ACode.region ?_
  refine .cons (St1.boxP rfl rfl rfl rfl rfl rfl) ?_
  refine .cons (.asg rfl rfl) ?_
  refine .nil ?_
  refine ks_n ?_
  refine ACode.seq ?_
  refine ACode.seq ?_
  refine ACode.region ?_
  refine .cons (.asg rfl rfl) ?_
  refine .nil ?_
  refine ks_n ?_
  refine ACode.block ?_
  refine .loopK (fun m σ => (∃ i : Nat, m = l.1.length - i ∧ (i ≤ l.1.length) ∧ (l.1.all flatA = (l.1.drop i).all flatA) ∧ σ = [(.t 1, .v (.o (.c (.ptr (rL l))))), (.t 3, .v (.o (nat1 (i : Nat))))])) [] ⟨0, rfl, by omega, by simp, rfl⟩ ⟨ks rfl .dt, ks rfl .dt, trivial⟩ ?_
  rintro m σ ⟨i, hm0, hi, hF, rfl⟩
  refine ACode.seq ?_
  refine ACode.seq ?_
  refine ACode.region ?_
  refine .cons (.mv rfl rfl) ?_
  refine .cons (.fP 0 0 false rfl rfl) ?_
  refine .cons (.l1 1 rfl rfl) ?_
  refine .cons (.ln 51 2 32 rfl rfl rfl) ?_
  refine .cons (.ls rfl rfl rfl) ?_
  refine .nil ?_
  refine ks_n ?_
  refine .cD rfl (fun h9 => ?_) (fun h9 => ?_)
  · skip
    obtain ⟨x, hx1⟩ : ∃ x, l.1[i]? = some x := ⟨_, List.getElem?_eq_getElem (by omega)⟩
    refine ACode.skip ?_
    refine ks_n ?_
    refine ACode.seq ?_
    refine ACode.block ?_
    refine ACode.seq ?_
    refine ACode.region ?_
    refine .cons (.fP 0 0 false rfl rfl) ?_
    refine .cons (.l1 1 rfl rfl) ?_
    refine .cons (.mv rfl rfl) ?_
    refine .cons (.xL 51 2 32 rfl rfl rfl rfl rfl) ?_
    refine .cons (.lN 2 rfl rfl rfl) ?_
    refine .cons (.cP [.tmp 16] rfl rfl rfl rfl (l1Depth_fn x) rfl) ?_
    refine .cons (.gt rfl rfl rfl) ?_
    refine .nil ?_
    refine ks_n ?_
    refine .cD rfl (fun h18 => ?_) (fun h18 => ?_)
    · skip
      refine ACode.seq ?_
      refine ACode.region ?_
      refine .cons (.asg rfl rfl) ?_
      refine .nil ?_
      refine ks_n ?_
      refine ACode.ret ?_
      refine kb_r ?_
      refine ks_r ?_
      refine kl_r ?_
      refine kb_r ?_
      refine ks_r ?_
      refine kf_ret rfl ?_ nobox
      exact leafB (by rw [lpFlat, hF, all_drop hx1, flat_no (by omega)]; rfl)
    · skip
      refine ACode.skip ?_
      refine kb_n ?_
      refine ks_n ?_
      refine ACode.region ?_
      refine .cons (.mv rfl rfl) ?_
      refine .cons (.pl rfl rfl rfl) ?_
      refine .cons (.asg rfl rfl) ?_
      refine .nil ?_
      refine kl_k [] ⟨i + 1, rfl, by omega, by rw [hF, all_drop hx1, flat_yes (by omega), Bool.true_and], rfl⟩ ⟨ks rfl .dt, ks rfl .dt, trivial⟩
  · skip
    have hA : l.1.all flatA = true := by rw [hF, List.drop_of_length_le (by omega)]; rfl
    refine ACode.exit ?_
    refine ks_e ?_
    refine kl_e ?_
    refine kb_hit ?_
    refine ks_n ?_
    refine ACode.seq ?_
    refine ACode.seq ?_
    refine ACode.region ?_
    refine .cons (.asg rfl rfl) ?_
    refine .nil ?_
    refine ks_n ?_
    refine ACode.block ?_
    refine .loopK (fun m σ => (∃ i : Nat, m = l.2.length - i ∧ (i ≤ l.2.length) ∧ (l.2.all flatA = (l.2.drop i).all flatA) ∧ σ = [(.t 1, .v (.o (.c (.ptr (rL l))))), (.t 4, .v (.o (nat1 (i : Nat))))])) [] ⟨0, rfl, by omega, by simp, rfl⟩ ⟨ks rfl .dt, ks rfl .dt, trivial⟩ ?_
    rintro m σ ⟨i, hm0, hi, hF, rfl⟩
    refine ACode.seq ?_
    refine ACode.seq ?_
    refine ACode.region ?_
    refine .cons (.mv rfl rfl) ?_
    refine .cons (.fP 1 0 false rfl rfl) ?_
    refine .cons (.l1 1 rfl rfl) ?_
    refine .cons (.ln 51 2 32 rfl rfl rfl) ?_
    refine .cons (.ls rfl rfl rfl) ?_
    refine .nil ?_
    refine ks_n ?_
    refine .cD rfl (fun h23 => ?_) (fun h23 => ?_)
    · skip
      obtain ⟨x, hx1⟩ : ∃ x, l.2[i]? = some x := ⟨_, List.getElem?_eq_getElem (by omega)⟩
      refine ACode.skip ?_
      refine ks_n ?_
      refine ACode.seq ?_
      refine ACode.block ?_
      refine ACode.seq ?_
      refine ACode.region ?_
      refine .cons (.fP 1 0 false rfl rfl) ?_
      refine .cons (.l1 1 rfl rfl) ?_
      refine .cons (.mv rfl rfl) ?_
      refine .cons (.xL 51 2 32 rfl rfl rfl rfl rfl) ?_
      refine .cons (.lN 2 rfl rfl rfl) ?_
      refine .cons (.cP [.tmp 30] rfl rfl rfl rfl (l1Depth_fn x) rfl) ?_
      refine .cons (.gt rfl rfl rfl) ?_
      refine .nil ?_
      refine ks_n ?_
      refine .cD rfl (fun h32 => ?_) (fun h32 => ?_)
      · skip
        refine ACode.seq ?_
        refine ACode.region ?_
        refine .cons (.asg rfl rfl) ?_
        refine .nil ?_
        refine ks_n ?_
        refine ACode.ret ?_
        refine kb_r ?_
        refine ks_r ?_
        refine kl_r ?_
        refine kb_r ?_
        refine ks_r ?_
        refine kf_ret rfl ?_ nobox
        exact leafB (by rw [lpFlat, hA, hF, all_drop hx1, flat_no (by omega)]; rfl)
      · skip
        refine ACode.skip ?_
        refine kb_n ?_
        refine ks_n ?_
        refine ACode.region ?_
        refine .cons (.mv rfl rfl) ?_
        refine .cons (.pl rfl rfl rfl) ?_
        refine .cons (.asg rfl rfl) ?_
        refine .nil ?_
        refine kl_k [] ⟨i + 1, rfl, by omega, by rw [hF, all_drop hx1, flat_yes (by omega), Bool.true_and], rfl⟩ ⟨ks rfl .dt, ks rfl .dt, trivial⟩
    · skip
      refine ACode.exit ?_
      refine ks_e ?_
      refine kl_e ?_
      refine kb_hit ?_
      refine ks_n ?_
      refine ACode.seq ?_
      refine ACode.region ?_
      refine .cons (.asg rfl rfl) ?_
      refine .nil ?_
      refine ks_n ?_
      refine ACode.ret ?_
      refine kf_ret rfl ?_ nobox
      exact leafB (by rw [lpFlat, hA, hF, List.drop_of_length_le (by omega)]; rfl)

set_option maxRecDepth 100000 in
set_option maxHeartbeats 1600000 in
theorem specRect_fn (ns : List Lp) (hs : smN ns) : Fn Try.prog 23 [] [vD (dLs ns)] (.o (bo1 (nsRect ns))) [] := by
  have hn := hs.1
  refine Fn.code0 Try.func23 rfl rfl rfl rfl ?_
  refine ACode.seq ?_
  refine ACode.region ?_
  refine .cons (.asg rfl rfl) ?_
  refine .nil ?_
  refine ks_n ?_
  refine ACode.seq ?_
  refine ACode.seq ?_
  refine ACode.region ?_
  refine .cons (.asg rfl rfl) ?_
  refine .nil ?_
  refine ks_n ?_
  refine ACode.block ?_
  refine .loopK (fun m σ => (∃ i : Nat, m = ns.length - i ∧ (i ≤ ns.length) ∧ (ns.all lpFlat = (ns.drop i).all lpFlat) ∧ σ = [(.t 0, .v (.o (vD (dLs ns)))), (.t 3, .v (.o (nat1 (i : Nat))))])) [] ⟨0, rfl, by omega, by simp, rfl⟩ ⟨ks rfl .dt, ks rfl .dt, trivial⟩ ?_
  rintro m σ ⟨i, hm0, hi, hF, rfl⟩
  refine ACode.seq ?_
  refine ACode.seq ?_
  refine ACode.region ?_
  refine .cons (.mv rfl rfl) ?_
  refine .cons (.mv rfl rfl) ?_
  refine .cons (.ln 67 2 48 rfl rfl rfl) ?_
  refine .cons (.ls rfl rfl rfl) ?_
  refine .nil ?_
  refine ks_n ?_
  refine .cD rfl (fun h7 => ?_) (fun h7 => ?_)
  · skip
    obtain ⟨x, hx1⟩ : ∃ x, ns[i]? = some x := ⟨_, List.getElem?_eq_getElem (by omega)⟩
    have hq := hs.2 x (List.mem_of_getElem? hx1)
    refine ACode.skip ?_
    refine ks_n ?_
    refine ACode.seq ?_
    refine ACode.block ?_
    refine ACode.seq ?_
    refine ACode.region ?_
    refine .cons (.mv rfl rfl) ?_
    refine .cons (.mv rfl rfl) ?_
    refine .cons (.xL 67 2 48 rfl rfl rfl rfl rfl) ?_
    refine .cons (.lN 2 rfl rfl rfl) ?_
    refine .cons (.cP [.tmp 13] rfl rfl rfl rfl (l2Flat_fn ⟨hq.1, hq.2.1⟩) rfl) ?_
    refine .cons (.nt rfl rfl) ?_
    refine .nil ?_
    refine ks_n ?_
    refine ACode.condT rfl (fun h15 => ?_) (fun h15 => ?_)
    · try simp only [List.length_map, decide_eq_true_eq, decide_eq_false_iff_not, Bool.not_eq_true', Bool.not_eq_false', Bool.not_eq_true, Bool.not_eq_false] at h15
      refine ACode.seq ?_
      refine ACode.region ?_
      refine .cons (.asg rfl rfl) ?_
      refine .nil ?_
      refine ks_n ?_
      refine ACode.ret ?_
      refine kb_r ?_
      refine ks_r ?_
      refine kl_r ?_
      refine kb_r ?_
      refine ks_r ?_
      refine kf_ret rfl ?_ nobox
      exact leafB (by rw [nsRect, hF, all_drop hx1, h15]; rfl)
    · try simp only [List.length_map, decide_eq_true_eq, decide_eq_false_iff_not, Bool.not_eq_true', Bool.not_eq_false', Bool.not_eq_true, Bool.not_eq_false] at h15
      refine ACode.skip ?_
      refine kb_n ?_
      refine ks_n ?_
      refine ACode.region ?_
      refine .cons (.mv rfl rfl) ?_
      refine .cons (.pl rfl rfl rfl) ?_
      refine .cons (.asg rfl rfl) ?_
      refine .nil ?_
      refine kl_k [] ⟨i + 1, rfl, by omega, by rw [hF, all_drop hx1, h15, Bool.true_and], rfl⟩ ⟨ks rfl .dt, ks rfl .dt, trivial⟩
  · skip
    refine ACode.exit ?_
    refine ks_e ?_
    refine kl_e ?_
    refine kb_hit ?_
    refine ks_n ?_
    refine ACode.seq ?_
    refine ACode.region ?_
    refine .cons (.mv rfl rfl) ?_
    refine .cons (.cP [.tmp 16] rfl rfl rfl rfl (specNestV_fn ns hs) rfl) ?_
    refine .cons (.asg rfl rfl) ?_
    refine .nil ?_
    refine ks_n ?_
    refine ACode.ret ?_
    refine kf_ret rfl ?_ nobox
    exact leafB (by rw [nsRect, hF, List.drop_of_length_le (by omega)]; rfl)

set_option maxRecDepth 100000 in
set_option maxHeartbeats 1600000 in
theorem fixed1_fn (x : Aff) : Fn Try.prog 99 [] [ad (rA x)] (.o (bo1 (!flatA x))) [] := by
  refine Fn.code0 Try.func99 rfl rfl rfl rfl ?_
  refine ACode.seq ?_
  refine ACode.region ?_
  refine .cons (St1.boxP rfl rfl rfl rfl rfl rfl) ?_
  refine .cons (.asg rfl rfl) ?_
  refine .nil ?_
  refine ks_n ?_
  refine ACode.seq ?_
  refine ACode.region ?_
  refine .cons (.lN 2 rfl rfl rfl) ?_
  refine .cons (.cP [.tmp 3] rfl rfl rfl rfl (depth_fn x) rfl) ?_
  refine .cons (.gt rfl rfl rfl) ?_
  refine .cons (.asg rfl rfl) ?_
  refine .nil ?_
  refine ks_n ?_
  refine ACode.ret ?_
  refine kf_ret rfl ?_ nobox
  exact leafB (flat_gt x)

set_option maxRecDepth 100000 in
set_option maxHeartbeats 1600000 in
theorem isFixed_fn (xs : List Aff) (hx : xs.length ≤ 1099511627776) : Fn Try.prog 63 [] [vD (dAs xs)] (.o (bo1 (xs.all flatA))) [] := by
  refine Fn.code0 Try.func63 rfl rfl rfl rfl ?_
  refine ACode.seq ?_
  refine ACode.region ?_
  refine .cons (.asg rfl rfl) ?_
  refine .nil ?_
  refine ks_n ?_
  refine ACode.seq ?_
  refine ACode.region ?_
  refine .cons (.mv rfl rfl) ?_
  refine .cons (.cP [.tmp 3, .func 99] rfl rfl rfl rfl (cnt_aff (f := 99) (cap := []) (by kernel_rfl) (fun x => !flatA x) xs hx (fun x _ => fixed1_fn x)) rfl) ?_
  refine .cons (.nt rfl rfl) ?_
  refine .cons (.asg rfl rfl) ?_
  refine .nil ?_
  refine ks_n ?_
  refine ACode.ret ?_
  refine kf_ret rfl ?_ nobox
  exact leafB (nany _ _)

set_option maxRecDepth 100000 in
set_option maxHeartbeats 1600000 in
theorem rect1_fn (l : Lp) (h : l.1.length ≤ 1099511627776 ∧ l.2.length ≤ 1099511627776) : Fn Try.prog 62 [] [ad (rL l)] (.o (bo1 (!lpFlat l))) [] := by
  refine Fn.code0 Try.func62 rfl rfl rfl rfl ?_
  refine ACode.seq ?_
  refine ACode.region ?_
  refine .cons (St1.boxP rfl rfl rfl rfl rfl rfl) ?_
  refine .cons (.asg rfl rfl) ?_
  refine .nil ?_
  refine ks_n ?_
  refine ACode.seq ?_
  refine ACode.region ?_
  refine .cons (.fP 0 0 false rfl rfl) ?_
  refine .cons (.l1 1 rfl rfl) ?_
  refine .cons (.cP [.tmp 4] rfl rfl rfl rfl (isFixed_fn _ h.1) rfl) ?_
  refine .cons (.nt rfl rfl) ?_
  refine .cons (.mv rfl rfl) ?_
  refine AOps.cases 7 _ rfl (fun g7 => ?_) (fun g7 => ?_)
  · try simp only [List.length_map, decide_eq_true_eq, decide_eq_false_iff_not, Bool.not_eq_true', Bool.not_eq_false', Bool.not_eq_true, Bool.not_eq_false] at g7
    refine .cons (.gF rfl rfl rfl) ?_
    refine .cons (.gF rfl rfl rfl) ?_
    refine .cons (.gF rfl rfl rfl) ?_
    refine .cons (.gF rfl rfl rfl) ?_
    refine .cons (.pT rfl rfl rfl) ?_
    refine .cons (.asg rfl rfl) ?_
    refine .nil ?_
    refine ks_n ?_
    refine ACode.ret ?_
    refine kf_ret rfl ?_ nobox
    exact leafB (by rw [lpFlat, g7]; rfl)
  · try simp only [List.length_map, decide_eq_true_eq, decide_eq_false_iff_not, Bool.not_eq_true', Bool.not_eq_false', Bool.not_eq_true, Bool.not_eq_false] at g7
    refine .cons (.gT rfl rfl rfl (.fP 1 0 false rfl rfl)) ?_
    refine .cons (.gT rfl rfl rfl (.l1 1 rfl rfl)) ?_
    refine .cons (.gT rfl rfl rfl (.cP [.tmp 9] rfl rfl rfl rfl (isFixed_fn _ h.2) rfl)) ?_
    refine .cons (.gT rfl rfl rfl (.nt rfl rfl)) ?_
    refine .cons (.pF rfl rfl rfl) ?_
    refine .cons (.asg rfl rfl) ?_
    refine .nil ?_
    refine ks_n ?_
    refine ACode.ret ?_
    refine kf_ret rfl ?_ nobox
    exact leafB (by rw [lpFlat, g7]; rfl)

set_option maxRecDepth 100000 in
set_option maxHeartbeats 1600000 in
theorem implRect_fn (ns : List Lp) (hs : smN ns) : Fn Try.prog 21 [] [vD (dLs ns)] (.o (bo1 (nsRect ns))) [] := by
  refine Fn.code0 Try.func21 rfl rfl rfl rfl ?_
  refine ACode.seq ?_
  refine ACode.region ?_
  refine .cons (.asg rfl rfl) ?_
  refine .nil ?_
  refine ks_n ?_
  refine ACode.seq ?_
  refine ACode.region ?_
  refine .cons (.mv rfl rfl) ?_
  refine .cons (.cP [.tmp 3] rfl rfl rfl rfl (implNestV_fn ns hs) rfl) ?_
  refine .cons (.mv rfl rfl) ?_
  refine AOps.cases 5 _ rfl (fun g5 => ?_) (fun g5 => ?_)
  · try simp only [List.length_map, decide_eq_true_eq, decide_eq_false_iff_not, Bool.not_eq_true', Bool.not_eq_false', Bool.not_eq_true, Bool.not_eq_false] at g5
    refine .cons (.gT rfl rfl rfl (.mv rfl rfl)) ?_
    refine .cons (.gT rfl rfl rfl (.cP [.tmp 6, .func 62] rfl rfl rfl rfl (cnt_lp (f := 62) (cap := []) (by kernel_rfl) (fun l => !lpFlat l) ns (Nat.le_trans hs.1 (by omega)) (fun l hl => rect1_fn l ⟨Nat.le_trans (hs.2 l hl).1 (by omega), Nat.le_trans (hs.2 l hl).2.1 (by omega)⟩)) rfl)) ?_
    refine .cons (.gT rfl rfl rfl (.nt rfl rfl)) ?_
    refine .cons (.pT rfl rfl rfl) ?_
    refine .cons (.asg rfl rfl) ?_
    refine .nil ?_
    refine ks_n ?_
    refine ACode.ret ?_
    refine kf_ret rfl ?_ nobox
    first | exact leafB (by rw [nany, nsRect, g5, Bool.and_true]) | exact leafB (by rw [nsRect, g5, Bool.and_false])
  · try simp only [List.length_map, decide_eq_true_eq, decide_eq_false_iff_not, Bool.not_eq_true', Bool.not_eq_false', Bool.not_eq_true, Bool.not_eq_false] at g5
    refine .cons (.gF rfl rfl rfl) ?_
    refine .cons (.gF rfl rfl rfl) ?_
    refine .cons (.gF rfl rfl rfl) ?_
    refine .cons (.pF rfl rfl rfl) ?_
    refine .cons (.asg rfl rfl) ?_
    refine .nil ?_
    refine ks_n ?_
    refine ACode.ret ?_
    refine kf_ret rfl ?_ nobox
    first | exact leafB (by rw [nany, nsRect, g5, Bool.and_true]) | exact leafB (by rw [nsRect, g5, Bool.and_false])

end Go.Proofs.Ytgcpdpbapgkdjaa

/- The reader: open; no condition. -/
namespace Go.Proofs.Ytgcpdpbapgkdjaa
set_option linter.unusedVariables false
set_option linter.unusedSimpArgs false
open Go.RowKit

set_option maxRecDepth 100000 in
set_option maxHeartbeats 1600000 in
theorem l16Open_fn (bs : List Int) : Fn Try.prog 43 [] [vD (dYs bs)] (.o (.c (.box 100 2 0 0))) [(.b 100, .b 105 2 (dR [rRd (bs.take 2000) 0])), (.u 100, .u)] := by
  refine Fn.of_code Try.func43 rfl rfl HB.nil rfl rfl HB.nil.data rfl (one_num rfl) ?_
  refine ACode.seq ?_
  refine ACode.region ?_
  refine .cons (.asg rfl rfl) ?_
  refine .nil ?_
  refine ks_n ?_
  refine ACode.seq ?_
  refine ACode.seq ?_
  refine ACode.region ?_
  refine .cons (.mv rfl rfl) ?_
  refine .cons (.ln 5 1 1 rfl rfl rfl) ?_
  refine .cons (.gt rfl rfl rfl) ?_
  refine .nil ?_
  refine ks_n ?_
  refine .cD rfl (fun h5 => ?_) (fun h5 => ?_)
  · skip
    refine ACode.region ?_
    refine .cons (.mv rfl rfl) ?_
    refine .cons (St1.sliceTo (e := 5) (sz := 1) (by' := 1) (k := 2000) rfl rfl rfl rfl (by kernel_rfl) rfl rfl rfl (by first | rfl | omega) (by simp only [List.length_map]; omega)) ?_
    refine .cons (.asg rfl rfl) ?_
    refine .nil ?_
    refine ks_n ?_
    refine ACode.seq ?_
    refine ACode.region ?_
    refine .cons (.mv rfl rfl) ?_
    refine .cons (.bu [(0, .tmp 8)] [(0, 1), (1, 1)] [.slice none 0 0, .int .i64 0] rfl rfl rfl rfl rfl) ?_
    refine .cons (St1.boxB (k' := 110) rfl rfl rfl rfl rfl rfl rfl) ?_
    refine .cons (.asg rfl rfl) ?_
    refine .nil ?_
    refine ks_n ?_
    refine ACode.ret ?_
    refine kf_wret [(.t 2, .v (.o (.c (.box 100 2 0 0)))), (.b 100, .b 105 2 [[.d (dYs (bs.take 2000)), .d (dI 0)]]), (.u 100, .u)] (Wk.keep [(100, 110)] rfl rfl ⟨ks rfl (.c .bx), kb 110 rfl (.cons (.cons (.dt (by first | (simp only [dYs, List.map_take]; done) | rw [List.take_of_length_le (by omega)])) (.cons .dt Ctos.nil)) .nil), trivial⟩) rfl ?_ (one_box rfl)
    rfl
  · skip
    refine ACode.skip ?_
    refine ks_n ?_
    refine ACode.seq ?_
    refine ACode.region ?_
    refine .cons (.mv rfl rfl) ?_
    refine .cons (.bu [(0, .tmp 8)] [(0, 1), (1, 1)] [.slice none 0 0, .int .i64 0] rfl rfl rfl rfl rfl) ?_
    refine .cons (St1.boxB (k' := 110) rfl rfl rfl rfl rfl rfl rfl) ?_
    refine .cons (.asg rfl rfl) ?_
    refine .nil ?_
    refine ks_n ?_
    refine ACode.ret ?_
    refine kf_wret [(.t 2, .v (.o (.c (.box 100 2 0 0)))), (.b 100, .b 105 2 [[.d (dYs (bs.take 2000)), .d (dI 0)]]), (.u 100, .u)] (Wk.keep [(100, 110)] rfl rfl ⟨ks rfl (.c .bx), kb 110 rfl (.cons (.cons (.dt (by first | (simp only [dYs, List.map_take]; done) | rw [List.take_of_length_le (by omega)])) (.cons .dt Ctos.nil)) .nil), trivial⟩) rfl ?_ (one_box rfl)
    rfl

end Go.Proofs.Ytgcpdpbapgkdjaa

/- Draws of nests; condition: bytes. -/
namespace Go.Proofs.Ytgcpdpbapgkdjaa
set_option linter.unusedVariables false
set_option linter.unusedSimpArgs false
open Go.RowKit

theorem okN.mono {k m : Nat} {ns : List Lp} (h : okN k ns) (hm : k ≤ m) : okN m ns := ⟨Nat.le_trans h.1 hm, fun l hl => (h.2 l hl).mono hm⟩

set_option maxRecDepth 100000 in
set_option maxHeartbeats 1600000 in
theorem drawNV_core {bs : List Int} (hb : Bytes (bs.take 2000)) {ms : List Lp} {q2 : Nat} (hF : Fn Try.prog 46 (hbR (bs.take 2000) (nestD (bs.take 2000) 0).2) [vR, vD (dLs (nestD (bs.take 2000) 0).1)] (.o (vD (dLs ms))) (hbR (bs.take 2000) q2)) : Fn Try.prog 64 [] [vD (dYs bs)] (.o (vD (dLs ms))) [] := by
  refine Fn.code0 Try.func64 rfl rfl rfl rfl ?_
  refine ACode.seq ?_
  refine ACode.region ?_
  refine .cons (.asg rfl rfl) ?_
  refine .nil ?_
  refine ks_n ?_
  refine ACode.seq ?_
  refine ACode.region ?_
  refine .cons (.mv rfl rfl) ?_
  refine .cons (.cO [.tmp 4] [(100, 105)] rfl rfl rfl rfl (l16Open_fn bs) rfl trivial flatS.nil (flatS.nil.cons rfl) HB.nil.data outS_one) ?_
  refine .cons (.asg rfl rfl) ?_
  refine .nil ?_
  refine ks_n ?_
  refine ACode.seq ?_
  refine ACode.region ?_
  refine .cons (.mv rfl rfl) ?_
  refine .cons (.mv rfl rfl) ?_
  refine .cons (.cR [.tmp 7] 105 rfl rfl rfl rfl (l2Nest_own hb (by omega)) rfl ⟨rfl, trivial⟩) ?_
  refine .cons (.cR [.tmp 6, .tmp 8] 105 rfl rfl rfl rfl (hF) rfl ⟨rfl, trivial⟩) ?_
  refine .cons (.asg rfl rfl) ?_
  refine .nil ?_
  refine ks_n ?_
  refine ACode.ret ?_
  refine kf_ret rfl ?_ nobox
  rfl

theorem drawNV_fn {bs : List Int} (hb : Bytes (bs.take 2000)) : ∃ ns, okN 8 ns ∧ Fn Try.prog 64 [] [vD (dYs bs)] (.o (vD (dLs ns))) [] := by
  obtain ⟨h1, h2⟩ := nestD_ok hb (p := 0) (by omega)
  obtain ⟨ms, q, h3, h4, h5⟩ := l2Mutate_fn hb (p := (nestD (bs.take 2000) 0).2) (by omega) h1 (by omega)
  exact ⟨ms, h3, drawNV_core hb h5⟩

set_option maxRecDepth 100000 in
set_option maxHeartbeats 1600000 in
theorem drawNS_one {bs : List Int} (hb : Bytes (bs.take 2000)) (hk : pickV (bs.take 2000) (nestD (bs.take 2000) 0).2 2 = 0) : Fn Try.prog 13 [] [vD (dYs bs)] (.tup [vD (dLs (nestD (bs.take 2000) 0).1), vD (dLs (nestD (bs.take 2000) ((nestD (bs.take 2000) 0).2 + 1)).1)]) [] := by
  have hq := (nestD_ok hb (p := 0) (by omega)).2
  refine Fn.code0 Try.func13 rfl rfl rfl rfl ?_
  refine ACode.seq ?_
  refine ACode.region ?_
  refine .cons (.asg rfl rfl) ?_
  refine .cons (.asg rfl rfl) ?_
  refine .nil ?_
  refine ks_n ?_
  refine ACode.seq ?_
  refine ACode.region ?_
  refine .cons (.mv rfl rfl) ?_
  refine .cons (.cO [.tmp 6] [(100, 107)] rfl rfl rfl rfl (l16Open_fn bs) rfl trivial flatS.nil (flatS.nil.cons rfl) HB.nil.data outS_one) ?_
  refine .cons (.asg rfl rfl) ?_
  refine .nil ?_
  refine ks_n ?_
  refine ACode.seq ?_
  refine ACode.region ?_
  refine .cons (.mv rfl rfl) ?_
  refine .cons (.cR [.tmp 8] 107 rfl rfl rfl rfl (l2Nest_own hb (by omega)) rfl ⟨rfl, trivial⟩) ?_
  refine .cons (.asg rfl rfl) ?_
  refine .nil ?_
  refine ks_n ?_
  refine ACode.seq ?_
  refine ACode.seq ?_
  refine ACode.region ?_
  refine .cons (.mv rfl rfl) ?_
  refine .cons (.cR [.tmp 10, .const (.int .i64 (2))] 107 rfl rfl rfl rfl (pick_fn hb (by omega) 2) rfl ⟨rfl, trivial⟩) ?_
  refine .cons (.eq rfl rfl rfl) ?_
  refine .nil ?_
  refine ks_n ?_
  refine .cD rfl (fun h12 => ?_) (fun h12 => ?_)
  · skip
    refine ACode.seq ?_
    refine ACode.region ?_
    refine .cons (.mv rfl rfl) ?_
    refine .cons (.mv rfl rfl) ?_
    refine .cons (.cR [.tmp 14] 107 rfl rfl rfl rfl (l2Nest_own hb (by omega)) rfl ⟨rfl, trivial⟩) ?_
    refine .cons (.asg rfl rfl) ?_
    refine .cons (.asg rfl rfl) ?_
    refine .nil ?_
    refine ks_n ?_
    refine ACode.ret ?_
    refine ks_r ?_
    refine kf_ret rfl ?_ nobox
    rfl
  · skip
    omega

set_option maxRecDepth 100000 in
set_option maxHeartbeats 1600000 in
theorem drawNS_two {bs : List Int} (hb : Bytes (bs.take 2000)) (hk : pickV (bs.take 2000) (nestD (bs.take 2000) 0).2 2 ≠ 0) {ms ms2 : List Lp} {q2 q3 : Nat} (hF : Fn Try.prog 46 (hbR (bs.take 2000) ((nestD (bs.take 2000) 0).2 + 1)) [vR, vD (dLs (nestD (bs.take 2000) 0).1)] (.o (vD (dLs ms))) (hbR (bs.take 2000) q2)) (hF2 : Fn Try.prog 46 (hbR (bs.take 2000) q2) [vR, vD (dLs ms)] (.o (vD (dLs ms2))) (hbR (bs.take 2000) q3)) : Fn Try.prog 13 [] [vD (dYs bs)] (.tup [vD (dLs (nestD (bs.take 2000) 0).1), vD (dLs ms2)]) [] := by
  have hq := (nestD_ok hb (p := 0) (by omega)).2
  refine Fn.code0 Try.func13 rfl rfl rfl rfl ?_
  refine ACode.seq ?_
  refine ACode.region ?_
  refine .cons (.asg rfl rfl) ?_
  refine .cons (.asg rfl rfl) ?_
  refine .nil ?_
  refine ks_n ?_
  refine ACode.seq ?_
  refine ACode.region ?_
  refine .cons (.mv rfl rfl) ?_
  refine .cons (.cO [.tmp 6] [(100, 107)] rfl rfl rfl rfl (l16Open_fn bs) rfl trivial flatS.nil (flatS.nil.cons rfl) HB.nil.data outS_one) ?_
  refine .cons (.asg rfl rfl) ?_
  refine .nil ?_
  refine ks_n ?_
  refine ACode.seq ?_
  refine ACode.region ?_
  refine .cons (.mv rfl rfl) ?_
  refine .cons (.cR [.tmp 8] 107 rfl rfl rfl rfl (l2Nest_own hb (by omega)) rfl ⟨rfl, trivial⟩) ?_
  refine .cons (.asg rfl rfl) ?_
  refine .nil ?_
  refine ks_n ?_
  refine ACode.seq ?_
  refine ACode.seq ?_
  refine ACode.region ?_
  refine .cons (.mv rfl rfl) ?_
  refine .cons (.cR [.tmp 10, .const (.int .i64 (2))] 107 rfl rfl rfl rfl (pick_fn hb (by omega) 2) rfl ⟨rfl, trivial⟩) ?_
  refine .cons (.eq rfl rfl rfl) ?_
  refine .nil ?_
  refine ks_n ?_
  refine .cD rfl (fun h12 => ?_) (fun h12 => ?_)
  · skip
    omega
  · skip
    refine ACode.skip ?_
    refine ks_n ?_
    refine ACode.seq ?_
    refine ACode.region ?_
    refine .cons (.mv rfl rfl) ?_
    refine .cons (.mv rfl rfl) ?_
    refine .cons (.mv rfl rfl) ?_
    refine .cons (.mv rfl rfl) ?_
    refine .cons (.cR [.tmp 18, .tmp 19] 107 rfl rfl rfl rfl (hF) rfl ⟨rfl, trivial⟩) ?_
    refine .cons (.cR [.tmp 17, .tmp 20] 107 rfl rfl rfl rfl (hF2) rfl ⟨rfl, trivial⟩) ?_
    refine .cons (.asg rfl rfl) ?_
    refine .cons (.asg rfl rfl) ?_
    refine .nil ?_
    refine ks_n ?_
    refine ACode.ret ?_
    refine kf_ret rfl ?_ nobox
    rfl

theorem drawNS_fn {bs : List Int} (hb : Bytes (bs.take 2000)) : ∃ ns ms, okN 13 ns ∧ okN 13 ms ∧ Fn Try.prog 13 [] [vD (dYs bs)] (.tup [vD (dLs ns), vD (dLs ms)]) [] := by
  obtain ⟨h1, h2⟩ := nestD_ok hb (p := 0) (by omega)
  by_cases hk : pickV (bs.take 2000) (nestD (bs.take 2000) 0).2 2 = 0
  · exact ⟨_, _, h1.mono (by omega), (nestD_ok hb (by omega)).1.mono (by omega), drawNS_one hb hk⟩
  · obtain ⟨ms, q, h3, h4, h5⟩ := l2Mutate_fn hb (p := (nestD (bs.take 2000) 0).2 + 1) (by omega) h1 (by omega)
    obtain ⟨ms2, q2, h6, h7, h8⟩ := l2Mutate_fn hb (p := q) (by omega) h3 (by omega)
    exact ⟨_, _, h1.mono (by omega), h6, drawNS_two hb hk h5 h8⟩

end Go.Proofs.Ytgcpdpbapgkdjaa

/- From a law's contract over data to its run at slices of bytes; condition: what the slices hold. -/
namespace Go.Proofs.Ytgcpdpbapgkdjaa
set_option linter.unusedVariables false
set_option linter.unusedSimpArgs false
open Go.RowKit

theorem ys_dr {B : Nat → Prop} {w : World} {v : Value} {xs : List Int} (h : Sl Sh.byte B w v xs) : Dr B w (dYs xs) v := by
  obtain ⟨a, cap, rfl, h1, h2, h3, h4⟩ := h
  by_cases h0 : xs.length = 0
  · have : xs = [] := List.eq_nil_of_length_eq_zero h0
    subst this
    exact Dr.list 1 [] a 0 cap 0 0 (fun _ _ => undef) rfl (Nat.zero_le _) (Nat.zero_le _) h3 (fun h => absurd h (Nat.lt_irrefl _)) (fun i r h => by simp at h) (fun i r j x h => by simp at h) (fun i r j x h => by simp at h)
  · obtain ⟨b, off, cs, rfl, _⟩ := h4 0 xs[0] (List.getElem?_eq_getElem (by omega))
    have hr : ∀ (i : Nat) r, (xs.map rY)[i]? = some r → ∃ x, xs[i]? = some x ∧ r = rY x := fun i r hr => by
      rw [List.getElem?_map] at hr
      cases hx : xs[i]? with
      | none => rw [hx] at hr; cases hr
      | some x => rw [hx] at hr; cases hr; exact ⟨x, rfl, rfl⟩
    refine Dr.list 1 (xs.map rY) (some ⟨b, off, none⟩) xs.length cap b off (fun i _ => .int .u8 (xs.getD i 0)) (by rw [List.length_map]) h1 h2 (fun h => by cases h) (fun _ => rfl) (fun i r hi => ?_) (fun i r j y hi hj => ?_) (fun i r j y hi hj => ?_)
    · obtain ⟨x, _, rfl⟩ := hr i r hi; rfl
    all_goals
      obtain ⟨x, hx, rfl⟩ := hr i r hi
      have hj0 : j = 0 ∧ y = .val (.int .u8 x) := by
        cases j with
        | zero => simp [rY] at hj; exact ⟨rfl, hj.symm⟩
        | succ j => simp [rY] at hj
      obtain ⟨rfl, rfl⟩ := hj0
      have hg : xs.getD i 0 = x := by rw [List.getD, hx]; rfl
    · obtain ⟨b', off', cs, e, hb, hr', hc⟩ := h4 i x hx
      cases e
      have hr2 : cs = [.int .u8 x] := hr'
      subst hr2
      exact ⟨hb, by rw [hg]; exact hc 0 _ rfl⟩
    · show Dr B w (.val (.int .u8 x)) (.int .u8 (xs.getD i 0))
      rw [hg]; exact .val _ rfl
/-- A law that answers true, and turns nothing that was there. -/
abbrev Truth (P : Program) (f : FuncId) (vs : Array Value) (w : World) : Prop := Calls P f vs w fun e w' => e = .returned (.bool true) ∧ Below w.heap.size w w'
theorem Fn.truth {P : Program} {f : FuncId} {args : List V1} {vs : List Value} {w : World} {B : Nat → Prop} (h : Fn P f [] args (.o (bo1 true)) []) (hv : Vals (V1r (fun _ => (0, 0)) (Al (lk [])) B w) args vs) : Truth P f vs.toArray w := by
  have hno : ∀ k, ¬ Al (lk []) k := fun k ⟨e, sz, rows, h⟩ => by cases h
  refine (h B (fun _ => (0, 0)) w vs ⟨fun k e sz rows h => (by cases h), fun k l hk => (hno k hk).elim, fun k hk => (hno k hk).elim⟩ hv).mono ?_
  rintro e w' ⟨v, bx', rfl, hp⟩
  have hv : Dr _ w' (.val (.bool true)) v := hp.val
  cases hv
  exact ⟨rfl, hp.os, hp.tape, hp.output, hp.size, fun b hb => hp.old b hb fun k hk => (hno k hk).elim⟩
/-- A slice of bytes, as a law takes it. -/
structure Byt (w : World) (a : Option Addr) (n c : Nat) (bs : List Int) : Prop where
  sl : n ≤ 1048576 → Sl Sh.byte (fun b => b < w.heap.size) w (.slice a n c) bs
  bd : ∀ x ∈ bs, 0 ≤ x ∧ x ≤ 255
abbrev vX (a : Option Addr) (n c : Nat) : V1 := vD (.val (.slice a n c))
theorem bytes_take {bs : List Int} (h : ∀ x ∈ bs, 0 ≤ x ∧ x ≤ 255) : Bytes (bs.take 2000) := ⟨by rw [List.length_take]; omega, fun x hx => h x (List.mem_of_mem_take hx)⟩
theorem law1 {P : Program} {f : FuncId} {a : Option Addr} {n c : Nat} {bs : List Int} {w : World} (h : Byt w a n c bs) (hbig : 1048576 < n → Fn P f [] [vX a n c] (.o (bo1 true)) [])
    (hsm : bs.length ≤ 1048576 → Bytes (bs.take 2000) → Fn P f [] [vD (dYs bs)] (.o (bo1 true)) []) : Truth P f #[.slice a n c] w := by
  by_cases hn : 1048576 < n
  · exact (hbig hn).truth (vs := [_]) (B := fun _ => True) ⟨rfl, fun i x v hx hv => by
      match i, hx, hv with
      | 0, hx, hv => cases hx; cases hv; exact Dr.val _ rfl⟩
  · have hs := h.sl (by omega)
    have hl : bs.length = n := hs.len
    exact (hsm (by omega) (bytes_take h.bd)).truth (vs := [_]) ⟨rfl, fun i x v hx hv => by
      match i, hx, hv with
      | 0, hx, hv => cases hx; cases hv; exact ys_dr hs⟩
theorem law2 {P : Program} {f : FuncId} {a a2 : Option Addr} {n c n2 c2 : Nat} {bs bs2 : List Int} {w : World} (h : Byt w a n c bs) (h2 : Byt w a2 n2 c2 bs2) (hbig : 1048576 < n ∨ 1048576 < n2 → Fn P f [] [vX a n c, vX a2 n2 c2] (.o (bo1 true)) [])
    (hsm : bs.length ≤ 1048576 → bs2.length ≤ 1048576 → Bytes (bs.take 2000) → Bytes (bs2.take 2000) → Fn P f [] [vD (dYs bs), vD (dYs bs2)] (.o (bo1 true)) []) : Truth P f #[.slice a n c, .slice a2 n2 c2] w := by
  by_cases hn : 1048576 < n ∨ 1048576 < n2
  · exact (hbig hn).truth (vs := [_, _]) (B := fun _ => True) ⟨rfl, fun i x v hx hv => by
      match i, hx, hv with
      | 0, hx, hv => cases hx; cases hv; exact Dr.val _ rfl
      | 1, hx, hv => cases hx; cases hv; exact Dr.val _ rfl⟩
  · have hs := h.sl (by omega)
    have hs2 := h2.sl (by omega)
    have hl : bs.length = n := hs.len
    have hl2 : bs2.length = n2 := hs2.len
    exact (hsm (by omega) (by omega) (bytes_take h.bd) (bytes_take h2.bd)).truth (vs := [_, _]) ⟨rfl, fun i x v hx hv => by
      match i, hx, hv with
      | 0, hx, hv => cases hx; cases hv; exact ys_dr hs
      | 1, hx, hv => cases hx; cases hv; exact ys_dr hs2⟩
end Go.Proofs.Ytgcpdpbapgkdjaa

/- Law FnRectNest; condition: bytes. -/
namespace Go.Proofs.Ytgcpdpbapgkdjaa
set_option linter.unusedVariables false
set_option linter.unusedSimpArgs false
open Go.RowKit

set_option maxRecDepth 100000 in
set_option maxHeartbeats 1600000 in
theorem drawRect_core {bs : List Int} {ns : List Lp} (hF : Fn Try.prog 64 [] [vD (dYs bs)] (.o (vD (dLs ns))) []) : Fn Try.prog 22 [] [vD (dYs bs)] (.o (vD (dLs ns))) [] := by
  refine Fn.code0 Try.func22 rfl rfl rfl rfl ?_
  refine ACode.seq ?_
  refine ACode.region ?_
  refine .cons (.asg rfl rfl) ?_
  refine .nil ?_
  refine ks_n ?_
  refine ACode.seq ?_
  refine ACode.region ?_
  refine .cons (.mv rfl rfl) ?_
  refine .cons (.cP [.tmp 3] rfl rfl rfl rfl (hF) rfl) ?_
  refine .cons (.asg rfl rfl) ?_
  refine .nil ?_
  refine ks_n ?_
  refine ACode.ret ?_
  refine kf_ret rfl ?_ nobox
  rfl

theorem flat_ev {x : Aff} (h : flatA x = true) (p : List Int) : affEval x p = x.2 := by
  have h0 : affDepth x = 0 := of_decide_eq_true h
  have hz : ∀ k, k ≤ x.1.length → depthTo x.1 k = 0 → ∀ i, i < k → x.1.getD i 0 = 0 := by
    intro k
    induction k with
    | zero => intro _ _ i hi; omega
    | succ k ih =>
      intro hk hd i hi
      rw [depthTo] at hd
      by_cases hc : x.1.getD k 0 = 0
      · rw [if_pos hc] at hd
        by_cases e : i = k
        · rw [e]; exact hc
        · exact ih (by omega) hd i (by omega)
      · rw [if_neg hc] at hd; omega
  have hall : ∀ i, x.1.getD i 0 = 0 := fun i => by
    by_cases hi : i < x.1.length
    · exact hz _ (Nat.le_refl _) h0 i hi
    · rw [List.getD, List.getElem?_eq_none (by omega)]; rfl
  have he : ∀ k, evalTo x.1 p k = 0 := by
    intro k
    induction k with
    | zero => rfl
    | succ k ih => rw [evalTo, ih, hall, Int.zero_mul, Int.add_zero]
  rw [affEval, he, Int.add_zero]
theorem mxF_flat (p q : List Int) : ∀ (l : List Aff) (m : Int), l.all flatA = true → mxF p m l = mxF q m l
  | [], m, h => rfl
  | x :: l, m, h => by
    rw [List.all_cons, Bool.and_eq_true] at h
    rw [mxF, mxF, flat_ev h.1, flat_ev h.1, mxF_flat p q l _ h.2]
theorem mnF_flat (p q : List Int) : ∀ (l : List Aff) (m : Int), l.all flatA = true → mnF p m l = mnF q m l
  | [], m, h => rfl
  | x :: l, m, h => by
    rw [List.all_cons, Bool.and_eq_true] at h
    rw [mnF, mnF, flat_ev h.1, flat_ev h.1, mnF_flat p q l _ h.2]
theorem loF_flat (p q : List Int) {l : List Aff} (h : l.all flatA = true) : loF p l = loF q l := by
  cases l with
  | nil => rfl
  | cons x l =>
    rw [List.all_cons, Bool.and_eq_true] at h
    rw [loF, loF, flat_ev h.1, flat_ev h.1, mxF_flat p q l _ h.2]
theorem hiF_flat (p q : List Int) {l : List Aff} (h : l.all flatA = true) : hiF p l = hiF q l := by
  cases l with
  | nil => rfl
  | cons x l =>
    rw [List.all_cons, Bool.and_eq_true] at h
    rw [hiF, hiF, flat_ev h.1, flat_ev h.1, mnF_flat p q l _ h.2]
theorem lr_rect {ns : List Lp} (hr : nsRect ns = true) {k : Nat} (hk : k < ns.length) {p q : List Int} (hp : p.length = k) (hq : q.length = k) (h1 : isPt p = true) (h2 : isPt q = true) : ∃ a b, lrV ns p = (a, b, true) ∧ lrV ns q = (a, b, true) := by
  rw [nsRect, Bool.and_eq_true, List.all_eq_true] at hr
  obtain ⟨l, hl⟩ : ∃ l, ns[k]? = some l := ⟨_, List.getElem?_eq_getElem hk⟩
  have hf := hr.1 l (List.mem_of_getElem? hl)
  rw [lpFlat, Bool.and_eq_true] at hf
  refine ⟨loF p l.1, hiF p l.2, ?_, ?_⟩
  · rw [lrV, if_pos ⟨hr.2, h1, by omega⟩, hp, getD_some hl]
  · rw [lrV, if_pos ⟨hr.2, h2, by omega⟩, hq, getD_some hl, loF_flat q p hf.1, hiF_flat q p hf.2]

set_option maxRecDepth 100000 in
set_option maxHeartbeats 1600000 in
theorem rectNest_core {bs bs2 : List Int} (hl : bs.length ≤ 1048576) (hl2 : bs2.length ≤ 1048576) {ns : List Lp} (hs : smN ns) (hD : Fn Try.prog 22 [] [vD (dYs bs)] (.o (vD (dLs ns))) []) : Fn Try.prog 5 [] [vD (dYs bs), vD (dYs bs2)] (.o (bo1 true)) [] := by
  have hn := hs.1
  refine Fn.code0 Try.func5 rfl rfl rfl rfl ?_
  refine ACode.seq ?_
  refine ACode.region ?_
  refine .cons (.asg rfl rfl) ?_
  refine .nil ?_
  refine ks_n ?_
  refine ACode.seq ?_
  refine ACode.seq ?_
  refine ACode.region ?_
  refine .cons (.mv rfl rfl) ?_
  refine .cons (.ln 5 1 1 rfl rfl rfl) ?_
  refine .cons (.gt rfl rfl rfl) ?_
  refine .cons (.mv rfl rfl) ?_
  refine .cD 19 rfl (fun g19 => ?_) (fun g19 => ?_)
  · skip
    omega
  · skip
    refine .cons (.gT rfl rfl rfl (.mv rfl rfl)) ?_
    refine .cons (.gT rfl rfl rfl (.ln 5 1 1 rfl rfl rfl)) ?_
    refine .cons (.gT rfl rfl rfl (.gt rfl rfl rfl)) ?_
    refine .cons (.pF rfl rfl rfl) ?_
    refine .nil ?_
    refine ks_n ?_
    refine ACode.condT rfl (fun h23 => ?_) (fun h23 => ?_)
    · try simp only [List.length_map, decide_eq_true_eq, decide_eq_false_iff_not, Bool.not_eq_true', Bool.not_eq_false', Bool.not_eq_true, Bool.not_eq_false] at h23
      omega
    · try simp only [List.length_map, decide_eq_true_eq, decide_eq_false_iff_not, Bool.not_eq_true', Bool.not_eq_false', Bool.not_eq_true, Bool.not_eq_false] at h23
      refine ACode.skip ?_
      refine ks_n ?_
      refine ACode.seq ?_
      refine ACode.region ?_
      refine .cons (.mv rfl rfl) ?_
      refine .cons (.cP [.tmp 24] rfl rfl rfl rfl (hD) rfl) ?_
      refine .cons (.asg rfl rfl) ?_
      refine .nil ?_
      refine ks_n ?_
      refine ACode.seq ?_
      refine ACode.region ?_
      refine .cons (.mv rfl rfl) ?_
      refine .cons (.cP [.tmp 26] rfl rfl rfl rfl (implRect_fn ns hs) rfl) ?_
      refine .cons (.asg rfl rfl) ?_
      refine .nil ?_
      refine ks_n ?_
      refine ACode.seq ?_
      refine ACode.seq ?_
      refine ACode.region ?_
      refine .cons (.mv rfl rfl) ?_
      refine .cons (.mv rfl rfl) ?_
      refine .cons (.cP [.tmp 29] rfl rfl rfl rfl (specRect_fn ns hs) rfl) ?_
      refine .cons (St1.neqB rfl rfl rfl rfl (by kernel_rfl) rfl rfl) ?_
      refine .cons (.mv rfl rfl) ?_
      refine AOps.cases 32 _ rfl (fun g32 => ?_) (fun g32 => ?_)
      · try simp only [List.length_map, decide_eq_true_eq, decide_eq_false_iff_not, Bool.not_eq_true', Bool.not_eq_false', Bool.not_eq_true, Bool.not_eq_false] at g32
        rw [beq_self_eq_true] at g32; cases g32
      · try simp only [List.length_map, decide_eq_true_eq, decide_eq_false_iff_not, Bool.not_eq_true', Bool.not_eq_false', Bool.not_eq_true, Bool.not_eq_false] at g32
        refine .cons (.gT rfl rfl rfl (.mv rfl rfl)) ?_
        refine .cons (.gT rfl rfl rfl (.nt rfl rfl)) ?_
        refine .cons (.pF rfl rfl rfl) ?_
        refine .cons (.mv rfl rfl) ?_
        refine AOps.cases 36 _ rfl (fun g36 => ?_) (fun g36 => ?_)
        · try simp only [List.length_map, decide_eq_true_eq, decide_eq_false_iff_not, Bool.not_eq_true', Bool.not_eq_false', Bool.not_eq_true, Bool.not_eq_false] at g36
          refine .cons (.gF rfl rfl rfl) ?_
          refine .cons (.gF rfl rfl rfl) ?_
          refine .cons (.gF rfl rfl rfl) ?_
          refine .cons (.pT rfl rfl rfl) ?_
          refine .nil ?_
          refine ks_n ?_
          refine ACode.condT rfl (fun _ => ?_) (fun h => by first | (cases h; done) | (simp [*] at h; done) | (exfalso; simp_all; done))
          refine ACode.seq ?_
          refine ACode.region ?_
          refine .cons (.mv rfl rfl) ?_
          refine .cons (.mv rfl rfl) ?_
          refine .cons (.cP [.tmp 42] rfl rfl rfl rfl (specRect_fn ns hs) rfl) ?_
          refine .cons (St1.eqlB rfl rfl rfl rfl (by kernel_rfl) rfl rfl) ?_
          refine .cons (.mv rfl rfl) ?_
          refine AOps.cases 45 _ rfl (fun g45 => ?_) (fun g45 => ?_)
          · try simp only [List.length_map, decide_eq_true_eq, decide_eq_false_iff_not, Bool.not_eq_true', Bool.not_eq_false', Bool.not_eq_true, Bool.not_eq_false] at g45
            refine .cons (.gT rfl rfl rfl (.mv rfl rfl)) ?_
            refine .cons (.gT rfl rfl rfl (.nt rfl rfl)) ?_
            refine .cons (.gT rfl rfl rfl (.mv rfl rfl)) ?_
            refine AOps.cases 48 _ rfl (fun g48 => ?_) (fun g48 => ?_)
            · try simp only [List.length_map, decide_eq_true_eq, decide_eq_false_iff_not, Bool.not_eq_true', Bool.not_eq_false', Bool.not_eq_true, Bool.not_eq_false] at g48
              refine .cons (.gF rfl rfl rfl) ?_
              refine .cons (.gF rfl rfl rfl) ?_
              refine .cons (.gT rfl rfl rfl (.pT rfl rfl rfl)) ?_
              refine .cons (.pT rfl rfl rfl) ?_
              refine .cons (.asg rfl rfl) ?_
              refine .nil ?_
              refine ks_n ?_
              refine ACode.ret ?_
              refine ks_r ?_
              refine kf_ret rfl ?_ nobox
              first | rfl | exact leafB (by simp_all [nsRect])
            · try simp only [List.length_map, decide_eq_true_eq, decide_eq_false_iff_not, Bool.not_eq_true', Bool.not_eq_false', Bool.not_eq_true, Bool.not_eq_false] at g48
              refine .cons (.gT rfl rfl rfl (.mv rfl rfl)) ?_
              refine .cons (.gT rfl rfl rfl (.cP [.tmp 49] rfl rfl rfl rfl (implNestV_fn ns hs) rfl)) ?_
              refine .cons (.gT rfl rfl rfl (.pF rfl rfl rfl)) ?_
              refine .cons (.pT rfl rfl rfl) ?_
              refine .cons (.asg rfl rfl) ?_
              refine .nil ?_
              refine ks_n ?_
              refine ACode.ret ?_
              refine ks_r ?_
              refine kf_ret rfl ?_ nobox
              first | rfl | exact leafB (by simp_all [nsRect])
          · try simp only [List.length_map, decide_eq_true_eq, decide_eq_false_iff_not, Bool.not_eq_true', Bool.not_eq_false', Bool.not_eq_true, Bool.not_eq_false] at g45
            rw [beq_self_eq_true] at g45; cases g45
        · try simp only [List.length_map, decide_eq_true_eq, decide_eq_false_iff_not, Bool.not_eq_true', Bool.not_eq_false', Bool.not_eq_true, Bool.not_eq_false] at g36
          refine .cons (.gT rfl rfl rfl (.mv rfl rfl)) ?_
          refine .cons (.gT rfl rfl rfl (.ln 67 2 48 rfl rfl rfl)) ?_
          refine .cons (.gT rfl rfl rfl (.eq rfl rfl rfl)) ?_
          refine .cons (.pF rfl rfl rfl) ?_
          refine .nil ?_
          refine ks_n ?_
          refine ACode.condT rfl (fun h40 => ?_) (fun h40 => ?_)
          · try simp only [List.length_map, decide_eq_true_eq, decide_eq_false_iff_not, Bool.not_eq_true', Bool.not_eq_false', Bool.not_eq_true, Bool.not_eq_false] at h40
            refine ACode.seq ?_
            refine ACode.region ?_
            refine .cons (.mv rfl rfl) ?_
            refine .cons (.mv rfl rfl) ?_
            refine .cons (.cP [.tmp 42] rfl rfl rfl rfl (specRect_fn ns hs) rfl) ?_
            refine .cons (St1.eqlB rfl rfl rfl rfl (by kernel_rfl) rfl rfl) ?_
            refine .cons (.mv rfl rfl) ?_
            refine AOps.cases 45 _ rfl (fun g45 => ?_) (fun g45 => ?_)
            · try simp only [List.length_map, decide_eq_true_eq, decide_eq_false_iff_not, Bool.not_eq_true', Bool.not_eq_false', Bool.not_eq_true, Bool.not_eq_false] at g45
              refine .cons (.gT rfl rfl rfl (.mv rfl rfl)) ?_
              refine .cons (.gT rfl rfl rfl (.nt rfl rfl)) ?_
              refine .cons (.gT rfl rfl rfl (.mv rfl rfl)) ?_
              refine AOps.cases 48 _ rfl (fun g48 => ?_) (fun g48 => ?_)
              · try simp only [List.length_map, decide_eq_true_eq, decide_eq_false_iff_not, Bool.not_eq_true', Bool.not_eq_false', Bool.not_eq_true, Bool.not_eq_false] at g48
                refine .cons (.gF rfl rfl rfl) ?_
                refine .cons (.gF rfl rfl rfl) ?_
                refine .cons (.gT rfl rfl rfl (.pT rfl rfl rfl)) ?_
                refine .cons (.pT rfl rfl rfl) ?_
                refine .cons (.asg rfl rfl) ?_
                refine .nil ?_
                refine ks_n ?_
                refine ACode.ret ?_
                refine ks_r ?_
                refine kf_ret rfl ?_ nobox
                first | rfl | exact leafB (by simp_all [nsRect])
              · try simp only [List.length_map, decide_eq_true_eq, decide_eq_false_iff_not, Bool.not_eq_true', Bool.not_eq_false', Bool.not_eq_true, Bool.not_eq_false] at g48
                refine .cons (.gT rfl rfl rfl (.mv rfl rfl)) ?_
                refine .cons (.gT rfl rfl rfl (.cP [.tmp 49] rfl rfl rfl rfl (implNestV_fn ns hs) rfl)) ?_
                refine .cons (.gT rfl rfl rfl (.pF rfl rfl rfl)) ?_
                refine .cons (.pT rfl rfl rfl) ?_
                refine .cons (.asg rfl rfl) ?_
                refine .nil ?_
                refine ks_n ?_
                refine ACode.ret ?_
                refine ks_r ?_
                refine kf_ret rfl ?_ nobox
                first | rfl | exact leafB (by simp_all [nsRect])
            · try simp only [List.length_map, decide_eq_true_eq, decide_eq_false_iff_not, Bool.not_eq_true', Bool.not_eq_false', Bool.not_eq_true, Bool.not_eq_false] at g45
              rw [beq_self_eq_true] at g45; cases g45
          · try simp only [List.length_map, decide_eq_true_eq, decide_eq_false_iff_not, Bool.not_eq_true', Bool.not_eq_false', Bool.not_eq_true, Bool.not_eq_false] at h40
            refine ACode.skip ?_
            refine ks_n ?_
            refine ACode.seq ?_
            have hr : nsRect ns = true := g36
            have hk : bs2.length % ns.length < ns.length := Nat.mod_lt _ (by omega)
            obtain ⟨k, hkd⟩ : ∃ k, k = bs2.length % ns.length := ⟨_, rfl⟩
            rw [← hkd] at hk
            have h4 : ns.length ≤ 4 := by rw [nsRect, Bool.and_eq_true] at hr; exact (nsV_at hr.2).1
            have hpt : isPt (([1, 2, 3] : List Int).take k) = true ∧ isPt (([4, 0, 9] : List Int).take k) = true := by rcases (show k = 0 ∨ k = 1 ∨ k = 2 ∨ k = 3 by omega) with rfl | rfl | rfl | rfl <;> decide
            obtain ⟨a, b, e1, e2⟩ := lr_rect hr hk (p := ([1, 2, 3] : List Int).take k) (q := ([4, 0, 9] : List Int).take k) (by simp; omega) (by simp; omega) hpt.1 hpt.2
            have c1 := loopRange_fn ns hs (([1, 2, 3] : List Int).take k) (by simp; omega)
            have c2 := loopRange_fn ns hs (([4, 0, 9] : List Int).take k) (by simp; omega)
            rw [e1] at c1; rw [e2] at c2
            refine ACode.region ?_
            refine .cons (.mv rfl rfl) ?_
            refine .cons (.ln 5 1 1 rfl rfl rfl) ?_
            refine .cons (.mv rfl rfl) ?_
            refine .cons (.ln 67 2 48 rfl rfl rfl) ?_
            refine .cons (St1.rem rfl rfl rfl rfl rfl rfl (by omega)) ?_
            refine .cons (.asg rfl rfl) ?_
            refine .nil ?_
            refine ks_n ?_
            refine ACode.seq ?_
            refine ACode.region ?_
            refine .cons (.li 3 0 2 [.const (.int .i64 (1)), .const (.int .i64 (2)), .const (.int .i64 (3))] rfl rfl rfl rfl rfl rfl) ?_
            refine .cons (.mv rfl rfl) ?_
            refine .cons (St1.sliceTo (e := 3) (sz := 1) (by' := 8) (k := k) rfl rfl rfl rfl (by kernel_rfl) rfl rfl rfl (by rw [hkd]; exact tmod_nat rfl rfl) (by simp; omega)) ?_
            refine .cons (.asg rfl rfl) ?_
            refine .nil ?_
            refine ks_n ?_
            refine ACode.seq ?_
            refine ACode.region ?_
            refine .cons (.li 3 0 2 [.const (.int .i64 (4)), .const (.int .i64 (0)), .const (.int .i64 (9))] rfl rfl rfl rfl rfl rfl) ?_
            refine .cons (.mv rfl rfl) ?_
            refine .cons (St1.sliceTo (e := 3) (sz := 1) (by' := 8) (k := k) rfl rfl rfl rfl (by kernel_rfl) rfl rfl rfl (by rw [hkd]; exact tmod_nat rfl rfl) (by simp; omega)) ?_
            refine .cons (.asg rfl rfl) ?_
            refine .nil ?_
            refine ks_n ?_
            refine ACode.seq ?_
            refine ACode.region ?_
            refine .cons (.mv rfl rfl) ?_
            refine .cons (.mv rfl rfl) ?_
            refine .cons (.cP [.tmp 65, .tmp 66] rfl rfl rfl rfl (Fn.arg2 (dIs_take [1, 2, 3] k) c1) rfl) ?_
            refine .cons (.mv rfl rfl) ?_
            refine .cons (.ex rfl rfl rfl) ?_
            refine .cons (.ex rfl rfl rfl) ?_
            refine .cons (.ex rfl rfl rfl) ?_
            refine .cons (.asg rfl rfl) ?_
            refine .cons (.asg rfl rfl) ?_
            refine .cons (.asg rfl rfl) ?_
            refine .nil ?_
            refine ks_n ?_
            refine ACode.seq ?_
            refine ACode.region ?_
            refine .cons (.mv rfl rfl) ?_
            refine .cons (.mv rfl rfl) ?_
            refine .cons (.cP [.tmp 72, .tmp 73] rfl rfl rfl rfl (Fn.arg2 (dIs_take [4, 0, 9] k) c2) rfl) ?_
            refine .cons (.mv rfl rfl) ?_
            refine .cons (.ex rfl rfl rfl) ?_
            refine .cons (.ex rfl rfl rfl) ?_
            refine .cons (.ex rfl rfl rfl) ?_
            refine .cons (.asg rfl rfl) ?_
            refine .cons (.asg rfl rfl) ?_
            refine .cons (.asg rfl rfl) ?_
            refine .nil ?_
            refine ks_n ?_
            refine ACode.seq ?_
            refine ACode.region ?_
            refine .cons (.mv rfl rfl) ?_
            refine .cons (.mv rfl rfl) ?_
            refine AOps.cases 79 _ rfl (fun g79 => ?_) (fun g79 => ?_)
            · try simp only [List.length_map, decide_eq_true_eq, decide_eq_false_iff_not, Bool.not_eq_true', Bool.not_eq_false', Bool.not_eq_true, Bool.not_eq_false] at g79
              refine .cons (.gT rfl rfl rfl (.mv rfl rfl)) ?_
              refine .cons (.pT rfl rfl rfl) ?_
              refine .cons (.mv rfl rfl) ?_
              refine AOps.cases 82 _ rfl (fun g82 => ?_) (fun g82 => ?_)
              · try simp only [List.length_map, decide_eq_true_eq, decide_eq_false_iff_not, Bool.not_eq_true', Bool.not_eq_false', Bool.not_eq_true, Bool.not_eq_false] at g82
                refine .cons (.gT rfl rfl rfl (.mv rfl rfl)) ?_
                refine .cons (.gT rfl rfl rfl (.mv rfl rfl)) ?_
                refine .cons (.gT rfl rfl rfl (.eq rfl rfl rfl)) ?_
                refine .cons (.pT rfl rfl rfl) ?_
                refine .cons (.mv rfl rfl) ?_
                refine AOps.cases 87 _ rfl (fun g87 => ?_) (fun g87 => ?_)
                · try simp only [List.length_map, decide_eq_true_eq, decide_eq_false_iff_not, Bool.not_eq_true', Bool.not_eq_false', Bool.not_eq_true, Bool.not_eq_false] at g87
                  refine .cons (.gT rfl rfl rfl (.mv rfl rfl)) ?_
                  refine .cons (.gT rfl rfl rfl (.mv rfl rfl)) ?_
                  refine .cons (.gT rfl rfl rfl (.eq rfl rfl rfl)) ?_
                  refine .cons (.pT rfl rfl rfl) ?_
                  refine .cons (.asg rfl rfl) ?_
                  refine .nil ?_
                  refine ks_n ?_
                  refine ACode.ret ?_
                  refine kf_ret rfl ?_ nobox
                  first | rfl | exact leafB (by simp_all [nsRect])
                · try simp only [List.length_map, decide_eq_true_eq, decide_eq_false_iff_not, Bool.not_eq_true', Bool.not_eq_false', Bool.not_eq_true, Bool.not_eq_false] at g87
                  refine .cons (.gF rfl rfl rfl) ?_
                  refine .cons (.gF rfl rfl rfl) ?_
                  refine .cons (.gF rfl rfl rfl) ?_
                  refine .cons (.pF rfl rfl rfl) ?_
                  refine .cons (.asg rfl rfl) ?_
                  refine .nil ?_
                  refine ks_n ?_
                  refine ACode.ret ?_
                  refine kf_ret rfl ?_ nobox
                  first | rfl | exact leafB (by simp_all [nsRect])
              · try simp only [List.length_map, decide_eq_true_eq, decide_eq_false_iff_not, Bool.not_eq_true', Bool.not_eq_false', Bool.not_eq_true, Bool.not_eq_false] at g82
                refine .cons (.gF rfl rfl rfl) ?_
                refine .cons (.gF rfl rfl rfl) ?_
                refine .cons (.gF rfl rfl rfl) ?_
                refine .cons (.pF rfl rfl rfl) ?_
                refine .cons (.mv rfl rfl) ?_
                refine .cons (.gF rfl rfl rfl) ?_
                refine .cons (.gF rfl rfl rfl) ?_
                refine .cons (.gF rfl rfl rfl) ?_
                refine .cons (.pF rfl rfl rfl) ?_
                refine .cons (.asg rfl rfl) ?_
                refine .nil ?_
                refine ks_n ?_
                refine ACode.ret ?_
                refine kf_ret rfl ?_ nobox
                first | rfl | exact leafB (by simp_all [nsRect])
            · try simp only [List.length_map, decide_eq_true_eq, decide_eq_false_iff_not, Bool.not_eq_true', Bool.not_eq_false', Bool.not_eq_true, Bool.not_eq_false] at g79
              refine .cons (.gF rfl rfl rfl) ?_
              refine .cons (.pF rfl rfl rfl) ?_
              refine .cons (.mv rfl rfl) ?_
              refine .cons (.gF rfl rfl rfl) ?_
              refine .cons (.gF rfl rfl rfl) ?_
              refine .cons (.gF rfl rfl rfl) ?_
              refine .cons (.pF rfl rfl rfl) ?_
              refine .cons (.mv rfl rfl) ?_
              refine .cons (.gF rfl rfl rfl) ?_
              refine .cons (.gF rfl rfl rfl) ?_
              refine .cons (.gF rfl rfl rfl) ?_
              refine .cons (.pF rfl rfl rfl) ?_
              refine .cons (.asg rfl rfl) ?_
              refine .nil ?_
              refine ks_n ?_
              refine ACode.ret ?_
              refine kf_ret rfl ?_ nobox
              first | rfl | exact leafB (by simp_all [nsRect])

set_option maxRecDepth 100000 in
set_option maxHeartbeats 1600000 in
theorem rectNest_big (a : Option Addr) (n c : Nat) (a2 : Option Addr) (n2 c2 : Nat) (hn : 1048576 < n ∨ 1048576 < n2) : Fn Try.prog 5 [] [vX a n c, vX a2 n2 c2] (.o (bo1 true)) [] := by
  refine Fn.code0 Try.func5 rfl rfl rfl rfl ?_
  refine ACode.seq ?_
  refine ACode.region ?_
  refine .cons (.asg rfl rfl) ?_
  refine .nil ?_
  refine ks_n ?_
  refine ACode.seq ?_
  refine ACode.seq ?_
  refine ACode.region ?_
  refine .cons (.mv rfl rfl) ?_
  refine .cons (St1.lenN (e := 5) (m := 1) (by' := 1) rfl rfl rfl rfl rfl (by kernel_rfl) rfl) ?_
  refine .cons (.gt rfl rfl rfl) ?_
  refine .cons (.mv rfl rfl) ?_
  refine .cD 19 rfl (fun g19 => ?_) (fun g19 => ?_)
  · skip
    refine .cons (.gF rfl rfl rfl) ?_
    refine .cons (.gF rfl rfl rfl) ?_
    refine .cons (.gF rfl rfl rfl) ?_
    refine .cons (.pT rfl rfl rfl) ?_
    refine .nil ?_
    refine ks_n ?_
    refine ACode.condT rfl (fun _ => ?_) (fun h => by first | (cases h; done) | (simp [*] at h; done) | (exfalso; simp_all; done))
    refine ACode.seq ?_
    refine ACode.region ?_
    refine .cons (.asg rfl rfl) ?_
    refine .nil ?_
    refine ks_n ?_
    refine ACode.ret ?_
    refine ks_r ?_
    refine kf_ret rfl ?_ nobox
    rfl
  · skip
    refine .cons (.gT rfl rfl rfl (.mv rfl rfl)) ?_
    refine .cons (.gT rfl rfl rfl (St1.lenN (e := 5) (m := 1) (by' := 1) rfl rfl rfl rfl rfl (by kernel_rfl) rfl)) ?_
    refine .cons (.gT rfl rfl rfl (.gt rfl rfl rfl)) ?_
    refine .cons (.pF rfl rfl rfl) ?_
    refine .nil ?_
    refine ks_n ?_
    refine ACode.condT rfl (fun h23 => ?_) (fun h23 => ?_)
    · try simp only [List.length_map, decide_eq_true_eq, decide_eq_false_iff_not, Bool.not_eq_true', Bool.not_eq_false', Bool.not_eq_true, Bool.not_eq_false] at h23
      refine ACode.seq ?_
      refine ACode.region ?_
      refine .cons (.asg rfl rfl) ?_
      refine .nil ?_
      refine ks_n ?_
      refine ACode.ret ?_
      refine ks_r ?_
      refine kf_ret rfl ?_ nobox
      rfl
    · try simp only [List.length_map, decide_eq_true_eq, decide_eq_false_iff_not, Bool.not_eq_true', Bool.not_eq_false', Bool.not_eq_true, Bool.not_eq_false] at h23
      omega

theorem lawRectNest (a : Option Addr) (n c : Nat) (bs : List Int) (a2 : Option Addr) (n2 c2 : Nat) (bs2 : List Int) (w : World) (hx : n ≤ 1048576 → Sl Sh.byte (fun b => b < w.heap.size) w (.slice a n c) bs) (hbs : ∀ x ∈ bs, 0 ≤ x ∧ x ≤ 255) (hx2 : n2 ≤ 1048576 → Sl Sh.byte (fun b => b < w.heap.size) w (.slice a2 n2 c2) bs2) (hbs2 : ∀ x ∈ bs2, 0 ≤ x ∧ x ≤ 255) : Truth Try.prog 5 #[.slice a n c, .slice a2 n2 c2] w :=
  law2 ⟨hx, hbs⟩ ⟨hx2, hbs2⟩ (fun h => rectNest_big a n c a2 n2 c2 h) (fun hl hl2 hb _ => by
    obtain ⟨ns, h1, h2⟩ := drawNV_fn hb
    exact rectNest_core hl hl2 (h1.sm (by omega)) (drawRect_core h2))

end Go.Proofs.Ytgcpdpbapgkdjaa

/- How an argument that is a slice of bytes is read; no condition. -/
namespace Go.Proofs.Ytgcpdpbapgkdjaa
set_option linter.unusedVariables false
set_option linter.unusedSimpArgs false
open Go.RowKit

theorem IsRow.bytes {w : World} {a : Option Addr} {n cap : Nat} {zs : List Int} (h : IsRow .u8 w a n cap zs) (hn : n ≤ 17592186044416) : Sl Sh.byte (fun b => b < w.heap.size) w (.slice a n cap) (zs.take n) := by
  rcases h with ⟨rfl, rfl, rfl, rfl⟩ | ⟨x, rfl, h1, _, h2, h3, _⟩
  · exact Sl.nil _ _ _
  · have hl : (zs.take n).length = n := by rw [List.length_take]; omega
    refine ⟨_, cap, by rw [hl], by rw [hl]; exact h1, by rw [hl]; exact hn, (fun e => by cases e), fun i y hy => ?_⟩
    have hi : i < n := by rw [← hl]; exact (List.getElem?_eq_some_iff.1 hy).1
    have hc := h3 i (by omega)
    obtain ⟨b, off, spot⟩ := x
    have hs : spot = none := by
      have h0 := h3 0 (by omega)
      simpa [Addr.add] using World.cell?_spot h0
    subst hs
    rw [Addr.add_lit] at hc
    rw [List.getElem?_take, if_pos hi] at hy
    rw [List.getD, hy] at hc
    refine ⟨b, off, [.int .u8 y], rfl, World.block_lt_of_cell? _ _ hc, rfl, fun j c hj => ?_⟩
    cases j with
    | succ j => simp at hj
    | zero =>
      simp only [List.getElem?_cons_zero, Option.some.injEq] at hj
      subst hj
      simpa [Sh.byte] using hc
theorem IsRow.bytesBd {w : World} {a : Option Addr} {n cap : Nat} {zs : List Int} (h : IsRow .u8 w a n cap zs) : ∀ x ∈ zs.take n, 0 ≤ x ∧ x ≤ 255 := by
  intro x hx
  have := h.wf x hx
  simp [Lit.wf, IntKind.min, IntKind.max, IntKind.bits, IntKind.signed] at this
  omega
end Go.Proofs.Ytgcpdpbapgkdjaa
