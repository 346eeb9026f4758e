/- Part 3 of 3 of the proof: laws on memory and data, then what the functions compute, in the order in which they build on each other; conditions: those that each theorem names. -/
import Derived.Laws.MakeOwn
import Derived.SizedLaws
import Derived.Test.YtgcpdpbapgkdjaaP2

/- The walk of the program through a nest; condition: what its parts do. -/
namespace Go.Proofs.Ytgcpdpbapgkdjaa
set_option linter.unusedVariables false
set_option linter.unusedSimpArgs false
open Go.RowKit

theorem first_nil {f : Int → Nat → Pts → Bool × Nat × Pts} (hf : ∀ v s o, ∃ z, (f v s o).2.2 = o ++ z) {hi v : Int} {s : Nat} (h : v < hi) (hR : (iterW f (hi - v).toNat v s []).2.2 = []) : (f v s []).2.2 = [] := by
  rw [iterW_lt h] at hR
  by_cases hb : (f v s []).1 = true
  · rw [if_pos hb] at hR
    obtain ⟨z, hz⟩ := iterW_grow hf (hi - (v + 1)).toNat (v + 1) (f v s []).2.1 (f v s []).2.2
    rw [hz] at hR
    exact (List.append_eq_nil_iff.1 hR).1
  · rwa [if_neg hb] at hR
theorem iterW_no {f : Int → Nat → Pts → Bool × Nat × Pts} {hi v : Int} {s : Nat} {o : Pts} {r : Bool × Nat × Pts} (h : v < hi) (hs : f v s o = r) (hb : r.1 = false) : iterW f (hi - v).toNat v s o = r := by
  rw [iterW_lt h, hs, if_neg (by rw [hb]; simp)]
theorem iterW_yes {f : Int → Nat → Pts → Bool × Nat × Pts} {hi v : Int} {s : Nat} {o : Pts} {r : Bool × Nat × Pts} (h : v < hi) (hs : f v s o = r) (hb : r.1 = true) : iterW f (hi - v).toNat v s o = iterW f (hi - (v + 1)).toNat (v + 1) r.2.1 r.2.2 := by
  rw [iterW_lt h, hs, if_pos hb]
theorem hbIn_O {σ : St} {inv : Inv} {k : Nat} {ns : List Lp} {s : Nat} {o : Pts} (h : lk σ (.b (asc inv 0)) = .b 79 3 [[.d (dLs ns), .d (dI (s : Nat)), .own (asc inv k) 1 o.length]]) (h2 : lk σ (.b (asc inv k)) = .b 28 1 (dR (o.map rIs))) : hbIn σ inv (hbO k ns s o) := ⟨h, by rw [renR_dR]; exact h2, trivial⟩

set_option maxRecDepth 100000 in
set_option maxHeartbeats 1600000 in
theorem walk_leaf_no {ns : List Lp} {s0 : Nat} {p : List Int} (hp : p.length = ns.length) (hp0 : 0 < p.length) (hp4 : p.length ≤ 4)  : Fn Try.prog 59 (hbN ns s0) [.c (.box 0 3 0 0), vD (dIs p)] (.o (bo1 (decide ((([] : Pts)).length + 1 ≤ 120)))) (hbO 1000 ns s0 (([] : Pts) ++ [p])) := by
  refine Fn.of_code Try.func59 rfl rfl (hbN_HB _ _) rfl rfl (hbO_HB _ _ _ _) rfl (num_NO _ _ _ _) ?_
  refine ACode.seq ?_
  refine ACode.region ?_
  refine .cons (.asg rfl rfl) ?_
  refine .nil ?_
  refine ks_n ?_
  refine ACode.seq ?_
  refine ACode.seq ?_
  refine ACode.region ?_
  refine .cons (.mv rfl rfl) ?_
  refine .cons (.ln 3 1 8 rfl rfl rfl) ?_
  refine .cons (.mv rfl rfl) ?_
  refine .cons (.nB rfl rfl rfl) ?_
  refine .cons (.fB 0 0 false rfl rfl rfl) ?_
  refine .cons (.b1 1 rfl rfl rfl rfl rfl rfl) ?_
  refine .cons (.ln 67 2 48 rfl rfl rfl) ?_
  refine .cons (.eq rfl rfl rfl) ?_
  refine .nil ?_
  refine ks_n ?_
  refine .cD rfl (fun h15 => ?_) (fun h15 => ?_)
  · skip
    refine ACode.seq ?_
    refine ACode.drawK (by kernel_rfl) (by kernel_rfl) ?_
    refine .cons (.mv rfl rfl) ?_
    refine .cons (.mv rfl rfl) ?_
    refine .cons (.nB rfl rfl rfl) ?_
    refine .cons (.fB 2 0 false rfl rfl rfl) ?_
    refine .cons (.b1 1 rfl rfl rfl rfl rfl rfl) ?_
    refine .cons (.mv rfl rfl) ?_
    refine .cons (.cP [.tmp 21] rfl rfl rfl rfl (clone_dat hp0 (by omega)) rfl) ?_
    refine .cons (.li 28 0 0 [.tmp 22] rfl rfl rfl rfl rfl rfl) ?_
    refine .cons (St1.appN (k' := 124) (e := 28) (sz := 0) (by' := 24) rfl rfl rfl rfl rfl (by kernel_rfl) rfl rfl rfl (by simp) (by simp [dR] <;> omega) rfl rfl) ?_
    refine .cons (.nB rfl rfl rfl) ?_
    refine .cons (.fB 2 0 false rfl rfl rfl) ?_
    refine .cons (.sT 1 false rfl rfl rfl rfl rfl rfl rfl) ?_
    refine .nil ⟨by kernel_rfl, ?_⟩
    refine ks_n ?_
    refine ACode.seq ?_
    refine ACode.region ?_
    refine .cons (.mv rfl rfl) ?_
    refine .cons (.nB rfl rfl rfl) ?_
    refine .cons (.fB 2 0 false rfl rfl rfl) ?_
    refine .cons (.b1 1 rfl rfl rfl rfl rfl rfl) ?_
    refine .cons (.lB 28 1 24 rfl rfl rfl rfl) ?_
    refine .cons (.le rfl rfl rfl) ?_
    refine .cons (.asg rfl rfl) ?_
    refine .nil ?_
    refine ks_n ?_
    refine ACode.ret ?_
    refine ks_r ?_
    refine kf_wret [(.t 4, .v (.o (bo1 (decide ((([] : Pts)).length + 1 ≤ 120))))), (.b 0, .b 79 3 ([[.d (dLs ns), .d (dI (s0 : Nat)), .own 1000 1 (([] : Pts) ++ [p]).length]])), (.u 0, .u), (.b 1000, .b 28 1 (dR ((([] : Pts) ++ [p]).map rIs))), (.u 1000, .u)] (Wk.keep [(0, 0), (1000, 124)] rfl rfl ⟨ks rfl (.dt (congrArg (fun b => V.o (bo1 b)) (by rw [Bool.eq_iff_iff]; simp <;> omega))), kb 0 rfl (.cons (.cons .dt (.cons .dt (.cons .ow .nil))) .nil), kb 124 rfl (.dt rfl (by simp [dR, rIs]; try rfl)), trivial⟩) rfl ?_ (two_box rfl rfl)
    rfl
  · skip
    exact absurd h15 (by simp; omega)

set_option maxRecDepth 100000 in
set_option maxHeartbeats 1600000 in
theorem walk_leaf_oo {ns : List Lp} {s0 : Nat} {p : List Int} (hp : p.length = ns.length) (hp0 : 0 < p.length) (hp4 : p.length ≤ 4) {o0 : Pts} (ho : o0.length ≤ 120) : Fn Try.prog 59 (hbO 1 ns s0 o0) [.c (.box 0 3 0 0), vD (dIs p)] (.o (bo1 (decide ((o0).length + 1 ≤ 120)))) (hbO 1000 ns s0 (o0 ++ [p])) := by
  refine Fn.of_code Try.func59 rfl rfl (hbO_HB _ _ _ _) rfl rfl (hbO_HB _ _ _ _) rfl (num_OO _ _ _ _ _) ?_
  refine ACode.seq ?_
  refine ACode.region ?_
  refine .cons (.asg rfl rfl) ?_
  refine .nil ?_
  refine ks_n ?_
  refine ACode.seq ?_
  refine ACode.seq ?_
  refine ACode.region ?_
  refine .cons (.mv rfl rfl) ?_
  refine .cons (.ln 3 1 8 rfl rfl rfl) ?_
  refine .cons (.mv rfl rfl) ?_
  refine .cons (.nB rfl rfl rfl) ?_
  refine .cons (.fB 0 0 false rfl rfl rfl) ?_
  refine .cons (.b1 1 rfl rfl rfl rfl rfl rfl) ?_
  refine .cons (.ln 67 2 48 rfl rfl rfl) ?_
  refine .cons (.eq rfl rfl rfl) ?_
  refine .nil ?_
  refine ks_n ?_
  refine .cD rfl (fun h15 => ?_) (fun h15 => ?_)
  · skip
    refine ACode.seq ?_
    refine ACode.drawK (by kernel_rfl) (by kernel_rfl) ?_
    refine .cons (.mv rfl rfl) ?_
    refine .cons (.mv rfl rfl) ?_
    refine .cons (.nB rfl rfl rfl) ?_
    refine .cons (.fB 2 0 false rfl rfl rfl) ?_
    refine .cons (.b1 1 rfl rfl rfl rfl rfl rfl) ?_
    refine .cons (.mv rfl rfl) ?_
    refine .cons (.cP [.tmp 21] rfl rfl rfl rfl (clone_dat hp0 (by omega)) rfl) ?_
    refine .cons (.li 28 0 0 [.tmp 22] rfl rfl rfl rfl rfl rfl) ?_
    refine .cons (St1.appB (k' := 1024) (e := 28) (sz := 0) (by' := 24) rfl rfl rfl rfl rfl (by kernel_rfl) rfl rfl rfl rfl (by simp [dR]) (by simp [dR] <;> omega) rfl rfl rfl) ?_
    refine .cons (.nB rfl rfl rfl) ?_
    refine .cons (.fB 2 0 false rfl rfl rfl) ?_
    refine .cons (.sT 1 false rfl rfl rfl rfl rfl rfl rfl) ?_
    refine .nil ⟨by kernel_rfl, ?_⟩
    refine ks_n ?_
    refine ACode.seq ?_
    refine ACode.region ?_
    refine .cons (.mv rfl rfl) ?_
    refine .cons (.nB rfl rfl rfl) ?_
    refine .cons (.fB 2 0 false rfl rfl rfl) ?_
    refine .cons (.b1 1 rfl rfl rfl rfl rfl rfl) ?_
    refine .cons (.lB 28 1 24 rfl rfl rfl rfl) ?_
    refine .cons (.le rfl rfl rfl) ?_
    refine .cons (.asg rfl rfl) ?_
    refine .nil ?_
    refine ks_n ?_
    refine ACode.ret ?_
    refine ks_r ?_
    refine kf_wret [(.t 4, .v (.o (bo1 (decide ((o0).length + 1 ≤ 120))))), (.b 0, .b 79 3 ([[.d (dLs ns), .d (dI (s0 : Nat)), .own 1000 1 (o0 ++ [p]).length]])), (.u 0, .u), (.b 1000, .b 28 1 (dR ((o0 ++ [p]).map rIs))), (.u 1000, .u)] (Wk.keep [(0, 0), (1000, 1024)] rfl rfl ⟨ks rfl (.dt (congrArg (fun b => V.o (bo1 b)) (by rw [Bool.eq_iff_iff]; simp <;> omega))), kb 0 rfl (.cons (.cons .dt (.cons .dt (.cons .ow .nil))) .nil), kb 1024 rfl (.dt rfl (by simp [dR, rIs]; try rfl)), trivial⟩) rfl ?_ (two_box rfl rfl)
    rfl
  · skip
    exact absurd h15 (by simp; omega)

set_option maxRecDepth 100000 in
set_option maxHeartbeats 1600000 in
theorem walk_leaf_noR {ns : List Lp} {s0 : Nat} (hp : 0 = ns.length)  : Fn Try.prog 59 (hbN ns s0) [.c (.box 0 3 0 0), vN] (.o (bo1 (decide ((([] : Pts)).length + 1 ≤ 120)))) (hbO 1000 ns s0 (([] : Pts) ++ [([] : List Int)])) := by
  refine Fn.of_code Try.func59 rfl rfl (hbN_HB _ _) rfl rfl (hbO_HB _ _ _ _) rfl (num_NO _ _ _ _) ?_
  refine ACode.seq ?_
  refine ACode.region ?_
  refine .cons (.asg rfl rfl) ?_
  refine .nil ?_
  refine ks_n ?_
  refine ACode.seq ?_
  refine ACode.seq ?_
  refine ACode.region ?_
  refine .cons (.mv rfl rfl) ?_
  refine .cons (St1.lenN (e := 3) (m := 1) (by' := 8) rfl rfl rfl rfl rfl (by kernel_rfl) rfl) ?_
  refine .cons (.mv rfl rfl) ?_
  refine .cons (.nB rfl rfl rfl) ?_
  refine .cons (.fB 0 0 false rfl rfl rfl) ?_
  refine .cons (.b1 1 rfl rfl rfl rfl rfl rfl) ?_
  refine .cons (.ln 67 2 48 rfl rfl rfl) ?_
  refine .cons (.eq rfl rfl rfl) ?_
  refine .nil ?_
  refine ks_n ?_
  refine .cD rfl (fun h15 => ?_) (fun h15 => ?_)
  · skip
    refine ACode.seq ?_
    refine ACode.drawK (by kernel_rfl) (by kernel_rfl) ?_
    refine .cons (.mv rfl rfl) ?_
    refine .cons (.mv rfl rfl) ?_
    refine .cons (.nB rfl rfl rfl) ?_
    refine .cons (.fB 2 0 false rfl rfl rfl) ?_
    refine .cons (.b1 1 rfl rfl rfl rfl rfl rfl) ?_
    refine .cons (.mv rfl rfl) ?_
    refine .cons (.cP [.tmp 21] rfl rfl rfl rfl (clone_nilD) rfl) ?_
    refine .cons (.li 28 0 0 [.tmp 22] rfl rfl rfl rfl rfl rfl) ?_
    refine .cons (St1.appN (k' := 124) (e := 28) (sz := 0) (by' := 24) rfl rfl rfl rfl rfl (by kernel_rfl) rfl rfl rfl (by simp) (by simp [dR] <;> omega) rfl rfl) ?_
    refine .cons (.nB rfl rfl rfl) ?_
    refine .cons (.fB 2 0 false rfl rfl rfl) ?_
    refine .cons (.sT 1 false rfl rfl rfl rfl rfl rfl rfl) ?_
    refine .nil ⟨by kernel_rfl, ?_⟩
    refine ks_n ?_
    refine ACode.seq ?_
    refine ACode.region ?_
    refine .cons (.mv rfl rfl) ?_
    refine .cons (.nB rfl rfl rfl) ?_
    refine .cons (.fB 2 0 false rfl rfl rfl) ?_
    refine .cons (.b1 1 rfl rfl rfl rfl rfl rfl) ?_
    refine .cons (.lB 28 1 24 rfl rfl rfl rfl) ?_
    refine .cons (.le rfl rfl rfl) ?_
    refine .cons (.asg rfl rfl) ?_
    refine .nil ?_
    refine ks_n ?_
    refine ACode.ret ?_
    refine ks_r ?_
    refine kf_wret [(.t 4, .v (.o (bo1 (decide ((([] : Pts)).length + 1 ≤ 120))))), (.b 0, .b 79 3 ([[.d (dLs ns), .d (dI (s0 : Nat)), .own 1000 1 (([] : Pts) ++ [([] : List Int)]).length]])), (.u 0, .u), (.b 1000, .b 28 1 (dR ((([] : Pts) ++ [([] : List Int)]).map rIs))), (.u 1000, .u)] (Wk.keep [(0, 0), (1000, 124)] rfl rfl ⟨ks rfl (.dt (congrArg (fun b => V.o (bo1 b)) (by rw [Bool.eq_iff_iff]; simp <;> omega))), kb 0 rfl (.cons (.cons .dt (.cons .dt (.cons .ow .nil))) .nil), kb 124 rfl (.dt rfl (by simp [dR, rIs]; try rfl)), trivial⟩) rfl ?_ (two_box rfl rfl)
    rfl
  · skip
    exact absurd h15 (by simp; omega)

set_option maxRecDepth 100000 in
set_option maxHeartbeats 1600000 in
theorem walk_nn {ns : List Lp} (hn : ns.length ≤ 4) {l : Lp} {ms : List Lp} {p : List Int} (hl : ns[p.length]? = some l) (hR : okR l p) (hlo : -100000000 ≤ loF p l.1 ∧ loF p l.1 ≤ 100000000) (hhi : -100000000 ≤ hiF p l.2 ∧ hiF p l.2 ≤ 100000000) (hp0 : 0 < p.length) {s0 : Nat} (hs0 : s0 ≤ 1199) (ih : ∀ v s o, loF p l.1 ≤ v → v < hiF p l.2 → s ≤ 1199 → o.length ≤ 120 → WOk ns ms (p ++ [v]) (dIs (p ++ [v])) s o) (hz : (walkF (l :: ms) p s0 ([] : Pts)).2.2 = []) : Fn Try.prog 59 (hbN ns s0) [.c (.box 0 3 0 0), vD (dIs p)] (.o (bo1 (walkF (l :: ms) p s0 ([] : Pts)).1)) (hbN ns (walkF (l :: ms) p s0 ([] : Pts)).2.1) := by
  obtain ⟨R, hRd⟩ : ∃ R, R = walkF (l :: ms) p s0 ([] : Pts) := ⟨_, rfl⟩
  rw [← hRd] at hz ⊢
  refine Fn.of_code Try.func59 rfl rfl (hbN_HB _ _) rfl rfl (hbN_HB _ _) rfl (num_NN _ _ _) ?_
  refine ACode.seq ?_
  refine ACode.region ?_
  refine .cons (.asg rfl rfl) ?_
  refine .nil ?_
  refine ks_n ?_
  refine ACode.seq ?_
  refine ACode.seq ?_
  refine ACode.region ?_
  refine .cons (.mv rfl rfl) ?_
  refine .cons (.ln 3 1 8 rfl rfl rfl) ?_
  refine .cons (.mv rfl rfl) ?_
  refine .cons (.nB rfl rfl rfl) ?_
  refine .cons (.fB 0 0 false rfl rfl rfl) ?_
  refine .cons (.b1 1 rfl rfl rfl rfl rfl rfl) ?_
  refine .cons (.ln 67 2 48 rfl rfl rfl) ?_
  refine .cons (.eq rfl rfl rfl) ?_
  refine .nil ?_
  refine ks_n ?_
  refine .cD rfl (fun h15 => ?_) (fun h15 => ?_)
  · skip
    exact absurd h15 (by have := (List.getElem?_eq_some_iff.1 hl).1; simp at this ⊢; omega)
  · skip
    refine ACode.skip ?_
    refine ks_n ?_
    refine ACode.seq ?_
    refine ACode.region ?_
    refine .cons (.mv rfl rfl) ?_
    refine .cons (.nB rfl rfl rfl) ?_
    refine .cons (.fB 0 0 false rfl rfl rfl) ?_
    refine .cons (.b1 1 rfl rfl rfl rfl rfl rfl) ?_
    refine .cons (.mv rfl rfl) ?_
    refine .cons (.ln 3 1 8 rfl rfl rfl) ?_
    refine .cons (.xL 67 2 48 rfl rfl rfl rfl rfl (map_at hl)) ?_
    refine .cons (.lN 2 rfl rfl rfl) ?_
    refine .cons (.mv rfl rfl) ?_
    refine .cons (.cP [.tmp 41, .tmp 42] rfl rfl rfl rfl (span_fn hR) rfl) ?_
    refine .cons (.mv rfl rfl) ?_
    refine .cons (.ex rfl rfl rfl) ?_
    refine .cons (.ex rfl rfl rfl) ?_
    refine .cons (.asg rfl rfl) ?_
    refine .cons (.asg rfl rfl) ?_
    refine .nil ?_
    refine ks_n ?_
    refine ACode.seq ?_
    refine ACode.seq ?_
    refine ACode.region ?_
    refine .cons (.mv rfl rfl) ?_
    refine .cons (.asg rfl rfl) ?_
    refine .nil ?_
    refine ks_n ?_
    refine ACode.block ?_
    refine .loopK (fun m σ => (∃ (v : Int) (s : Nat), m = (hiF p l.2 - v).toNat ∧ (loF p l.1 ≤ v) ∧ (s ≤ 1199) ∧ (iterW (stepW ms p) (hiF p l.2 - v).toNat v s [] = R) ∧ σ = [(.t 0, .v (.o (.c (.box 0 3 0 0)))), (.t 1, .v (.o (vD (dIs p)))), (.t 6, .v (.o (nat1 (hiF p l.2)))), (.t 7, .v (.o (nat1 v))), (.b 0, .b 79 3 [[.d (dLs ns), .d (dI (s : Nat)), .d (.val (.slice none 0 0))]]), (.u 0, .u)])) [(0, 0)] ⟨loF p l.1, s0, rfl, (by omega), hs0, (by rw [hRd]; rfl), rfl⟩ ⟨ks rfl (.c .bx), ks rfl .dt, ks rfl .dt, ks rfl .dt, kb 0 rfl (.cons (.cons .dt (.cons .dt (.cons .dt Ctos.nil))) .nil), trivial⟩ ?_
    rintro m σ ⟨v, s, hm0, h1, hs, hE, rfl⟩
    refine ACode.seq ?_
    refine ACode.seq ?_
    refine ACode.region ?_
    refine .cons (.mv rfl rfl) ?_
    refine .cons (.mv rfl rfl) ?_
    refine .cons (.ls rfl rfl rfl) ?_
    refine .nil ?_
    refine ks_n ?_
    refine .cD rfl (fun h49 => ?_) (fun h49 => ?_)
    · skip
      refine ACode.skip ?_
      refine ks_n ?_
      refine ACode.seq ?_
      refine ACode.block ?_
      refine ACode.seq ?_
      refine ACode.region ?_
      refine .cons (.mv rfl rfl) ?_
      refine .cons (.nB rfl rfl rfl) ?_
      refine .cons (.fB 1 0 false rfl rfl rfl) ?_
      refine .cons (.b1 1 rfl rfl rfl rfl rfl rfl) ?_
      refine .cons (.pl rfl rfl rfl) ?_
      refine .cons (.nB rfl rfl rfl) ?_
      refine .cons (.fB 1 0 false rfl rfl rfl) ?_
      refine .cons (.sT 1 false rfl rfl rfl rfl rfl rfl rfl) ?_
      refine .nil ?_
      refine ks_n ?_
      refine ACode.seq ?_
      refine .keep [(.t 0, .v (.o (.c (.box 0 3 0 0)))), (.t 1, .v (.o (vD (dIs p)))), (.t 6, .v (.o (nat1 (hiF p l.2)))), (.t 7, .v (.o (nat1 v))), (.b 0, .b 79 3 [[.d (dLs ns), .d (dI ((s + 1) : Nat)), .d (.val (.slice none 0 0))]]), (.u 0, .u)] [(0, 0)] ⟨ks rfl (.c .bx), ks rfl .dt, ks rfl .dt, ks rfl .dt, kb 0 rfl (.cons (.cons .dt (.cons .dt (.cons .dt Ctos.nil))) .nil), trivial⟩ ?_
      refine ACode.region ?_
      refine .cons (.mv rfl rfl) ?_
      refine .cons (.nB rfl rfl rfl) ?_
      refine .cons (.fB 1 0 false rfl rfl rfl) ?_
      refine .cons (.b1 1 rfl rfl rfl rfl rfl rfl) ?_
      refine .cons (.pl rfl rfl rfl) ?_
      refine .cons (.gt rfl rfl rfl) ?_
      refine .cons (.mv rfl rfl) ?_
      refine .cD 65 rfl (fun g65 => ?_) (fun g65 => ?_)
      · skip
        have hstep : stepW ms p v s [] = (false, s + 1, []) := if_pos (by omega)
        obtain rfl : R = (false, s + 1, []) := by rw [← hE, iterW_no h49 hstep rfl]
        refine .cons (.gF rfl rfl rfl) ?_
        refine .cons (.gF rfl rfl rfl) ?_
        refine .cons (.gF rfl rfl rfl) ?_
        refine .cons (.gF rfl rfl rfl) ?_
        refine .cons (.gF rfl rfl rfl) ?_
        refine .cons (.gF rfl rfl rfl) ?_
        refine .cons (.gF rfl rfl rfl) ?_
        refine .cons (.gF rfl rfl rfl) ?_
        refine .cons (.pT rfl rfl rfl) ?_
        refine .nil ?_
        refine ks_n ?_
        refine ACode.condT rfl (fun _ => ?_) (fun h => by first | (cases h; done) | (simp [*] at h; done) | (exfalso; simp_all; done))
        refine ACode.seq ?_
        refine ACode.region ?_
        refine .cons (.asg rfl rfl) ?_
        refine .nil ?_
        refine ks_n ?_
        refine ACode.ret ?_
        refine kb_r ?_
        refine ks_r ?_
        refine kl_r ?_
        refine kb_r ?_
        refine ks_r ?_
        refine kf_wret [(.t 4, .v (.o (bo1 ((false, s + 1, []) : Bool × Nat × Pts).1))), (.b 0, .b 79 3 (dR ([rWk ns ((false, s + 1, []) : Bool × Nat × Pts).2.1]))), (.u 0, .u)] (Wk.keep [(0, 0)] rfl rfl ⟨ks rfl (.dt (by first | rfl | exact congrArg (fun b => V.o (bo1 b)) h74.symm)), kb 0 rfl (.dt rfl), trivial⟩) rfl ?_ (one_box rfl)
        rfl
      · skip
        have hstep : stepW ms p v s [] = walkF ms (p ++ [v]) (s + 1) [] := if_neg (by omega)
        have ihv := ih v (s + 1) [] h1 h49 (by omega) (by simp)
        have hzz : (walkF ms (p ++ [v]) (s + 1) []).2.2 = [] := by rw [← hE] at hz; have h5 := first_nil (fun v s o => stepW_grow ms p v s o) h49 hz; rwa [hstep] at h5
        refine .cons (.gT rfl rfl rfl (.mv rfl rfl)) ?_
        refine .cons (.gT rfl rfl rfl (.mv rfl rfl)) ?_
        refine .cons (.gT rfl rfl rfl (.cO [.tmp 67] [(100, 168)] rfl rfl rfl rfl (clone_own hp0 (by have := hR.ln; omega)) rfl trivial flatS.nil (flatS.nil.cons rfl) HB.nil.data outS_one)) ?_
        refine .cons (.gT rfl rfl rfl (.mv rfl rfl)) ?_
        refine .cons (.gT rfl rfl rfl (.li 3 0 0 [.tmp 69] rfl rfl rfl rfl rfl rfl)) ?_
        refine .cons (.gT rfl rfl rfl (St1.appD (rows := p.map rI) (e := 3) (sz := 0) (by' := 8) rfl rfl rfl rfl rfl (by kernel_rfl) rfl rfl rfl rfl (by simp) (by simp; have := hR.ln; omega) rfl)) ?_
        refine .cons (.gT rfl rfl rfl (.cO [.tmp 66, .tmp 71] [(0, 0)] rfl rfl rfl rfl (Fn.arg2 (dIs_snoc p v) (ihv.nn rfl hzz)) rfl ⟨rfl, trivial⟩ (hbN_flat _ _) (hbN_flat _ _) (hbN_HB _ _) outS_one)) ?_
        refine .cons (.gT rfl rfl rfl (.nt rfl rfl)) ?_
        refine .cons (.pF rfl rfl rfl) ?_
        refine .nil ?_
        refine ks_n ?_
        refine ACode.condT rfl (fun h74 => ?_) (fun h74 => ?_)
        · try simp only [List.length_map, decide_eq_true_eq, decide_eq_false_iff_not, Bool.not_eq_true', Bool.not_eq_false', Bool.not_eq_true, Bool.not_eq_false] at h74
          obtain rfl : R = walkF ms (p ++ [v]) (s + 1) [] := by rw [← hE, iterW_no h49 hstep h74]
          refine ACode.seq ?_
          refine ACode.region ?_
          refine .cons (.asg rfl rfl) ?_
          refine .nil ?_
          refine ks_n ?_
          refine ACode.ret ?_
          refine kb_r ?_
          refine ks_r ?_
          refine kl_r ?_
          refine kb_r ?_
          refine ks_r ?_
          refine kf_wret [(.t 4, .v (.o (bo1 (walkF ms (p ++ [v]) (s + 1) []).1))), (.b 0, .b 79 3 (dR ([rWk ns (walkF ms (p ++ [v]) (s + 1) []).2.1]))), (.u 0, .u)] (Wk.keep [(0, 0)] rfl rfl ⟨ks rfl (.dt (by first | rfl | exact congrArg (fun b => V.o (bo1 b)) h74.symm)), kb 0 rfl (.dt rfl), trivial⟩) rfl ?_ (one_box rfl)
          rfl
        · try simp only [List.length_map, decide_eq_true_eq, decide_eq_false_iff_not, Bool.not_eq_true', Bool.not_eq_false', Bool.not_eq_true, Bool.not_eq_false] at h74
          obtain ⟨g, hg, hst⟩ := walkF_stp ms (p ++ [v]) (s + 1) [] (by omega) (by simp)
          obtain ⟨q1, q2⟩ := hst.ok.1 h74
          obtain ⟨q3, q4⟩ := hst.st h74
          have q5 := congrArg List.length q4
          rw [List.length_append] at q5
          simp only [List.length_nil] at q5 q2
          refine ACode.skip ?_
          refine kb_n ?_
          refine ks_n ?_
          refine ACode.region ?_
          refine .cons (.mv rfl rfl) ?_
          refine .cons (.pl rfl rfl rfl) ?_
          refine .cons (.asg rfl rfl) ?_
          refine .nil ?_
          refine kl_k [(0, 0)] ⟨v + 1, (walkF ms (p ++ [v]) (s + 1) []).2.1, rfl, by omega, by omega, by rw [← hE, iterW_yes h49 hstep h74, hzz], rfl⟩ ⟨ks rfl (.c .bx), ks rfl .dt, ks rfl .dt, ks rfl .dt, kb 0 rfl (.cons (.cons .dt (.cons .dt (.cons .dt Ctos.nil))) .nil), trivial⟩
    · skip
      obtain rfl : R = (true, s, []) := by rw [← hE, iterW_ge h49]
      refine ACode.exit ?_
      refine ks_e ?_
      refine kl_e ?_
      refine kb_hit ?_
      refine ks_n ?_
      refine ACode.seq ?_
      refine ACode.region ?_
      refine .cons (.asg rfl rfl) ?_
      refine .nil ?_
      refine ks_n ?_
      refine ACode.ret ?_
      refine kf_wret [(.t 4, .v (.o (bo1 ((true, s, []) : Bool × Nat × Pts).1))), (.b 0, .b 79 3 (dR ([rWk ns ((true, s, []) : Bool × Nat × Pts).2.1]))), (.u 0, .u)] (Wk.keep [(0, 0)] rfl rfl ⟨ks rfl (.dt (by first | rfl | exact congrArg (fun b => V.o (bo1 b)) h74.symm)), kb 0 rfl (.dt rfl), trivial⟩) rfl ?_ (one_box rfl)
      rfl

set_option maxRecDepth 100000 in
set_option maxHeartbeats 1600000 in
theorem walk_no {ns : List Lp} (hn : ns.length ≤ 4) {l : Lp} {ms : List Lp} {p : List Int} (hl : ns[p.length]? = some l) (hR : okR l p) (hlo : -100000000 ≤ loF p l.1 ∧ loF p l.1 ≤ 100000000) (hhi : -100000000 ≤ hiF p l.2 ∧ hiF p l.2 ≤ 100000000) (hp0 : 0 < p.length) {s0 : Nat} (hs0 : s0 ≤ 1199) (ih : ∀ v s o, loF p l.1 ≤ v → v < hiF p l.2 → s ≤ 1199 → o.length ≤ 120 → WOk ns ms (p ++ [v]) (dIs (p ++ [v])) s o) (hz : (walkF (l :: ms) p s0 ([] : Pts)).2.2 ≠ []) : Fn Try.prog 59 (hbN ns s0) [.c (.box 0 3 0 0), vD (dIs p)] (.o (bo1 (walkF (l :: ms) p s0 ([] : Pts)).1)) (hbO 1000 ns (walkF (l :: ms) p s0 ([] : Pts)).2.1 (walkF (l :: ms) p s0 ([] : Pts)).2.2) := by
  obtain ⟨R, hRd⟩ : ∃ R, R = walkF (l :: ms) p s0 ([] : Pts) := ⟨_, rfl⟩
  rw [← hRd] at hz ⊢
  refine Fn.of_code Try.func59 rfl rfl (hbN_HB _ _) rfl rfl (hbO_HB _ _ _ _) rfl (num_NO _ _ _ _) ?_
  refine ACode.seq ?_
  refine ACode.region ?_
  refine .cons (.asg rfl rfl) ?_
  refine .nil ?_
  refine ks_n ?_
  refine ACode.seq ?_
  refine ACode.seq ?_
  refine ACode.region ?_
  refine .cons (.mv rfl rfl) ?_
  refine .cons (.ln 3 1 8 rfl rfl rfl) ?_
  refine .cons (.mv rfl rfl) ?_
  refine .cons (.nB rfl rfl rfl) ?_
  refine .cons (.fB 0 0 false rfl rfl rfl) ?_
  refine .cons (.b1 1 rfl rfl rfl rfl rfl rfl) ?_
  refine .cons (.ln 67 2 48 rfl rfl rfl) ?_
  refine .cons (.eq rfl rfl rfl) ?_
  refine .nil ?_
  refine ks_n ?_
  refine .cD rfl (fun h15 => ?_) (fun h15 => ?_)
  · skip
    exact absurd h15 (by have := (List.getElem?_eq_some_iff.1 hl).1; simp at this ⊢; omega)
  · skip
    refine ACode.skip ?_
    refine ks_n ?_
    refine ACode.seq ?_
    refine ACode.region ?_
    refine .cons (.mv rfl rfl) ?_
    refine .cons (.nB rfl rfl rfl) ?_
    refine .cons (.fB 0 0 false rfl rfl rfl) ?_
    refine .cons (.b1 1 rfl rfl rfl rfl rfl rfl) ?_
    refine .cons (.mv rfl rfl) ?_
    refine .cons (.ln 3 1 8 rfl rfl rfl) ?_
    refine .cons (.xL 67 2 48 rfl rfl rfl rfl rfl (map_at hl)) ?_
    refine .cons (.lN 2 rfl rfl rfl) ?_
    refine .cons (.mv rfl rfl) ?_
    refine .cons (.cP [.tmp 41, .tmp 42] rfl rfl rfl rfl (span_fn hR) rfl) ?_
    refine .cons (.mv rfl rfl) ?_
    refine .cons (.ex rfl rfl rfl) ?_
    refine .cons (.ex rfl rfl rfl) ?_
    refine .cons (.asg rfl rfl) ?_
    refine .cons (.asg rfl rfl) ?_
    refine .nil ?_
    refine ks_n ?_
    refine ACode.seq ?_
    refine ACode.seq ?_
    refine ACode.region ?_
    refine .cons (.mv rfl rfl) ?_
    refine .cons (.asg rfl rfl) ?_
    refine .nil ?_
    refine ks_n ?_
    refine ACode.block ?_
    refine .loopK (fun m σ => (∃ (v : Int) (s : Nat), m = (hiF p l.2 - v).toNat ∧ (loF p l.1 ≤ v) ∧ (s ≤ 1199) ∧ (iterW (stepW ms p) (hiF p l.2 - v).toNat v s [] = R) ∧ σ = [(.t 0, .v (.o (.c (.box 0 3 0 0)))), (.t 1, .v (.o (vD (dIs p)))), (.t 6, .v (.o (nat1 (hiF p l.2)))), (.t 7, .v (.o (nat1 v))), (.b 0, .b 79 3 [[.d (dLs ns), .d (dI (s : Nat)), .d (.val (.slice none 0 0))]]), (.u 0, .u)]) ∨ (∃ (v : Int) (s : Nat) (o : Pts), m = (hiF p l.2 - v).toNat ∧ (loF p l.1 ≤ v) ∧ (s ≤ 1199) ∧ (o.length ≤ 120) ∧ (o ≠ []) ∧ (iterW (stepW ms p) (hiF p l.2 - v).toNat v s o = R) ∧ σ = [(.t 0, .v (.o (.c (.box 0 3 0 0)))), (.t 1, .v (.o (vD (dIs p)))), (.t 6, .v (.o (nat1 (hiF p l.2)))), (.t 7, .v (.o (nat1 v))), (.b 1010, .b 28 1 (dR (o.map rIs))), (.u 1010, .u), (.b 0, .b 79 3 [[.d (dLs ns), .d (dI (s : Nat)), .own 1010 1 (o.length)]]), (.u 0, .u)])) [(0, 0)] (.inl ⟨loF p l.1, s0, rfl, (by omega), hs0, (by rw [hRd]; rfl), rfl⟩) ⟨ks rfl (.c .bx), ks rfl .dt, ks rfl .dt, ks rfl .dt, kb 0 rfl (.cons (.cons .dt (.cons .dt (.cons .dt Ctos.nil))) .nil), trivial⟩ ?_
    rintro m σ (⟨v, s, hm0, h1, hs, hE, rfl⟩ | ⟨v, s, o, hm0, h1, hs, ho, hno, hE, rfl⟩)
    · skip
      refine ACode.seq ?_
      refine ACode.seq ?_
      refine ACode.region ?_
      refine .cons (.mv rfl rfl) ?_
      refine .cons (.mv rfl rfl) ?_
      refine .cons (.ls rfl rfl rfl) ?_
      refine .nil ?_
      refine ks_n ?_
      refine .cD rfl (fun h49 => ?_) (fun h49 => ?_)
      · skip
        refine ACode.skip ?_
        refine ks_n ?_
        refine ACode.seq ?_
        refine ACode.block ?_
        refine ACode.seq ?_
        refine ACode.region ?_
        refine .cons (.mv rfl rfl) ?_
        refine .cons (.nB rfl rfl rfl) ?_
        refine .cons (.fB 1 0 false rfl rfl rfl) ?_
        refine .cons (.b1 1 rfl rfl rfl rfl rfl rfl) ?_
        refine .cons (.pl rfl rfl rfl) ?_
        refine .cons (.nB rfl rfl rfl) ?_
        refine .cons (.fB 1 0 false rfl rfl rfl) ?_
        refine .cons (.sT 1 false rfl rfl rfl rfl rfl rfl rfl) ?_
        refine .nil ?_
        refine ks_n ?_
        refine ACode.seq ?_
        by_cases hsp : (walkF ms (p ++ [v]) (s + 1) []).2.2 = []
        · skip
          have hzz := hsp
          refine .keep [(.t 0, .v (.o (.c (.box 0 3 0 0)))), (.t 1, .v (.o (vD (dIs p)))), (.t 6, .v (.o (nat1 (hiF p l.2)))), (.t 7, .v (.o (nat1 v))), (.b 0, .b 79 3 [[.d (dLs ns), .d (dI ((s + 1) : Nat)), .d (.val (.slice none 0 0))]]), (.u 0, .u)] [(0, 0)] ⟨ks rfl (.c .bx), ks rfl .dt, ks rfl .dt, ks rfl .dt, kb 0 rfl (.cons (.cons .dt (.cons .dt (.cons .dt Ctos.nil))) .nil), trivial⟩ ?_
          refine ACode.region ?_
          refine .cons (.mv rfl rfl) ?_
          refine .cons (.nB rfl rfl rfl) ?_
          refine .cons (.fB 1 0 false rfl rfl rfl) ?_
          refine .cons (.b1 1 rfl rfl rfl rfl rfl rfl) ?_
          refine .cons (.pl rfl rfl rfl) ?_
          refine .cons (.gt rfl rfl rfl) ?_
          refine .cons (.mv rfl rfl) ?_
          refine .cD 65 rfl (fun g65 => ?_) (fun g65 => ?_)
          · skip
            exact absurd (by rw [← hE, iterW_no h49 (r := (false, s + 1, [])) (if_pos (by omega)) rfl]) hz
          · skip
            have hstep : stepW ms p v s [] = walkF ms (p ++ [v]) (s + 1) [] := if_neg (by omega)
            have ihv := ih v (s + 1) [] h1 h49 (by omega) (by simp)
            refine .cons (.gT rfl rfl rfl (.mv rfl rfl)) ?_
            refine .cons (.gT rfl rfl rfl (.mv rfl rfl)) ?_
            refine .cons (.gT rfl rfl rfl (.cO [.tmp 67] [(100, 168)] rfl rfl rfl rfl (clone_own hp0 (by have := hR.ln; omega)) rfl trivial flatS.nil (flatS.nil.cons rfl) HB.nil.data outS_one)) ?_
            refine .cons (.gT rfl rfl rfl (.mv rfl rfl)) ?_
            refine .cons (.gT rfl rfl rfl (.li 3 0 0 [.tmp 69] rfl rfl rfl rfl rfl rfl)) ?_
            refine .cons (.gT rfl rfl rfl (St1.appD (rows := p.map rI) (e := 3) (sz := 0) (by' := 8) rfl rfl rfl rfl rfl (by kernel_rfl) rfl rfl rfl rfl (by simp) (by simp; have := hR.ln; omega) rfl)) ?_
            refine .cons (.gT rfl rfl rfl (.cO [.tmp 66, .tmp 71] [(0, 0)] rfl rfl rfl rfl (Fn.arg2 (dIs_snoc p v) (ihv.nn rfl hzz)) rfl ⟨rfl, trivial⟩ (hbN_flat _ _) (hbN_flat _ _) (hbN_HB _ _) outS_one)) ?_
            refine .cons (.gT rfl rfl rfl (.nt rfl rfl)) ?_
            refine .cons (.pF rfl rfl rfl) ?_
            refine .nil ?_
            refine ks_n ?_
            refine ACode.condT rfl (fun h74 => ?_) (fun h74 => ?_)
            · try simp only [List.length_map, decide_eq_true_eq, decide_eq_false_iff_not, Bool.not_eq_true', Bool.not_eq_false', Bool.not_eq_true, Bool.not_eq_false] at h74
              exact absurd (by rw [← hE, iterW_no h49 hstep h74]; exact hzz) hz
            · try simp only [List.length_map, decide_eq_true_eq, decide_eq_false_iff_not, Bool.not_eq_true', Bool.not_eq_false', Bool.not_eq_true, Bool.not_eq_false] at h74
              obtain ⟨g, hg, hst⟩ := walkF_stp ms (p ++ [v]) (s + 1) [] (by omega) (by simp)
              obtain ⟨q1, q2⟩ := hst.ok.1 h74
              obtain ⟨q3, q4⟩ := hst.st h74
              have q5 := congrArg List.length q4
              rw [List.length_append] at q5
              simp only [List.length_nil] at q5 q2
              refine ACode.skip ?_
              refine kb_n ?_
              refine ks_n ?_
              refine ACode.region ?_
              refine .cons (.mv rfl rfl) ?_
              refine .cons (.pl rfl rfl rfl) ?_
              refine .cons (.asg rfl rfl) ?_
              refine .nil ?_
              refine kl_k [(0, 0)] (.inl ⟨v + 1, (walkF ms (p ++ [v]) (s + 1) []).2.1, rfl, by omega, by omega, by rw [← hE, iterW_yes h49 hstep h74, hzz], rfl⟩) ⟨ks rfl (.c .bx), ks rfl .dt, ks rfl .dt, ks rfl .dt, kb 0 rfl (.cons (.cons .dt (.cons .dt (.cons .dt Ctos.nil))) .nil), trivial⟩
        · skip
          have hzz := hsp
          refine .keep [(.t 0, .v (.o (.c (.box 0 3 0 0)))), (.t 1, .v (.o (vD (dIs p)))), (.t 6, .v (.o (nat1 (hiF p l.2)))), (.t 7, .v (.o (nat1 v))), (.b 0, .b 79 3 [[.d (dLs ns), .d (dI ((s + 1) : Nat)), .d (.val (.slice none 0 0))]]), (.u 0, .u)] [(0, 0)] ⟨ks rfl (.c .bx), ks rfl .dt, ks rfl .dt, ks rfl .dt, kb 0 rfl (.cons (.cons .dt (.cons .dt (.cons .dt Ctos.nil))) .nil), trivial⟩ ?_
          refine ACode.region ?_
          refine .cons (.mv rfl rfl) ?_
          refine .cons (.nB rfl rfl rfl) ?_
          refine .cons (.fB 1 0 false rfl rfl rfl) ?_
          refine .cons (.b1 1 rfl rfl rfl rfl rfl rfl) ?_
          refine .cons (.pl rfl rfl rfl) ?_
          refine .cons (.gt rfl rfl rfl) ?_
          refine .cons (.mv rfl rfl) ?_
          refine .cD 65 rfl (fun g65 => ?_) (fun g65 => ?_)
          · skip
            exact absurd (by rw [← hE, iterW_no h49 (r := (false, s + 1, [])) (if_pos (by omega)) rfl]) hz
          · skip
            have hstep : stepW ms p v s [] = walkF ms (p ++ [v]) (s + 1) [] := if_neg (by omega)
            have ihv := ih v (s + 1) [] h1 h49 (by omega) (by simp)
            refine .cons (.gT rfl rfl rfl (.mv rfl rfl)) ?_
            refine .cons (.gT rfl rfl rfl (.mv rfl rfl)) ?_
            refine .cons (.gT rfl rfl rfl (.cO [.tmp 67] [(100, 168)] rfl rfl rfl rfl (clone_own hp0 (by have := hR.ln; omega)) rfl trivial flatS.nil (flatS.nil.cons rfl) HB.nil.data outS_one)) ?_
            refine .cons (.gT rfl rfl rfl (.mv rfl rfl)) ?_
            refine .cons (.gT rfl rfl rfl (.li 3 0 0 [.tmp 69] rfl rfl rfl rfl rfl rfl)) ?_
            refine .cons (.gT rfl rfl rfl (St1.appD (rows := p.map rI) (e := 3) (sz := 0) (by' := 8) rfl rfl rfl rfl rfl (by kernel_rfl) rfl rfl rfl rfl (by simp) (by simp; have := hR.ln; omega) rfl)) ?_
            refine .cons (.gT rfl rfl rfl (.cO [.tmp 66, .tmp 71] [(0, 0), (1000, 1072)] rfl rfl rfl rfl (Fn.arg2 (dIs_snoc p v) (ihv.no rfl hzz)) rfl ⟨rfl, trivial⟩ (hbN_flat _ _) (hbO_flat3 _ _ _) (hbO_HB _ _ _ _) outS_O)) ?_
            refine .cons (.gT rfl rfl rfl (.nt rfl rfl)) ?_
            refine .cons (.pF rfl rfl rfl) ?_
            refine .nil ?_
            refine ks_n ?_
            refine ACode.condT rfl (fun h74 => ?_) (fun h74 => ?_)
            · try simp only [List.length_map, decide_eq_true_eq, decide_eq_false_iff_not, Bool.not_eq_true', Bool.not_eq_false', Bool.not_eq_true, Bool.not_eq_false] at h74
              obtain rfl : R = walkF ms (p ++ [v]) (s + 1) [] := by rw [← hE, iterW_no h49 hstep h74]
              refine ACode.seq ?_
              refine ACode.region ?_
              refine .cons (.asg rfl rfl) ?_
              refine .nil ?_
              refine ks_n ?_
              refine ACode.ret ?_
              refine kb_r ?_
              refine ks_r ?_
              refine kl_r ?_
              refine kb_r ?_
              refine ks_r ?_
              refine kf_wret [(.t 4, .v (.o (bo1 (walkF ms (p ++ [v]) (s + 1) []).1))), (.b 0, .b 79 3 ([[.d (dLs ns), .d (dI ((walkF ms (p ++ [v]) (s + 1) []).2.1 : Nat)), .own 1000 1 ((walkF ms (p ++ [v]) (s + 1) []).2.2).length]])), (.u 0, .u), (.b 1000, .b 28 1 (dR (((walkF ms (p ++ [v]) (s + 1) []).2.2).map rIs))), (.u 1000, .u)] (Wk.keep [(0, 0), (1000, 1072)] rfl rfl ⟨ks rfl (.dt (by first | rfl | exact congrArg (fun b => V.o (bo1 b)) h74.symm)), kb 0 rfl (.cons (.cons .dt (.cons .dt (.cons .ow .nil))) .nil), kb 1072 rfl (.dt rfl), trivial⟩) rfl ?_ (two_box rfl rfl)
              rfl
            · try simp only [List.length_map, decide_eq_true_eq, decide_eq_false_iff_not, Bool.not_eq_true', Bool.not_eq_false', Bool.not_eq_true, Bool.not_eq_false] at h74
              obtain ⟨g, hg, hst⟩ := walkF_stp ms (p ++ [v]) (s + 1) [] (by omega) (by simp)
              obtain ⟨q1, q2⟩ := hst.ok.1 h74
              obtain ⟨q3, q4⟩ := hst.st h74
              have q5 := congrArg List.length q4
              rw [List.length_append] at q5
              simp only [List.length_nil] at q5 q2
              refine ACode.skip ?_
              refine kb_n ?_
              refine ks_n ?_
              refine ACode.region ?_
              refine .cons (.mv rfl rfl) ?_
              refine .cons (.pl rfl rfl rfl) ?_
              refine .cons (.asg rfl rfl) ?_
              refine .nil ?_
              refine kl_k [(0, 0), (1010, 1072)] (.inr ⟨v + 1, (walkF ms (p ++ [v]) (s + 1) []).2.1, (walkF ms (p ++ [v]) (s + 1) []).2.2, rfl, by omega, by omega, by omega, hzz, by rw [← hE, iterW_yes h49 hstep h74], rfl⟩) ⟨ks rfl (.c .bx), ks rfl .dt, ks rfl .dt, ks rfl .dt, kb 1072 rfl (.dt rfl), kb 0 rfl (.cons (.cons .dt (.cons .dt (.cons .ow Ctos.nil))) .nil), trivial⟩
      · skip
        exact absurd (by rw [← hE, iterW_ge h49]) hz
    · skip
      refine ACode.seq ?_
      refine ACode.seq ?_
      refine ACode.region ?_
      refine .cons (.mv rfl rfl) ?_
      refine .cons (.mv rfl rfl) ?_
      refine .cons (.ls rfl rfl rfl) ?_
      refine .nil ?_
      refine ks_n ?_
      refine .cD rfl (fun h49 => ?_) (fun h49 => ?_)
      · skip
        refine ACode.skip ?_
        refine ks_n ?_
        refine ACode.seq ?_
        refine ACode.block ?_
        refine ACode.seq ?_
        refine ACode.region ?_
        refine .cons (.mv rfl rfl) ?_
        refine .cons (.nB rfl rfl rfl) ?_
        refine .cons (.fB 1 0 false rfl rfl rfl) ?_
        refine .cons (.b1 1 rfl rfl rfl rfl rfl rfl) ?_
        refine .cons (.pl rfl rfl rfl) ?_
        refine .cons (.nB rfl rfl rfl) ?_
        refine .cons (.fB 1 0 false rfl rfl rfl) ?_
        refine .cons (.sT 1 false rfl rfl rfl rfl rfl rfl rfl) ?_
        refine .nil ?_
        refine ks_n ?_
        refine ACode.seq ?_
        refine .keep [(.t 0, .v (.o (.c (.box 0 3 0 0)))), (.t 1, .v (.o (vD (dIs p)))), (.t 6, .v (.o (nat1 (hiF p l.2)))), (.t 7, .v (.o (nat1 v))), (.b 1690, .b 28 1 (dR (o.map rIs))), (.u 1690, .u), (.b 0, .b 79 3 [[.d (dLs ns), .d (dI ((s + 1) : Nat)), .own 1690 1 (o.length)]]), (.u 0, .u)] [(0, 0), (1690, 1010)] ⟨ks rfl (.c .bx), ks rfl .dt, ks rfl .dt, ks rfl .dt, kb 1010 rfl (.dt rfl), kb 0 rfl (.cons (.cons .dt (.cons .dt (.cons .ow Ctos.nil))) .nil), trivial⟩ ?_
        refine ACode.region ?_
        refine .cons (.mv rfl rfl) ?_
        refine .cons (.nB rfl rfl rfl) ?_
        refine .cons (.fB 1 0 false rfl rfl rfl) ?_
        refine .cons (.b1 1 rfl rfl rfl rfl rfl rfl) ?_
        refine .cons (.pl rfl rfl rfl) ?_
        refine .cons (.gt rfl rfl rfl) ?_
        refine .cons (.mv rfl rfl) ?_
        refine .cD 65 rfl (fun g65 => ?_) (fun g65 => ?_)
        · skip
          have hstep : stepW ms p v s o = (false, s + 1, o) := if_pos (by omega)
          obtain rfl : R = (false, s + 1, o) := by rw [← hE, iterW_no h49 hstep rfl]
          refine .cons (.gF rfl rfl rfl) ?_
          refine .cons (.gF rfl rfl rfl) ?_
          refine .cons (.gF rfl rfl rfl) ?_
          refine .cons (.gF rfl rfl rfl) ?_
          refine .cons (.gF rfl rfl rfl) ?_
          refine .cons (.gF rfl rfl rfl) ?_
          refine .cons (.gF rfl rfl rfl) ?_
          refine .cons (.gF rfl rfl rfl) ?_
          refine .cons (.pT rfl rfl rfl) ?_
          refine .nil ?_
          refine ks_n ?_
          refine ACode.condT rfl (fun _ => ?_) (fun h => by first | (cases h; done) | (simp [*] at h; done) | (exfalso; simp_all; done))
          refine ACode.seq ?_
          refine ACode.region ?_
          refine .cons (.asg rfl rfl) ?_
          refine .nil ?_
          refine ks_n ?_
          refine ACode.ret ?_
          refine kb_r ?_
          refine ks_r ?_
          refine kl_r ?_
          refine kb_r ?_
          refine ks_r ?_
          refine kf_wret [(.t 4, .v (.o (bo1 ((false, s + 1, o) : Bool × Nat × Pts).1))), (.b 0, .b 79 3 ([[.d (dLs ns), .d (dI (((false, s + 1, o) : Bool × Nat × Pts).2.1 : Nat)), .own 1000 1 (((false, s + 1, o) : Bool × Nat × Pts).2.2).length]])), (.u 0, .u), (.b 1000, .b 28 1 (dR ((((false, s + 1, o) : Bool × Nat × Pts).2.2).map rIs))), (.u 1000, .u)] (Wk.keep [(0, 0), (1000, 1690)] rfl rfl ⟨ks rfl (.dt (by first | rfl | exact congrArg (fun b => V.o (bo1 b)) h74.symm)), kb 0 rfl (.cons (.cons .dt (.cons .dt (.cons .ow .nil))) .nil), kb 1690 rfl (.dt rfl), trivial⟩) rfl ?_ (two_box rfl rfl)
          rfl
        · skip
          have hstep : stepW ms p v s o = walkF ms (p ++ [v]) (s + 1) o := if_neg (by omega)
          have ihv := ih v (s + 1) o h1 h49 (by omega) (by omega)
          refine .cons (.gT rfl rfl rfl (.mv rfl rfl)) ?_
          refine .cons (.gT rfl rfl rfl (.mv rfl rfl)) ?_
          refine .cons (.gT rfl rfl rfl (.cO [.tmp 67] [(100, 168)] rfl rfl rfl rfl (clone_own hp0 (by have := hR.ln; omega)) rfl trivial flatS.nil (flatS.nil.cons rfl) HB.nil.data outS_one)) ?_
          refine .cons (.gT rfl rfl rfl (.mv rfl rfl)) ?_
          refine .cons (.gT rfl rfl rfl (.li 3 0 0 [.tmp 69] rfl rfl rfl rfl rfl rfl)) ?_
          refine .cons (.gT rfl rfl rfl (St1.appD (rows := p.map rI) (e := 3) (sz := 0) (by' := 8) rfl rfl rfl rfl rfl (by kernel_rfl) rfl rfl rfl rfl (by simp) (by simp; have := hR.ln; omega) rfl)) ?_
          refine .cons (.gT rfl rfl rfl (.cO [.tmp 66, .tmp 71] [(0, 0), (1, 1690), (1000, 1072)] rfl rfl rfl rfl (Fn.arg2 (dIs_snoc p v) (ihv.oo hno)) rfl (hbIn_O rfl rfl) (hbO_flat1 _ _ _) (hbO_flat3 _ _ _) (hbO_HB _ _ _ _) outS_O)) ?_
          refine .cons (.gT rfl rfl rfl (.nt rfl rfl)) ?_
          refine .cons (.pF rfl rfl rfl) ?_
          refine .nil ?_
          refine ks_n ?_
          refine ACode.condT rfl (fun h74 => ?_) (fun h74 => ?_)
          · try simp only [List.length_map, decide_eq_true_eq, decide_eq_false_iff_not, Bool.not_eq_true', Bool.not_eq_false', Bool.not_eq_true, Bool.not_eq_false] at h74
            obtain rfl : R = walkF ms (p ++ [v]) (s + 1) o := by rw [← hE, iterW_no h49 hstep h74]
            refine ACode.seq ?_
            refine ACode.region ?_
            refine .cons (.asg rfl rfl) ?_
            refine .nil ?_
            refine ks_n ?_
            refine ACode.ret ?_
            refine kb_r ?_
            refine ks_r ?_
            refine kl_r ?_
            refine kb_r ?_
            refine ks_r ?_
            refine kf_wret [(.t 4, .v (.o (bo1 (walkF ms (p ++ [v]) (s + 1) o).1))), (.b 0, .b 79 3 ([[.d (dLs ns), .d (dI ((walkF ms (p ++ [v]) (s + 1) o).2.1 : Nat)), .own 1000 1 ((walkF ms (p ++ [v]) (s + 1) o).2.2).length]])), (.u 0, .u), (.b 1000, .b 28 1 (dR (((walkF ms (p ++ [v]) (s + 1) o).2.2).map rIs))), (.u 1000, .u)] (Wk.keep [(0, 0), (1000, 1072)] rfl rfl ⟨ks rfl (.dt (by first | rfl | exact congrArg (fun b => V.o (bo1 b)) h74.symm)), kb 0 rfl (.cons (.cons .dt (.cons .dt (.cons .ow .nil))) .nil), kb 1072 rfl (.dt rfl), trivial⟩) rfl ?_ (two_box rfl rfl)
            rfl
          · try simp only [List.length_map, decide_eq_true_eq, decide_eq_false_iff_not, Bool.not_eq_true', Bool.not_eq_false', Bool.not_eq_true, Bool.not_eq_false] at h74
            obtain ⟨g, hg, hst⟩ := walkF_stp ms (p ++ [v]) (s + 1) o (by omega) (by omega)
            obtain ⟨q1, q2⟩ := hst.ok.1 h74
            obtain ⟨q3, q4⟩ := hst.st h74
            have q5 := congrArg List.length q4
            rw [List.length_append] at q5
            skip
            refine ACode.skip ?_
            refine kb_n ?_
            refine ks_n ?_
            refine ACode.region ?_
            refine .cons (.mv rfl rfl) ?_
            refine .cons (.pl rfl rfl rfl) ?_
            refine .cons (.asg rfl rfl) ?_
            refine .nil ?_
            refine kl_k [(0, 0), (1010, 1072)] (.inr ⟨v + 1, (walkF ms (p ++ [v]) (s + 1) o).2.1, (walkF ms (p ++ [v]) (s + 1) o).2.2, rfl, by omega, by omega, by omega, by obtain ⟨z, hz2⟩ := walkF_grow ms (p ++ [v]) (s + 1) o; rw [hz2]; exact fun e => hno (List.append_eq_nil_iff.1 e).1, by rw [← hE, iterW_yes h49 hstep h74], rfl⟩) ⟨ks rfl (.c .bx), ks rfl .dt, ks rfl .dt, ks rfl .dt, kb 1072 rfl (.dt rfl), kb 0 rfl (.cons (.cons .dt (.cons .dt (.cons .ow Ctos.nil))) .nil), trivial⟩
      · skip
        obtain rfl : R = (true, s, o) := by rw [← hE, iterW_ge h49]
        refine ACode.exit ?_
        refine ks_e ?_
        refine kl_e ?_
        refine kb_hit ?_
        refine ks_n ?_
        refine ACode.seq ?_
        refine ACode.region ?_
        refine .cons (.asg rfl rfl) ?_
        refine .nil ?_
        refine ks_n ?_
        refine ACode.ret ?_
        refine kf_wret [(.t 4, .v (.o (bo1 ((true, s, o) : Bool × Nat × Pts).1))), (.b 0, .b 79 3 ([[.d (dLs ns), .d (dI (((true, s, o) : Bool × Nat × Pts).2.1 : Nat)), .own 1000 1 (((true, s, o) : Bool × Nat × Pts).2.2).length]])), (.u 0, .u), (.b 1000, .b 28 1 (dR ((((true, s, o) : Bool × Nat × Pts).2.2).map rIs))), (.u 1000, .u)] (Wk.keep [(0, 0), (1000, 1010)] rfl rfl ⟨ks rfl (.dt (by first | rfl | exact congrArg (fun b => V.o (bo1 b)) h74.symm)), kb 0 rfl (.cons (.cons .dt (.cons .dt (.cons .ow .nil))) .nil), kb 1010 rfl (.dt rfl), trivial⟩) rfl ?_ (two_box rfl rfl)
        rfl

set_option maxRecDepth 100000 in
set_option maxHeartbeats 1600000 in
theorem walk_oo {ns : List Lp} (hn : ns.length ≤ 4) {l : Lp} {ms : List Lp} {p : List Int} (hl : ns[p.length]? = some l) (hR : okR l p) (hlo : -100000000 ≤ loF p l.1 ∧ loF p l.1 ≤ 100000000) (hhi : -100000000 ≤ hiF p l.2 ∧ hiF p l.2 ≤ 100000000) (hp0 : 0 < p.length) {s0 : Nat} (hs0 : s0 ≤ 1199) {o0 : Pts} (ho0 : o0.length ≤ 120) (hne : o0 ≠ []) (ih : ∀ v s o, loF p l.1 ≤ v → v < hiF p l.2 → s ≤ 1199 → o.length ≤ 120 → WOk ns ms (p ++ [v]) (dIs (p ++ [v])) s o)  : Fn Try.prog 59 (hbO 1 ns s0 o0) [.c (.box 0 3 0 0), vD (dIs p)] (.o (bo1 (walkF (l :: ms) p s0 o0).1)) (hbO 1000 ns (walkF (l :: ms) p s0 o0).2.1 (walkF (l :: ms) p s0 o0).2.2) := by
  obtain ⟨R, hRd⟩ : ∃ R, R = walkF (l :: ms) p s0 o0 := ⟨_, rfl⟩
  rw [← hRd]
  refine Fn.of_code Try.func59 rfl rfl (hbO_HB _ _ _ _) rfl rfl (hbO_HB _ _ _ _) rfl (num_OO _ _ _ _ _) ?_
  refine ACode.seq ?_
  refine ACode.region ?_
  refine .cons (.asg rfl rfl) ?_
  refine .nil ?_
  refine ks_n ?_
  refine ACode.seq ?_
  refine ACode.seq ?_
  refine ACode.region ?_
  refine .cons (.mv rfl rfl) ?_
  refine .cons (.ln 3 1 8 rfl rfl rfl) ?_
  refine .cons (.mv rfl rfl) ?_
  refine .cons (.nB rfl rfl rfl) ?_
  refine .cons (.fB 0 0 false rfl rfl rfl) ?_
  refine .cons (.b1 1 rfl rfl rfl rfl rfl rfl) ?_
  refine .cons (.ln 67 2 48 rfl rfl rfl) ?_
  refine .cons (.eq rfl rfl rfl) ?_
  refine .nil ?_
  refine ks_n ?_
  refine .cD rfl (fun h15 => ?_) (fun h15 => ?_)
  · skip
    exact absurd h15 (by have := (List.getElem?_eq_some_iff.1 hl).1; simp at this ⊢; omega)
  · skip
    refine ACode.skip ?_
    refine ks_n ?_
    refine ACode.seq ?_
    refine ACode.region ?_
    refine .cons (.mv rfl rfl) ?_
    refine .cons (.nB rfl rfl rfl) ?_
    refine .cons (.fB 0 0 false rfl rfl rfl) ?_
    refine .cons (.b1 1 rfl rfl rfl rfl rfl rfl) ?_
    refine .cons (.mv rfl rfl) ?_
    refine .cons (.ln 3 1 8 rfl rfl rfl) ?_
    refine .cons (.xL 67 2 48 rfl rfl rfl rfl rfl (map_at hl)) ?_
    refine .cons (.lN 2 rfl rfl rfl) ?_
    refine .cons (.mv rfl rfl) ?_
    refine .cons (.cP [.tmp 41, .tmp 42] rfl rfl rfl rfl (span_fn hR) rfl) ?_
    refine .cons (.mv rfl rfl) ?_
    refine .cons (.ex rfl rfl rfl) ?_
    refine .cons (.ex rfl rfl rfl) ?_
    refine .cons (.asg rfl rfl) ?_
    refine .cons (.asg rfl rfl) ?_
    refine .nil ?_
    refine ks_n ?_
    refine ACode.seq ?_
    refine ACode.seq ?_
    refine ACode.region ?_
    refine .cons (.mv rfl rfl) ?_
    refine .cons (.asg rfl rfl) ?_
    refine .nil ?_
    refine ks_n ?_
    refine ACode.block ?_
    refine .loopK (fun m σ => (∃ (v : Int) (s : Nat) (o : Pts), m = (hiF p l.2 - v).toNat ∧ (loF p l.1 ≤ v) ∧ (s ≤ 1199) ∧ (o.length ≤ 120) ∧ (o ≠ []) ∧ (iterW (stepW ms p) (hiF p l.2 - v).toNat v s o = R) ∧ σ = [(.t 0, .v (.o (.c (.box 0 3 0 0)))), (.t 1, .v (.o (vD (dIs p)))), (.t 6, .v (.o (nat1 (hiF p l.2)))), (.t 7, .v (.o (nat1 v))), (.b 1010, .b 28 1 (dR (o.map rIs))), (.u 1010, .u), (.b 0, .b 79 3 [[.d (dLs ns), .d (dI (s : Nat)), .own 1010 1 (o.length)]]), (.u 0, .u)])) [(0, 0), (1010, 1)] ⟨loF p l.1, s0, o0, rfl, (by omega), hs0, ho0, hne, (by rw [hRd]; rfl), rfl⟩ ⟨ks rfl (.c .bx), ks rfl .dt, ks rfl .dt, ks rfl .dt, kb 1 rfl (.dt rfl), kb 0 rfl (.cons (.cons .dt (.cons .dt (.cons .ow Ctos.nil))) .nil), trivial⟩ ?_
    rintro m σ ⟨v, s, o, hm0, h1, hs, ho, hno, hE, rfl⟩
    refine ACode.seq ?_
    refine ACode.seq ?_
    refine ACode.region ?_
    refine .cons (.mv rfl rfl) ?_
    refine .cons (.mv rfl rfl) ?_
    refine .cons (.ls rfl rfl rfl) ?_
    refine .nil ?_
    refine ks_n ?_
    refine .cD rfl (fun h49 => ?_) (fun h49 => ?_)
    · skip
      refine ACode.skip ?_
      refine ks_n ?_
      refine ACode.seq ?_
      refine ACode.block ?_
      refine ACode.seq ?_
      refine ACode.region ?_
      refine .cons (.mv rfl rfl) ?_
      refine .cons (.nB rfl rfl rfl) ?_
      refine .cons (.fB 1 0 false rfl rfl rfl) ?_
      refine .cons (.b1 1 rfl rfl rfl rfl rfl rfl) ?_
      refine .cons (.pl rfl rfl rfl) ?_
      refine .cons (.nB rfl rfl rfl) ?_
      refine .cons (.fB 1 0 false rfl rfl rfl) ?_
      refine .cons (.sT 1 false rfl rfl rfl rfl rfl rfl rfl) ?_
      refine .nil ?_
      refine ks_n ?_
      refine ACode.seq ?_
      refine .keep [(.t 0, .v (.o (.c (.box 0 3 0 0)))), (.t 1, .v (.o (vD (dIs p)))), (.t 6, .v (.o (nat1 (hiF p l.2)))), (.t 7, .v (.o (nat1 v))), (.b 1690, .b 28 1 (dR (o.map rIs))), (.u 1690, .u), (.b 0, .b 79 3 [[.d (dLs ns), .d (dI ((s + 1) : Nat)), .own 1690 1 (o.length)]]), (.u 0, .u)] [(0, 0), (1690, 1010)] ⟨ks rfl (.c .bx), ks rfl .dt, ks rfl .dt, ks rfl .dt, kb 1010 rfl (.dt rfl), kb 0 rfl (.cons (.cons .dt (.cons .dt (.cons .ow Ctos.nil))) .nil), trivial⟩ ?_
      refine ACode.region ?_
      refine .cons (.mv rfl rfl) ?_
      refine .cons (.nB rfl rfl rfl) ?_
      refine .cons (.fB 1 0 false rfl rfl rfl) ?_
      refine .cons (.b1 1 rfl rfl rfl rfl rfl rfl) ?_
      refine .cons (.pl rfl rfl rfl) ?_
      refine .cons (.gt rfl rfl rfl) ?_
      refine .cons (.mv rfl rfl) ?_
      refine .cD 65 rfl (fun g65 => ?_) (fun g65 => ?_)
      · skip
        have hstep : stepW ms p v s o = (false, s + 1, o) := if_pos (by omega)
        obtain rfl : R = (false, s + 1, o) := by rw [← hE, iterW_no h49 hstep rfl]
        refine .cons (.gF rfl rfl rfl) ?_
        refine .cons (.gF rfl rfl rfl) ?_
        refine .cons (.gF rfl rfl rfl) ?_
        refine .cons (.gF rfl rfl rfl) ?_
        refine .cons (.gF rfl rfl rfl) ?_
        refine .cons (.gF rfl rfl rfl) ?_
        refine .cons (.gF rfl rfl rfl) ?_
        refine .cons (.gF rfl rfl rfl) ?_
        refine .cons (.pT rfl rfl rfl) ?_
        refine .nil ?_
        refine ks_n ?_
        refine ACode.condT rfl (fun _ => ?_) (fun h => by first | (cases h; done) | (simp [*] at h; done) | (exfalso; simp_all; done))
        refine ACode.seq ?_
        refine ACode.region ?_
        refine .cons (.asg rfl rfl) ?_
        refine .nil ?_
        refine ks_n ?_
        refine ACode.ret ?_
        refine kb_r ?_
        refine ks_r ?_
        refine kl_r ?_
        refine kb_r ?_
        refine ks_r ?_
        refine kf_wret [(.t 4, .v (.o (bo1 ((false, s + 1, o) : Bool × Nat × Pts).1))), (.b 0, .b 79 3 ([[.d (dLs ns), .d (dI (((false, s + 1, o) : Bool × Nat × Pts).2.1 : Nat)), .own 1000 1 (((false, s + 1, o) : Bool × Nat × Pts).2.2).length]])), (.u 0, .u), (.b 1000, .b 28 1 (dR ((((false, s + 1, o) : Bool × Nat × Pts).2.2).map rIs))), (.u 1000, .u)] (Wk.keep [(0, 0), (1000, 1690)] rfl rfl ⟨ks rfl (.dt (by first | rfl | exact congrArg (fun b => V.o (bo1 b)) h74.symm)), kb 0 rfl (.cons (.cons .dt (.cons .dt (.cons .ow .nil))) .nil), kb 1690 rfl (.dt rfl), trivial⟩) rfl ?_ (two_box rfl rfl)
        rfl
      · skip
        have hstep : stepW ms p v s o = walkF ms (p ++ [v]) (s + 1) o := if_neg (by omega)
        have ihv := ih v (s + 1) o h1 h49 (by omega) (by omega)
        refine .cons (.gT rfl rfl rfl (.mv rfl rfl)) ?_
        refine .cons (.gT rfl rfl rfl (.mv rfl rfl)) ?_
        refine .cons (.gT rfl rfl rfl (.cO [.tmp 67] [(100, 168)] rfl rfl rfl rfl (clone_own hp0 (by have := hR.ln; omega)) rfl trivial flatS.nil (flatS.nil.cons rfl) HB.nil.data outS_one)) ?_
        refine .cons (.gT rfl rfl rfl (.mv rfl rfl)) ?_
        refine .cons (.gT rfl rfl rfl (.li 3 0 0 [.tmp 69] rfl rfl rfl rfl rfl rfl)) ?_
        refine .cons (.gT rfl rfl rfl (St1.appD (rows := p.map rI) (e := 3) (sz := 0) (by' := 8) rfl rfl rfl rfl rfl (by kernel_rfl) rfl rfl rfl rfl (by simp) (by simp; have := hR.ln; omega) rfl)) ?_
        refine .cons (.gT rfl rfl rfl (.cO [.tmp 66, .tmp 71] [(0, 0), (1, 1690), (1000, 1072)] rfl rfl rfl rfl (Fn.arg2 (dIs_snoc p v) (ihv.oo hno)) rfl (hbIn_O rfl rfl) (hbO_flat1 _ _ _) (hbO_flat3 _ _ _) (hbO_HB _ _ _ _) outS_O)) ?_
        refine .cons (.gT rfl rfl rfl (.nt rfl rfl)) ?_
        refine .cons (.pF rfl rfl rfl) ?_
        refine .nil ?_
        refine ks_n ?_
        refine ACode.condT rfl (fun h74 => ?_) (fun h74 => ?_)
        · try simp only [List.length_map, decide_eq_true_eq, decide_eq_false_iff_not, Bool.not_eq_true', Bool.not_eq_false', Bool.not_eq_true, Bool.not_eq_false] at h74
          obtain rfl : R = walkF ms (p ++ [v]) (s + 1) o := by rw [← hE, iterW_no h49 hstep h74]
          refine ACode.seq ?_
          refine ACode.region ?_
          refine .cons (.asg rfl rfl) ?_
          refine .nil ?_
          refine ks_n ?_
          refine ACode.ret ?_
          refine kb_r ?_
          refine ks_r ?_
          refine kl_r ?_
          refine kb_r ?_
          refine ks_r ?_
          refine kf_wret [(.t 4, .v (.o (bo1 (walkF ms (p ++ [v]) (s + 1) o).1))), (.b 0, .b 79 3 ([[.d (dLs ns), .d (dI ((walkF ms (p ++ [v]) (s + 1) o).2.1 : Nat)), .own 1000 1 ((walkF ms (p ++ [v]) (s + 1) o).2.2).length]])), (.u 0, .u), (.b 1000, .b 28 1 (dR (((walkF ms (p ++ [v]) (s + 1) o).2.2).map rIs))), (.u 1000, .u)] (Wk.keep [(0, 0), (1000, 1072)] rfl rfl ⟨ks rfl (.dt (by first | rfl | exact congrArg (fun b => V.o (bo1 b)) h74.symm)), kb 0 rfl (.cons (.cons .dt (.cons .dt (.cons .ow .nil))) .nil), kb 1072 rfl (.dt rfl), trivial⟩) rfl ?_ (two_box rfl rfl)
          rfl
        · try simp only [List.length_map, decide_eq_true_eq, decide_eq_false_iff_not, Bool.not_eq_true', Bool.not_eq_false', Bool.not_eq_true, Bool.not_eq_false] at h74
          obtain ⟨g, hg, hst⟩ := walkF_stp ms (p ++ [v]) (s + 1) o (by omega) (by omega)
          obtain ⟨q1, q2⟩ := hst.ok.1 h74
          obtain ⟨q3, q4⟩ := hst.st h74
          have q5 := congrArg List.length q4
          rw [List.length_append] at q5
          skip
          refine ACode.skip ?_
          refine kb_n ?_
          refine ks_n ?_
          refine ACode.region ?_
          refine .cons (.mv rfl rfl) ?_
          refine .cons (.pl rfl rfl rfl) ?_
          refine .cons (.asg rfl rfl) ?_
          refine .nil ?_
          refine kl_k [(0, 0), (1010, 1072)] ⟨v + 1, (walkF ms (p ++ [v]) (s + 1) o).2.1, (walkF ms (p ++ [v]) (s + 1) o).2.2, rfl, by omega, by omega, by omega, by obtain ⟨z, hz2⟩ := walkF_grow ms (p ++ [v]) (s + 1) o; rw [hz2]; exact fun e => hno (List.append_eq_nil_iff.1 e).1, by rw [← hE, iterW_yes h49 hstep h74], rfl⟩ ⟨ks rfl (.c .bx), ks rfl .dt, ks rfl .dt, ks rfl .dt, kb 1072 rfl (.dt rfl), kb 0 rfl (.cons (.cons .dt (.cons .dt (.cons .ow Ctos.nil))) .nil), trivial⟩
    · skip
      obtain rfl : R = (true, s, o) := by rw [← hE, iterW_ge h49]
      refine ACode.exit ?_
      refine ks_e ?_
      refine kl_e ?_
      refine kb_hit ?_
      refine ks_n ?_
      refine ACode.seq ?_
      refine ACode.region ?_
      refine .cons (.asg rfl rfl) ?_
      refine .nil ?_
      refine ks_n ?_
      refine ACode.ret ?_
      refine kf_wret [(.t 4, .v (.o (bo1 ((true, s, o) : Bool × Nat × Pts).1))), (.b 0, .b 79 3 ([[.d (dLs ns), .d (dI (((true, s, o) : Bool × Nat × Pts).2.1 : Nat)), .own 1000 1 (((true, s, o) : Bool × Nat × Pts).2.2).length]])), (.u 0, .u), (.b 1000, .b 28 1 (dR ((((true, s, o) : Bool × Nat × Pts).2.2).map rIs))), (.u 1000, .u)] (Wk.keep [(0, 0), (1000, 1010)] rfl rfl ⟨ks rfl (.dt (by first | rfl | exact congrArg (fun b => V.o (bo1 b)) h74.symm)), kb 0 rfl (.cons (.cons .dt (.cons .dt (.cons .ow .nil))) .nil), kb 1010 rfl (.dt rfl), trivial⟩) rfl ?_ (two_box rfl rfl)
      rfl

set_option maxRecDepth 100000 in
set_option maxHeartbeats 1600000 in
theorem walk_nnR {ns : List Lp} (hn : ns.length ≤ 4) {l : Lp} {ms : List Lp} (hl : ns[([] : List Int).length]? = some l) (hR : okR l ([] : List Int)) (hlo : -100000000 ≤ loF ([] : List Int) l.1 ∧ loF ([] : List Int) l.1 ≤ 100000000) (hhi : -100000000 ≤ hiF ([] : List Int) l.2 ∧ hiF ([] : List Int) l.2 ≤ 100000000) {s0 : Nat} (hs0 : s0 ≤ 1199) (ih : ∀ v s o, loF ([] : List Int) l.1 ≤ v → v < hiF ([] : List Int) l.2 → s ≤ 1199 → o.length ≤ 120 → WOk ns ms (([] : List Int) ++ [v]) (dIs (([] : List Int) ++ [v])) s o) (hz : (walkF (l :: ms) ([] : List Int) s0 ([] : Pts)).2.2 = []) : Fn Try.prog 59 (hbN ns s0) [.c (.box 0 3 0 0), vN] (.o (bo1 (walkF (l :: ms) ([] : List Int) s0 ([] : Pts)).1)) (hbN ns (walkF (l :: ms) ([] : List Int) s0 ([] : Pts)).2.1) := by
  obtain ⟨R, hRd⟩ : ∃ R, R = walkF (l :: ms) ([] : List Int) s0 ([] : Pts) := ⟨_, rfl⟩
  rw [← hRd] at hz ⊢
  refine Fn.of_code Try.func59 rfl rfl (hbN_HB _ _) rfl rfl (hbN_HB _ _) rfl (num_NN _ _ _) ?_
  refine ACode.seq ?_
  refine ACode.region ?_
  refine .cons (.asg rfl rfl) ?_
  refine .nil ?_
  refine ks_n ?_
  refine ACode.seq ?_
  refine ACode.seq ?_
  refine ACode.region ?_
  refine .cons (.mv rfl rfl) ?_
  refine .cons (St1.lenN (e := 3) (m := 1) (by' := 8) rfl rfl rfl rfl rfl (by kernel_rfl) rfl) ?_
  refine .cons (.mv rfl rfl) ?_
  refine .cons (.nB rfl rfl rfl) ?_
  refine .cons (.fB 0 0 false rfl rfl rfl) ?_
  refine .cons (.b1 1 rfl rfl rfl rfl rfl rfl) ?_
  refine .cons (.ln 67 2 48 rfl rfl rfl) ?_
  refine .cons (.eq rfl rfl rfl) ?_
  refine .nil ?_
  refine ks_n ?_
  refine .cD rfl (fun h15 => ?_) (fun h15 => ?_)
  · skip
    exact absurd h15 (by have := (List.getElem?_eq_some_iff.1 hl).1; simp at this ⊢; omega)
  · skip
    refine ACode.skip ?_
    refine ks_n ?_
    refine ACode.seq ?_
    refine ACode.region ?_
    refine .cons (.mv rfl rfl) ?_
    refine .cons (.nB rfl rfl rfl) ?_
    refine .cons (.fB 0 0 false rfl rfl rfl) ?_
    refine .cons (.b1 1 rfl rfl rfl rfl rfl rfl) ?_
    refine .cons (.mv rfl rfl) ?_
    refine .cons (St1.lenN (e := 3) (m := 1) (by' := 8) rfl rfl rfl rfl rfl (by kernel_rfl) rfl) ?_
    refine .cons (.xL 67 2 48 rfl rfl rfl rfl rfl (map_at hl)) ?_
    refine .cons (.lN 2 rfl rfl rfl) ?_
    refine .cons (.mv rfl rfl) ?_
    refine .cons (.cP [.tmp 41, .tmp 42] rfl rfl rfl rfl (Fn.nilArg (pre := [ad (rL l)]) (post := []) (sz := 1) (span_fn hR)) rfl) ?_
    refine .cons (.mv rfl rfl) ?_
    refine .cons (.ex rfl rfl rfl) ?_
    refine .cons (.ex rfl rfl rfl) ?_
    refine .cons (.asg rfl rfl) ?_
    refine .cons (.asg rfl rfl) ?_
    refine .nil ?_
    refine ks_n ?_
    refine ACode.seq ?_
    refine ACode.seq ?_
    refine ACode.region ?_
    refine .cons (.mv rfl rfl) ?_
    refine .cons (.asg rfl rfl) ?_
    refine .nil ?_
    refine ks_n ?_
    refine ACode.block ?_
    refine .loopK (fun m σ => (∃ (v : Int) (s : Nat), m = (hiF ([] : List Int) l.2 - v).toNat ∧ (loF ([] : List Int) l.1 ≤ v) ∧ (s ≤ 1199) ∧ (iterW (stepW ms ([] : List Int)) (hiF ([] : List Int) l.2 - v).toNat v s [] = R) ∧ σ = [(.t 0, .v (.o (.c (.box 0 3 0 0)))), (.t 1, .v (.o vN)), (.t 6, .v (.o (nat1 (hiF ([] : List Int) l.2)))), (.t 7, .v (.o (nat1 v))), (.b 0, .b 79 3 [[.d (dLs ns), .d (dI (s : Nat)), .d (.val (.slice none 0 0))]]), (.u 0, .u)])) [(0, 0)] ⟨loF ([] : List Int) l.1, s0, rfl, (by omega), hs0, (by rw [hRd]; rfl), rfl⟩ ⟨ks rfl (.c .bx), ks rfl .dt, ks rfl .dt, ks rfl .dt, kb 0 rfl (.cons (.cons .dt (.cons .dt (.cons .dt Ctos.nil))) .nil), trivial⟩ ?_
    rintro m σ ⟨v, s, hm0, h1, hs, hE, rfl⟩
    refine ACode.seq ?_
    refine ACode.seq ?_
    refine ACode.region ?_
    refine .cons (.mv rfl rfl) ?_
    refine .cons (.mv rfl rfl) ?_
    refine .cons (.ls rfl rfl rfl) ?_
    refine .nil ?_
    refine ks_n ?_
    refine .cD rfl (fun h49 => ?_) (fun h49 => ?_)
    · skip
      refine ACode.skip ?_
      refine ks_n ?_
      refine ACode.seq ?_
      refine ACode.block ?_
      refine ACode.seq ?_
      refine ACode.region ?_
      refine .cons (.mv rfl rfl) ?_
      refine .cons (.nB rfl rfl rfl) ?_
      refine .cons (.fB 1 0 false rfl rfl rfl) ?_
      refine .cons (.b1 1 rfl rfl rfl rfl rfl rfl) ?_
      refine .cons (.pl rfl rfl rfl) ?_
      refine .cons (.nB rfl rfl rfl) ?_
      refine .cons (.fB 1 0 false rfl rfl rfl) ?_
      refine .cons (.sT 1 false rfl rfl rfl rfl rfl rfl rfl) ?_
      refine .nil ?_
      refine ks_n ?_
      refine ACode.seq ?_
      refine .keep [(.t 0, .v (.o (.c (.box 0 3 0 0)))), (.t 1, .v (.o vN)), (.t 6, .v (.o (nat1 (hiF ([] : List Int) l.2)))), (.t 7, .v (.o (nat1 v))), (.b 0, .b 79 3 [[.d (dLs ns), .d (dI ((s + 1) : Nat)), .d (.val (.slice none 0 0))]]), (.u 0, .u)] [(0, 0)] ⟨ks rfl (.c .bx), ks rfl .dt, ks rfl .dt, ks rfl .dt, kb 0 rfl (.cons (.cons .dt (.cons .dt (.cons .dt Ctos.nil))) .nil), trivial⟩ ?_
      refine ACode.region ?_
      refine .cons (.mv rfl rfl) ?_
      refine .cons (.nB rfl rfl rfl) ?_
      refine .cons (.fB 1 0 false rfl rfl rfl) ?_
      refine .cons (.b1 1 rfl rfl rfl rfl rfl rfl) ?_
      refine .cons (.pl rfl rfl rfl) ?_
      refine .cons (.gt rfl rfl rfl) ?_
      refine .cons (.mv rfl rfl) ?_
      refine .cD 65 rfl (fun g65 => ?_) (fun g65 => ?_)
      · skip
        have hstep : stepW ms ([] : List Int) v s [] = (false, s + 1, []) := if_pos (by omega)
        obtain rfl : R = (false, s + 1, []) := by rw [← hE, iterW_no h49 hstep rfl]
        refine .cons (.gF rfl rfl rfl) ?_
        refine .cons (.gF rfl rfl rfl) ?_
        refine .cons (.gF rfl rfl rfl) ?_
        refine .cons (.gF rfl rfl rfl) ?_
        refine .cons (.gF rfl rfl rfl) ?_
        refine .cons (.gF rfl rfl rfl) ?_
        refine .cons (.gF rfl rfl rfl) ?_
        refine .cons (.gF rfl rfl rfl) ?_
        refine .cons (.pT rfl rfl rfl) ?_
        refine .nil ?_
        refine ks_n ?_
        refine ACode.condT rfl (fun _ => ?_) (fun h => by first | (cases h; done) | (simp [*] at h; done) | (exfalso; simp_all; done))
        refine ACode.seq ?_
        refine ACode.region ?_
        refine .cons (.asg rfl rfl) ?_
        refine .nil ?_
        refine ks_n ?_
        refine ACode.ret ?_
        refine kb_r ?_
        refine ks_r ?_
        refine kl_r ?_
        refine kb_r ?_
        refine ks_r ?_
        refine kf_wret [(.t 4, .v (.o (bo1 ((false, s + 1, []) : Bool × Nat × Pts).1))), (.b 0, .b 79 3 (dR ([rWk ns ((false, s + 1, []) : Bool × Nat × Pts).2.1]))), (.u 0, .u)] (Wk.keep [(0, 0)] rfl rfl ⟨ks rfl (.dt (by first | rfl | exact congrArg (fun b => V.o (bo1 b)) h74.symm)), kb 0 rfl (.dt rfl), trivial⟩) rfl ?_ (one_box rfl)
        rfl
      · skip
        have hstep : stepW ms ([] : List Int) v s [] = walkF ms (([] : List Int) ++ [v]) (s + 1) [] := if_neg (by omega)
        have ihv := ih v (s + 1) [] h1 h49 (by omega) (by simp)
        have hzz : (walkF ms (([] : List Int) ++ [v]) (s + 1) []).2.2 = [] := by rw [← hE] at hz; have h5 := first_nil (fun v s o => stepW_grow ms ([] : List Int) v s o) h49 hz; rwa [hstep] at h5
        refine .cons (.gT rfl rfl rfl (.mv rfl rfl)) ?_
        refine .cons (.gT rfl rfl rfl (.mv rfl rfl)) ?_
        refine .cons (.gT rfl rfl rfl (.cP [.tmp 67] rfl rfl rfl rfl (clone_nilN) rfl)) ?_
        refine .cons (.gT rfl rfl rfl (.mv rfl rfl)) ?_
        refine .cons (.gT rfl rfl rfl (.li 3 0 0 [.tmp 69] rfl rfl rfl rfl rfl rfl)) ?_
        refine .cons (.gT rfl rfl rfl (St1.appND (e := 3) (sz := 0) (by' := 8) rfl rfl rfl rfl rfl (by kernel_rfl) rfl rfl rfl (by simp))) ?_
        refine .cons (.gT rfl rfl rfl (.cO [.tmp 66, .tmp 71] [(0, 0)] rfl rfl rfl rfl (ihv.nn rfl hzz) rfl ⟨rfl, trivial⟩ (hbN_flat _ _) (hbN_flat _ _) (hbN_HB _ _) outS_one)) ?_
        refine .cons (.gT rfl rfl rfl (.nt rfl rfl)) ?_
        refine .cons (.pF rfl rfl rfl) ?_
        refine .nil ?_
        refine ks_n ?_
        refine ACode.condT rfl (fun h74 => ?_) (fun h74 => ?_)
        · try simp only [List.length_map, decide_eq_true_eq, decide_eq_false_iff_not, Bool.not_eq_true', Bool.not_eq_false', Bool.not_eq_true, Bool.not_eq_false] at h74
          obtain rfl : R = walkF ms (([] : List Int) ++ [v]) (s + 1) [] := by rw [← hE, iterW_no h49 hstep h74]
          refine ACode.seq ?_
          refine ACode.region ?_
          refine .cons (.asg rfl rfl) ?_
          refine .nil ?_
          refine ks_n ?_
          refine ACode.ret ?_
          refine kb_r ?_
          refine ks_r ?_
          refine kl_r ?_
          refine kb_r ?_
          refine ks_r ?_
          refine kf_wret [(.t 4, .v (.o (bo1 (walkF ms (([] : List Int) ++ [v]) (s + 1) []).1))), (.b 0, .b 79 3 (dR ([rWk ns (walkF ms (([] : List Int) ++ [v]) (s + 1) []).2.1]))), (.u 0, .u)] (Wk.keep [(0, 0)] rfl rfl ⟨ks rfl (.dt (by first | rfl | exact congrArg (fun b => V.o (bo1 b)) h74.symm)), kb 0 rfl (.dt rfl), trivial⟩) rfl ?_ (one_box rfl)
          rfl
        · try simp only [List.length_map, decide_eq_true_eq, decide_eq_false_iff_not, Bool.not_eq_true', Bool.not_eq_false', Bool.not_eq_true, Bool.not_eq_false] at h74
          obtain ⟨g, hg, hst⟩ := walkF_stp ms (([] : List Int) ++ [v]) (s + 1) [] (by omega) (by simp)
          obtain ⟨q1, q2⟩ := hst.ok.1 h74
          obtain ⟨q3, q4⟩ := hst.st h74
          have q5 := congrArg List.length q4
          rw [List.length_append] at q5
          simp only [List.length_nil] at q5 q2
          refine ACode.skip ?_
          refine kb_n ?_
          refine ks_n ?_
          refine ACode.region ?_
          refine .cons (.mv rfl rfl) ?_
          refine .cons (.pl rfl rfl rfl) ?_
          refine .cons (.asg rfl rfl) ?_
          refine .nil ?_
          refine kl_k [(0, 0)] ⟨v + 1, (walkF ms (([] : List Int) ++ [v]) (s + 1) []).2.1, rfl, by omega, by omega, by rw [← hE, iterW_yes h49 hstep h74, hzz], rfl⟩ ⟨ks rfl (.c .bx), ks rfl .dt, ks rfl .dt, ks rfl .dt, kb 0 rfl (.cons (.cons .dt (.cons .dt (.cons .dt Ctos.nil))) .nil), trivial⟩
    · skip
      obtain rfl : R = (true, s, []) := by rw [← hE, iterW_ge h49]
      refine ACode.exit ?_
      refine ks_e ?_
      refine kl_e ?_
      refine kb_hit ?_
      refine ks_n ?_
      refine ACode.seq ?_
      refine ACode.region ?_
      refine .cons (.asg rfl rfl) ?_
      refine .nil ?_
      refine ks_n ?_
      refine ACode.ret ?_
      refine kf_wret [(.t 4, .v (.o (bo1 ((true, s, []) : Bool × Nat × Pts).1))), (.b 0, .b 79 3 (dR ([rWk ns ((true, s, []) : Bool × Nat × Pts).2.1]))), (.u 0, .u)] (Wk.keep [(0, 0)] rfl rfl ⟨ks rfl (.dt (by first | rfl | exact congrArg (fun b => V.o (bo1 b)) h74.symm)), kb 0 rfl (.dt rfl), trivial⟩) rfl ?_ (one_box rfl)
      rfl

set_option maxRecDepth 100000 in
set_option maxHeartbeats 1600000 in
theorem walk_noR {ns : List Lp} (hn : ns.length ≤ 4) {l : Lp} {ms : List Lp} (hl : ns[([] : List Int).length]? = some l) (hR : okR l ([] : List Int)) (hlo : -100000000 ≤ loF ([] : List Int) l.1 ∧ loF ([] : List Int) l.1 ≤ 100000000) (hhi : -100000000 ≤ hiF ([] : List Int) l.2 ∧ hiF ([] : List Int) l.2 ≤ 100000000) {s0 : Nat} (hs0 : s0 ≤ 1199) (ih : ∀ v s o, loF ([] : List Int) l.1 ≤ v → v < hiF ([] : List Int) l.2 → s ≤ 1199 → o.length ≤ 120 → WOk ns ms (([] : List Int) ++ [v]) (dIs (([] : List Int) ++ [v])) s o) (hz : (walkF (l :: ms) ([] : List Int) s0 ([] : Pts)).2.2 ≠ []) : Fn Try.prog 59 (hbN ns s0) [.c (.box 0 3 0 0), vN] (.o (bo1 (walkF (l :: ms) ([] : List Int) s0 ([] : Pts)).1)) (hbO 1000 ns (walkF (l :: ms) ([] : List Int) s0 ([] : Pts)).2.1 (walkF (l :: ms) ([] : List Int) s0 ([] : Pts)).2.2) := by
  obtain ⟨R, hRd⟩ : ∃ R, R = walkF (l :: ms) ([] : List Int) s0 ([] : Pts) := ⟨_, rfl⟩
  rw [← hRd] at hz ⊢
  refine Fn.of_code Try.func59 rfl rfl (hbN_HB _ _) rfl rfl (hbO_HB _ _ _ _) rfl (num_NO _ _ _ _) ?_
  refine ACode.seq ?_
  refine ACode.region ?_
  refine .cons (.asg rfl rfl) ?_
  refine .nil ?_
  refine ks_n ?_
  refine ACode.seq ?_
  refine ACode.seq ?_
  refine ACode.region ?_
  refine .cons (.mv rfl rfl) ?_
  refine .cons (St1.lenN (e := 3) (m := 1) (by' := 8) rfl rfl rfl rfl rfl (by kernel_rfl) rfl) ?_
  refine .cons (.mv rfl rfl) ?_
  refine .cons (.nB rfl rfl rfl) ?_
  refine .cons (.fB 0 0 false rfl rfl rfl) ?_
  refine .cons (.b1 1 rfl rfl rfl rfl rfl rfl) ?_
  refine .cons (.ln 67 2 48 rfl rfl rfl) ?_
  refine .cons (.eq rfl rfl rfl) ?_
  refine .nil ?_
  refine ks_n ?_
  refine .cD rfl (fun h15 => ?_) (fun h15 => ?_)
  · skip
    exact absurd h15 (by have := (List.getElem?_eq_some_iff.1 hl).1; simp at this ⊢; omega)
  · skip
    refine ACode.skip ?_
    refine ks_n ?_
    refine ACode.seq ?_
    refine ACode.region ?_
    refine .cons (.mv rfl rfl) ?_
    refine .cons (.nB rfl rfl rfl) ?_
    refine .cons (.fB 0 0 false rfl rfl rfl) ?_
    refine .cons (.b1 1 rfl rfl rfl rfl rfl rfl) ?_
    refine .cons (.mv rfl rfl) ?_
    refine .cons (St1.lenN (e := 3) (m := 1) (by' := 8) rfl rfl rfl rfl rfl (by kernel_rfl) rfl) ?_
    refine .cons (.xL 67 2 48 rfl rfl rfl rfl rfl (map_at hl)) ?_
    refine .cons (.lN 2 rfl rfl rfl) ?_
    refine .cons (.mv rfl rfl) ?_
    refine .cons (.cP [.tmp 41, .tmp 42] rfl rfl rfl rfl (Fn.nilArg (pre := [ad (rL l)]) (post := []) (sz := 1) (span_fn hR)) rfl) ?_
    refine .cons (.mv rfl rfl) ?_
    refine .cons (.ex rfl rfl rfl) ?_
    refine .cons (.ex rfl rfl rfl) ?_
    refine .cons (.asg rfl rfl) ?_
    refine .cons (.asg rfl rfl) ?_
    refine .nil ?_
    refine ks_n ?_
    refine ACode.seq ?_
    refine ACode.seq ?_
    refine ACode.region ?_
    refine .cons (.mv rfl rfl) ?_
    refine .cons (.asg rfl rfl) ?_
    refine .nil ?_
    refine ks_n ?_
    refine ACode.block ?_
    refine .loopK (fun m σ => (∃ (v : Int) (s : Nat), m = (hiF ([] : List Int) l.2 - v).toNat ∧ (loF ([] : List Int) l.1 ≤ v) ∧ (s ≤ 1199) ∧ (iterW (stepW ms ([] : List Int)) (hiF ([] : List Int) l.2 - v).toNat v s [] = R) ∧ σ = [(.t 0, .v (.o (.c (.box 0 3 0 0)))), (.t 1, .v (.o vN)), (.t 6, .v (.o (nat1 (hiF ([] : List Int) l.2)))), (.t 7, .v (.o (nat1 v))), (.b 0, .b 79 3 [[.d (dLs ns), .d (dI (s : Nat)), .d (.val (.slice none 0 0))]]), (.u 0, .u)]) ∨ (∃ (v : Int) (s : Nat) (o : Pts), m = (hiF ([] : List Int) l.2 - v).toNat ∧ (loF ([] : List Int) l.1 ≤ v) ∧ (s ≤ 1199) ∧ (o.length ≤ 120) ∧ (o ≠ []) ∧ (iterW (stepW ms ([] : List Int)) (hiF ([] : List Int) l.2 - v).toNat v s o = R) ∧ σ = [(.t 0, .v (.o (.c (.box 0 3 0 0)))), (.t 1, .v (.o vN)), (.t 6, .v (.o (nat1 (hiF ([] : List Int) l.2)))), (.t 7, .v (.o (nat1 v))), (.b 1010, .b 28 1 (dR (o.map rIs))), (.u 1010, .u), (.b 0, .b 79 3 [[.d (dLs ns), .d (dI (s : Nat)), .own 1010 1 (o.length)]]), (.u 0, .u)])) [(0, 0)] (.inl ⟨loF ([] : List Int) l.1, s0, rfl, (by omega), hs0, (by rw [hRd]; rfl), rfl⟩) ⟨ks rfl (.c .bx), ks rfl .dt, ks rfl .dt, ks rfl .dt, kb 0 rfl (.cons (.cons .dt (.cons .dt (.cons .dt Ctos.nil))) .nil), trivial⟩ ?_
    rintro m σ (⟨v, s, hm0, h1, hs, hE, rfl⟩ | ⟨v, s, o, hm0, h1, hs, ho, hno, hE, rfl⟩)
    · skip
      refine ACode.seq ?_
      refine ACode.seq ?_
      refine ACode.region ?_
      refine .cons (.mv rfl rfl) ?_
      refine .cons (.mv rfl rfl) ?_
      refine .cons (.ls rfl rfl rfl) ?_
      refine .nil ?_
      refine ks_n ?_
      refine .cD rfl (fun h49 => ?_) (fun h49 => ?_)
      · skip
        refine ACode.skip ?_
        refine ks_n ?_
        refine ACode.seq ?_
        refine ACode.block ?_
        refine ACode.seq ?_
        refine ACode.region ?_
        refine .cons (.mv rfl rfl) ?_
        refine .cons (.nB rfl rfl rfl) ?_
        refine .cons (.fB 1 0 false rfl rfl rfl) ?_
        refine .cons (.b1 1 rfl rfl rfl rfl rfl rfl) ?_
        refine .cons (.pl rfl rfl rfl) ?_
        refine .cons (.nB rfl rfl rfl) ?_
        refine .cons (.fB 1 0 false rfl rfl rfl) ?_
        refine .cons (.sT 1 false rfl rfl rfl rfl rfl rfl rfl) ?_
        refine .nil ?_
        refine ks_n ?_
        refine ACode.seq ?_
        by_cases hsp : (walkF ms (([] : List Int) ++ [v]) (s + 1) []).2.2 = []
        · skip
          have hzz := hsp
          refine .keep [(.t 0, .v (.o (.c (.box 0 3 0 0)))), (.t 1, .v (.o vN)), (.t 6, .v (.o (nat1 (hiF ([] : List Int) l.2)))), (.t 7, .v (.o (nat1 v))), (.b 0, .b 79 3 [[.d (dLs ns), .d (dI ((s + 1) : Nat)), .d (.val (.slice none 0 0))]]), (.u 0, .u)] [(0, 0)] ⟨ks rfl (.c .bx), ks rfl .dt, ks rfl .dt, ks rfl .dt, kb 0 rfl (.cons (.cons .dt (.cons .dt (.cons .dt Ctos.nil))) .nil), trivial⟩ ?_
          refine ACode.region ?_
          refine .cons (.mv rfl rfl) ?_
          refine .cons (.nB rfl rfl rfl) ?_
          refine .cons (.fB 1 0 false rfl rfl rfl) ?_
          refine .cons (.b1 1 rfl rfl rfl rfl rfl rfl) ?_
          refine .cons (.pl rfl rfl rfl) ?_
          refine .cons (.gt rfl rfl rfl) ?_
          refine .cons (.mv rfl rfl) ?_
          refine .cD 65 rfl (fun g65 => ?_) (fun g65 => ?_)
          · skip
            exact absurd (by rw [← hE, iterW_no h49 (r := (false, s + 1, [])) (if_pos (by omega)) rfl]) hz
          · skip
            have hstep : stepW ms ([] : List Int) v s [] = walkF ms (([] : List Int) ++ [v]) (s + 1) [] := if_neg (by omega)
            have ihv := ih v (s + 1) [] h1 h49 (by omega) (by simp)
            refine .cons (.gT rfl rfl rfl (.mv rfl rfl)) ?_
            refine .cons (.gT rfl rfl rfl (.mv rfl rfl)) ?_
            refine .cons (.gT rfl rfl rfl (.cP [.tmp 67] rfl rfl rfl rfl (clone_nilN) rfl)) ?_
            refine .cons (.gT rfl rfl rfl (.mv rfl rfl)) ?_
            refine .cons (.gT rfl rfl rfl (.li 3 0 0 [.tmp 69] rfl rfl rfl rfl rfl rfl)) ?_
            refine .cons (.gT rfl rfl rfl (St1.appND (e := 3) (sz := 0) (by' := 8) rfl rfl rfl rfl rfl (by kernel_rfl) rfl rfl rfl (by simp))) ?_
            refine .cons (.gT rfl rfl rfl (.cO [.tmp 66, .tmp 71] [(0, 0)] rfl rfl rfl rfl (ihv.nn rfl hzz) rfl ⟨rfl, trivial⟩ (hbN_flat _ _) (hbN_flat _ _) (hbN_HB _ _) outS_one)) ?_
            refine .cons (.gT rfl rfl rfl (.nt rfl rfl)) ?_
            refine .cons (.pF rfl rfl rfl) ?_
            refine .nil ?_
            refine ks_n ?_
            refine ACode.condT rfl (fun h74 => ?_) (fun h74 => ?_)
            · try simp only [List.length_map, decide_eq_true_eq, decide_eq_false_iff_not, Bool.not_eq_true', Bool.not_eq_false', Bool.not_eq_true, Bool.not_eq_false] at h74
              exact absurd (by rw [← hE, iterW_no h49 hstep h74]; exact hzz) hz
            · try simp only [List.length_map, decide_eq_true_eq, decide_eq_false_iff_not, Bool.not_eq_true', Bool.not_eq_false', Bool.not_eq_true, Bool.not_eq_false] at h74
              obtain ⟨g, hg, hst⟩ := walkF_stp ms (([] : List Int) ++ [v]) (s + 1) [] (by omega) (by simp)
              obtain ⟨q1, q2⟩ := hst.ok.1 h74
              obtain ⟨q3, q4⟩ := hst.st h74
              have q5 := congrArg List.length q4
              rw [List.length_append] at q5
              simp only [List.length_nil] at q5 q2
              refine ACode.skip ?_
              refine kb_n ?_
              refine ks_n ?_
              refine ACode.region ?_
              refine .cons (.mv rfl rfl) ?_
              refine .cons (.pl rfl rfl rfl) ?_
              refine .cons (.asg rfl rfl) ?_
              refine .nil ?_
              refine kl_k [(0, 0)] (.inl ⟨v + 1, (walkF ms (([] : List Int) ++ [v]) (s + 1) []).2.1, rfl, by omega, by omega, by rw [← hE, iterW_yes h49 hstep h74, hzz], rfl⟩) ⟨ks rfl (.c .bx), ks rfl .dt, ks rfl .dt, ks rfl .dt, kb 0 rfl (.cons (.cons .dt (.cons .dt (.cons .dt Ctos.nil))) .nil), trivial⟩
        · skip
          have hzz := hsp
          refine .keep [(.t 0, .v (.o (.c (.box 0 3 0 0)))), (.t 1, .v (.o vN)), (.t 6, .v (.o (nat1 (hiF ([] : List Int) l.2)))), (.t 7, .v (.o (nat1 v))), (.b 0, .b 79 3 [[.d (dLs ns), .d (dI ((s + 1) : Nat)), .d (.val (.slice none 0 0))]]), (.u 0, .u)] [(0, 0)] ⟨ks rfl (.c .bx), ks rfl .dt, ks rfl .dt, ks rfl .dt, kb 0 rfl (.cons (.cons .dt (.cons .dt (.cons .dt Ctos.nil))) .nil), trivial⟩ ?_
          refine ACode.region ?_
          refine .cons (.mv rfl rfl) ?_
          refine .cons (.nB rfl rfl rfl) ?_
          refine .cons (.fB 1 0 false rfl rfl rfl) ?_
          refine .cons (.b1 1 rfl rfl rfl rfl rfl rfl) ?_
          refine .cons (.pl rfl rfl rfl) ?_
          refine .cons (.gt rfl rfl rfl) ?_
          refine .cons (.mv rfl rfl) ?_
          refine .cD 65 rfl (fun g65 => ?_) (fun g65 => ?_)
          · skip
            exact absurd (by rw [← hE, iterW_no h49 (r := (false, s + 1, [])) (if_pos (by omega)) rfl]) hz
          · skip
            have hstep : stepW ms ([] : List Int) v s [] = walkF ms (([] : List Int) ++ [v]) (s + 1) [] := if_neg (by omega)
            have ihv := ih v (s + 1) [] h1 h49 (by omega) (by simp)
            refine .cons (.gT rfl rfl rfl (.mv rfl rfl)) ?_
            refine .cons (.gT rfl rfl rfl (.mv rfl rfl)) ?_
            refine .cons (.gT rfl rfl rfl (.cP [.tmp 67] rfl rfl rfl rfl (clone_nilN) rfl)) ?_
            refine .cons (.gT rfl rfl rfl (.mv rfl rfl)) ?_
            refine .cons (.gT rfl rfl rfl (.li 3 0 0 [.tmp 69] rfl rfl rfl rfl rfl rfl)) ?_
            refine .cons (.gT rfl rfl rfl (St1.appND (e := 3) (sz := 0) (by' := 8) rfl rfl rfl rfl rfl (by kernel_rfl) rfl rfl rfl (by simp))) ?_
            refine .cons (.gT rfl rfl rfl (.cO [.tmp 66, .tmp 71] [(0, 0), (1000, 1072)] rfl rfl rfl rfl (ihv.no rfl hzz) rfl ⟨rfl, trivial⟩ (hbN_flat _ _) (hbO_flat3 _ _ _) (hbO_HB _ _ _ _) outS_O)) ?_
            refine .cons (.gT rfl rfl rfl (.nt rfl rfl)) ?_
            refine .cons (.pF rfl rfl rfl) ?_
            refine .nil ?_
            refine ks_n ?_
            refine ACode.condT rfl (fun h74 => ?_) (fun h74 => ?_)
            · try simp only [List.length_map, decide_eq_true_eq, decide_eq_false_iff_not, Bool.not_eq_true', Bool.not_eq_false', Bool.not_eq_true, Bool.not_eq_false] at h74
              obtain rfl : R = walkF ms (([] : List Int) ++ [v]) (s + 1) [] := by rw [← hE, iterW_no h49 hstep h74]
              refine ACode.seq ?_
              refine ACode.region ?_
              refine .cons (.asg rfl rfl) ?_
              refine .nil ?_
              refine ks_n ?_
              refine ACode.ret ?_
              refine kb_r ?_
              refine ks_r ?_
              refine kl_r ?_
              refine kb_r ?_
              refine ks_r ?_
              refine kf_wret [(.t 4, .v (.o (bo1 (walkF ms (([] : List Int) ++ [v]) (s + 1) []).1))), (.b 0, .b 79 3 ([[.d (dLs ns), .d (dI ((walkF ms (([] : List Int) ++ [v]) (s + 1) []).2.1 : Nat)), .own 1000 1 ((walkF ms (([] : List Int) ++ [v]) (s + 1) []).2.2).length]])), (.u 0, .u), (.b 1000, .b 28 1 (dR (((walkF ms (([] : List Int) ++ [v]) (s + 1) []).2.2).map rIs))), (.u 1000, .u)] (Wk.keep [(0, 0), (1000, 1072)] rfl rfl ⟨ks rfl (.dt (by first | rfl | exact congrArg (fun b => V.o (bo1 b)) h74.symm)), kb 0 rfl (.cons (.cons .dt (.cons .dt (.cons .ow .nil))) .nil), kb 1072 rfl (.dt rfl), trivial⟩) rfl ?_ (two_box rfl rfl)
              rfl
            · try simp only [List.length_map, decide_eq_true_eq, decide_eq_false_iff_not, Bool.not_eq_true', Bool.not_eq_false', Bool.not_eq_true, Bool.not_eq_false] at h74
              obtain ⟨g, hg, hst⟩ := walkF_stp ms (([] : List Int) ++ [v]) (s + 1) [] (by omega) (by simp)
              obtain ⟨q1, q2⟩ := hst.ok.1 h74
              obtain ⟨q3, q4⟩ := hst.st h74
              have q5 := congrArg List.length q4
              rw [List.length_append] at q5
              simp only [List.length_nil] at q5 q2
              refine ACode.skip ?_
              refine kb_n ?_
              refine ks_n ?_
              refine ACode.region ?_
              refine .cons (.mv rfl rfl) ?_
              refine .cons (.pl rfl rfl rfl) ?_
              refine .cons (.asg rfl rfl) ?_
              refine .nil ?_
              refine kl_k [(0, 0), (1010, 1072)] (.inr ⟨v + 1, (walkF ms (([] : List Int) ++ [v]) (s + 1) []).2.1, (walkF ms (([] : List Int) ++ [v]) (s + 1) []).2.2, rfl, by omega, by omega, by omega, hzz, by rw [← hE, iterW_yes h49 hstep h74], rfl⟩) ⟨ks rfl (.c .bx), ks rfl .dt, ks rfl .dt, ks rfl .dt, kb 1072 rfl (.dt rfl), kb 0 rfl (.cons (.cons .dt (.cons .dt (.cons .ow Ctos.nil))) .nil), trivial⟩
      · skip
        exact absurd (by rw [← hE, iterW_ge h49]) hz
    · skip
      refine ACode.seq ?_
      refine ACode.seq ?_
      refine ACode.region ?_
      refine .cons (.mv rfl rfl) ?_
      refine .cons (.mv rfl rfl) ?_
      refine .cons (.ls rfl rfl rfl) ?_
      refine .nil ?_
      refine ks_n ?_
      refine .cD rfl (fun h49 => ?_) (fun h49 => ?_)
      · skip
        refine ACode.skip ?_
        refine ks_n ?_
        refine ACode.seq ?_
        refine ACode.block ?_
        refine ACode.seq ?_
        refine ACode.region ?_
        refine .cons (.mv rfl rfl) ?_
        refine .cons (.nB rfl rfl rfl) ?_
        refine .cons (.fB 1 0 false rfl rfl rfl) ?_
        refine .cons (.b1 1 rfl rfl rfl rfl rfl rfl) ?_
        refine .cons (.pl rfl rfl rfl) ?_
        refine .cons (.nB rfl rfl rfl) ?_
        refine .cons (.fB 1 0 false rfl rfl rfl) ?_
        refine .cons (.sT 1 false rfl rfl rfl rfl rfl rfl rfl) ?_
        refine .nil ?_
        refine ks_n ?_
        refine ACode.seq ?_
        refine .keep [(.t 0, .v (.o (.c (.box 0 3 0 0)))), (.t 1, .v (.o vN)), (.t 6, .v (.o (nat1 (hiF ([] : List Int) l.2)))), (.t 7, .v (.o (nat1 v))), (.b 1690, .b 28 1 (dR (o.map rIs))), (.u 1690, .u), (.b 0, .b 79 3 [[.d (dLs ns), .d (dI ((s + 1) : Nat)), .own 1690 1 (o.length)]]), (.u 0, .u)] [(0, 0), (1690, 1010)] ⟨ks rfl (.c .bx), ks rfl .dt, ks rfl .dt, ks rfl .dt, kb 1010 rfl (.dt rfl), kb 0 rfl (.cons (.cons .dt (.cons .dt (.cons .ow Ctos.nil))) .nil), trivial⟩ ?_
        refine ACode.region ?_
        refine .cons (.mv rfl rfl) ?_
        refine .cons (.nB rfl rfl rfl) ?_
        refine .cons (.fB 1 0 false rfl rfl rfl) ?_
        refine .cons (.b1 1 rfl rfl rfl rfl rfl rfl) ?_
        refine .cons (.pl rfl rfl rfl) ?_
        refine .cons (.gt rfl rfl rfl) ?_
        refine .cons (.mv rfl rfl) ?_
        refine .cD 65 rfl (fun g65 => ?_) (fun g65 => ?_)
        · skip
          have hstep : stepW ms ([] : List Int) v s o = (false, s + 1, o) := if_pos (by omega)
          obtain rfl : R = (false, s + 1, o) := by rw [← hE, iterW_no h49 hstep rfl]
          refine .cons (.gF rfl rfl rfl) ?_
          refine .cons (.gF rfl rfl rfl) ?_
          refine .cons (.gF rfl rfl rfl) ?_
          refine .cons (.gF rfl rfl rfl) ?_
          refine .cons (.gF rfl rfl rfl) ?_
          refine .cons (.gF rfl rfl rfl) ?_
          refine .cons (.gF rfl rfl rfl) ?_
          refine .cons (.gF rfl rfl rfl) ?_
          refine .cons (.pT rfl rfl rfl) ?_
          refine .nil ?_
          refine ks_n ?_
          refine ACode.condT rfl (fun _ => ?_) (fun h => by first | (cases h; done) | (simp [*] at h; done) | (exfalso; simp_all; done))
          refine ACode.seq ?_
          refine ACode.region ?_
          refine .cons (.asg rfl rfl) ?_
          refine .nil ?_
          refine ks_n ?_
          refine ACode.ret ?_
          refine kb_r ?_
          refine ks_r ?_
          refine kl_r ?_
          refine kb_r ?_
          refine ks_r ?_
          refine kf_wret [(.t 4, .v (.o (bo1 ((false, s + 1, o) : Bool × Nat × Pts).1))), (.b 0, .b 79 3 ([[.d (dLs ns), .d (dI (((false, s + 1, o) : Bool × Nat × Pts).2.1 : Nat)), .own 1000 1 (((false, s + 1, o) : Bool × Nat × Pts).2.2).length]])), (.u 0, .u), (.b 1000, .b 28 1 (dR ((((false, s + 1, o) : Bool × Nat × Pts).2.2).map rIs))), (.u 1000, .u)] (Wk.keep [(0, 0), (1000, 1690)] rfl rfl ⟨ks rfl (.dt (by first | rfl | exact congrArg (fun b => V.o (bo1 b)) h74.symm)), kb 0 rfl (.cons (.cons .dt (.cons .dt (.cons .ow .nil))) .nil), kb 1690 rfl (.dt rfl), trivial⟩) rfl ?_ (two_box rfl rfl)
          rfl
        · skip
          have hstep : stepW ms ([] : List Int) v s o = walkF ms (([] : List Int) ++ [v]) (s + 1) o := if_neg (by omega)
          have ihv := ih v (s + 1) o h1 h49 (by omega) (by omega)
          refine .cons (.gT rfl rfl rfl (.mv rfl rfl)) ?_
          refine .cons (.gT rfl rfl rfl (.mv rfl rfl)) ?_
          refine .cons (.gT rfl rfl rfl (.cP [.tmp 67] rfl rfl rfl rfl (clone_nilN) rfl)) ?_
          refine .cons (.gT rfl rfl rfl (.mv rfl rfl)) ?_
          refine .cons (.gT rfl rfl rfl (.li 3 0 0 [.tmp 69] rfl rfl rfl rfl rfl rfl)) ?_
          refine .cons (.gT rfl rfl rfl (St1.appND (e := 3) (sz := 0) (by' := 8) rfl rfl rfl rfl rfl (by kernel_rfl) rfl rfl rfl (by simp))) ?_
          refine .cons (.gT rfl rfl rfl (.cO [.tmp 66, .tmp 71] [(0, 0), (1, 1690), (1000, 1072)] rfl rfl rfl rfl (ihv.oo hno) rfl (hbIn_O rfl rfl) (hbO_flat1 _ _ _) (hbO_flat3 _ _ _) (hbO_HB _ _ _ _) outS_O)) ?_
          refine .cons (.gT rfl rfl rfl (.nt rfl rfl)) ?_
          refine .cons (.pF rfl rfl rfl) ?_
          refine .nil ?_
          refine ks_n ?_
          refine ACode.condT rfl (fun h74 => ?_) (fun h74 => ?_)
          · try simp only [List.length_map, decide_eq_true_eq, decide_eq_false_iff_not, Bool.not_eq_true', Bool.not_eq_false', Bool.not_eq_true, Bool.not_eq_false] at h74
            obtain rfl : R = walkF ms (([] : List Int) ++ [v]) (s + 1) o := by rw [← hE, iterW_no h49 hstep h74]
            refine ACode.seq ?_
            refine ACode.region ?_
            refine .cons (.asg rfl rfl) ?_
            refine .nil ?_
            refine ks_n ?_
            refine ACode.ret ?_
            refine kb_r ?_
            refine ks_r ?_
            refine kl_r ?_
            refine kb_r ?_
            refine ks_r ?_
            refine kf_wret [(.t 4, .v (.o (bo1 (walkF ms (([] : List Int) ++ [v]) (s + 1) o).1))), (.b 0, .b 79 3 ([[.d (dLs ns), .d (dI ((walkF ms (([] : List Int) ++ [v]) (s + 1) o).2.1 : Nat)), .own 1000 1 ((walkF ms (([] : List Int) ++ [v]) (s + 1) o).2.2).length]])), (.u 0, .u), (.b 1000, .b 28 1 (dR (((walkF ms (([] : List Int) ++ [v]) (s + 1) o).2.2).map rIs))), (.u 1000, .u)] (Wk.keep [(0, 0), (1000, 1072)] rfl rfl ⟨ks rfl (.dt (by first | rfl | exact congrArg (fun b => V.o (bo1 b)) h74.symm)), kb 0 rfl (.cons (.cons .dt (.cons .dt (.cons .ow .nil))) .nil), kb 1072 rfl (.dt rfl), trivial⟩) rfl ?_ (two_box rfl rfl)
            rfl
          · try simp only [List.length_map, decide_eq_true_eq, decide_eq_false_iff_not, Bool.not_eq_true', Bool.not_eq_false', Bool.not_eq_true, Bool.not_eq_false] at h74
            obtain ⟨g, hg, hst⟩ := walkF_stp ms (([] : List Int) ++ [v]) (s + 1) o (by omega) (by omega)
            obtain ⟨q1, q2⟩ := hst.ok.1 h74
            obtain ⟨q3, q4⟩ := hst.st h74
            have q5 := congrArg List.length q4
            rw [List.length_append] at q5
            skip
            refine ACode.skip ?_
            refine kb_n ?_
            refine ks_n ?_
            refine ACode.region ?_
            refine .cons (.mv rfl rfl) ?_
            refine .cons (.pl rfl rfl rfl) ?_
            refine .cons (.asg rfl rfl) ?_
            refine .nil ?_
            refine kl_k [(0, 0), (1010, 1072)] (.inr ⟨v + 1, (walkF ms (([] : List Int) ++ [v]) (s + 1) o).2.1, (walkF ms (([] : List Int) ++ [v]) (s + 1) o).2.2, rfl, by omega, by omega, by omega, by obtain ⟨z, hz2⟩ := walkF_grow ms (([] : List Int) ++ [v]) (s + 1) o; rw [hz2]; exact fun e => hno (List.append_eq_nil_iff.1 e).1, by rw [← hE, iterW_yes h49 hstep h74], rfl⟩) ⟨ks rfl (.c .bx), ks rfl .dt, ks rfl .dt, ks rfl .dt, kb 1072 rfl (.dt rfl), kb 0 rfl (.cons (.cons .dt (.cons .dt (.cons .ow Ctos.nil))) .nil), trivial⟩
      · skip
        obtain rfl : R = (true, s, o) := by rw [← hE, iterW_ge h49]
        refine ACode.exit ?_
        refine ks_e ?_
        refine kl_e ?_
        refine kb_hit ?_
        refine ks_n ?_
        refine ACode.seq ?_
        refine ACode.region ?_
        refine .cons (.asg rfl rfl) ?_
        refine .nil ?_
        refine ks_n ?_
        refine ACode.ret ?_
        refine kf_wret [(.t 4, .v (.o (bo1 ((true, s, o) : Bool × Nat × Pts).1))), (.b 0, .b 79 3 ([[.d (dLs ns), .d (dI (((true, s, o) : Bool × Nat × Pts).2.1 : Nat)), .own 1000 1 (((true, s, o) : Bool × Nat × Pts).2.2).length]])), (.u 0, .u), (.b 1000, .b 28 1 (dR ((((true, s, o) : Bool × Nat × Pts).2.2).map rIs))), (.u 1000, .u)] (Wk.keep [(0, 0), (1000, 1010)] rfl rfl ⟨ks rfl (.dt (by first | rfl | exact congrArg (fun b => V.o (bo1 b)) h74.symm)), kb 0 rfl (.cons (.cons .dt (.cons .dt (.cons .ow .nil))) .nil), kb 1010 rfl (.dt rfl), trivial⟩) rfl ?_ (two_box rfl rfl)
        rfl

end Go.Proofs.Ytgcpdpbapgkdjaa

/- NestPoints of the reference; condition: small nests. -/
namespace Go.Proofs.Ytgcpdpbapgkdjaa
set_option linter.unusedVariables false
set_option linter.unusedSimpArgs false
open Go.RowKit

theorem npR_no {ns : List Lp} (h : okP ns = false) : npR ns = [] := if_neg (by rw [h]; simp)
theorem np_no1 {ns : List Lp} (h : 1200 < workF ns [] 1200) : okP ns = false := by
  have h1 := workF_spec ns [] 1200 (by omega)
  have h2 : ¬ nodesG ns [] ≤ 1200 := fun hc => by rw [h1.1 (by omega)] at h; omega
  rw [okP, decide_eq_false h2, Bool.false_and, Bool.and_false]
theorem np_no2 {ns : List Lp} (h : 120 < (ptsF ns [] []).length) : okP ns = false := by
  have h1 := (ptsF_spec ns [] [] (by simp)).leq
  have h2 : ¬ (ptsG ns []).length ≤ 120 := fun hc => by have := h1.2 (by simpa using hc); omega
  rw [okP, decide_eq_false h2, Bool.and_false, Bool.and_false]
theorem np_yes {ns : List Lp} (hv : nsV ns = true) (hw : ¬ 1200 < workF ns [] 1200) (hp : ¬ 120 < (ptsF ns [] []).length) : okP ns = true ∧ npR ns = ptsF ns [] [] := by
  have h1 := workF_spec ns [] 1200 (by omega)
  have h2 := ptsF_spec ns [] [] (by simp)
  have h3 : (ptsG ns []).length ≤ 120 := by have := h2.leq.1 (by omega); simpa using this
  have h4 : nodesG ns [] ≤ 1200 := by
    by_cases hc : nodesG ns [] ≤ 1200
    · exact hc
    · exact absurd (by rw [h1.2 (by omega)]; omega) hw
  have h5 : okP ns = true := okP_iff.2 ⟨hv, h4, h3⟩
  exact ⟨h5, by rw [npR, if_pos h5, h2.all (by simpa using h3)]; simp⟩

set_option maxRecDepth 100000 in
set_option maxHeartbeats 1600000 in
theorem specNestPts_fn (ns : List Lp) (hs : smN ns) : Fn Try.prog 29 [] [vD (dLs ns)] (.tup [vD (dPs (npR ns)), bo1 (okP ns)]) [] := by
  refine Fn.code0 Try.func29 rfl rfl rfl rfl ?_
  refine ACode.seq ?_
  refine ACode.region ?_
  refine .cons (.asg rfl rfl) ?_
  refine .cons (.asg rfl rfl) ?_
  refine .nil ?_
  refine ks_n ?_
  refine ACode.seq ?_
  refine ACode.seq ?_
  refine ACode.region ?_
  refine .cons (.mv rfl rfl) ?_
  refine .cons (.cP [.tmp 5] rfl rfl rfl rfl (specNestV_fn ns hs) rfl) ?_
  refine .cons (.nt rfl rfl) ?_
  refine .cons (.mv rfl rfl) ?_
  refine AOps.cases 8 _ rfl (fun g8 => ?_) (fun g8 => ?_)
  · try simp only [List.length_map, decide_eq_true_eq, decide_eq_false_iff_not, Bool.not_eq_true', Bool.not_eq_false', Bool.not_eq_true, Bool.not_eq_false] at g8
    refine .cons (.gF rfl rfl rfl) ?_
    refine .cons (.gF rfl rfl rfl) ?_
    refine .cons (.gF rfl rfl rfl) ?_
    refine .cons (.pT rfl rfl rfl) ?_
    refine .nil ?_
    refine ks_n ?_
    refine ACode.condT rfl (fun _ => ?_) (fun h => by first | (cases h; done) | (simp [*] at h; done) | (exfalso; simp_all; done))
    refine ACode.seq ?_
    have hO : okP ns = false := by first | (rw [okP, g8]; rfl) | exact np_no1 h12
    have hN := npR_no hO
    refine ACode.region ?_
    refine .cons (St1.lit0 (k' := 113) (e := 28) (sz := 1) (b := true) rfl rfl rfl rfl (by kernel_rfl) rfl rfl) ?_
    refine .cons (.asg rfl rfl) ?_
    refine .cons (.asg rfl rfl) ?_
    refine .nil ?_
    refine ks_n ?_
    refine ACode.ret ?_
    refine ks_r ?_
    refine kf_wret [(.t 2, .v (.o (vD (dPs (npR ns))))), (.t 3, .v (.o (bo1 (okP ns))))] (Wk.keep [] rfl rfl ⟨ks rfl (.c (.fz rfl (by first | (rw [hN]; done) | (rw [hN]; rfl)) (by rw [hN]; simp) (by first | (simp; done) | omega))), ks rfl (.dt (by rw [hO])), trivial⟩) rfl ?_ nobox
    rfl
  · try simp only [List.length_map, decide_eq_true_eq, decide_eq_false_iff_not, Bool.not_eq_true', Bool.not_eq_false', Bool.not_eq_true, Bool.not_eq_false] at g8
    refine .cons (.gT rfl rfl rfl (.mv rfl rfl)) ?_
    refine .cons (.gT rfl rfl rfl (.cP [.tmp 9, .const (.slice none 0 0), .const (.int .i64 (1200))] rfl rfl rfl rfl (Fn.nilArg (pre := [vD (dLs ns)]) (post := [nat1 1200]) (sz := 1) (l2Work_fn g8 ns [] 1200 rfl (by simp) PB.nil (by omega) (by omega))) rfl)) ?_
    refine .cons (.gT rfl rfl rfl (.gt rfl rfl rfl)) ?_
    refine .cons (.pF rfl rfl rfl) ?_
    refine .nil ?_
    refine ks_n ?_
    refine ACode.condT rfl (fun h12 => ?_) (fun h12 => ?_)
    · try simp only [List.length_map, decide_eq_true_eq, decide_eq_false_iff_not, Bool.not_eq_true', Bool.not_eq_false', Bool.not_eq_true, Bool.not_eq_false] at h12
      refine ACode.seq ?_
      have hO : okP ns = false := by first | (rw [okP, g8]; rfl) | exact np_no1 h12
      have hN := npR_no hO
      refine ACode.region ?_
      refine .cons (St1.lit0 (k' := 113) (e := 28) (sz := 1) (b := true) rfl rfl rfl rfl (by kernel_rfl) rfl rfl) ?_
      refine .cons (.asg rfl rfl) ?_
      refine .cons (.asg rfl rfl) ?_
      refine .nil ?_
      refine ks_n ?_
      refine ACode.ret ?_
      refine ks_r ?_
      refine kf_wret [(.t 2, .v (.o (vD (dPs (npR ns))))), (.t 3, .v (.o (bo1 (okP ns))))] (Wk.keep [] rfl rfl ⟨ks rfl (.c (.fz rfl (by first | (rw [hN]; done) | (rw [hN]; rfl)) (by rw [hN]; simp) (by first | (simp; done) | omega))), ks rfl (.dt (by rw [hO])), trivial⟩) rfl ?_ nobox
      rfl
    · try simp only [List.length_map, decide_eq_true_eq, decide_eq_false_iff_not, Bool.not_eq_true', Bool.not_eq_false', Bool.not_eq_true, Bool.not_eq_false] at h12
      refine ACode.skip ?_
      refine ks_n ?_
      refine ACode.seq ?_
      refine ACode.region ?_
      refine .cons (St1.lit0 (k' := 114) (e := 28) (sz := 1) (b := true) rfl rfl rfl rfl (by kernel_rfl) rfl rfl) ?_
      refine .cons (.mv rfl rfl) ?_
      refine .cons (.cO [.tmp 14, .tmp 15, .const (.slice none 0 0)] [(0, 114), (1000, 116)] rfl rfl rfl rfl (Fn.nilArg (pre := [.c (.own 0 1 0), vD (dLs ns)]) (post := []) (sz := 1) (l2Points_fn g8 ns [] [] rfl (by simp) PB.nil (by simp))) rfl (hbIn_one rfl) (hbPt_flat _ _) (hbPt_flat _ _) (hbPt_HB _ _) outS_one) ?_
      refine .cons (.asg rfl rfl) ?_
      refine .nil ?_
      refine ks_n ?_
      refine ACode.seq ?_
      refine ACode.seq ?_
      refine ACode.region ?_
      refine .cons (.mv rfl rfl) ?_
      refine .cons (.lB 28 1 24 rfl rfl rfl rfl) ?_
      refine .cons (.gt rfl rfl rfl) ?_
      refine .nil ?_
      refine ks_n ?_
      refine .cD rfl (fun h19 => ?_) (fun h19 => ?_)
      · skip
        refine ACode.seq ?_
        have hO : okP ns = false := np_no2 (by omega)
        have hN := npR_no hO
        refine ACode.region ?_
        refine .cons (St1.lit0 (k' := 120) (e := 28) (sz := 1) (b := true) rfl rfl rfl rfl (by kernel_rfl) rfl rfl) ?_
        refine .cons (.asg rfl rfl) ?_
        refine .cons (.asg rfl rfl) ?_
        refine .nil ?_
        refine ks_n ?_
        refine ACode.ret ?_
        refine ks_r ?_
        refine kf_wret [(.t 2, .v (.o (vD (dPs (npR ns))))), (.t 3, .v (.o (bo1 (okP ns))))] (Wk.keep [] rfl rfl ⟨ks rfl (.c (.fz rfl (by first | (rw [hN]; done) | (rw [hN]; rfl)) (by rw [hN]; simp) (by first | (simp; done) | omega))), ks rfl (.dt (by rw [hO])), trivial⟩) rfl ?_ nobox
        rfl
      · skip
        refine ACode.skip ?_
        refine ks_n ?_
        refine ACode.seq ?_
        obtain ⟨hO, hN⟩ := np_yes g8 (by omega) (by omega)
        refine ACode.region ?_
        refine .cons (.mv rfl rfl) ?_
        refine .cons (.asg rfl rfl) ?_
        refine .cons (.asg rfl rfl) ?_
        refine .nil ?_
        refine ks_n ?_
        refine ACode.ret ?_
        refine kf_wret [(.t 2, .v (.o (vD (dPs (npR ns))))), (.t 3, .v (.o (bo1 (okP ns))))] (Wk.keep [] rfl rfl ⟨ks rfl (.c (.fz rfl (by first | (rw [hN]; done) | (rw [hN]; rfl)) (by rw [hN]; simp) (by first | (simp; done) | omega))), ks rfl (.dt (by rw [hO])), trivial⟩) rfl ?_ nobox
        rfl

end Go.Proofs.Ytgcpdpbapgkdjaa

/- NestPoints of the program; condition: small nests. -/
namespace Go.Proofs.Ytgcpdpbapgkdjaa
set_option linter.unusedVariables false
set_option linter.unusedSimpArgs false
open Go.RowKit

theorem walk_ok {ns : List Lp} (hv : nsV ns = true) : ∀ (ms : List Lp) (p : List Int) (s : Nat) (o : Pts), ns.drop p.length = ms → p.length ≤ ns.length → PB p → 0 < p.length → s ≤ 1199 → o.length ≤ 120 → WOk ns ms p (dIs p) s o
  | [], p, s, o, hd, hle, hp, h0, hs, ho => by
    have hl : p.length = ns.length := by have := congrArg List.length hd; rw [List.length_drop] at this; simp at this; omega
    have h4 := (nsV_at hv).1
    refine ⟨fun e h => absurd h (by simp [walkF]), fun e _ => ?_, fun hne => walk_leaf_oo hl h0 (by omega) ho⟩
    subst e
    exact walk_leaf_no hl h0 (by omega)
  | l :: ms, p, s, o, hd, hle, hp, h0, hs, ho => by
    obtain ⟨hl, hd2⟩ := drop_tail hd
    have hlt := (List.getElem?_eq_some_iff.1 hl).1
    have h4 := (nsV_at hv).1
    obtain ⟨hR, hlo, hhi, h10⟩ := node_facts hv hp (by omega) hl
    have ih : ∀ v s o, loF p l.1 ≤ v → v < hiF p l.2 → s ≤ 1199 → o.length ≤ 120 → WOk ns ms (p ++ [v]) (dIs (p ++ [v])) s o := fun v s o a b c d =>
      walk_ok hv ms (p ++ [v]) s o (by rw [snoc_len]; exact hd2) (by rw [snoc_len]; omega) (hp.snoc (by omega)) (by rw [snoc_len]; omega) c d
    refine ⟨fun e h => ?_, fun e h => ?_, fun hne => walk_oo h4 hl hR (by omega) (by omega) h0 hs ho hne ih⟩
    · subst e; exact walk_nn h4 hl hR (by omega) (by omega) h0 hs ih h
    · subst e; exact walk_no h4 hl hR (by omega) (by omega) h0 hs ih h
theorem walk_root {ns : List Lp} (hv : nsV ns = true) : ((walkF ns [] 0 []).2.2 = [] → Fn Try.prog 59 (hbN ns 0) [.c (.box 0 3 0 0), vN] (.o (bo1 (walkF ns [] 0 []).1)) (hbN ns (walkF ns [] 0 []).2.1)) ∧
    ((walkF ns [] 0 []).2.2 ≠ [] → Fn Try.prog 59 (hbN ns 0) [.c (.box 0 3 0 0), vN] (.o (bo1 (walkF ns [] 0 []).1)) (hbO 1000 ns (walkF ns [] 0 []).2.1 (walkF ns [] 0 []).2.2)) := by
  cases ns with
  | nil => exact ⟨fun h => absurd h (by simp [walkF]), fun _ => walk_leaf_noR rfl⟩
  | cons l ms =>
    have h4 := (nsV_at hv).1
    have hl : (l :: ms)[([] : List Int).length]? = some l := rfl
    obtain ⟨hR, hlo, hhi, h10⟩ := node_facts hv PB.nil (by simp) hl
    have ih : ∀ v s o, loF [] l.1 ≤ v → v < hiF [] l.2 → s ≤ 1199 → o.length ≤ 120 → WOk (l :: ms) ms ([] ++ [v]) (dIs ([] ++ [v])) s o := fun v s o a b c d =>
      walk_ok hv ms ([] ++ [v]) s o rfl (by simp) (PB.nil.snoc (by simp at hlo hhi ⊢; omega)) (by simp) c d
    simp only [List.length_nil, Int.pow_zero, Int.mul_one] at hlo hhi
    exact ⟨fun h => walk_nnR h4 hl hR (by omega) (by omega) (by omega) ih h, fun h => walk_noR h4 hl hR (by omega) (by omega) (by omega) ih h⟩
theorem np_walk {ns : List Lp} (hv : nsV ns = true) : okP ns = (walkF ns [] 0 []).1 ∧ ((walkF ns [] 0 []).1 = true → npR ns = (walkF ns [] 0 []).2.2 ∧ npR ns = ptsG ns [] ∧ (npR ns).length ≤ 120) := by
  obtain ⟨g, hg, h⟩ := walkF_stp ns [] 0 [] (by omega) (by simp)
  have hok : okP ns = (walkF ns [] 0 []).1 := by
    rw [Bool.eq_iff_iff, okP_iff, h.ok]
    simp only [hv, true_and, List.length_nil, Nat.zero_add]
    omega
  refine ⟨hok, fun e => ?_⟩
  have h1 := (h.st e).2
  have h2 : npR ns = ptsG ns [] := if_pos (by rw [hok]; exact e)
  exact ⟨by rw [h1, h2]; simp, h2, by rw [h2]; exact (okP_iff.1 (hok.trans e)).2.2⟩

set_option maxRecDepth 100000 in
set_option maxHeartbeats 1600000 in
theorem implNestPts_nn (ns : List Lp) (hs : smN ns) (hW : nsV ns = true → Fn Try.prog 59 (hbN ns 0) [.c (.box 0 3 0 0), vN] (.o (bo1 (walkF ns [] 0 []).1)) (hbN ns (walkF ns [] 0 []).2.1)) (hz : (walkF ns [] 0 []).2.2 = []) : Fn Try.prog 19 [] [vD (dLs ns)] (.tup [vD (dPs (npR ns)), bo1 (okP ns)]) [] := by
  refine Fn.code0 Try.func19 rfl rfl rfl rfl ?_
  refine ACode.seq ?_
  refine ACode.region ?_
  refine .cons (.asg rfl rfl) ?_
  refine .cons (.asg rfl rfl) ?_
  refine .nil ?_
  refine ks_n ?_
  refine ACode.seq ?_
  refine ACode.seq ?_
  refine ACode.region ?_
  refine .cons (.mv rfl rfl) ?_
  refine .cons (.cP [.tmp 5] rfl rfl rfl rfl (implNestV_fn ns hs) rfl) ?_
  refine .cons (.nt rfl rfl) ?_
  refine .nil ?_
  refine ks_n ?_
  refine ACode.condT rfl (fun h7 => ?_) (fun h7 => ?_)
  · try simp only [List.length_map, decide_eq_true_eq, decide_eq_false_iff_not, Bool.not_eq_true', Bool.not_eq_false', Bool.not_eq_true, Bool.not_eq_false] at h7
    refine ACode.seq ?_
    have hO : okP ns = false := by rw [okP, h7]; rfl
    have hN := npR_no hO
    refine ACode.region ?_
    refine .cons (.asg rfl rfl) ?_
    refine .cons (.asg rfl rfl) ?_
    refine .nil ?_
    refine ks_n ?_
    refine ACode.ret ?_
    refine ks_r ?_
    refine kf_wret [(.t 2, .v (.o (vD (dPs (npR ns))))), (.t 3, .v (.o (bo1 (okP ns))))] (Wk.keep [] rfl rfl ⟨ks rfl (.c (Cto.nilE 1 (by rw [hN]; rfl))), ks rfl (.dt (by rw [hO])), trivial⟩) rfl ?_ nobox
    rfl
  · try simp only [List.length_map, decide_eq_true_eq, decide_eq_false_iff_not, Bool.not_eq_true', Bool.not_eq_false', Bool.not_eq_true, Bool.not_eq_false] at h7
    refine ACode.skip ?_
    refine ks_n ?_
    refine ACode.seq ?_
    refine ACode.region ?_
    refine .cons (.mv rfl rfl) ?_
    refine .cons (.bu [(0, .tmp 8)] [(0, 1), (1, 1), (2, 1)] [.slice none 0 0, .int .i64 0, .slice none 0 0] rfl rfl rfl rfl rfl) ?_
    refine .cons (St1.boxB (k' := 110) rfl rfl rfl rfl rfl rfl rfl) ?_
    refine .cons (.asg rfl rfl) ?_
    refine .nil ?_
    refine ks_n ?_
    refine ACode.seq ?_
    refine ACode.seq ?_
    refine ACode.region ?_
    refine .cons (.mv rfl rfl) ?_
    refine .cons (.cO [.tmp 11, .const (.slice none 0 0)] [(0, 110)] rfl rfl rfl rfl (hW h7) rfl ⟨rfl, trivial⟩ (hbN_flat _ _) (hbN_flat _ _) (hbN_HB _ _) outS_one) ?_
    refine .cons (.nt rfl rfl) ?_
    refine .nil ?_
    refine ks_n ?_
    refine ACode.condT rfl (fun h13 => ?_) (fun h13 => ?_)
    · try simp only [List.length_map, decide_eq_true_eq, decide_eq_false_iff_not, Bool.not_eq_true', Bool.not_eq_false', Bool.not_eq_true, Bool.not_eq_false] at h13
      refine ACode.seq ?_
      have hO : okP ns = false := (np_walk h7).1.trans h13
      have hN := npR_no hO
      refine ACode.region ?_
      refine .cons (.asg rfl rfl) ?_
      refine .cons (.asg rfl rfl) ?_
      refine .nil ?_
      refine ks_n ?_
      refine ACode.ret ?_
      refine ks_r ?_
      refine kf_wret [(.t 2, .v (.o (vD (dPs (npR ns))))), (.t 3, .v (.o (bo1 (okP ns))))] (Wk.keep [] rfl rfl ⟨ks rfl (.c (Cto.nilE 1 (by rw [hN]; rfl))), ks rfl (.dt (by rw [hO])), trivial⟩) rfl ?_ nobox
      rfl
    · try simp only [List.length_map, decide_eq_true_eq, decide_eq_false_iff_not, Bool.not_eq_true', Bool.not_eq_false', Bool.not_eq_true, Bool.not_eq_false] at h13
      refine ACode.skip ?_
      refine ks_n ?_
      refine ACode.seq ?_
      have hO : okP ns = true := (np_walk h7).1.trans h13
      obtain ⟨hN, _, hN3⟩ := (np_walk h7).2 h13
      rw [hz] at hN
      refine ACode.region ?_
      refine .cons (.mv rfl rfl) ?_
      refine .cons (.nB rfl rfl rfl) ?_
      refine .cons (.fB 2 0 false rfl rfl rfl) ?_
      refine .cons (.b1 1 rfl rfl rfl rfl rfl rfl) ?_
      refine .cons (.asg rfl rfl) ?_
      refine .cons (.asg rfl rfl) ?_
      refine .nil ?_
      refine ks_n ?_
      refine ACode.ret ?_
      refine kf_wret [(.t 2, .v (.o (vD (dPs (npR ns))))), (.t 3, .v (.o (bo1 (okP ns))))] (Wk.keep [] rfl rfl ⟨ks rfl (.c (Cto.nilE 1 (by rw [hN]; rfl))), ks rfl (.dt (by rw [hO])), trivial⟩) rfl ?_ nobox
      rfl

set_option maxRecDepth 100000 in
set_option maxHeartbeats 1600000 in
theorem implNestPts_no (ns : List Lp) (hs : smN ns) (hW : nsV ns = true → Fn Try.prog 59 (hbN ns 0) [.c (.box 0 3 0 0), vN] (.o (bo1 (walkF ns [] 0 []).1)) (hbO 1000 ns (walkF ns [] 0 []).2.1 (walkF ns [] 0 []).2.2)) : Fn Try.prog 19 [] [vD (dLs ns)] (.tup [vD (dPs (npR ns)), bo1 (okP ns)]) [] := by
  refine Fn.code0 Try.func19 rfl rfl rfl rfl ?_
  refine ACode.seq ?_
  refine ACode.region ?_
  refine .cons (.asg rfl rfl) ?_
  refine .cons (.asg rfl rfl) ?_
  refine .nil ?_
  refine ks_n ?_
  refine ACode.seq ?_
  refine ACode.seq ?_
  refine ACode.region ?_
  refine .cons (.mv rfl rfl) ?_
  refine .cons (.cP [.tmp 5] rfl rfl rfl rfl (implNestV_fn ns hs) rfl) ?_
  refine .cons (.nt rfl rfl) ?_
  refine .nil ?_
  refine ks_n ?_
  refine ACode.condT rfl (fun h7 => ?_) (fun h7 => ?_)
  · try simp only [List.length_map, decide_eq_true_eq, decide_eq_false_iff_not, Bool.not_eq_true', Bool.not_eq_false', Bool.not_eq_true, Bool.not_eq_false] at h7
    refine ACode.seq ?_
    have hO : okP ns = false := by rw [okP, h7]; rfl
    have hN := npR_no hO
    refine ACode.region ?_
    refine .cons (.asg rfl rfl) ?_
    refine .cons (.asg rfl rfl) ?_
    refine .nil ?_
    refine ks_n ?_
    refine ACode.ret ?_
    refine ks_r ?_
    refine kf_wret [(.t 2, .v (.o (vD (dPs (npR ns))))), (.t 3, .v (.o (bo1 (okP ns))))] (Wk.keep [] rfl rfl ⟨ks rfl (.c (Cto.nilE 1 (by rw [hN]; rfl))), ks rfl (.dt (by rw [hO])), trivial⟩) rfl ?_ nobox
    rfl
  · try simp only [List.length_map, decide_eq_true_eq, decide_eq_false_iff_not, Bool.not_eq_true', Bool.not_eq_false', Bool.not_eq_true, Bool.not_eq_false] at h7
    refine ACode.skip ?_
    refine ks_n ?_
    refine ACode.seq ?_
    refine ACode.region ?_
    refine .cons (.mv rfl rfl) ?_
    refine .cons (.bu [(0, .tmp 8)] [(0, 1), (1, 1), (2, 1)] [.slice none 0 0, .int .i64 0, .slice none 0 0] rfl rfl rfl rfl rfl) ?_
    refine .cons (St1.boxB (k' := 110) rfl rfl rfl rfl rfl rfl rfl) ?_
    refine .cons (.asg rfl rfl) ?_
    refine .nil ?_
    refine ks_n ?_
    refine ACode.seq ?_
    refine ACode.seq ?_
    refine ACode.region ?_
    refine .cons (.mv rfl rfl) ?_
    refine .cons (.cO [.tmp 11, .const (.slice none 0 0)] [(0, 110), (1000, 112)] rfl rfl rfl rfl (hW h7) rfl ⟨rfl, trivial⟩ (hbN_flat _ _) (hbO_flat3 _ _ _) (hbO_HB _ _ _ _) outS_O) ?_
    refine .cons (.nt rfl rfl) ?_
    refine .nil ?_
    refine ks_n ?_
    refine ACode.condT rfl (fun h13 => ?_) (fun h13 => ?_)
    · try simp only [List.length_map, decide_eq_true_eq, decide_eq_false_iff_not, Bool.not_eq_true', Bool.not_eq_false', Bool.not_eq_true, Bool.not_eq_false] at h13
      refine ACode.seq ?_
      have hO : okP ns = false := (np_walk h7).1.trans h13
      have hN := npR_no hO
      refine ACode.region ?_
      refine .cons (.asg rfl rfl) ?_
      refine .cons (.asg rfl rfl) ?_
      refine .nil ?_
      refine ks_n ?_
      refine ACode.ret ?_
      refine ks_r ?_
      refine kf_wret [(.t 2, .v (.o (vD (dPs (npR ns))))), (.t 3, .v (.o (bo1 (okP ns))))] (Wk.keep [] rfl rfl ⟨ks rfl (.c (Cto.nilE 1 (by rw [hN]; rfl))), ks rfl (.dt (by rw [hO])), trivial⟩) rfl ?_ nobox
      rfl
    · try simp only [List.length_map, decide_eq_true_eq, decide_eq_false_iff_not, Bool.not_eq_true', Bool.not_eq_false', Bool.not_eq_true, Bool.not_eq_false] at h13
      refine ACode.skip ?_
      refine ks_n ?_
      refine ACode.seq ?_
      have hO : okP ns = true := (np_walk h7).1.trans h13
      obtain ⟨hN, _, hN3⟩ := (np_walk h7).2 h13
      have hN4 : (walkF ns [] 0 []).2.2.length ≤ 120 := by rw [← hN]; exact hN3
      refine ACode.region ?_
      refine .cons (.mv rfl rfl) ?_
      refine .cons (.nB rfl rfl rfl) ?_
      refine .cons (.fB 2 0 false rfl rfl rfl) ?_
      refine .cons (.b1 1 rfl rfl rfl rfl rfl rfl) ?_
      refine .cons (.asg rfl rfl) ?_
      refine .cons (.asg rfl rfl) ?_
      refine .nil ?_
      refine ks_n ?_
      refine ACode.ret ?_
      refine kf_wret [(.t 2, .v (.o (vD (dPs (npR ns))))), (.t 3, .v (.o (bo1 (okP ns))))] (Wk.keep [] rfl rfl ⟨ks rfl (.c (.fz rfl (by rw [hN]) (by rw [hN]; simp) (by omega))), ks rfl (.dt (by rw [hO])), trivial⟩) rfl ?_ nobox
      rfl

theorem implNestPts_fn (ns : List Lp) (hs : smN ns) : Fn Try.prog 19 [] [vD (dLs ns)] (.tup [vD (dPs (npR ns)), bo1 (okP ns)]) [] := by
  by_cases h : (walkF ns [] 0 []).2.2 = []
  · exact implNestPts_nn ns hs (fun hv => (walk_root hv).1 h) h
  · exact implNestPts_no ns hs (fun hv => (walk_root hv).2 h)

end Go.Proofs.Ytgcpdpbapgkdjaa

/- The reader: open; no condition. -/
namespace Go.Proofs.Ytgcpdpbapgkdjaa
set_option linter.unusedVariables false
set_option linter.unusedSimpArgs false
open Go.RowKit

end Go.Proofs.Ytgcpdpbapgkdjaa

/- Draws of nests; condition: bytes. -/
namespace Go.Proofs.Ytgcpdpbapgkdjaa
set_option linter.unusedVariables false
set_option linter.unusedSimpArgs false
open Go.RowKit

theorem okN.mono {k m : Nat} {ns : List Lp} (h : okN k ns) (hm : k ≤ m) : okN m ns := ⟨Nat.le_trans h.1 hm, fun l hl => (h.2 l hl).mono hm⟩

end Go.Proofs.Ytgcpdpbapgkdjaa

/- slices.Compare, impl.LexLess, spec.LexLess: the lexicographic order; condition: what the slices hold. -/
namespace Go.Proofs.Ytgcpdpbapgkdjaa
set_option linter.unusedVariables false
set_option linter.unusedSimpArgs false
open Go.RowKit

end Go.Proofs.Ytgcpdpbapgkdjaa

/- Lists compared; draws of points; condition: small nests. -/
namespace Go.Proofs.Ytgcpdpbapgkdjaa
set_option linter.unusedVariables false
set_option linter.unusedSimpArgs false
open Go.RowKit

theorem npR_len (ns : List Lp) : (npR ns).length ≤ 120 := by
  rw [npR]
  split
  · rename_i h; exact (okP_iff.1 h).2.2
  · simp
theorem npR_mem {ns : List Lp} {x : List Int} (h : x ∈ npR ns) : okP ns = true ∧ x ∈ ptsG ns [] ∧ x.length = ns.length := by
  rw [npR] at h
  split at h
  · rename_i h1; exact ⟨h1, h, (mem_pts.1 h).1⟩
  · cases h
end Go.Proofs.Ytgcpdpbapgkdjaa

/- From a law's contract over data to its run at slices of bytes; condition: what the slices hold. -/
namespace Go.Proofs.Ytgcpdpbapgkdjaa
set_option linter.unusedVariables false
set_option linter.unusedSimpArgs false
open Go.RowKit

/-- A law that answers true, and turns nothing that was there. -/
abbrev Truth (P : Program) (f : FuncId) (vs : Array Value) (w : World) : Prop := Calls P f vs w fun e w' => e = .returned (.bool true) ∧ Below w.heap.size w w'
theorem Fn.truth {P : Program} {f : FuncId} {args : List V1} {vs : List Value} {w : World} {B : Nat → Prop} (h : Fn P f [] args (.o (bo1 true)) []) (hv : Vals (V1r (fun _ => (0, 0)) (Al (lk [])) B w) args vs) : Truth P f vs.toArray w := by
  have hno : ∀ k, ¬ Al (lk []) k := fun k ⟨e, sz, rows, h⟩ => by cases h
  refine (h B (fun _ => (0, 0)) w vs ⟨fun k e sz rows h => (by cases h), fun k l hk => (hno k hk).elim, fun k hk => (hno k hk).elim⟩ hv).mono ?_
  rintro e w' ⟨v, bx', rfl, hp⟩
  have hv : Dr _ w' (.val (.bool true)) v := hp.val
  cases hv
  exact ⟨rfl, hp.os, hp.tape, hp.output, hp.size, fun b hb => hp.old b hb fun k hk => (hno k hk).elim⟩
end Go.Proofs.Ytgcpdpbapgkdjaa

/- Ranges of expressions; condition: small nests. -/
namespace Go.Proofs.Ytgcpdpbapgkdjaa
set_option linter.unusedVariables false
set_option linter.unusedSimpArgs false
open Go.RowKit

def mnQ (a : Aff) (m : Int) : Pts → Int
  | [] => m
  | x :: o => mnQ a (min m (affEval a x)) o
def mxQ (a : Aff) (m : Int) : Pts → Int
  | [] => m
  | x :: o => mxQ a (max m (affEval a x)) o
theorem mnQ_drop {a : Aff} {m : Int} {o : Pts} {i : Nat} {x : List Int} (h : o[i]? = some x) : mnQ a m (o.drop i) = mnQ a (min m (affEval a x)) (o.drop (i + 1)) := by rw [drop_at h]; rfl
theorem mxQ_drop {a : Aff} {m : Int} {o : Pts} {i : Nat} {x : List Int} (h : o[i]? = some x) : mxQ a m (o.drop i) = mxQ a (max m (affEval a x)) (o.drop (i + 1)) := by rw [drop_at h]; rfl
def loQ (a : Aff) : Pts → Int
  | [] => 0
  | x :: o => mnQ a (affEval a x) o
def hiQ (a : Aff) : Pts → Int
  | [] => 0
  | x :: o => mxQ a (affEval a x) o
section
variable {a : Aff} {o : Pts} {x : List Int}
theorem loQ_one (h : o[0]? = some x) : loQ a o = mnQ a (affEval a x) (o.drop 1) := by
  have := drop_at h
  rw [List.drop_zero] at this
  rw [this]; rfl
theorem hiQ_one (h : o[0]? = some x) : hiQ a o = mxQ a (affEval a x) (o.drop 1) := by
  have := drop_at h
  rw [List.drop_zero] at this
  rw [this]; rfl
theorem loQ_zero (h : o[0]? = some x) : loQ a o = mnQ a (affEval a x) (o.drop 0) := by
  rw [loQ_one h, mnQ_drop h, show min (affEval a x) (affEval a x) = affEval a x by omega]
theorem hiQ_zero (h : o[0]? = some x) : hiQ a o = mxQ a (affEval a x) (o.drop 0) := by
  rw [hiQ_one h, mxQ_drop h, show max (affEval a x) (affEval a x) = affEval a x by omega]
end
/-- What SubscriptRange answers. -/
def srV (ns : List Lp) (a : Aff) : Int × Int × Bool :=
  if okP ns = true ∧ (npR ns).length ≠ 0 ∧ affV a = true ∧ affDepth a ≤ ns.length then (loQ a (npR ns), hiQ a (npR ns), true) else (0, 0, false)
theorem npR_pt {ns : List Lp} {x : List Int} (h : x ∈ npR ns) : Small x ∧ x.length ≤ 4 := by
  obtain ⟨h1, h2, h3⟩ := npR_mem h
  have hv := (okP_iff.1 h1).1
  obtain ⟨h4, h5⟩ := mem_pts.1 h2
  have h6 := PB_of_in hv h4 h5 ns.length (Nat.le_refl _)
  rw [← h4, List.take_length] at h6
  have h7 := (nsV_at hv).1
  exact ⟨h6.small (by omega), by omega⟩

end Go.Proofs.Ytgcpdpbapgkdjaa

/- Ranges of expressions over all nests; condition: lists as long as memory lets them be. -/
namespace Go.Proofs.Ytgcpdpbapgkdjaa
set_option linter.unusedVariables false
set_option linter.unusedSimpArgs false
open Go.RowKit

/-- Nests as large as memory lets them be. -/
def bgL (l : Lp) : Prop := l.1.length ≤ 1073741824 ∧ l.2.length ≤ 1073741824 ∧ (∀ a ∈ l.1, a.1.length ≤ 1073741824) ∧ ∀ a ∈ l.2, a.1.length ≤ 1073741824
def bgN (ns : List Lp) : Prop := ns.length ≤ 1073741824 ∧ ∀ l ∈ ns, bgL l
theorem smN_of {ns : List Lp} (h : nsV ns = true) : smN ns := by
  obtain ⟨h1, h2⟩ := nsV_at h
  refine ⟨by omega, fun l hl => ?_⟩
  obtain ⟨i, hi⟩ := List.mem_iff_getElem?.1 hl
  obtain ⟨a, b⟩ := h2 i l hi
  simp only [sideV, bndV, Bool.and_eq_true, List.all_eq_true, decide_eq_true_eq] at a b
  exact ⟨by omega, by omega, fun x hx => by rw [affV_len (a.1.1 x hx).1]; omega, fun x hx => by rw [affV_len (b.1.1 x hx).1]; omega⟩

set_option maxRecDepth 100000 in
set_option maxHeartbeats 1600000 in
theorem implNestV_B (ns : List Lp) (hs : bgN ns) : Fn Try.prog 20 [] [vD (dLs ns)] (.o (bo1 (nsV ns))) [] := by
  have hn := hs.1
  refine Fn.code0 Try.func20 rfl rfl rfl rfl ?_
  refine ACode.seq ?_
  refine ACode.region ?_
  refine .cons (.asg rfl rfl) ?_
  refine .nil ?_
  refine ks_n ?_
  refine ACode.seq ?_
  refine ACode.seq ?_
  refine ACode.region ?_
  refine .cons (.mv rfl rfl) ?_
  refine .cons (.ln 67 2 48 rfl rfl rfl) ?_
  refine .cons (.mv rfl rfl) ?_
  refine .nil ?_
  refine ks_n ?_
  refine ACode.block ?_
  refine .loopK (fun m σ => (∃ i : Nat, m = ns.length - i ∧ (i ≤ ns.length) ∧ (nestG 0 ns = nestG i (ns.drop i)) ∧ σ = [(.t 0, .v (.o (vD (dLs ns)))), (.t 5, .v (.o (vD (dLs ns)))), (.t 6, .v (.o (nat1 (ns.length : Nat)))), (.t 7, .v (.o (nat1 (i : Nat))))])) [] ⟨0, rfl, by omega, by simp, rfl⟩ ⟨ks rfl .dt, ks rfl .dt, ks rfl .dt, ks rfl .dt, trivial⟩ ?_
  rintro m σ ⟨i, hm0, hi, hF, rfl⟩
  refine ACode.seq ?_
  refine ACode.region ?_
  refine .cons (.ls rfl rfl rfl) ?_
  refine .nil ?_
  refine ks_n ?_
  refine ACode.seq ?_
  refine .cD rfl (fun h8 => ?_) (fun h8 => ?_)
  · skip
    obtain ⟨x, hx1⟩ : ∃ x, ns[i]? = some x := ⟨_, List.getElem?_eq_getElem (by omega)⟩
    have hq := hs.2 x (List.mem_of_getElem? hx1)
    refine ACode.skip ?_
    refine ks_n ?_
    refine ACode.seq ?_
    refine ACode.block ?_
    refine ACode.seq ?_
    refine ACode.region ?_
    refine .cons (.mv rfl rfl) ?_
    refine .cons (.xL 67 2 48 rfl rfl rfl rfl rfl) ?_
    refine .cons (.lN 2 rfl rfl rfl) ?_
    refine .cons (.al 104 [.slice none 0 0, .slice none 0 0] rfl rfl rfl) ?_
    refine .cons (.asg rfl rfl) ?_
    refine .cons (.sT 2 true rfl rfl rfl rfl rfl rfl rfl) ?_
    refine .nil ?_
    refine ks_n ?_
    refine ACode.seq ?_
    refine ACode.region ?_
    refine .cons (.fB 0 0 false rfl rfl rfl) ?_
    refine .cons (.b1 1 rfl rfl rfl rfl rfl rfl) ?_
    refine .cons (.mv rfl rfl) ?_
    refine .cons (.cP [.tmp 13, .tmp 14] rfl rfl rfl rfl (boundsOk_fn i _ (Nat.le_trans hq.1 (by omega))) rfl) ?_
    refine .cons (.nt rfl rfl) ?_
    refine .cons (.mv rfl rfl) ?_
    refine AOps.cases 17 _ rfl (fun g17 => ?_) (fun g17 => ?_)
    · try simp only [List.length_map, decide_eq_true_eq, decide_eq_false_iff_not, Bool.not_eq_true', Bool.not_eq_false', Bool.not_eq_true, Bool.not_eq_false] at g17
      refine .cons (.gF rfl rfl rfl) ?_
      refine .cons (.gF rfl rfl rfl) ?_
      refine .cons (.gF rfl rfl rfl) ?_
      refine .cons (.gF rfl rfl rfl) ?_
      refine .cons (.gF rfl rfl rfl) ?_
      refine .cons (.pT rfl rfl rfl) ?_
      refine .nil ?_
      refine ks_n ?_
      refine ACode.condT rfl (fun _ => ?_) (fun h => by first | (cases h; done) | (simp [*] at h; done) | (exfalso; simp_all; done))
      refine ACode.seq ?_
      have g : (sideV i x.1 && sideV i x.2) = false := by simp [*]
      refine ACode.region ?_
      refine .cons (.asg rfl rfl) ?_
      refine .nil ?_
      refine ks_n ?_
      refine ACode.ret ?_
      refine kb_r ?_
      refine ks_r ?_
      refine kl_r ?_
      refine kb_r ?_
      refine ks_r ?_
      refine kf_ret rfl ?_ nobox
      exact leafB (by rw [nsV, hF, nestG_drop hx1, g]; simp)
    · try simp only [List.length_map, decide_eq_true_eq, decide_eq_false_iff_not, Bool.not_eq_true', Bool.not_eq_false', Bool.not_eq_true, Bool.not_eq_false] at g17
      refine .cons (.gT rfl rfl rfl (.fB 1 0 false rfl rfl rfl)) ?_
      refine .cons (.gT rfl rfl rfl (.b1 1 rfl rfl rfl rfl rfl rfl)) ?_
      refine .cons (.gT rfl rfl rfl (.mv rfl rfl)) ?_
      refine .cons (.gT rfl rfl rfl (.cP [.tmp 19, .tmp 20] rfl rfl rfl rfl (boundsOk_fn i _ (Nat.le_trans hq.2.1 (by omega))) rfl)) ?_
      refine .cons (.gT rfl rfl rfl (.nt rfl rfl)) ?_
      refine .cons (.pF rfl rfl rfl) ?_
      refine .nil ?_
      refine ks_n ?_
      refine ACode.condT rfl (fun h23 => ?_) (fun h23 => ?_)
      · try simp only [List.length_map, decide_eq_true_eq, decide_eq_false_iff_not, Bool.not_eq_true', Bool.not_eq_false', Bool.not_eq_true, Bool.not_eq_false] at h23
        refine ACode.seq ?_
        have g : (sideV i x.1 && sideV i x.2) = false := by simp [*]
        refine ACode.region ?_
        refine .cons (.asg rfl rfl) ?_
        refine .nil ?_
        refine ks_n ?_
        refine ACode.ret ?_
        refine kb_r ?_
        refine ks_r ?_
        refine kl_r ?_
        refine kb_r ?_
        refine ks_r ?_
        refine kf_ret rfl ?_ nobox
        exact leafB (by rw [nsV, hF, nestG_drop hx1, g]; simp)
      · try simp only [List.length_map, decide_eq_true_eq, decide_eq_false_iff_not, Bool.not_eq_true', Bool.not_eq_false', Bool.not_eq_true, Bool.not_eq_false] at h23
        refine ACode.skip ?_
        refine kb_n ?_
        refine ks_n ?_
        have g : (sideV i x.1 && sideV i x.2) = true := by simp [*]
        refine ACode.region ?_
        refine .cons (.pl rfl rfl rfl) ?_
        refine .cons (.mv rfl rfl) ?_
        refine .nil ?_
        refine kl_k [] ⟨i + 1, rfl, by omega, by rw [hF, nestG_drop hx1, g, Bool.true_and], rfl⟩ ⟨ks rfl .dt, ks rfl .dt, ks rfl .dt, ks rfl .dt, trivial⟩
  · skip
    refine ACode.exit ?_
    refine ks_e ?_
    refine kl_e ?_
    refine kb_hit ?_
    refine ks_n ?_
    refine ACode.seq ?_
    refine ACode.region ?_
    refine .cons (.mv rfl rfl) ?_
    refine .cons (.ln 67 2 48 rfl rfl rfl) ?_
    refine .cons (.le rfl rfl rfl) ?_
    refine .cons (.asg rfl rfl) ?_
    refine .nil ?_
    refine ks_n ?_
    refine ACode.ret ?_
    refine kf_ret rfl ?_ nobox
    exact leafB (by rw [nsV, hF, List.drop_of_length_le (by omega), nestG, Bool.and_true, Bool.eq_iff_iff]; simp; omega)

set_option maxRecDepth 100000 in
set_option maxHeartbeats 1600000 in
theorem specNestV_B (ns : List Lp) (hs : bgN ns) : Fn Try.prog 66 [] [vD (dLs ns)] (.o (bo1 (nsV ns))) [] := by
  have hn := hs.1
  refine Fn.code0 Try.func66 rfl rfl rfl rfl ?_
  refine ACode.seq ?_
  refine ACode.region ?_
  refine .cons (.asg rfl rfl) ?_
  refine .nil ?_
  refine ks_n ?_
  refine ACode.seq ?_
  refine ACode.seq ?_
  refine ACode.region ?_
  refine .cons (.asg rfl rfl) ?_
  refine .nil ?_
  refine ks_n ?_
  refine ACode.block ?_
  refine .loopK (fun m σ => (∃ i : Nat, m = ns.length - i ∧ (i ≤ ns.length) ∧ (nestG 0 ns = nestG i (ns.drop i)) ∧ σ = [(.t 0, .v (.o (vD (dLs ns)))), (.t 3, .v (.o (nat1 (i : Nat))))])) [] ⟨0, rfl, by omega, by simp, rfl⟩ ⟨ks rfl .dt, ks rfl .dt, trivial⟩ ?_
  rintro m σ ⟨i, hm0, hi, hF, rfl⟩
  refine ACode.seq ?_
  refine ACode.seq ?_
  refine ACode.region ?_
  refine .cons (.mv rfl rfl) ?_
  refine .cons (.mv rfl rfl) ?_
  refine .cons (.ln 67 2 48 rfl rfl rfl) ?_
  refine .cons (.ls rfl rfl rfl) ?_
  refine .cons (.mv rfl rfl) ?_
  refine .cD 8 rfl (fun g8 => ?_) (fun g8 => ?_)
  · skip
    refine .cons (.gT rfl rfl rfl (.mv rfl rfl)) ?_
    refine .cons (.gT rfl rfl rfl (.ln 67 2 48 rfl rfl rfl)) ?_
    refine .cons (.gT rfl rfl rfl (.le rfl rfl rfl)) ?_
    refine .cons (.pT rfl rfl rfl) ?_
    refine .nil ?_
    refine ks_n ?_
    refine ACode.condT rfl (fun h12 => ?_) (fun h12 => ?_)
    · try simp only [List.length_map, decide_eq_true_eq, decide_eq_false_iff_not, Bool.not_eq_true', Bool.not_eq_false', Bool.not_eq_true, Bool.not_eq_false] at h12
      obtain ⟨x, hx1⟩ : ∃ x, ns[i]? = some x := ⟨_, List.getElem?_eq_getElem (by omega)⟩
      have hq := hs.2 x (List.mem_of_getElem? hx1)
      refine ACode.skip ?_
      refine ks_n ?_
      refine ACode.seq ?_
      refine ACode.block ?_
      refine ACode.seq ?_
      refine ACode.region ?_
      refine .cons (.mv rfl rfl) ?_
      refine .cons (.mv rfl rfl) ?_
      refine .cons (.xL 67 2 48 rfl rfl rfl rfl rfl) ?_
      refine .cons (.fP 0 0 false rfl rfl) ?_
      refine .cons (.l1 1 rfl rfl) ?_
      refine .cons (.mv rfl rfl) ?_
      refine .cons (.cP [.tmp 19, .tmp 20] rfl rfl rfl rfl (l2Side_fn i _ (Nat.le_trans hq.1 (by omega))) rfl) ?_
      refine .cons (.nt rfl rfl) ?_
      refine .cons (.mv rfl rfl) ?_
      refine AOps.cases 23 _ rfl (fun g23 => ?_) (fun g23 => ?_)
      · try simp only [List.length_map, decide_eq_true_eq, decide_eq_false_iff_not, Bool.not_eq_true', Bool.not_eq_false', Bool.not_eq_true, Bool.not_eq_false] at g23
        refine .cons (.gF rfl rfl rfl) ?_
        refine .cons (.gF rfl rfl rfl) ?_
        refine .cons (.gF rfl rfl rfl) ?_
        refine .cons (.gF rfl rfl rfl) ?_
        refine .cons (.gF rfl rfl rfl) ?_
        refine .cons (.gF rfl rfl rfl) ?_
        refine .cons (.gF rfl rfl rfl) ?_
        refine .cons (.gF rfl rfl rfl) ?_
        refine .cons (.pT rfl rfl rfl) ?_
        refine .nil ?_
        refine ks_n ?_
        refine ACode.condT rfl (fun _ => ?_) (fun h => by first | (cases h; done) | (simp [*] at h; done) | (exfalso; simp_all; done))
        refine ACode.seq ?_
        have g : (sideV i x.1 && sideV i x.2) = false := by simp [*]
        refine ACode.region ?_
        refine .cons (.asg rfl rfl) ?_
        refine .nil ?_
        refine ks_n ?_
        refine ACode.ret ?_
        refine kb_r ?_
        refine ks_r ?_
        refine kl_r ?_
        refine kb_r ?_
        refine ks_r ?_
        refine kf_ret rfl ?_ nobox
        exact leafB (by rw [nsV, hF, nestG_drop hx1, g]; simp)
      · try simp only [List.length_map, decide_eq_true_eq, decide_eq_false_iff_not, Bool.not_eq_true', Bool.not_eq_false', Bool.not_eq_true, Bool.not_eq_false] at g23
        refine .cons (.gT rfl rfl rfl (.mv rfl rfl)) ?_
        refine .cons (.gT rfl rfl rfl (.mv rfl rfl)) ?_
        refine .cons (.gT rfl rfl rfl (.xL 67 2 48 rfl rfl rfl rfl rfl)) ?_
        refine .cons (.gT rfl rfl rfl (.fP 1 0 false rfl rfl)) ?_
        refine .cons (.gT rfl rfl rfl (.l1 1 rfl rfl)) ?_
        refine .cons (.gT rfl rfl rfl (.mv rfl rfl)) ?_
        refine .cons (.gT rfl rfl rfl (.cP [.tmp 28, .tmp 29] rfl rfl rfl rfl (l2Side_fn i _ (Nat.le_trans hq.2.1 (by omega))) rfl)) ?_
        refine .cons (.gT rfl rfl rfl (.nt rfl rfl)) ?_
        refine .cons (.pF rfl rfl rfl) ?_
        refine .nil ?_
        refine ks_n ?_
        refine ACode.condT rfl (fun h32 => ?_) (fun h32 => ?_)
        · try simp only [List.length_map, decide_eq_true_eq, decide_eq_false_iff_not, Bool.not_eq_true', Bool.not_eq_false', Bool.not_eq_true, Bool.not_eq_false] at h32
          refine ACode.seq ?_
          have g : (sideV i x.1 && sideV i x.2) = false := by simp [*]
          refine ACode.region ?_
          refine .cons (.asg rfl rfl) ?_
          refine .nil ?_
          refine ks_n ?_
          refine ACode.ret ?_
          refine kb_r ?_
          refine ks_r ?_
          refine kl_r ?_
          refine kb_r ?_
          refine ks_r ?_
          refine kf_ret rfl ?_ nobox
          exact leafB (by rw [nsV, hF, nestG_drop hx1, g]; simp)
        · try simp only [List.length_map, decide_eq_true_eq, decide_eq_false_iff_not, Bool.not_eq_true', Bool.not_eq_false', Bool.not_eq_true, Bool.not_eq_false] at h32
          refine ACode.skip ?_
          refine kb_n ?_
          refine ks_n ?_
          have g : (sideV i x.1 && sideV i x.2) = true := by simp [*]
          refine ACode.region ?_
          refine .cons (.mv rfl rfl) ?_
          refine .cons (.pl rfl rfl rfl) ?_
          refine .cons (.asg rfl rfl) ?_
          refine .nil ?_
          refine kl_k [] ⟨i + 1, rfl, by omega, by rw [hF, nestG_drop hx1, g, Bool.true_and], rfl⟩ ⟨ks rfl .dt, ks rfl .dt, trivial⟩
    · try simp only [List.length_map, decide_eq_true_eq, decide_eq_false_iff_not, Bool.not_eq_true', Bool.not_eq_false', Bool.not_eq_true, Bool.not_eq_false] at h12
      refine ACode.exit ?_
      refine ks_e ?_
      refine kl_e ?_
      refine kb_hit ?_
      refine ks_n ?_
      refine ACode.seq ?_
      refine ACode.region ?_
      refine .cons (.mv rfl rfl) ?_
      refine .cons (.ln 67 2 48 rfl rfl rfl) ?_
      refine .cons (.le rfl rfl rfl) ?_
      refine .cons (.asg rfl rfl) ?_
      refine .nil ?_
      refine ks_n ?_
      refine ACode.ret ?_
      refine kf_ret rfl ?_ nobox
      first | exact leafB (by rw [nsV, hF, List.drop_of_length_le (by omega), nestG, Bool.and_true, Bool.eq_iff_iff]; simp; omega) | exact leafB (by rw [nsV, decide_eq_false (show ¬ ns.length ≤ 4 by omega)]; simp; omega)
  · skip
    refine .cons (.gF rfl rfl rfl) ?_
    refine .cons (.gF rfl rfl rfl) ?_
    refine .cons (.gF rfl rfl rfl) ?_
    refine .cons (.pF rfl rfl rfl) ?_
    refine .nil ?_
    refine ks_n ?_
    refine ACode.condT rfl (fun h => by first | (cases h; done) | (simp [*] at h; done) | (exfalso; simp_all; done)) (fun _ => ?_)
    refine ACode.exit ?_
    refine ks_e ?_
    refine kl_e ?_
    refine kb_hit ?_
    refine ks_n ?_
    refine ACode.seq ?_
    refine ACode.region ?_
    refine .cons (.mv rfl rfl) ?_
    refine .cons (.ln 67 2 48 rfl rfl rfl) ?_
    refine .cons (.le rfl rfl rfl) ?_
    refine .cons (.asg rfl rfl) ?_
    refine .nil ?_
    refine ks_n ?_
    refine ACode.ret ?_
    refine kf_ret rfl ?_ nobox
    first | exact leafB (by rw [nsV, hF, List.drop_of_length_le (by omega), nestG, Bool.and_true, Bool.eq_iff_iff]; simp; omega) | exact leafB (by rw [nsV, decide_eq_false (show ¬ ns.length ≤ 4 by omega)]; simp; omega)

set_option maxRecDepth 100000 in
set_option maxHeartbeats 1600000 in
theorem implNestPts_bad (ns : List Lp) (hs : bgN ns) (hb : nsV ns = false) : Fn Try.prog 19 [] [vD (dLs ns)] (.tup [vD (dPs (npR ns)), bo1 (okP ns)]) [] := by
  have hO : okP ns = false := by rw [okP, hb]; rfl
  have hN := npR_no hO
  refine Fn.code0 Try.func19 rfl rfl rfl rfl ?_
  refine ACode.seq ?_
  refine ACode.region ?_
  refine .cons (.asg rfl rfl) ?_
  refine .cons (.asg rfl rfl) ?_
  refine .nil ?_
  refine ks_n ?_
  refine ACode.seq ?_
  refine ACode.seq ?_
  refine ACode.region ?_
  refine .cons (.mv rfl rfl) ?_
  refine .cons (.cP [.tmp 5] rfl rfl rfl rfl (implNestV_B ns hs) rfl) ?_
  refine .cons (.nt rfl rfl) ?_
  refine .nil ?_
  refine ks_n ?_
  refine ACode.condT rfl (fun h7 => ?_) (fun h7 => ?_)
  · try simp only [List.length_map, decide_eq_true_eq, decide_eq_false_iff_not, Bool.not_eq_true', Bool.not_eq_false', Bool.not_eq_true, Bool.not_eq_false] at h7
    refine ACode.seq ?_
    refine ACode.region ?_
    refine .cons (.asg rfl rfl) ?_
    refine .cons (.asg rfl rfl) ?_
    refine .nil ?_
    refine ks_n ?_
    refine ACode.ret ?_
    refine ks_r ?_
    refine kf_wret [(.t 2, .v (.o (vD (dPs (npR ns))))), (.t 3, .v (.o (bo1 (okP ns))))] (Wk.keep [] rfl rfl ⟨ks rfl (.c (Cto.nilE 1 (by rw [hN]; rfl))), ks rfl (.dt (by rw [hO])), trivial⟩) rfl ?_ nobox
    rfl
  · try simp only [List.length_map, decide_eq_true_eq, decide_eq_false_iff_not, Bool.not_eq_true', Bool.not_eq_false', Bool.not_eq_true, Bool.not_eq_false] at h7
    rw [hb] at h7; cases h7

set_option maxRecDepth 100000 in
set_option maxHeartbeats 1600000 in
theorem specNestPts_bad (ns : List Lp) (hs : bgN ns) (hb : nsV ns = false) : Fn Try.prog 29 [] [vD (dLs ns)] (.tup [vD (dPs (npR ns)), bo1 (okP ns)]) [] := by
  have hO : okP ns = false := by rw [okP, hb]; rfl
  have hN := npR_no hO
  refine Fn.code0 Try.func29 rfl rfl rfl rfl ?_
  refine ACode.seq ?_
  refine ACode.region ?_
  refine .cons (.asg rfl rfl) ?_
  refine .cons (.asg rfl rfl) ?_
  refine .nil ?_
  refine ks_n ?_
  refine ACode.seq ?_
  refine ACode.seq ?_
  refine ACode.region ?_
  refine .cons (.mv rfl rfl) ?_
  refine .cons (.cP [.tmp 5] rfl rfl rfl rfl (specNestV_B ns hs) rfl) ?_
  refine .cons (.nt rfl rfl) ?_
  refine .cons (.mv rfl rfl) ?_
  refine AOps.cases 8 _ rfl (fun g8 => ?_) (fun g8 => ?_)
  · try simp only [List.length_map, decide_eq_true_eq, decide_eq_false_iff_not, Bool.not_eq_true', Bool.not_eq_false', Bool.not_eq_true, Bool.not_eq_false] at g8
    refine .cons (.gF rfl rfl rfl) ?_
    refine .cons (.gF rfl rfl rfl) ?_
    refine .cons (.gF rfl rfl rfl) ?_
    refine .cons (.pT rfl rfl rfl) ?_
    refine .nil ?_
    refine ks_n ?_
    refine ACode.condT rfl (fun _ => ?_) (fun h => by first | (cases h; done) | (simp [*] at h; done) | (exfalso; simp_all; done))
    refine ACode.seq ?_
    refine ACode.region ?_
    refine .cons (St1.lit0 (k' := 113) (e := 28) (sz := 1) (b := true) rfl rfl rfl rfl (by kernel_rfl) rfl rfl) ?_
    refine .cons (.asg rfl rfl) ?_
    refine .cons (.asg rfl rfl) ?_
    refine .nil ?_
    refine ks_n ?_
    refine ACode.ret ?_
    refine ks_r ?_
    refine kf_wret [(.t 2, .v (.o (vD (dPs (npR ns))))), (.t 3, .v (.o (bo1 (okP ns))))] (Wk.keep [] rfl rfl ⟨ks rfl (.c (.fz rfl (by rw [hN]; first | rfl | simp [dR]) (by rw [hN]; rfl) (by omega))), ks rfl (.dt (by rw [hO])), trivial⟩) rfl ?_ nobox
    rfl
  · try simp only [List.length_map, decide_eq_true_eq, decide_eq_false_iff_not, Bool.not_eq_true', Bool.not_eq_false', Bool.not_eq_true, Bool.not_eq_false] at g8
    rw [hb] at g8; cases g8

theorem implNestPts_B (ns : List Lp) (hs : bgN ns) : Fn Try.prog 19 [] [vD (dLs ns)] (.tup [vD (dPs (npR ns)), bo1 (okP ns)]) [] := by
  cases h : nsV ns with
  | true => exact implNestPts_fn ns (smN_of h)
  | false => exact implNestPts_bad ns hs h

theorem specNestPts_B (ns : List Lp) (hs : bgN ns) : Fn Try.prog 29 [] [vD (dLs ns)] (.tup [vD (dPs (npR ns)), bo1 (okP ns)]) [] := by
  cases h : nsV ns with
  | true => exact specNestPts_fn ns (smN_of h)
  | false => exact specNestPts_bad ns hs h

set_option maxRecDepth 100000 in
set_option maxHeartbeats 1600000 in
theorem implSR_B (ns : List Lp) (hs : bgN ns) (a : Aff) : Fn Try.prog 36 [] [vD (dLs ns), ad (rA a)] (.tup [nat1 (srV ns a).1, nat1 (srV ns a).2.1, bo1 (srV ns a).2.2]) [] := by
  have hn := npR_len ns
  have hnl := hs.1
  refine Fn.code0 Try.func36 rfl rfl rfl rfl ?_
  refine ACode.seq ?_
  refine ACode.region ?_
  refine .cons (St1.boxP rfl rfl rfl rfl rfl rfl) ?_
  refine .cons (.asg rfl rfl) ?_
  refine .cons (.asg rfl rfl) ?_
  refine .cons (.asg rfl rfl) ?_
  refine .nil ?_
  refine ks_n ?_
  refine ACode.seq ?_
  refine ACode.region ?_
  refine .cons (.mv rfl rfl) ?_
  refine .cons (.cP [.tmp 14] rfl rfl rfl rfl (implNestPts_B ns hs) rfl) ?_
  refine .cons (.mv rfl rfl) ?_
  refine .cons (.ex rfl rfl rfl) ?_
  refine .cons (.ex rfl rfl rfl) ?_
  refine .cons (.asg rfl rfl) ?_
  refine .cons (.asg rfl rfl) ?_
  refine .nil ?_
  refine ks_n ?_
  refine ACode.seq ?_
  refine ACode.seq ?_
  refine ACode.region ?_
  refine .cons (.mv rfl rfl) ?_
  refine .cons (.nt rfl rfl) ?_
  refine .cons (.mv rfl rfl) ?_
  refine AOps.cases 20 _ rfl (fun g20 => ?_) (fun g20 => ?_)
  · try simp only [List.length_map, decide_eq_true_eq, decide_eq_false_iff_not, Bool.not_eq_true', Bool.not_eq_false', Bool.not_eq_true, Bool.not_eq_false] at g20
    refine .cons (.gF rfl rfl rfl) ?_
    refine .cons (.gF rfl rfl rfl) ?_
    refine .cons (.gF rfl rfl rfl) ?_
    refine .cons (.pT rfl rfl rfl) ?_
    refine .cons (.mv rfl rfl) ?_
    refine .cons (.gF rfl rfl rfl) ?_
    refine .cons (.gF rfl rfl rfl) ?_
    refine .cons (.gF rfl rfl rfl) ?_
    refine .cons (.pT rfl rfl rfl) ?_
    refine .cons (.mv rfl rfl) ?_
    refine .cons (.gF rfl rfl rfl) ?_
    refine .cons (.gF rfl rfl rfl) ?_
    refine .cons (.gF rfl rfl rfl) ?_
    refine .cons (.gF rfl rfl rfl) ?_
    refine .cons (.gF rfl rfl rfl) ?_
    refine .cons (.pT rfl rfl rfl) ?_
    refine .nil ?_
    refine ks_n ?_
    refine ACode.condT rfl (fun _ => ?_) (fun h => by first | (cases h; done) | (simp [*] at h; done) | (exfalso; simp_all; done))
    refine ACode.seq ?_
    refine ACode.region ?_
    refine .cons (.asg rfl rfl) ?_
    refine .cons (.asg rfl rfl) ?_
    refine .cons (.asg rfl rfl) ?_
    refine .nil ?_
    refine ks_n ?_
    refine ACode.ret ?_
    refine ks_r ?_
    refine kf_ret rfl ?_ nobox
    have e : srV ns a = (0, 0, false) := if_neg (fun ⟨q1, q2, q3, q4⟩ => by first | (rw [q1] at g20; cases g20; done) | (rw [q3] at g30; cases g30; done) | omega)
    rw [e]; rfl
  · try simp only [List.length_map, decide_eq_true_eq, decide_eq_false_iff_not, Bool.not_eq_true', Bool.not_eq_false', Bool.not_eq_true, Bool.not_eq_false] at g20
    refine .cons (.gT rfl rfl rfl (.mv rfl rfl)) ?_
    refine .cons (.gT rfl rfl rfl (.ln 28 1 24 rfl rfl rfl)) ?_
    refine .cons (.gT rfl rfl rfl (.eq rfl rfl rfl)) ?_
    refine .cons (.pF rfl rfl rfl) ?_
    refine .cons (.mv rfl rfl) ?_
    refine AOps.cases 25 _ rfl (fun g25 => ?_) (fun g25 => ?_)
    · try simp only [List.length_map, decide_eq_true_eq, decide_eq_false_iff_not, Bool.not_eq_true', Bool.not_eq_false', Bool.not_eq_true, Bool.not_eq_false] at g25
      refine .cons (.gF rfl rfl rfl) ?_
      refine .cons (.gF rfl rfl rfl) ?_
      refine .cons (.gF rfl rfl rfl) ?_
      refine .cons (.pT rfl rfl rfl) ?_
      refine .cons (.mv rfl rfl) ?_
      refine .cons (.gF rfl rfl rfl) ?_
      refine .cons (.gF rfl rfl rfl) ?_
      refine .cons (.gF rfl rfl rfl) ?_
      refine .cons (.gF rfl rfl rfl) ?_
      refine .cons (.gF rfl rfl rfl) ?_
      refine .cons (.pT rfl rfl rfl) ?_
      refine .nil ?_
      refine ks_n ?_
      refine ACode.condT rfl (fun _ => ?_) (fun h => by first | (cases h; done) | (simp [*] at h; done) | (exfalso; simp_all; done))
      refine ACode.seq ?_
      refine ACode.region ?_
      refine .cons (.asg rfl rfl) ?_
      refine .cons (.asg rfl rfl) ?_
      refine .cons (.asg rfl rfl) ?_
      refine .nil ?_
      refine ks_n ?_
      refine ACode.ret ?_
      refine ks_r ?_
      refine kf_ret rfl ?_ nobox
      have e : srV ns a = (0, 0, false) := if_neg (fun ⟨q1, q2, q3, q4⟩ => by first | (rw [q1] at g20; cases g20; done) | (rw [q3] at g30; cases g30; done) | omega)
      rw [e]; rfl
    · try simp only [List.length_map, decide_eq_true_eq, decide_eq_false_iff_not, Bool.not_eq_true', Bool.not_eq_false', Bool.not_eq_true, Bool.not_eq_false] at g25
      refine .cons (.gT rfl rfl rfl (.lN 2 rfl rfl rfl)) ?_
      refine .cons (.gT rfl rfl rfl (.cP [.tmp 26] rfl rfl rfl rfl (implAffV_fn a) rfl)) ?_
      refine .cons (.gT rfl rfl rfl (.nt rfl rfl)) ?_
      refine .cons (.pF rfl rfl rfl) ?_
      refine .cons (.mv rfl rfl) ?_
      refine AOps.cases 30 _ rfl (fun g30 => ?_) (fun g30 => ?_)
      · try simp only [List.length_map, decide_eq_true_eq, decide_eq_false_iff_not, Bool.not_eq_true', Bool.not_eq_false', Bool.not_eq_true, Bool.not_eq_false] at g30
        refine .cons (.gF rfl rfl rfl) ?_
        refine .cons (.gF rfl rfl rfl) ?_
        refine .cons (.gF rfl rfl rfl) ?_
        refine .cons (.gF rfl rfl rfl) ?_
        refine .cons (.gF rfl rfl rfl) ?_
        refine .cons (.pT rfl rfl rfl) ?_
        refine .nil ?_
        refine ks_n ?_
        refine ACode.condT rfl (fun _ => ?_) (fun h => by first | (cases h; done) | (simp [*] at h; done) | (exfalso; simp_all; done))
        refine ACode.seq ?_
        refine ACode.region ?_
        refine .cons (.asg rfl rfl) ?_
        refine .cons (.asg rfl rfl) ?_
        refine .cons (.asg rfl rfl) ?_
        refine .nil ?_
        refine ks_n ?_
        refine ACode.ret ?_
        refine ks_r ?_
        refine kf_ret rfl ?_ nobox
        have e : srV ns a = (0, 0, false) := if_neg (fun ⟨q1, q2, q3, q4⟩ => by first | (rw [q1] at g20; cases g20; done) | (rw [q3] at g30; cases g30; done) | omega)
        rw [e]; rfl
      · try simp only [List.length_map, decide_eq_true_eq, decide_eq_false_iff_not, Bool.not_eq_true', Bool.not_eq_false', Bool.not_eq_true, Bool.not_eq_false] at g30
        refine .cons (.gT rfl rfl rfl (.lN 2 rfl rfl rfl)) ?_
        refine .cons (.gT rfl rfl rfl (.cP [.tmp 31] rfl rfl rfl rfl (depth_fn a) rfl)) ?_
        refine .cons (.gT rfl rfl rfl (.mv rfl rfl)) ?_
        refine .cons (.gT rfl rfl rfl (.ln 67 2 48 rfl rfl rfl)) ?_
        refine .cons (.gT rfl rfl rfl (.gt rfl rfl rfl)) ?_
        refine .cons (.pF rfl rfl rfl) ?_
        refine .nil ?_
        refine ks_n ?_
        refine ACode.condT rfl (fun h36 => ?_) (fun h36 => ?_)
        · try simp only [List.length_map, decide_eq_true_eq, decide_eq_false_iff_not, Bool.not_eq_true', Bool.not_eq_false', Bool.not_eq_true, Bool.not_eq_false] at h36
          refine ACode.seq ?_
          refine ACode.region ?_
          refine .cons (.asg rfl rfl) ?_
          refine .cons (.asg rfl rfl) ?_
          refine .cons (.asg rfl rfl) ?_
          refine .nil ?_
          refine ks_n ?_
          refine ACode.ret ?_
          refine ks_r ?_
          refine kf_ret rfl ?_ nobox
          have e : srV ns a = (0, 0, false) := if_neg (fun ⟨q1, q2, q3, q4⟩ => by first | (rw [q1] at g20; cases g20; done) | (rw [q3] at g30; cases g30; done) | omega)
          rw [e]; rfl
        · try simp only [List.length_map, decide_eq_true_eq, decide_eq_false_iff_not, Bool.not_eq_true', Bool.not_eq_false', Bool.not_eq_true, Bool.not_eq_false] at h36
          obtain ⟨x0, hx0⟩ : ∃ x, (npR ns)[0]? = some x := ⟨_, List.getElem?_eq_getElem (by omega)⟩
          have hp0 := npR_pt (List.mem_of_getElem? hx0)
          refine ACode.skip ?_
          refine ks_n ?_
          refine ACode.seq ?_
          refine ACode.drawK (by kernel_rfl) (by kernel_rfl) ?_
          refine .cons (.lN 2 rfl rfl rfl) ?_
          refine .cons (.mv rfl rfl) ?_
          refine .cons (.xL 28 1 24 (i := 0) rfl rfl rfl rfl rfl (map_at hx0)) ?_
          refine .cons (.l1 1 rfl rfl) ?_
          refine .cons (.cP [.tmp 37, .tmp 40] rfl rfl rfl rfl (eval_fn g30 hp0.1 hp0.2) rfl) ?_
          refine .cons (.lN 2 rfl rfl rfl) ?_
          refine .cons (.mv rfl rfl) ?_
          refine .cons (.xL 28 1 24 (i := 0) rfl rfl rfl rfl rfl (map_at hx0)) ?_
          refine .cons (.l1 1 rfl rfl) ?_
          refine .cons (.cP [.tmp 42, .tmp 45] rfl rfl rfl rfl (eval_fn g30 hp0.1 hp0.2) rfl) ?_
          refine .cons (.asg rfl rfl) ?_
          refine .cons (.asg rfl rfl) ?_
          refine .nil ⟨by kernel_rfl, ?_⟩
          refine ks_n ?_
          refine ACode.seq ?_
          refine ACode.seq ?_
          refine ACode.region ?_
          refine .cons (.mv rfl rfl) ?_
          refine .cons (.ln 28 1 24 rfl rfl rfl) ?_
          refine .cons (.mv rfl rfl) ?_
          refine .nil ?_
          refine ks_n ?_
          refine ACode.block ?_
          refine .loopK (fun m σ => (∃ (i : Nat) (c d : Int), m = (npR ns).length - i ∧ (i ≤ (npR ns).length) ∧ (loQ a (npR ns) = mnQ a c ((npR ns).drop i)) ∧ (hiQ a (npR ns) = mxQ a d ((npR ns).drop i)) ∧ σ = [(.t 3, .v (.o (.c (.ptr (rA a))))), (.t 9, .v (.o (nat1 c))), (.t 10, .v (.o (nat1 d))), (.t 47, .v (.o (vD (dPs (npR ns))))), (.t 48, .v (.o (nat1 ((npR ns).length : Nat)))), (.t 49, .v (.o (nat1 (i : Nat))))])) [] ⟨0, affEval a x0, affEval a x0, rfl, (by omega), (loQ_zero hx0), (hiQ_zero hx0), rfl⟩ ⟨ks rfl .dt, ks rfl .dt, ks rfl .dt, ks rfl .dt, ks rfl .dt, ks rfl .dt, trivial⟩ ?_
          rintro m σ ⟨i, c, d, hm0, hi, hF1, hF2, rfl⟩
          refine ACode.seq ?_
          refine ACode.region ?_
          refine .cons (.ls rfl rfl rfl) ?_
          refine .nil ?_
          refine ks_n ?_
          refine ACode.seq ?_
          refine .cD rfl (fun h50 => ?_) (fun h50 => ?_)
          · skip
            obtain ⟨x, hx1⟩ : ∃ x, (npR ns)[i]? = some x := ⟨_, List.getElem?_eq_getElem (by omega)⟩
            have hpx := npR_pt (List.mem_of_getElem? hx1)
            refine ACode.skip ?_
            refine ks_n ?_
            refine ACode.seq ?_
            refine ACode.block ?_
            refine ACode.seq ?_
            refine ACode.region ?_
            refine .cons (.xL 28 1 24 rfl rfl rfl rfl rfl) ?_
            refine .cons (.l1 1 rfl rfl) ?_
            refine .cons (.asg rfl rfl) ?_
            refine .nil ?_
            refine ks_n ?_
            refine ACode.drawK (by kernel_rfl) (by kernel_rfl) ?_
            refine .cons (.mv rfl rfl) ?_
            refine .cons (.lN 2 rfl rfl rfl) ?_
            refine .cons (.mv rfl rfl) ?_
            refine .cons (.cP [.tmp 54, .tmp 55] rfl rfl rfl rfl (eval_fn g30 hpx.1 hpx.2) rfl) ?_
            refine .cons (St1.min2 rfl rfl rfl rfl rfl rfl) ?_
            refine .cons (.mv rfl rfl) ?_
            refine .cons (.lN 2 rfl rfl rfl) ?_
            refine .cons (.mv rfl rfl) ?_
            refine .cons (.cP [.tmp 59, .tmp 60] rfl rfl rfl rfl (eval_fn g30 hpx.1 hpx.2) rfl) ?_
            refine .cons (St1.max2 rfl rfl rfl rfl rfl rfl) ?_
            refine .cons (.asg rfl rfl) ?_
            refine .cons (.asg rfl rfl) ?_
            refine .nil ⟨by kernel_rfl, ?_⟩
            refine kb_n ?_
            refine ks_n ?_
            refine ACode.region ?_
            refine .cons (.pl rfl rfl rfl) ?_
            refine .cons (.mv rfl rfl) ?_
            refine .nil ?_
            refine kl_k [] ⟨i + 1, min c (affEval a x), max d (affEval a x), rfl, by omega, by rw [hF1, mnQ_drop hx1], by rw [hF2, mxQ_drop hx1], rfl⟩ ⟨ks rfl .dt, ks rfl .dt, ks rfl .dt, ks rfl .dt, ks rfl .dt, ks rfl .dt, trivial⟩
          · skip
            have hL : loQ a (npR ns) = c := by rw [hF1, List.drop_of_length_le (by omega)]; rfl
            have hH : hiQ a (npR ns) = d := by rw [hF2, List.drop_of_length_le (by omega)]; rfl
            refine ACode.exit ?_
            refine ks_e ?_
            refine kl_e ?_
            refine kb_hit ?_
            refine ks_n ?_
            refine ACode.seq ?_
            refine ACode.region ?_
            refine .cons (.mv rfl rfl) ?_
            refine .cons (.mv rfl rfl) ?_
            refine .cons (.asg rfl rfl) ?_
            refine .cons (.asg rfl rfl) ?_
            refine .cons (.asg rfl rfl) ?_
            refine .nil ?_
            refine ks_n ?_
            refine ACode.ret ?_
            refine kf_ret rfl ?_ nobox
            have e : srV ns a = (loQ a (npR ns), hiQ a (npR ns), true) := if_pos ⟨by assumption, by omega, by assumption, by omega⟩
            rw [e, hL, hH]; rfl

set_option maxRecDepth 100000 in
set_option maxHeartbeats 1600000 in
theorem specSR_B (ns : List Lp) (hs : bgN ns) (a : Aff) : Fn Try.prog 33 [] [vD (dLs ns), ad (rA a)] (.tup [nat1 (srV ns a).1, nat1 (srV ns a).2.1, bo1 (srV ns a).2.2]) [] := by
  have hn := npR_len ns
  have hnl := hs.1
  refine Fn.code0 Try.func33 rfl rfl rfl rfl ?_
  refine ACode.seq ?_
  refine ACode.region ?_
  refine .cons (St1.boxP rfl rfl rfl rfl rfl rfl) ?_
  refine .cons (.asg rfl rfl) ?_
  refine .cons (.asg rfl rfl) ?_
  refine .cons (.asg rfl rfl) ?_
  refine .nil ?_
  refine ks_n ?_
  refine ACode.seq ?_
  refine ACode.region ?_
  refine .cons (.mv rfl rfl) ?_
  refine .cons (.cP [.tmp 14] rfl rfl rfl rfl (specNestPts_B ns hs) rfl) ?_
  refine .cons (.mv rfl rfl) ?_
  refine .cons (.ex rfl rfl rfl) ?_
  refine .cons (.ex rfl rfl rfl) ?_
  refine .cons (.asg rfl rfl) ?_
  refine .cons (.asg rfl rfl) ?_
  refine .nil ?_
  refine ks_n ?_
  refine ACode.seq ?_
  refine ACode.seq ?_
  refine ACode.region ?_
  refine .cons (.mv rfl rfl) ?_
  refine .cons (.nt rfl rfl) ?_
  refine .cons (.mv rfl rfl) ?_
  refine AOps.cases 20 _ rfl (fun g20 => ?_) (fun g20 => ?_)
  · try simp only [List.length_map, decide_eq_true_eq, decide_eq_false_iff_not, Bool.not_eq_true', Bool.not_eq_false', Bool.not_eq_true, Bool.not_eq_false] at g20
    refine .cons (.gF rfl rfl rfl) ?_
    refine .cons (.gF rfl rfl rfl) ?_
    refine .cons (.gF rfl rfl rfl) ?_
    refine .cons (.pT rfl rfl rfl) ?_
    refine .cons (.mv rfl rfl) ?_
    refine .cons (.gF rfl rfl rfl) ?_
    refine .cons (.gF rfl rfl rfl) ?_
    refine .cons (.gF rfl rfl rfl) ?_
    refine .cons (.gF rfl rfl rfl) ?_
    refine .cons (.gF rfl rfl rfl) ?_
    refine .cons (.pT rfl rfl rfl) ?_
    refine .cons (.mv rfl rfl) ?_
    refine .cons (.gF rfl rfl rfl) ?_
    refine .cons (.gF rfl rfl rfl) ?_
    refine .cons (.gF rfl rfl rfl) ?_
    refine .cons (.pT rfl rfl rfl) ?_
    refine .nil ?_
    refine ks_n ?_
    refine ACode.condT rfl (fun _ => ?_) (fun h => by first | (cases h; done) | (simp [*] at h; done) | (exfalso; simp_all; done))
    refine ACode.seq ?_
    refine ACode.region ?_
    refine .cons (.asg rfl rfl) ?_
    refine .cons (.asg rfl rfl) ?_
    refine .cons (.asg rfl rfl) ?_
    refine .nil ?_
    refine ks_n ?_
    refine ACode.ret ?_
    refine ks_r ?_
    refine kf_ret rfl ?_ nobox
    have e : srV ns a = (0, 0, false) := if_neg (fun ⟨q1, q2, q3, q4⟩ => by first | (rw [q1] at g20; cases g20; done) | (rw [q3] at g25; cases g25; done) | omega)
    rw [e]; rfl
  · try simp only [List.length_map, decide_eq_true_eq, decide_eq_false_iff_not, Bool.not_eq_true', Bool.not_eq_false', Bool.not_eq_true, Bool.not_eq_false] at g20
    refine .cons (.gT rfl rfl rfl (.lN 2 rfl rfl rfl)) ?_
    refine .cons (.gT rfl rfl rfl (.cP [.tmp 21] rfl rfl rfl rfl (specAffV_fn a) rfl)) ?_
    refine .cons (.gT rfl rfl rfl (.nt rfl rfl)) ?_
    refine .cons (.pF rfl rfl rfl) ?_
    refine .cons (.mv rfl rfl) ?_
    refine AOps.cases 25 _ rfl (fun g25 => ?_) (fun g25 => ?_)
    · try simp only [List.length_map, decide_eq_true_eq, decide_eq_false_iff_not, Bool.not_eq_true', Bool.not_eq_false', Bool.not_eq_true, Bool.not_eq_false] at g25
      refine .cons (.gF rfl rfl rfl) ?_
      refine .cons (.gF rfl rfl rfl) ?_
      refine .cons (.gF rfl rfl rfl) ?_
      refine .cons (.gF rfl rfl rfl) ?_
      refine .cons (.gF rfl rfl rfl) ?_
      refine .cons (.pT rfl rfl rfl) ?_
      refine .cons (.mv rfl rfl) ?_
      refine .cons (.gF rfl rfl rfl) ?_
      refine .cons (.gF rfl rfl rfl) ?_
      refine .cons (.gF rfl rfl rfl) ?_
      refine .cons (.pT rfl rfl rfl) ?_
      refine .nil ?_
      refine ks_n ?_
      refine ACode.condT rfl (fun _ => ?_) (fun h => by first | (cases h; done) | (simp [*] at h; done) | (exfalso; simp_all; done))
      refine ACode.seq ?_
      refine ACode.region ?_
      refine .cons (.asg rfl rfl) ?_
      refine .cons (.asg rfl rfl) ?_
      refine .cons (.asg rfl rfl) ?_
      refine .nil ?_
      refine ks_n ?_
      refine ACode.ret ?_
      refine ks_r ?_
      refine kf_ret rfl ?_ nobox
      have e : srV ns a = (0, 0, false) := if_neg (fun ⟨q1, q2, q3, q4⟩ => by first | (rw [q1] at g20; cases g20; done) | (rw [q3] at g25; cases g25; done) | omega)
      rw [e]; rfl
    · try simp only [List.length_map, decide_eq_true_eq, decide_eq_false_iff_not, Bool.not_eq_true', Bool.not_eq_false', Bool.not_eq_true, Bool.not_eq_false] at g25
      refine .cons (.gT rfl rfl rfl (.lN 2 rfl rfl rfl)) ?_
      refine .cons (.gT rfl rfl rfl (.cP [.tmp 26] rfl rfl rfl rfl (l1Depth_fn a) rfl)) ?_
      refine .cons (.gT rfl rfl rfl (.mv rfl rfl)) ?_
      refine .cons (.gT rfl rfl rfl (.ln 67 2 48 rfl rfl rfl)) ?_
      refine .cons (.gT rfl rfl rfl (.gt rfl rfl rfl)) ?_
      refine .cons (.pF rfl rfl rfl) ?_
      refine .cons (.mv rfl rfl) ?_
      refine AOps.cases 32 _ rfl (fun g32 => ?_) (fun g32 => ?_)
      · try simp only [List.length_map, decide_eq_true_eq, decide_eq_false_iff_not, Bool.not_eq_true', Bool.not_eq_false', Bool.not_eq_true, Bool.not_eq_false] at g32
        refine .cons (.gF rfl rfl rfl) ?_
        refine .cons (.gF rfl rfl rfl) ?_
        refine .cons (.gF rfl rfl rfl) ?_
        refine .cons (.pT rfl rfl rfl) ?_
        refine .nil ?_
        refine ks_n ?_
        refine ACode.condT rfl (fun _ => ?_) (fun h => by first | (cases h; done) | (simp [*] at h; done) | (exfalso; simp_all; done))
        refine ACode.seq ?_
        refine ACode.region ?_
        refine .cons (.asg rfl rfl) ?_
        refine .cons (.asg rfl rfl) ?_
        refine .cons (.asg rfl rfl) ?_
        refine .nil ?_
        refine ks_n ?_
        refine ACode.ret ?_
        refine ks_r ?_
        refine kf_ret rfl ?_ nobox
        have e : srV ns a = (0, 0, false) := if_neg (fun ⟨q1, q2, q3, q4⟩ => by first | (rw [q1] at g20; cases g20; done) | (rw [q3] at g25; cases g25; done) | omega)
        rw [e]; rfl
      · try simp only [List.length_map, decide_eq_true_eq, decide_eq_false_iff_not, Bool.not_eq_true', Bool.not_eq_false', Bool.not_eq_true, Bool.not_eq_false] at g32
        refine .cons (.gT rfl rfl rfl (.mv rfl rfl)) ?_
        refine .cons (.gT rfl rfl rfl (.ln 28 1 24 rfl rfl rfl)) ?_
        refine .cons (.gT rfl rfl rfl (.eq rfl rfl rfl)) ?_
        refine .cons (.pF rfl rfl rfl) ?_
        refine .nil ?_
        refine ks_n ?_
        refine ACode.condT rfl (fun h36 => ?_) (fun h36 => ?_)
        · try simp only [List.length_map, decide_eq_true_eq, decide_eq_false_iff_not, Bool.not_eq_true', Bool.not_eq_false', Bool.not_eq_true, Bool.not_eq_false] at h36
          refine ACode.seq ?_
          refine ACode.region ?_
          refine .cons (.asg rfl rfl) ?_
          refine .cons (.asg rfl rfl) ?_
          refine .cons (.asg rfl rfl) ?_
          refine .nil ?_
          refine ks_n ?_
          refine ACode.ret ?_
          refine ks_r ?_
          refine kf_ret rfl ?_ nobox
          have e : srV ns a = (0, 0, false) := if_neg (fun ⟨q1, q2, q3, q4⟩ => by first | (rw [q1] at g20; cases g20; done) | (rw [q3] at g25; cases g25; done) | omega)
          rw [e]; rfl
        · try simp only [List.length_map, decide_eq_true_eq, decide_eq_false_iff_not, Bool.not_eq_true', Bool.not_eq_false', Bool.not_eq_true, Bool.not_eq_false] at h36
          obtain ⟨x0, hx0⟩ : ∃ x, (npR ns)[0]? = some x := ⟨_, List.getElem?_eq_getElem (by omega)⟩
          have hp0 := npR_pt (List.mem_of_getElem? hx0)
          refine ACode.skip ?_
          refine ks_n ?_
          refine ACode.seq ?_
          refine ACode.drawK (by kernel_rfl) (by kernel_rfl) ?_
          refine .cons (.lN 2 rfl rfl rfl) ?_
          refine .cons (.mv rfl rfl) ?_
          refine .cons (.xL 28 1 24 (i := 0) rfl rfl rfl rfl rfl (map_at hx0)) ?_
          refine .cons (.l1 1 rfl rfl) ?_
          refine .cons (.cP [.tmp 37, .tmp 40] rfl rfl rfl rfl (l1Eval_fn g25 hp0.1 hp0.2) rfl) ?_
          refine .cons (.asg rfl rfl) ?_
          refine .nil ⟨by kernel_rfl, ?_⟩
          refine ks_n ?_
          refine ACode.seq ?_
          refine ACode.region ?_
          refine .cons (.mv rfl rfl) ?_
          refine .cons (.asg rfl rfl) ?_
          refine .nil ?_
          refine ks_n ?_
          refine ACode.seq ?_
          refine ACode.seq ?_
          refine ACode.region ?_
          refine .cons (.asg rfl rfl) ?_
          refine .nil ?_
          refine ks_n ?_
          refine ACode.block ?_
          refine .loopK (fun m σ => (∃ (i : Nat) (c d : Int), m = (npR ns).length - i ∧ (i ≤ (npR ns).length) ∧ (loQ a (npR ns) = mnQ a c ((npR ns).drop i)) ∧ (hiQ a (npR ns) = mxQ a d ((npR ns).drop i)) ∧ σ = [(.t 3, .v (.o (.c (.ptr (rA a))))), (.t 7, .v (.o (vD (dPs (npR ns))))), (.t 9, .v (.o (nat1 c))), (.t 10, .v (.o (nat1 d))), (.t 11, .v (.o (nat1 (i : Nat))))])) [] ⟨1, affEval a x0, affEval a x0, rfl, (by omega), (loQ_one hx0), (hiQ_one hx0), rfl⟩ ⟨ks rfl .dt, ks rfl .dt, ks rfl (.dt (congrArg (fun z => V.o (nat1 z)) (by first | rfl | omega))), ks rfl (.dt (congrArg (fun z => V.o (nat1 z)) (by first | rfl | omega))), ks rfl .dt, trivial⟩ ?_
          rintro m σ ⟨i, c, d, hm0, hi, hF1, hF2, rfl⟩
          refine ACode.seq ?_
          refine ACode.seq ?_
          refine ACode.region ?_
          refine .cons (.mv rfl rfl) ?_
          refine .cons (.mv rfl rfl) ?_
          refine .cons (.ln 28 1 24 rfl rfl rfl) ?_
          refine .cons (.ls rfl rfl rfl) ?_
          refine .nil ?_
          refine ks_n ?_
          refine .cD rfl (fun h46 => ?_) (fun h46 => ?_)
          · skip
            obtain ⟨x, hx1⟩ : ∃ x, (npR ns)[i]? = some x := ⟨_, List.getElem?_eq_getElem (by omega)⟩
            have hpx := npR_pt (List.mem_of_getElem? hx1)
            refine ACode.skip ?_
            refine ks_n ?_
            refine ACode.seq ?_
            refine ACode.block ?_
            refine ACode.seq ?_
            refine ACode.drawK (by kernel_rfl) (by kernel_rfl) ?_
            refine .cons (.lN 2 rfl rfl rfl) ?_
            refine .cons (.mv rfl rfl) ?_
            refine .cons (.mv rfl rfl) ?_
            refine .cons (.xL 28 1 24 rfl rfl rfl rfl rfl) ?_
            refine .cons (.l1 1 rfl rfl) ?_
            refine .cons (.cP [.tmp 49, .tmp 53] rfl rfl rfl rfl (l1Eval_fn g25 hpx.1 hpx.2) rfl) ?_
            refine .cons (.asg rfl rfl) ?_
            refine .nil ⟨by kernel_rfl, ?_⟩
            refine ks_n ?_
            refine ACode.seq ?_
            refine ACode.seq ?_
            refine ACode.region ?_
            refine .cons (.mv rfl rfl) ?_
            refine .cons (.mv rfl rfl) ?_
            refine .cons (.ls rfl rfl rfl) ?_
            refine .nil ?_
            refine ks_n ?_
            refine .cD rfl (fun h57 => ?_) (fun h57 => ?_)
            · skip
              refine ACode.region ?_
              refine .cons (.mv rfl rfl) ?_
              refine .cons (.asg rfl rfl) ?_
              refine .nil ?_
              refine ks_n ?_
              refine ACode.seq ?_
              refine ACode.region ?_
              refine .cons (.mv rfl rfl) ?_
              refine .cons (.mv rfl rfl) ?_
              refine .cons (.gt rfl rfl rfl) ?_
              refine .nil ?_
              refine ks_n ?_
              refine .cD rfl (fun h61 => ?_) (fun h61 => ?_)
              · skip
                refine ACode.region ?_
                refine .cons (.mv rfl rfl) ?_
                refine .cons (.asg rfl rfl) ?_
                refine .nil ?_
                refine kb_n ?_
                refine ks_n ?_
                refine ACode.region ?_
                refine .cons (.mv rfl rfl) ?_
                refine .cons (.pl rfl rfl rfl) ?_
                refine .cons (.asg rfl rfl) ?_
                refine .nil ?_
                refine kl_k [] ⟨i + 1, min c (affEval a x), max d (affEval a x), rfl, by omega, by rw [hF1, mnQ_drop hx1], by rw [hF2, mxQ_drop hx1], rfl⟩ ⟨ks rfl .dt, ks rfl .dt, ks rfl (.dt (congrArg (fun z => V.o (nat1 z)) (by first | rfl | omega))), ks rfl (.dt (congrArg (fun z => V.o (nat1 z)) (by first | rfl | omega))), ks rfl .dt, trivial⟩
              · skip
                refine ACode.skip ?_
                refine kb_n ?_
                refine ks_n ?_
                refine ACode.region ?_
                refine .cons (.mv rfl rfl) ?_
                refine .cons (.pl rfl rfl rfl) ?_
                refine .cons (.asg rfl rfl) ?_
                refine .nil ?_
                refine kl_k [] ⟨i + 1, min c (affEval a x), max d (affEval a x), rfl, by omega, by rw [hF1, mnQ_drop hx1], by rw [hF2, mxQ_drop hx1], rfl⟩ ⟨ks rfl .dt, ks rfl .dt, ks rfl (.dt (congrArg (fun z => V.o (nat1 z)) (by first | rfl | omega))), ks rfl (.dt (congrArg (fun z => V.o (nat1 z)) (by first | rfl | omega))), ks rfl .dt, trivial⟩
            · skip
              refine ACode.skip ?_
              refine ks_n ?_
              refine ACode.seq ?_
              refine ACode.region ?_
              refine .cons (.mv rfl rfl) ?_
              refine .cons (.mv rfl rfl) ?_
              refine .cons (.gt rfl rfl rfl) ?_
              refine .nil ?_
              refine ks_n ?_
              refine .cD rfl (fun h61 => ?_) (fun h61 => ?_)
              · skip
                refine ACode.region ?_
                refine .cons (.mv rfl rfl) ?_
                refine .cons (.asg rfl rfl) ?_
                refine .nil ?_
                refine kb_n ?_
                refine ks_n ?_
                refine ACode.region ?_
                refine .cons (.mv rfl rfl) ?_
                refine .cons (.pl rfl rfl rfl) ?_
                refine .cons (.asg rfl rfl) ?_
                refine .nil ?_
                refine kl_k [] ⟨i + 1, min c (affEval a x), max d (affEval a x), rfl, by omega, by rw [hF1, mnQ_drop hx1], by rw [hF2, mxQ_drop hx1], rfl⟩ ⟨ks rfl .dt, ks rfl .dt, ks rfl (.dt (congrArg (fun z => V.o (nat1 z)) (by first | rfl | omega))), ks rfl (.dt (congrArg (fun z => V.o (nat1 z)) (by first | rfl | omega))), ks rfl .dt, trivial⟩
              · skip
                refine ACode.skip ?_
                refine kb_n ?_
                refine ks_n ?_
                refine ACode.region ?_
                refine .cons (.mv rfl rfl) ?_
                refine .cons (.pl rfl rfl rfl) ?_
                refine .cons (.asg rfl rfl) ?_
                refine .nil ?_
                refine kl_k [] ⟨i + 1, min c (affEval a x), max d (affEval a x), rfl, by omega, by rw [hF1, mnQ_drop hx1], by rw [hF2, mxQ_drop hx1], rfl⟩ ⟨ks rfl .dt, ks rfl .dt, ks rfl (.dt (congrArg (fun z => V.o (nat1 z)) (by first | rfl | omega))), ks rfl (.dt (congrArg (fun z => V.o (nat1 z)) (by first | rfl | omega))), ks rfl .dt, trivial⟩
          · skip
            have hL : loQ a (npR ns) = c := by rw [hF1, List.drop_of_length_le (by omega)]; rfl
            have hH : hiQ a (npR ns) = d := by rw [hF2, List.drop_of_length_le (by omega)]; rfl
            refine ACode.exit ?_
            refine ks_e ?_
            refine kl_e ?_
            refine kb_hit ?_
            refine ks_n ?_
            refine ACode.seq ?_
            refine ACode.region ?_
            refine .cons (.mv rfl rfl) ?_
            refine .cons (.mv rfl rfl) ?_
            refine .cons (.asg rfl rfl) ?_
            refine .cons (.asg rfl rfl) ?_
            refine .cons (.asg rfl rfl) ?_
            refine .nil ?_
            refine ks_n ?_
            refine ACode.ret ?_
            refine kf_ret rfl ?_ nobox
            have e : srV ns a = (loQ a (npR ns), hiQ a (npR ns), true) := if_pos ⟨by assumption, by omega, by assumption, by omega⟩
            rw [e, hL, hH]; rfl

end Go.Proofs.Ytgcpdpbapgkdjaa

/- Sizes of lists of affine expressions; condition: none. -/
namespace Go.Proofs.Ytgcpdpbapgkdjaa
set_option linter.unusedVariables false
set_option linter.unusedSimpArgs false
open Go.RowKit

def szAs (l : List Aff) : Nat := l.length + (l.map fun a => a.1.length).sum
theorem szAs_mem {l : List Aff} {a : Aff} (h : a ∈ l) : l.length + a.1.length ≤ szAs l := by
  rw [szAs]
  have : ∀ (l : List Nat) (n : Nat), n ∈ l → n ≤ l.sum := by
    intro l
    induction l with
    | nil => intro n h; cases h
    | cons m l ih =>
      intro n h
      rw [List.sum_cons]
      rcases List.mem_cons.1 h with rfl | h
      · omega
      · have := ih n h; omega
  have := this _ _ (List.mem_map_of_mem (f := fun a : Aff => a.1.length) h)
  omega
theorem szAs_len (l : List Aff) : l.length ≤ szAs l := Nat.le_add_right _ _
/-- No list is too long. -/
def okA (x : Aff) : Prop := x.1.length ≤ 17592186044416
def okAs (l : List Aff) : Prop := l.length ≤ 17592186044416 ∧ ∀ x ∈ l, okA x
end Go.Proofs.Ytgcpdpbapgkdjaa

/- Arguments of laws: sizes of numbers and affine expressions; condition: lists as long as memory lets them be. -/
namespace Go.Proofs.Ytgcpdpbapgkdjaa
set_option linter.unusedVariables false
set_option linter.unusedSimpArgs false
open Go.RowKit

/-- What is left of l behind n, or -1. -/
def subZ (l : Int) (n : Nat) : Int := if (n : Int) ≤ l then l - n else -1
theorem subZ_yes {l : Int} {n : Nat} (h : (n : Int) ≤ l) : subZ l n = l - n := if_pos h
theorem subZ_no {l : Int} {n : Nat} (h : ¬ (n : Int) ≤ l) : subZ l n = -1 := if_neg h
theorem subZ_neg {l : Int} {n : Nat} (h : subZ l n < 0) (hl : 0 ≤ l) : ¬ (n : Int) ≤ l := fun h2 => by rw [subZ_yes h2] at h; omega
theorem subZ_pos {l : Int} {n : Nat} (h : ¬ subZ l n < 0) : (n : Int) ≤ l := Classical.byContradiction fun h2 => by rw [subZ_no h2] at h; omega
theorem subZ_bd {l : Int} {n : Nat} (hl : 0 ≤ l ∧ l ≤ 1048576) : -1 ≤ subZ l n ∧ subZ l n ≤ 1048576 := by
  unfold subZ; split <;> omega
theorem sum_take {α : Type} (f : α → Nat) {l : List α} {i : Nat} {x : α} (h : l[i]? = some x) : ((l.take (i + 1)).map f).sum = ((l.take i).map f).sum + f x := by
  rw [List.take_add_one, h, List.map_append, List.sum_append]; simp
theorem sum_take_le {α : Type} (f : α → Nat) : ∀ {l : List α} {i : Nat}, ((l.take i).map f).sum ≤ (l.map f).sum
  | [], i => by simp
  | y :: l, 0 => by simp
  | y :: l, i + 1 => by rw [List.take_succ_cons, List.map_cons, List.map_cons, List.sum_cons, List.sum_cons]; have := sum_take_le f (l := l) (i := i); omega

set_option maxRecDepth 100000 in
set_option maxHeartbeats 1600000 in
theorem szInts_fn (xs : List Int) {l : Int} (hl : 0 ≤ l ∧ l ≤ 1048576) (hx : xs.length ≤ 17592186044416) : Fn Try.prog 75 [] [vD (dIs xs), nat1 l] (.o (nat1 (subZ l xs.length))) [] := by
  refine Fn.code0 Try.func75 rfl rfl rfl rfl ?_
  refine ACode.seq ?_
  refine ACode.region ?_
  refine .cons (.asg rfl rfl) ?_
  refine .nil ?_
  refine ks_n ?_
  refine ACode.seq ?_
  refine ACode.region ?_
  refine .cons (.mv rfl rfl) ?_
  refine .cons (.mv rfl rfl) ?_
  refine .cons (.ln 3 1 8 rfl rfl rfl) ?_
  refine .cons (.sb rfl rfl rfl) ?_
  refine .cons (.asg rfl rfl) ?_
  refine .nil ?_
  refine ks_n ?_
  refine ACode.seq ?_
  refine ACode.seq ?_
  refine ACode.region ?_
  refine .cons (.mv rfl rfl) ?_
  refine .cons (.ls rfl rfl rfl) ?_
  refine .nil ?_
  refine ks_n ?_
  refine .cD rfl (fun h10 => ?_) (fun h10 => ?_)
  · skip
    refine ACode.seq ?_
    refine ACode.region ?_
    refine .cons (.asg rfl rfl) ?_
    refine .nil ?_
    refine ks_n ?_
    refine ACode.ret ?_
    refine ks_r ?_
    refine kf_ret rfl ?_ nobox
    exact leafI (by first | (rw [subZ_yes (by omega)]; done) | (rw [subZ_no (by omega)]) | (rw [subZ_yes (by omega)]; omega))
  · skip
    refine ACode.skip ?_
    refine ks_n ?_
    refine ACode.seq ?_
    refine ACode.region ?_
    refine .cons (.mv rfl rfl) ?_
    refine .cons (.asg rfl rfl) ?_
    refine .nil ?_
    refine ks_n ?_
    refine ACode.ret ?_
    refine kf_ret rfl ?_ nobox
    exact leafI (by first | (rw [subZ_yes (by omega)]; done) | (rw [subZ_no (by omega)]) | (rw [subZ_yes (by omega)]; omega))

set_option maxRecDepth 100000 in
set_option maxHeartbeats 1600000 in
theorem szAff_fn {x : Aff} {l : Int} (hl : 0 ≤ l ∧ l ≤ 1048576) (hx : x.1.length ≤ 17592186044416) : Fn Try.prog 32 [] [ad (rA x), nat1 l] (.o (nat1 (subZ l x.1.length))) [] := by
  have hb := subZ_bd (n := x.1.length) hl
  refine Fn.code0 Try.func32 rfl rfl rfl rfl ?_
  refine ACode.seq ?_
  refine ACode.region ?_
  refine .cons (St1.boxP rfl rfl rfl rfl rfl rfl) ?_
  refine .cons (.asg rfl rfl) ?_
  refine .nil ?_
  refine ks_n ?_
  refine ACode.seq ?_
  refine ACode.region ?_
  refine .cons (.fP 0 0 false rfl rfl) ?_
  refine .cons (.l1 1 rfl rfl) ?_
  refine .cons (.mv rfl rfl) ?_
  refine .cons (.cP [.tmp 6, .tmp 7] rfl rfl rfl rfl (szInts_fn x.1 hl hx) rfl) ?_
  refine .cons (.asg rfl rfl) ?_
  refine .nil ?_
  refine ks_n ?_
  refine ACode.seq ?_
  refine ACode.seq ?_
  refine ACode.region ?_
  refine .cons (.mv rfl rfl) ?_
  refine .cons (.ls rfl rfl rfl) ?_
  refine .nil ?_
  refine ks_n ?_
  refine .cD rfl (fun h10 => ?_) (fun h10 => ?_)
  · skip
    refine ACode.seq ?_
    refine ACode.region ?_
    refine .cons (.asg rfl rfl) ?_
    refine .nil ?_
    refine ks_n ?_
    refine ACode.ret ?_
    refine ks_r ?_
    refine kf_ret rfl ?_ nobox
    exact leafI (subZ_no (subZ_neg h10 hl.1)).symm
  · skip
    refine ACode.skip ?_
    refine ks_n ?_
    refine ACode.seq ?_
    refine ACode.region ?_
    refine .cons (.mv rfl rfl) ?_
    refine .cons (.asg rfl rfl) ?_
    refine .nil ?_
    refine ks_n ?_
    refine ACode.ret ?_
    refine kf_ret rfl ?_ nobox
    rfl

set_option maxRecDepth 100000 in
set_option maxHeartbeats 1600000 in
theorem szAffs_fn (xs : List Aff) {l : Int} (hl : 0 ≤ l ∧ l ≤ 1048576) (hx : xs.length ≤ 17592186044416) (hq : ∀ x ∈ xs, x.1.length ≤ 17592186044416) : Fn Try.prog 103 [] [vD (dAs xs), nat1 l] (.o (nat1 (subZ l (szAs xs)))) [] := by
  refine Fn.code0 Try.func103 rfl rfl rfl rfl ?_
  refine ACode.seq ?_
  refine ACode.region ?_
  refine .cons (.asg rfl rfl) ?_
  refine .nil ?_
  refine ks_n ?_
  refine ACode.seq ?_
  refine ACode.region ?_
  refine .cons (.mv rfl rfl) ?_
  refine .cons (.mv rfl rfl) ?_
  refine .cons (.ln 46 2 32 rfl rfl rfl) ?_
  refine .cons (.sb rfl rfl rfl) ?_
  refine .cons (.asg rfl rfl) ?_
  refine .nil ?_
  refine ks_n ?_
  refine ACode.seq ?_
  refine ACode.seq ?_
  refine ACode.region ?_
  refine .cons (.mv rfl rfl) ?_
  refine .cons (.ls rfl rfl rfl) ?_
  refine .nil ?_
  refine ks_n ?_
  refine .cD rfl (fun h11 => ?_) (fun h11 => ?_)
  · skip
    refine ACode.seq ?_
    refine ACode.region ?_
    refine .cons (.asg rfl rfl) ?_
    refine .nil ?_
    refine ks_n ?_
    refine ACode.ret ?_
    refine ks_r ?_
    refine kf_ret rfl ?_ nobox
    exact leafI (subZ_no (by rw [szAs]; omega)).symm
  · skip
    refine ACode.skip ?_
    refine ks_n ?_
    refine ACode.seq ?_
    refine ACode.seq ?_
    refine ACode.region ?_
    refine .cons (.asg rfl rfl) ?_
    refine .nil ?_
    refine ks_n ?_
    refine ACode.block ?_
    refine .loopK (fun m σ => (∃ i : Nat, m = xs.length - i ∧ (i ≤ xs.length) ∧ (((xs.length + ((xs.take i).map fun a => a.1.length).sum : Nat) : Int) ≤ l) ∧ σ = [(.t 0, .v (.o (vD (dAs xs)))), (.t 1, .v (.o (nat1 (l - (xs.length + ((xs.take i).map fun a => a.1.length).sum : Nat))))), (.t 4, .v (.o (nat1 0))), (.t 5, .v (.o (nat1 (i : Nat))))])) [] ⟨0, rfl, by omega, by simp; omega, rfl⟩ ⟨ks rfl .dt, ks rfl (.dt (vI (by first | (simp; done) | (rw [hT, subZ_yes (by omega)]; omega)))), ks rfl .dt, ks rfl .dt, trivial⟩ ?_
    rintro m σ ⟨i, hm0, hi, hF, rfl⟩
    refine ACode.seq ?_
    refine ACode.seq ?_
    refine ACode.region ?_
    refine .cons (.mv rfl rfl) ?_
    refine .cons (.mv rfl rfl) ?_
    refine .cons (.ln 46 2 32 rfl rfl rfl) ?_
    refine .cons (.ls rfl rfl rfl) ?_
    refine .nil ?_
    refine ks_n ?_
    refine .cD rfl (fun h15 => ?_) (fun h15 => ?_)
    · skip
      obtain ⟨x, hx1⟩ : ∃ x, xs[i]? = some x := ⟨_, List.getElem?_eq_getElem (by omega)⟩
      have hT := sum_take (fun a : Aff => a.1.length) hx1
      refine ACode.skip ?_
      refine ks_n ?_
      refine ACode.seq ?_
      refine ACode.block ?_
      refine ACode.seq ?_
      refine ACode.region ?_
      refine .cons (.mv rfl rfl) ?_
      refine .cons (.mv rfl rfl) ?_
      refine .cons (.xL 46 2 32 rfl rfl rfl rfl rfl) ?_
      refine .cons (.lN 2 rfl rfl rfl) ?_
      refine .cons (.mv rfl rfl) ?_
      refine .cons (.cP [.tmp 21, .tmp 22] rfl rfl rfl rfl (szAff_fn (l := l - (xs.length + ((xs.take i).map fun a => a.1.length).sum : Nat)) (by omega) (hq x (List.mem_of_getElem? hx1))) rfl) ?_
      refine .cons (.asg rfl rfl) ?_
      refine .nil ?_
      refine ks_n ?_
      refine ACode.seq ?_
      refine ACode.region ?_
      refine .cons (.mv rfl rfl) ?_
      refine .cons (.ls rfl rfl rfl) ?_
      refine .nil ?_
      refine ks_n ?_
      refine .cD rfl (fun h25 => ?_) (fun h25 => ?_)
      · skip
        refine ACode.seq ?_
        refine ACode.region ?_
        refine .cons (.asg rfl rfl) ?_
        refine .nil ?_
        refine ks_n ?_
        refine ACode.ret ?_
        refine kb_r ?_
        refine ks_r ?_
        refine kl_r ?_
        refine kb_r ?_
        refine ks_r ?_
        refine kf_ret rfl ?_ nobox
        exact leafI (subZ_no (by have h1 := subZ_neg h25 (by omega); have h2 := sum_take_le (fun a : Aff => a.1.length) (l := xs) (i := i + 1); rw [szAs]; omega)).symm
      · skip
        have hP := subZ_pos h25
        refine ACode.skip ?_
        refine kb_n ?_
        refine ks_n ?_
        refine ACode.region ?_
        refine .cons (.mv rfl rfl) ?_
        refine .cons (.pl rfl rfl rfl) ?_
        refine .cons (.asg rfl rfl) ?_
        refine .nil ?_
        refine kl_k [] ⟨i + 1, rfl, by omega, by rw [hT]; have := subZ_pos h25; omega, rfl⟩ ⟨ks rfl .dt, ks rfl (.dt (vI (by first | (simp; done) | (rw [hT, subZ_yes (by omega)]; omega)))), ks rfl .dt, ks rfl .dt, trivial⟩
    · skip
      have hall : xs.take i = xs := List.take_of_length_le (by omega)
      refine ACode.exit ?_
      refine ks_e ?_
      refine kl_e ?_
      refine kb_hit ?_
      refine ks_n ?_
      refine ACode.seq ?_
      refine ACode.region ?_
      refine .cons (.mv rfl rfl) ?_
      refine .cons (.asg rfl rfl) ?_
      refine .nil ?_
      refine ks_n ?_
      refine ACode.ret ?_
      refine kf_ret rfl ?_ nobox
      exact leafI (by rw [subZ_yes (by rw [szAs, ← hall]; rw [hall]; rw [hall] at hF; omega), szAs, hall])

end Go.Proofs.Ytgcpdpbapgkdjaa

/- append of nothing to nothing; texts compared; condition: what the operands hold. -/
namespace Go.Proofs.Ytgcpdpbapgkdjaa
set_option linter.unusedVariables false
set_option linter.unusedSimpArgs false
open Go.RowKit

section
variable {P : Program} {n : Nat} {ops : Array Oper} {o : Oper} {σ : St} {d : Nat}
/-- A struct's zero cells, told as data: a nil slice may be told as the empty list. -/
inductive ZR : List Value → List D → Prop
  | nil : ZR [] []
  | val {z : Value} {zs : List Value} {ds : List D} (h : z.oneCell' = true) (hs : ZR zs ds) : ZR (z :: zs) (.val z :: ds)
  | list {zs : List Value} {ds : List D} (sz : Nat) (hs : ZR zs ds) : ZR (.slice none 0 0 :: zs) (.list sz [] :: ds)
theorem dr_empty {B : Nat → Prop} {w : World} (sz : Nat) : Dr B w (.list sz []) (.slice none 0 0) :=
  Dr.list sz [] none 0 0 0 0 (fun _ _ => undef) rfl (Nat.le_refl _) (by omega) (fun _ => rfl) (fun h => by simp at h) (fun i r h => by simp at h) (fun i r j x h => by simp at h) (fun i r j x h => by simp at h)
theorem ZR.cells {bx : Nat → Nat × Nat} {al B : Nat → Prop} {w : World} {zs : List Value} {ds : List D} (h : ZR zs ds) : zs.length = ds.length ∧ ∀ (i : Nat) c u, (ds.map C.d)[i]? = some c → zs[i]? = some u → Cr bx al B w c u := by
  induction h with
  | nil => exact ⟨rfl, fun i c u h => by simp at h⟩
  | val h hs ih =>
    refine ⟨by simp [ih.1], fun i c u hc hu => ?_⟩
    cases i with
    | zero => cases hc; cases hu; exact Dr.val _ h
    | succ i => exact ih.2 i c u hc hu
  | list sz hs ih =>
    refine ⟨by simp [ih.1], fun i c u hc hu => ?_⟩
    cases i with
    | zero => cases hc; cases hu; exact dr_empty sz
    | succ i => exact ih.2 i c u hc hu
end
end Go.Proofs.Ytgcpdpbapgkdjaa

/- make of slices, over abstract states; rows filled one by one; condition: what the operands hold. -/
namespace Go.Proofs.Ytgcpdpbapgkdjaa
set_option linter.unusedVariables false
set_option linter.unusedSimpArgs false
open Go.RowKit

def tyMk (P : Program) (t : TypeId) : Option (TypeId × Nat × Nat × List Value) :=
  match P.underlying t with
  | some (.slice e) => (P.info? e).bind fun i => i.zero.map fun z => (e, i.size, i.bytes, z.cells.toList)
  | _ => none
theorem tyMk_out {P : Program} {t e : TypeId} {sz by' : Nat} {zs : List Value} (h : tyMk P t = some (e, sz, by', zs)) : P.underlying t = some (.slice e) ∧ ∃ i z, P.info? e = some i ∧ i.zero = some z ∧ i.size = sz ∧ i.bytes = by' ∧ z.cells.toList = zs := by
  unfold tyMk at h
  cases hu : P.underlying t with
  | none => simp [hu] at h
  | some d =>
    cases d <;> simp only [hu, reduceCtorEq] at h
    case slice e' =>
      cases hi : P.info? e' with
      | none => rw [hi] at h; cases h
      | some i =>
        cases hz : i.zero with
        | none => rw [hi] at h; simp [hz] at h
        | some z =>
          rw [hi] at h
          simp only [Option.bind_some, hz, Option.map_some, Option.some.injEq, Prod.mk.injEq] at h
          obtain ⟨rfl, h1, h2, h3⟩ := h
          exact ⟨rfl, i, z, hi, hz, h1, h2, h3⟩
theorem made_at {z : Value} {n i j sz : Nat} {u : Value} (hs : z.cells.toList.length = sz) (hi : i < n) (hu : z.cells.toList[j]? = some u) : (madeCells z.cells (n * sz))[i * sz + j]? = some u := by
  have hj : j < sz := by rw [← hs]; exact (List.getElem?_eq_some_iff.1 hu).1
  have hlt : i * sz + j < n * sz := by
    have := Nat.mul_le_mul_right sz (show i + 1 ≤ n by omega)
    rw [Nat.add_mul] at this; omega
  have hz : z.cells.size = sz := by rw [← hs, Array.length_toList]
  have hm : (i * sz + j) % sz = j := by rw [Nat.add_comm, Nat.add_mul_mod_self_right, Nat.mod_eq_of_lt hj]
  rw [Array.getElem?_toList] at hu
  simp [madeCells, hlt, hz, hm, Array.getElem!_eq_getD, hu, Array.getD_eq_getD_getElem?]
section
variable {P : Program} {n : Nat} {ops : Array Oper} {o : Oper} {σ : St} {d : Nat}
theorem St1.mk (k' : Nat) (e : TypeId) (sz by' : Nat) (zs : List Value) {t : TypeId} {x y : Operand} {m : Nat} (h4 : (o.op, o.guard, o.dst, Nat.blt d n) = (Op.makeSlice t x y, none, some d, true)) (hx : ev σ x = some (.o (nat1 (m : Nat)))) (hy : ev σ y = some (.o (nat1 (m : Nat)))) (hm : m ≤ 1073741824) (hz : (Nat.beq zs.length sz && zs.all (·.oneCell') && Nat.ble by' 65536) = true)
    (hf : (lk σ (.u k'), Nat.ble 100 k') = (.no, true)) (ht : tyMk P t = some (e, sz, by', zs) := by kernel_rfl) :
    St1 P n ops o σ (.u k' :: (rd x ++ rd y)) [.t d, .u k', .b k', .b k'] ((.t d, .v (.o (.c (.own k' sz m)))) :: (.u k', .u) :: (.b k', .b e sz (dR (List.replicate m (zs.map D.val)))) :: (.b k', .no) :: σ) := by
  simp only [Prod.mk.injEq] at h4 hf
  obtain ⟨ho, hg, hd, hn⟩ := h4
  simp only [Bool.and_eq_true] at hz
  have hzl : zs.length = sz := Nat.eq_of_beq_eq_true hz.1.1
  have hz1 : ∀ u ∈ zs, u.oneCell' = true := fun u hu => List.all_eq_true.1 hz.1.2 u hu
  have hby := Nat.le_of_ble_eq_true hz.2
  have hrow : ∀ {i : Nat} {r : List C}, (dR (List.replicate m (zs.map D.val)))[i]? = some r → i < m ∧ r = zs.map fun u => C.d (.val u) := fun {i r} h => by
    rw [dR, List.map_replicate, List.map_map] at h
    have hi : i < m := by have := (List.getElem?_eq_some_iff.1 h).1; simpa using this
    rw [List.getElem?_replicate, if_pos hi] at h
    exact ⟨hi, (Option.some.inj h).symm⟩
  refine St1.place hg hd hn hf.1 hf.2 (okk_self hf.2) rfl fun E bx τ a w hR hs => ?_
  obtain ⟨hu, i, z, hi, hzz, hs1, hs2, hs3⟩ := tyMk_out ht
  have hbm : i.bytes * m ≤ 281474976710656 := by
    have := Nat.mul_le_mul (show i.bytes ≤ 65536 by omega) hm; omega
  have hb' : (i.bytes : Int) * (m : Int) ≤ 281474976710656 := by
    have h : ((i.bytes * m : Nat) : Int) ≤ 281474976710656 := by omega
    rwa [Int.natCast_mul] at h
  have hr := run_make (P := P) w t e i z hu hi hzz .i64 .i64 (m : Int) (m : Int) (by omega) (Int.le_refl _) hb' (by omega)
  simp only [Int.toNat_natCast, hs1] at hr
  have hsz : (madeCells z.cells (m * sz)).size = m * sz := size_madeCells _ _
  refine ⟨.slice (some ⟨w.heap.size, 0, none⟩) m m, w.alloc (.cells (madeCells z.cells (m * sz)) e), w.heap.size, w.heap.size, madeCells z.cells (m * sz), ?_, .inr (Nat.le_refl _), World.grownBy_alloc w _ _, .inl rfl, heap_alloc_new w _, ?_, fun i r hi => ?_, fun i r j c hi hj => ?_, fun r hr' c hc l hl => ?_, fun bx' al B w2 hbx => ⟨rfl, fun _ => ⟨m, by rw [hbx], Nat.le_refl _, by unfold maxLen; omega, by rw [hbx, hsz]⟩⟩⟩
  · simp only [execOp, ho, ev_val hx (rd_l hR) hs, ev_val hy (rd_r hR) hs, Sem.run_bind, hr]; rfl
  · rw [hsz, dR, List.length_map, List.length_replicate]; exact Nat.le_refl _
  · rw [(hrow hi).2, List.length_map, hzl]
  · obtain ⟨h1, rfl⟩ := hrow hi
    rw [List.getElem?_map] at hj
    cases hq : zs[j]? with
    | none => rw [hq] at hj; cases hj
    | some u =>
      rw [hq] at hj; cases hj
      exact ⟨u, made_at (by rw [hs3, hzl]) h1 (by rw [hs3]; exact hq), .val _ (hz1 u (List.mem_of_getElem? hq))⟩
  · obtain ⟨i, hi⟩ := List.mem_iff_getElem?.1 hr'
    obtain ⟨_, rfl⟩ := hrow hi
    obtain ⟨u, _, rfl⟩ := List.mem_map.1 hc
    cases hl
end
/-- Rows of which the first have been filled. -/
theorem fill_at {α : Type} {f : α → List D} {z : List D} {l : List α} {i : Nat} (h : i < l.length) : (dR ((l.take i).map f ++ List.replicate (l.length - i) z))[i]? = some (z.map C.d) := by
  rw [dR, List.getElem?_map, List.getElem?_append_right (by rw [List.length_map, List.length_take]; omega), List.length_map, List.length_take, Nat.min_eq_left (by omega), Nat.sub_self, List.getElem?_replicate, if_pos (by omega)]; rfl
theorem fill_set {α : Type} (f : α → List D) {z : List D} {l : List α} {i : Nat} {x : α} {r : List C} (h : l[i]? = some x) (hr : r = (f x).map C.d) : (dR ((l.take i).map f ++ List.replicate (l.length - i) z)).set i r = dR ((l.take (i + 1)).map f ++ List.replicate (l.length - (i + 1)) z) := by
  subst hr
  have hi := (List.getElem?_eq_some_iff.1 h).1
  have hl : (List.map (fun x => List.map C.d x) ((l.take i).map f)).length = i := by simp; omega
  rw [dR, dR, List.map_append, List.map_append, List.set_append_right _ _ (by omega), hl, Nat.sub_self, show l.length - i = (l.length - (i + 1)) + 1 by omega, List.replicate_succ, List.map_cons, List.set_cons_zero, List.take_add_one, h, List.map_append, List.map_append, List.append_assoc]
  rfl
theorem fill_new {α : Type} (f : α → List D) {z : List D} (l : List α) : dR (List.replicate l.length z) = dR ((l.take 0).map f ++ List.replicate (l.length - 0) z) := by simp
theorem fill_end {α : Type} (f : α → List D) {z : List D} (l : List α) : dR ((l.take l.length).map f ++ List.replicate (l.length - l.length) z) = dR (l.map f) := by rw [List.take_length, Nat.sub_self]; simp
end Go.Proofs.Ytgcpdpbapgkdjaa

/- Arguments of laws: copies and equality of numbers and affine expressions; condition: small lists. -/
namespace Go.Proofs.Ytgcpdpbapgkdjaa
set_option linter.unusedVariables false
set_option linter.unusedSimpArgs false
open Go.RowKit

set_option maxRecDepth 100000 in
set_option maxHeartbeats 1600000 in
theorem toInts_fn (xs : List Int) (hx : xs.length ≤ 1073741824) : Fn Try.prog 80 [] [vD (dIs xs)] (.o (vD (dIs xs))) [] := by
  refine Fn.code0 Try.func80 rfl rfl rfl rfl ?_
  refine ACode.seq ?_
  refine ACode.region ?_
  refine .cons (.asg rfl rfl) ?_
  refine .nil ?_
  refine ks_n ?_
  refine ACode.seq ?_
  refine ACode.region ?_
  refine .cons (.mv rfl rfl) ?_
  refine .cons (.ln 3 1 8 rfl rfl rfl) ?_
  refine .cons (.mk 107 3 1 8 [.int .i64 0] rfl rfl rfl (by omega) rfl rfl) ?_
  refine .cons (.asg rfl rfl) ?_
  refine .nil ?_
  refine ks_n ?_
  refine ACode.seq ?_
  refine ACode.seq ?_
  refine ACode.region ?_
  refine .cons (.asg rfl rfl) ?_
  refine .nil ?_
  refine ks_n ?_
  refine ACode.block ?_
  refine .loopK (fun m σ => (∃ i : Nat, m = xs.length - i ∧ (i ≤ xs.length) ∧ (True) ∧ σ = [(.t 0, .v (.o (vD (dIs xs)))), (.t 2, .v (.o (.c (.d (.val (.slice none 0 0)))))), (.t 3, .v (.o (.c (.own 110 1 (xs.length))))), (.t 4, .v (.o (nat1 (i : Nat)))), (.b 110, .b 3 1 (dR ((xs.take i).map (rI) ++ List.replicate (xs.length - i) [dI 0]))), (.u 110, .u)])) [(110, 107)] ⟨0, rfl, by omega, trivial, rfl⟩ ⟨ks rfl .dt, ks rfl .dt, ks rfl (.c .ow), ks rfl .dt, kb 107 rfl (.dt rfl (by first | exact fill_new (rI) xs | exact fill_set (rI) hx1 rfl)), trivial⟩ ?_
  rintro m σ ⟨i, hm0, hi, hF, rfl⟩
  refine ACode.seq ?_
  refine ACode.seq ?_
  refine ACode.region ?_
  refine .cons (.mv rfl rfl) ?_
  refine .cons (.mv rfl rfl) ?_
  refine .cons (.ln 3 1 8 rfl rfl rfl) ?_
  refine .cons (.ls rfl rfl rfl) ?_
  refine .nil ?_
  refine ks_n ?_
  refine .cD rfl (fun h11 => ?_) (fun h11 => ?_)
  · skip
    obtain ⟨x, hx1⟩ : ∃ x, xs[i]? = some x := ⟨_, List.getElem?_eq_getElem (by omega)⟩
    refine ACode.skip ?_
    refine ks_n ?_
    refine ACode.seq ?_
    refine ACode.block ?_
    refine ACode.region ?_
    refine .cons (.mv rfl rfl) ?_
    refine .cons (.mv rfl rfl) ?_
    refine .cons (.mv rfl rfl) ?_
    refine .cons (.mv rfl rfl) ?_
    refine .cons (.xL 3 1 8 rfl rfl rfl rfl rfl (map_at hx1)) ?_
    refine .cons (.l1 1 rfl rfl) ?_
    refine .cons (.xB 3 1 8 rfl rfl rfl rfl rfl rfl (by omega)) ?_
    refine .cons (.sT 1 false rfl rfl rfl rfl (fill_at (by omega)) rfl rfl) ?_
    refine .nil ?_
    refine kb_n ?_
    refine ks_n ?_
    refine ACode.region ?_
    refine .cons (.mv rfl rfl) ?_
    refine .cons (.pl rfl rfl rfl) ?_
    refine .cons (.asg rfl rfl) ?_
    refine .nil ?_
    refine kl_k [(110, 110)] ⟨i + 1, rfl, by omega, trivial, rfl⟩ ⟨ks rfl .dt, ks rfl .dt, ks rfl (.c .ow), ks rfl .dt, kb 110 rfl (.dt rfl (by first | exact fill_new (rI) xs | exact fill_set (rI) hx1 rfl)), trivial⟩
  · skip
    obtain rfl : i = xs.length := by omega
    refine ACode.exit ?_
    refine ks_e ?_
    refine kl_e ?_
    refine kb_hit ?_
    refine ks_n ?_
    refine ACode.seq ?_
    refine ACode.region ?_
    refine .cons (.mv rfl rfl) ?_
    refine .cons (.asg rfl rfl) ?_
    refine .nil ?_
    refine ks_n ?_
    refine ACode.ret ?_
    refine kf_wret [(.t 2, .v (.o (vD (dIs xs))))] (Wk.keep [] rfl rfl ⟨ks rfl (.c (.fz rfl (fill_end (rI) xs) (by simp) (by omega))), trivial⟩) rfl ?_ nobox
    rfl

set_option maxRecDepth 100000 in
set_option maxHeartbeats 1600000 in
theorem toAff_fn {x : Aff} (hx : x.1.length ≤ 1073741824) : Fn Try.prog 35 [] [ad (rA x)] (.o (ad (rA x))) [] := by
  refine Fn.code0 Try.func35 rfl rfl rfl rfl ?_
  refine ACode.seq ?_
  refine ACode.region ?_
  refine .cons (St1.boxP rfl rfl rfl rfl rfl rfl) ?_
  refine .cons (.al 102 [.slice none 0 0, .int .i64 0] rfl rfl rfl) ?_
  refine .nil ?_
  refine ks_n ?_
  refine ACode.seq ?_
  refine ACode.region ?_
  refine .cons (.al 103 [.slice none 0 0, .int .i64 0] rfl rfl rfl) ?_
  refine .nil ?_
  refine ks_n ?_
  refine ACode.seq ?_
  refine ACode.region ?_
  refine .cons (.fP 0 0 false rfl rfl) ?_
  refine .cons (.l1 1 rfl rfl) ?_
  refine .cons (.cP [.tmp 5] rfl rfl rfl rfl (toInts_fn x.1 hx) rfl) ?_
  refine .cons (.fB 0 0 false rfl rfl rfl) ?_
  refine .cons (.sT 1 false rfl rfl rfl rfl rfl rfl rfl) ?_
  refine .nil ?_
  refine ks_n ?_
  refine ACode.seq ?_
  refine ACode.region ?_
  refine .cons (.fP 1 0 false rfl rfl) ?_
  refine .cons (.l1 1 rfl rfl) ?_
  refine .cons (.fB 1 0 false rfl rfl rfl) ?_
  refine .cons (.sT 1 false rfl rfl rfl rfl rfl rfl rfl) ?_
  refine .nil ?_
  refine ks_n ?_
  refine ACode.seq ?_
  refine ACode.region ?_
  refine .cons (.bN 2 rfl rfl rfl rfl rfl rfl) ?_
  refine .cons (.sT 2 true rfl rfl rfl rfl rfl rfl rfl) ?_
  refine .nil ?_
  refine ks_n ?_
  refine ACode.ret ?_
  refine kf_ret rfl ?_ nobox
  rfl

set_option maxRecDepth 100000 in
set_option maxHeartbeats 1600000 in
theorem toAffs_fn (xs : List Aff) (hx : xs.length ≤ 1073741824) (hq : ∀ x ∈ xs, x.1.length ≤ 1073741824) : Fn Try.prog 104 [] [vD (dAs xs)] (.o (vD (dAs xs))) [] := by
  refine Fn.code0 Try.func104 rfl rfl rfl rfl ?_
  refine ACode.seq ?_
  refine ACode.region ?_
  refine .cons (.asg rfl rfl) ?_
  refine .nil ?_
  refine ks_n ?_
  refine ACode.seq ?_
  refine ACode.region ?_
  refine .cons (.mv rfl rfl) ?_
  refine .cons (.ln 46 2 32 rfl rfl rfl) ?_
  refine .cons (.mk 107 51 2 32 [.slice none 0 0, .int .i64 0] rfl rfl rfl (by omega) rfl rfl) ?_
  refine .cons (.asg rfl rfl) ?_
  refine .nil ?_
  refine ks_n ?_
  refine ACode.seq ?_
  refine ACode.seq ?_
  refine ACode.region ?_
  refine .cons (.asg rfl rfl) ?_
  refine .nil ?_
  refine ks_n ?_
  refine ACode.block ?_
  refine .loopK (fun m σ => (∃ i : Nat, m = xs.length - i ∧ (i ≤ xs.length) ∧ (True) ∧ σ = [(.t 0, .v (.o (vD (dAs xs)))), (.t 2, .v (.o (.c (.d (.val (.slice none 0 0)))))), (.t 3, .v (.o (.c (.own 110 2 (xs.length))))), (.t 4, .v (.o (nat1 (i : Nat)))), (.b 110, .b 51 2 (dR ((xs.take i).map (rA) ++ List.replicate (xs.length - i) [.val (.slice none 0 0), dI 0]))), (.u 110, .u)])) [(110, 107)] ⟨0, rfl, by omega, trivial, rfl⟩ ⟨ks rfl .dt, ks rfl .dt, ks rfl (.c .ow), ks rfl .dt, kb 107 rfl (.dt rfl (by first | exact fill_new (rA) xs | exact fill_set (rA) hx1 rfl)), trivial⟩ ?_
  rintro m σ ⟨i, hm0, hi, hF, rfl⟩
  refine ACode.seq ?_
  refine ACode.seq ?_
  refine ACode.region ?_
  refine .cons (.mv rfl rfl) ?_
  refine .cons (.mv rfl rfl) ?_
  refine .cons (.ln 46 2 32 rfl rfl rfl) ?_
  refine .cons (.ls rfl rfl rfl) ?_
  refine .nil ?_
  refine ks_n ?_
  refine .cD rfl (fun h11 => ?_) (fun h11 => ?_)
  · skip
    obtain ⟨x, hx1⟩ : ∃ x, xs[i]? = some x := ⟨_, List.getElem?_eq_getElem (by omega)⟩
    refine ACode.skip ?_
    refine ks_n ?_
    refine ACode.seq ?_
    refine ACode.block ?_
    refine ACode.region ?_
    refine .cons (.mv rfl rfl) ?_
    refine .cons (.mv rfl rfl) ?_
    refine .cons (.mv rfl rfl) ?_
    refine .cons (.mv rfl rfl) ?_
    refine .cons (.xL 46 2 32 rfl rfl rfl rfl rfl (map_at hx1)) ?_
    refine .cons (.lN 2 rfl rfl rfl) ?_
    refine .cons (.cP [.tmp 19] rfl rfl rfl rfl (toAff_fn (hq x (List.mem_of_getElem? hx1))) rfl) ?_
    refine .cons (.xB 51 2 32 rfl rfl rfl rfl rfl rfl (by omega)) ?_
    refine .cons (.sT 2 true rfl rfl rfl rfl (fill_at (by omega)) rfl rfl) ?_
    refine .nil ?_
    refine kb_n ?_
    refine ks_n ?_
    refine ACode.region ?_
    refine .cons (.mv rfl rfl) ?_
    refine .cons (.pl rfl rfl rfl) ?_
    refine .cons (.asg rfl rfl) ?_
    refine .nil ?_
    refine kl_k [(110, 110)] ⟨i + 1, rfl, by omega, trivial, rfl⟩ ⟨ks rfl .dt, ks rfl .dt, ks rfl (.c .ow), ks rfl .dt, kb 110 rfl (.dt rfl (by first | exact fill_new (rA) xs | exact fill_set (rA) hx1 rfl)), trivial⟩
  · skip
    obtain rfl : i = xs.length := by omega
    refine ACode.exit ?_
    refine ks_e ?_
    refine kl_e ?_
    refine kb_hit ?_
    refine ks_n ?_
    refine ACode.seq ?_
    refine ACode.region ?_
    refine .cons (.mv rfl rfl) ?_
    refine .cons (.asg rfl rfl) ?_
    refine .nil ?_
    refine ks_n ?_
    refine ACode.ret ?_
    refine kf_wret [(.t 2, .v (.o (vD (dAs xs))))] (Wk.keep [] rfl rfl ⟨ks rfl (.c (.fz rfl (fill_end (rA) xs) (by simp) (by omega))), trivial⟩) rfl ?_ nobox
    rfl

set_option maxRecDepth 100000 in
set_option maxHeartbeats 1600000 in
theorem eqInts_f (xs ys : List Int) (hx : xs.length ≤ 1099511627776) : Fn Try.prog 85 [] [vD (dIs xs), vD (dIs ys)] (.o (bo1 (eqF (fun x y : Int => decide (x = y)) xs ys))) [] := by
  refine Fn.code0 Try.func85 rfl rfl rfl rfl ?_
  refine ACode.seq ?_
  refine ACode.region ?_
  refine .cons (.asg rfl rfl) ?_
  refine .nil ?_
  refine ks_n ?_
  refine ACode.seq ?_
  refine ACode.seq ?_
  refine ACode.region ?_
  refine .cons (.mv rfl rfl) ?_
  refine .cons (.ln 3 1 8 rfl rfl rfl) ?_
  refine .cons (.mv rfl rfl) ?_
  refine .cons (.ln 3 1 8 rfl rfl rfl) ?_
  refine .cons (.ne rfl rfl rfl) ?_
  refine .nil ?_
  refine ks_n ?_
  refine .cND rfl (fun h10 => ?_) (fun h10 => ?_)
  · skip
    refine ACode.seq ?_
    refine ACode.region ?_
    refine .cons (.asg rfl rfl) ?_
    refine .nil ?_
    refine ks_n ?_
    refine ACode.ret ?_
    refine ks_r ?_
    refine kf_ret rfl ?_ nobox
    exact leafB (eqF_len (by omega)).symm
  · skip
    refine ACode.skip ?_
    refine ks_n ?_
    refine ACode.seq ?_
    refine ACode.seq ?_
    refine ACode.region ?_
    refine .cons (.asg rfl rfl) ?_
    refine .nil ?_
    refine ks_n ?_
    refine ACode.block ?_
    refine .loopK (fun m σ => (∃ i : Nat, m = xs.length - i ∧ (i ≤ xs.length) ∧ (eqF (fun x y : Int => decide (x = y)) xs ys = eqF (fun x y : Int => decide (x = y)) (xs.drop i) (ys.drop i)) ∧ σ = [(.t 0, .v (.o (vD (dIs xs)))), (.t 1, .v (.o (vD (dIs ys)))), (.t 4, .v (.o (bo1 false))), (.t 5, .v (.o (nat1 (i : Nat))))])) [] ⟨0, rfl, by omega, by simp, rfl⟩ ⟨ks rfl .dt, ks rfl .dt, ks rfl .dt, ks rfl .dt, trivial⟩ ?_
    rintro m σ ⟨i, hm0, hi, hF, rfl⟩
    refine ACode.seq ?_
    refine ACode.seq ?_
    refine ACode.region ?_
    refine .cons (.mv rfl rfl) ?_
    refine .cons (.mv rfl rfl) ?_
    refine .cons (.ln 3 1 8 rfl rfl rfl) ?_
    refine .cons (.ls rfl rfl rfl) ?_
    refine .nil ?_
    refine ks_n ?_
    refine .cD rfl (fun h14 => ?_) (fun h14 => ?_)
    · skip
      obtain ⟨x, hx1⟩ : ∃ x, xs[i]? = some x := ⟨_, List.getElem?_eq_getElem (by omega)⟩
      obtain ⟨y, hy1⟩ : ∃ x, ys[i]? = some x := ⟨_, List.getElem?_eq_getElem (by omega)⟩
      refine ACode.skip ?_
      refine ks_n ?_
      refine ACode.seq ?_
      refine ACode.block ?_
      refine ACode.seq ?_
      refine ACode.drawK (by kernel_rfl) (by kernel_rfl) ?_
      refine .cons (.mv rfl rfl) ?_
      refine .cons (.mv rfl rfl) ?_
      refine .cons (.xL 3 1 8 rfl rfl rfl rfl rfl (map_at hx1)) ?_
      refine .cons (.l1 1 rfl rfl) ?_
      refine .cons (.mv rfl rfl) ?_
      refine .cons (.mv rfl rfl) ?_
      refine .cons (.xL 3 1 8 rfl rfl rfl rfl rfl (map_at hy1)) ?_
      refine .cons (.l1 1 rfl rfl) ?_
      refine .cons (.ne rfl rfl rfl) ?_
      refine .nil ⟨by kernel_rfl, ?_⟩
      refine ks_n ?_
      refine .cND rfl (fun h25 => ?_) (fun h25 => ?_)
      · skip
        have g : decide (x = y) = false := by first | assumption | exact decide_eq_false (by assumption) | (simp; omega)
        refine ACode.seq ?_
        refine ACode.region ?_
        refine .cons (.asg rfl rfl) ?_
        refine .nil ?_
        refine ks_n ?_
        refine ACode.ret ?_
        refine kb_r ?_
        refine ks_r ?_
        refine kl_r ?_
        refine kb_r ?_
        refine ks_r ?_
        refine kf_ret rfl ?_ nobox
        exact leafB (by rw [hF, eqF_drop hx1 hy1, g]; rfl)
      · skip
        have g : decide (x = y) = true := by first | assumption | exact decide_eq_true (by assumption) | (simp; omega)
        refine ACode.skip ?_
        refine kb_n ?_
        refine ks_n ?_
        refine ACode.region ?_
        refine .cons (.mv rfl rfl) ?_
        refine .cons (.pl rfl rfl rfl) ?_
        refine .cons (.asg rfl rfl) ?_
        refine .nil ?_
        refine kl_k [] ⟨i + 1, rfl, by omega, by rw [hF, eqF_drop hx1 hy1, g, Bool.true_and], rfl⟩ ⟨ks rfl .dt, ks rfl .dt, ks rfl .dt, ks rfl .dt, trivial⟩
    · skip
      refine ACode.exit ?_
      refine ks_e ?_
      refine kl_e ?_
      refine kb_hit ?_
      refine ks_n ?_
      refine ACode.seq ?_
      refine ACode.region ?_
      refine .cons (.asg rfl rfl) ?_
      refine .nil ?_
      refine ks_n ?_
      refine ACode.ret ?_
      refine kf_ret rfl ?_ nobox
      exact leafB (by rw [hF, show i = xs.length by omega, eqF_end (by omega)])

theorem eqInts_fn (xs ys : List Int) (hx : xs.length ≤ 1099511627776) : Fn Try.prog 85 [] [vD (dIs xs), vD (dIs ys)] (.o (bo1 (decide (xs = ys)))) [] := by
  rw [← eqF_dec]; exact eqInts_f xs ys hx

set_option maxRecDepth 100000 in
set_option maxHeartbeats 1600000 in
theorem eqAff_fn (x y : Aff) (hx : x.1.length ≤ 1099511627776) : Fn Try.prog 38 [] [ad (rA x), ad (rA y)] (.o (bo1 (decide (x = y)))) [] := by
  refine Fn.code0 Try.func38 rfl rfl rfl rfl ?_
  refine ACode.seq ?_
  refine ACode.region ?_
  refine .cons (St1.boxP rfl rfl rfl rfl rfl rfl) ?_
  refine .cons (St1.boxP rfl rfl rfl rfl rfl rfl) ?_
  refine .cons (.asg rfl rfl) ?_
  refine .nil ?_
  refine ks_n ?_
  refine ACode.seq ?_
  refine ACode.seq ?_
  refine ACode.region ?_
  refine .cons (.fP 0 0 false rfl rfl) ?_
  refine .cons (.l1 1 rfl rfl) ?_
  refine .cons (.fP 0 0 false rfl rfl) ?_
  refine .cons (.l1 1 rfl rfl) ?_
  refine .cons (.cP [.tmp 6, .tmp 8] rfl rfl rfl rfl (eqInts_fn _ _ hx) rfl) ?_
  refine .cons (.nt rfl rfl) ?_
  refine .nil ?_
  refine ks_n ?_
  refine ACode.condT rfl (fun h10 => ?_) (fun h10 => ?_)
  · try simp only [List.length_map, decide_eq_true_eq, decide_eq_false_iff_not, Bool.not_eq_true', Bool.not_eq_false', Bool.not_eq_true, Bool.not_eq_false] at h10
    refine ACode.seq ?_
    refine ACode.region ?_
    refine .cons (.asg rfl rfl) ?_
    refine .nil ?_
    refine ks_n ?_
    refine ACode.ret ?_
    refine ks_r ?_
    refine kf_ret rfl ?_ nobox
    exact leafB (by rw [Bool.eq_iff_iff]; simp [Prod.ext_iff, *])
  · try simp only [List.length_map, decide_eq_true_eq, decide_eq_false_iff_not, Bool.not_eq_true', Bool.not_eq_false', Bool.not_eq_true, Bool.not_eq_false] at h10
    refine ACode.skip ?_
    refine ks_n ?_
    refine ACode.seq ?_
    refine ACode.seq ?_
    refine ACode.region ?_
    refine .cons (.fP 1 0 false rfl rfl) ?_
    refine .cons (.l1 1 rfl rfl) ?_
    refine .cons (.fP 1 0 false rfl rfl) ?_
    refine .cons (.l1 1 rfl rfl) ?_
    refine .cons (.ne rfl rfl rfl) ?_
    refine .nil ?_
    refine ks_n ?_
    refine .cND rfl (fun h15 => ?_) (fun h15 => ?_)
    · skip
      refine ACode.seq ?_
      refine ACode.region ?_
      refine .cons (.asg rfl rfl) ?_
      refine .nil ?_
      refine ks_n ?_
      refine ACode.ret ?_
      refine ks_r ?_
      refine kf_ret rfl ?_ nobox
      exact leafB (by rw [Bool.eq_iff_iff]; simp [Prod.ext_iff, *])
    · skip
      refine ACode.skip ?_
      refine ks_n ?_
      refine ACode.seq ?_
      refine ACode.region ?_
      refine .cons (.asg rfl rfl) ?_
      refine .nil ?_
      refine ks_n ?_
      refine ACode.ret ?_
      refine kf_ret rfl ?_ nobox
      exact leafB (by rw [Bool.eq_iff_iff]; simp [Prod.ext_iff, *])

set_option maxRecDepth 100000 in
set_option maxHeartbeats 1600000 in
theorem eqAffs_f (xs ys : List Aff) (hx : xs.length ≤ 1099511627776) (hq : ∀ x ∈ xs, x.1.length ≤ 1099511627776) : Fn Try.prog 107 [] [vD (dAs xs), vD (dAs ys)] (.o (bo1 (eqF (fun x y : Aff => decide (x = y)) xs ys))) [] := by
  refine Fn.code0 Try.func107 rfl rfl rfl rfl ?_
  refine ACode.seq ?_
  refine ACode.region ?_
  refine .cons (.asg rfl rfl) ?_
  refine .nil ?_
  refine ks_n ?_
  refine ACode.seq ?_
  refine ACode.seq ?_
  refine ACode.region ?_
  refine .cons (.mv rfl rfl) ?_
  refine .cons (.ln 51 2 32 rfl rfl rfl) ?_
  refine .cons (.mv rfl rfl) ?_
  refine .cons (.ln 51 2 32 rfl rfl rfl) ?_
  refine .cons (.ne rfl rfl rfl) ?_
  refine .nil ?_
  refine ks_n ?_
  refine .cND rfl (fun h10 => ?_) (fun h10 => ?_)
  · skip
    refine ACode.seq ?_
    refine ACode.region ?_
    refine .cons (.asg rfl rfl) ?_
    refine .nil ?_
    refine ks_n ?_
    refine ACode.ret ?_
    refine ks_r ?_
    refine kf_ret rfl ?_ nobox
    exact leafB (eqF_len (by omega)).symm
  · skip
    refine ACode.skip ?_
    refine ks_n ?_
    refine ACode.seq ?_
    refine ACode.seq ?_
    refine ACode.region ?_
    refine .cons (.asg rfl rfl) ?_
    refine .nil ?_
    refine ks_n ?_
    refine ACode.block ?_
    refine .loopK (fun m σ => (∃ i : Nat, m = xs.length - i ∧ (i ≤ xs.length) ∧ (eqF (fun x y : Aff => decide (x = y)) xs ys = eqF (fun x y : Aff => decide (x = y)) (xs.drop i) (ys.drop i)) ∧ σ = [(.t 0, .v (.o (vD (dAs xs)))), (.t 1, .v (.o (vD (dAs ys)))), (.t 4, .v (.o (bo1 false))), (.t 5, .v (.o (nat1 (i : Nat))))])) [] ⟨0, rfl, by omega, by simp, rfl⟩ ⟨ks rfl .dt, ks rfl .dt, ks rfl .dt, ks rfl .dt, trivial⟩ ?_
    rintro m σ ⟨i, hm0, hi, hF, rfl⟩
    refine ACode.seq ?_
    refine ACode.seq ?_
    refine ACode.region ?_
    refine .cons (.mv rfl rfl) ?_
    refine .cons (.mv rfl rfl) ?_
    refine .cons (.ln 51 2 32 rfl rfl rfl) ?_
    refine .cons (.ls rfl rfl rfl) ?_
    refine .nil ?_
    refine ks_n ?_
    refine .cD rfl (fun h14 => ?_) (fun h14 => ?_)
    · skip
      obtain ⟨x, hx1⟩ : ∃ x, xs[i]? = some x := ⟨_, List.getElem?_eq_getElem (by omega)⟩
      obtain ⟨y, hy1⟩ : ∃ x, ys[i]? = some x := ⟨_, List.getElem?_eq_getElem (by omega)⟩
      refine ACode.skip ?_
      refine ks_n ?_
      refine ACode.seq ?_
      refine ACode.block ?_
      refine ACode.seq ?_
      refine ACode.drawK (by kernel_rfl) (by kernel_rfl) ?_
      refine .cons (.mv rfl rfl) ?_
      refine .cons (.mv rfl rfl) ?_
      refine .cons (.xL 51 2 32 rfl rfl rfl rfl rfl (map_at hx1)) ?_
      refine .cons (.lN 2 rfl rfl rfl) ?_
      refine .cons (.mv rfl rfl) ?_
      refine .cons (.mv rfl rfl) ?_
      refine .cons (.xL 51 2 32 rfl rfl rfl rfl rfl (map_at hy1)) ?_
      refine .cons (.lN 2 rfl rfl rfl) ?_
      refine .cons (.cP [.tmp 20, .tmp 24] rfl rfl rfl rfl (eqAff_fn x y (hq x (List.mem_of_getElem? hx1))) rfl) ?_
      refine .cons (.nt rfl rfl) ?_
      refine .nil ⟨by kernel_rfl, ?_⟩
      refine ks_n ?_
      refine ACode.condT rfl (fun h26 => ?_) (fun h26 => ?_)
      · try simp only [List.length_map, decide_eq_true_eq, decide_eq_false_iff_not, Bool.not_eq_true', Bool.not_eq_false', Bool.not_eq_true, Bool.not_eq_false] at h26
        have g : decide (x = y) = false := by first | assumption | exact decide_eq_false (by assumption) | (simp; omega)
        refine ACode.seq ?_
        refine ACode.region ?_
        refine .cons (.asg rfl rfl) ?_
        refine .nil ?_
        refine ks_n ?_
        refine ACode.ret ?_
        refine kb_r ?_
        refine ks_r ?_
        refine kl_r ?_
        refine kb_r ?_
        refine ks_r ?_
        refine kf_ret rfl ?_ nobox
        exact leafB (by rw [hF, eqF_drop hx1 hy1, g]; rfl)
      · try simp only [List.length_map, decide_eq_true_eq, decide_eq_false_iff_not, Bool.not_eq_true', Bool.not_eq_false', Bool.not_eq_true, Bool.not_eq_false] at h26
        have g : decide (x = y) = true := by first | assumption | exact decide_eq_true (by assumption) | (simp; omega)
        refine ACode.skip ?_
        refine kb_n ?_
        refine ks_n ?_
        refine ACode.region ?_
        refine .cons (.mv rfl rfl) ?_
        refine .cons (.pl rfl rfl rfl) ?_
        refine .cons (.asg rfl rfl) ?_
        refine .nil ?_
        refine kl_k [] ⟨i + 1, rfl, by omega, by rw [hF, eqF_drop hx1 hy1, g, Bool.true_and], rfl⟩ ⟨ks rfl .dt, ks rfl .dt, ks rfl .dt, ks rfl .dt, trivial⟩
    · skip
      refine ACode.exit ?_
      refine ks_e ?_
      refine kl_e ?_
      refine kb_hit ?_
      refine ks_n ?_
      refine ACode.seq ?_
      refine ACode.region ?_
      refine .cons (.asg rfl rfl) ?_
      refine .nil ?_
      refine ks_n ?_
      refine ACode.ret ?_
      refine kf_ret rfl ?_ nobox
      exact leafB (by rw [hF, show i = xs.length by omega, eqF_end (by omega)])

theorem eqAffs_fn (xs ys : List Aff) (hx : xs.length ≤ 1099511627776) (hq : ∀ x ∈ xs, x.1.length ≤ 1099511627776) : Fn Try.prog 107 [] [vD (dAs xs), vD (dAs ys)] (.o (bo1 (decide (xs = ys)))) [] := by
  rw [← eqF_dec]; exact eqAffs_f xs ys hx hq

end Go.Proofs.Ytgcpdpbapgkdjaa

/- What came in, read as data; conditions: that it reads, and the reach. -/
namespace Go.Proofs.Ytgcpdpbapgkdjaa
set_option linter.unusedVariables false
set_option linter.unusedSimpArgs false
open Go.ChangeShapes Go.WideShapes Go.ChangeAt Go.RowKit

/-- Cells stand for data, one by one; all that they lead to is old. -/
def Rs (w : World) (ds : List D) (cs : List Value) : Prop := cs.length = ds.length ∧ ∀ (i : Nat) d v, ds[i]? = some d → cs[i]? = some v → Dr (fun b => b < w.heap.size) w d v
theorem Rs.app {w : World} {a b : List D} {c e : List Value} (h : Rs w a c) (h2 : Rs w b e) : Rs w (a ++ b) (c ++ e) := by
  refine ⟨by rw [List.length_append, List.length_append, h.1, h2.1], fun i d v hd hv => ?_⟩
  rw [List.getElem?_append] at hd hv
  rw [h.1] at hv
  split at hd
  · rename_i hi; rw [if_pos hi] at hv; exact h.2 i d v hd hv
  · rename_i hi; rw [if_neg hi] at hv; exact h2.2 _ d v hd hv
theorem Rs.one {w : World} {d : D} {v : Value} (h : Dr (fun b => b < w.heap.size) w d v) : Rs w [d] [v] := by
  refine ⟨rfl, fun i d' v' hd hv => ?_⟩
  match i, hd, hv with
  | 0, hd, hv => cases hd; cases hv; exact h
section
variable {H : Type} (enc : TypeId × Value → H) (P : Program) (w : World) (spare : Nat → Bool) (held : Bool)
/-- Whatever reads at the type t (with so much fuel) stands for some a. -/
def OpF (n : Nat) (t : TypeId) {α : Type} (f : α → List D) (ok : α → Prop) : Prop :=
  ∀ fuel, fuel ≤ n → ∀ (cs : List Value) (x : DataW H × List MemPlace), DataW.trod enc P w 0 spare held fuel t cs = some x → (∀ m ∈ x.1.weights P t, m ≤ reachBytes) → ∃ a, ok a ∧ Rs w (f a) cs
end
section
variable {H : Type} {enc : TypeId × Value → H} {P : Program} {w : World} {spare : Nat → Bool} {held : Bool} {n : Nat} {t e : TypeId}
theorem opInt (ht : P.underlying t = some (.int .i64)) : OpF enc P w spare held n t rI (fun m => (Lit.int .i64 m).wf = true) := fun fuel _ cs x h _ => by
  obtain ⟨m, rfl, _, hw⟩ := DataW.trod_int ht h
  exact ⟨m, hw, .one (.val _ rfl)⟩
theorem opSlice {α : Type} {f : α → List D} {ok : α → Prop} (sz by' : Nat) (ht : P.underlying t = some (.slice e)) (hc : P.cellsOf e = sz) (hb : P.bytesOf e = by') (h8 : (Nat.ble 8 by' && Nat.ble 1 sz) = true) (he : OpF enc P w spare held n e f ok) :
    OpF enc P w spare held (n + 1) t (fun l : List α => [D.list sz (l.map f)]) (fun l => l.length ≤ 17592186044416 ∧ ∀ a ∈ l, ok a) := fun fuel hfu cs x h hw => by
  rw [Bool.and_eq_true] at h8
  have hsz := Nat.le_of_ble_eq_true h8.2
  have h8' := Nat.le_of_ble_eq_true h8.1
  have hz0 : ∀ b : Addr, b.add 0 = b := fun b => if_pos rfl
  rcases DataW.trod_slice ht h with ⟨rfl, rfl⟩ | ⟨a, len, cap, elems, rest, n0, hf0, rfl, rfl, _, hl, _, hlen, hel, _, _⟩
  · exact ⟨[], ⟨Nat.zero_le _, fun a h => by cases h⟩, .one (Dr.list sz [] none 0 0 0 0 (fun _ _ => undef) rfl (Nat.le_refl _) (by omega) (fun _ => rfl) (fun h => by simp at h) (fun i r h => by simp at h) (fun i r j x h => by simp at h) (fun i r j x h => by simp at h))⟩
  · have hwt : (elems.length + rest.length) * by' ≤ reachBytes := by
      have := hw ((elems.length + rest.length) * P.bytesOf e) (by simp [DataW.weights, ht])
      rwa [hb] at this
    have hlen2 : len ≤ 17592186044416 := by
      have h1 : (elems.length + rest.length) * 8 ≤ (elems.length + rest.length) * by' := Nat.mul_le_mul_left _ h8'
      have h2 : reachBytes = 140737488351232 := rfl
      omega
    have hin : ∀ y ∈ elems, ∀ m ∈ y.1.weights P e, m ≤ reachBytes := fun y hy m hm => by
      refine hw m ?_
      have key : ∀ (l : List (DataW H × List MemPlace)), y ∈ l → m ∈ DataW.weightsAll P e (l.map (·.1)) := by
        intro l
        induction l with
        | nil => intro h; cases h
        | cons z l ih =>
          intro h
          rw [List.map_cons, DataW.weightsAll, List.mem_append]
          rcases List.mem_cons.1 h with rfl | h
          · exact .inl hm
          · exact .inr (ih h)
      simp only [DataW.weights, ht, List.mem_cons, List.mem_append]
      exact .inr (.inl (key elems hy))
    have hex : ∀ i : Fin len, ∃ (a0 : α) (ci : List Value), ok a0 ∧ w.cells? 0 (a.add (i.1 * sz)) sz = some ci ∧ Rs w (f a0) ci := fun i => by
      have h1 := hel i.1 i.2
      rw [hc] at h1
      obtain ⟨y, hy⟩ : ∃ y, elems[i.1]? = some y := ⟨_, List.getElem?_eq_getElem (by omega)⟩
      rw [hy, Option.bind_eq_some_iff] at h1
      obtain ⟨ci, h2, h3⟩ := h1
      obtain ⟨a0, h4, h5⟩ := he n0 (by omega) ci y h3 (hin y (List.mem_of_getElem? hy))
      exact ⟨a0, ci, h4, h2, h5⟩
    let g : Fin len → α := fun i => (hex i).choose
    let c : Fin len → List Value := fun i => (hex i).choose_spec.choose
    have hg : ∀ i : Fin len, ok (g i) ∧ w.cells? 0 (a.add (i.1 * sz)) sz = some (c i) ∧ Rs w (f (g i)) (c i) := fun i => (hex i).choose_spec.choose_spec
    have hget : ∀ (i : Nat) r, ((List.ofFn g).map f)[i]? = some r → ∃ hi : i < len, r = f (g ⟨i, hi⟩) := fun i r hr => by
      rw [List.getElem?_map, List.getElem?_ofFn] at hr
      split at hr
      · rename_i hi; exact ⟨hi, (Option.some.inj hr).symm⟩
      · cases hr
    have hcell : ∀ (i : Nat) (hi : i < len) (j : Nat) u, (c ⟨i, hi⟩)[j]? = some u → a.spot = none ∧ w.cell? ⟨a.block, a.off + (i * sz + j), none⟩ = some u := fun i hi j u hu => by
      obtain ⟨_, h2, _⟩ := hg ⟨i, hi⟩
      obtain ⟨_, h3, h4⟩ := World.cells?_some h2
      have hj : j < sz := by rw [← h3]; exact (List.getElem?_eq_some_iff.1 hu).1
      have h5 := h4 j hj
      rw [hu] at h5
      have hs : a.spot = none := by
        have h0 := (World.cells?_some (hg ⟨0, by omega⟩).2.1).2.2 0 (by omega)
        rw [Nat.zero_mul, hz0] at h0
        obtain ⟨u0, hu0⟩ : ∃ u0, (c ⟨0, by omega⟩)[0]? = some u0 := ⟨_, List.getElem?_eq_getElem (i := 0) (by rw [(World.cells?_some (hg ⟨0, by omega⟩).2.1).2.1]; omega)⟩
        rw [hz0, hu0] at h0
        exact World.cell?_spot h0
      refine ⟨hs, ?_⟩
      obtain ⟨b, o, s⟩ := a
      simp only at hs
      subst hs
      rw [Addr.add_lit, Addr.add_lit, Nat.add_assoc] at h5
      exact h5
    refine ⟨List.ofFn g, ⟨by rw [List.length_ofFn]; exact hlen2, fun y hy => ?_⟩, .one ?_⟩
    · obtain ⟨i, rfl⟩ := (List.mem_ofFn (f := g)).1 hy
      exact (hg i).1
    · refine Dr.list sz _ (some a) len cap a.block a.off (fun i j => if hi : i < len then (c ⟨i, hi⟩).getD j undef else undef) (by rw [List.length_map, List.length_ofFn]) hl hlen2 (fun h => by cases h) (fun h0 => ?_) (fun i r hr => ?_) (fun i r j y hr hj => ?_) (fun i r j y hr hj => ?_)
      · obtain ⟨u0, hu0⟩ : ∃ u0, (c ⟨0, h0⟩)[0]? = some u0 := ⟨_, List.getElem?_eq_getElem (i := 0) (by rw [(World.cells?_some (hg ⟨0, h0⟩).2.1).2.1]; omega)⟩
        have := (hcell 0 h0 0 u0 hu0).1
        obtain ⟨b, o, s⟩ := a
        simp only at this
        subst this; rfl
      · obtain ⟨hi, rfl⟩ := hget i r hr
        rw [← (hg ⟨i, hi⟩).2.2.1, (World.cells?_some (hg ⟨i, hi⟩).2.1).2.1]
      all_goals
        obtain ⟨hi, rfl⟩ := hget i r hr
        have hjl : j < (c ⟨i, hi⟩).length := by rw [(hg ⟨i, hi⟩).2.2.1]; exact (List.getElem?_eq_some_iff.1 hj).1
        have hu : (c ⟨i, hi⟩)[j]? = some ((c ⟨i, hi⟩).getD j undef) := by rw [List.getD_eq_getElem?_getD, List.getElem?_eq_getElem hjl]; rfl
        simp only [dif_pos hi]
      · have := (hcell i hi j _ hu).2
        exact ⟨World.block_lt_of_cell? w ⟨a.block, a.off + (i * sz + j), none⟩ this, this⟩
      · exact (hg ⟨i, hi⟩).2.2.2 j y _ hj hu
theorem opStruct2 {α β : Type} {f : α → List D} {g : β → List D} {oa : α → Prop} {ob : β → Prop} {f0 f1 : Field} (ht : P.underlying t = some (.struct #[f0, f1])) (h0 : (f0.offset, f1.offset, P.cellsOf t) = (0, P.cellsOf f0.type, P.cellsOf f0.type + P.cellsOf f1.type))
    (ha : OpF enc P w spare held n f0.type f oa) (hb : OpF enc P w spare held n f1.type g ob) : OpF enc P w spare held n t (fun x : α × β => f x.1 ++ g x.2) (fun x => oa x.1 ∧ ob x.2) := fun fuel hfu cs x h hw => by
  simp only [Prod.mk.injEq] at h0
  obtain ⟨e0, e1, e2⟩ := h0
  obtain ⟨xs, m, hm, rfl, hl, hlen, hf⟩ := DataW.trod_struct ht h
  match xs, hlen with
  | [y0, y1], _ =>
    have t0 := hf 0 f0 rfl
    have t1 := hf 1 f1 rfl
    rw [e0, List.drop_zero] at t0
    rw [e1, List.take_of_length_le (by rw [List.length_drop]; omega)] at t1
    have hwt : ∀ m, m ∈ y0.1.weights P f0.type ++ y1.1.weights P f1.type → m ≤ reachBytes := fun m hm => hw m (by simpa [DataW.weights, ht, DataW.weightsEach] using hm)
    obtain ⟨a, a1, a2⟩ := ha m (by omega) _ _ t0 fun m hm => hwt m (List.mem_append_left _ hm)
    obtain ⟨b, b1, b2⟩ := hb m (by omega) _ _ t1 fun m hm => hwt m (List.mem_append_right _ hm)
    exact ⟨(a, b), ⟨a1, b1⟩, by rw [← List.take_append_drop (P.cellsOf f0.type) cs]; exact a2.app b2⟩
theorem OpF.mono {α : Type} {f : α → List D} {ok ok' : α → Prop} {m : Nat} (h : OpF enc P w spare held n t f ok) (hm : m ≤ n) (hok : ∀ a, ok a → ok' a) : OpF enc P w spare held m t f ok' := fun fuel hf cs x hx hw => by
  obtain ⟨a, h1, h2⟩ := h fuel (by omega) cs x hx hw
  exact ⟨a, hok a h1, h2⟩
end
end Go.Proofs.Ytgcpdpbapgkdjaa

/- Affine expressions and loops that came in, read as data; conditions: that they read, and the reach. -/
namespace Go.Proofs.Ytgcpdpbapgkdjaa
set_option linter.unusedVariables false
set_option linter.unusedSimpArgs false
open Go.ChangeShapes Go.WideShapes Go.ChangeAt Go.RowKit

section
variable {H : Type} {enc : TypeId × Value → H} {w : World} {spare : Nat → Bool} {held : Bool}
theorem opAff (n : Nat) : OpF enc Try.prog w spare held n 46 rA okA :=
  OpF.mono (f := rA) (n := n + 1) (opStruct2 (enc := enc) (w := w) (spare := spare) (held := held) (t := 46) Try.underlying46 (by kernel_rfl) (opSlice (n := n) 1 8 Try.underlying28 (by kernel_rfl) (by kernel_rfl) (by rfl) (opInt Try.underlying3)) (opInt Try.underlying3)) (by omega) fun a h => h.1.1
end
section
variable {H : Type} {enc : TypeId × Value → H} {w : World} {spare : Nat → Bool} {held : Bool}
theorem opAffs (n : Nat) : OpF enc Try.prog w spare held n 92 (fun l : List Aff => [dAs l]) okAs :=
  OpF.mono (f := fun l : List Aff => [dAs l]) (n := n + 1) (opSlice (enc := enc) (w := w) (spare := spare) (held := held) (n := n) (t := 92) 2 32 Try.underlying92 (by kernel_rfl) (by kernel_rfl) (by rfl) (opAff n)) (by omega) fun a h => h
end
def okLp (l : Lp) : Prop := okAs l.1 ∧ okAs l.2
def okLps (l : List Lp) : Prop := l.length ≤ 17592186044416 ∧ ∀ x ∈ l, okLp x
section
variable {H : Type} {enc : TypeId × Value → H} {w : World} {spare : Nat → Bool} {held : Bool}
theorem opLoop (n : Nat) : OpF enc Try.prog w spare held n 94 rL okLp :=
  OpF.mono (f := rL) (n := n) (opStruct2 (enc := enc) (w := w) (spare := spare) (held := held) (n := n) (t := 94) Try.underlying94 (by kernel_rfl) (opAffs n) (opAffs n)) (by omega) fun a h => h
theorem opLoops (n : Nat) : OpF enc Try.prog w spare held n 44 (fun l : List Lp => [dLs l]) okLps :=
  OpF.mono (f := fun l : List Lp => [dLs l]) (n := n + 1) (opSlice (enc := enc) (w := w) (spare := spare) (held := held) (n := n) (t := 44) 2 48 Try.underlying44 (by kernel_rfl) (by kernel_rfl) (by rfl) (opLoop n)) (by omega) fun a h => h
end
end Go.Proofs.Ytgcpdpbapgkdjaa

/- Arguments of laws: loops; condition: lists as long as memory lets them be. -/
namespace Go.Proofs.Ytgcpdpbapgkdjaa
set_option linter.unusedVariables false
set_option linter.unusedSimpArgs false
open Go.RowKit

/-- Sizes of loops. -/
def szL (l : Lp) : Nat := szAs l.1 + szAs l.2
def szLs (l : List Lp) : Nat := l.length + (l.map szL).sum
theorem szLs_mem {l : List Lp} {a : Lp} (h : a ∈ l) : l.length + szL a ≤ szLs l := by
  rw [szLs]
  have : ∀ (l : List Nat) (n : Nat), n ∈ l → n ≤ l.sum := by
    intro l
    induction l with
    | nil => intro n h; cases h
    | cons m l ih =>
      intro n h
      rw [List.sum_cons]
      rcases List.mem_cons.1 h with rfl | h
      · omega
      · have := ih n h; omega
  have := this _ _ (List.mem_map_of_mem (f := szL) h)
  omega
theorem szLs_len (l : List Lp) : l.length ≤ szLs l := Nat.le_add_right _ _

set_option maxRecDepth 100000 in
set_option maxHeartbeats 1600000 in
theorem szLoop_fn {x : Lp} {l : Int} (hl : 0 ≤ l ∧ l ≤ 1048576) (ho : okAs x.1 ∧ okAs x.2) : Fn Try.prog 74 [] [ad (rL x), nat1 l] (.o (nat1 (subZ l (szL x)))) [] := by
  have hsz : szL x = szAs x.1 + szAs x.2 := rfl
  have hb1 := subZ_bd (n := szAs x.1) hl
  obtain ⟨⟨o1, o2⟩, o3, o4⟩ := ho
  refine Fn.code0 Try.func74 rfl rfl rfl rfl ?_
  refine ACode.seq ?_
  refine ACode.region ?_
  refine .cons (St1.boxP rfl rfl rfl rfl rfl rfl) ?_
  refine .cons (.asg rfl rfl) ?_
  refine .nil ?_
  refine ks_n ?_
  refine ACode.seq ?_
  refine ACode.region ?_
  refine .cons (.fP 0 0 false rfl rfl) ?_
  refine .cons (.l1 1 rfl rfl) ?_
  refine .cons (.mv rfl rfl) ?_
  refine .cons (.cP [.tmp 6, .tmp 7] rfl rfl rfl rfl (szAffs_fn x.1 hl o1 o2) rfl) ?_
  refine .cons (.asg rfl rfl) ?_
  refine .nil ?_
  refine ks_n ?_
  refine ACode.seq ?_
  refine ACode.seq ?_
  refine ACode.region ?_
  refine .cons (.mv rfl rfl) ?_
  refine .cons (.ls rfl rfl rfl) ?_
  refine .nil ?_
  refine ks_n ?_
  refine .cD rfl (fun h10 => ?_) (fun h10 => ?_)
  · skip
    refine ACode.seq ?_
    refine ACode.region ?_
    refine .cons (.asg rfl rfl) ?_
    refine .nil ?_
    refine ks_n ?_
    refine ACode.ret ?_
    refine ks_r ?_
    refine kf_ret rfl ?_ nobox
    exact leafI (subZ_no (by have := subZ_neg h10 hl.1; omega)).symm
  · skip
    refine ACode.skip ?_
    refine ks_n ?_
    refine ACode.seq ?_
    have hp1 := subZ_pos h10
    have hb2 := subZ_bd (n := szAs x.2) (l := subZ l (szAs x.1)) (by omega)
    have e1 := subZ_yes hp1
    refine ACode.region ?_
    refine .cons (.fP 1 0 false rfl rfl) ?_
    refine .cons (.l1 1 rfl rfl) ?_
    refine .cons (.mv rfl rfl) ?_
    refine .cons (.cP [.tmp 12, .tmp 13] rfl rfl rfl rfl (szAffs_fn x.2 (l := subZ l (szAs x.1)) (by omega) o3 o4) rfl) ?_
    refine .cons (.asg rfl rfl) ?_
    refine .nil ?_
    refine ks_n ?_
    refine ACode.seq ?_
    refine ACode.seq ?_
    refine ACode.region ?_
    refine .cons (.mv rfl rfl) ?_
    refine .cons (.ls rfl rfl rfl) ?_
    refine .nil ?_
    refine ks_n ?_
    refine .cD rfl (fun h16 => ?_) (fun h16 => ?_)
    · skip
      refine ACode.seq ?_
      refine ACode.region ?_
      refine .cons (.asg rfl rfl) ?_
      refine .nil ?_
      refine ks_n ?_
      refine ACode.ret ?_
      refine ks_r ?_
      refine kf_ret rfl ?_ nobox
      exact leafI (subZ_no (by have h6 := subZ_neg h16 (by omega); omega)).symm
    · skip
      refine ACode.skip ?_
      refine ks_n ?_
      refine ACode.seq ?_
      refine ACode.region ?_
      refine .cons (.mv rfl rfl) ?_
      refine .cons (.asg rfl rfl) ?_
      refine .nil ?_
      refine ks_n ?_
      refine ACode.ret ?_
      refine kf_ret rfl ?_ nobox
      exact leafI (by have h6 := subZ_pos h16; rw [subZ_yes h6, e1, subZ_yes (l := l) (n := szL x) (by omega)]; omega)

set_option maxRecDepth 100000 in
set_option maxHeartbeats 1600000 in
theorem szLoops_fn (xs : List Lp) {l : Int} (hl : 0 ≤ l ∧ l ≤ 1048576) (hx : xs.length ≤ 17592186044416) (hq : ∀ x ∈ xs, okAs x.1 ∧ okAs x.2) : Fn Try.prog 31 [] [vD (dLs xs), nat1 l] (.o (nat1 (subZ l (szLs xs)))) [] := by
  refine Fn.code0 Try.func31 rfl rfl rfl rfl ?_
  refine ACode.seq ?_
  refine ACode.region ?_
  refine .cons (.asg rfl rfl) ?_
  refine .nil ?_
  refine ks_n ?_
  refine ACode.seq ?_
  refine ACode.region ?_
  refine .cons (.mv rfl rfl) ?_
  refine .cons (.mv rfl rfl) ?_
  refine .cons (.ln 94 2 48 rfl rfl rfl) ?_
  refine .cons (.sb rfl rfl rfl) ?_
  refine .cons (.asg rfl rfl) ?_
  refine .nil ?_
  refine ks_n ?_
  refine ACode.seq ?_
  refine ACode.seq ?_
  refine ACode.region ?_
  refine .cons (.mv rfl rfl) ?_
  refine .cons (.ls rfl rfl rfl) ?_
  refine .nil ?_
  refine ks_n ?_
  refine .cD rfl (fun h11 => ?_) (fun h11 => ?_)
  · skip
    refine ACode.seq ?_
    refine ACode.region ?_
    refine .cons (.asg rfl rfl) ?_
    refine .nil ?_
    refine ks_n ?_
    refine ACode.ret ?_
    refine ks_r ?_
    refine kf_ret rfl ?_ nobox
    exact leafI (subZ_no (by rw [szLs]; omega)).symm
  · skip
    refine ACode.skip ?_
    refine ks_n ?_
    refine ACode.seq ?_
    refine ACode.seq ?_
    refine ACode.region ?_
    refine .cons (.asg rfl rfl) ?_
    refine .nil ?_
    refine ks_n ?_
    refine ACode.block ?_
    refine .loopK (fun m σ => (∃ i : Nat, m = xs.length - i ∧ (i ≤ xs.length) ∧ (((xs.length + ((xs.take i).map szL).sum : Nat) : Int) ≤ l) ∧ σ = [(.t 0, .v (.o (vD (dLs xs)))), (.t 1, .v (.o (nat1 (l - (xs.length + ((xs.take i).map szL).sum : Nat))))), (.t 4, .v (.o (nat1 0))), (.t 5, .v (.o (nat1 (i : Nat))))])) [] ⟨0, rfl, by omega, by simp; omega, rfl⟩ ⟨ks rfl .dt, ks rfl (.dt (vI (by first | (simp; done) | (rw [hT, subZ_yes (by omega)]; omega)))), ks rfl .dt, ks rfl .dt, trivial⟩ ?_
    rintro m σ ⟨i, hm0, hi, hF, rfl⟩
    refine ACode.seq ?_
    refine ACode.seq ?_
    refine ACode.region ?_
    refine .cons (.mv rfl rfl) ?_
    refine .cons (.mv rfl rfl) ?_
    refine .cons (.ln 94 2 48 rfl rfl rfl) ?_
    refine .cons (.ls rfl rfl rfl) ?_
    refine .nil ?_
    refine ks_n ?_
    refine .cD rfl (fun h15 => ?_) (fun h15 => ?_)
    · skip
      obtain ⟨x, hx1⟩ : ∃ x, xs[i]? = some x := ⟨_, List.getElem?_eq_getElem (by omega)⟩
      have hT := sum_take szL hx1
      refine ACode.skip ?_
      refine ks_n ?_
      refine ACode.seq ?_
      refine ACode.block ?_
      refine ACode.seq ?_
      refine ACode.region ?_
      refine .cons (.mv rfl rfl) ?_
      refine .cons (.mv rfl rfl) ?_
      refine .cons (.xL 94 2 48 rfl rfl rfl rfl rfl) ?_
      refine .cons (.lN 2 rfl rfl rfl) ?_
      refine .cons (.mv rfl rfl) ?_
      refine .cons (.cP [.tmp 21, .tmp 22] rfl rfl rfl rfl (szLoop_fn (l := l - (xs.length + ((xs.take i).map szL).sum : Nat)) (by omega) (hq x (List.mem_of_getElem? hx1))) rfl) ?_
      refine .cons (.asg rfl rfl) ?_
      refine .nil ?_
      refine ks_n ?_
      refine ACode.seq ?_
      refine ACode.region ?_
      refine .cons (.mv rfl rfl) ?_
      refine .cons (.ls rfl rfl rfl) ?_
      refine .nil ?_
      refine ks_n ?_
      refine .cD rfl (fun h25 => ?_) (fun h25 => ?_)
      · skip
        refine ACode.seq ?_
        refine ACode.region ?_
        refine .cons (.asg rfl rfl) ?_
        refine .nil ?_
        refine ks_n ?_
        refine ACode.ret ?_
        refine kb_r ?_
        refine ks_r ?_
        refine kl_r ?_
        refine kb_r ?_
        refine ks_r ?_
        refine kf_ret rfl ?_ nobox
        exact leafI (subZ_no (by have h1 := subZ_neg h25 (by omega); have h2 := sum_take_le szL (l := xs) (i := i + 1); rw [szLs]; omega)).symm
      · skip
        have hP := subZ_pos h25
        refine ACode.skip ?_
        refine kb_n ?_
        refine ks_n ?_
        refine ACode.region ?_
        refine .cons (.mv rfl rfl) ?_
        refine .cons (.pl rfl rfl rfl) ?_
        refine .cons (.asg rfl rfl) ?_
        refine .nil ?_
        refine kl_k [] ⟨i + 1, rfl, by omega, by rw [hT]; have := subZ_pos h25; omega, rfl⟩ ⟨ks rfl .dt, ks rfl (.dt (vI (by first | (simp; done) | (rw [hT, subZ_yes (by omega)]; omega)))), ks rfl .dt, ks rfl .dt, trivial⟩
    · skip
      have hall : xs.take i = xs := List.take_of_length_le (by omega)
      refine ACode.exit ?_
      refine ks_e ?_
      refine kl_e ?_
      refine kb_hit ?_
      refine ks_n ?_
      refine ACode.seq ?_
      refine ACode.region ?_
      refine .cons (.mv rfl rfl) ?_
      refine .cons (.asg rfl rfl) ?_
      refine .nil ?_
      refine ks_n ?_
      refine ACode.ret ?_
      refine kf_ret rfl ?_ nobox
      exact leafI (by rw [subZ_yes (by rw [szLs, ← hall]; rw [hall]; rw [hall] at hF; omega), szLs, hall])

set_option maxRecDepth 100000 in
set_option maxHeartbeats 1600000 in
theorem toLoop_fn {x : Lp} (h : szL x ≤ 1073741824) : Fn Try.prog 79 [] [ad (rL x)] (.o (ad (rL x))) [] := by
  have hsz : szL x = szAs x.1 + szAs x.2 := rfl
  have h1 := szAs_len x.1
  have h2 := szAs_len x.2
  refine Fn.code0 Try.func79 rfl rfl rfl rfl ?_
  refine ACode.seq ?_
  refine ACode.region ?_
  refine .cons (St1.boxP rfl rfl rfl rfl rfl rfl) ?_
  refine .cons (.al 102 [.slice none 0 0, .slice none 0 0] rfl rfl rfl) ?_
  refine .nil ?_
  refine ks_n ?_
  refine ACode.seq ?_
  refine ACode.region ?_
  refine .cons (.al 103 [.slice none 0 0, .slice none 0 0] rfl rfl rfl) ?_
  refine .nil ?_
  refine ks_n ?_
  refine ACode.seq ?_
  refine ACode.region ?_
  refine .cons (.fP 0 0 false rfl rfl) ?_
  refine .cons (.l1 1 rfl rfl) ?_
  refine .cons (.cP [.tmp 5] rfl rfl rfl rfl (toAffs_fn x.1 (by omega) (fun a ha => by have := szAs_mem ha; omega)) rfl) ?_
  refine .cons (.fB 0 0 false rfl rfl rfl) ?_
  refine .cons (.sT 1 false rfl rfl rfl rfl rfl rfl rfl) ?_
  refine .nil ?_
  refine ks_n ?_
  refine ACode.seq ?_
  refine ACode.region ?_
  refine .cons (.fP 1 0 false rfl rfl) ?_
  refine .cons (.l1 1 rfl rfl) ?_
  refine .cons (.cP [.tmp 9] rfl rfl rfl rfl (toAffs_fn x.2 (by omega) (fun a ha => by have := szAs_mem ha; omega)) rfl) ?_
  refine .cons (.fB 1 0 false rfl rfl rfl) ?_
  refine .cons (.sT 1 false rfl rfl rfl rfl rfl rfl rfl) ?_
  refine .nil ?_
  refine ks_n ?_
  refine ACode.seq ?_
  refine ACode.region ?_
  refine .cons (.bN 2 rfl rfl rfl rfl rfl rfl) ?_
  refine .cons (.sT 2 true rfl rfl rfl rfl rfl rfl rfl) ?_
  refine .nil ?_
  refine ks_n ?_
  refine ACode.ret ?_
  refine kf_ret rfl ?_ nobox
  rfl

set_option maxRecDepth 100000 in
set_option maxHeartbeats 1600000 in
theorem toLoops_fn (xs : List Lp) (hs : szLs xs ≤ 1073741824) (hx : xs.length ≤ 1073741824) : Fn Try.prog 34 [] [vD (dLs xs)] (.o (vD (dLs xs))) [] := by
  refine Fn.code0 Try.func34 rfl rfl rfl rfl ?_
  refine ACode.seq ?_
  refine ACode.region ?_
  refine .cons (.asg rfl rfl) ?_
  refine .nil ?_
  refine ks_n ?_
  refine ACode.seq ?_
  refine ACode.region ?_
  refine .cons (.mv rfl rfl) ?_
  refine .cons (.ln 94 2 48 rfl rfl rfl) ?_
  refine .cons (.mk 107 67 2 48 [.slice none 0 0, .slice none 0 0] rfl rfl rfl (by omega) rfl rfl) ?_
  refine .cons (.asg rfl rfl) ?_
  refine .nil ?_
  refine ks_n ?_
  refine ACode.seq ?_
  refine ACode.seq ?_
  refine ACode.region ?_
  refine .cons (.asg rfl rfl) ?_
  refine .nil ?_
  refine ks_n ?_
  refine ACode.block ?_
  refine .loopK (fun m σ => (∃ i : Nat, m = xs.length - i ∧ (i ≤ xs.length) ∧ (True) ∧ σ = [(.t 0, .v (.o (vD (dLs xs)))), (.t 2, .v (.o (.c (.d (.val (.slice none 0 0)))))), (.t 3, .v (.o (.c (.own 110 2 (xs.length))))), (.t 4, .v (.o (nat1 (i : Nat)))), (.b 110, .b 67 2 (dR ((xs.take i).map (rL) ++ List.replicate (xs.length - i) [D.val (.slice none 0 0), D.val (.slice none 0 0)]))), (.u 110, .u)])) [(110, 107)] ⟨0, rfl, by omega, trivial, rfl⟩ ⟨ks rfl .dt, ks rfl .dt, ks rfl (.c .ow), ks rfl .dt, kb 107 rfl (.dt rfl (by first | exact fill_new (rL) xs | exact fill_set (rL) hx1 rfl)), trivial⟩ ?_
  rintro m σ ⟨i, hm0, hi, hF, rfl⟩
  refine ACode.seq ?_
  refine ACode.seq ?_
  refine ACode.region ?_
  refine .cons (.mv rfl rfl) ?_
  refine .cons (.mv rfl rfl) ?_
  refine .cons (.ln 94 2 48 rfl rfl rfl) ?_
  refine .cons (.ls rfl rfl rfl) ?_
  refine .nil ?_
  refine ks_n ?_
  refine .cD rfl (fun h11 => ?_) (fun h11 => ?_)
  · skip
    obtain ⟨x, hx1⟩ : ∃ x, xs[i]? = some x := ⟨_, List.getElem?_eq_getElem (by omega)⟩
    refine ACode.skip ?_
    refine ks_n ?_
    refine ACode.seq ?_
    refine ACode.block ?_
    refine ACode.region ?_
    refine .cons (.mv rfl rfl) ?_
    refine .cons (.mv rfl rfl) ?_
    refine .cons (.mv rfl rfl) ?_
    refine .cons (.mv rfl rfl) ?_
    refine .cons (.xL 94 2 48 rfl rfl rfl rfl rfl (map_at hx1)) ?_
    refine .cons (.lN 2 rfl rfl rfl) ?_
    refine .cons (.cP [.tmp 19] rfl rfl rfl rfl (toLoop_fn (by have := szLs_mem (List.mem_of_getElem? hx1); omega)) rfl) ?_
    refine .cons (.xB 67 2 48 rfl rfl rfl rfl rfl rfl (by omega)) ?_
    refine .cons (.sT 2 true rfl rfl rfl rfl (fill_at (by omega)) rfl rfl) ?_
    refine .nil ?_
    refine kb_n ?_
    refine ks_n ?_
    refine ACode.region ?_
    refine .cons (.mv rfl rfl) ?_
    refine .cons (.pl rfl rfl rfl) ?_
    refine .cons (.asg rfl rfl) ?_
    refine .nil ?_
    refine kl_k [(110, 110)] ⟨i + 1, rfl, by omega, trivial, rfl⟩ ⟨ks rfl .dt, ks rfl .dt, ks rfl (.c .ow), ks rfl .dt, kb 110 rfl (.dt rfl (by first | exact fill_new (rL) xs | exact fill_set (rL) hx1 rfl)), trivial⟩
  · skip
    obtain rfl : i = xs.length := by omega
    refine ACode.exit ?_
    refine ks_e ?_
    refine kl_e ?_
    refine kb_hit ?_
    refine ks_n ?_
    refine ACode.seq ?_
    refine ACode.region ?_
    refine .cons (.mv rfl rfl) ?_
    refine .cons (.asg rfl rfl) ?_
    refine .nil ?_
    refine ks_n ?_
    refine ACode.ret ?_
    refine kf_wret [(.t 2, .v (.o (vD (dLs xs))))] (Wk.keep [] rfl rfl ⟨ks rfl (.c (.fz rfl (fill_end (rL) xs) (by simp) (by omega))), trivial⟩) rfl ?_ nobox
    rfl

set_option maxRecDepth 100000 in
set_option maxHeartbeats 1600000 in
theorem eqLoop_fn (x y : Lp) (h : szL x ≤ 1073741824) : Fn Try.prog 84 [] [ad (rL x), ad (rL y)] (.o (bo1 (decide (x = y)))) [] := by
  have hsz : szL x = szAs x.1 + szAs x.2 := rfl
  have h1 := szAs_len x.1
  have h2 := szAs_len x.2
  refine Fn.code0 Try.func84 rfl rfl rfl rfl ?_
  refine ACode.seq ?_
  refine ACode.region ?_
  refine .cons (St1.boxP rfl rfl rfl rfl rfl rfl) ?_
  refine .cons (St1.boxP rfl rfl rfl rfl rfl rfl) ?_
  refine .cons (.asg rfl rfl) ?_
  refine .nil ?_
  refine ks_n ?_
  refine ACode.seq ?_
  refine ACode.seq ?_
  refine ACode.region ?_
  refine .cons (.fP 0 0 false rfl rfl) ?_
  refine .cons (.l1 1 rfl rfl) ?_
  refine .cons (.fP 0 0 false rfl rfl) ?_
  refine .cons (.l1 1 rfl rfl) ?_
  refine .cons (.cP [.tmp 6, .tmp 8] rfl rfl rfl rfl (eqAffs_fn _ _ (by omega) (fun a ha => by have := szAs_mem ha; omega)) rfl) ?_
  refine .cons (.nt rfl rfl) ?_
  refine .nil ?_
  refine ks_n ?_
  refine ACode.condT rfl (fun h10 => ?_) (fun h10 => ?_)
  · try simp only [List.length_map, decide_eq_true_eq, decide_eq_false_iff_not, Bool.not_eq_true', Bool.not_eq_false', Bool.not_eq_true, Bool.not_eq_false] at h10
    refine ACode.seq ?_
    refine ACode.region ?_
    refine .cons (.asg rfl rfl) ?_
    refine .nil ?_
    refine ks_n ?_
    refine ACode.ret ?_
    refine ks_r ?_
    refine kf_ret rfl ?_ nobox
    exact leafB (by rw [Bool.eq_iff_iff]; simp [Prod.ext_iff, *])
  · try simp only [List.length_map, decide_eq_true_eq, decide_eq_false_iff_not, Bool.not_eq_true', Bool.not_eq_false', Bool.not_eq_true, Bool.not_eq_false] at h10
    refine ACode.skip ?_
    refine ks_n ?_
    refine ACode.seq ?_
    refine ACode.seq ?_
    refine ACode.region ?_
    refine .cons (.fP 1 0 false rfl rfl) ?_
    refine .cons (.l1 1 rfl rfl) ?_
    refine .cons (.fP 1 0 false rfl rfl) ?_
    refine .cons (.l1 1 rfl rfl) ?_
    refine .cons (.cP [.tmp 12, .tmp 14] rfl rfl rfl rfl (eqAffs_fn _ _ (by omega) (fun a ha => by have := szAs_mem ha; omega)) rfl) ?_
    refine .cons (.nt rfl rfl) ?_
    refine .nil ?_
    refine ks_n ?_
    refine ACode.condT rfl (fun h16 => ?_) (fun h16 => ?_)
    · try simp only [List.length_map, decide_eq_true_eq, decide_eq_false_iff_not, Bool.not_eq_true', Bool.not_eq_false', Bool.not_eq_true, Bool.not_eq_false] at h16
      refine ACode.seq ?_
      refine ACode.region ?_
      refine .cons (.asg rfl rfl) ?_
      refine .nil ?_
      refine ks_n ?_
      refine ACode.ret ?_
      refine ks_r ?_
      refine kf_ret rfl ?_ nobox
      exact leafB (by rw [Bool.eq_iff_iff]; simp [Prod.ext_iff, *])
    · try simp only [List.length_map, decide_eq_true_eq, decide_eq_false_iff_not, Bool.not_eq_true', Bool.not_eq_false', Bool.not_eq_true, Bool.not_eq_false] at h16
      refine ACode.skip ?_
      refine ks_n ?_
      refine ACode.seq ?_
      refine ACode.region ?_
      refine .cons (.asg rfl rfl) ?_
      refine .nil ?_
      refine ks_n ?_
      refine ACode.ret ?_
      refine kf_ret rfl ?_ nobox
      exact leafB (by rw [Bool.eq_iff_iff]; simp [Prod.ext_iff, *])

set_option maxRecDepth 100000 in
set_option maxHeartbeats 1600000 in
theorem eqLoops_f (xs ys : List Lp) (hx : xs.length ≤ 1099511627776) (hq : ∀ x ∈ xs, szL x ≤ 1073741824) : Fn Try.prog 37 [] [vD (dLs xs), vD (dLs ys)] (.o (bo1 (eqF (fun x y : Lp => decide (x = y)) xs ys))) [] := by
  refine Fn.code0 Try.func37 rfl rfl rfl rfl ?_
  refine ACode.seq ?_
  refine ACode.region ?_
  refine .cons (.asg rfl rfl) ?_
  refine .nil ?_
  refine ks_n ?_
  refine ACode.seq ?_
  refine ACode.seq ?_
  refine ACode.region ?_
  refine .cons (.mv rfl rfl) ?_
  refine .cons (.ln 67 2 48 rfl rfl rfl) ?_
  refine .cons (.mv rfl rfl) ?_
  refine .cons (.ln 67 2 48 rfl rfl rfl) ?_
  refine .cons (.ne rfl rfl rfl) ?_
  refine .nil ?_
  refine ks_n ?_
  refine .cND rfl (fun h10 => ?_) (fun h10 => ?_)
  · skip
    refine ACode.seq ?_
    refine ACode.region ?_
    refine .cons (.asg rfl rfl) ?_
    refine .nil ?_
    refine ks_n ?_
    refine ACode.ret ?_
    refine ks_r ?_
    refine kf_ret rfl ?_ nobox
    exact leafB (eqF_len (by omega)).symm
  · skip
    refine ACode.skip ?_
    refine ks_n ?_
    refine ACode.seq ?_
    refine ACode.seq ?_
    refine ACode.region ?_
    refine .cons (.asg rfl rfl) ?_
    refine .nil ?_
    refine ks_n ?_
    refine ACode.block ?_
    refine .loopK (fun m σ => (∃ i : Nat, m = xs.length - i ∧ (i ≤ xs.length) ∧ (eqF (fun x y : Lp => decide (x = y)) xs ys = eqF (fun x y : Lp => decide (x = y)) (xs.drop i) (ys.drop i)) ∧ σ = [(.t 0, .v (.o (vD (dLs xs)))), (.t 1, .v (.o (vD (dLs ys)))), (.t 4, .v (.o (bo1 false))), (.t 5, .v (.o (nat1 (i : Nat))))])) [] ⟨0, rfl, by omega, by simp, rfl⟩ ⟨ks rfl .dt, ks rfl .dt, ks rfl .dt, ks rfl .dt, trivial⟩ ?_
    rintro m σ ⟨i, hm0, hi, hF, rfl⟩
    refine ACode.seq ?_
    refine ACode.seq ?_
    refine ACode.region ?_
    refine .cons (.mv rfl rfl) ?_
    refine .cons (.mv rfl rfl) ?_
    refine .cons (.ln 67 2 48 rfl rfl rfl) ?_
    refine .cons (.ls rfl rfl rfl) ?_
    refine .nil ?_
    refine ks_n ?_
    refine .cD rfl (fun h14 => ?_) (fun h14 => ?_)
    · skip
      obtain ⟨x, hx1⟩ : ∃ x, xs[i]? = some x := ⟨_, List.getElem?_eq_getElem (by omega)⟩
      obtain ⟨y, hy1⟩ : ∃ x, ys[i]? = some x := ⟨_, List.getElem?_eq_getElem (by omega)⟩
      refine ACode.skip ?_
      refine ks_n ?_
      refine ACode.seq ?_
      refine ACode.block ?_
      refine ACode.seq ?_
      refine ACode.drawK (by kernel_rfl) (by kernel_rfl) ?_
      refine .cons (.mv rfl rfl) ?_
      refine .cons (.mv rfl rfl) ?_
      refine .cons (.xL 67 2 48 rfl rfl rfl rfl rfl (map_at hx1)) ?_
      refine .cons (.lN 2 rfl rfl rfl) ?_
      refine .cons (.mv rfl rfl) ?_
      refine .cons (.mv rfl rfl) ?_
      refine .cons (.xL 67 2 48 rfl rfl rfl rfl rfl (map_at hy1)) ?_
      refine .cons (.lN 2 rfl rfl rfl) ?_
      refine .cons (.cP [.tmp 20, .tmp 24] rfl rfl rfl rfl (eqLoop_fn x y (hq x (List.mem_of_getElem? hx1))) rfl) ?_
      refine .cons (.nt rfl rfl) ?_
      refine .nil ⟨by kernel_rfl, ?_⟩
      refine ks_n ?_
      refine ACode.condT rfl (fun h26 => ?_) (fun h26 => ?_)
      · try simp only [List.length_map, decide_eq_true_eq, decide_eq_false_iff_not, Bool.not_eq_true', Bool.not_eq_false', Bool.not_eq_true, Bool.not_eq_false] at h26
        have g : decide (x = y) = false := by first | assumption | exact decide_eq_false (by assumption) | (simp; omega)
        refine ACode.seq ?_
        refine ACode.region ?_
        refine .cons (.asg rfl rfl) ?_
        refine .nil ?_
        refine ks_n ?_
        refine ACode.ret ?_
        refine kb_r ?_
        refine ks_r ?_
        refine kl_r ?_
        refine kb_r ?_
        refine ks_r ?_
        refine kf_ret rfl ?_ nobox
        exact leafB (by rw [hF, eqF_drop hx1 hy1, g]; rfl)
      · try simp only [List.length_map, decide_eq_true_eq, decide_eq_false_iff_not, Bool.not_eq_true', Bool.not_eq_false', Bool.not_eq_true, Bool.not_eq_false] at h26
        have g : decide (x = y) = true := by first | assumption | exact decide_eq_true (by assumption) | (simp; omega)
        refine ACode.skip ?_
        refine kb_n ?_
        refine ks_n ?_
        refine ACode.region ?_
        refine .cons (.mv rfl rfl) ?_
        refine .cons (.pl rfl rfl rfl) ?_
        refine .cons (.asg rfl rfl) ?_
        refine .nil ?_
        refine kl_k [] ⟨i + 1, rfl, by omega, by rw [hF, eqF_drop hx1 hy1, g, Bool.true_and], rfl⟩ ⟨ks rfl .dt, ks rfl .dt, ks rfl .dt, ks rfl .dt, trivial⟩
    · skip
      refine ACode.exit ?_
      refine ks_e ?_
      refine kl_e ?_
      refine kb_hit ?_
      refine ks_n ?_
      refine ACode.seq ?_
      refine ACode.region ?_
      refine .cons (.asg rfl rfl) ?_
      refine .nil ?_
      refine ks_n ?_
      refine ACode.ret ?_
      refine kf_ret rfl ?_ nobox
      exact leafB (by rw [hF, show i = xs.length by omega, eqF_end (by omega)])

theorem eqLoops_fn (xs ys : List Lp) (h : szLs xs ≤ 1073741824) : Fn Try.prog 37 [] [vD (dLs xs), vD (dLs ys)] (.o (bo1 (decide (xs = ys)))) [] := by
  have hl := szLs_len xs
  rw [← eqF_dec]; exact eqLoops_f xs ys (by omega) fun x hx => by have := szLs_mem hx; omega

end Go.Proofs.Ytgcpdpbapgkdjaa

/- Exact law of ranges of expressions; condition: nothing is too long for memory. -/
namespace Go.Proofs.Ytgcpdpbapgkdjaa
set_option linter.unusedVariables false
set_option linter.unusedSimpArgs false
open Go.RowKit

theorem sz_bg {ns : List Lp} (h : szLs ns ≤ 1073741824) : bgN ns := by
  have hl := szLs_len ns
  refine ⟨by omega, fun l hl2 => ?_⟩
  have h1 := szLs_mem hl2
  have e : szL l = szAs l.1 + szAs l.2 := rfl
  have a1 := szAs_len l.1
  have a2 := szAs_len l.2
  exact ⟨by omega, by omega, fun x hx => by have := szAs_mem hx; omega, fun x hx => by have := szAs_mem hx; omega⟩

set_option maxRecDepth 100000 in
set_option maxHeartbeats 1600000 in
theorem lawExSR {ns : List Lp} {a : Aff} (ho : okLps ns) (ho2 : okA a) : Fn Try.prog 9 [] [vD (dLs ns), ad (rA a)] (.o (bo1 true)) [] := by
  have hb1 := subZ_bd (l := 1048576) (n := szLs ns) (by omega)
  refine Fn.code0 Try.func9 rfl rfl rfl rfl ?_
  refine ACode.seq ?_
  refine ACode.region ?_
  refine .cons (St1.boxP rfl rfl rfl rfl rfl rfl) ?_
  refine .cons (.asg rfl rfl) ?_
  refine .nil ?_
  refine ks_n ?_
  refine ACode.seq ?_
  refine ACode.region ?_
  refine .cons (.asg rfl rfl) ?_
  refine .nil ?_
  refine ks_n ?_
  refine ACode.seq ?_
  refine ACode.region ?_
  refine .cons (.mv rfl rfl) ?_
  refine .cons (.mv rfl rfl) ?_
  refine .cons (.cP [.tmp 14, .tmp 15] rfl rfl rfl rfl (szLoops_fn ns (l := 1048576) (by omega) ho.1 ho.2) rfl) ?_
  refine .cons (.asg rfl rfl) ?_
  refine .nil ?_
  refine ks_n ?_
  refine ACode.seq ?_
  refine ACode.seq ?_
  refine ACode.region ?_
  refine .cons (.mv rfl rfl) ?_
  refine .cons (.ls rfl rfl rfl) ?_
  refine .nil ?_
  refine ks_n ?_
  refine .cD rfl (fun h18 => ?_) (fun h18 => ?_)
  · skip
    refine ACode.seq ?_
    refine ACode.region ?_
    refine .cons (.asg rfl rfl) ?_
    refine .nil ?_
    refine ks_n ?_
    refine ACode.ret ?_
    refine ks_r ?_
    refine kf_ret rfl ?_ nobox
    first | rfl | (exfalso; simp_all; done) | exact leafB (by simp)
  · skip
    have hP := subZ_pos h18
    refine ACode.skip ?_
    refine ks_n ?_
    refine ACode.seq ?_
    refine ACode.region ?_
    refine .cons (.lN 2 rfl rfl rfl) ?_
    refine .cons (.mv rfl rfl) ?_
    refine .cons (.cP [.tmp 19, .tmp 20] rfl rfl rfl rfl (szAff_fn (l := subZ 1048576 (szLs ns)) (by omega) ho2) rfl) ?_
    refine .cons (.asg rfl rfl) ?_
    refine .nil ?_
    refine ks_n ?_
    refine ACode.seq ?_
    refine ACode.seq ?_
    refine ACode.region ?_
    refine .cons (.mv rfl rfl) ?_
    refine .cons (.ls rfl rfl rfl) ?_
    refine .nil ?_
    refine ks_n ?_
    refine .cD rfl (fun h23 => ?_) (fun h23 => ?_)
    · skip
      refine ACode.seq ?_
      refine ACode.region ?_
      refine .cons (.asg rfl rfl) ?_
      refine .nil ?_
      refine ks_n ?_
      refine ACode.ret ?_
      refine ks_r ?_
      refine kf_ret rfl ?_ nobox
      first | rfl | (exfalso; simp_all; done) | exact leafB (by simp)
    · skip
      have hP2 := subZ_pos h23
      have e1 := subZ_yes hP
      have hs : szLs ns ≤ 1048576 := by omega
      have hs2 : a.1.length ≤ 1048576 := by omega
      have hsl := szLs_len ns
      have hbg := sz_bg (ns := ns) (by omega)
      refine ACode.skip ?_
      refine ks_n ?_
      refine ACode.seq ?_
      refine ACode.drawK (by kernel_rfl) (by kernel_rfl) ?_
      refine .cons (.mv rfl rfl) ?_
      refine .cons (.cP [.tmp 25] rfl rfl rfl rfl (toLoops_fn ns (by omega) (by omega)) rfl) ?_
      refine .cons (.lN 2 rfl rfl rfl) ?_
      refine .cons (.cP [.tmp 27] rfl rfl rfl rfl (toAff_fn (by omega)) rfl) ?_
      refine .cons (.cP [.tmp 26, .tmp 28] rfl rfl rfl rfl (specSR_B ns hbg a) rfl) ?_
      refine .cons (.mv rfl rfl) ?_
      refine .cons (.ex rfl rfl rfl) ?_
      refine .cons (.ex rfl rfl rfl) ?_
      refine .cons (.ex rfl rfl rfl) ?_
      refine .cons (.asg rfl rfl) ?_
      refine .cons (.asg rfl rfl) ?_
      refine .cons (.asg rfl rfl) ?_
      refine .nil ⟨by kernel_rfl, ?_⟩
      refine ks_n ?_
      refine ACode.seq ?_
      refine ACode.region ?_
      refine .cons (.mv rfl rfl) ?_
      refine .cons (.cP [.tmp 33] rfl rfl rfl rfl (toLoops_fn ns (by omega) (by omega)) rfl) ?_
      refine .cons (.asg rfl rfl) ?_
      refine .nil ?_
      refine ks_n ?_
      refine ACode.seq ?_
      refine ACode.region ?_
      refine .cons (.lN 2 rfl rfl rfl) ?_
      refine .cons (.cP [.tmp 35] rfl rfl rfl rfl (toAff_fn (by omega)) rfl) ?_
      refine .cons (.al 110 [.slice none 0 0, .int .i64 0] rfl rfl rfl) ?_
      refine .cons (.sT 2 true rfl rfl rfl rfl rfl rfl rfl) ?_
      refine .nil ?_
      refine ks_n ?_
      refine ACode.seq ?_
      refine ACode.region ?_
      refine .cons (.mv rfl rfl) ?_
      refine .cons (.bN 2 rfl rfl rfl rfl rfl rfl) ?_
      refine .cons (.cP [.tmp 38, .tmp 39] rfl rfl rfl rfl (implSR_B ns hbg a) rfl) ?_
      refine .cons (.mv rfl rfl) ?_
      refine .cons (.ex rfl rfl rfl) ?_
      refine .cons (.ex rfl rfl rfl) ?_
      refine .cons (.ex rfl rfl rfl) ?_
      refine .cons (.asg rfl rfl) ?_
      refine .cons (.asg rfl rfl) ?_
      refine .cons (.asg rfl rfl) ?_
      refine .nil ?_
      refine ks_n ?_
      refine ACode.seq ?_
      refine ACode.seq ?_
      refine ACode.region ?_
      refine .cons (.mv rfl rfl) ?_
      refine .cons (.mv rfl rfl) ?_
      refine .cons (.ne rfl rfl rfl) ?_
      refine .cons (.mv rfl rfl) ?_
      refine .cND 47 rfl (fun g47 => ?_) (fun g47 => ?_)
      · skip
        refine .cons (.gF rfl rfl rfl) ?_
        refine .cons (.gF rfl rfl rfl) ?_
        refine .cons (.gF rfl rfl rfl) ?_
        refine .cons (.pT rfl rfl rfl) ?_
        refine .cons (.mv rfl rfl) ?_
        refine .cons (.gF rfl rfl rfl) ?_
        refine .cons (.gF rfl rfl rfl) ?_
        refine .cons (.gF rfl rfl rfl) ?_
        refine .cons (.pT rfl rfl rfl) ?_
        refine .nil ?_
        refine ks_n ?_
        refine ACode.condT rfl (fun _ => ?_) (fun h => by first | (cases h; done) | (simp [*] at h; done) | (exfalso; simp_all; done))
        refine ACode.seq ?_
        refine ACode.region ?_
        refine .cons (.asg rfl rfl) ?_
        refine .nil ?_
        refine ks_n ?_
        refine ACode.ret ?_
        refine ks_r ?_
        refine kf_ret rfl ?_ nobox
        first | rfl | (exfalso; simp_all; done) | exact leafB (by simp)
      · skip
        refine .cons (.gT rfl rfl rfl (.mv rfl rfl)) ?_
        refine .cons (.gT rfl rfl rfl (.mv rfl rfl)) ?_
        refine .cons (.gT rfl rfl rfl (.ne rfl rfl rfl)) ?_
        refine .cons (.pF rfl rfl rfl) ?_
        refine .cons (.mv rfl rfl) ?_
        refine AOps.cases 52 _ rfl (fun g52 => ?_) (fun g52 => ?_)
        · try simp only [List.length_map, decide_eq_true_eq, decide_eq_false_iff_not, Bool.not_eq_true', Bool.not_eq_false', Bool.not_eq_true, Bool.not_eq_false] at g52
          refine .cons (.gF rfl rfl rfl) ?_
          refine .cons (.gF rfl rfl rfl) ?_
          refine .cons (.gF rfl rfl rfl) ?_
          refine .cons (.pT rfl rfl rfl) ?_
          refine .nil ?_
          refine ks_n ?_
          refine ACode.condT rfl (fun _ => ?_) (fun h => by first | (cases h; done) | (simp [*] at h; done) | (exfalso; simp_all; done))
          refine ACode.seq ?_
          refine ACode.region ?_
          refine .cons (.asg rfl rfl) ?_
          refine .nil ?_
          refine ks_n ?_
          refine ACode.ret ?_
          refine ks_r ?_
          refine kf_ret rfl ?_ nobox
          first | rfl | (exfalso; simp_all; done) | exact leafB (by simp)
        · try simp only [List.length_map, decide_eq_true_eq, decide_eq_false_iff_not, Bool.not_eq_true', Bool.not_eq_false', Bool.not_eq_true, Bool.not_eq_false] at g52
          refine .cons (.gT rfl rfl rfl (.mv rfl rfl)) ?_
          refine .cons (.gT rfl rfl rfl (.mv rfl rfl)) ?_
          refine .cons (.gT rfl rfl rfl (St1.neqB rfl rfl rfl rfl (by kernel_rfl) rfl rfl)) ?_
          refine .cons (.pF rfl rfl rfl) ?_
          refine .nil ?_
          refine ks_n ?_
          refine ACode.condT rfl (fun h56 => ?_) (fun h56 => ?_)
          · try simp only [List.length_map, decide_eq_true_eq, decide_eq_false_iff_not, Bool.not_eq_true', Bool.not_eq_false', Bool.not_eq_true, Bool.not_eq_false] at h56
            simp at h56
          · try simp only [List.length_map, decide_eq_true_eq, decide_eq_false_iff_not, Bool.not_eq_true', Bool.not_eq_false', Bool.not_eq_true, Bool.not_eq_false] at h56
            refine ACode.skip ?_
            refine ks_n ?_
            refine ACode.seq ?_
            refine ACode.seq ?_
            refine ACode.region ?_
            refine .cons (.mv rfl rfl) ?_
            refine .cons (.mv rfl rfl) ?_
            refine .cons (.cP [.tmp 58] rfl rfl rfl rfl (toLoops_fn ns (by omega) (by omega)) rfl) ?_
            refine .cons (.cP [.tmp 57, .tmp 59] rfl rfl rfl rfl (eqLoops_fn ns ns (by omega)) rfl) ?_
            refine .cons (.nt rfl rfl) ?_
            refine .nil ?_
            refine ks_n ?_
            refine ACode.condT rfl (fun h61 => ?_) (fun h61 => ?_)
            · try simp only [List.length_map, decide_eq_true_eq, decide_eq_false_iff_not, Bool.not_eq_true', Bool.not_eq_false', Bool.not_eq_true, Bool.not_eq_false] at h61
              simp at h61
            · try simp only [List.length_map, decide_eq_true_eq, decide_eq_false_iff_not, Bool.not_eq_true', Bool.not_eq_false', Bool.not_eq_true, Bool.not_eq_false] at h61
              refine ACode.skip ?_
              refine ks_n ?_
              refine ACode.seq ?_
              refine ACode.seq ?_
              refine ACode.drawK (by kernel_rfl) (by kernel_rfl) ?_
              refine .cons (.bN 2 rfl rfl rfl rfl rfl rfl) ?_
              refine .cons (.lN 2 rfl rfl rfl) ?_
              refine .cons (.cP [.tmp 63] rfl rfl rfl rfl (toAff_fn (by omega)) rfl) ?_
              refine .cons (.cP [.tmp 62, .tmp 64] rfl rfl rfl rfl (eqAff_fn a a (by omega)) rfl) ?_
              refine .cons (.nt rfl rfl) ?_
              refine .nil ⟨by kernel_rfl, ?_⟩
              refine ks_n ?_
              refine ACode.condT rfl (fun h66 => ?_) (fun h66 => ?_)
              · try simp only [List.length_map, decide_eq_true_eq, decide_eq_false_iff_not, Bool.not_eq_true', Bool.not_eq_false', Bool.not_eq_true, Bool.not_eq_false] at h66
                simp at h66
              · try simp only [List.length_map, decide_eq_true_eq, decide_eq_false_iff_not, Bool.not_eq_true', Bool.not_eq_false', Bool.not_eq_true, Bool.not_eq_false] at h66
                refine ACode.skip ?_
                refine ks_n ?_
                refine ACode.seq ?_
                refine ACode.region ?_
                refine .cons (.asg rfl rfl) ?_
                refine .nil ?_
                refine ks_n ?_
                refine ACode.ret ?_
                refine kf_ret rfl ?_ nobox
                first | rfl | (exfalso; simp_all; done) | exact leafB (by simp)

end Go.Proofs.Ytgcpdpbapgkdjaa

/- Arguments as a law takes them; conditions: that they read, and the reach. -/
namespace Go.Proofs.Ytgcpdpbapgkdjaa
set_option linter.unusedVariables false
set_option linter.unusedSimpArgs false
open Go.ChangeShapes Go.WideShapes Go.ChangeAt Go.RowKit

section
variable {H : Type} {enc : TypeId × Value → H} {P : Program} {w : World} {spare : Nat → Bool} {held : Bool} {t : TypeId} {α : Type} {f : α → List D} {ok : α → Prop} {v : Value} {dd : DataW H} {ps : List MemPlace}
theorem op_agg (hop : ∀ n, OpF enc P w spare held n t f ok) (h : DataW.Trod enc P w 0 spare held t v dd ps) (hw : ∀ m ∈ dd.weights P t, m ≤ reachBytes) (hv : ∃ cs, v = .agg cs) : ∃ a, ok a ∧ V1r (fun _ => (0, 0)) (Al (lk [])) (fun b => b < w.heap.size) w (ad (f a)) v := by
  obtain ⟨fuel, hf⟩ := h
  obtain ⟨cs, rfl⟩ := hv
  obtain ⟨a, h1, h2, h3⟩ := hop fuel fuel (Nat.le_refl _) _ _ hf hw
  refine ⟨a, h1, cs.toList, by simp, by rw [List.length_map]; exact h2, fun i c u hc hu => ?_⟩
  rw [List.getElem?_map] at hc
  cases hq : (f a)[i]? with
  | none => rw [hq] at hc; cases hc
  | some d => rw [hq] at hc; cases hc; exact h3 i d u hq hu
theorem op_one {d : α → D} (hop : ∀ n, OpF enc P w spare held n t (fun a => [d a]) ok) (h : DataW.Trod enc P w 0 spare held t v dd ps) (hw : ∀ m ∈ dd.weights P t, m ≤ reachBytes) (hv : v.cells = #[v]) : ∃ a, ok a ∧ V1r (fun _ => (0, 0)) (Al (lk [])) (fun b => b < w.heap.size) w (vD (d a)) v := by
  obtain ⟨fuel, hf⟩ := h
  obtain ⟨a, h1, h2, h3⟩ := hop fuel fuel (Nat.le_refl _) _ _ hf hw
  exact ⟨a, h1, h3 0 _ v rfl (by rw [hv]; rfl)⟩
theorem okWide_agg {r : Reach} {b0 : Nat} {fs : Array Field} (ht : P.underlying t = some (.struct fs)) (h : Value.okWide P w r b0 t v) : ∃ cs, v = .agg cs := by
  unfold Value.okWide at h
  rw [ht] at h
  obtain ⟨cs, e, _⟩ := h
  exact ⟨cs, e⟩
theorem vals1_mk {R : V1 → Value → Prop} {x : V1} {u : Value} (h : R x u) : Vals R [x] [u] := ⟨rfl, fun i y v hy hv => by
  match i, hy, hv with
  | 0, hy, hv => cases hy; cases hv; exact h⟩
theorem vals2_mk {R : V1 → Value → Prop} {x y : V1} {u v : Value} (h : R x u) (h2 : R y v) : Vals R [x, y] [u, v] := .cons h (vals1_mk h2)
end
end Go.Proofs.Ytgcpdpbapgkdjaa
