/- Part 3 of 6 of the proof: laws on memory and data, then what the functions compute, in the order in which they build on each other; conditions: those that each theorem names. -/
import Derived.Lib.Bytealg
import Derived.Lib.SlicesS
import Derived.Test.YtidfloikpieggaaGreatP2
set_option maxRecDepth 100000
set_option maxHeartbeats 1600000

namespace Go.Proofs.YtidfloikpieggaaGreat
set_option linter.unusedVariables false
set_option linter.unusedSimpArgs false
open Go.RowKit
theorem first_nil {f : Int → Nat → Pts → Bool × Nat × Pts} (hf : ∀ v s o, ∃ z, (f v s o).2.2 = o ++ z) {hi v : Int} {s : Nat} (h : v < hi) (hR : (iterW f (hi - v).toNat v s []).2.2 = []) : (f v s []).2.2 = [] := by
  rw [iterW_lt h] at hR
  by_cases hb : (f v s []).1 = true
  · rw [if_pos hb] at hR
    obtain ⟨z, hz⟩ := iterW_grow hf (hi - (v + 1)).toNat (v + 1) (f v s []).2.1 (f v s []).2.2
    rw [hz] at hR
    exact (List.append_eq_nil_iff.1 hR).1
  · rwa [if_neg hb] at hR
theorem iterW_no {f : Int → Nat → Pts → Bool × Nat × Pts} {hi v : Int} {s : Nat} {o : Pts} {r : Bool × Nat × Pts} (h : v < hi) (hs : f v s o = r) (hb : r.1 = false) : iterW f (hi - v).toNat v s o = r := by
  rw [iterW_lt h, hs, if_neg (by rw [hb]; simp)]
theorem iterW_yes {f : Int → Nat → Pts → Bool × Nat × Pts} {hi v : Int} {s : Nat} {o : Pts} {r : Bool × Nat × Pts} (h : v < hi) (hs : f v s o = r) (hb : r.1 = true) : iterW f (hi - v).toNat v s o = iterW f (hi - (v + 1)).toNat (v + 1) r.2.1 r.2.2 := by
  rw [iterW_lt h, hs, if_pos hb]
theorem hbIn_O {σ : St} {inv : Inv} {k : Nat} {ns : List Lp} {s : Nat} {o : Pts} (h : lk σ (.b (asc inv 0)) = .b 183 3 [[.d (dLs ns), .d (dI (s : Nat)), .own (asc inv k) 1 o.length]]) (h2 : lk σ (.b (asc inv k)) = .b 35 1 (dR (o.map rIs))) : hbIn σ inv (hbO k ns s o) := ⟨h, by rw [renR_dR]; exact h2, trivial⟩

theorem walk_leaf_no {ns : List Lp} {s0 : Nat} {p : List Int} (hp : p.length = ns.length) (hp0 : 0 < p.length) (hp4 : p.length ≤ 4)  : Fn Tryz.prog 146 (hbN ns s0) [.c (.box 0 3 0 0), vD (dIs p)] (.o (bo1 (decide ((([] : Pts)).length + 1 ≤ 120)))) (hbO 1000 ns s0 (([] : Pts) ++ [p])) := by
 refine Fn.of_code Tryz.func146 rfl rfl (hbN_HB _ _) rfl rfl (hbO_HB _ _ _ _) rfl (num_NO _ _ _ _) ?_
 refine .seq <| .region <| .cons (.asg rfl rfl) <| .nil <| ks_n <| .seq <| .seq <| .region <| .cons (.mv rfl rfl) <| .cons (.ln 3 1 8 rfl rfl rfl) <| .cons (.mv rfl rfl) <| .cons (.nB rfl rfl rfl) <| .cons (.fB 0 0 false rfl rfl rfl) <| .cons (.b1 1 rfl rfl rfl rfl rfl rfl) <| .cons (.ln 172 2 48 rfl rfl rfl) <| .cons (.eq rfl rfl rfl) <| .nil <| ks_n ?_
 refine .cD rfl (fun h15 => ?_) (fun h15 => ?_)
 ·skip
  refine .seq ?_
  refine ACode.drawK (by kernel_rfl) (by kernel_rfl) ?_
  refine .cons (.mv rfl rfl) <| .cons (.mv rfl rfl) <| .cons (.nB rfl rfl rfl) <| .cons (.fB 2 0 false rfl rfl rfl) <| .cons (.b1 1 rfl rfl rfl rfl rfl rfl) <| .cons (.mv rfl rfl) <| .cons (.cP [.tmp 21] rfl rfl rfl rfl (clone_dat hp0 (by omega)) rfl) ?_
  refine .cons (.li 35 0 0 [.tmp 22] rfl rfl rfl rfl rfl rfl) <| .cons (St1.appN (k' := 124) (e := 35) (sz := 0) (by' := 24) rfl rfl rfl rfl rfl (by kernel_rfl) rfl rfl rfl (by simp) (by simp [dR] <;> omega) rfl rfl) ?_
  refine .cons (.nB rfl rfl rfl) <| .cons (.fB 2 0 false rfl rfl rfl) <| .cons (.sT 1 false rfl rfl rfl rfl rfl rfl rfl) ?_
  refine .nil ⟨by kernel_rfl, ?_⟩
  refine ks_n <| .seq <| .region <| .cons (.mv rfl rfl) <| .cons (.nB rfl rfl rfl) <| .cons (.fB 2 0 false rfl rfl rfl) <| .cons (.b1 1 rfl rfl rfl rfl rfl rfl) <| .cons (.lB 35 1 24 rfl rfl rfl rfl) <| .cons (.le rfl rfl rfl) <| .cons (.asg rfl rfl) <| .nil <| ks_n <| .ret <| ks_r ?_
  refine kf_wret [(.t 4, .v (.o (bo1 (decide ((([] : Pts)).length + 1 ≤ 120))))), (.b 0, .b 183 3 ([[.d (dLs ns), .d (dI (s0 : Nat)), .own 1000 1 (([] : Pts) ++ [p]).length]])), (.u 0, .u), (.b 1000, .b 35 1 (dR ((([] : Pts) ++ [p]).map rIs))), (.u 1000, .u)] (Wk.keep [(0, 0), (1000, 124)] rfl rfl ⟨ks rfl (.dt (congrArg (fun b => V.o (bo1 b)) (by rw [Bool.eq_iff_iff]; simp <;> omega))), kb 0 rfl (.cons (.cons .dt (.cons .dt (.cons .ow .nil))) .nil), kb 124 rfl (.dt rfl (by simp [dR, rIs]; try rfl)), trivial⟩) rfl ?_ (two_box rfl rfl)
  rfl
 ·skip
  exact absurd h15 (by simp; omega)

theorem walk_leaf_oo {ns : List Lp} {s0 : Nat} {p : List Int} (hp : p.length = ns.length) (hp0 : 0 < p.length) (hp4 : p.length ≤ 4) {o0 : Pts} (ho : o0.length ≤ 120) : Fn Tryz.prog 146 (hbO 1 ns s0 o0) [.c (.box 0 3 0 0), vD (dIs p)] (.o (bo1 (decide ((o0).length + 1 ≤ 120)))) (hbO 1000 ns s0 (o0 ++ [p])) := by
 refine Fn.of_code Tryz.func146 rfl rfl (hbO_HB _ _ _ _) rfl rfl (hbO_HB _ _ _ _) rfl (num_OO _ _ _ _ _) ?_
 refine .seq <| .region <| .cons (.asg rfl rfl) <| .nil <| ks_n <| .seq <| .seq <| .region <| .cons (.mv rfl rfl) <| .cons (.ln 3 1 8 rfl rfl rfl) <| .cons (.mv rfl rfl) <| .cons (.nB rfl rfl rfl) <| .cons (.fB 0 0 false rfl rfl rfl) <| .cons (.b1 1 rfl rfl rfl rfl rfl rfl) <| .cons (.ln 172 2 48 rfl rfl rfl) <| .cons (.eq rfl rfl rfl) <| .nil <| ks_n ?_
 refine .cD rfl (fun h15 => ?_) (fun h15 => ?_)
 ·skip
  refine .seq ?_
  refine ACode.drawK (by kernel_rfl) (by kernel_rfl) ?_
  refine .cons (.mv rfl rfl) <| .cons (.mv rfl rfl) <| .cons (.nB rfl rfl rfl) <| .cons (.fB 2 0 false rfl rfl rfl) <| .cons (.b1 1 rfl rfl rfl rfl rfl rfl) <| .cons (.mv rfl rfl) <| .cons (.cP [.tmp 21] rfl rfl rfl rfl (clone_dat hp0 (by omega)) rfl) ?_
  refine .cons (.li 35 0 0 [.tmp 22] rfl rfl rfl rfl rfl rfl) <| .cons (St1.appB (k' := 1024) (e := 35) (sz := 0) (by' := 24) rfl rfl rfl rfl rfl (by kernel_rfl) rfl rfl rfl rfl (by simp [dR]) (by simp [dR] <;> omega) rfl rfl rfl) ?_
  refine .cons (.nB rfl rfl rfl) <| .cons (.fB 2 0 false rfl rfl rfl) <| .cons (.sT 1 false rfl rfl rfl rfl rfl rfl rfl) ?_
  refine .nil ⟨by kernel_rfl, ?_⟩
  refine ks_n <| .seq <| .region <| .cons (.mv rfl rfl) <| .cons (.nB rfl rfl rfl) <| .cons (.fB 2 0 false rfl rfl rfl) <| .cons (.b1 1 rfl rfl rfl rfl rfl rfl) <| .cons (.lB 35 1 24 rfl rfl rfl rfl) <| .cons (.le rfl rfl rfl) <| .cons (.asg rfl rfl) <| .nil <| ks_n <| .ret <| ks_r ?_
  refine kf_wret [(.t 4, .v (.o (bo1 (decide ((o0).length + 1 ≤ 120))))), (.b 0, .b 183 3 ([[.d (dLs ns), .d (dI (s0 : Nat)), .own 1000 1 (o0 ++ [p]).length]])), (.u 0, .u), (.b 1000, .b 35 1 (dR ((o0 ++ [p]).map rIs))), (.u 1000, .u)] (Wk.keep [(0, 0), (1000, 1024)] rfl rfl ⟨ks rfl (.dt (congrArg (fun b => V.o (bo1 b)) (by rw [Bool.eq_iff_iff]; simp <;> omega))), kb 0 rfl (.cons (.cons .dt (.cons .dt (.cons .ow .nil))) .nil), kb 1024 rfl (.dt rfl (by simp [dR, rIs]; try rfl)), trivial⟩) rfl ?_ (two_box rfl rfl)
  rfl
 ·skip
  exact absurd h15 (by simp; omega)

theorem walk_leaf_noR {ns : List Lp} {s0 : Nat} (hp : 0 = ns.length)  : Fn Tryz.prog 146 (hbN ns s0) [.c (.box 0 3 0 0), vN] (.o (bo1 (decide ((([] : Pts)).length + 1 ≤ 120)))) (hbO 1000 ns s0 (([] : Pts) ++ [([] : List Int)])) := by
 refine Fn.of_code Tryz.func146 rfl rfl (hbN_HB _ _) rfl rfl (hbO_HB _ _ _ _) rfl (num_NO _ _ _ _) ?_
 refine .seq <| .region <| .cons (.asg rfl rfl) <| .nil <| ks_n <| .seq <| .seq <| .region <| .cons (.mv rfl rfl) <| .cons (St1.lenN (e := 3) (m := 1) (by' := 8) rfl rfl rfl rfl rfl (by kernel_rfl) rfl) ?_
 refine .cons (.mv rfl rfl) <| .cons (.nB rfl rfl rfl) <| .cons (.fB 0 0 false rfl rfl rfl) <| .cons (.b1 1 rfl rfl rfl rfl rfl rfl) <| .cons (.ln 172 2 48 rfl rfl rfl) <| .cons (.eq rfl rfl rfl) <| .nil <| ks_n ?_
 refine .cD rfl (fun h15 => ?_) (fun h15 => ?_)
 ·skip
  refine .seq ?_
  refine ACode.drawK (by kernel_rfl) (by kernel_rfl) ?_
  refine .cons (.mv rfl rfl) <| .cons (.mv rfl rfl) <| .cons (.nB rfl rfl rfl) <| .cons (.fB 2 0 false rfl rfl rfl) <| .cons (.b1 1 rfl rfl rfl rfl rfl rfl) <| .cons (.mv rfl rfl) <| .cons (.cP [.tmp 21] rfl rfl rfl rfl (clone_nilD) rfl) ?_
  refine .cons (.li 35 0 0 [.tmp 22] rfl rfl rfl rfl rfl rfl) <| .cons (St1.appN (k' := 124) (e := 35) (sz := 0) (by' := 24) rfl rfl rfl rfl rfl (by kernel_rfl) rfl rfl rfl (by simp) (by simp [dR] <;> omega) rfl rfl) ?_
  refine .cons (.nB rfl rfl rfl) <| .cons (.fB 2 0 false rfl rfl rfl) <| .cons (.sT 1 false rfl rfl rfl rfl rfl rfl rfl) ?_
  refine .nil ⟨by kernel_rfl, ?_⟩
  refine ks_n <| .seq <| .region <| .cons (.mv rfl rfl) <| .cons (.nB rfl rfl rfl) <| .cons (.fB 2 0 false rfl rfl rfl) <| .cons (.b1 1 rfl rfl rfl rfl rfl rfl) <| .cons (.lB 35 1 24 rfl rfl rfl rfl) <| .cons (.le rfl rfl rfl) <| .cons (.asg rfl rfl) <| .nil <| ks_n <| .ret <| ks_r ?_
  refine kf_wret [(.t 4, .v (.o (bo1 (decide ((([] : Pts)).length + 1 ≤ 120))))), (.b 0, .b 183 3 ([[.d (dLs ns), .d (dI (s0 : Nat)), .own 1000 1 (([] : Pts) ++ [([] : List Int)]).length]])), (.u 0, .u), (.b 1000, .b 35 1 (dR ((([] : Pts) ++ [([] : List Int)]).map rIs))), (.u 1000, .u)] (Wk.keep [(0, 0), (1000, 124)] rfl rfl ⟨ks rfl (.dt (congrArg (fun b => V.o (bo1 b)) (by rw [Bool.eq_iff_iff]; simp <;> omega))), kb 0 rfl (.cons (.cons .dt (.cons .dt (.cons .ow .nil))) .nil), kb 124 rfl (.dt rfl (by simp [dR, rIs]; try rfl)), trivial⟩) rfl ?_ (two_box rfl rfl)
  rfl
 ·skip
  exact absurd h15 (by simp; omega)

theorem walk_nn {ns : List Lp} (hn : ns.length ≤ 4) {l : Lp} {ms : List Lp} {p : List Int} (hl : ns[p.length]? = some l) (hR : okR l p) (hlo : -100000000 ≤ loF p l.1 ∧ loF p l.1 ≤ 100000000) (hhi : -100000000 ≤ hiF p l.2 ∧ hiF p l.2 ≤ 100000000) (hp0 : 0 < p.length) {s0 : Nat} (hs0 : s0 ≤ 1199) (ih : ∀ v s o, loF p l.1 ≤ v → v < hiF p l.2 → s ≤ 1199 → o.length ≤ 120 → WOk ns ms (p ++ [v]) (dIs (p ++ [v])) s o) (hz : (walkF (l :: ms) p s0 ([] : Pts)).2.2 = []) : Fn Tryz.prog 146 (hbN ns s0) [.c (.box 0 3 0 0), vD (dIs p)] (.o (bo1 (walkF (l :: ms) p s0 ([] : Pts)).1)) (hbN ns (walkF (l :: ms) p s0 ([] : Pts)).2.1) := by
 obtain ⟨R, hRd⟩ : ∃ R, R = walkF (l :: ms) p s0 ([] : Pts) := ⟨_, rfl⟩
 rw [← hRd] at hz ⊢
 refine Fn.of_code Tryz.func146 rfl rfl (hbN_HB _ _) rfl rfl (hbN_HB _ _) rfl (num_NN _ _ _) ?_
 refine .seq <| .region <| .cons (.asg rfl rfl) <| .nil <| ks_n <| .seq <| .seq <| .region <| .cons (.mv rfl rfl) <| .cons (.ln 3 1 8 rfl rfl rfl) <| .cons (.mv rfl rfl) <| .cons (.nB rfl rfl rfl) <| .cons (.fB 0 0 false rfl rfl rfl) <| .cons (.b1 1 rfl rfl rfl rfl rfl rfl) <| .cons (.ln 172 2 48 rfl rfl rfl) <| .cons (.eq rfl rfl rfl) <| .nil <| ks_n ?_
 refine .cD rfl (fun h15 => ?_) (fun h15 => ?_)
 ·skip
  exact absurd h15 (by have := (List.getElem?_eq_some_iff.1 hl).1; simp at this ⊢; omega)
 ·skip
  refine .skip <| ks_n <| .seq <| .region <| .cons (.mv rfl rfl) <| .cons (.nB rfl rfl rfl) <| .cons (.fB 0 0 false rfl rfl rfl) <| .cons (.b1 1 rfl rfl rfl rfl rfl rfl) <| .cons (.mv rfl rfl) <| .cons (.ln 3 1 8 rfl rfl rfl) <| .cons (.xL 172 2 48 rfl rfl rfl rfl rfl (map_at hl)) ?_
  refine .cons (.lN 2 rfl rfl rfl) <| .cons (.mv rfl rfl) <| .cons (.cP [.tmp 41, .tmp 42] rfl rfl rfl rfl (span_fn hR) rfl) ?_
  refine .cons (.mv rfl rfl) <| .cons (.ex rfl rfl rfl) <| .cons (.ex rfl rfl rfl) <| .cons (.asg rfl rfl) <| .cons (.asg rfl rfl) <| .nil <| ks_n <| .seq <| .seq <| .region <| .cons (.mv rfl rfl) <| .cons (.asg rfl rfl) <| .nil <| ks_n <| .block ?_
  refine .loopK (fun m σ => (∃ (v : Int) (s : Nat), m = (hiF p l.2 - v).toNat ∧ (loF p l.1 ≤ v) ∧ (s ≤ 1199) ∧ (iterW (stepW ms p) (hiF p l.2 - v).toNat v s [] = R) ∧ σ = [(.t 0, .v (.o (.c (.box 0 3 0 0)))), (.t 1, .v (.o (vD (dIs p)))), (.t 6, .v (.o (nat1 (hiF p l.2)))), (.t 7, .v (.o (nat1 v))), (.b 0, .b 183 3 [[.d (dLs ns), .d (dI (s : Nat)), .d (.val (.slice none 0 0))]]), (.u 0, .u)])) [(0, 0)] ⟨loF p l.1, s0, rfl, (by omega), hs0, (by rw [hRd]; rfl), rfl⟩ ⟨ks rfl (.c .bx), ks rfl .dt, ks rfl .dt, ks rfl .dt, kb 0 rfl (.cons (.cons .dt (.cons .dt (.cons .dt Ctos.nil))) .nil), trivial⟩ ?_
  rintro m σ ⟨v, s, hm0, h1, hs, hE, rfl⟩
  refine .seq <| .seq <| .region <| .cons (.mv rfl rfl) <| .cons (.mv rfl rfl) <| .cons (.ls rfl rfl rfl) <| .nil <| ks_n ?_
  refine .cD rfl (fun h49 => ?_) (fun h49 => ?_)
  ·skip
   refine .skip <| ks_n <| .seq <| .block <| .seq <| .region <| .cons (.mv rfl rfl) <| .cons (.nB rfl rfl rfl) <| .cons (.fB 1 0 false rfl rfl rfl) <| .cons (.b1 1 rfl rfl rfl rfl rfl rfl) <| .cons (.pl rfl rfl rfl) <| .cons (.nB rfl rfl rfl) <| .cons (.fB 1 0 false rfl rfl rfl) <| .cons (.sT 1 false rfl rfl rfl rfl rfl rfl rfl) <| .nil <| ks_n <| .seq ?_
   refine .keep [(.t 0, .v (.o (.c (.box 0 3 0 0)))), (.t 1, .v (.o (vD (dIs p)))), (.t 6, .v (.o (nat1 (hiF p l.2)))), (.t 7, .v (.o (nat1 v))), (.b 0, .b 183 3 [[.d (dLs ns), .d (dI ((s + 1) : Nat)), .d (.val (.slice none 0 0))]]), (.u 0, .u)] [(0, 0)] ⟨ks rfl (.c .bx), ks rfl .dt, ks rfl .dt, ks rfl .dt, kb 0 rfl (.cons (.cons .dt (.cons .dt (.cons .dt Ctos.nil))) .nil), trivial⟩ ?_
   refine .region <| .cons (.mv rfl rfl) <| .cons (.nB rfl rfl rfl) <| .cons (.fB 1 0 false rfl rfl rfl) <| .cons (.b1 1 rfl rfl rfl rfl rfl rfl) <| .cons (.pl rfl rfl rfl) <| .cons (.gt rfl rfl rfl) <| .cons (.mv rfl rfl) ?_
   refine .cD 65 rfl (fun g65 => ?_) (fun g65 => ?_)
   ·skip
    have hstep : stepW ms p v s [] = (false, s + 1, []) := if_pos (by omega)
    obtain rfl : R = (false, s + 1, []) := by rw [← hE, iterW_no h49 hstep rfl]
    refine .cons (.gF rfl rfl rfl) <| .cons (.gF rfl rfl rfl) <| .cons (.gF rfl rfl rfl) <| .cons (.gF rfl rfl rfl) <| .cons (.gF rfl rfl rfl) <| .cons (.gF rfl rfl rfl) <| .cons (.gF rfl rfl rfl) <| .cons (.gF rfl rfl rfl) <| .cons (.pT rfl rfl rfl) <| .nil <| ks_n ?_
    refine ACode.condT rfl (fun _ => ?_) (fun h => by first | (cases h; done) | (simp [*] at h; done) | (exfalso; simp_all; done))
    refine .seq <| .region <| .cons (.asg rfl rfl) <| .nil <| ks_n <| .ret <| kb_r <| ks_r <| kl_r <| kb_r <| ks_r ?_
    refine kf_wret [(.t 4, .v (.o (bo1 ((false, s + 1, []) : Bool × Nat × Pts).1))), (.b 0, .b 183 3 (dR ([rWk ns ((false, s + 1, []) : Bool × Nat × Pts).2.1]))), (.u 0, .u)] (Wk.keep [(0, 0)] rfl rfl ⟨ks rfl (.dt (by first | rfl | exact congrArg (fun b => V.o (bo1 b)) h74.symm)), kb 0 rfl (.dt rfl), trivial⟩) rfl ?_ (one_box rfl)
    rfl
   ·skip
    have hstep : stepW ms p v s [] = walkF ms (p ++ [v]) (s + 1) [] := if_neg (by omega)
    have ihv := ih v (s + 1) [] h1 h49 (by omega) (by simp)
    have hzz : (walkF ms (p ++ [v]) (s + 1) []).2.2 = [] := by rw [← hE] at hz; have h5 := first_nil (fun v s o => stepW_grow ms p v s o) h49 hz; rwa [hstep] at h5
    refine .cons (.gT rfl rfl rfl (.mv rfl rfl)) <| .cons (.gT rfl rfl rfl (.mv rfl rfl)) <| .cons (.gT rfl rfl rfl (.cO [.tmp 67] [(100, 168)] rfl rfl rfl rfl (clone_own hp0 (by have := hR.ln; omega)) rfl trivial flatS.nil (flatS.nil.cons rfl) HB.nil.data outS_one)) ?_
    refine .cons (.gT rfl rfl rfl (.mv rfl rfl)) <| .cons (.gT rfl rfl rfl (.li 3 0 0 [.tmp 69] rfl rfl rfl rfl rfl rfl)) <| .cons (.gT rfl rfl rfl (St1.appD (rows := p.map rI) (e := 3) (sz := 0) (by' := 8) rfl rfl rfl rfl rfl (by kernel_rfl) rfl rfl rfl rfl (by simp) (by simp; have := hR.ln; omega) rfl)) ?_
    refine .cons (.gT rfl rfl rfl (.cO [.tmp 66, .tmp 71] [(0, 0)] rfl rfl rfl rfl (Fn.arg2 (dIs_snoc p v) (ihv.nn rfl hzz)) rfl ⟨rfl, trivial⟩ (hbN_flat _ _) (hbN_flat _ _) (hbN_HB _ _) outS_one)) ?_
    refine .cons (.gT rfl rfl rfl (.nt rfl rfl)) <| .cons (.pF rfl rfl rfl) <| .nil <| ks_n ?_
    refine ACode.condT rfl (fun h74 => ?_) (fun h74 => ?_)
    ·try simp only [zs1, zs2, zs3, zs4, zs5, zs6, zs7] at h74
     obtain rfl : R = walkF ms (p ++ [v]) (s + 1) [] := by rw [← hE, iterW_no h49 hstep h74]
     refine .seq <| .region <| .cons (.asg rfl rfl) <| .nil <| ks_n <| .ret <| kb_r <| ks_r <| kl_r <| kb_r <| ks_r ?_
     refine kf_wret [(.t 4, .v (.o (bo1 (walkF ms (p ++ [v]) (s + 1) []).1))), (.b 0, .b 183 3 (dR ([rWk ns (walkF ms (p ++ [v]) (s + 1) []).2.1]))), (.u 0, .u)] (Wk.keep [(0, 0)] rfl rfl ⟨ks rfl (.dt (by first | rfl | exact congrArg (fun b => V.o (bo1 b)) h74.symm)), kb 0 rfl (.dt rfl), trivial⟩) rfl ?_ (one_box rfl)
     rfl
    ·try simp only [zs1, zs2, zs3, zs4, zs5, zs6, zs7] at h74
     obtain ⟨g, hg, hst⟩ := walkF_stp ms (p ++ [v]) (s + 1) [] (by omega) (by simp)
     obtain ⟨q1, q2⟩ := hst.ok.1 h74
     obtain ⟨q3, q4⟩ := hst.st h74
     have q5 := congrArg List.length q4
     rw [List.length_append] at q5
     simp only [List.length_nil] at q5 q2
     refine .skip <| kb_n <| ks_n <| .region <| .cons (.mv rfl rfl) <| .cons (.pl rfl rfl rfl) <| .cons (.asg rfl rfl) <| .nil ?_
     refine kl_k [(0, 0)] ⟨v + 1, (walkF ms (p ++ [v]) (s + 1) []).2.1, rfl, by omega, by omega, by rw [← hE, iterW_yes h49 hstep h74, hzz], rfl⟩ ⟨ks rfl (.c .bx), ks rfl .dt, ks rfl .dt, ks rfl .dt, kb 0 rfl (.cons (.cons .dt (.cons .dt (.cons .dt Ctos.nil))) .nil), trivial⟩
  ·skip
   obtain rfl : R = (true, s, []) := by rw [← hE, iterW_ge h49]
   refine .exit <| ks_e <| kl_e <| kb_hit <| ks_n <| .seq <| .region <| .cons (.asg rfl rfl) <| .nil <| ks_n <| .ret ?_
   refine kf_wret [(.t 4, .v (.o (bo1 ((true, s, []) : Bool × Nat × Pts).1))), (.b 0, .b 183 3 (dR ([rWk ns ((true, s, []) : Bool × Nat × Pts).2.1]))), (.u 0, .u)] (Wk.keep [(0, 0)] rfl rfl ⟨ks rfl (.dt (by first | rfl | exact congrArg (fun b => V.o (bo1 b)) h74.symm)), kb 0 rfl (.dt rfl), trivial⟩) rfl ?_ (one_box rfl)
   rfl

theorem walk_no {ns : List Lp} (hn : ns.length ≤ 4) {l : Lp} {ms : List Lp} {p : List Int} (hl : ns[p.length]? = some l) (hR : okR l p) (hlo : -100000000 ≤ loF p l.1 ∧ loF p l.1 ≤ 100000000) (hhi : -100000000 ≤ hiF p l.2 ∧ hiF p l.2 ≤ 100000000) (hp0 : 0 < p.length) {s0 : Nat} (hs0 : s0 ≤ 1199) (ih : ∀ v s o, loF p l.1 ≤ v → v < hiF p l.2 → s ≤ 1199 → o.length ≤ 120 → WOk ns ms (p ++ [v]) (dIs (p ++ [v])) s o) (hz : (walkF (l :: ms) p s0 ([] : Pts)).2.2 ≠ []) : Fn Tryz.prog 146 (hbN ns s0) [.c (.box 0 3 0 0), vD (dIs p)] (.o (bo1 (walkF (l :: ms) p s0 ([] : Pts)).1)) (hbO 1000 ns (walkF (l :: ms) p s0 ([] : Pts)).2.1 (walkF (l :: ms) p s0 ([] : Pts)).2.2) := by
 obtain ⟨R, hRd⟩ : ∃ R, R = walkF (l :: ms) p s0 ([] : Pts) := ⟨_, rfl⟩
 rw [← hRd] at hz ⊢
 refine Fn.of_code Tryz.func146 rfl rfl (hbN_HB _ _) rfl rfl (hbO_HB _ _ _ _) rfl (num_NO _ _ _ _) ?_
 refine .seq <| .region <| .cons (.asg rfl rfl) <| .nil <| ks_n <| .seq <| .seq <| .region <| .cons (.mv rfl rfl) <| .cons (.ln 3 1 8 rfl rfl rfl) <| .cons (.mv rfl rfl) <| .cons (.nB rfl rfl rfl) <| .cons (.fB 0 0 false rfl rfl rfl) <| .cons (.b1 1 rfl rfl rfl rfl rfl rfl) <| .cons (.ln 172 2 48 rfl rfl rfl) <| .cons (.eq rfl rfl rfl) <| .nil <| ks_n ?_
 refine .cD rfl (fun h15 => ?_) (fun h15 => ?_)
 ·skip
  exact absurd h15 (by have := (List.getElem?_eq_some_iff.1 hl).1; simp at this ⊢; omega)
 ·skip
  refine .skip <| ks_n <| .seq <| .region <| .cons (.mv rfl rfl) <| .cons (.nB rfl rfl rfl) <| .cons (.fB 0 0 false rfl rfl rfl) <| .cons (.b1 1 rfl rfl rfl rfl rfl rfl) <| .cons (.mv rfl rfl) <| .cons (.ln 3 1 8 rfl rfl rfl) <| .cons (.xL 172 2 48 rfl rfl rfl rfl rfl (map_at hl)) ?_
  refine .cons (.lN 2 rfl rfl rfl) <| .cons (.mv rfl rfl) <| .cons (.cP [.tmp 41, .tmp 42] rfl rfl rfl rfl (span_fn hR) rfl) ?_
  refine .cons (.mv rfl rfl) <| .cons (.ex rfl rfl rfl) <| .cons (.ex rfl rfl rfl) <| .cons (.asg rfl rfl) <| .cons (.asg rfl rfl) <| .nil <| ks_n <| .seq <| .seq <| .region <| .cons (.mv rfl rfl) <| .cons (.asg rfl rfl) <| .nil <| ks_n <| .block ?_
  refine .loopK (fun m σ => (∃ (v : Int) (s : Nat), m = (hiF p l.2 - v).toNat ∧ (loF p l.1 ≤ v) ∧ (s ≤ 1199) ∧ (iterW (stepW ms p) (hiF p l.2 - v).toNat v s [] = R) ∧ σ = [(.t 0, .v (.o (.c (.box 0 3 0 0)))), (.t 1, .v (.o (vD (dIs p)))), (.t 6, .v (.o (nat1 (hiF p l.2)))), (.t 7, .v (.o (nat1 v))), (.b 0, .b 183 3 [[.d (dLs ns), .d (dI (s : Nat)), .d (.val (.slice none 0 0))]]), (.u 0, .u)]) ∨ (∃ (v : Int) (s : Nat) (o : Pts), m = (hiF p l.2 - v).toNat ∧ (loF p l.1 ≤ v) ∧ (s ≤ 1199) ∧ (o.length ≤ 120) ∧ (o ≠ []) ∧ (iterW (stepW ms p) (hiF p l.2 - v).toNat v s o = R) ∧ σ = [(.t 0, .v (.o (.c (.box 0 3 0 0)))), (.t 1, .v (.o (vD (dIs p)))), (.t 6, .v (.o (nat1 (hiF p l.2)))), (.t 7, .v (.o (nat1 v))), (.b 1010, .b 35 1 (dR (o.map rIs))), (.u 1010, .u), (.b 0, .b 183 3 [[.d (dLs ns), .d (dI (s : Nat)), .own 1010 1 (o.length)]]), (.u 0, .u)])) [(0, 0)] (.inl ⟨loF p l.1, s0, rfl, (by omega), hs0, (by rw [hRd]; rfl), rfl⟩) ⟨ks rfl (.c .bx), ks rfl .dt, ks rfl .dt, ks rfl .dt, kb 0 rfl (.cons (.cons .dt (.cons .dt (.cons .dt Ctos.nil))) .nil), trivial⟩ ?_
  rintro m σ (⟨v, s, hm0, h1, hs, hE, rfl⟩ | ⟨v, s, o, hm0, h1, hs, ho, hno, hE, rfl⟩)
  ·skip
   refine .seq <| .seq <| .region <| .cons (.mv rfl rfl) <| .cons (.mv rfl rfl) <| .cons (.ls rfl rfl rfl) <| .nil <| ks_n ?_
   refine .cD rfl (fun h49 => ?_) (fun h49 => ?_)
   ·skip
    refine .skip <| ks_n <| .seq <| .block <| .seq <| .region <| .cons (.mv rfl rfl) <| .cons (.nB rfl rfl rfl) <| .cons (.fB 1 0 false rfl rfl rfl) <| .cons (.b1 1 rfl rfl rfl rfl rfl rfl) <| .cons (.pl rfl rfl rfl) <| .cons (.nB rfl rfl rfl) <| .cons (.fB 1 0 false rfl rfl rfl) <| .cons (.sT 1 false rfl rfl rfl rfl rfl rfl rfl) <| .nil <| ks_n <| .seq ?_
    by_cases hsp : (walkF ms (p ++ [v]) (s + 1) []).2.2 = []
    ·skip
     have hzz := hsp
     refine .keep [(.t 0, .v (.o (.c (.box 0 3 0 0)))), (.t 1, .v (.o (vD (dIs p)))), (.t 6, .v (.o (nat1 (hiF p l.2)))), (.t 7, .v (.o (nat1 v))), (.b 0, .b 183 3 [[.d (dLs ns), .d (dI ((s + 1) : Nat)), .d (.val (.slice none 0 0))]]), (.u 0, .u)] [(0, 0)] ⟨ks rfl (.c .bx), ks rfl .dt, ks rfl .dt, ks rfl .dt, kb 0 rfl (.cons (.cons .dt (.cons .dt (.cons .dt Ctos.nil))) .nil), trivial⟩ ?_
     refine .region <| .cons (.mv rfl rfl) <| .cons (.nB rfl rfl rfl) <| .cons (.fB 1 0 false rfl rfl rfl) <| .cons (.b1 1 rfl rfl rfl rfl rfl rfl) <| .cons (.pl rfl rfl rfl) <| .cons (.gt rfl rfl rfl) <| .cons (.mv rfl rfl) ?_
     refine .cD 65 rfl (fun g65 => ?_) (fun g65 => ?_)
     ·skip
      exact absurd (by rw [← hE, iterW_no h49 (r := (false, s + 1, [])) (if_pos (by omega)) rfl]) hz
     ·skip
      have hstep : stepW ms p v s [] = walkF ms (p ++ [v]) (s + 1) [] := if_neg (by omega)
      have ihv := ih v (s + 1) [] h1 h49 (by omega) (by simp)
      refine .cons (.gT rfl rfl rfl (.mv rfl rfl)) <| .cons (.gT rfl rfl rfl (.mv rfl rfl)) <| .cons (.gT rfl rfl rfl (.cO [.tmp 67] [(100, 168)] rfl rfl rfl rfl (clone_own hp0 (by have := hR.ln; omega)) rfl trivial flatS.nil (flatS.nil.cons rfl) HB.nil.data outS_one)) ?_
      refine .cons (.gT rfl rfl rfl (.mv rfl rfl)) <| .cons (.gT rfl rfl rfl (.li 3 0 0 [.tmp 69] rfl rfl rfl rfl rfl rfl)) <| .cons (.gT rfl rfl rfl (St1.appD (rows := p.map rI) (e := 3) (sz := 0) (by' := 8) rfl rfl rfl rfl rfl (by kernel_rfl) rfl rfl rfl rfl (by simp) (by simp; have := hR.ln; omega) rfl)) ?_
      refine .cons (.gT rfl rfl rfl (.cO [.tmp 66, .tmp 71] [(0, 0)] rfl rfl rfl rfl (Fn.arg2 (dIs_snoc p v) (ihv.nn rfl hzz)) rfl ⟨rfl, trivial⟩ (hbN_flat _ _) (hbN_flat _ _) (hbN_HB _ _) outS_one)) ?_
      refine .cons (.gT rfl rfl rfl (.nt rfl rfl)) <| .cons (.pF rfl rfl rfl) <| .nil <| ks_n ?_
      refine ACode.condT rfl (fun h74 => ?_) (fun h74 => ?_)
      ·try simp only [zs1, zs2, zs3, zs4, zs5, zs6, zs7] at h74
       exact absurd (by rw [← hE, iterW_no h49 hstep h74]; exact hzz) hz
      ·try simp only [zs1, zs2, zs3, zs4, zs5, zs6, zs7] at h74
       obtain ⟨g, hg, hst⟩ := walkF_stp ms (p ++ [v]) (s + 1) [] (by omega) (by simp)
       obtain ⟨q1, q2⟩ := hst.ok.1 h74
       obtain ⟨q3, q4⟩ := hst.st h74
       have q5 := congrArg List.length q4
       rw [List.length_append] at q5
       simp only [List.length_nil] at q5 q2
       refine .skip <| kb_n <| ks_n <| .region <| .cons (.mv rfl rfl) <| .cons (.pl rfl rfl rfl) <| .cons (.asg rfl rfl) <| .nil ?_
       refine kl_k [(0, 0)] (.inl ⟨v + 1, (walkF ms (p ++ [v]) (s + 1) []).2.1, rfl, by omega, by omega, by rw [← hE, iterW_yes h49 hstep h74, hzz], rfl⟩) ⟨ks rfl (.c .bx), ks rfl .dt, ks rfl .dt, ks rfl .dt, kb 0 rfl (.cons (.cons .dt (.cons .dt (.cons .dt Ctos.nil))) .nil), trivial⟩
    ·skip
     have hzz := hsp
     refine .keep [(.t 0, .v (.o (.c (.box 0 3 0 0)))), (.t 1, .v (.o (vD (dIs p)))), (.t 6, .v (.o (nat1 (hiF p l.2)))), (.t 7, .v (.o (nat1 v))), (.b 0, .b 183 3 [[.d (dLs ns), .d (dI ((s + 1) : Nat)), .d (.val (.slice none 0 0))]]), (.u 0, .u)] [(0, 0)] ⟨ks rfl (.c .bx), ks rfl .dt, ks rfl .dt, ks rfl .dt, kb 0 rfl (.cons (.cons .dt (.cons .dt (.cons .dt Ctos.nil))) .nil), trivial⟩ ?_
     refine .region <| .cons (.mv rfl rfl) <| .cons (.nB rfl rfl rfl) <| .cons (.fB 1 0 false rfl rfl rfl) <| .cons (.b1 1 rfl rfl rfl rfl rfl rfl) <| .cons (.pl rfl rfl rfl) <| .cons (.gt rfl rfl rfl) <| .cons (.mv rfl rfl) ?_
     refine .cD 65 rfl (fun g65 => ?_) (fun g65 => ?_)
     ·skip
      exact absurd (by rw [← hE, iterW_no h49 (r := (false, s + 1, [])) (if_pos (by omega)) rfl]) hz
     ·skip
      have hstep : stepW ms p v s [] = walkF ms (p ++ [v]) (s + 1) [] := if_neg (by omega)
      have ihv := ih v (s + 1) [] h1 h49 (by omega) (by simp)
      refine .cons (.gT rfl rfl rfl (.mv rfl rfl)) <| .cons (.gT rfl rfl rfl (.mv rfl rfl)) <| .cons (.gT rfl rfl rfl (.cO [.tmp 67] [(100, 168)] rfl rfl rfl rfl (clone_own hp0 (by have := hR.ln; omega)) rfl trivial flatS.nil (flatS.nil.cons rfl) HB.nil.data outS_one)) ?_
      refine .cons (.gT rfl rfl rfl (.mv rfl rfl)) <| .cons (.gT rfl rfl rfl (.li 3 0 0 [.tmp 69] rfl rfl rfl rfl rfl rfl)) <| .cons (.gT rfl rfl rfl (St1.appD (rows := p.map rI) (e := 3) (sz := 0) (by' := 8) rfl rfl rfl rfl rfl (by kernel_rfl) rfl rfl rfl rfl (by simp) (by simp; have := hR.ln; omega) rfl)) ?_
      refine .cons (.gT rfl rfl rfl (.cO [.tmp 66, .tmp 71] [(0, 0), (1000, 1072)] rfl rfl rfl rfl (Fn.arg2 (dIs_snoc p v) (ihv.no rfl hzz)) rfl ⟨rfl, trivial⟩ (hbN_flat _ _) (hbO_flat3 _ _ _) (hbO_HB _ _ _ _) outS_O)) ?_
      refine .cons (.gT rfl rfl rfl (.nt rfl rfl)) <| .cons (.pF rfl rfl rfl) <| .nil <| ks_n ?_
      refine ACode.condT rfl (fun h74 => ?_) (fun h74 => ?_)
      ·try simp only [zs1, zs2, zs3, zs4, zs5, zs6, zs7] at h74
       obtain rfl : R = walkF ms (p ++ [v]) (s + 1) [] := by rw [← hE, iterW_no h49 hstep h74]
       refine .seq <| .region <| .cons (.asg rfl rfl) <| .nil <| ks_n <| .ret <| kb_r <| ks_r <| kl_r <| kb_r <| ks_r ?_
       refine kf_wret [(.t 4, .v (.o (bo1 (walkF ms (p ++ [v]) (s + 1) []).1))), (.b 0, .b 183 3 ([[.d (dLs ns), .d (dI ((walkF ms (p ++ [v]) (s + 1) []).2.1 : Nat)), .own 1000 1 ((walkF ms (p ++ [v]) (s + 1) []).2.2).length]])), (.u 0, .u), (.b 1000, .b 35 1 (dR (((walkF ms (p ++ [v]) (s + 1) []).2.2).map rIs))), (.u 1000, .u)] (Wk.keep [(0, 0), (1000, 1072)] rfl rfl ⟨ks rfl (.dt (by first | rfl | exact congrArg (fun b => V.o (bo1 b)) h74.symm)), kb 0 rfl (.cons (.cons .dt (.cons .dt (.cons .ow .nil))) .nil), kb 1072 rfl (.dt rfl), trivial⟩) rfl ?_ (two_box rfl rfl)
       rfl
      ·try simp only [zs1, zs2, zs3, zs4, zs5, zs6, zs7] at h74
       obtain ⟨g, hg, hst⟩ := walkF_stp ms (p ++ [v]) (s + 1) [] (by omega) (by simp)
       obtain ⟨q1, q2⟩ := hst.ok.1 h74
       obtain ⟨q3, q4⟩ := hst.st h74
       have q5 := congrArg List.length q4
       rw [List.length_append] at q5
       simp only [List.length_nil] at q5 q2
       refine .skip <| kb_n <| ks_n <| .region <| .cons (.mv rfl rfl) <| .cons (.pl rfl rfl rfl) <| .cons (.asg rfl rfl) <| .nil ?_
       refine kl_k [(0, 0), (1010, 1072)] (.inr ⟨v + 1, (walkF ms (p ++ [v]) (s + 1) []).2.1, (walkF ms (p ++ [v]) (s + 1) []).2.2, rfl, by omega, by omega, by omega, hzz, by rw [← hE, iterW_yes h49 hstep h74], rfl⟩) ⟨ks rfl (.c .bx), ks rfl .dt, ks rfl .dt, ks rfl .dt, kb 1072 rfl (.dt rfl), kb 0 rfl (.cons (.cons .dt (.cons .dt (.cons .ow Ctos.nil))) .nil), trivial⟩
   ·skip
    exact absurd (by rw [← hE, iterW_ge h49]) hz
  ·skip
   refine .seq <| .seq <| .region <| .cons (.mv rfl rfl) <| .cons (.mv rfl rfl) <| .cons (.ls rfl rfl rfl) <| .nil <| ks_n ?_
   refine .cD rfl (fun h49 => ?_) (fun h49 => ?_)
   ·skip
    refine .skip <| ks_n <| .seq <| .block <| .seq <| .region <| .cons (.mv rfl rfl) <| .cons (.nB rfl rfl rfl) <| .cons (.fB 1 0 false rfl rfl rfl) <| .cons (.b1 1 rfl rfl rfl rfl rfl rfl) <| .cons (.pl rfl rfl rfl) <| .cons (.nB rfl rfl rfl) <| .cons (.fB 1 0 false rfl rfl rfl) <| .cons (.sT 1 false rfl rfl rfl rfl rfl rfl rfl) <| .nil <| ks_n <| .seq ?_
    refine .keep [(.t 0, .v (.o (.c (.box 0 3 0 0)))), (.t 1, .v (.o (vD (dIs p)))), (.t 6, .v (.o (nat1 (hiF p l.2)))), (.t 7, .v (.o (nat1 v))), (.b 1690, .b 35 1 (dR (o.map rIs))), (.u 1690, .u), (.b 0, .b 183 3 [[.d (dLs ns), .d (dI ((s + 1) : Nat)), .own 1690 1 (o.length)]]), (.u 0, .u)] [(0, 0), (1690, 1010)] ⟨ks rfl (.c .bx), ks rfl .dt, ks rfl .dt, ks rfl .dt, kb 1010 rfl (.dt rfl), kb 0 rfl (.cons (.cons .dt (.cons .dt (.cons .ow Ctos.nil))) .nil), trivial⟩ ?_
    refine .region <| .cons (.mv rfl rfl) <| .cons (.nB rfl rfl rfl) <| .cons (.fB 1 0 false rfl rfl rfl) <| .cons (.b1 1 rfl rfl rfl rfl rfl rfl) <| .cons (.pl rfl rfl rfl) <| .cons (.gt rfl rfl rfl) <| .cons (.mv rfl rfl) ?_
    refine .cD 65 rfl (fun g65 => ?_) (fun g65 => ?_)
    ·skip
     have hstep : stepW ms p v s o = (false, s + 1, o) := if_pos (by omega)
     obtain rfl : R = (false, s + 1, o) := by rw [← hE, iterW_no h49 hstep rfl]
     refine .cons (.gF rfl rfl rfl) <| .cons (.gF rfl rfl rfl) <| .cons (.gF rfl rfl rfl) <| .cons (.gF rfl rfl rfl) <| .cons (.gF rfl rfl rfl) <| .cons (.gF rfl rfl rfl) <| .cons (.gF rfl rfl rfl) <| .cons (.gF rfl rfl rfl) <| .cons (.pT rfl rfl rfl) <| .nil <| ks_n ?_
     refine ACode.condT rfl (fun _ => ?_) (fun h => by first | (cases h; done) | (simp [*] at h; done) | (exfalso; simp_all; done))
     refine .seq <| .region <| .cons (.asg rfl rfl) <| .nil <| ks_n <| .ret <| kb_r <| ks_r <| kl_r <| kb_r <| ks_r ?_
     refine kf_wret [(.t 4, .v (.o (bo1 ((false, s + 1, o) : Bool × Nat × Pts).1))), (.b 0, .b 183 3 ([[.d (dLs ns), .d (dI (((false, s + 1, o) : Bool × Nat × Pts).2.1 : Nat)), .own 1000 1 (((false, s + 1, o) : Bool × Nat × Pts).2.2).length]])), (.u 0, .u), (.b 1000, .b 35 1 (dR ((((false, s + 1, o) : Bool × Nat × Pts).2.2).map rIs))), (.u 1000, .u)] (Wk.keep [(0, 0), (1000, 1690)] rfl rfl ⟨ks rfl (.dt (by first | rfl | exact congrArg (fun b => V.o (bo1 b)) h74.symm)), kb 0 rfl (.cons (.cons .dt (.cons .dt (.cons .ow .nil))) .nil), kb 1690 rfl (.dt rfl), trivial⟩) rfl ?_ (two_box rfl rfl)
     rfl
    ·skip
     have hstep : stepW ms p v s o = walkF ms (p ++ [v]) (s + 1) o := if_neg (by omega)
     have ihv := ih v (s + 1) o h1 h49 (by omega) (by omega)
     refine .cons (.gT rfl rfl rfl (.mv rfl rfl)) <| .cons (.gT rfl rfl rfl (.mv rfl rfl)) <| .cons (.gT rfl rfl rfl (.cO [.tmp 67] [(100, 168)] rfl rfl rfl rfl (clone_own hp0 (by have := hR.ln; omega)) rfl trivial flatS.nil (flatS.nil.cons rfl) HB.nil.data outS_one)) ?_
     refine .cons (.gT rfl rfl rfl (.mv rfl rfl)) <| .cons (.gT rfl rfl rfl (.li 3 0 0 [.tmp 69] rfl rfl rfl rfl rfl rfl)) <| .cons (.gT rfl rfl rfl (St1.appD (rows := p.map rI) (e := 3) (sz := 0) (by' := 8) rfl rfl rfl rfl rfl (by kernel_rfl) rfl rfl rfl rfl (by simp) (by simp; have := hR.ln; omega) rfl)) ?_
     refine .cons (.gT rfl rfl rfl (.cO [.tmp 66, .tmp 71] [(0, 0), (1, 1690), (1000, 1072)] rfl rfl rfl rfl (Fn.arg2 (dIs_snoc p v) (ihv.oo hno)) rfl (hbIn_O rfl rfl) (hbO_flat1 _ _ _) (hbO_flat3 _ _ _) (hbO_HB _ _ _ _) outS_O)) ?_
     refine .cons (.gT rfl rfl rfl (.nt rfl rfl)) <| .cons (.pF rfl rfl rfl) <| .nil <| ks_n ?_
     refine ACode.condT rfl (fun h74 => ?_) (fun h74 => ?_)
     ·try simp only [zs1, zs2, zs3, zs4, zs5, zs6, zs7] at h74
      obtain rfl : R = walkF ms (p ++ [v]) (s + 1) o := by rw [← hE, iterW_no h49 hstep h74]
      refine .seq <| .region <| .cons (.asg rfl rfl) <| .nil <| ks_n <| .ret <| kb_r <| ks_r <| kl_r <| kb_r <| ks_r ?_
      refine kf_wret [(.t 4, .v (.o (bo1 (walkF ms (p ++ [v]) (s + 1) o).1))), (.b 0, .b 183 3 ([[.d (dLs ns), .d (dI ((walkF ms (p ++ [v]) (s + 1) o).2.1 : Nat)), .own 1000 1 ((walkF ms (p ++ [v]) (s + 1) o).2.2).length]])), (.u 0, .u), (.b 1000, .b 35 1 (dR (((walkF ms (p ++ [v]) (s + 1) o).2.2).map rIs))), (.u 1000, .u)] (Wk.keep [(0, 0), (1000, 1072)] rfl rfl ⟨ks rfl (.dt (by first | rfl | exact congrArg (fun b => V.o (bo1 b)) h74.symm)), kb 0 rfl (.cons (.cons .dt (.cons .dt (.cons .ow .nil))) .nil), kb 1072 rfl (.dt rfl), trivial⟩) rfl ?_ (two_box rfl rfl)
      rfl
     ·try simp only [zs1, zs2, zs3, zs4, zs5, zs6, zs7] at h74
      obtain ⟨g, hg, hst⟩ := walkF_stp ms (p ++ [v]) (s + 1) o (by omega) (by omega)
      obtain ⟨q1, q2⟩ := hst.ok.1 h74
      obtain ⟨q3, q4⟩ := hst.st h74
      have q5 := congrArg List.length q4
      rw [List.length_append] at q5
      skip
      refine .skip <| kb_n <| ks_n <| .region <| .cons (.mv rfl rfl) <| .cons (.pl rfl rfl rfl) <| .cons (.asg rfl rfl) <| .nil ?_
      refine kl_k [(0, 0), (1010, 1072)] (.inr ⟨v + 1, (walkF ms (p ++ [v]) (s + 1) o).2.1, (walkF ms (p ++ [v]) (s + 1) o).2.2, rfl, by omega, by omega, by omega, by obtain ⟨z, hz2⟩ := walkF_grow ms (p ++ [v]) (s + 1) o; rw [hz2]; exact fun e => hno (List.append_eq_nil_iff.1 e).1, by rw [← hE, iterW_yes h49 hstep h74], rfl⟩) ⟨ks rfl (.c .bx), ks rfl .dt, ks rfl .dt, ks rfl .dt, kb 1072 rfl (.dt rfl), kb 0 rfl (.cons (.cons .dt (.cons .dt (.cons .ow Ctos.nil))) .nil), trivial⟩
   ·skip
    obtain rfl : R = (true, s, o) := by rw [← hE, iterW_ge h49]
    refine .exit <| ks_e <| kl_e <| kb_hit <| ks_n <| .seq <| .region <| .cons (.asg rfl rfl) <| .nil <| ks_n <| .ret ?_
    refine kf_wret [(.t 4, .v (.o (bo1 ((true, s, o) : Bool × Nat × Pts).1))), (.b 0, .b 183 3 ([[.d (dLs ns), .d (dI (((true, s, o) : Bool × Nat × Pts).2.1 : Nat)), .own 1000 1 (((true, s, o) : Bool × Nat × Pts).2.2).length]])), (.u 0, .u), (.b 1000, .b 35 1 (dR ((((true, s, o) : Bool × Nat × Pts).2.2).map rIs))), (.u 1000, .u)] (Wk.keep [(0, 0), (1000, 1010)] rfl rfl ⟨ks rfl (.dt (by first | rfl | exact congrArg (fun b => V.o (bo1 b)) h74.symm)), kb 0 rfl (.cons (.cons .dt (.cons .dt (.cons .ow .nil))) .nil), kb 1010 rfl (.dt rfl), trivial⟩) rfl ?_ (two_box rfl rfl)
    rfl

theorem walk_oo {ns : List Lp} (hn : ns.length ≤ 4) {l : Lp} {ms : List Lp} {p : List Int} (hl : ns[p.length]? = some l) (hR : okR l p) (hlo : -100000000 ≤ loF p l.1 ∧ loF p l.1 ≤ 100000000) (hhi : -100000000 ≤ hiF p l.2 ∧ hiF p l.2 ≤ 100000000) (hp0 : 0 < p.length) {s0 : Nat} (hs0 : s0 ≤ 1199) {o0 : Pts} (ho0 : o0.length ≤ 120) (hne : o0 ≠ []) (ih : ∀ v s o, loF p l.1 ≤ v → v < hiF p l.2 → s ≤ 1199 → o.length ≤ 120 → WOk ns ms (p ++ [v]) (dIs (p ++ [v])) s o)  : Fn Tryz.prog 146 (hbO 1 ns s0 o0) [.c (.box 0 3 0 0), vD (dIs p)] (.o (bo1 (walkF (l :: ms) p s0 o0).1)) (hbO 1000 ns (walkF (l :: ms) p s0 o0).2.1 (walkF (l :: ms) p s0 o0).2.2) := by
 obtain ⟨R, hRd⟩ : ∃ R, R = walkF (l :: ms) p s0 o0 := ⟨_, rfl⟩
 rw [← hRd]
 refine Fn.of_code Tryz.func146 rfl rfl (hbO_HB _ _ _ _) rfl rfl (hbO_HB _ _ _ _) rfl (num_OO _ _ _ _ _) ?_
 refine .seq <| .region <| .cons (.asg rfl rfl) <| .nil <| ks_n <| .seq <| .seq <| .region <| .cons (.mv rfl rfl) <| .cons (.ln 3 1 8 rfl rfl rfl) <| .cons (.mv rfl rfl) <| .cons (.nB rfl rfl rfl) <| .cons (.fB 0 0 false rfl rfl rfl) <| .cons (.b1 1 rfl rfl rfl rfl rfl rfl) <| .cons (.ln 172 2 48 rfl rfl rfl) <| .cons (.eq rfl rfl rfl) <| .nil <| ks_n ?_
 refine .cD rfl (fun h15 => ?_) (fun h15 => ?_)
 ·skip
  exact absurd h15 (by have := (List.getElem?_eq_some_iff.1 hl).1; simp at this ⊢; omega)
 ·skip
  refine .skip <| ks_n <| .seq <| .region <| .cons (.mv rfl rfl) <| .cons (.nB rfl rfl rfl) <| .cons (.fB 0 0 false rfl rfl rfl) <| .cons (.b1 1 rfl rfl rfl rfl rfl rfl) <| .cons (.mv rfl rfl) <| .cons (.ln 3 1 8 rfl rfl rfl) <| .cons (.xL 172 2 48 rfl rfl rfl rfl rfl (map_at hl)) ?_
  refine .cons (.lN 2 rfl rfl rfl) <| .cons (.mv rfl rfl) <| .cons (.cP [.tmp 41, .tmp 42] rfl rfl rfl rfl (span_fn hR) rfl) ?_
  refine .cons (.mv rfl rfl) <| .cons (.ex rfl rfl rfl) <| .cons (.ex rfl rfl rfl) <| .cons (.asg rfl rfl) <| .cons (.asg rfl rfl) <| .nil <| ks_n <| .seq <| .seq <| .region <| .cons (.mv rfl rfl) <| .cons (.asg rfl rfl) <| .nil <| ks_n <| .block ?_
  refine .loopK (fun m σ => (∃ (v : Int) (s : Nat) (o : Pts), m = (hiF p l.2 - v).toNat ∧ (loF p l.1 ≤ v) ∧ (s ≤ 1199) ∧ (o.length ≤ 120) ∧ (o ≠ []) ∧ (iterW (stepW ms p) (hiF p l.2 - v).toNat v s o = R) ∧ σ = [(.t 0, .v (.o (.c (.box 0 3 0 0)))), (.t 1, .v (.o (vD (dIs p)))), (.t 6, .v (.o (nat1 (hiF p l.2)))), (.t 7, .v (.o (nat1 v))), (.b 1010, .b 35 1 (dR (o.map rIs))), (.u 1010, .u), (.b 0, .b 183 3 [[.d (dLs ns), .d (dI (s : Nat)), .own 1010 1 (o.length)]]), (.u 0, .u)])) [(0, 0), (1010, 1)] ⟨loF p l.1, s0, o0, rfl, (by omega), hs0, ho0, hne, (by rw [hRd]; rfl), rfl⟩ ⟨ks rfl (.c .bx), ks rfl .dt, ks rfl .dt, ks rfl .dt, kb 1 rfl (.dt rfl), kb 0 rfl (.cons (.cons .dt (.cons .dt (.cons .ow Ctos.nil))) .nil), trivial⟩ ?_
  rintro m σ ⟨v, s, o, hm0, h1, hs, ho, hno, hE, rfl⟩
  refine .seq <| .seq <| .region <| .cons (.mv rfl rfl) <| .cons (.mv rfl rfl) <| .cons (.ls rfl rfl rfl) <| .nil <| ks_n ?_
  refine .cD rfl (fun h49 => ?_) (fun h49 => ?_)
  ·skip
   refine .skip <| ks_n <| .seq <| .block <| .seq <| .region <| .cons (.mv rfl rfl) <| .cons (.nB rfl rfl rfl) <| .cons (.fB 1 0 false rfl rfl rfl) <| .cons (.b1 1 rfl rfl rfl rfl rfl rfl) <| .cons (.pl rfl rfl rfl) <| .cons (.nB rfl rfl rfl) <| .cons (.fB 1 0 false rfl rfl rfl) <| .cons (.sT 1 false rfl rfl rfl rfl rfl rfl rfl) <| .nil <| ks_n <| .seq ?_
   refine .keep [(.t 0, .v (.o (.c (.box 0 3 0 0)))), (.t 1, .v (.o (vD (dIs p)))), (.t 6, .v (.o (nat1 (hiF p l.2)))), (.t 7, .v (.o (nat1 v))), (.b 1690, .b 35 1 (dR (o.map rIs))), (.u 1690, .u), (.b 0, .b 183 3 [[.d (dLs ns), .d (dI ((s + 1) : Nat)), .own 1690 1 (o.length)]]), (.u 0, .u)] [(0, 0), (1690, 1010)] ⟨ks rfl (.c .bx), ks rfl .dt, ks rfl .dt, ks rfl .dt, kb 1010 rfl (.dt rfl), kb 0 rfl (.cons (.cons .dt (.cons .dt (.cons .ow Ctos.nil))) .nil), trivial⟩ ?_
   refine .region <| .cons (.mv rfl rfl) <| .cons (.nB rfl rfl rfl) <| .cons (.fB 1 0 false rfl rfl rfl) <| .cons (.b1 1 rfl rfl rfl rfl rfl rfl) <| .cons (.pl rfl rfl rfl) <| .cons (.gt rfl rfl rfl) <| .cons (.mv rfl rfl) ?_
   refine .cD 65 rfl (fun g65 => ?_) (fun g65 => ?_)
   ·skip
    have hstep : stepW ms p v s o = (false, s + 1, o) := if_pos (by omega)
    obtain rfl : R = (false, s + 1, o) := by rw [← hE, iterW_no h49 hstep rfl]
    refine .cons (.gF rfl rfl rfl) <| .cons (.gF rfl rfl rfl) <| .cons (.gF rfl rfl rfl) <| .cons (.gF rfl rfl rfl) <| .cons (.gF rfl rfl rfl) <| .cons (.gF rfl rfl rfl) <| .cons (.gF rfl rfl rfl) <| .cons (.gF rfl rfl rfl) <| .cons (.pT rfl rfl rfl) <| .nil <| ks_n ?_
    refine ACode.condT rfl (fun _ => ?_) (fun h => by first | (cases h; done) | (simp [*] at h; done) | (exfalso; simp_all; done))
    refine .seq <| .region <| .cons (.asg rfl rfl) <| .nil <| ks_n <| .ret <| kb_r <| ks_r <| kl_r <| kb_r <| ks_r ?_
    refine kf_wret [(.t 4, .v (.o (bo1 ((false, s + 1, o) : Bool × Nat × Pts).1))), (.b 0, .b 183 3 ([[.d (dLs ns), .d (dI (((false, s + 1, o) : Bool × Nat × Pts).2.1 : Nat)), .own 1000 1 (((false, s + 1, o) : Bool × Nat × Pts).2.2).length]])), (.u 0, .u), (.b 1000, .b 35 1 (dR ((((false, s + 1, o) : Bool × Nat × Pts).2.2).map rIs))), (.u 1000, .u)] (Wk.keep [(0, 0), (1000, 1690)] rfl rfl ⟨ks rfl (.dt (by first | rfl | exact congrArg (fun b => V.o (bo1 b)) h74.symm)), kb 0 rfl (.cons (.cons .dt (.cons .dt (.cons .ow .nil))) .nil), kb 1690 rfl (.dt rfl), trivial⟩) rfl ?_ (two_box rfl rfl)
    rfl
   ·skip
    have hstep : stepW ms p v s o = walkF ms (p ++ [v]) (s + 1) o := if_neg (by omega)
    have ihv := ih v (s + 1) o h1 h49 (by omega) (by omega)
    refine .cons (.gT rfl rfl rfl (.mv rfl rfl)) <| .cons (.gT rfl rfl rfl (.mv rfl rfl)) <| .cons (.gT rfl rfl rfl (.cO [.tmp 67] [(100, 168)] rfl rfl rfl rfl (clone_own hp0 (by have := hR.ln; omega)) rfl trivial flatS.nil (flatS.nil.cons rfl) HB.nil.data outS_one)) ?_
    refine .cons (.gT rfl rfl rfl (.mv rfl rfl)) <| .cons (.gT rfl rfl rfl (.li 3 0 0 [.tmp 69] rfl rfl rfl rfl rfl rfl)) <| .cons (.gT rfl rfl rfl (St1.appD (rows := p.map rI) (e := 3) (sz := 0) (by' := 8) rfl rfl rfl rfl rfl (by kernel_rfl) rfl rfl rfl rfl (by simp) (by simp; have := hR.ln; omega) rfl)) ?_
    refine .cons (.gT rfl rfl rfl (.cO [.tmp 66, .tmp 71] [(0, 0), (1, 1690), (1000, 1072)] rfl rfl rfl rfl (Fn.arg2 (dIs_snoc p v) (ihv.oo hno)) rfl (hbIn_O rfl rfl) (hbO_flat1 _ _ _) (hbO_flat3 _ _ _) (hbO_HB _ _ _ _) outS_O)) ?_
    refine .cons (.gT rfl rfl rfl (.nt rfl rfl)) <| .cons (.pF rfl rfl rfl) <| .nil <| ks_n ?_
    refine ACode.condT rfl (fun h74 => ?_) (fun h74 => ?_)
    ·try simp only [zs1, zs2, zs3, zs4, zs5, zs6, zs7] at h74
     obtain rfl : R = walkF ms (p ++ [v]) (s + 1) o := by rw [← hE, iterW_no h49 hstep h74]
     refine .seq <| .region <| .cons (.asg rfl rfl) <| .nil <| ks_n <| .ret <| kb_r <| ks_r <| kl_r <| kb_r <| ks_r ?_
     refine kf_wret [(.t 4, .v (.o (bo1 (walkF ms (p ++ [v]) (s + 1) o).1))), (.b 0, .b 183 3 ([[.d (dLs ns), .d (dI ((walkF ms (p ++ [v]) (s + 1) o).2.1 : Nat)), .own 1000 1 ((walkF ms (p ++ [v]) (s + 1) o).2.2).length]])), (.u 0, .u), (.b 1000, .b 35 1 (dR (((walkF ms (p ++ [v]) (s + 1) o).2.2).map rIs))), (.u 1000, .u)] (Wk.keep [(0, 0), (1000, 1072)] rfl rfl ⟨ks rfl (.dt (by first | rfl | exact congrArg (fun b => V.o (bo1 b)) h74.symm)), kb 0 rfl (.cons (.cons .dt (.cons .dt (.cons .ow .nil))) .nil), kb 1072 rfl (.dt rfl), trivial⟩) rfl ?_ (two_box rfl rfl)
     rfl
    ·try simp only [zs1, zs2, zs3, zs4, zs5, zs6, zs7] at h74
     obtain ⟨g, hg, hst⟩ := walkF_stp ms (p ++ [v]) (s + 1) o (by omega) (by omega)
     obtain ⟨q1, q2⟩ := hst.ok.1 h74
     obtain ⟨q3, q4⟩ := hst.st h74
     have q5 := congrArg List.length q4
     rw [List.length_append] at q5
     skip
     refine .skip <| kb_n <| ks_n <| .region <| .cons (.mv rfl rfl) <| .cons (.pl rfl rfl rfl) <| .cons (.asg rfl rfl) <| .nil ?_
     refine kl_k [(0, 0), (1010, 1072)] ⟨v + 1, (walkF ms (p ++ [v]) (s + 1) o).2.1, (walkF ms (p ++ [v]) (s + 1) o).2.2, rfl, by omega, by omega, by omega, by obtain ⟨z, hz2⟩ := walkF_grow ms (p ++ [v]) (s + 1) o; rw [hz2]; exact fun e => hno (List.append_eq_nil_iff.1 e).1, by rw [← hE, iterW_yes h49 hstep h74], rfl⟩ ⟨ks rfl (.c .bx), ks rfl .dt, ks rfl .dt, ks rfl .dt, kb 1072 rfl (.dt rfl), kb 0 rfl (.cons (.cons .dt (.cons .dt (.cons .ow Ctos.nil))) .nil), trivial⟩
  ·skip
   obtain rfl : R = (true, s, o) := by rw [← hE, iterW_ge h49]
   refine .exit <| ks_e <| kl_e <| kb_hit <| ks_n <| .seq <| .region <| .cons (.asg rfl rfl) <| .nil <| ks_n <| .ret ?_
   refine kf_wret [(.t 4, .v (.o (bo1 ((true, s, o) : Bool × Nat × Pts).1))), (.b 0, .b 183 3 ([[.d (dLs ns), .d (dI (((true, s, o) : Bool × Nat × Pts).2.1 : Nat)), .own 1000 1 (((true, s, o) : Bool × Nat × Pts).2.2).length]])), (.u 0, .u), (.b 1000, .b 35 1 (dR ((((true, s, o) : Bool × Nat × Pts).2.2).map rIs))), (.u 1000, .u)] (Wk.keep [(0, 0), (1000, 1010)] rfl rfl ⟨ks rfl (.dt (by first | rfl | exact congrArg (fun b => V.o (bo1 b)) h74.symm)), kb 0 rfl (.cons (.cons .dt (.cons .dt (.cons .ow .nil))) .nil), kb 1010 rfl (.dt rfl), trivial⟩) rfl ?_ (two_box rfl rfl)
   rfl

theorem walk_nnR {ns : List Lp} (hn : ns.length ≤ 4) {l : Lp} {ms : List Lp} (hl : ns[([] : List Int).length]? = some l) (hR : okR l ([] : List Int)) (hlo : -100000000 ≤ loF ([] : List Int) l.1 ∧ loF ([] : List Int) l.1 ≤ 100000000) (hhi : -100000000 ≤ hiF ([] : List Int) l.2 ∧ hiF ([] : List Int) l.2 ≤ 100000000) {s0 : Nat} (hs0 : s0 ≤ 1199) (ih : ∀ v s o, loF ([] : List Int) l.1 ≤ v → v < hiF ([] : List Int) l.2 → s ≤ 1199 → o.length ≤ 120 → WOk ns ms (([] : List Int) ++ [v]) (dIs (([] : List Int) ++ [v])) s o) (hz : (walkF (l :: ms) ([] : List Int) s0 ([] : Pts)).2.2 = []) : Fn Tryz.prog 146 (hbN ns s0) [.c (.box 0 3 0 0), vN] (.o (bo1 (walkF (l :: ms) ([] : List Int) s0 ([] : Pts)).1)) (hbN ns (walkF (l :: ms) ([] : List Int) s0 ([] : Pts)).2.1) := by
 obtain ⟨R, hRd⟩ : ∃ R, R = walkF (l :: ms) ([] : List Int) s0 ([] : Pts) := ⟨_, rfl⟩
 rw [← hRd] at hz ⊢
 refine Fn.of_code Tryz.func146 rfl rfl (hbN_HB _ _) rfl rfl (hbN_HB _ _) rfl (num_NN _ _ _) ?_
 refine .seq <| .region <| .cons (.asg rfl rfl) <| .nil <| ks_n <| .seq <| .seq <| .region <| .cons (.mv rfl rfl) <| .cons (St1.lenN (e := 3) (m := 1) (by' := 8) rfl rfl rfl rfl rfl (by kernel_rfl) rfl) ?_
 refine .cons (.mv rfl rfl) <| .cons (.nB rfl rfl rfl) <| .cons (.fB 0 0 false rfl rfl rfl) <| .cons (.b1 1 rfl rfl rfl rfl rfl rfl) <| .cons (.ln 172 2 48 rfl rfl rfl) <| .cons (.eq rfl rfl rfl) <| .nil <| ks_n ?_
 refine .cD rfl (fun h15 => ?_) (fun h15 => ?_)
 ·skip
  exact absurd h15 (by have := (List.getElem?_eq_some_iff.1 hl).1; simp at this ⊢; omega)
 ·skip
  refine .skip <| ks_n <| .seq <| .region <| .cons (.mv rfl rfl) <| .cons (.nB rfl rfl rfl) <| .cons (.fB 0 0 false rfl rfl rfl) <| .cons (.b1 1 rfl rfl rfl rfl rfl rfl) <| .cons (.mv rfl rfl) <| .cons (St1.lenN (e := 3) (m := 1) (by' := 8) rfl rfl rfl rfl rfl (by kernel_rfl) rfl) ?_
  refine .cons (.xL 172 2 48 rfl rfl rfl rfl rfl (map_at hl)) ?_
  refine .cons (.lN 2 rfl rfl rfl) <| .cons (.mv rfl rfl) <| .cons (.cP [.tmp 41, .tmp 42] rfl rfl rfl rfl (Fn.nilArg (pre := [ad (rL l)]) (post := []) (sz := 1) (span_fn hR)) rfl) ?_
  refine .cons (.mv rfl rfl) <| .cons (.ex rfl rfl rfl) <| .cons (.ex rfl rfl rfl) <| .cons (.asg rfl rfl) <| .cons (.asg rfl rfl) <| .nil <| ks_n <| .seq <| .seq <| .region <| .cons (.mv rfl rfl) <| .cons (.asg rfl rfl) <| .nil <| ks_n <| .block ?_
  refine .loopK (fun m σ => (∃ (v : Int) (s : Nat), m = (hiF ([] : List Int) l.2 - v).toNat ∧ (loF ([] : List Int) l.1 ≤ v) ∧ (s ≤ 1199) ∧ (iterW (stepW ms ([] : List Int)) (hiF ([] : List Int) l.2 - v).toNat v s [] = R) ∧ σ = [(.t 0, .v (.o (.c (.box 0 3 0 0)))), (.t 1, .v (.o vN)), (.t 6, .v (.o (nat1 (hiF ([] : List Int) l.2)))), (.t 7, .v (.o (nat1 v))), (.b 0, .b 183 3 [[.d (dLs ns), .d (dI (s : Nat)), .d (.val (.slice none 0 0))]]), (.u 0, .u)])) [(0, 0)] ⟨loF ([] : List Int) l.1, s0, rfl, (by omega), hs0, (by rw [hRd]; rfl), rfl⟩ ⟨ks rfl (.c .bx), ks rfl .dt, ks rfl .dt, ks rfl .dt, kb 0 rfl (.cons (.cons .dt (.cons .dt (.cons .dt Ctos.nil))) .nil), trivial⟩ ?_
  rintro m σ ⟨v, s, hm0, h1, hs, hE, rfl⟩
  refine .seq <| .seq <| .region <| .cons (.mv rfl rfl) <| .cons (.mv rfl rfl) <| .cons (.ls rfl rfl rfl) <| .nil <| ks_n ?_
  refine .cD rfl (fun h49 => ?_) (fun h49 => ?_)
  ·skip
   refine .skip <| ks_n <| .seq <| .block <| .seq <| .region <| .cons (.mv rfl rfl) <| .cons (.nB rfl rfl rfl) <| .cons (.fB 1 0 false rfl rfl rfl) <| .cons (.b1 1 rfl rfl rfl rfl rfl rfl) <| .cons (.pl rfl rfl rfl) <| .cons (.nB rfl rfl rfl) <| .cons (.fB 1 0 false rfl rfl rfl) <| .cons (.sT 1 false rfl rfl rfl rfl rfl rfl rfl) <| .nil <| ks_n <| .seq ?_
   refine .keep [(.t 0, .v (.o (.c (.box 0 3 0 0)))), (.t 1, .v (.o vN)), (.t 6, .v (.o (nat1 (hiF ([] : List Int) l.2)))), (.t 7, .v (.o (nat1 v))), (.b 0, .b 183 3 [[.d (dLs ns), .d (dI ((s + 1) : Nat)), .d (.val (.slice none 0 0))]]), (.u 0, .u)] [(0, 0)] ⟨ks rfl (.c .bx), ks rfl .dt, ks rfl .dt, ks rfl .dt, kb 0 rfl (.cons (.cons .dt (.cons .dt (.cons .dt Ctos.nil))) .nil), trivial⟩ ?_
   refine .region <| .cons (.mv rfl rfl) <| .cons (.nB rfl rfl rfl) <| .cons (.fB 1 0 false rfl rfl rfl) <| .cons (.b1 1 rfl rfl rfl rfl rfl rfl) <| .cons (.pl rfl rfl rfl) <| .cons (.gt rfl rfl rfl) <| .cons (.mv rfl rfl) ?_
   refine .cD 65 rfl (fun g65 => ?_) (fun g65 => ?_)
   ·skip
    have hstep : stepW ms ([] : List Int) v s [] = (false, s + 1, []) := if_pos (by omega)
    obtain rfl : R = (false, s + 1, []) := by rw [← hE, iterW_no h49 hstep rfl]
    refine .cons (.gF rfl rfl rfl) <| .cons (.gF rfl rfl rfl) <| .cons (.gF rfl rfl rfl) <| .cons (.gF rfl rfl rfl) <| .cons (.gF rfl rfl rfl) <| .cons (.gF rfl rfl rfl) <| .cons (.gF rfl rfl rfl) <| .cons (.gF rfl rfl rfl) <| .cons (.pT rfl rfl rfl) <| .nil <| ks_n ?_
    refine ACode.condT rfl (fun _ => ?_) (fun h => by first | (cases h; done) | (simp [*] at h; done) | (exfalso; simp_all; done))
    refine .seq <| .region <| .cons (.asg rfl rfl) <| .nil <| ks_n <| .ret <| kb_r <| ks_r <| kl_r <| kb_r <| ks_r ?_
    refine kf_wret [(.t 4, .v (.o (bo1 ((false, s + 1, []) : Bool × Nat × Pts).1))), (.b 0, .b 183 3 (dR ([rWk ns ((false, s + 1, []) : Bool × Nat × Pts).2.1]))), (.u 0, .u)] (Wk.keep [(0, 0)] rfl rfl ⟨ks rfl (.dt (by first | rfl | exact congrArg (fun b => V.o (bo1 b)) h74.symm)), kb 0 rfl (.dt rfl), trivial⟩) rfl ?_ (one_box rfl)
    rfl
   ·skip
    have hstep : stepW ms ([] : List Int) v s [] = walkF ms (([] : List Int) ++ [v]) (s + 1) [] := if_neg (by omega)
    have ihv := ih v (s + 1) [] h1 h49 (by omega) (by simp)
    have hzz : (walkF ms (([] : List Int) ++ [v]) (s + 1) []).2.2 = [] := by rw [← hE] at hz; have h5 := first_nil (fun v s o => stepW_grow ms ([] : List Int) v s o) h49 hz; rwa [hstep] at h5
    refine .cons (.gT rfl rfl rfl (.mv rfl rfl)) <| .cons (.gT rfl rfl rfl (.mv rfl rfl)) <| .cons (.gT rfl rfl rfl (.cP [.tmp 67] rfl rfl rfl rfl (clone_nilN) rfl)) ?_
    refine .cons (.gT rfl rfl rfl (.mv rfl rfl)) <| .cons (.gT rfl rfl rfl (.li 3 0 0 [.tmp 69] rfl rfl rfl rfl rfl rfl)) <| .cons (.gT rfl rfl rfl (St1.appND (e := 3) (sz := 0) (by' := 8) rfl rfl rfl rfl rfl (by kernel_rfl) rfl rfl rfl (by simp))) ?_
    refine .cons (.gT rfl rfl rfl (.cO [.tmp 66, .tmp 71] [(0, 0)] rfl rfl rfl rfl (ihv.nn rfl hzz) rfl ⟨rfl, trivial⟩ (hbN_flat _ _) (hbN_flat _ _) (hbN_HB _ _) outS_one)) ?_
    refine .cons (.gT rfl rfl rfl (.nt rfl rfl)) <| .cons (.pF rfl rfl rfl) <| .nil <| ks_n ?_
    refine ACode.condT rfl (fun h74 => ?_) (fun h74 => ?_)
    ·try simp only [zs1, zs2, zs3, zs4, zs5, zs6, zs7] at h74
     obtain rfl : R = walkF ms (([] : List Int) ++ [v]) (s + 1) [] := by rw [← hE, iterW_no h49 hstep h74]
     refine .seq <| .region <| .cons (.asg rfl rfl) <| .nil <| ks_n <| .ret <| kb_r <| ks_r <| kl_r <| kb_r <| ks_r ?_
     refine kf_wret [(.t 4, .v (.o (bo1 (walkF ms (([] : List Int) ++ [v]) (s + 1) []).1))), (.b 0, .b 183 3 (dR ([rWk ns (walkF ms (([] : List Int) ++ [v]) (s + 1) []).2.1]))), (.u 0, .u)] (Wk.keep [(0, 0)] rfl rfl ⟨ks rfl (.dt (by first | rfl | exact congrArg (fun b => V.o (bo1 b)) h74.symm)), kb 0 rfl (.dt rfl), trivial⟩) rfl ?_ (one_box rfl)
     rfl
    ·try simp only [zs1, zs2, zs3, zs4, zs5, zs6, zs7] at h74
     obtain ⟨g, hg, hst⟩ := walkF_stp ms (([] : List Int) ++ [v]) (s + 1) [] (by omega) (by simp)
     obtain ⟨q1, q2⟩ := hst.ok.1 h74
     obtain ⟨q3, q4⟩ := hst.st h74
     have q5 := congrArg List.length q4
     rw [List.length_append] at q5
     simp only [List.length_nil] at q5 q2
     refine .skip <| kb_n <| ks_n <| .region <| .cons (.mv rfl rfl) <| .cons (.pl rfl rfl rfl) <| .cons (.asg rfl rfl) <| .nil ?_
     refine kl_k [(0, 0)] ⟨v + 1, (walkF ms (([] : List Int) ++ [v]) (s + 1) []).2.1, rfl, by omega, by omega, by rw [← hE, iterW_yes h49 hstep h74, hzz], rfl⟩ ⟨ks rfl (.c .bx), ks rfl .dt, ks rfl .dt, ks rfl .dt, kb 0 rfl (.cons (.cons .dt (.cons .dt (.cons .dt Ctos.nil))) .nil), trivial⟩
  ·skip
   obtain rfl : R = (true, s, []) := by rw [← hE, iterW_ge h49]
   refine .exit <| ks_e <| kl_e <| kb_hit <| ks_n <| .seq <| .region <| .cons (.asg rfl rfl) <| .nil <| ks_n <| .ret ?_
   refine kf_wret [(.t 4, .v (.o (bo1 ((true, s, []) : Bool × Nat × Pts).1))), (.b 0, .b 183 3 (dR ([rWk ns ((true, s, []) : Bool × Nat × Pts).2.1]))), (.u 0, .u)] (Wk.keep [(0, 0)] rfl rfl ⟨ks rfl (.dt (by first | rfl | exact congrArg (fun b => V.o (bo1 b)) h74.symm)), kb 0 rfl (.dt rfl), trivial⟩) rfl ?_ (one_box rfl)
   rfl

theorem walk_noR {ns : List Lp} (hn : ns.length ≤ 4) {l : Lp} {ms : List Lp} (hl : ns[([] : List Int).length]? = some l) (hR : okR l ([] : List Int)) (hlo : -100000000 ≤ loF ([] : List Int) l.1 ∧ loF ([] : List Int) l.1 ≤ 100000000) (hhi : -100000000 ≤ hiF ([] : List Int) l.2 ∧ hiF ([] : List Int) l.2 ≤ 100000000) {s0 : Nat} (hs0 : s0 ≤ 1199) (ih : ∀ v s o, loF ([] : List Int) l.1 ≤ v → v < hiF ([] : List Int) l.2 → s ≤ 1199 → o.length ≤ 120 → WOk ns ms (([] : List Int) ++ [v]) (dIs (([] : List Int) ++ [v])) s o) (hz : (walkF (l :: ms) ([] : List Int) s0 ([] : Pts)).2.2 ≠ []) : Fn Tryz.prog 146 (hbN ns s0) [.c (.box 0 3 0 0), vN] (.o (bo1 (walkF (l :: ms) ([] : List Int) s0 ([] : Pts)).1)) (hbO 1000 ns (walkF (l :: ms) ([] : List Int) s0 ([] : Pts)).2.1 (walkF (l :: ms) ([] : List Int) s0 ([] : Pts)).2.2) := by
 obtain ⟨R, hRd⟩ : ∃ R, R = walkF (l :: ms) ([] : List Int) s0 ([] : Pts) := ⟨_, rfl⟩
 rw [← hRd] at hz ⊢
 refine Fn.of_code Tryz.func146 rfl rfl (hbN_HB _ _) rfl rfl (hbO_HB _ _ _ _) rfl (num_NO _ _ _ _) ?_
 refine .seq <| .region <| .cons (.asg rfl rfl) <| .nil <| ks_n <| .seq <| .seq <| .region <| .cons (.mv rfl rfl) <| .cons (St1.lenN (e := 3) (m := 1) (by' := 8) rfl rfl rfl rfl rfl (by kernel_rfl) rfl) ?_
 refine .cons (.mv rfl rfl) <| .cons (.nB rfl rfl rfl) <| .cons (.fB 0 0 false rfl rfl rfl) <| .cons (.b1 1 rfl rfl rfl rfl rfl rfl) <| .cons (.ln 172 2 48 rfl rfl rfl) <| .cons (.eq rfl rfl rfl) <| .nil <| ks_n ?_
 refine .cD rfl (fun h15 => ?_) (fun h15 => ?_)
 ·skip
  exact absurd h15 (by have := (List.getElem?_eq_some_iff.1 hl).1; simp at this ⊢; omega)
 ·skip
  refine .skip <| ks_n <| .seq <| .region <| .cons (.mv rfl rfl) <| .cons (.nB rfl rfl rfl) <| .cons (.fB 0 0 false rfl rfl rfl) <| .cons (.b1 1 rfl rfl rfl rfl rfl rfl) <| .cons (.mv rfl rfl) <| .cons (St1.lenN (e := 3) (m := 1) (by' := 8) rfl rfl rfl rfl rfl (by kernel_rfl) rfl) ?_
  refine .cons (.xL 172 2 48 rfl rfl rfl rfl rfl (map_at hl)) ?_
  refine .cons (.lN 2 rfl rfl rfl) <| .cons (.mv rfl rfl) <| .cons (.cP [.tmp 41, .tmp 42] rfl rfl rfl rfl (Fn.nilArg (pre := [ad (rL l)]) (post := []) (sz := 1) (span_fn hR)) rfl) ?_
  refine .cons (.mv rfl rfl) <| .cons (.ex rfl rfl rfl) <| .cons (.ex rfl rfl rfl) <| .cons (.asg rfl rfl) <| .cons (.asg rfl rfl) <| .nil <| ks_n <| .seq <| .seq <| .region <| .cons (.mv rfl rfl) <| .cons (.asg rfl rfl) <| .nil <| ks_n <| .block ?_
  refine .loopK (fun m σ => (∃ (v : Int) (s : Nat), m = (hiF ([] : List Int) l.2 - v).toNat ∧ (loF ([] : List Int) l.1 ≤ v) ∧ (s ≤ 1199) ∧ (iterW (stepW ms ([] : List Int)) (hiF ([] : List Int) l.2 - v).toNat v s [] = R) ∧ σ = [(.t 0, .v (.o (.c (.box 0 3 0 0)))), (.t 1, .v (.o vN)), (.t 6, .v (.o (nat1 (hiF ([] : List Int) l.2)))), (.t 7, .v (.o (nat1 v))), (.b 0, .b 183 3 [[.d (dLs ns), .d (dI (s : Nat)), .d (.val (.slice none 0 0))]]), (.u 0, .u)]) ∨ (∃ (v : Int) (s : Nat) (o : Pts), m = (hiF ([] : List Int) l.2 - v).toNat ∧ (loF ([] : List Int) l.1 ≤ v) ∧ (s ≤ 1199) ∧ (o.length ≤ 120) ∧ (o ≠ []) ∧ (iterW (stepW ms ([] : List Int)) (hiF ([] : List Int) l.2 - v).toNat v s o = R) ∧ σ = [(.t 0, .v (.o (.c (.box 0 3 0 0)))), (.t 1, .v (.o vN)), (.t 6, .v (.o (nat1 (hiF ([] : List Int) l.2)))), (.t 7, .v (.o (nat1 v))), (.b 1010, .b 35 1 (dR (o.map rIs))), (.u 1010, .u), (.b 0, .b 183 3 [[.d (dLs ns), .d (dI (s : Nat)), .own 1010 1 (o.length)]]), (.u 0, .u)])) [(0, 0)] (.inl ⟨loF ([] : List Int) l.1, s0, rfl, (by omega), hs0, (by rw [hRd]; rfl), rfl⟩) ⟨ks rfl (.c .bx), ks rfl .dt, ks rfl .dt, ks rfl .dt, kb 0 rfl (.cons (.cons .dt (.cons .dt (.cons .dt Ctos.nil))) .nil), trivial⟩ ?_
  rintro m σ (⟨v, s, hm0, h1, hs, hE, rfl⟩ | ⟨v, s, o, hm0, h1, hs, ho, hno, hE, rfl⟩)
  ·skip
   refine .seq <| .seq <| .region <| .cons (.mv rfl rfl) <| .cons (.mv rfl rfl) <| .cons (.ls rfl rfl rfl) <| .nil <| ks_n ?_
   refine .cD rfl (fun h49 => ?_) (fun h49 => ?_)
   ·skip
    refine .skip <| ks_n <| .seq <| .block <| .seq <| .region <| .cons (.mv rfl rfl) <| .cons (.nB rfl rfl rfl) <| .cons (.fB 1 0 false rfl rfl rfl) <| .cons (.b1 1 rfl rfl rfl rfl rfl rfl) <| .cons (.pl rfl rfl rfl) <| .cons (.nB rfl rfl rfl) <| .cons (.fB 1 0 false rfl rfl rfl) <| .cons (.sT 1 false rfl rfl rfl rfl rfl rfl rfl) <| .nil <| ks_n <| .seq ?_
    by_cases hsp : (walkF ms (([] : List Int) ++ [v]) (s + 1) []).2.2 = []
    ·skip
     have hzz := hsp
     refine .keep [(.t 0, .v (.o (.c (.box 0 3 0 0)))), (.t 1, .v (.o vN)), (.t 6, .v (.o (nat1 (hiF ([] : List Int) l.2)))), (.t 7, .v (.o (nat1 v))), (.b 0, .b 183 3 [[.d (dLs ns), .d (dI ((s + 1) : Nat)), .d (.val (.slice none 0 0))]]), (.u 0, .u)] [(0, 0)] ⟨ks rfl (.c .bx), ks rfl .dt, ks rfl .dt, ks rfl .dt, kb 0 rfl (.cons (.cons .dt (.cons .dt (.cons .dt Ctos.nil))) .nil), trivial⟩ ?_
     refine .region <| .cons (.mv rfl rfl) <| .cons (.nB rfl rfl rfl) <| .cons (.fB 1 0 false rfl rfl rfl) <| .cons (.b1 1 rfl rfl rfl rfl rfl rfl) <| .cons (.pl rfl rfl rfl) <| .cons (.gt rfl rfl rfl) <| .cons (.mv rfl rfl) ?_
     refine .cD 65 rfl (fun g65 => ?_) (fun g65 => ?_)
     ·skip
      exact absurd (by rw [← hE, iterW_no h49 (r := (false, s + 1, [])) (if_pos (by omega)) rfl]) hz
     ·skip
      have hstep : stepW ms ([] : List Int) v s [] = walkF ms (([] : List Int) ++ [v]) (s + 1) [] := if_neg (by omega)
      have ihv := ih v (s + 1) [] h1 h49 (by omega) (by simp)
      refine .cons (.gT rfl rfl rfl (.mv rfl rfl)) <| .cons (.gT rfl rfl rfl (.mv rfl rfl)) <| .cons (.gT rfl rfl rfl (.cP [.tmp 67] rfl rfl rfl rfl (clone_nilN) rfl)) ?_
      refine .cons (.gT rfl rfl rfl (.mv rfl rfl)) <| .cons (.gT rfl rfl rfl (.li 3 0 0 [.tmp 69] rfl rfl rfl rfl rfl rfl)) <| .cons (.gT rfl rfl rfl (St1.appND (e := 3) (sz := 0) (by' := 8) rfl rfl rfl rfl rfl (by kernel_rfl) rfl rfl rfl (by simp))) ?_
      refine .cons (.gT rfl rfl rfl (.cO [.tmp 66, .tmp 71] [(0, 0)] rfl rfl rfl rfl (ihv.nn rfl hzz) rfl ⟨rfl, trivial⟩ (hbN_flat _ _) (hbN_flat _ _) (hbN_HB _ _) outS_one)) ?_
      refine .cons (.gT rfl rfl rfl (.nt rfl rfl)) <| .cons (.pF rfl rfl rfl) <| .nil <| ks_n ?_
      refine ACode.condT rfl (fun h74 => ?_) (fun h74 => ?_)
      ·try simp only [zs1, zs2, zs3, zs4, zs5, zs6, zs7] at h74
       exact absurd (by rw [← hE, iterW_no h49 hstep h74]; exact hzz) hz
      ·try simp only [zs1, zs2, zs3, zs4, zs5, zs6, zs7] at h74
       obtain ⟨g, hg, hst⟩ := walkF_stp ms (([] : List Int) ++ [v]) (s + 1) [] (by omega) (by simp)
       obtain ⟨q1, q2⟩ := hst.ok.1 h74
       obtain ⟨q3, q4⟩ := hst.st h74
       have q5 := congrArg List.length q4
       rw [List.length_append] at q5
       simp only [List.length_nil] at q5 q2
       refine .skip <| kb_n <| ks_n <| .region <| .cons (.mv rfl rfl) <| .cons (.pl rfl rfl rfl) <| .cons (.asg rfl rfl) <| .nil ?_
       refine kl_k [(0, 0)] (.inl ⟨v + 1, (walkF ms (([] : List Int) ++ [v]) (s + 1) []).2.1, rfl, by omega, by omega, by rw [← hE, iterW_yes h49 hstep h74, hzz], rfl⟩) ⟨ks rfl (.c .bx), ks rfl .dt, ks rfl .dt, ks rfl .dt, kb 0 rfl (.cons (.cons .dt (.cons .dt (.cons .dt Ctos.nil))) .nil), trivial⟩
    ·skip
     have hzz := hsp
     refine .keep [(.t 0, .v (.o (.c (.box 0 3 0 0)))), (.t 1, .v (.o vN)), (.t 6, .v (.o (nat1 (hiF ([] : List Int) l.2)))), (.t 7, .v (.o (nat1 v))), (.b 0, .b 183 3 [[.d (dLs ns), .d (dI ((s + 1) : Nat)), .d (.val (.slice none 0 0))]]), (.u 0, .u)] [(0, 0)] ⟨ks rfl (.c .bx), ks rfl .dt, ks rfl .dt, ks rfl .dt, kb 0 rfl (.cons (.cons .dt (.cons .dt (.cons .dt Ctos.nil))) .nil), trivial⟩ ?_
     refine .region <| .cons (.mv rfl rfl) <| .cons (.nB rfl rfl rfl) <| .cons (.fB 1 0 false rfl rfl rfl) <| .cons (.b1 1 rfl rfl rfl rfl rfl rfl) <| .cons (.pl rfl rfl rfl) <| .cons (.gt rfl rfl rfl) <| .cons (.mv rfl rfl) ?_
     refine .cD 65 rfl (fun g65 => ?_) (fun g65 => ?_)
     ·skip
      exact absurd (by rw [← hE, iterW_no h49 (r := (false, s + 1, [])) (if_pos (by omega)) rfl]) hz
     ·skip
      have hstep : stepW ms ([] : List Int) v s [] = walkF ms (([] : List Int) ++ [v]) (s + 1) [] := if_neg (by omega)
      have ihv := ih v (s + 1) [] h1 h49 (by omega) (by simp)
      refine .cons (.gT rfl rfl rfl (.mv rfl rfl)) <| .cons (.gT rfl rfl rfl (.mv rfl rfl)) <| .cons (.gT rfl rfl rfl (.cP [.tmp 67] rfl rfl rfl rfl (clone_nilN) rfl)) ?_
      refine .cons (.gT rfl rfl rfl (.mv rfl rfl)) <| .cons (.gT rfl rfl rfl (.li 3 0 0 [.tmp 69] rfl rfl rfl rfl rfl rfl)) <| .cons (.gT rfl rfl rfl (St1.appND (e := 3) (sz := 0) (by' := 8) rfl rfl rfl rfl rfl (by kernel_rfl) rfl rfl rfl (by simp))) ?_
      refine .cons (.gT rfl rfl rfl (.cO [.tmp 66, .tmp 71] [(0, 0), (1000, 1072)] rfl rfl rfl rfl (ihv.no rfl hzz) rfl ⟨rfl, trivial⟩ (hbN_flat _ _) (hbO_flat3 _ _ _) (hbO_HB _ _ _ _) outS_O)) ?_
      refine .cons (.gT rfl rfl rfl (.nt rfl rfl)) <| .cons (.pF rfl rfl rfl) <| .nil <| ks_n ?_
      refine ACode.condT rfl (fun h74 => ?_) (fun h74 => ?_)
      ·try simp only [zs1, zs2, zs3, zs4, zs5, zs6, zs7] at h74
       obtain rfl : R = walkF ms (([] : List Int) ++ [v]) (s + 1) [] := by rw [← hE, iterW_no h49 hstep h74]
       refine .seq <| .region <| .cons (.asg rfl rfl) <| .nil <| ks_n <| .ret <| kb_r <| ks_r <| kl_r <| kb_r <| ks_r ?_
       refine kf_wret [(.t 4, .v (.o (bo1 (walkF ms (([] : List Int) ++ [v]) (s + 1) []).1))), (.b 0, .b 183 3 ([[.d (dLs ns), .d (dI ((walkF ms (([] : List Int) ++ [v]) (s + 1) []).2.1 : Nat)), .own 1000 1 ((walkF ms (([] : List Int) ++ [v]) (s + 1) []).2.2).length]])), (.u 0, .u), (.b 1000, .b 35 1 (dR (((walkF ms (([] : List Int) ++ [v]) (s + 1) []).2.2).map rIs))), (.u 1000, .u)] (Wk.keep [(0, 0), (1000, 1072)] rfl rfl ⟨ks rfl (.dt (by first | rfl | exact congrArg (fun b => V.o (bo1 b)) h74.symm)), kb 0 rfl (.cons (.cons .dt (.cons .dt (.cons .ow .nil))) .nil), kb 1072 rfl (.dt rfl), trivial⟩) rfl ?_ (two_box rfl rfl)
       rfl
      ·try simp only [zs1, zs2, zs3, zs4, zs5, zs6, zs7] at h74
       obtain ⟨g, hg, hst⟩ := walkF_stp ms (([] : List Int) ++ [v]) (s + 1) [] (by omega) (by simp)
       obtain ⟨q1, q2⟩ := hst.ok.1 h74
       obtain ⟨q3, q4⟩ := hst.st h74
       have q5 := congrArg List.length q4
       rw [List.length_append] at q5
       simp only [List.length_nil] at q5 q2
       refine .skip <| kb_n <| ks_n <| .region <| .cons (.mv rfl rfl) <| .cons (.pl rfl rfl rfl) <| .cons (.asg rfl rfl) <| .nil ?_
       refine kl_k [(0, 0), (1010, 1072)] (.inr ⟨v + 1, (walkF ms (([] : List Int) ++ [v]) (s + 1) []).2.1, (walkF ms (([] : List Int) ++ [v]) (s + 1) []).2.2, rfl, by omega, by omega, by omega, hzz, by rw [← hE, iterW_yes h49 hstep h74], rfl⟩) ⟨ks rfl (.c .bx), ks rfl .dt, ks rfl .dt, ks rfl .dt, kb 1072 rfl (.dt rfl), kb 0 rfl (.cons (.cons .dt (.cons .dt (.cons .ow Ctos.nil))) .nil), trivial⟩
   ·skip
    exact absurd (by rw [← hE, iterW_ge h49]) hz
  ·skip
   refine .seq <| .seq <| .region <| .cons (.mv rfl rfl) <| .cons (.mv rfl rfl) <| .cons (.ls rfl rfl rfl) <| .nil <| ks_n ?_
   refine .cD rfl (fun h49 => ?_) (fun h49 => ?_)
   ·skip
    refine .skip <| ks_n <| .seq <| .block <| .seq <| .region <| .cons (.mv rfl rfl) <| .cons (.nB rfl rfl rfl) <| .cons (.fB 1 0 false rfl rfl rfl) <| .cons (.b1 1 rfl rfl rfl rfl rfl rfl) <| .cons (.pl rfl rfl rfl) <| .cons (.nB rfl rfl rfl) <| .cons (.fB 1 0 false rfl rfl rfl) <| .cons (.sT 1 false rfl rfl rfl rfl rfl rfl rfl) <| .nil <| ks_n <| .seq ?_
    refine .keep [(.t 0, .v (.o (.c (.box 0 3 0 0)))), (.t 1, .v (.o vN)), (.t 6, .v (.o (nat1 (hiF ([] : List Int) l.2)))), (.t 7, .v (.o (nat1 v))), (.b 1690, .b 35 1 (dR (o.map rIs))), (.u 1690, .u), (.b 0, .b 183 3 [[.d (dLs ns), .d (dI ((s + 1) : Nat)), .own 1690 1 (o.length)]]), (.u 0, .u)] [(0, 0), (1690, 1010)] ⟨ks rfl (.c .bx), ks rfl .dt, ks rfl .dt, ks rfl .dt, kb 1010 rfl (.dt rfl), kb 0 rfl (.cons (.cons .dt (.cons .dt (.cons .ow Ctos.nil))) .nil), trivial⟩ ?_
    refine .region <| .cons (.mv rfl rfl) <| .cons (.nB rfl rfl rfl) <| .cons (.fB 1 0 false rfl rfl rfl) <| .cons (.b1 1 rfl rfl rfl rfl rfl rfl) <| .cons (.pl rfl rfl rfl) <| .cons (.gt rfl rfl rfl) <| .cons (.mv rfl rfl) ?_
    refine .cD 65 rfl (fun g65 => ?_) (fun g65 => ?_)
    ·skip
     have hstep : stepW ms ([] : List Int) v s o = (false, s + 1, o) := if_pos (by omega)
     obtain rfl : R = (false, s + 1, o) := by rw [← hE, iterW_no h49 hstep rfl]
     refine .cons (.gF rfl rfl rfl) <| .cons (.gF rfl rfl rfl) <| .cons (.gF rfl rfl rfl) <| .cons (.gF rfl rfl rfl) <| .cons (.gF rfl rfl rfl) <| .cons (.gF rfl rfl rfl) <| .cons (.gF rfl rfl rfl) <| .cons (.gF rfl rfl rfl) <| .cons (.pT rfl rfl rfl) <| .nil <| ks_n ?_
     refine ACode.condT rfl (fun _ => ?_) (fun h => by first | (cases h; done) | (simp [*] at h; done) | (exfalso; simp_all; done))
     refine .seq <| .region <| .cons (.asg rfl rfl) <| .nil <| ks_n <| .ret <| kb_r <| ks_r <| kl_r <| kb_r <| ks_r ?_
     refine kf_wret [(.t 4, .v (.o (bo1 ((false, s + 1, o) : Bool × Nat × Pts).1))), (.b 0, .b 183 3 ([[.d (dLs ns), .d (dI (((false, s + 1, o) : Bool × Nat × Pts).2.1 : Nat)), .own 1000 1 (((false, s + 1, o) : Bool × Nat × Pts).2.2).length]])), (.u 0, .u), (.b 1000, .b 35 1 (dR ((((false, s + 1, o) : Bool × Nat × Pts).2.2).map rIs))), (.u 1000, .u)] (Wk.keep [(0, 0), (1000, 1690)] rfl rfl ⟨ks rfl (.dt (by first | rfl | exact congrArg (fun b => V.o (bo1 b)) h74.symm)), kb 0 rfl (.cons (.cons .dt (.cons .dt (.cons .ow .nil))) .nil), kb 1690 rfl (.dt rfl), trivial⟩) rfl ?_ (two_box rfl rfl)
     rfl
    ·skip
     have hstep : stepW ms ([] : List Int) v s o = walkF ms (([] : List Int) ++ [v]) (s + 1) o := if_neg (by omega)
     have ihv := ih v (s + 1) o h1 h49 (by omega) (by omega)
     refine .cons (.gT rfl rfl rfl (.mv rfl rfl)) <| .cons (.gT rfl rfl rfl (.mv rfl rfl)) <| .cons (.gT rfl rfl rfl (.cP [.tmp 67] rfl rfl rfl rfl (clone_nilN) rfl)) ?_
     refine .cons (.gT rfl rfl rfl (.mv rfl rfl)) <| .cons (.gT rfl rfl rfl (.li 3 0 0 [.tmp 69] rfl rfl rfl rfl rfl rfl)) <| .cons (.gT rfl rfl rfl (St1.appND (e := 3) (sz := 0) (by' := 8) rfl rfl rfl rfl rfl (by kernel_rfl) rfl rfl rfl (by simp))) ?_
     refine .cons (.gT rfl rfl rfl (.cO [.tmp 66, .tmp 71] [(0, 0), (1, 1690), (1000, 1072)] rfl rfl rfl rfl (ihv.oo hno) rfl (hbIn_O rfl rfl) (hbO_flat1 _ _ _) (hbO_flat3 _ _ _) (hbO_HB _ _ _ _) outS_O)) ?_
     refine .cons (.gT rfl rfl rfl (.nt rfl rfl)) <| .cons (.pF rfl rfl rfl) <| .nil <| ks_n ?_
     refine ACode.condT rfl (fun h74 => ?_) (fun h74 => ?_)
     ·try simp only [zs1, zs2, zs3, zs4, zs5, zs6, zs7] at h74
      obtain rfl : R = walkF ms (([] : List Int) ++ [v]) (s + 1) o := by rw [← hE, iterW_no h49 hstep h74]
      refine .seq <| .region <| .cons (.asg rfl rfl) <| .nil <| ks_n <| .ret <| kb_r <| ks_r <| kl_r <| kb_r <| ks_r ?_
      refine kf_wret [(.t 4, .v (.o (bo1 (walkF ms (([] : List Int) ++ [v]) (s + 1) o).1))), (.b 0, .b 183 3 ([[.d (dLs ns), .d (dI ((walkF ms (([] : List Int) ++ [v]) (s + 1) o).2.1 : Nat)), .own 1000 1 ((walkF ms (([] : List Int) ++ [v]) (s + 1) o).2.2).length]])), (.u 0, .u), (.b 1000, .b 35 1 (dR (((walkF ms (([] : List Int) ++ [v]) (s + 1) o).2.2).map rIs))), (.u 1000, .u)] (Wk.keep [(0, 0), (1000, 1072)] rfl rfl ⟨ks rfl (.dt (by first | rfl | exact congrArg (fun b => V.o (bo1 b)) h74.symm)), kb 0 rfl (.cons (.cons .dt (.cons .dt (.cons .ow .nil))) .nil), kb 1072 rfl (.dt rfl), trivial⟩) rfl ?_ (two_box rfl rfl)
      rfl
     ·try simp only [zs1, zs2, zs3, zs4, zs5, zs6, zs7] at h74
      obtain ⟨g, hg, hst⟩ := walkF_stp ms (([] : List Int) ++ [v]) (s + 1) o (by omega) (by omega)
      obtain ⟨q1, q2⟩ := hst.ok.1 h74
      obtain ⟨q3, q4⟩ := hst.st h74
      have q5 := congrArg List.length q4
      rw [List.length_append] at q5
      skip
      refine .skip <| kb_n <| ks_n <| .region <| .cons (.mv rfl rfl) <| .cons (.pl rfl rfl rfl) <| .cons (.asg rfl rfl) <| .nil ?_
      refine kl_k [(0, 0), (1010, 1072)] (.inr ⟨v + 1, (walkF ms (([] : List Int) ++ [v]) (s + 1) o).2.1, (walkF ms (([] : List Int) ++ [v]) (s + 1) o).2.2, rfl, by omega, by omega, by omega, by obtain ⟨z, hz2⟩ := walkF_grow ms (([] : List Int) ++ [v]) (s + 1) o; rw [hz2]; exact fun e => hno (List.append_eq_nil_iff.1 e).1, by rw [← hE, iterW_yes h49 hstep h74], rfl⟩) ⟨ks rfl (.c .bx), ks rfl .dt, ks rfl .dt, ks rfl .dt, kb 1072 rfl (.dt rfl), kb 0 rfl (.cons (.cons .dt (.cons .dt (.cons .ow Ctos.nil))) .nil), trivial⟩
   ·skip
    obtain rfl : R = (true, s, o) := by rw [← hE, iterW_ge h49]
    refine .exit <| ks_e <| kl_e <| kb_hit <| ks_n <| .seq <| .region <| .cons (.asg rfl rfl) <| .nil <| ks_n <| .ret ?_
    refine kf_wret [(.t 4, .v (.o (bo1 ((true, s, o) : Bool × Nat × Pts).1))), (.b 0, .b 183 3 ([[.d (dLs ns), .d (dI (((true, s, o) : Bool × Nat × Pts).2.1 : Nat)), .own 1000 1 (((true, s, o) : Bool × Nat × Pts).2.2).length]])), (.u 0, .u), (.b 1000, .b 35 1 (dR ((((true, s, o) : Bool × Nat × Pts).2.2).map rIs))), (.u 1000, .u)] (Wk.keep [(0, 0), (1000, 1010)] rfl rfl ⟨ks rfl (.dt (by first | rfl | exact congrArg (fun b => V.o (bo1 b)) h74.symm)), kb 0 rfl (.cons (.cons .dt (.cons .dt (.cons .ow .nil))) .nil), kb 1010 rfl (.dt rfl), trivial⟩) rfl ?_ (two_box rfl rfl)
    rfl
theorem npR_no {ns : List Lp} (h : okP ns = false) : npR ns = [] := if_neg (by rw [h]; simp)
theorem np_no1 {ns : List Lp} (h : 1200 < workF ns [] 1200) : okP ns = false := by
  have h1 := workF_spec ns [] 1200 (by omega)
  have h2 : ¬ nodesG ns [] ≤ 1200 := fun hc => by rw [h1.1 (by omega)] at h; omega
  rw [okP, decide_eq_false h2, Bool.false_and, Bool.and_false]
theorem np_no2 {ns : List Lp} (h : 120 < (ptsF ns [] []).length) : okP ns = false := by
  have h1 := (ptsF_spec ns [] [] (by simp)).leq
  have h2 : ¬ (ptsG ns []).length ≤ 120 := fun hc => by have := h1.2 (by simpa using hc); omega
  rw [okP, decide_eq_false h2, Bool.and_false, Bool.and_false]
theorem np_yes {ns : List Lp} (hv : nsV ns = true) (hw : ¬ 1200 < workF ns [] 1200) (hp : ¬ 120 < (ptsF ns [] []).length) : okP ns = true ∧ npR ns = ptsF ns [] [] := by
  have h1 := workF_spec ns [] 1200 (by omega)
  have h2 := ptsF_spec ns [] [] (by simp)
  have h3 : (ptsG ns []).length ≤ 120 := by have := h2.leq.1 (by omega); simpa using this
  have h4 : nodesG ns [] ≤ 1200 := by
    by_cases hc : nodesG ns [] ≤ 1200
    · exact hc
    · exact absurd (by rw [h1.2 (by omega)]; omega) hw
  have h5 : okP ns = true := okP_iff.2 ⟨hv, h4, h3⟩
  exact ⟨h5, by rw [npR, if_pos h5, h2.all (by simpa using h3)]; simp⟩

theorem specNestPts_fn (ns : List Lp) (hs : smN ns) : Fn Tryz.prog 134 [] [vD (dLs ns)] (.tup [vD (dPs (npR ns)), bo1 (okP ns)]) [] := by
 refine Fn.code0 Tryz.func134 rfl rfl rfl rfl ?_
 refine .seq <| .region <| .cons (.asg rfl rfl) <| .cons (.asg rfl rfl) <| .nil <| ks_n <| .seq <| .seq <| .region <| .cons (.mv rfl rfl) <| .cons (.cP [.tmp 5] rfl rfl rfl rfl (specNestV_fn ns hs) rfl) ?_
 refine .cons (.nt rfl rfl) <| .cons (.mv rfl rfl) ?_
 refine AOps.cases 8 _ rfl (fun g8 => ?_) (fun g8 => ?_)
 ·try simp only [zs1, zs2, zs3, zs4, zs5, zs6, zs7] at g8
  refine .cons (.gF rfl rfl rfl) <| .cons (.gF rfl rfl rfl) <| .cons (.gF rfl rfl rfl) <| .cons (.pT rfl rfl rfl) <| .nil <| ks_n ?_
  refine ACode.condT rfl (fun _ => ?_) (fun h => by first | (cases h; done) | (simp [*] at h; done) | (exfalso; simp_all; done))
  refine .seq ?_
  have hO : okP ns = false := by first | (rw [okP, g8]; rfl) | exact np_no1 h12
  have hN := npR_no hO
  refine .region <| .cons (St1.lit0 (k' := 113) (e := 35) (sz := 1) (b := true) rfl rfl rfl rfl (by kernel_rfl) rfl rfl) ?_
  refine .cons (.asg rfl rfl) <| .cons (.asg rfl rfl) <| .nil <| ks_n <| .ret <| ks_r ?_
  refine kf_wret [(.t 2, .v (.o (vD (dPs (npR ns))))), (.t 3, .v (.o (bo1 (okP ns))))] (Wk.keep [] rfl rfl ⟨ks rfl (.c (.fz rfl (by first | (rw [hN]; done) | (rw [hN]; rfl)) (by rw [hN]; simp) (by first | (simp; done) | omega))), ks rfl (.dt (by rw [hO])), trivial⟩) rfl ?_ nobox
  rfl
 ·try simp only [zs1, zs2, zs3, zs4, zs5, zs6, zs7] at g8
  refine .cons (.gT rfl rfl rfl (.mv rfl rfl)) <| .cons (.gT rfl rfl rfl (.cP [.tmp 9, .const (.slice none 0 0), .const (.int .i64 (1200))] rfl rfl rfl rfl (Fn.nilArg (pre := [vD (dLs ns)]) (post := [nat1 1200]) (sz := 1) (l2Work_fn g8 ns [] 1200 rfl (by simp) PB.nil (by omega) (by omega))) rfl)) ?_
  refine .cons (.gT rfl rfl rfl (.gt rfl rfl rfl)) <| .cons (.pF rfl rfl rfl) <| .nil <| ks_n ?_
  refine ACode.condT rfl (fun h12 => ?_) (fun h12 => ?_)
  ·try simp only [zs1, zs2, zs3, zs4, zs5, zs6, zs7] at h12
   refine .seq ?_
   have hO : okP ns = false := by first | (rw [okP, g8]; rfl) | exact np_no1 h12
   have hN := npR_no hO
   refine .region <| .cons (St1.lit0 (k' := 113) (e := 35) (sz := 1) (b := true) rfl rfl rfl rfl (by kernel_rfl) rfl rfl) ?_
   refine .cons (.asg rfl rfl) <| .cons (.asg rfl rfl) <| .nil <| ks_n <| .ret <| ks_r ?_
   refine kf_wret [(.t 2, .v (.o (vD (dPs (npR ns))))), (.t 3, .v (.o (bo1 (okP ns))))] (Wk.keep [] rfl rfl ⟨ks rfl (.c (.fz rfl (by first | (rw [hN]; done) | (rw [hN]; rfl)) (by rw [hN]; simp) (by first | (simp; done) | omega))), ks rfl (.dt (by rw [hO])), trivial⟩) rfl ?_ nobox
   rfl
  ·try simp only [zs1, zs2, zs3, zs4, zs5, zs6, zs7] at h12
   refine .skip <| ks_n <| .seq <| .region <| .cons (St1.lit0 (k' := 114) (e := 35) (sz := 1) (b := true) rfl rfl rfl rfl (by kernel_rfl) rfl rfl) ?_
   refine .cons (.mv rfl rfl) <| .cons (.cO [.tmp 14, .tmp 15, .const (.slice none 0 0)] [(0, 114), (1000, 116)] rfl rfl rfl rfl (Fn.nilArg (pre := [.c (.own 0 1 0), vD (dLs ns)]) (post := []) (sz := 1) (l2Points_fn g8 ns [] [] rfl (by simp) PB.nil (by simp))) rfl (hbIn_one rfl) (hbPt_flat _ _) (hbPt_flat _ _) (hbPt_HB _ _) outS_one) ?_
   refine .cons (.asg rfl rfl) <| .nil <| ks_n <| .seq <| .seq <| .region <| .cons (.mv rfl rfl) <| .cons (.lB 35 1 24 rfl rfl rfl rfl) <| .cons (.gt rfl rfl rfl) <| .nil <| ks_n ?_
   refine .cD rfl (fun h19 => ?_) (fun h19 => ?_)
   ·skip
    refine .seq ?_
    have hO : okP ns = false := np_no2 (by omega)
    have hN := npR_no hO
    refine .region <| .cons (St1.lit0 (k' := 120) (e := 35) (sz := 1) (b := true) rfl rfl rfl rfl (by kernel_rfl) rfl rfl) ?_
    refine .cons (.asg rfl rfl) <| .cons (.asg rfl rfl) <| .nil <| ks_n <| .ret <| ks_r ?_
    refine kf_wret [(.t 2, .v (.o (vD (dPs (npR ns))))), (.t 3, .v (.o (bo1 (okP ns))))] (Wk.keep [] rfl rfl ⟨ks rfl (.c (.fz rfl (by first | (rw [hN]; done) | (rw [hN]; rfl)) (by rw [hN]; simp) (by first | (simp; done) | omega))), ks rfl (.dt (by rw [hO])), trivial⟩) rfl ?_ nobox
    rfl
   ·skip
    refine .skip <| ks_n <| .seq ?_
    obtain ⟨hO, hN⟩ := np_yes g8 (by omega) (by omega)
    refine .region <| .cons (.mv rfl rfl) <| .cons (.asg rfl rfl) <| .cons (.asg rfl rfl) <| .nil <| ks_n <| .ret ?_
    refine kf_wret [(.t 2, .v (.o (vD (dPs (npR ns))))), (.t 3, .v (.o (bo1 (okP ns))))] (Wk.keep [] rfl rfl ⟨ks rfl (.c (.fz rfl (by first | (rw [hN]; done) | (rw [hN]; rfl)) (by rw [hN]; simp) (by first | (simp; done) | omega))), ks rfl (.dt (by rw [hO])), trivial⟩) rfl ?_ nobox
    rfl
theorem walk_ok {ns : List Lp} (hv : nsV ns = true) : ∀ (ms : List Lp) (p : List Int) (s : Nat) (o : Pts), ns.drop p.length = ms → p.length ≤ ns.length → PB p → 0 < p.length → s ≤ 1199 → o.length ≤ 120 → WOk ns ms p (dIs p) s o
  | [], p, s, o, hd, hle, hp, h0, hs, ho => by
    have hl : p.length = ns.length := by have := congrArg List.length hd; rw [List.length_drop] at this; simp at this; omega
    have h4 := (nsV_at hv).1
    refine ⟨fun e h => absurd h (by simp [walkF]), fun e _ => ?_, fun hne => walk_leaf_oo hl h0 (by omega) ho⟩
    subst e
    exact walk_leaf_no hl h0 (by omega)
  | l :: ms, p, s, o, hd, hle, hp, h0, hs, ho => by
    obtain ⟨hl, hd2⟩ := drop_tail hd
    have hlt := (List.getElem?_eq_some_iff.1 hl).1
    have h4 := (nsV_at hv).1
    obtain ⟨hR, hlo, hhi, h10⟩ := node_facts hv hp (by omega) hl
    have ih : ∀ v s o, loF p l.1 ≤ v → v < hiF p l.2 → s ≤ 1199 → o.length ≤ 120 → WOk ns ms (p ++ [v]) (dIs (p ++ [v])) s o := fun v s o a b c d =>
      walk_ok hv ms (p ++ [v]) s o (by rw [snoc_len]; exact hd2) (by rw [snoc_len]; omega) (hp.snoc (by omega)) (by rw [snoc_len]; omega) c d
    refine ⟨fun e h => ?_, fun e h => ?_, fun hne => walk_oo h4 hl hR (by omega) (by omega) h0 hs ho hne ih⟩
    · subst e; exact walk_nn h4 hl hR (by omega) (by omega) h0 hs ih h
    · subst e; exact walk_no h4 hl hR (by omega) (by omega) h0 hs ih h
theorem walk_root {ns : List Lp} (hv : nsV ns = true) : ((walkF ns [] 0 []).2.2 = [] → Fn Tryz.prog 146 (hbN ns 0) [.c (.box 0 3 0 0), vN] (.o (bo1 (walkF ns [] 0 []).1)) (hbN ns (walkF ns [] 0 []).2.1)) ∧
    ((walkF ns [] 0 []).2.2 ≠ [] → Fn Tryz.prog 146 (hbN ns 0) [.c (.box 0 3 0 0), vN] (.o (bo1 (walkF ns [] 0 []).1)) (hbO 1000 ns (walkF ns [] 0 []).2.1 (walkF ns [] 0 []).2.2)) := by
  cases ns with
  | nil => exact ⟨fun h => absurd h (by simp [walkF]), fun _ => walk_leaf_noR rfl⟩
  | cons l ms =>
    have h4 := (nsV_at hv).1
    have hl : (l :: ms)[([] : List Int).length]? = some l := rfl
    obtain ⟨hR, hlo, hhi, h10⟩ := node_facts hv PB.nil (by simp) hl
    have ih : ∀ v s o, loF [] l.1 ≤ v → v < hiF [] l.2 → s ≤ 1199 → o.length ≤ 120 → WOk (l :: ms) ms ([] ++ [v]) (dIs ([] ++ [v])) s o := fun v s o a b c d =>
      walk_ok hv ms ([] ++ [v]) s o rfl (by simp) (PB.nil.snoc (by simp at hlo hhi ⊢; omega)) (by simp) c d
    simp only [List.length_nil, Int.pow_zero, Int.mul_one] at hlo hhi
    exact ⟨fun h => walk_nnR h4 hl hR (by omega) (by omega) (by omega) ih h, fun h => walk_noR h4 hl hR (by omega) (by omega) (by omega) ih h⟩
theorem np_walk {ns : List Lp} (hv : nsV ns = true) : okP ns = (walkF ns [] 0 []).1 ∧ ((walkF ns [] 0 []).1 = true → npR ns = (walkF ns [] 0 []).2.2 ∧ npR ns = ptsG ns [] ∧ (npR ns).length ≤ 120) := by
  obtain ⟨g, hg, h⟩ := walkF_stp ns [] 0 [] (by omega) (by simp)
  have hok : okP ns = (walkF ns [] 0 []).1 := by
    rw [Bool.eq_iff_iff, okP_iff, h.ok]
    simp only [hv, true_and, List.length_nil, Nat.zero_add]
    omega
  refine ⟨hok, fun e => ?_⟩
  have h1 := (h.st e).2
  have h2 : npR ns = ptsG ns [] := if_pos (by rw [hok]; exact e)
  exact ⟨by rw [h1, h2]; simp, h2, by rw [h2]; exact (okP_iff.1 (hok.trans e)).2.2⟩

theorem implNestPts_nn (ns : List Lp) (hs : smN ns) (hW : nsV ns = true → Fn Tryz.prog 146 (hbN ns 0) [.c (.box 0 3 0 0), vN] (.o (bo1 (walkF ns [] 0 []).1)) (hbN ns (walkF ns [] 0 []).2.1)) (hz : (walkF ns [] 0 []).2.2 = []) : Fn Tryz.prog 96 [] [vD (dLs ns)] (.tup [vD (dPs (npR ns)), bo1 (okP ns)]) [] := by
 refine Fn.code0 Tryz.func96 rfl rfl rfl rfl ?_
 refine .seq <| .region <| .cons (.asg rfl rfl) <| .cons (.asg rfl rfl) <| .nil <| ks_n <| .seq <| .seq <| .region <| .cons (.mv rfl rfl) <| .cons (.cP [.tmp 5] rfl rfl rfl rfl (implNestV_fn ns hs) rfl) ?_
 refine .cons (.nt rfl rfl) <| .nil <| ks_n ?_
 refine ACode.condT rfl (fun h7 => ?_) (fun h7 => ?_)
 ·try simp only [zs1, zs2, zs3, zs4, zs5, zs6, zs7] at h7
  refine .seq ?_
  have hO : okP ns = false := by rw [okP, h7]; rfl
  have hN := npR_no hO
  refine .region <| .cons (.asg rfl rfl) <| .cons (.asg rfl rfl) <| .nil <| ks_n <| .ret <| ks_r ?_
  refine kf_wret [(.t 2, .v (.o (vD (dPs (npR ns))))), (.t 3, .v (.o (bo1 (okP ns))))] (Wk.keep [] rfl rfl ⟨ks rfl (.c (Cto.nilE 1 (by rw [hN]; rfl))), ks rfl (.dt (by rw [hO])), trivial⟩) rfl ?_ nobox
  rfl
 ·try simp only [zs1, zs2, zs3, zs4, zs5, zs6, zs7] at h7
  refine .skip <| ks_n <| .seq <| .region <| .cons (.mv rfl rfl) <| .cons (.bu [(0, .tmp 8)] [(0, 1), (1, 1), (2, 1)] [.slice none 0 0, .int .i64 0, .slice none 0 0] rfl rfl rfl rfl rfl) <| .cons (St1.boxB (k' := 110) rfl rfl rfl rfl rfl rfl rfl) <| .cons (.asg rfl rfl) <| .nil <| ks_n <| .seq <| .seq <| .region <| .cons (.mv rfl rfl) <| .cons (.cO [.tmp 11, .const (.slice none 0 0)] [(0, 110)] rfl rfl rfl rfl (hW h7) rfl ⟨rfl, trivial⟩ (hbN_flat _ _) (hbN_flat _ _) (hbN_HB _ _) outS_one) ?_
  refine .cons (.nt rfl rfl) <| .nil <| ks_n ?_
  refine ACode.condT rfl (fun h13 => ?_) (fun h13 => ?_)
  ·try simp only [zs1, zs2, zs3, zs4, zs5, zs6, zs7] at h13
   refine .seq ?_
   have hO : okP ns = false := (np_walk h7).1.trans h13
   have hN := npR_no hO
   refine .region <| .cons (.asg rfl rfl) <| .cons (.asg rfl rfl) <| .nil <| ks_n <| .ret <| ks_r ?_
   refine kf_wret [(.t 2, .v (.o (vD (dPs (npR ns))))), (.t 3, .v (.o (bo1 (okP ns))))] (Wk.keep [] rfl rfl ⟨ks rfl (.c (Cto.nilE 1 (by rw [hN]; rfl))), ks rfl (.dt (by rw [hO])), trivial⟩) rfl ?_ nobox
   rfl
  ·try simp only [zs1, zs2, zs3, zs4, zs5, zs6, zs7] at h13
   refine .skip <| ks_n <| .seq ?_
   have hO : okP ns = true := (np_walk h7).1.trans h13
   obtain ⟨hN, _, hN3⟩ := (np_walk h7).2 h13
   rw [hz] at hN
   refine .region <| .cons (.mv rfl rfl) <| .cons (.nB rfl rfl rfl) <| .cons (.fB 2 0 false rfl rfl rfl) <| .cons (.b1 1 rfl rfl rfl rfl rfl rfl) <| .cons (.asg rfl rfl) <| .cons (.asg rfl rfl) <| .nil <| ks_n <| .ret ?_
   refine kf_wret [(.t 2, .v (.o (vD (dPs (npR ns))))), (.t 3, .v (.o (bo1 (okP ns))))] (Wk.keep [] rfl rfl ⟨ks rfl (.c (Cto.nilE 1 (by rw [hN]; rfl))), ks rfl (.dt (by rw [hO])), trivial⟩) rfl ?_ nobox
   rfl

theorem implNestPts_no (ns : List Lp) (hs : smN ns) (hW : nsV ns = true → Fn Tryz.prog 146 (hbN ns 0) [.c (.box 0 3 0 0), vN] (.o (bo1 (walkF ns [] 0 []).1)) (hbO 1000 ns (walkF ns [] 0 []).2.1 (walkF ns [] 0 []).2.2)) : Fn Tryz.prog 96 [] [vD (dLs ns)] (.tup [vD (dPs (npR ns)), bo1 (okP ns)]) [] := by
 refine Fn.code0 Tryz.func96 rfl rfl rfl rfl ?_
 refine .seq <| .region <| .cons (.asg rfl rfl) <| .cons (.asg rfl rfl) <| .nil <| ks_n <| .seq <| .seq <| .region <| .cons (.mv rfl rfl) <| .cons (.cP [.tmp 5] rfl rfl rfl rfl (implNestV_fn ns hs) rfl) ?_
 refine .cons (.nt rfl rfl) <| .nil <| ks_n ?_
 refine ACode.condT rfl (fun h7 => ?_) (fun h7 => ?_)
 ·try simp only [zs1, zs2, zs3, zs4, zs5, zs6, zs7] at h7
  refine .seq ?_
  have hO : okP ns = false := by rw [okP, h7]; rfl
  have hN := npR_no hO
  refine .region <| .cons (.asg rfl rfl) <| .cons (.asg rfl rfl) <| .nil <| ks_n <| .ret <| ks_r ?_
  refine kf_wret [(.t 2, .v (.o (vD (dPs (npR ns))))), (.t 3, .v (.o (bo1 (okP ns))))] (Wk.keep [] rfl rfl ⟨ks rfl (.c (Cto.nilE 1 (by rw [hN]; rfl))), ks rfl (.dt (by rw [hO])), trivial⟩) rfl ?_ nobox
  rfl
 ·try simp only [zs1, zs2, zs3, zs4, zs5, zs6, zs7] at h7
  refine .skip <| ks_n <| .seq <| .region <| .cons (.mv rfl rfl) <| .cons (.bu [(0, .tmp 8)] [(0, 1), (1, 1), (2, 1)] [.slice none 0 0, .int .i64 0, .slice none 0 0] rfl rfl rfl rfl rfl) <| .cons (St1.boxB (k' := 110) rfl rfl rfl rfl rfl rfl rfl) <| .cons (.asg rfl rfl) <| .nil <| ks_n <| .seq <| .seq <| .region <| .cons (.mv rfl rfl) <| .cons (.cO [.tmp 11, .const (.slice none 0 0)] [(0, 110), (1000, 112)] rfl rfl rfl rfl (hW h7) rfl ⟨rfl, trivial⟩ (hbN_flat _ _) (hbO_flat3 _ _ _) (hbO_HB _ _ _ _) outS_O) ?_
  refine .cons (.nt rfl rfl) <| .nil <| ks_n ?_
  refine ACode.condT rfl (fun h13 => ?_) (fun h13 => ?_)
  ·try simp only [zs1, zs2, zs3, zs4, zs5, zs6, zs7] at h13
   refine .seq ?_
   have hO : okP ns = false := (np_walk h7).1.trans h13
   have hN := npR_no hO
   refine .region <| .cons (.asg rfl rfl) <| .cons (.asg rfl rfl) <| .nil <| ks_n <| .ret <| ks_r ?_
   refine kf_wret [(.t 2, .v (.o (vD (dPs (npR ns))))), (.t 3, .v (.o (bo1 (okP ns))))] (Wk.keep [] rfl rfl ⟨ks rfl (.c (Cto.nilE 1 (by rw [hN]; rfl))), ks rfl (.dt (by rw [hO])), trivial⟩) rfl ?_ nobox
   rfl
  ·try simp only [zs1, zs2, zs3, zs4, zs5, zs6, zs7] at h13
   refine .skip <| ks_n <| .seq ?_
   have hO : okP ns = true := (np_walk h7).1.trans h13
   obtain ⟨hN, _, hN3⟩ := (np_walk h7).2 h13
   have hN4 : (walkF ns [] 0 []).2.2.length ≤ 120 := by rw [← hN]; exact hN3
   refine .region <| .cons (.mv rfl rfl) <| .cons (.nB rfl rfl rfl) <| .cons (.fB 2 0 false rfl rfl rfl) <| .cons (.b1 1 rfl rfl rfl rfl rfl rfl) <| .cons (.asg rfl rfl) <| .cons (.asg rfl rfl) <| .nil <| ks_n <| .ret ?_
   refine kf_wret [(.t 2, .v (.o (vD (dPs (npR ns))))), (.t 3, .v (.o (bo1 (okP ns))))] (Wk.keep [] rfl rfl ⟨ks rfl (.c (.fz rfl (by rw [hN]) (by rw [hN]; simp) (by omega))), ks rfl (.dt (by rw [hO])), trivial⟩) rfl ?_ nobox
   rfl

theorem implNestPts_fn (ns : List Lp) (hs : smN ns) : Fn Tryz.prog 96 [] [vD (dLs ns)] (.tup [vD (dPs (npR ns)), bo1 (okP ns)]) [] := by
  by_cases h : (walkF ns [] 0 []).2.2 = []
  · exact implNestPts_nn ns hs (fun hv => (walk_root hv).1 h) h
  · exact implNestPts_no ns hs (fun hv => (walk_root hv).2 h)

theorem okN.mono {k m : Nat} {ns : List Lp} (h : okN k ns) (hm : k ≤ m) : okN m ns := ⟨Nat.le_trans h.1 hm, fun l hl => (h.2 l hl).mono hm⟩

theorem npR_len (ns : List Lp) : (npR ns).length ≤ 120 := by
  rw [npR]
  split
  · rename_i h; exact (okP_iff.1 h).2.2
  · simp
theorem npR_mem {ns : List Lp} {x : List Int} (h : x ∈ npR ns) : okP ns = true ∧ x ∈ ptsG ns [] ∧ x.length = ns.length := by
  rw [npR] at h
  split at h
  · rename_i h1; exact ⟨h1, h, (mem_pts.1 h).1⟩
  · cases h
/-- A law that answers true, and turns nothing that was there. -/
abbrev Truth (P : Program) (f : FuncId) (vs : Array Value) (w : World) : Prop := Calls P f vs w fun e w' => e = .returned (.bool true) ∧ Below w.heap.size w w'
section
variable {P : Program} {n : Nat} {ops : Array Oper} {o : Oper} {σ : St} {d : Nat} {t t2 : TypeId} {x y : Operand} {a b : ByteArray}
def sEq (a b : ByteArray) : Bool := a.toList == b.toList
def sLt (a b : ByteArray) : Bool := Op.bytesLess a.toList b.toList
theorem St1.eqS (h4 : (o.op, o.guard, o.dst, Nat.blt d n) = (Op.binOp .eql t x y t2, none, some d, true)) (hx : ev σ x = some (.o (st1 a))) (hy : ev σ y = some (.o (st1 b))) :
    St1 P n ops o σ (rd x ++ rd y) [.t d] ((.t d, .v (.o (bo1 (sEq a b)))) :: σ) := by
  simp only [Prod.mk.injEq] at h4
  exact St1.bin h4.1 h4.2.1 h4.2.2.1 h4.2.2.2 hx hy (fun w => by simp [eqGuard, binOp, Op.stringOp, sEq]) rfl
theorem St1.neS (h4 : (o.op, o.guard, o.dst, Nat.blt d n) = (Op.binOp .neq t x y t2, none, some d, true)) (hx : ev σ x = some (.o (st1 a))) (hy : ev σ y = some (.o (st1 b))) :
    St1 P n ops o σ (rd x ++ rd y) [.t d] ((.t d, .v (.o (bo1 (!sEq a b)))) :: σ) := by
  simp only [Prod.mk.injEq] at h4
  exact St1.bin h4.1 h4.2.1 h4.2.2.1 h4.2.2.2 hx hy (fun w => by simp [eqGuard, binOp, Op.stringOp, sEq]) rfl
theorem St1.geS (h4 : (o.op, o.guard, o.dst, Nat.blt d n) = (Op.binOp .geq t x y t2, none, some d, true)) (hx : ev σ x = some (.o (st1 a))) (hy : ev σ y = some (.o (st1 b))) :
    St1 P n ops o σ (rd x ++ rd y) [.t d] ((.t d, .v (.o (bo1 (!sLt a b)))) :: σ) := by
  simp only [Prod.mk.injEq] at h4
  exact St1.bin h4.1 h4.2.1 h4.2.2.1 h4.2.2.2 hx hy (fun w => by simp [eqGuard, binOp, Op.stringOp, sLt]) rfl
theorem St1.leS (h4 : (o.op, o.guard, o.dst, Nat.blt d n) = (Op.binOp .leq t x y t2, none, some d, true)) (hx : ev σ x = some (.o (st1 a))) (hy : ev σ y = some (.o (st1 b))) :
    St1 P n ops o σ (rd x ++ rd y) [.t d] ((.t d, .v (.o (bo1 (sLt a b || sEq a b)))) :: σ) := by
  simp only [Prod.mk.injEq] at h4
  exact St1.bin h4.1 h4.2.1 h4.2.2.1 h4.2.2.2 hx hy (fun w => by simp [eqGuard, binOp, Op.stringOp, sEq, sLt]) rfl
end
theorem sEq_iff {a b : ByteArray} : sEq a b = true ↔ a = b := Lib.bytes_beq_iff a b
/-! ### Statements -/
def dS (s : ByteArray) : D := .val (.string s)
abbrev Acc := ByteArray × List Aff
def rC (a : Acc) : List D := [dS a.1, dAs a.2]
def dCs (l : List Acc) : D := .list 2 (l.map rC)
inductive Ex where
  | mk (k n : Int) (i : Aff) (r : Acc) (ks : List Ex)
namespace Ex
def k : Ex → Int | .mk k _ _ _ _ => k
def n : Ex → Int | .mk _ n _ _ _ => n
def i : Ex → Aff | .mk _ _ i _ _ => i
def r : Ex → Acc | .mk _ _ _ r _ => r
def ks : Ex → List Ex | .mk _ _ _ _ ks => ks
end Ex
mutual
/-- The cells of a node. -/
def rE : Ex → List D
  | .mk k n i r ks => [dI k, dI n, dIs i.1, dI i.2, dS r.1, dAs r.2, .list 7 (rEs ks)]
def rEs : List Ex → List (List D)
  | [] => []
  | e :: l => rE e :: rEs l
end
theorem rEs_map : ∀ l : List Ex, rEs l = l.map rE
  | [] => rfl
  | e :: l => by rw [rEs, rEs_map l]; rfl
def dEs (l : List Ex) : D := .list 7 (l.map rE)
def rX (e : Ex) : List D := [dI e.k, dI e.n, dIs e.i.1, dI e.i.2, dS e.r.1, dAs e.r.2, dEs e.ks]
theorem rE_eq (e : Ex) : rE e = rX e := by
  cases e with
  | mk k n i r ks => rw [rE, rEs_map]; rfl
theorem rE_at {l : List Ex} {j : Nat} {e : Ex} (h : l[j]? = some e) : (l.map rE)[j]? = some (rX e) := by rw [← rE_eq]; exact map_at h
abbrev Stm := Acc × Ex
def rS (s : Stm) : List D := [dS s.1.1, dAs s.1.2, dI s.2.k, dI s.2.n, dIs s.2.i.1, dI s.2.i.2, dS s.2.r.1, dAs s.2.r.2, dEs s.2.ks]
theorem Ex.rec' {p : Ex → Prop} (h : ∀ e : Ex, (∀ x ∈ e.ks, p x) → p e) : ∀ e, p e
  | .mk k n i r ks => h (.mk k n i r ks) fun x (_ : x ∈ ks) => Ex.rec' h x
def arrB (b : UInt8) : Bool := decide (65 ≤ b.toNat ∧ b.toNat ≤ 68)
def arrV (s : ByteArray) : Bool := match s.data.toList with
  | [b] => arrB b
  | _ => false
set_option maxHeartbeats 1000000 in
theorem indexByte_any (s : ByteArray) (c : Int) (w : World) : Calls Tryz.prog 253 #[.string s, .int .u8 c] w fun e w' => e = .returned (.int .i64 (Lib.indexByte s.data.toList c.toNat.toUInt8)) ∧ w = w' := by
  go_enter Tryz.func253, Tryz.ntmps253
  go_wp2
  rw [run_callFunc_extern Tryz.func257 (by kernel_rfl) (by kernel_rfl) (by kernel_rfl) (e := Extern.BytealgIndexByte.indexByte) (by kernel_rfl), Lib.run_indexByteString]
  simp only [Result.andThen]
  rw [Oper.upon_value]
  go_wp2
  go_ret
  exact ⟨rfl, rfl⟩
theorem idx_arr (b : UInt8) : decide (0 ≤ Lib.indexByte [65, 66, 67, 68] b) = arrB b := by
  have h : ∀ n : Fin 256, decide (0 ≤ Lib.indexByte [65, 66, 67, 68] (UInt8.ofNat n.val)) = arrB (UInt8.ofNat n.val) := by decide +kernel
  have := h ⟨b.toNat, b.toNat_lt⟩
  simpa using this
def sABCD : ByteArray := ⟨#[65, 66, 67, 68]⟩
set_option maxHeartbeats 1000000 in
theorem index1_any (s : ByteArray) (b : UInt8) (hs : s.data.toList = [b]) (w : World) : Calls Tryz.prog 249 #[.string sABCD, .string s] w fun e w' => e = .returned (.int .i64 (Lib.indexByte [65, 66, 67, 68] b)) ∧ w = w' := by
  have h1 : s.size = 1 := by rw [Lib.size_eq, hs]; rfl
  have hne : (s.toList == sABCD.toList) = false := by
    rw [Lib.bytes_beq_false_iff]
    intro e
    rw [e] at h1
    exact absurd h1 (by decide)
  go_enter Tryz.func249, Tryz.ntmps249
  go_wp2_with fail
  refine (indexByte_any _ _ _).mono ?_
  rintro e w' ⟨rfl, rfl⟩
  go_wp2
  go_ret
  have h0 : s[0]'(by omega) = b := by
    have e1 : s[0]'(by omega) = s.data.toList[0]'(by rw [hs]; simp) := rfl
    rw [e1]; simp [hs]
  refine ⟨?_, rfl⟩
  rw [h0]
  simp [sABCD]
set_option maxHeartbeats 1000000 in
theorem contains1_any (s : ByteArray) (h1 : s.size = 1) (w : World) : Calls Tryz.prog 185 #[.string sABCD, .string s] w fun e w' => e = .returned (.bool (arrV s)) ∧ w = w' := by
  have hsz : s.size = s.data.toList.length := Lib.size_eq s
  obtain ⟨b, hb⟩ : ∃ b, s.data.toList = [b] := List.length_eq_one_iff.1 (by omega)
  have hv : arrV s = decide (0 ≤ Lib.indexByte [65, 66, 67, 68] b) := by rw [idx_arr, arrV, hb]
  have hI : ∀ w, Calls Tryz.prog 226 #[.string sABCD, .string s] w fun e w' => e = .returned (.int .i64 (Lib.indexByte [65, 66, 67, 68] b)) ∧ w = w' := by
    intro w
    go_enter Tryz.func226, Tryz.ntmps226
    go_wp2_with (go_at_call 249; refine (index1_any s b hb _).mono ?_; rintro e w' ⟨rfl, rfl⟩)
    go_ret
    exact ⟨rfl, rfl⟩
  go_enter Tryz.func185, Tryz.ntmps185
  go_wp2_with (go_at_call 226; refine (hI _).mono ?_; rintro e w' ⟨rfl, rfl⟩)
  go_ret
  exact ⟨ret_bool hv.symm, rfl⟩
theorem contains1_fn (s : ByteArray) (h : s.size = 1) : Fn Tryz.prog 185 [] [st1 sABCD, st1 s] (.o (bo1 (arrV s))) [] :=
  Fn.pure fun B bx al w vs hv => by
    obtain ⟨u, v, rfl, h0, h1⟩ := vals2 hv
    have hu : u = .string sABCD := by cases h0; rfl
    have hvv : v = .string s := by cases h1; rfl
    subst hu hvv
    exact (contains1_any s h w).mono fun e w' ⟨h1, h2⟩ => ⟨_, h1, by rw [← h2]; exact Below.refl _ _, .val _ rfl⟩
theorem arrV_size {s : ByteArray} (h : ¬ s.size = 1) : arrV s = false := by
  have hsz : s.size = s.data.toList.length := Lib.size_eq s
  rw [arrV]
  split
  · rename_i b hb; rw [hb] at hsz; simp at hsz; omega
  · rfl
def szAs (l : List Aff) : Nat := l.length + (l.map fun a => a.1.length).sum
theorem szAs_mem {l : List Aff} {a : Aff} (h : a ∈ l) : l.length + a.1.length ≤ szAs l := by
  rw [szAs]
  have : ∀ (l : List Nat) (n : Nat), n ∈ l → n ≤ l.sum := by
    intro l
    induction l with
    | nil => intro n h; cases h
    | cons m l ih =>
      intro n h
      rw [List.sum_cons]
      rcases List.mem_cons.1 h with rfl | h
      · omega
      · have := ih n h; omega
  have := this _ _ (List.mem_map_of_mem (f := fun a : Aff => a.1.length) h)
  omega
theorem szAs_len (l : List Aff) : l.length ≤ szAs l := Nat.le_add_right _ _
/-- No list is too long. -/
def okA (x : Aff) : Prop := x.1.length ≤ 17592186044416
def okAs (l : List Aff) : Prop := l.length ≤ 17592186044416 ∧ ∀ x ∈ l, okA x
def szC (a : Acc) : Nat := a.1.size + szAs a.2
mutual
def szE : Ex → Nat
  | .mk _ _ i r ks => i.1.length + szC r + ks.length + szEs ks
def szEs : List Ex → Nat
  | [] => 0
  | e :: l => szE e + szEs l
end
def szS (s : Stm) : Nat := szC s.1 + szE s.2
theorem szEs_mem : ∀ {l : List Ex} {e : Ex}, e ∈ l → szE e ≤ szEs l
  | x :: l, e, h => by
    rw [szEs]
    rcases List.mem_cons.1 h with rfl | h
    · omega
    · have := szEs_mem h; omega

/-! ### Validity -/
def accV (d : Nat) (a : Acc) : Bool := arrV a.1 && sideV d a.2
def nonA (x : Aff) : Bool := decide (x.1.length = 0) && decide (x.2 = 0)
def nonC (a : Acc) : Bool := sEq a.1 ByteArray.empty && decide (a.2.length = 0)
/-- The fields of a node other than its operands. -/
def fldV (d : Nat) (k n : Int) (i : Aff) (r : Acc) : Bool :=
  if k = 1 then inB n 0 99 && nonA i && nonC r
  else if k = 2 then decide (n = 0) && (affV i && decide (affDepth i ≤ d)) && nonC r
  else if k = 3 then decide (n = 0) && nonA i && accV d r
  else decide (n = 0) && nonA i && nonC r
def kidV (k : Int) (n : Nat) : Bool := if 1 ≤ k ∧ k ≤ 3 then decide (n = 0) else if 4 ≤ k ∧ k ≤ 6 then decide (n = 2) else false
def exV (d : Nat) : Nat → Ex → Bool
  | 0, _ => false
  | L + 1, e => kidV e.k e.ks.length && fldV d e.k e.n e.i e.r && e.ks.all (exV d L)
mutual
def cntE : Ex → Nat
  | .mk _ _ _ _ ks => 1 + cntEs ks
def cntEs : List Ex → Nat
  | [] => 0
  | e :: l => cntE e + cntEs l
end
def stmtV (d : Int) (s : Stm) : Bool := inB d 0 4 && (accV d.toNat s.1 && exV d.toNat 5 s.2 && decide (cntE s.2 ≤ 12))
theorem cntE_eq (e : Ex) : cntE e = 1 + cntEs e.ks := by cases e; rw [cntE]; rfl
/-- The program's way: a count goes along. -/
def scanK (f : Nat → Ex → Bool × Nat) : Nat → List Ex → Bool × Nat
  | c, [] => (true, c)
  | c, x :: l => if (f c x).1 = true then scanK f (f c x).2 l else (false, (f c x).2)
def scanV (d : Nat) : Nat → Nat → Ex → Bool × Nat
  | 0, c, _ => (false, c + 1)
  | L + 1, c, e => if 12 < c + 1 then (false, c + 1) else if (kidV e.k e.ks.length && fldV d e.k e.n e.i e.r) = true then scanK (scanV d L) (c + 1) e.ks else (false, c + 1)
theorem kidV_len {k : Int} {n : Nat} (h : kidV k n = true) : n = 0 ∨ n = 2 := by
  unfold kidV at h
  split at h
  · exact .inl (of_decide_eq_true h)
  · split at h
    · exact .inr (of_decide_eq_true h)
    · cases h
def ScanOk (f : Nat → Ex → Bool × Nat) (v : Ex → Bool) : Prop :=
  ∀ c e, ((f c e).1 = true ↔ v e = true ∧ c + cntE e ≤ 12) ∧ ((f c e).1 = true → (f c e).2 = c + cntE e) ∧ (f c e).2 ≤ max 13 (c + 1) ∧ c + 1 ≤ (f c e).2
theorem scanK_iff {f : Nat → Ex → Bool × Nat} {v : Ex → Bool} (h : ScanOk f v) : ∀ (l : List Ex) (c : Nat), c ≤ 12 → ((scanK f c l).1 = true ↔ l.all v = true ∧ c + cntEs l ≤ 12) ∧ ((scanK f c l).1 = true → (scanK f c l).2 = c + cntEs l) ∧ (scanK f c l).2 ≤ 13 ∧ c ≤ (scanK f c l).2
  | [], c, hc => by
    rw [scanK, cntEs]
    exact ⟨⟨fun _ => ⟨rfl, by omega⟩, fun _ => rfl⟩, fun _ => rfl, by show c ≤ 13; omega, Nat.le_refl _⟩
  | x :: l, c, hc => by
    obtain ⟨a1, a2, a3, a4⟩ := h c x
    rw [scanK, cntEs, List.all_cons, Bool.and_eq_true]
    by_cases h1 : (f c x).1 = true
    · rw [if_pos h1]
      obtain ⟨h2, h3⟩ := a1.1 h1
      have h4 := a2 h1
      obtain ⟨b1, b2, b3, b4⟩ := scanK_iff h l (f c x).2 (by omega)
      rw [h4] at b1 b2 b3 b4 ⊢
      exact ⟨b1.trans ⟨fun ⟨p, q⟩ => ⟨⟨h2, p⟩, by omega⟩, fun ⟨p, q⟩ => ⟨p.2, by omega⟩⟩, fun h => (b2 h).trans (by omega), b3, by omega⟩
    · rw [if_neg h1]
      exact ⟨⟨fun h => (by cases h), fun ⟨p, q⟩ => absurd (a1.2 ⟨p.1, by omega⟩) h1⟩, fun h => (by cases h), by show (f c x).2 ≤ 13; omega, by show c ≤ (f c x).2; omega⟩
theorem scanV_iff (d : Nat) : ∀ L : Nat, ScanOk (scanV d L) (exV d L)
  | 0, c, e => ⟨⟨fun h => (by cases h), fun h => (by cases h.1)⟩, fun h => (by cases h), by show c + 1 ≤ _; omega, Nat.le_refl _⟩
  | L + 1, c, e => by
    have hf : ∀ {b : Prop}, ((false, c + 1) : Bool × Nat).1 = true → b := fun h => by cases h
    rw [scanV, exV, cntE_eq]
    by_cases h1 : 12 < c + 1
    · rw [if_pos h1]
      exact ⟨⟨hf, fun h => by omega⟩, hf, by show c + 1 ≤ _; omega, Nat.le_refl _⟩
    · rw [if_neg h1]
      by_cases h2 : (kidV e.k e.ks.length && fldV d e.k e.n e.i e.r) = true
      · rw [if_pos h2]
        obtain ⟨b1, b2, b3, b4⟩ := scanK_iff (scanV_iff d L) e.ks (c + 1) (by omega)
        exact ⟨b1.trans ⟨fun ⟨p, q⟩ => ⟨by rw [h2, p]; rfl, by omega⟩, fun ⟨p, q⟩ => ⟨by rw [h2] at p; exact p, by omega⟩⟩, fun h => (b2 h).trans (by omega), by omega, b4⟩
      · rw [if_neg h2]
        exact ⟨⟨hf, fun h => absurd (Bool.and_eq_true_iff.1 h.1).1 h2⟩, hf, by show c + 1 ≤ _; omega, Nat.le_refl _⟩

/-! ### Equality -/
mutual
def sameE : Ex → Ex → Bool
  | .mk k n i r ks, .mk k' n' i' r' ks' => decide (k = k') && decide (n = n') && decide (i = i') && decide (r.2 = r'.2) && sEq r.1 r'.1 && sameEs ks ks'
def sameEs : List Ex → List Ex → Bool
  | [], [] => true
  | x :: l, y :: m => sameE x y && sameEs l m
  | _, _ => false
end
mutual
theorem sameE_iff : ∀ x y : Ex, sameE x y = true ↔ x = y
  | .mk k n i r ks, .mk k' n' i' r' ks' => by
    rw [sameE]
    simp only [Bool.and_eq_true, decide_eq_true_eq, sEq_iff, sameEs_iff ks ks', Ex.mk.injEq, Prod.ext_iff (x := r)]
    constructor
    · rintro ⟨⟨⟨⟨⟨h1, h2⟩, h3⟩, h4⟩, h5⟩, h6⟩; exact ⟨h1, h2, h3, ⟨h5, h4⟩, h6⟩
    · rintro ⟨h1, h2, h3, ⟨h5, h4⟩, h6⟩; exact ⟨⟨⟨⟨⟨h1, h2⟩, h3⟩, h4⟩, h5⟩, h6⟩
theorem sameEs_iff : ∀ l m : List Ex, sameEs l m = true ↔ l = m
  | [], [] => by simp [sameEs]
  | [], _ :: _ => by simp [sameEs]
  | _ :: _, [] => by simp [sameEs]
  | x :: l, y :: m => by rw [sameEs, Bool.and_eq_true, sameE_iff x y, sameEs_iff l m, List.cons.injEq]
end
def sameC (a b : Acc) : Bool := sEq a.1 b.1 && decide (a.2 = b.2)
theorem sameC_iff {a b : Acc} : sameC a b = true ↔ a = b := by rw [sameC, Bool.and_eq_true, sEq_iff, decide_eq_true_eq, Prod.ext_iff]
def sameS (s t : Stm) : Bool := sameC s.1 t.1 && sameE s.2 t.2
theorem sameS_iff {s t : Stm} : sameS s t = true ↔ s = t := by
  rw [sameS, Bool.and_eq_true, sameC_iff, sameE_iff]
  exact ⟨fun ⟨h1, h2⟩ => Prod.ext h1 h2, fun h => ⟨congrArg Prod.fst h, congrArg Prod.snd h⟩⟩

/-! ### Reads, replacements, depth -/
mutual
def rdE : Ex → List Acc
  | .mk k _ _ r ks => (if k = 3 then [r] else []) ++ rdEs ks
def rdEs : List Ex → List Acc
  | [] => []
  | e :: l => rdE e ++ rdEs l
end
/-- A box with one number, handed to a function. -/
def hbI (c : Int) : St := [(.b 0, .b 3 1 (dR [rI c])), (.u 0, .u)]
theorem hbI_HB (c : Int) : HB (hbI c) := HB.nil.data
theorem hbI_flat (c : Int) : flatS (hbI c) := flatS.nil.cons rfl
theorem hbI_num (c d : Int) : ∀ k, k < 100 → Al (lk (hbI d)) k → Al (lk (hbI c)) k := fun k _ ⟨e, sz, rows, h⟩ => by
  by_cases hk : k = 0
  · subst hk; exact ⟨_, _, _, rfl⟩
  · rw [hbI, lk_other _ _ _ _ (by simpa using fun e => hk e.symm), lk_other _ _ _ _ (by simp)] at h; cases h
theorem hbI_box {σ : St} {c : Int} (h : lk σ (.b 0) = .b 3 1 (dR [rI c])) : ∀ k e sz rows, lk (hbI c) (.b k) = .b e sz rows → lk σ (.b k) = .b e sz rows := one_box h

theorem acc_len {d : Nat} {xs : List Aff} (h : inB (xs.length : Nat) 1 2 = false) : false = sideV d xs := by
  rw [Bool.eq_iff_iff]
  simp only [inB, Bool.and_eq_false_iff, decide_eq_false_iff_not, sideV, Bool.and_eq_true, decide_eq_true_eq, Bool.false_eq_true, false_iff] at h ⊢
  omega
theorem acc_any {d : Nat} {xs : List Aff} (h : inB (xs.length : Nat) 1 2 = true) : (!xs.any fun x => !bndV d x) = sideV d xs := by
  simp only [inB, Bool.and_eq_true, decide_eq_true_eq] at h
  rw [nany, sideV, decide_eq_true (show 1 ≤ xs.length by omega), decide_eq_true (show xs.length ≤ 2 by omega), Bool.and_true, Bool.and_true]

theorem implNoA_fn (x : Aff) : Fn Tryz.prog 192 [] [ad (rA x)] (.o (bo1 (nonA x))) [] := by
  refine Fn.code0 Tryz.func192 rfl rfl rfl rfl ?_
  refine .seq <| .region <| .cons (St1.boxP rfl rfl rfl rfl rfl rfl) <| .cons (.asg rfl rfl) <| .nil <| ks_n <| .seq <| .region <| .cons (.fP 0 0 false rfl rfl) <| .cons (.l1 1 rfl rfl) <| .cons (.ln 3 1 8 rfl rfl rfl) <| .cons (.eq rfl rfl rfl) <| .cons (.mv rfl rfl) ?_
  refine .cD 7 rfl (fun g7 => ?_) (fun g7 => ?_)
  · skip
    refine .cons (.gT rfl rfl rfl (.fP 1 0 false rfl rfl)) <| .cons (.gT rfl rfl rfl (.l1 1 rfl rfl)) <| .cons (.gT rfl rfl rfl (.eq rfl rfl rfl)) <| .cons (.pT rfl rfl rfl) <| .cons (.asg rfl rfl) <| .nil <| ks_n <| .ret ?_
    refine kf_ret rfl ?_ nobox
    exact leafB (by rw [nonA]; first | rfl | grind)
  · skip
    refine .cons (.gF rfl rfl rfl) <| .cons (.gF rfl rfl rfl) <| .cons (.gF rfl rfl rfl) <| .cons (.pF rfl rfl rfl) <| .cons (.asg rfl rfl) <| .nil <| ks_n <| .ret ?_
    refine kf_ret rfl ?_ nobox
    exact leafB (by rw [nonA]; first | rfl | grind)

theorem l3None_fn (x : Aff) : Fn Tryz.prog 245 [] [ad (rA x)] (.o (bo1 (nonA x))) [] := by
  refine Fn.code0 Tryz.func245 rfl rfl rfl rfl ?_
  refine .seq <| .region <| .cons (St1.boxP rfl rfl rfl rfl rfl rfl) <| .cons (.asg rfl rfl) <| .nil <| ks_n <| .seq <| .region <| .cons (.fP 0 0 false rfl rfl) <| .cons (.l1 1 rfl rfl) <| .cons (.ln 3 1 8 rfl rfl rfl) <| .cons (.eq rfl rfl rfl) <| .cons (.mv rfl rfl) ?_
  refine .cD 7 rfl (fun g7 => ?_) (fun g7 => ?_)
  · skip
    refine .cons (.gT rfl rfl rfl (.fP 1 0 false rfl rfl)) <| .cons (.gT rfl rfl rfl (.l1 1 rfl rfl)) <| .cons (.gT rfl rfl rfl (.eq rfl rfl rfl)) <| .cons (.pT rfl rfl rfl) <| .cons (.asg rfl rfl) <| .nil <| ks_n <| .ret ?_
    refine kf_ret rfl ?_ nobox
    exact leafB (by rw [nonA]; first | rfl | grind)
  · skip
    refine .cons (.gF rfl rfl rfl) <| .cons (.gF rfl rfl rfl) <| .cons (.gF rfl rfl rfl) <| .cons (.pF rfl rfl rfl) <| .cons (.asg rfl rfl) <| .nil <| ks_n <| .ret ?_
    refine kf_ret rfl ?_ nobox
    exact leafB (by rw [nonA]; first | rfl | grind)

theorem implNoC_fn (a : Acc) : Fn Tryz.prog 193 [] [ad (rC a)] (.o (bo1 (nonC a))) [] := by
  refine Fn.code0 Tryz.func193 rfl rfl rfl rfl ?_
  refine .seq <| .region <| .cons (St1.boxP rfl rfl rfl rfl rfl rfl) <| .cons (.asg rfl rfl) <| .nil <| ks_n <| .seq <| .region <| .cons (.fP 0 0 false rfl rfl) <| .cons (.l1 1 rfl rfl) <| .cons (St1.eqS rfl rfl rfl) <| .cons (.mv rfl rfl) ?_
  refine AOps.cases 6 _ rfl (fun g6 => ?_) (fun g6 => ?_)
  · try simp only [zs1, zs2, zs3, zs4, zs5, zs6, zs7] at g6
    have g := g6
    refine .cons (.gT rfl rfl rfl (.fP 1 0 false rfl rfl)) <| .cons (.gT rfl rfl rfl (.l1 1 rfl rfl)) <| .cons (.gT rfl rfl rfl (.ln 91 2 32 rfl rfl rfl)) <| .cons (.gT rfl rfl rfl (.eq rfl rfl rfl)) <| .cons (.pT rfl rfl rfl) <| .cons (.asg rfl rfl) <| .nil <| ks_n <| .ret ?_
    refine kf_ret rfl ?_ nobox
    exact leafB (by rw [nonC, show sEq a.1 ByteArray.empty = _ from g]; first | rfl | (rw [Bool.eq_iff_iff]; simp only [Bool.and_eq_true, Bool.or_eq_true, Bool.not_eq_true', Bool.and_eq_false_iff, Bool.or_eq_false_iff, decide_eq_true_eq, decide_eq_false_iff_not, Bool.false_eq_true, Bool.true_eq_false, false_iff, true_iff, iff_false, iff_true, false_and, and_false, true_and, and_true, not_false_eq_true, not_true_eq_false, ne_eq]; omega))
  · try simp only [zs1, zs2, zs3, zs4, zs5, zs6, zs7] at g6
    have g := g6
    refine .cons (.gF rfl rfl rfl) <| .cons (.gF rfl rfl rfl) <| .cons (.gF rfl rfl rfl) <| .cons (.gF rfl rfl rfl) <| .cons (.pF rfl rfl rfl) <| .cons (.asg rfl rfl) <| .nil <| ks_n <| .ret ?_
    refine kf_ret rfl ?_ nobox
    exact leafB (by rw [nonC, show sEq a.1 ByteArray.empty = _ from g]; first | rfl | (rw [Bool.eq_iff_iff]; simp only [Bool.and_eq_true, Bool.or_eq_true, Bool.not_eq_true', Bool.and_eq_false_iff, Bool.or_eq_false_iff, decide_eq_true_eq, decide_eq_false_iff_not, Bool.false_eq_true, Bool.true_eq_false, false_iff, true_iff, iff_false, iff_true, false_and, and_false, true_and, and_true, not_false_eq_true, not_true_eq_false, ne_eq]; omega))

theorem l3Empty_fn (a : Acc) : Fn Tryz.prog 244 [] [ad (rC a)] (.o (bo1 (nonC a))) [] := by
  refine Fn.code0 Tryz.func244 rfl rfl rfl rfl ?_
  refine .seq <| .region <| .cons (St1.boxP rfl rfl rfl rfl rfl rfl) <| .cons (.asg rfl rfl) <| .nil <| ks_n <| .seq <| .region <| .cons (.fP 0 0 false rfl rfl) <| .cons (.l1 1 rfl rfl) <| .cons (St1.eqS rfl rfl rfl) <| .cons (.mv rfl rfl) ?_
  refine AOps.cases 6 _ rfl (fun g6 => ?_) (fun g6 => ?_)
  · try simp only [zs1, zs2, zs3, zs4, zs5, zs6, zs7] at g6
    have g := g6
    refine .cons (.gT rfl rfl rfl (.fP 1 0 false rfl rfl)) <| .cons (.gT rfl rfl rfl (.l1 1 rfl rfl)) <| .cons (.gT rfl rfl rfl (.ln 91 2 32 rfl rfl rfl)) <| .cons (.gT rfl rfl rfl (.eq rfl rfl rfl)) <| .cons (.pT rfl rfl rfl) <| .cons (.asg rfl rfl) <| .nil <| ks_n <| .ret ?_
    refine kf_ret rfl ?_ nobox
    exact leafB (by rw [nonC, show sEq a.1 ByteArray.empty = _ from g]; first | rfl | (rw [Bool.eq_iff_iff]; simp only [Bool.and_eq_true, Bool.or_eq_true, Bool.not_eq_true', Bool.and_eq_false_iff, Bool.or_eq_false_iff, decide_eq_true_eq, decide_eq_false_iff_not, Bool.false_eq_true, Bool.true_eq_false, false_iff, true_iff, iff_false, iff_true, false_and, and_false, true_and, and_true, not_false_eq_true, not_true_eq_false, ne_eq]; omega))
  · try simp only [zs1, zs2, zs3, zs4, zs5, zs6, zs7] at g6
    have g := g6
    refine .cons (.gF rfl rfl rfl) <| .cons (.gF rfl rfl rfl) <| .cons (.gF rfl rfl rfl) <| .cons (.gF rfl rfl rfl) <| .cons (.pF rfl rfl rfl) <| .cons (.asg rfl rfl) <| .nil <| ks_n <| .ret ?_
    refine kf_ret rfl ?_ nobox
    exact leafB (by rw [nonC, show sEq a.1 ByteArray.empty = _ from g]; first | rfl | (rw [Bool.eq_iff_iff]; simp only [Bool.and_eq_true, Bool.or_eq_true, Bool.not_eq_true', Bool.and_eq_false_iff, Bool.or_eq_false_iff, decide_eq_true_eq, decide_eq_false_iff_not, Bool.false_eq_true, Bool.true_eq_false, false_iff, true_iff, iff_false, iff_true, false_and, and_false, true_and, and_true, not_false_eq_true, not_true_eq_false, ne_eq]; omega))

theorem isArray_fn (s : ByteArray) : Fn Tryz.prog 142 [] [st1 s] (.o (bo1 (arrV s))) [] := by
  refine Fn.code0 Tryz.func142 rfl rfl rfl rfl ?_
  refine .seq <| .region <| .cons (.asg rfl rfl) <| .nil <| ks_n <| .seq <| .region <| .cons (.mv rfl rfl) <| .cons (St1.lenS rfl rfl rfl rfl rfl (by kernel_rfl) rfl) ?_
  refine .cons (.eq rfl rfl rfl) <| .cons (.mv rfl rfl) ?_
  refine .cD 6 rfl (fun g6 => ?_) (fun g6 => ?_)
  · skip
    refine .cons (.gT rfl rfl rfl (.mv rfl rfl)) <| .cons (.gT rfl rfl rfl (.cP [.const (.string ⟨#[65, 66, 67, 68]⟩), .tmp 7] rfl rfl rfl rfl (contains1_fn s (by omega)) rfl)) ?_
    refine .cons (.pT rfl rfl rfl) <| .cons (.asg rfl rfl) <| .nil <| ks_n <| .ret ?_
    refine kf_ret rfl ?_ nobox
    first | rfl | exact leafB (arrV_size (by omega)).symm
  · skip
    refine .cons (.gF rfl rfl rfl) <| .cons (.gF rfl rfl rfl) <| .cons (.pF rfl rfl rfl) <| .cons (.asg rfl rfl) <| .nil <| ks_n <| .ret ?_
    refine kf_ret rfl ?_ nobox
    first | rfl | exact leafB (arrV_size (by omega)).symm

theorem isOp_fn (k : Int) : Fn Tryz.prog 194 [] [nat1 k] (.o (bo1 (inB k 4 6))) [] := by
  refine Fn.code0 Tryz.func194 rfl rfl rfl rfl ?_
  refine .seq <| .region <| .cons (.asg rfl rfl) <| .nil <| ks_n <| .seq <| .region <| .cons (.mv rfl rfl) <| .cons (.cP [.tmp 3, .const (.int .i64 (4)), .const (.int .i64 (6))] rfl rfl rfl rfl (within_fn _ 4 6) rfl) ?_
  refine .cons (.asg rfl rfl) <| .nil <| ks_n <| .ret ?_
  refine kf_ret rfl ?_ nobox
  rfl

theorem accOk1_fn (d : Nat) (x : Aff) : Fn Tryz.prog 189 [] [ad (rA x), .c (.ptr [dI (d : Nat)])] (.o (bo1 (!bndV d x))) [] := by
 refine Fn.code0 Tryz.func189 rfl rfl rfl rfl ?_
 refine .seq <| .region <| .cons (St1.boxP rfl rfl rfl rfl rfl rfl) <| .cons (.asg rfl rfl) <| .nil <| ks_n <| .seq ?_
 refine ACode.drawK (by kernel_rfl) (by kernel_rfl) ?_
 refine .cons (.lN 2 rfl rfl rfl) <| .cons (.cP [.tmp 4] rfl rfl rfl rfl (implAffV_fn x) rfl) ?_
 refine .cons (.nt rfl rfl) <| .cons (.mv rfl rfl) ?_
 refine RunK.cases 7 _ rfl (fun g7 => ?_) (fun g7 => ?_)
 ·try simp only [zs1, zs2, zs3, zs4, zs5, zs6, zs7] at g7
  refine .cons (.gF rfl rfl rfl) <| .cons (.gF rfl rfl rfl) <| .cons (.gF rfl rfl rfl) <| .cons (.gF rfl rfl rfl) <| .cons (.pT rfl rfl rfl) <| .cons (.asg rfl rfl) ?_
  refine .nil ⟨by kernel_rfl, ?_⟩
  refine ks_n <| .ret ?_
  refine kf_ret rfl ?_ nobox
  first | exact leafB (by rw [bnd_no (.inl (by simpa using g7))]; rfl) | exact leafB (by rw [bndV, show affV x = true by simpa using g7, Bool.true_and, Bool.eq_iff_iff]; simp)
 ·try simp only [zs1, zs2, zs3, zs4, zs5, zs6, zs7] at g7
  refine .cons (.gT rfl rfl rfl (.lN 2 rfl rfl rfl)) <| .cons (.gT rfl rfl rfl (.cP [.tmp 8] rfl rfl rfl rfl (depth_fn x) rfl)) ?_
  refine .cons (.gT rfl rfl rfl (.l1 1 rfl rfl)) <| .cons (.gT rfl rfl rfl (.gt rfl rfl rfl)) <| .cons (.pF rfl rfl rfl) <| .cons (.asg rfl rfl) ?_
  refine .nil ⟨by kernel_rfl, ?_⟩
  refine ks_n <| .ret ?_
  refine kf_ret rfl ?_ nobox
  first | exact leafB (by rw [bnd_no (.inl (by simpa using g7))]; rfl) | exact leafB (by rw [bndV, show affV x = true by simpa using g7, Bool.true_and, Bool.eq_iff_iff]; simp)

theorem accOk_fn (d : Nat) (a : Acc) (ha : a.2.length ≤ 1099511627776) : Fn Tryz.prog 148 [] [ad (rC a), nat1 (d : Nat)] (.o (bo1 (accV d a))) [] := by
  refine Fn.code0 Tryz.func148 rfl rfl rfl rfl ?_
  refine .seq <| .region <| .cons (St1.boxP rfl rfl rfl rfl rfl rfl) <| .cons (St1.boxP rfl rfl rfl rfl rfl rfl) <| .cons (.asg rfl rfl) <| .nil <| ks_n <| .seq <| .region <| .cons (.fP 0 0 false rfl rfl) <| .cons (.l1 1 rfl rfl) <| .cons (.cP [.tmp 6] rfl rfl rfl rfl (isArray_fn _) rfl) ?_
  refine .cons (.mv rfl rfl) ?_
  refine AOps.cases 8 _ rfl (fun g8 => ?_) (fun g8 => ?_)
  · try simp only [zs1, zs2, zs3, zs4, zs5, zs6, zs7] at g8
    refine .cons (.gT rfl rfl rfl (.fP 1 0 false rfl rfl)) <| .cons (.gT rfl rfl rfl (.l1 1 rfl rfl)) <| .cons (.gT rfl rfl rfl (.ln 91 2 32 rfl rfl rfl)) <| .cons (.gT rfl rfl rfl (.cP [.tmp 11, .const (.int .i64 (1)), .const (.int .i64 (2))] rfl rfl rfl rfl (within_fn _ 1 2) rfl)) ?_
    refine .cons (.pT rfl rfl rfl) <| .cons (.mv rfl rfl) ?_
    refine AOps.cases 14 _ rfl (fun g14 => ?_) (fun g14 => ?_)
    · try simp only [zs1, zs2, zs3, zs4, zs5, zs6, zs7] at g14
      refine .cons (.gT rfl rfl rfl (.fP 1 0 false rfl rfl)) <| .cons (.gT rfl rfl rfl (.l1 1 rfl rfl)) <| .cons (.gT rfl rfl rfl (St1.makeFunc (xs := [.tmp 3]) rfl rfl rfl rfl rfl rfl rfl)) <| .cons (.gT rfl rfl rfl (.cP [.tmp 16, .tmp 17] rfl rfl rfl rfl (cnt_aff (f := 189) (cap := [[dI (d : Nat)]]) (by kernel_rfl) (fun x => !bndV d x) a.2 ha (fun x _ => accOk1_fn d x)) rfl)) ?_
      refine .cons (.gT rfl rfl rfl (.nt rfl rfl)) <| .cons (.pT rfl rfl rfl) <| .cons (.asg rfl rfl) <| .nil <| ks_n <| .ret ?_
      refine kf_ret rfl ?_ nobox
      first | exact leafB (by rw [accV, g8]; rfl) | exact leafB (by rw [accV, g8, Bool.true_and]; exact acc_len g14) | exact leafB (by rw [accV, g8, Bool.true_and]; exact acc_any g14)
    · try simp only [zs1, zs2, zs3, zs4, zs5, zs6, zs7] at g14
      refine .cons (.gF rfl rfl rfl) <| .cons (.gF rfl rfl rfl) <| .cons (.gF rfl rfl rfl) <| .cons (.gF rfl rfl rfl) <| .cons (.gF rfl rfl rfl) <| .cons (.pF rfl rfl rfl) <| .cons (.asg rfl rfl) <| .nil <| ks_n <| .ret ?_
      refine kf_ret rfl ?_ nobox
      first | exact leafB (by rw [accV, g8]; rfl) | exact leafB (by rw [accV, g8, Bool.true_and]; exact acc_len g14) | exact leafB (by rw [accV, g8, Bool.true_and]; exact acc_any g14)
  · try simp only [zs1, zs2, zs3, zs4, zs5, zs6, zs7] at g8
    refine .cons (.gF rfl rfl rfl) <| .cons (.gF rfl rfl rfl) <| .cons (.gF rfl rfl rfl) <| .cons (.gF rfl rfl rfl) <| .cons (.pF rfl rfl rfl) <| .cons (.mv rfl rfl) <| .cons (.gF rfl rfl rfl) <| .cons (.gF rfl rfl rfl) <| .cons (.gF rfl rfl rfl) <| .cons (.gF rfl rfl rfl) <| .cons (.gF rfl rfl rfl) <| .cons (.pF rfl rfl rfl) <| .cons (.asg rfl rfl) <| .nil <| ks_n <| .ret ?_
    refine kf_ret rfl ?_ nobox
    first | exact leafB (by rw [accV, g8]; rfl) | exact leafB (by rw [accV, g8, Bool.true_and]; exact acc_len g14) | exact leafB (by rw [accV, g8, Bool.true_and]; exact acc_any g14)
/-- What the program asks of the fields that a kind does not use. -/
def hdV (e : Ex) : Bool := (decide (e.k = 1) || decide (e.n = 0)) && (decide (e.k = 2) || nonA e.i) && (decide (e.k = 3) || nonC e.r)
theorem scan_z (d c : Nat) (e : Ex) : scanV d 0 c e = (false, c + 1) := rfl
theorem scan_many {d L c : Nat} {e : Ex} (h : 12 < c + 1) : scanV d (L + 1) c e = (false, c + 1) := by rw [scanV, if_pos h]
theorem scan_hd {d L c : Nat} {e : Ex} (h : hdV e = false) : scanV d (L + 1) c e = (false, c + 1) := by
  rw [scanV]
  split
  · rfl
  · rw [if_neg]
    intro h2
    have h3 := (Bool.and_eq_true_iff.1 h2).2
    unfold fldV at h3
    unfold hdV at h
    cases hA : nonA e.i <;> cases hC : nonC e.r <;> simp only [hA, hC] at h h3 <;> (split at h3 <;> first | (split at h3 <;> first | (split at h3 <;> simp_all; done) | (simp_all; done)) | (simp_all; done))
theorem hd_rest {e : Ex} (h : hdV e = true) : (e.k = 1 ∨ e.n = 0) ∧ (e.k = 2 ∨ nonA e.i = true) ∧ (e.k = 3 ∨ nonC e.r = true) := by
  simp only [hdV, Bool.and_eq_true, Bool.or_eq_true, decide_eq_true_eq] at h
  exact ⟨h.1.1, h.1.2, h.2⟩
theorem scan_leaf {d L c : Nat} {e : Ex} (hk : 1 ≤ e.k ∧ e.k ≤ 3) (hc : ¬ 12 < c + 1) : scanV d (L + 1) c e = (decide (e.ks.length = 0) && fldV d e.k e.n e.i e.r, c + 1) := by
  rw [scanV, if_neg hc, kidV, if_pos hk]
  split
  · rename_i h
    rw [h]
    have := of_decide_eq_true (Bool.and_eq_true_iff.1 h).1
    rw [List.eq_nil_of_length_eq_zero this]; rfl
  · rename_i h
    rw [Bool.eq_false_iff.2 h]
theorem scan1 {d L c : Nat} {e : Ex} (hk : e.k = 1) (hh : hdV e = true) (hc : ¬ 12 < c + 1) : scanV d (L + 1) c e = (inB e.n 0 99 && decide (e.ks.length = 0), c + 1) := by
  obtain ⟨h1, h2, h3⟩ := hd_rest hh
  rw [scan_leaf (by omega) hc, fldV, if_pos hk, h2.resolve_left (by omega), h3.resolve_left (by omega), Bool.and_true, Bool.and_true, Bool.and_comm]
theorem scan2 {d L c : Nat} {e : Ex} (hk : e.k = 2) (hh : hdV e = true) (hc : ¬ 12 < c + 1) : scanV d (L + 1) c e = (affV e.i && decide (affDepth e.i ≤ d) && decide (e.ks.length = 0), c + 1) := by
  obtain ⟨h1, h2, h3⟩ := hd_rest hh
  rw [scan_leaf (by omega) hc, fldV, if_neg (by omega), if_pos hk, h3.resolve_left (by omega), decide_eq_true (h1.resolve_left (by omega)), Bool.and_true, Bool.true_and, Bool.and_comm]
theorem scan3 {d L c : Nat} {e : Ex} (hk : e.k = 3) (hh : hdV e = true) (hc : ¬ 12 < c + 1) : scanV d (L + 1) c e = (accV d e.r && decide (e.ks.length = 0), c + 1) := by
  obtain ⟨h1, h2, h3⟩ := hd_rest hh
  rw [scan_leaf (by omega) hc, fldV, if_neg (by omega), if_neg (by omega), if_pos hk, h2.resolve_left (by omega), decide_eq_true (h1.resolve_left (by omega)), Bool.and_true, Bool.true_and, Bool.and_comm]
theorem scan_bad {d L c : Nat} {e : Ex} (hk : ¬ e.k = 1 ∧ ¬ e.k = 2 ∧ ¬ e.k = 3) (hb : inB e.k 4 6 = false ∨ ¬ e.ks.length = 2) : scanV d (L + 1) c e = (false, c + 1) := by
  rw [scanV]
  split
  · rfl
  · rw [if_neg]
    intro h2
    have h3 := (Bool.and_eq_true_iff.1 h2).1
    unfold kidV at h3
    rw [if_neg (by omega)] at h3
    split at h3
    · rename_i h4
      have h5 := of_decide_eq_true h3
      rcases hb with h | h
      · rw [inB, decide_eq_true h4] at h; cases h
      · exact h h5
    · cases h3
theorem scan_op {d L c : Nat} {e : Ex} {x y : Ex} (hk : inB e.k 4 6 = true) (hh : hdV e = true) (hc : ¬ 12 < c + 1) (hks : e.ks = [x, y]) : scanV d (L + 1) c e = if (scanV d L (c + 1) x).1 = true then scanV d L (scanV d L (c + 1) x).2 y else (false, (scanV d L (c + 1) x).2) := by
  obtain ⟨h1, h2, h3⟩ := hd_rest hh
  simp only [inB, Bool.and_eq_true, decide_eq_true_eq] at hk
  rw [scanV, if_neg hc, if_pos, hks, scanK]
  · split
    · rename_i h
      rw [scanK]
      split
      · rename_i h4; rw [scanK, ← h4]
      · rename_i h4; rw [← Bool.eq_false_iff.2 h4]
    · rfl
  · rw [kidV, if_neg (by omega), if_pos hk, hks, fldV, if_neg (by omega), if_neg (by omega), if_neg (by omega), h2.resolve_left (by omega), h3.resolve_left (by omega), decide_eq_true (h1.resolve_left (by omega))]; rfl
theorem two_of {α : Type} {l : List α} (h : l.length = 2) : ∃ x y, l = [x, y] := by
  match l, h with
  | [x, y], _ => exact ⟨x, y, rfl⟩

theorem scan_zero (d : Nat) {deep : Int} {c : Nat} {e : Ex} (hc : c ≤ 12) (hd8 : -100 ≤ deep ∧ deep ≤ 100) (hrl : e.r.2.length ≤ 1099511627776) (hd5 : 5 < deep) : Fn Tryz.prog 149 (hbI (c : Nat)) [ad (rX e), nat1 (d : Nat), nat1 deep, .c (.box 0 1 0 0)] (.o (bo1 (scanV d 0 c e).1)) (hbI ((scanV d 0 c e).2 : Nat)) := by
 refine Fn.of_code Tryz.func149 rfl rfl (hbI_HB _) rfl rfl (hbI_HB _) rfl (hbI_num _ _) ?_
 refine .seq <| .region <| .cons (St1.boxP rfl rfl rfl rfl rfl rfl) <| .cons (.asg rfl rfl) <| .nil <| ks_n <| .seq <| .region <| .cons (.mv rfl rfl) <| .cons (.nB rfl rfl rfl) <| .cons (.b1 1 rfl rfl rfl rfl rfl rfl) <| .cons (.pl rfl rfl rfl) <| .cons (.nB rfl rfl rfl) <| .cons (.sT 1 false rfl rfl rfl rfl rfl rfl rfl) <| .nil <| ks_n <| .seq <| .seq ?_
 refine ACode.cut [(.t 1, .v (.o (nat1 (d : Nat)))), (.t 2, .v (.o (nat1 deep))), (.t 3, .v (.o (.c (.box 0 1 0 0)))), (.t 4, .v (.o (.c (.ptr (rX e))))), (.t 8, .v (.o (bo1 false))), (.t 21, .v (.o (bo1 (decide (12 < c + 1 ∨ 5 < deep))))), (.b 0, .b 3 1 (dR ([rI ((c : Int) + 1)]))), (.u 0, .u)] ?_ ?_
 ·skip
  refine .region <| .cons (.mv rfl rfl) <| .cons (.nB rfl rfl rfl) <| .cons (.b1 1 rfl rfl rfl rfl rfl rfl) <| .cons (.gt rfl rfl rfl) <| .cons (.mv rfl rfl) ?_
  refine .cD 18 rfl (fun g18 => ?_) (fun g18 => ?_)
  ·skip
   refine .cons (.gF rfl rfl rfl) <| .cons (.gF rfl rfl rfl) <| .cons (.pT rfl rfl rfl) <| .nil ?_
   exact kc_n (Wk.keep [(0, 0)] rfl rfl ⟨ks rfl .dt, ks rfl .dt, ks rfl (.c .bx), ks rfl .dt, ks rfl .dt, ks rfl (.dt (vB (by first | rfl | grind))), kb 0 rfl (.dt rfl), trivial⟩)
  ·skip
   refine .cons (.gT rfl rfl rfl (.mv rfl rfl)) <| .cons (.gT rfl rfl rfl (.gt rfl rfl rfl)) <| .cons (.pF rfl rfl rfl) <| .nil ?_
   exact kc_n (Wk.keep [(0, 0)] rfl rfl ⟨ks rfl .dt, ks rfl .dt, ks rfl (.c .bx), ks rfl .dt, ks rfl .dt, ks rfl (.dt (vB (by first | rfl | grind))), kb 0 rfl (.dt rfl), trivial⟩)
 refine ks_n ?_
 refine ACode.condT rfl (fun h21 => ?_) (fun h21 => ?_)
 ·try simp only [zs1, zs2, zs3, zs4, zs5, zs6, zs7] at h21
  refine .seq ?_
  have hR := scan_z d c e
  refine .region <| .cons (.asg rfl rfl) <| .nil <| ks_n <| .ret <| ks_r ?_
  obtain ⟨r, hr⟩ : ∃ r, r = (scanV d 0 c e) := ⟨_, rfl⟩
  rw [← hr]
  rw [← hr] at hR
  refine kf_wret [(.t 3, .v (.o (.c (.box 0 1 0 0)))), (.t 8, .v (.o (bo1 r.1))), (.b 0, .b 3 1 (dR ([rI (r.2 : Nat)]))), (.u 0, .u)] (Wk.keep [(0, 0)] rfl rfl ⟨ks rfl (.c .bx), ks rfl (.dt (vB (by rw [hR] <;> first | rfl | grind))), kb 0 rfl (.dt rfl (by rw [hR] <;> rfl)), trivial⟩) rfl ?_ (hbI_box rfl)
  rfl
 ·try simp only [zs1, zs2, zs3, zs4, zs5, zs6, zs7] at h21
  exact absurd (Or.inr hd5) h21

theorem scan_succ (d : Nat) {deep : Int} {c : Nat} {e : Ex} (hc : c ≤ 12) (hd8 : -100 ≤ deep ∧ deep ≤ 100) (hrl : e.r.2.length ≤ 1099511627776) (hd5 : ¬ 5 < deep) {L : Nat} (ih : ∀ x ∈ e.ks, ∀ c : Nat, c ≤ 12 → Fn Tryz.prog 149 (hbI (c : Nat)) [ad (rX x), nat1 (d : Nat), nat1 (deep + 1), .c (.box 0 1 0 0)] (.o (bo1 (scanV d L c x).1)) (hbI ((scanV d L c x).2 : Nat))) : Fn Tryz.prog 149 (hbI (c : Nat)) [ad (rX e), nat1 (d : Nat), nat1 deep, .c (.box 0 1 0 0)] (.o (bo1 (scanV d (L + 1) c e).1)) (hbI ((scanV d (L + 1) c e).2 : Nat)) := by
 refine Fn.of_code Tryz.func149 rfl rfl (hbI_HB _) rfl rfl (hbI_HB _) rfl (hbI_num _ _) ?_
 refine .seq <| .region <| .cons (St1.boxP rfl rfl rfl rfl rfl rfl) <| .cons (.asg rfl rfl) <| .nil <| ks_n <| .seq <| .region <| .cons (.mv rfl rfl) <| .cons (.nB rfl rfl rfl) <| .cons (.b1 1 rfl rfl rfl rfl rfl rfl) <| .cons (.pl rfl rfl rfl) <| .cons (.nB rfl rfl rfl) <| .cons (.sT 1 false rfl rfl rfl rfl rfl rfl rfl) <| .nil <| ks_n <| .seq <| .seq ?_
 refine ACode.cut [(.t 1, .v (.o (nat1 (d : Nat)))), (.t 2, .v (.o (nat1 deep))), (.t 3, .v (.o (.c (.box 0 1 0 0)))), (.t 4, .v (.o (.c (.ptr (rX e))))), (.t 8, .v (.o (bo1 false))), (.t 21, .v (.o (bo1 (decide (12 < c + 1 ∨ 5 < deep))))), (.b 0, .b 3 1 (dR ([rI ((c : Int) + 1)]))), (.u 0, .u)] ?_ ?_
 ·skip
  refine .region <| .cons (.mv rfl rfl) <| .cons (.nB rfl rfl rfl) <| .cons (.b1 1 rfl rfl rfl rfl rfl rfl) <| .cons (.gt rfl rfl rfl) <| .cons (.mv rfl rfl) ?_
  refine .cD 18 rfl (fun g18 => ?_) (fun g18 => ?_)
  ·skip
   refine .cons (.gF rfl rfl rfl) <| .cons (.gF rfl rfl rfl) <| .cons (.pT rfl rfl rfl) <| .nil ?_
   exact kc_n (Wk.keep [(0, 0)] rfl rfl ⟨ks rfl .dt, ks rfl .dt, ks rfl (.c .bx), ks rfl .dt, ks rfl .dt, ks rfl (.dt (vB (by first | rfl | grind))), kb 0 rfl (.dt rfl), trivial⟩)
  ·skip
   refine .cons (.gT rfl rfl rfl (.mv rfl rfl)) <| .cons (.gT rfl rfl rfl (.gt rfl rfl rfl)) <| .cons (.pF rfl rfl rfl) <| .nil ?_
   exact kc_n (Wk.keep [(0, 0)] rfl rfl ⟨ks rfl .dt, ks rfl .dt, ks rfl (.c .bx), ks rfl .dt, ks rfl .dt, ks rfl (.dt (vB (by first | rfl | grind))), kb 0 rfl (.dt rfl), trivial⟩)
 refine ks_n ?_
 refine ACode.condT rfl (fun h21 => ?_) (fun h21 => ?_)
 ·try simp only [zs1, zs2, zs3, zs4, zs5, zs6, zs7] at h21
  refine .seq ?_
  have hR := scan_many (d := d) (L := L) (e := e) (show 12 < c + 1 by omega)
  refine .region <| .cons (.asg rfl rfl) <| .nil <| ks_n <| .ret <| ks_r ?_
  obtain ⟨r, hr⟩ : ∃ r, r = (scanV d (L + 1) c e) := ⟨_, rfl⟩
  rw [← hr]
  rw [← hr] at hR
  refine kf_wret [(.t 3, .v (.o (.c (.box 0 1 0 0)))), (.t 8, .v (.o (bo1 r.1))), (.b 0, .b 3 1 (dR ([rI (r.2 : Nat)]))), (.u 0, .u)] (Wk.keep [(0, 0)] rfl rfl ⟨ks rfl (.c .bx), ks rfl (.dt (vB (by rw [hR] <;> first | rfl | grind))), kb 0 rfl (.dt rfl (by rw [hR] <;> rfl)), trivial⟩) rfl ?_ (hbI_box rfl)
  rfl
 ·try simp only [zs1, zs2, zs3, zs4, zs5, zs6, zs7] at h21
  have hc1 : ¬ 12 < c + 1 := by omega
  refine .skip <| ks_n <| .seq <| .seq ?_
  refine ACode.cut [(.t 1, .v (.o (nat1 (d : Nat)))), (.t 2, .v (.o (nat1 deep))), (.t 3, .v (.o (.c (.box 0 1 0 0)))), (.t 4, .v (.o (.c (.ptr (rX e))))), (.t 8, .v (.o (bo1 false))), (.t 51, .v (.o (bo1 (!hdV e)))), (.b 0, .b 3 1 (dR ([rI ((c : Int) + 1)]))), (.u 0, .u)] ?_ ?_
  ·skip
   refine .region <| .cons (.fP 0 0 false rfl rfl) <| .cons (.l1 1 rfl rfl) <| .cons (.ne rfl rfl rfl) <| .cons (.mv rfl rfl) ?_
   refine .cND 25 rfl (fun g25 => ?_) (fun g25 => ?_)
   ·skip
    refine .cons (.gT rfl rfl rfl (.fP 1 0 false rfl rfl)) <| .cons (.gT rfl rfl rfl (.l1 1 rfl rfl)) <| .cons (.gT rfl rfl rfl (.ne rfl rfl rfl)) <| .cons (.pT rfl rfl rfl) <| .cons (.mv rfl rfl) ?_
    refine AOps.cases 30 _ rfl (fun g30 => ?_) (fun g30 => ?_)
    ·try simp only [zs1, zs2, zs3, zs4, zs5, zs6, zs7] at g30
     refine .cons (.gF rfl rfl rfl) <| .cons (.gF rfl rfl rfl) <| .cons (.gF rfl rfl rfl) <| .cons (.gF rfl rfl rfl) <| .cons (.gU rfl rfl) <| .cons (.gU rfl rfl) <| .cons (.gU rfl rfl) <| .cons (.gU rfl rfl) <| .cons (.gF rfl rfl rfl) <| .cons (.pT rfl rfl rfl) <| .cons (.mv rfl rfl) <| .cons (.gF rfl rfl rfl) <| .cons (.gF rfl rfl rfl) <| .cons (.gF rfl rfl rfl) <| .cons (.gF rfl rfl rfl) <| .cons (.gU rfl rfl) <| .cons (.gU rfl rfl) <| .cons (.gU rfl rfl) <| .cons (.gU rfl rfl) <| .cons (.gF rfl rfl rfl) <| .cons (.pT rfl rfl rfl) <| .nil ?_
     exact kc_n (Wk.keep [(0, 0)] rfl rfl ⟨ks rfl .dt, ks rfl .dt, ks rfl (.c .bx), ks rfl .dt, ks rfl .dt, ks rfl (.dt (vB (by first | (exfalso; omega) | (rw [hdV]; simp [*]; done) | (rw [hdV]; cases hA : nonA e.i <;> cases hC : nonC e.r <;> simp_all; done)))), kb 0 rfl (.dt rfl), trivial⟩)
    ·try simp only [zs1, zs2, zs3, zs4, zs5, zs6, zs7] at g30
     refine .cons (.gT rfl rfl rfl (.fP 0 0 false rfl rfl)) <| .cons (.gT rfl rfl rfl (.l1 1 rfl rfl)) <| .cons (.gT rfl rfl rfl (.ne rfl rfl rfl)) <| .cons (.gT rfl rfl rfl (.mv rfl rfl)) ?_
     refine .cND 34 rfl (fun g34 => ?_) (fun g34 => ?_)
     ·skip
      refine .cons (.gT rfl rfl rfl (.fP 2 1 true rfl rfl)) <| .cons (.gT rfl rfl rfl (.lN 2 rfl rfl rfl)) <| .cons (.gT rfl rfl rfl (.cP [.tmp 36] rfl rfl rfl rfl (implNoA_fn _) rfl)) ?_
      refine .cons (.gT rfl rfl rfl (.nt rfl rfl)) <| .cons (.gT rfl rfl rfl (.pT rfl rfl rfl)) <| .cons (.pF rfl rfl rfl) <| .cons (.mv rfl rfl) ?_
      refine AOps.cases 41 _ rfl (fun g41 => ?_) (fun g41 => ?_)
      ·try simp only [zs1, zs2, zs3, zs4, zs5, zs6, zs7] at g41
       refine .cons (.gF rfl rfl rfl) <| .cons (.gF rfl rfl rfl) <| .cons (.gF rfl rfl rfl) <| .cons (.gF rfl rfl rfl) <| .cons (.gU rfl rfl) <| .cons (.gU rfl rfl) <| .cons (.gU rfl rfl) <| .cons (.gU rfl rfl) <| .cons (.gF rfl rfl rfl) <| .cons (.pT rfl rfl rfl) <| .nil ?_
       exact kc_n (Wk.keep [(0, 0)] rfl rfl ⟨ks rfl .dt, ks rfl .dt, ks rfl (.c .bx), ks rfl .dt, ks rfl .dt, ks rfl (.dt (vB (by first | (exfalso; omega) | (rw [hdV]; simp [*]; done) | (rw [hdV]; cases hA : nonA e.i <;> cases hC : nonC e.r <;> simp_all; done)))), kb 0 rfl (.dt rfl), trivial⟩)
      ·try simp only [zs1, zs2, zs3, zs4, zs5, zs6, zs7] at g41
       refine .cons (.gT rfl rfl rfl (.fP 0 0 false rfl rfl)) <| .cons (.gT rfl rfl rfl (.l1 1 rfl rfl)) <| .cons (.gT rfl rfl rfl (.ne rfl rfl rfl)) <| .cons (.gT rfl rfl rfl (.mv rfl rfl)) ?_
       refine .cND 45 rfl (fun g45 => ?_) (fun g45 => ?_)
       ·skip
        refine .cons (.gT rfl rfl rfl (.fP 4 1 true rfl rfl)) <| .cons (.gT rfl rfl rfl (.lN 2 rfl rfl rfl)) <| .cons (.gT rfl rfl rfl (.cP [.tmp 47] rfl rfl rfl rfl (implNoC_fn _) rfl)) ?_
        refine .cons (.gT rfl rfl rfl (.nt rfl rfl)) <| .cons (.gT rfl rfl rfl (.pT rfl rfl rfl)) <| .cons (.pF rfl rfl rfl) <| .nil ?_
        exact kc_n (Wk.keep [(0, 0)] rfl rfl ⟨ks rfl .dt, ks rfl .dt, ks rfl (.c .bx), ks rfl .dt, ks rfl .dt, ks rfl (.dt (vB (by first | (exfalso; omega) | (rw [hdV]; simp [*]; done) | (rw [hdV]; cases hA : nonA e.i <;> cases hC : nonC e.r <;> simp_all; done)))), kb 0 rfl (.dt rfl), trivial⟩)
       ·skip
        refine .cons (.gF rfl rfl rfl) <| .cons (.gF rfl rfl rfl) <| .cons (.gF rfl rfl rfl) <| .cons (.gF rfl rfl rfl) <| .cons (.gT rfl rfl rfl (.pF rfl rfl rfl)) <| .cons (.pF rfl rfl rfl) <| .nil ?_
        exact kc_n (Wk.keep [(0, 0)] rfl rfl ⟨ks rfl .dt, ks rfl .dt, ks rfl (.c .bx), ks rfl .dt, ks rfl .dt, ks rfl (.dt (vB (by first | (exfalso; omega) | (rw [hdV]; simp [*]; done) | (rw [hdV]; cases hA : nonA e.i <;> cases hC : nonC e.r <;> simp_all; done)))), kb 0 rfl (.dt rfl), trivial⟩)
     ·skip
      refine .cons (.gF rfl rfl rfl) <| .cons (.gF rfl rfl rfl) <| .cons (.gF rfl rfl rfl) <| .cons (.gF rfl rfl rfl) <| .cons (.gT rfl rfl rfl (.pF rfl rfl rfl)) <| .cons (.pF rfl rfl rfl) <| .cons (.mv rfl rfl) <| .cons (.gT rfl rfl rfl (.fP 0 0 false rfl rfl)) <| .cons (.gT rfl rfl rfl (.l1 1 rfl rfl)) <| .cons (.gT rfl rfl rfl (.ne rfl rfl rfl)) <| .cons (.gT rfl rfl rfl (.mv rfl rfl)) ?_
      refine .cND 45 rfl (fun g45 => ?_) (fun g45 => ?_)
      ·skip
       refine .cons (.gT rfl rfl rfl (.fP 4 1 true rfl rfl)) <| .cons (.gT rfl rfl rfl (.lN 2 rfl rfl rfl)) <| .cons (.gT rfl rfl rfl (.cP [.tmp 47] rfl rfl rfl rfl (implNoC_fn _) rfl)) ?_
       refine .cons (.gT rfl rfl rfl (.nt rfl rfl)) <| .cons (.gT rfl rfl rfl (.pT rfl rfl rfl)) <| .cons (.pF rfl rfl rfl) <| .nil ?_
       exact kc_n (Wk.keep [(0, 0)] rfl rfl ⟨ks rfl .dt, ks rfl .dt, ks rfl (.c .bx), ks rfl .dt, ks rfl .dt, ks rfl (.dt (vB (by first | (exfalso; omega) | (rw [hdV]; simp [*]; done) | (rw [hdV]; cases hA : nonA e.i <;> cases hC : nonC e.r <;> simp_all; done)))), kb 0 rfl (.dt rfl), trivial⟩)
      ·skip
       refine .cons (.gF rfl rfl rfl) <| .cons (.gF rfl rfl rfl) <| .cons (.gF rfl rfl rfl) <| .cons (.gF rfl rfl rfl) <| .cons (.gT rfl rfl rfl (.pF rfl rfl rfl)) <| .cons (.pF rfl rfl rfl) <| .nil ?_
       exact kc_n (Wk.keep [(0, 0)] rfl rfl ⟨ks rfl .dt, ks rfl .dt, ks rfl (.c .bx), ks rfl .dt, ks rfl .dt, ks rfl (.dt (vB (by first | (exfalso; omega) | (rw [hdV]; simp [*]; done) | (rw [hdV]; cases hA : nonA e.i <;> cases hC : nonC e.r <;> simp_all; done)))), kb 0 rfl (.dt rfl), trivial⟩)
   ·skip
    refine .cons (.gF rfl rfl rfl) <| .cons (.gF rfl rfl rfl) <| .cons (.gF rfl rfl rfl) <| .cons (.pF rfl rfl rfl) <| .cons (.mv rfl rfl) <| .cons (.gT rfl rfl rfl (.fP 0 0 false rfl rfl)) <| .cons (.gT rfl rfl rfl (.l1 1 rfl rfl)) <| .cons (.gT rfl rfl rfl (.ne rfl rfl rfl)) <| .cons (.gT rfl rfl rfl (.mv rfl rfl)) ?_
    refine .cND 34 rfl (fun g34 => ?_) (fun g34 => ?_)
    ·skip
     refine .cons (.gT rfl rfl rfl (.fP 2 1 true rfl rfl)) <| .cons (.gT rfl rfl rfl (.lN 2 rfl rfl rfl)) <| .cons (.gT rfl rfl rfl (.cP [.tmp 36] rfl rfl rfl rfl (implNoA_fn _) rfl)) ?_
     refine .cons (.gT rfl rfl rfl (.nt rfl rfl)) <| .cons (.gT rfl rfl rfl (.pT rfl rfl rfl)) <| .cons (.pF rfl rfl rfl) <| .cons (.mv rfl rfl) ?_
     refine AOps.cases 41 _ rfl (fun g41 => ?_) (fun g41 => ?_)
     ·try simp only [zs1, zs2, zs3, zs4, zs5, zs6, zs7] at g41
      refine .cons (.gF rfl rfl rfl) <| .cons (.gF rfl rfl rfl) <| .cons (.gF rfl rfl rfl) <| .cons (.gF rfl rfl rfl) <| .cons (.gU rfl rfl) <| .cons (.gU rfl rfl) <| .cons (.gU rfl rfl) <| .cons (.gU rfl rfl) <| .cons (.gF rfl rfl rfl) <| .cons (.pT rfl rfl rfl) <| .nil ?_
      exact kc_n (Wk.keep [(0, 0)] rfl rfl ⟨ks rfl .dt, ks rfl .dt, ks rfl (.c .bx), ks rfl .dt, ks rfl .dt, ks rfl (.dt (vB (by first | (exfalso; omega) | (rw [hdV]; simp [*]; done) | (rw [hdV]; cases hA : nonA e.i <;> cases hC : nonC e.r <;> simp_all; done)))), kb 0 rfl (.dt rfl), trivial⟩)
     ·try simp only [zs1, zs2, zs3, zs4, zs5, zs6, zs7] at g41
      refine .cons (.gT rfl rfl rfl (.fP 0 0 false rfl rfl)) <| .cons (.gT rfl rfl rfl (.l1 1 rfl rfl)) <| .cons (.gT rfl rfl rfl (.ne rfl rfl rfl)) <| .cons (.gT rfl rfl rfl (.mv rfl rfl)) ?_
      refine .cND 45 rfl (fun g45 => ?_) (fun g45 => ?_)
      ·skip
       refine .cons (.gT rfl rfl rfl (.fP 4 1 true rfl rfl)) <| .cons (.gT rfl rfl rfl (.lN 2 rfl rfl rfl)) <| .cons (.gT rfl rfl rfl (.cP [.tmp 47] rfl rfl rfl rfl (implNoC_fn _) rfl)) ?_
       refine .cons (.gT rfl rfl rfl (.nt rfl rfl)) <| .cons (.gT rfl rfl rfl (.pT rfl rfl rfl)) <| .cons (.pF rfl rfl rfl) <| .nil ?_
       exact kc_n (Wk.keep [(0, 0)] rfl rfl ⟨ks rfl .dt, ks rfl .dt, ks rfl (.c .bx), ks rfl .dt, ks rfl .dt, ks rfl (.dt (vB (by first | (exfalso; omega) | (rw [hdV]; simp [*]; done) | (rw [hdV]; cases hA : nonA e.i <;> cases hC : nonC e.r <;> simp_all; done)))), kb 0 rfl (.dt rfl), trivial⟩)
      ·skip
       refine .cons (.gF rfl rfl rfl) <| .cons (.gF rfl rfl rfl) <| .cons (.gF rfl rfl rfl) <| .cons (.gF rfl rfl rfl) <| .cons (.gT rfl rfl rfl (.pF rfl rfl rfl)) <| .cons (.pF rfl rfl rfl) <| .nil ?_
       exact kc_n (Wk.keep [(0, 0)] rfl rfl ⟨ks rfl .dt, ks rfl .dt, ks rfl (.c .bx), ks rfl .dt, ks rfl .dt, ks rfl (.dt (vB (by first | (exfalso; omega) | (rw [hdV]; simp [*]; done) | (rw [hdV]; cases hA : nonA e.i <;> cases hC : nonC e.r <;> simp_all; done)))), kb 0 rfl (.dt rfl), trivial⟩)
    ·skip
     refine .cons (.gF rfl rfl rfl) <| .cons (.gF rfl rfl rfl) <| .cons (.gF rfl rfl rfl) <| .cons (.gF rfl rfl rfl) <| .cons (.gT rfl rfl rfl (.pF rfl rfl rfl)) <| .cons (.pF rfl rfl rfl) <| .cons (.mv rfl rfl) <| .cons (.gT rfl rfl rfl (.fP 0 0 false rfl rfl)) <| .cons (.gT rfl rfl rfl (.l1 1 rfl rfl)) <| .cons (.gT rfl rfl rfl (.ne rfl rfl rfl)) <| .cons (.gT rfl rfl rfl (.mv rfl rfl)) ?_
     refine .cND 45 rfl (fun g45 => ?_) (fun g45 => ?_)
     ·skip
      refine .cons (.gT rfl rfl rfl (.fP 4 1 true rfl rfl)) <| .cons (.gT rfl rfl rfl (.lN 2 rfl rfl rfl)) <| .cons (.gT rfl rfl rfl (.cP [.tmp 47] rfl rfl rfl rfl (implNoC_fn _) rfl)) ?_
      refine .cons (.gT rfl rfl rfl (.nt rfl rfl)) <| .cons (.gT rfl rfl rfl (.pT rfl rfl rfl)) <| .cons (.pF rfl rfl rfl) <| .nil ?_
      exact kc_n (Wk.keep [(0, 0)] rfl rfl ⟨ks rfl .dt, ks rfl .dt, ks rfl (.c .bx), ks rfl .dt, ks rfl .dt, ks rfl (.dt (vB (by first | (exfalso; omega) | (rw [hdV]; simp [*]; done) | (rw [hdV]; cases hA : nonA e.i <;> cases hC : nonC e.r <;> simp_all; done)))), kb 0 rfl (.dt rfl), trivial⟩)
     ·skip
      refine .cons (.gF rfl rfl rfl) <| .cons (.gF rfl rfl rfl) <| .cons (.gF rfl rfl rfl) <| .cons (.gF rfl rfl rfl) <| .cons (.gT rfl rfl rfl (.pF rfl rfl rfl)) <| .cons (.pF rfl rfl rfl) <| .nil ?_
      exact kc_n (Wk.keep [(0, 0)] rfl rfl ⟨ks rfl .dt, ks rfl .dt, ks rfl (.c .bx), ks rfl .dt, ks rfl .dt, ks rfl (.dt (vB (by first | (exfalso; omega) | (rw [hdV]; simp [*]; done) | (rw [hdV]; cases hA : nonA e.i <;> cases hC : nonC e.r <;> simp_all; done)))), kb 0 rfl (.dt rfl), trivial⟩)
  refine ks_n ?_
  refine ACode.condT rfl (fun h51 => ?_) (fun h51 => ?_)
  ·try simp only [zs1, zs2, zs3, zs4, zs5, zs6, zs7] at h51
   refine .seq ?_
   have hR := scan_hd (d := d) (L := L) (c := c) h51
   refine .region <| .cons (.asg rfl rfl) <| .nil <| ks_n <| .ret <| ks_r ?_
   obtain ⟨r, hr⟩ : ∃ r, r = (scanV d (L + 1) c e) := ⟨_, rfl⟩
   rw [← hr]
   rw [← hr] at hR
   refine kf_wret [(.t 3, .v (.o (.c (.box 0 1 0 0)))), (.t 8, .v (.o (bo1 r.1))), (.b 0, .b 3 1 (dR ([rI (r.2 : Nat)]))), (.u 0, .u)] (Wk.keep [(0, 0)] rfl rfl ⟨ks rfl (.c .bx), ks rfl (.dt (vB (by rw [hR] <;> first | rfl | grind))), kb 0 rfl (.dt rfl (by rw [hR] <;> rfl)), trivial⟩) rfl ?_ (hbI_box rfl)
   rfl
  ·try simp only [zs1, zs2, zs3, zs4, zs5, zs6, zs7] at h51
   refine .skip <| ks_n <| .seq <| .block <| .seq <| .region <| .cons (.fP 0 0 false rfl rfl) <| .cons (.l1 1 rfl rfl) <| .cons (.eq rfl rfl rfl) <| .cons (.asg rfl rfl) <| .nil <| ks_n ?_
   refine .cD rfl (fun h52 => ?_) (fun h52 => ?_)
   ·skip
    refine .seq ?_
    have hR := scan1 (d := d) (L := L) h52 h51 hc1
    refine .region <| .cons (.fP 1 0 false rfl rfl) <| .cons (.l1 1 rfl rfl) <| .cons (.cP [.tmp 57, .const (.int .i64 (0)), .const (.int .i64 (99))] rfl rfl rfl rfl (within_fn _ 0 99) rfl) ?_
    refine .cons (.mv rfl rfl) ?_
    refine AOps.cases 59 _ rfl (fun g59 => ?_) (fun g59 => ?_)
    ·try simp only [zs1, zs2, zs3, zs4, zs5, zs6, zs7] at g59
     refine .cons (.gT rfl rfl rfl (.fP 6 0 false rfl rfl)) <| .cons (.gT rfl rfl rfl (.l1 1 rfl rfl)) <| .cons (.gT rfl rfl rfl (.ln 94 7 112 rfl rfl rfl)) <| .cons (.gT rfl rfl rfl (.eq rfl rfl rfl)) <| .cons (.pT rfl rfl rfl) <| .cons (.asg rfl rfl) <| .nil <| ks_n <| .ret <| kb_r <| ks_r ?_
     obtain ⟨r, hr⟩ : ∃ r, r = (scanV d (L + 1) c e) := ⟨_, rfl⟩
     rw [← hr]
     rw [← hr] at hR
     refine kf_wret [(.t 3, .v (.o (.c (.box 0 1 0 0)))), (.t 8, .v (.o (bo1 r.1))), (.b 0, .b 3 1 (dR ([rI (r.2 : Nat)]))), (.u 0, .u)] (Wk.keep [(0, 0)] rfl rfl ⟨ks rfl (.c .bx), ks rfl (.dt (vB (by rw [hR] <;> first | rfl | grind))), kb 0 rfl (.dt rfl (by rw [hR] <;> rfl)), trivial⟩) rfl ?_ (hbI_box rfl)
     rfl
    ·try simp only [zs1, zs2, zs3, zs4, zs5, zs6, zs7] at g59
     refine .cons (.gF rfl rfl rfl) <| .cons (.gF rfl rfl rfl) <| .cons (.gF rfl rfl rfl) <| .cons (.gF rfl rfl rfl) <| .cons (.pF rfl rfl rfl) <| .cons (.asg rfl rfl) <| .nil <| ks_n <| .ret <| kb_r <| ks_r ?_
     obtain ⟨r, hr⟩ : ∃ r, r = (scanV d (L + 1) c e) := ⟨_, rfl⟩
     rw [← hr]
     rw [← hr] at hR
     refine kf_wret [(.t 3, .v (.o (.c (.box 0 1 0 0)))), (.t 8, .v (.o (bo1 r.1))), (.b 0, .b 3 1 (dR ([rI (r.2 : Nat)]))), (.u 0, .u)] (Wk.keep [(0, 0)] rfl rfl ⟨ks rfl (.c .bx), ks rfl (.dt (vB (by rw [hR] <;> first | rfl | grind))), kb 0 rfl (.dt rfl (by rw [hR] <;> rfl)), trivial⟩) rfl ?_ (hbI_box rfl)
     rfl
   ·skip
    refine .seq <| .region <| .cons (.fP 0 0 false rfl rfl) <| .cons (.l1 1 rfl rfl) <| .cons (.eq rfl rfl rfl) <| .cons (.asg rfl rfl) <| .nil <| ks_n ?_
    refine .cD rfl (fun h65 => ?_) (fun h65 => ?_)
    ·skip
     refine .seq ?_
     have hR := scan2 (d := d) (L := L) h65 h51 hc1
     refine .region <| .cons (.fP 2 1 true rfl rfl) <| .cons (.lN 2 rfl rfl rfl) <| .cons (.cP [.tmp 70] rfl rfl rfl rfl (implAffV_fn _) rfl) ?_
     refine .cons (.mv rfl rfl) ?_
     refine AOps.cases 72 _ rfl (fun g72 => ?_) (fun g72 => ?_)
     ·try simp only [zs1, zs2, zs3, zs4, zs5, zs6, zs7] at g72
      refine .cons (.gT rfl rfl rfl (.fP 2 1 true rfl rfl)) <| .cons (.gT rfl rfl rfl (.lN 2 rfl rfl rfl)) <| .cons (.gT rfl rfl rfl (.cP [.tmp 74] rfl rfl rfl rfl (depth_fn _) rfl)) ?_
      refine .cons (.gT rfl rfl rfl (.mv rfl rfl)) <| .cons (.gT rfl rfl rfl (.le rfl rfl rfl)) <| .cons (.pT rfl rfl rfl) <| .cons (.mv rfl rfl) ?_
      refine AOps.cases 79 _ rfl (fun g79 => ?_) (fun g79 => ?_)
      ·try simp only [zs1, zs2, zs3, zs4, zs5, zs6, zs7] at g79
       refine .cons (.gT rfl rfl rfl (.fP 6 0 false rfl rfl)) <| .cons (.gT rfl rfl rfl (.l1 1 rfl rfl)) <| .cons (.gT rfl rfl rfl (.ln 94 7 112 rfl rfl rfl)) <| .cons (.gT rfl rfl rfl (.eq rfl rfl rfl)) <| .cons (.pT rfl rfl rfl) <| .cons (.asg rfl rfl) <| .nil <| ks_n <| .ret <| kb_r <| ks_r ?_
       obtain ⟨r, hr⟩ : ∃ r, r = (scanV d (L + 1) c e) := ⟨_, rfl⟩
       rw [← hr]
       rw [← hr] at hR
       refine kf_wret [(.t 3, .v (.o (.c (.box 0 1 0 0)))), (.t 8, .v (.o (bo1 r.1))), (.b 0, .b 3 1 (dR ([rI (r.2 : Nat)]))), (.u 0, .u)] (Wk.keep [(0, 0)] rfl rfl ⟨ks rfl (.c .bx), ks rfl (.dt (vB (by rw [hR] <;> first | rfl | grind))), kb 0 rfl (.dt rfl (by rw [hR] <;> rfl)), trivial⟩) rfl ?_ (hbI_box rfl)
       rfl
      ·try simp only [zs1, zs2, zs3, zs4, zs5, zs6, zs7] at g79
       refine .cons (.gF rfl rfl rfl) <| .cons (.gF rfl rfl rfl) <| .cons (.gF rfl rfl rfl) <| .cons (.gF rfl rfl rfl) <| .cons (.pF rfl rfl rfl) <| .cons (.asg rfl rfl) <| .nil <| ks_n <| .ret <| kb_r <| ks_r ?_
       obtain ⟨r, hr⟩ : ∃ r, r = (scanV d (L + 1) c e) := ⟨_, rfl⟩
       rw [← hr]
       rw [← hr] at hR
       refine kf_wret [(.t 3, .v (.o (.c (.box 0 1 0 0)))), (.t 8, .v (.o (bo1 r.1))), (.b 0, .b 3 1 (dR ([rI (r.2 : Nat)]))), (.u 0, .u)] (Wk.keep [(0, 0)] rfl rfl ⟨ks rfl (.c .bx), ks rfl (.dt (vB (by rw [hR] <;> first | rfl | grind))), kb 0 rfl (.dt rfl (by rw [hR] <;> rfl)), trivial⟩) rfl ?_ (hbI_box rfl)
       rfl
     ·try simp only [zs1, zs2, zs3, zs4, zs5, zs6, zs7] at g72
      refine .cons (.gF rfl rfl rfl) <| .cons (.gF rfl rfl rfl) <| .cons (.gF rfl rfl rfl) <| .cons (.gF rfl rfl rfl) <| .cons (.gF rfl rfl rfl) <| .cons (.pF rfl rfl rfl) <| .cons (.mv rfl rfl) <| .cons (.gF rfl rfl rfl) <| .cons (.gF rfl rfl rfl) <| .cons (.gF rfl rfl rfl) <| .cons (.gF rfl rfl rfl) <| .cons (.pF rfl rfl rfl) <| .cons (.asg rfl rfl) <| .nil <| ks_n <| .ret <| kb_r <| ks_r ?_
      obtain ⟨r, hr⟩ : ∃ r, r = (scanV d (L + 1) c e) := ⟨_, rfl⟩
      rw [← hr]
      rw [← hr] at hR
      refine kf_wret [(.t 3, .v (.o (.c (.box 0 1 0 0)))), (.t 8, .v (.o (bo1 r.1))), (.b 0, .b 3 1 (dR ([rI (r.2 : Nat)]))), (.u 0, .u)] (Wk.keep [(0, 0)] rfl rfl ⟨ks rfl (.c .bx), ks rfl (.dt (vB (by rw [hR] <;> first | rfl | grind))), kb 0 rfl (.dt rfl (by rw [hR] <;> rfl)), trivial⟩) rfl ?_ (hbI_box rfl)
      rfl
    ·skip
     refine .seq <| .region <| .cons (.fP 0 0 false rfl rfl) <| .cons (.l1 1 rfl rfl) <| .cons (.eq rfl rfl rfl) <| .cons (.asg rfl rfl) <| .nil <| ks_n ?_
     refine .cD rfl (fun h85 => ?_) (fun h85 => ?_)
     ·skip
      refine .seq ?_
      have hR := scan3 (d := d) (L := L) h85 h51 hc1
      refine .region <| .cons (.fP 4 1 true rfl rfl) <| .cons (.lN 2 rfl rfl rfl) <| .cons (.mv rfl rfl) <| .cons (.cP [.tmp 90, .tmp 91] rfl rfl rfl rfl (accOk_fn d _ hrl) rfl) ?_
      refine .cons (.mv rfl rfl) ?_
      refine AOps.cases 93 _ rfl (fun g93 => ?_) (fun g93 => ?_)
      ·try simp only [zs1, zs2, zs3, zs4, zs5, zs6, zs7] at g93
       refine .cons (.gT rfl rfl rfl (.fP 6 0 false rfl rfl)) <| .cons (.gT rfl rfl rfl (.l1 1 rfl rfl)) <| .cons (.gT rfl rfl rfl (.ln 94 7 112 rfl rfl rfl)) <| .cons (.gT rfl rfl rfl (.eq rfl rfl rfl)) <| .cons (.pT rfl rfl rfl) <| .cons (.asg rfl rfl) <| .nil <| ks_n <| .ret <| kb_r <| ks_r ?_
       obtain ⟨r, hr⟩ : ∃ r, r = (scanV d (L + 1) c e) := ⟨_, rfl⟩
       rw [← hr]
       rw [← hr] at hR
       refine kf_wret [(.t 3, .v (.o (.c (.box 0 1 0 0)))), (.t 8, .v (.o (bo1 r.1))), (.b 0, .b 3 1 (dR ([rI (r.2 : Nat)]))), (.u 0, .u)] (Wk.keep [(0, 0)] rfl rfl ⟨ks rfl (.c .bx), ks rfl (.dt (vB (by rw [hR] <;> first | rfl | grind))), kb 0 rfl (.dt rfl (by rw [hR] <;> rfl)), trivial⟩) rfl ?_ (hbI_box rfl)
       rfl
      ·try simp only [zs1, zs2, zs3, zs4, zs5, zs6, zs7] at g93
       refine .cons (.gF rfl rfl rfl) <| .cons (.gF rfl rfl rfl) <| .cons (.gF rfl rfl rfl) <| .cons (.gF rfl rfl rfl) <| .cons (.pF rfl rfl rfl) <| .cons (.asg rfl rfl) <| .nil <| ks_n <| .ret <| kb_r <| ks_r ?_
       obtain ⟨r, hr⟩ : ∃ r, r = (scanV d (L + 1) c e) := ⟨_, rfl⟩
       rw [← hr]
       rw [← hr] at hR
       refine kf_wret [(.t 3, .v (.o (.c (.box 0 1 0 0)))), (.t 8, .v (.o (bo1 r.1))), (.b 0, .b 3 1 (dR ([rI (r.2 : Nat)]))), (.u 0, .u)] (Wk.keep [(0, 0)] rfl rfl ⟨ks rfl (.c .bx), ks rfl (.dt (vB (by rw [hR] <;> first | rfl | grind))), kb 0 rfl (.dt rfl (by rw [hR] <;> rfl)), trivial⟩) rfl ?_ (hbI_box rfl)
       rfl
     ·skip
      refine .seq <| .region <| .cons (.fP 0 0 false rfl rfl) <| .cons (.l1 1 rfl rfl) <| .cons (.cP [.tmp 101] rfl rfl rfl rfl (isOp_fn _) rfl) ?_
      refine .cons (.nt rfl rfl) <| .cons (.mv rfl rfl) ?_
      refine AOps.cases 104 _ rfl (fun g104 => ?_) (fun g104 => ?_)
      ·try simp only [zs1, zs2, zs3, zs4, zs5, zs6, zs7] at g104
       refine .cons (.gF rfl rfl rfl) <| .cons (.gF rfl rfl rfl) <| .cons (.gF rfl rfl rfl) <| .cons (.gF rfl rfl rfl) <| .cons (.pT rfl rfl rfl) <| .cons (.asg rfl rfl) <| .nil <| ks_n ?_
       refine ACode.condT rfl (fun _ => ?_) (fun h => by first | (cases h; done) | (simp [*] at h; done) | (exfalso; simp_all; done))
       refine .seq ?_
       have hR := scan_bad (d := d) (L := L) (c := c) ⟨h52, h65, h85⟩ (by first | exact .inl (by assumption) | exact .inr (by omega))
       refine .region <| .cons (.asg rfl rfl) <| .nil <| ks_n <| .ret <| kb_r <| ks_r ?_
       obtain ⟨r, hr⟩ : ∃ r, r = (scanV d (L + 1) c e) := ⟨_, rfl⟩
       rw [← hr]
       rw [← hr] at hR
       refine kf_wret [(.t 3, .v (.o (.c (.box 0 1 0 0)))), (.t 8, .v (.o (bo1 r.1))), (.b 0, .b 3 1 (dR ([rI (r.2 : Nat)]))), (.u 0, .u)] (Wk.keep [(0, 0)] rfl rfl ⟨ks rfl (.c .bx), ks rfl (.dt (vB (by rw [hR] <;> first | rfl | grind))), kb 0 rfl (.dt rfl (by rw [hR] <;> rfl)), trivial⟩) rfl ?_ (hbI_box rfl)
       rfl
      ·try simp only [zs1, zs2, zs3, zs4, zs5, zs6, zs7] at g104
       refine .cons (.gT rfl rfl rfl (.fP 6 0 false rfl rfl)) <| .cons (.gT rfl rfl rfl (.l1 1 rfl rfl)) <| .cons (.gT rfl rfl rfl (.ln 94 7 112 rfl rfl rfl)) <| .cons (.gT rfl rfl rfl (.ne rfl rfl rfl)) <| .cons (.pF rfl rfl rfl) <| .cons (.asg rfl rfl) <| .nil <| ks_n ?_
       refine ACode.condT rfl (fun h99 => ?_) (fun h99 => ?_)
       ·try simp only [zs1, zs2, zs3, zs4, zs5, zs6, zs7] at h99
        refine .seq ?_
        have hR := scan_bad (d := d) (L := L) (c := c) ⟨h52, h65, h85⟩ (by first | exact .inl (by assumption) | exact .inr (by omega))
        refine .region <| .cons (.asg rfl rfl) <| .nil <| ks_n <| .ret <| kb_r <| ks_r ?_
        obtain ⟨r, hr⟩ : ∃ r, r = (scanV d (L + 1) c e) := ⟨_, rfl⟩
        rw [← hr]
        rw [← hr] at hR
        refine kf_wret [(.t 3, .v (.o (.c (.box 0 1 0 0)))), (.t 8, .v (.o (bo1 r.1))), (.b 0, .b 3 1 (dR ([rI (r.2 : Nat)]))), (.u 0, .u)] (Wk.keep [(0, 0)] rfl rfl ⟨ks rfl (.c .bx), ks rfl (.dt (vB (by rw [hR] <;> first | rfl | grind))), kb 0 rfl (.dt rfl (by rw [hR] <;> rfl)), trivial⟩) rfl ?_ (hbI_box rfl)
        rfl
       ·try simp only [zs1, zs2, zs3, zs4, zs5, zs6, zs7] at h99
        refine .skip <| kb_n <| ks_n <| .seq ?_
        obtain ⟨x, y, hks⟩ := two_of (l := e.ks) (by omega)
        have hR := scan_op (d := d) (L := L) (by assumption) h51 hc1 hks
        obtain ⟨_, hx2, _, _⟩ := scanV_iff d L (c + 1) x
        refine .region <| .cons (.fP 6 0 false rfl rfl) <| .cons (.l1 1 rfl rfl) <| .cons (.xL 94 7 112 (i := 0) rfl rfl rfl rfl rfl (by rw [hks]; exact rE_at rfl)) ?_
        refine .cons (.lN 7 rfl rfl rfl) <| .cons (.mv rfl rfl) <| .cons (.mv rfl rfl) <| .cons (.pl rfl rfl rfl) <| .cons (.mv rfl rfl) <| .cons (.cO [.tmp 113, .tmp 114, .tmp 116, .tmp 117] [(0, 0)] rfl rfl rfl rfl (ih x (by rw [hks]; simp) (c + 1) (by omega)) rfl ⟨rfl, trivial⟩ (hbI_flat _) (hbI_flat _) (hbI_HB _) outS_one) ?_
        refine .cons (.mv rfl rfl) ?_
        refine AOps.cases 119 _ rfl (fun g119 => ?_) (fun g119 => ?_)
        ·try simp only [zs1, zs2, zs3, zs4, zs5, zs6, zs7] at g119
         have hc2 : (scanV d L (c + 1) x).2 ≤ 12 := by have h1 := hx2 g119; have h2 := ((scanV_iff d L (c + 1) x).1.1 g119).2; omega
         rw [if_pos g119] at hR
         refine .cons (.gT rfl rfl rfl (.fP 6 0 false rfl rfl)) <| .cons (.gT rfl rfl rfl (.l1 1 rfl rfl)) <| .cons (.gT rfl rfl rfl (.xL 94 7 112 (i := 1) rfl rfl rfl rfl rfl (by rw [hks]; exact rE_at rfl))) ?_
         refine .cons (.gT rfl rfl rfl (.lN 7 rfl rfl rfl)) <| .cons (.gT rfl rfl rfl (.mv rfl rfl)) <| .cons (.gT rfl rfl rfl (.mv rfl rfl)) <| .cons (.gT rfl rfl rfl (.pl rfl rfl rfl)) <| .cons (.gT rfl rfl rfl (.mv rfl rfl)) <| .cons (.gT rfl rfl rfl (.cO [.tmp 123, .tmp 124, .tmp 126, .tmp 127] [(0, 0)] rfl rfl rfl rfl (ih y (by rw [hks]; simp) (scanV d L (c + 1) x).2 hc2) rfl ⟨rfl, trivial⟩ (hbI_flat _) (hbI_flat _) (hbI_HB _) outS_one)) ?_
         refine .cons (.pT rfl rfl rfl) <| .cons (.asg rfl rfl) <| .nil <| ks_n <| .ret ?_
         obtain ⟨r, hr⟩ : ∃ r, r = (scanV d (L + 1) c e) := ⟨_, rfl⟩
         rw [← hr]
         rw [← hr] at hR
         refine kf_wret [(.t 3, .v (.o (.c (.box 0 1 0 0)))), (.t 8, .v (.o (bo1 r.1))), (.b 0, .b 3 1 (dR ([rI (r.2 : Nat)]))), (.u 0, .u)] (Wk.keep [(0, 0)] rfl rfl ⟨ks rfl (.c .bx), ks rfl (.dt (vB (by rw [hR] <;> first | rfl | grind))), kb 0 rfl (.dt rfl (by rw [hR] <;> rfl)), trivial⟩) rfl ?_ (hbI_box rfl)
         rfl
        ·try simp only [zs1, zs2, zs3, zs4, zs5, zs6, zs7] at g119
         rw [if_neg (by rw [g119]; simp)] at hR
         refine .cons (.gF rfl rfl rfl) <| .cons (.gF rfl rfl rfl) <| .cons (.gF rfl rfl rfl) <| .cons (.gF rfl rfl rfl) <| .cons (.gF rfl rfl rfl) <| .cons (.gF rfl rfl rfl) <| .cons (.gF rfl rfl rfl) <| .cons (.gF rfl rfl rfl) <| .cons (.gF rfl rfl rfl) <| .cons (.pF rfl rfl rfl) <| .cons (.asg rfl rfl) <| .nil <| ks_n <| .ret ?_
         obtain ⟨r, hr⟩ : ∃ r, r = (scanV d (L + 1) c e) := ⟨_, rfl⟩
         rw [← hr]
         rw [← hr] at hR
         refine kf_wret [(.t 3, .v (.o (.c (.box 0 1 0 0)))), (.t 8, .v (.o (bo1 r.1))), (.b 0, .b 3 1 (dR ([rI (r.2 : Nat)]))), (.u 0, .u)] (Wk.keep [(0, 0)] rfl rfl ⟨ks rfl (.c .bx), ks rfl (.dt (vB (by rw [hR] <;> first | rfl | grind))), kb 0 rfl (.dt rfl (by rw [hR] <;> rfl)), trivial⟩) rfl ?_ (hbI_box rfl)
         rfl

theorem szE_eq (e : Ex) : szE e = e.i.1.length + szC e.r + e.ks.length + szEs e.ks := by cases e; rw [szE]; rfl
theorem exprScan_fn (d : Nat) : ∀ (L : Nat) (deep : Int) (c : Nat) (e : Ex), deep = 6 - (L : Int) → L ≤ 5 → c ≤ 12 → szE e ≤ 1099511627776 →
    Fn Tryz.prog 149 (hbI (c : Nat)) [ad (rX e), nat1 (d : Nat), nat1 deep, .c (.box 0 1 0 0)] (.o (bo1 (scanV d L c e).1)) (hbI ((scanV d L c e).2 : Nat))
  | 0, deep, c, e, hd, hL, hc, hs => scan_zero d hc (by omega) (by rw [szE_eq, szC] at hs; have := szAs_len e.r.2; omega) (by omega)
  | L + 1, deep, c, e, hd, hL, hc, hs => scan_succ d hc (by omega) (by rw [szE_eq, szC] at hs; have := szAs_len e.r.2; omega) (by omega) fun x hx c hc =>
      exprScan_fn d L (deep + 1) c x (by omega) (by omega) hc (by have := szEs_mem hx; rw [szE_eq] at hs; omega)
theorem szS_parts {s : Stm} (hs : szS s ≤ 1099511627776) : s.1.2.length ≤ 1099511627776 ∧ szE s.2 ≤ 1099511627776 := by
  rw [szS, szC] at hs
  have := szAs_len s.1.2
  exact ⟨by omega, by omega⟩
theorem stmtV_no {d : Int} {s : Stm} (h : inB d 0 4 = false) : stmtV d s = false := by rw [stmtV, h]; rfl
theorem stmtV_w {d : Int} {s : Stm} (h : inB d 0 4 = true) : stmtV d s = (accV d.toNat s.1 && (scanV d.toNat 5 0 s.2).1) := by
  rw [stmtV, h, Bool.true_and, Bool.and_assoc]
  congr 1
  rw [Bool.eq_iff_iff, Bool.and_eq_true, decide_eq_true_eq, (scanV_iff d.toNat 5 0 s.2).1, Nat.zero_add]

theorem accOk_fi {d : Int} (h : ((d.toNat : Nat) : Int) = d) (a : Acc) (ha : a.2.length ≤ 1099511627776) : Fn Tryz.prog 148 [] [ad (rC a), nat1 d] (.o (bo1 (accV d.toNat a))) [] := by
  have h2 := accOk_fn d.toNat a ha
  rw [h] at h2; exact h2
theorem exprScan_fi {d : Int} (h : ((d.toNat : Nat) : Int) = d) (e : Ex) (hs : szE e ≤ 1099511627776) : Fn Tryz.prog 149 (hbI 0) [ad (rX e), nat1 d, nat1 1, .c (.box 0 1 0 0)] (.o (bo1 (scanV d.toNat 5 0 e).1)) (hbI ((scanV d.toNat 5 0 e).2 : Nat)) := by
  have h2 := exprScan_fn d.toNat 5 1 0 e (by omega) (by omega) (by omega) hs
  rw [h] at h2; exact h2

theorem implStmtV_fn (d : Int) (s : Stm) (hs : szS s ≤ 1099511627776) : Fn Tryz.prog 99 [] [ad (rS s), nat1 d] (.o (bo1 (stmtV d s))) [] := by
  obtain ⟨hs1, hs2⟩ := szS_parts hs
  refine Fn.code0 Tryz.func99 rfl rfl rfl rfl ?_
  refine .seq <| .region <| .cons (St1.boxP rfl rfl rfl rfl rfl rfl) <| .cons (.asg rfl rfl) <| .nil <| ks_n <| .seq <| .region <| .cons (.al 105 [.int .i64 0] rfl rfl rfl) <| .cons (.sT 1 false rfl rfl rfl rfl rfl rfl rfl) <| .nil <| ks_n <| .seq <| .region <| .cons (.mv rfl rfl) <| .cons (.cP [.tmp 6, .const (.int .i64 (0)), .const (.int .i64 (4))] rfl rfl rfl rfl (within_fn _ 0 4) rfl) ?_
  refine .cons (.mv rfl rfl) ?_
  refine AOps.cases 8 _ rfl (fun g8 => ?_) (fun g8 => ?_)
  · try simp only [zs1, zs2, zs3, zs4, zs5, zs6, zs7] at g8
    have hD : ((d.toNat : Nat) : Int) = d := by simp only [inB, decide_eq_true_eq] at g8; omega
    refine .cons (.gT rfl rfl rfl (.fP 0 1 true rfl rfl)) <| .cons (.gT rfl rfl rfl (.lN 2 rfl rfl rfl)) <| .cons (.gT rfl rfl rfl (.mv rfl rfl)) <| .cons (.gT rfl rfl rfl (.cP [.tmp 10, .tmp 11] rfl rfl rfl rfl (accOk_fi hD s.1 hs1) rfl)) ?_
    refine .cons (.pT rfl rfl rfl) <| .cons (.mv rfl rfl) ?_
    refine AOps.cases 14 _ rfl (fun g14 => ?_) (fun g14 => ?_)
    · try simp only [zs1, zs2, zs3, zs4, zs5, zs6, zs7] at g14
      refine .cons (.gT rfl rfl rfl (.fP 2 6 true rfl rfl)) <| .cons (.gT rfl rfl rfl (.lN 7 rfl rfl rfl)) <| .cons (.gT rfl rfl rfl (.mv rfl rfl)) <| .cons (.gT rfl rfl rfl (.cO [.tmp 16, .tmp 17, .const (.int .i64 (1)), .tmp 5] [(0, 105)] rfl rfl rfl rfl (exprScan_fi hD s.2 hs2) rfl ⟨rfl, trivial⟩ (hbI_flat _) (hbI_flat _) (hbI_HB _) outS_one)) ?_
      refine .cons (.pT rfl rfl rfl) <| .cons (.asg rfl rfl) <| .nil <| ks_n <| .ret ?_
      refine kf_ret rfl ?_ nobox
      first | exact leafB (stmtV_no g8).symm | exact leafB (by rw [stmtV_w g8, g14]; first | rfl | simp)
    · try simp only [zs1, zs2, zs3, zs4, zs5, zs6, zs7] at g14
      refine .cons (.gF rfl rfl rfl) <| .cons (.gF rfl rfl rfl) <| .cons (.gF rfl rfl rfl) <| .cons (.gF rfl rfl rfl) <| .cons (.pF rfl rfl rfl) <| .cons (.asg rfl rfl) <| .nil <| ks_n <| .ret ?_
      refine kf_ret rfl ?_ nobox
      first | exact leafB (stmtV_no g8).symm | exact leafB (by rw [stmtV_w g8, g14]; first | rfl | simp)
  · try simp only [zs1, zs2, zs3, zs4, zs5, zs6, zs7] at g8
    refine .cons (.gF rfl rfl rfl) <| .cons (.gF rfl rfl rfl) <| .cons (.gF rfl rfl rfl) <| .cons (.gF rfl rfl rfl) <| .cons (.pF rfl rfl rfl) <| .cons (.mv rfl rfl) <| .cons (.gF rfl rfl rfl) <| .cons (.gF rfl rfl rfl) <| .cons (.gF rfl rfl rfl) <| .cons (.gF rfl rfl rfl) <| .cons (.pF rfl rfl rfl) <| .cons (.asg rfl rfl) <| .nil <| ks_n <| .ret ?_
    refine kf_ret rfl ?_ nobox
    first | exact leafB (stmtV_no g8).symm | exact leafB (by rw [stmtV_w g8, g14]; first | rfl | simp)


theorem kids_eq (k : Int) (n : Nat) : kidV k n = decide ((if 1 ≤ k ∧ k ≤ 3 then (0 : Int) else if 4 ≤ k ∧ k ≤ 6 then 2 else -1) = (n : Nat)) := by
  rw [kidV]
  split
  · rw [decide_eq_decide]; omega
  · split
    · rw [decide_eq_decide]; omega
    · rw [decide_eq_false]; omega
theorem arr_leaf {s : ByteArray} (h : s.size = 1) : arrV s = (!sLt s ⟨#[65]⟩ && (sLt s ⟨#[68]⟩ || sEq s ⟨#[68]⟩)) := by
  have hsz : s.size = s.data.toList.length := Lib.size_eq s
  obtain ⟨b, hb⟩ : ∃ b, s.data.toList = [b] := List.length_eq_one_iff.1 (by omega)
  obtain rfl : s = ⟨#[b]⟩ := by
    cases s with
    | mk data => exact congrArg ByteArray.mk (Array.toList_inj.1 (by rw [hb]))
  have key : ∀ n : Fin 256, arrV ⟨#[UInt8.ofNat n.val]⟩ = (!sLt ⟨#[UInt8.ofNat n.val]⟩ ⟨#[65]⟩ && (sLt ⟨#[UInt8.ofNat n.val]⟩ ⟨#[68]⟩ || sEq ⟨#[UInt8.ofNat n.val]⟩ ⟨#[68]⟩)) := by decide +kernel
  have := key ⟨b.toNat, b.toNat_lt⟩
  simpa using this

theorem l3Kids_fn (k : Int) : Fn Tryz.prog 222 [] [nat1 k] (.o (nat1 (if 1 ≤ k ∧ k ≤ 3 then 0 else if 4 ≤ k ∧ k ≤ 6 then 2 else -1))) [] := by
 refine Fn.code0 Tryz.func222 rfl rfl rfl rfl ?_
 refine .seq <| .region <| .cons (.asg rfl rfl) <| .nil <| ks_n <| .seq <| .seq <| .region <| .cons (.mv rfl rfl) <| .nil <| ks_n <| .block <| .seq ?_
 refine ACode.cut [(.t 2, .v (.o (nat1 0))), (.t 3, .v (.o (nat1 k))), (.t 4, .v (.o (bo1 (decide (1 ≤ k ∧ k ≤ 3)))))] ?_ ?_
 ·skip
  refine .seq <| .region <| .cons (.eq rfl rfl rfl) <| .cons (.asg rfl rfl) <| .nil <| ks_n ?_
  refine .cD rfl (fun h4 => ?_) (fun h4 => ?_)
  ·skip
   refine .skip ?_
   exact kc_n (Wk.keep [] rfl rfl ⟨ks rfl .dt, ks rfl .dt, ks rfl (.dt (vB (by first | rfl | grind))), trivial⟩)
  ·skip
   refine .seq <| .region <| .cons (.eq rfl rfl rfl) <| .cons (.asg rfl rfl) <| .nil <| ks_n ?_
   refine .cD rfl (fun h4 => ?_) (fun h4 => ?_)
   ·skip
    refine .skip ?_
    exact kc_n (Wk.keep [] rfl rfl ⟨ks rfl .dt, ks rfl .dt, ks rfl (.dt (vB (by first | rfl | grind))), trivial⟩)
   ·skip
    refine .region <| .cons (.eq rfl rfl rfl) <| .cons (.asg rfl rfl) <| .nil ?_
    exact kc_n (Wk.keep [] rfl rfl ⟨ks rfl .dt, ks rfl .dt, ks rfl (.dt (vB (by first | rfl | grind))), trivial⟩)
 refine ks_n ?_
 refine ACode.condT rfl (fun h4 => ?_) (fun h4 => ?_)
 ·try simp only [zs1, zs2, zs3, zs4, zs5, zs6, zs7] at h4
  refine .seq <| .region <| .cons (.asg rfl rfl) <| .nil <| ks_n <| .ret <| kb_r <| ks_r ?_
  refine kf_ret rfl ?_ nobox
  first | exact leafI (by rw [if_pos h4]) | exact leafI (by rw [if_neg h4, if_pos h8]) | exact leafI (by rw [if_neg h4, if_neg h8])
 ·try simp only [zs1, zs2, zs3, zs4, zs5, zs6, zs7] at h4
  refine .seq ?_
  refine ACode.cut [(.t 2, .v (.o (nat1 0))), (.t 3, .v (.o (nat1 k))), (.t 8, .v (.o (bo1 (decide (4 ≤ k ∧ k ≤ 6)))))] ?_ ?_
  ·skip
   refine .seq <| .region <| .cons (.eq rfl rfl rfl) <| .cons (.asg rfl rfl) <| .nil <| ks_n ?_
   refine .cD rfl (fun h8 => ?_) (fun h8 => ?_)
   ·skip
    refine .skip ?_
    exact kc_n (Wk.keep [] rfl rfl ⟨ks rfl .dt, ks rfl .dt, ks rfl (.dt (vB (by first | rfl | grind))), trivial⟩)
   ·skip
    refine .seq <| .region <| .cons (.eq rfl rfl rfl) <| .cons (.asg rfl rfl) <| .nil <| ks_n ?_
    refine .cD rfl (fun h8 => ?_) (fun h8 => ?_)
    ·skip
     refine .skip ?_
     exact kc_n (Wk.keep [] rfl rfl ⟨ks rfl .dt, ks rfl .dt, ks rfl (.dt (vB (by first | rfl | grind))), trivial⟩)
    ·skip
     refine .region <| .cons (.eq rfl rfl rfl) <| .cons (.asg rfl rfl) <| .nil ?_
     exact kc_n (Wk.keep [] rfl rfl ⟨ks rfl .dt, ks rfl .dt, ks rfl (.dt (vB (by first | rfl | grind))), trivial⟩)
  refine ks_n ?_
  refine ACode.condT rfl (fun h8 => ?_) (fun h8 => ?_)
  ·try simp only [zs1, zs2, zs3, zs4, zs5, zs6, zs7] at h8
   refine .seq <| .region <| .cons (.asg rfl rfl) <| .nil <| ks_n <| .ret <| kb_r <| ks_r ?_
   refine kf_ret rfl ?_ nobox
   first | exact leafI (by rw [if_pos h4]) | exact leafI (by rw [if_neg h4, if_pos h8]) | exact leafI (by rw [if_neg h4, if_neg h8])
  ·try simp only [zs1, zs2, zs3, zs4, zs5, zs6, zs7] at h8
   refine .skip <| kb_n <| ks_n <| .seq <| .region <| .cons (.asg rfl rfl) <| .nil <| ks_n <| .ret ?_
   refine kf_ret rfl ?_ nobox
   first | exact leafI (by rw [if_pos h4]) | exact leafI (by rw [if_neg h4, if_pos h8]) | exact leafI (by rw [if_neg h4, if_neg h8])

theorem l3Access_fn (d : Nat) (a : Acc) (ha : a.2.length ≤ 1099511627776) : Fn Tryz.prog 177 [] [ad (rC a), nat1 (d : Nat)] (.o (bo1 (accV d a))) [] := by
 refine Fn.code0 Tryz.func177 rfl rfl rfl rfl ?_
 refine .seq <| .region <| .cons (St1.boxP rfl rfl rfl rfl rfl rfl) <| .cons (.asg rfl rfl) <| .nil <| ks_n <| .seq <| .seq <| .region <| .cons (.asg rfl rfl) <| .nil <| ks_n <| .block ?_
 refine .loopK (fun m σ => (∃ i : Nat, m = a.2.length - i ∧ (i ≤ a.2.length) ∧ (a.2.all (bndV d) = (a.2.drop i).all (bndV d)) ∧ σ = [(.t 1, .v (.o (nat1 (d : Nat)))), (.t 2, .v (.o (.c (.ptr (rC a))))), (.t 4, .v (.o (bo1 false))), (.t 5, .v (.o (nat1 (i : Nat))))])) [] ⟨0, rfl, by omega, by simp, rfl⟩ ⟨ks rfl .dt, ks rfl .dt, ks rfl .dt, ks rfl .dt, trivial⟩ ?_
 rintro m σ ⟨i, hm0, hi, hF, rfl⟩
 refine .seq <| .seq <| .region <| .cons (.mv rfl rfl) <| .cons (.fP 1 0 false rfl rfl) <| .cons (.l1 1 rfl rfl) <| .cons (.ln 91 2 32 rfl rfl rfl) <| .cons (.ls rfl rfl rfl) <| .nil <| ks_n ?_
 refine .cD rfl (fun h10 => ?_) (fun h10 => ?_)
 ·skip
  obtain ⟨x, hx1⟩ : ∃ x, a.2[i]? = some x := ⟨_, List.getElem?_eq_getElem (by omega)⟩
  refine .skip <| ks_n <| .seq <| .block <| .seq <| .region <| .cons (.fP 1 0 false rfl rfl) <| .cons (.l1 1 rfl rfl) <| .cons (.mv rfl rfl) <| .cons (.xL 91 2 32 rfl rfl rfl rfl rfl) ?_
  refine .cons (.lN 2 rfl rfl rfl) <| .cons (.cP [.tmp 17] rfl rfl rfl rfl (specAffV_fn x) rfl) ?_
  refine .cons (.nt rfl rfl) <| .cons (.mv rfl rfl) ?_
  refine AOps.cases 20 _ rfl (fun g20 => ?_) (fun g20 => ?_)
  ·try simp only [zs1, zs2, zs3, zs4, zs5, zs6, zs7] at g20
   refine .cons (.gF rfl rfl rfl) <| .cons (.gF rfl rfl rfl) <| .cons (.gF rfl rfl rfl) <| .cons (.gF rfl rfl rfl) <| .cons (.gF rfl rfl rfl) <| .cons (.gF rfl rfl rfl) <| .cons (.gF rfl rfl rfl) <| .cons (.gF rfl rfl rfl) <| .cons (.pT rfl rfl rfl) <| .nil <| ks_n ?_
   refine ACode.condT rfl (fun _ => ?_) (fun h => by first | (cases h; done) | (simp [*] at h; done) | (exfalso; simp_all; done))
   refine .seq ?_
   have g : bndV d x = false := bnd_no (by first | exact .inl (by assumption) | exact .inr (by omega))
   refine .region <| .cons (.asg rfl rfl) <| .nil <| ks_n <| .ret <| kb_r <| ks_r <| kl_r <| kb_r <| ks_r ?_
   refine kf_ret rfl ?_ nobox
   exact leafB (by rw [accV, sideV, hF, all_drop hx1, g, Bool.false_and, Bool.false_and, Bool.false_and, Bool.and_false])
  ·try simp only [zs1, zs2, zs3, zs4, zs5, zs6, zs7] at g20
   have g20 := g20
   refine .cons (.gT rfl rfl rfl (.fP 1 0 false rfl rfl)) <| .cons (.gT rfl rfl rfl (.l1 1 rfl rfl)) <| .cons (.gT rfl rfl rfl (.mv rfl rfl)) <| .cons (.gT rfl rfl rfl (.xL 91 2 32 rfl rfl rfl rfl rfl)) ?_
   refine .cons (.gT rfl rfl rfl (.lN 2 rfl rfl rfl)) <| .cons (.gT rfl rfl rfl (.cP [.tmp 25] rfl rfl rfl rfl (l1Depth_fn x) rfl)) ?_
   refine .cons (.gT rfl rfl rfl (.mv rfl rfl)) <| .cons (.gT rfl rfl rfl (.gt rfl rfl rfl)) <| .cons (.pF rfl rfl rfl) <| .nil <| ks_n ?_
   refine ACode.condT rfl (fun h29 => ?_) (fun h29 => ?_)
   ·try simp only [zs1, zs2, zs3, zs4, zs5, zs6, zs7] at h29
    refine .seq ?_
    have g : bndV d x = false := bnd_no (by first | exact .inl (by assumption) | exact .inr (by omega))
    refine .region <| .cons (.asg rfl rfl) <| .nil <| ks_n <| .ret <| kb_r <| ks_r <| kl_r <| kb_r <| ks_r ?_
    refine kf_ret rfl ?_ nobox
    exact leafB (by rw [accV, sideV, hF, all_drop hx1, g, Bool.false_and, Bool.false_and, Bool.false_and, Bool.and_false])
   ·try simp only [zs1, zs2, zs3, zs4, zs5, zs6, zs7] at h29
    replace h29 : ¬ d < affDepth x := by omega
    refine .skip <| kb_n <| ks_n <| .region <| .cons (.mv rfl rfl) <| .cons (.pl rfl rfl rfl) <| .cons (.asg rfl rfl) <| .nil ?_
    refine kl_k [] ⟨i + 1, rfl, by omega, by rw [hF, all_drop hx1, bnd_yes g20 h29, Bool.true_and], rfl⟩ ⟨ks rfl .dt, ks rfl .dt, ks rfl .dt, ks rfl .dt, trivial⟩
 ·skip
  have hA : a.2.all (bndV d) = true := by rw [hF, List.drop_of_length_le (by omega)]; rfl
  refine .exit <| ks_e <| kl_e <| kb_hit <| ks_n <| .seq <| .region <| .cons (.fP 0 0 false rfl rfl) <| .cons (.l1 1 rfl rfl) <| .cons (St1.lenS rfl rfl rfl rfl rfl (by kernel_rfl) rfl) ?_
  refine .cons (.eq rfl rfl rfl) <| .cons (.mv rfl rfl) ?_
  refine .cD 34 rfl (fun g34 => ?_) (fun g34 => ?_)
  ·skip
   have h1s : a.1.size = 1 := by omega
   have hAr := arr_leaf h1s
   refine .cons (.gT rfl rfl rfl (.fP 0 0 false rfl rfl)) <| .cons (.gT rfl rfl rfl (.l1 1 rfl rfl)) <| .cons (.gT rfl rfl rfl (St1.geS rfl rfl rfl)) <| .cons (.pT rfl rfl rfl) <| .cons (.mv rfl rfl) ?_
   refine AOps.cases 39 _ rfl (fun g39 => ?_) (fun g39 => ?_)
   ·try simp only [zs1, zs2, zs3, zs4, zs5, zs6, zs7] at g39
    refine .cons (.gT rfl rfl rfl (.fP 0 0 false rfl rfl)) <| .cons (.gT rfl rfl rfl (.l1 1 rfl rfl)) <| .cons (.gT rfl rfl rfl (St1.leS rfl rfl rfl)) <| .cons (.pT rfl rfl rfl) <| .cons (.mv rfl rfl) ?_
    refine AOps.cases 44 _ rfl (fun g44 => ?_) (fun g44 => ?_)
    ·try simp only [zs1, zs2, zs3, zs4, zs5, zs6, zs7] at g44
     refine .cons (.gT rfl rfl rfl (.fP 1 0 false rfl rfl)) <| .cons (.gT rfl rfl rfl (.l1 1 rfl rfl)) <| .cons (.gT rfl rfl rfl (.ln 91 2 32 rfl rfl rfl)) <| .cons (.gT rfl rfl rfl (.ge rfl rfl rfl)) <| .cons (.pT rfl rfl rfl) <| .cons (.mv rfl rfl) ?_
     refine AOps.cases 50 _ rfl (fun g50 => ?_) (fun g50 => ?_)
     ·try simp only [zs1, zs2, zs3, zs4, zs5, zs6, zs7] at g50
      refine .cons (.gT rfl rfl rfl (.fP 1 0 false rfl rfl)) <| .cons (.gT rfl rfl rfl (.l1 1 rfl rfl)) <| .cons (.gT rfl rfl rfl (.ln 91 2 32 rfl rfl rfl)) <| .cons (.gT rfl rfl rfl (.le rfl rfl rfl)) <| .cons (.pT rfl rfl rfl) <| .cons (.asg rfl rfl) <| .nil <| ks_n <| .ret ?_
      refine kf_ret rfl ?_ nobox
      exact leafB (by rw [accV, hAr, sideV, hA]; first | rfl | grind)
     ·try simp only [zs1, zs2, zs3, zs4, zs5, zs6, zs7] at g50
      refine .cons (.gF rfl rfl rfl) <| .cons (.gF rfl rfl rfl) <| .cons (.gF rfl rfl rfl) <| .cons (.gF rfl rfl rfl) <| .cons (.pF rfl rfl rfl) <| .cons (.asg rfl rfl) <| .nil <| ks_n <| .ret ?_
      refine kf_ret rfl ?_ nobox
      exact leafB (by rw [accV, hAr, sideV, hA]; first | rfl | grind)
    ·try simp only [zs1, zs2, zs3, zs4, zs5, zs6, zs7] at g44
     refine .cons (.gF rfl rfl rfl) <| .cons (.gF rfl rfl rfl) <| .cons (.gF rfl rfl rfl) <| .cons (.gF rfl rfl rfl) <| .cons (.pF rfl rfl rfl) <| .cons (.mv rfl rfl) <| .cons (.gF rfl rfl rfl) <| .cons (.gF rfl rfl rfl) <| .cons (.gF rfl rfl rfl) <| .cons (.gF rfl rfl rfl) <| .cons (.pF rfl rfl rfl) <| .cons (.asg rfl rfl) <| .nil <| ks_n <| .ret ?_
     refine kf_ret rfl ?_ nobox
     exact leafB (by rw [accV, hAr, sideV, hA]; first | rfl | grind)
   ·try simp only [zs1, zs2, zs3, zs4, zs5, zs6, zs7] at g39
    refine .cons (.gF rfl rfl rfl) <| .cons (.gF rfl rfl rfl) <| .cons (.gF rfl rfl rfl) <| .cons (.pF rfl rfl rfl) <| .cons (.mv rfl rfl) <| .cons (.gF rfl rfl rfl) <| .cons (.gF rfl rfl rfl) <| .cons (.gF rfl rfl rfl) <| .cons (.gF rfl rfl rfl) <| .cons (.pF rfl rfl rfl) <| .cons (.mv rfl rfl) <| .cons (.gF rfl rfl rfl) <| .cons (.gF rfl rfl rfl) <| .cons (.gF rfl rfl rfl) <| .cons (.gF rfl rfl rfl) <| .cons (.pF rfl rfl rfl) <| .cons (.asg rfl rfl) <| .nil <| ks_n <| .ret ?_
    refine kf_ret rfl ?_ nobox
    exact leafB (by rw [accV, hAr, sideV, hA]; first | rfl | grind)
  ·skip
   have hAr := arrV_size (s := a.1) (by omega)
   refine .cons (.gF rfl rfl rfl) <| .cons (.gF rfl rfl rfl) <| .cons (.gF rfl rfl rfl) <| .cons (.pF rfl rfl rfl) <| .cons (.mv rfl rfl) <| .cons (.gF rfl rfl rfl) <| .cons (.gF rfl rfl rfl) <| .cons (.gF rfl rfl rfl) <| .cons (.pF rfl rfl rfl) <| .cons (.mv rfl rfl) <| .cons (.gF rfl rfl rfl) <| .cons (.gF rfl rfl rfl) <| .cons (.gF rfl rfl rfl) <| .cons (.gF rfl rfl rfl) <| .cons (.pF rfl rfl rfl) <| .cons (.mv rfl rfl) <| .cons (.gF rfl rfl rfl) <| .cons (.gF rfl rfl rfl) <| .cons (.gF rfl rfl rfl) <| .cons (.gF rfl rfl rfl) <| .cons (.pF rfl rfl rfl) <| .cons (.asg rfl rfl) <| .nil <| ks_n <| .ret ?_
   refine kf_ret rfl ?_ nobox
   exact leafB (by rw [accV, hAr, sideV, hA]; first | rfl | grind)

theorem l3Own_fn (d : Nat) (e : Ex) (hr : e.r.2.length ≤ 1099511627776) : Fn Tryz.prog 223 [] [ad (rX e), nat1 (d : Nat)] (.o (bo1 (fldV d e.k e.n e.i e.r))) [] := by
  refine Fn.code0 Tryz.func223 rfl rfl rfl rfl ?_
  refine .seq <| .region <| .cons (St1.boxP rfl rfl rfl rfl rfl rfl) <| .cons (.asg rfl rfl) <| .nil <| ks_n <| .seq <| .seq <| .region <| .cons (.fP 0 0 false rfl rfl) <| .cons (.l1 1 rfl rfl) <| .cons (.eq rfl rfl rfl) <| .nil <| ks_n ?_
  refine .cD rfl (fun h7 => ?_) (fun h7 => ?_)
  · skip
    refine .seq <| .region <| .cons (.fP 1 0 false rfl rfl) <| .cons (.l1 1 rfl rfl) <| .cons (.eq rfl rfl rfl) <| .cons (.mv rfl rfl) ?_
    refine .cD 11 rfl (fun g11 => ?_) (fun g11 => ?_)
    · skip
      refine .cons (.gT rfl rfl rfl (.fP 4 1 true rfl rfl)) <| .cons (.gT rfl rfl rfl (.lN 2 rfl rfl rfl)) <| .cons (.gT rfl rfl rfl (.cP [.tmp 13] rfl rfl rfl rfl (l3Empty_fn _) rfl)) ?_
      refine .cons (.pT rfl rfl rfl) <| .cons (.mv rfl rfl) ?_
      refine AOps.cases 16 _ rfl (fun g16 => ?_) (fun g16 => ?_)
      · try simp only [zs1, zs2, zs3, zs4, zs5, zs6, zs7] at g16
        refine .cons (.gT rfl rfl rfl (.fP 2 1 true rfl rfl)) <| .cons (.gT rfl rfl rfl (.lN 2 rfl rfl rfl)) <| .cons (.gT rfl rfl rfl (.cP [.tmp 18] rfl rfl rfl rfl (specAffV_fn _) rfl)) ?_
        refine .cons (.pT rfl rfl rfl) <| .cons (.mv rfl rfl) ?_
        refine AOps.cases 21 _ rfl (fun g21 => ?_) (fun g21 => ?_)
        · try simp only [zs1, zs2, zs3, zs4, zs5, zs6, zs7] at g21
          refine .cons (.gT rfl rfl rfl (.fP 2 1 true rfl rfl)) <| .cons (.gT rfl rfl rfl (.lN 2 rfl rfl rfl)) <| .cons (.gT rfl rfl rfl (.cP [.tmp 23] rfl rfl rfl rfl (l1Depth_fn _) rfl)) ?_
          refine .cons (.gT rfl rfl rfl (.mv rfl rfl)) <| .cons (.gT rfl rfl rfl (.le rfl rfl rfl)) <| .cons (.pT rfl rfl rfl) <| .cons (.asg rfl rfl) <| .nil <| ks_n <| .ret <| ks_r ?_
          refine kf_ret rfl ?_ nobox
          exact leafB (by rw [fldV, if_neg (show ¬ e.k = 1 by omega), if_pos h7]; cases hA : affV e.i <;> cases hC : nonC e.r <;> first | rfl | grind)
        · try simp only [zs1, zs2, zs3, zs4, zs5, zs6, zs7] at g21
          refine .cons (.gF rfl rfl rfl) <| .cons (.gF rfl rfl rfl) <| .cons (.gF rfl rfl rfl) <| .cons (.gF rfl rfl rfl) <| .cons (.gF rfl rfl rfl) <| .cons (.pF rfl rfl rfl) <| .cons (.asg rfl rfl) <| .nil <| ks_n <| .ret <| ks_r ?_
          refine kf_ret rfl ?_ nobox
          exact leafB (by rw [fldV, if_neg (show ¬ e.k = 1 by omega), if_pos h7]; cases hA : affV e.i <;> cases hC : nonC e.r <;> first | rfl | grind)
      · try simp only [zs1, zs2, zs3, zs4, zs5, zs6, zs7] at g16
        refine .cons (.gF rfl rfl rfl) <| .cons (.gF rfl rfl rfl) <| .cons (.gF rfl rfl rfl) <| .cons (.pF rfl rfl rfl) <| .cons (.mv rfl rfl) <| .cons (.gF rfl rfl rfl) <| .cons (.gF rfl rfl rfl) <| .cons (.gF rfl rfl rfl) <| .cons (.gF rfl rfl rfl) <| .cons (.gF rfl rfl rfl) <| .cons (.pF rfl rfl rfl) <| .cons (.asg rfl rfl) <| .nil <| ks_n <| .ret <| ks_r ?_
        refine kf_ret rfl ?_ nobox
        exact leafB (by rw [fldV, if_neg (show ¬ e.k = 1 by omega), if_pos h7]; cases hA : affV e.i <;> cases hC : nonC e.r <;> first | rfl | grind)
    · skip
      refine .cons (.gF rfl rfl rfl) <| .cons (.gF rfl rfl rfl) <| .cons (.gF rfl rfl rfl) <| .cons (.pF rfl rfl rfl) <| .cons (.mv rfl rfl) <| .cons (.gF rfl rfl rfl) <| .cons (.gF rfl rfl rfl) <| .cons (.gF rfl rfl rfl) <| .cons (.pF rfl rfl rfl) <| .cons (.mv rfl rfl) <| .cons (.gF rfl rfl rfl) <| .cons (.gF rfl rfl rfl) <| .cons (.gF rfl rfl rfl) <| .cons (.gF rfl rfl rfl) <| .cons (.gF rfl rfl rfl) <| .cons (.pF rfl rfl rfl) <| .cons (.asg rfl rfl) <| .nil <| ks_n <| .ret <| ks_r ?_
      refine kf_ret rfl ?_ nobox
      exact leafB (by rw [fldV, if_neg (show ¬ e.k = 1 by omega), if_pos h7]; cases hA : affV e.i <;> cases hC : nonC e.r <;> first | rfl | grind)
  · skip
    refine .skip <| ks_n <| .seq <| .seq <| .region <| .cons (.fP 0 0 false rfl rfl) <| .cons (.l1 1 rfl rfl) <| .cons (.eq rfl rfl rfl) <| .nil <| ks_n ?_
    refine .cD rfl (fun h30 => ?_) (fun h30 => ?_)
    · skip
      refine .seq <| .region <| .cons (.fP 1 0 false rfl rfl) <| .cons (.l1 1 rfl rfl) <| .cons (.eq rfl rfl rfl) <| .cons (.mv rfl rfl) ?_
      refine .cD 34 rfl (fun g34 => ?_) (fun g34 => ?_)
      · skip
        refine .cons (.gT rfl rfl rfl (.fP 2 1 true rfl rfl)) <| .cons (.gT rfl rfl rfl (.lN 2 rfl rfl rfl)) <| .cons (.gT rfl rfl rfl (.cP [.tmp 36] rfl rfl rfl rfl (l3None_fn _) rfl)) ?_
        refine .cons (.pT rfl rfl rfl) <| .cons (.mv rfl rfl) ?_
        refine AOps.cases 39 _ rfl (fun g39 => ?_) (fun g39 => ?_)
        · try simp only [zs1, zs2, zs3, zs4, zs5, zs6, zs7] at g39
          refine .cons (.gT rfl rfl rfl (.fP 4 1 true rfl rfl)) <| .cons (.gT rfl rfl rfl (.lN 2 rfl rfl rfl)) <| .cons (.gT rfl rfl rfl (.mv rfl rfl)) <| .cons (.gT rfl rfl rfl (.cP [.tmp 41, .tmp 42] rfl rfl rfl rfl (l3Access_fn d _ hr) rfl)) ?_
          refine .cons (.pT rfl rfl rfl) <| .cons (.asg rfl rfl) <| .nil <| ks_n <| .ret <| ks_r ?_
          refine kf_ret rfl ?_ nobox
          exact leafB (by rw [fldV, if_neg (show ¬ e.k = 1 by omega), if_neg h7, if_pos h30]; cases hA : nonA e.i <;> cases hC : accV d e.r <;> first | rfl | grind)
        · try simp only [zs1, zs2, zs3, zs4, zs5, zs6, zs7] at g39
          refine .cons (.gF rfl rfl rfl) <| .cons (.gF rfl rfl rfl) <| .cons (.gF rfl rfl rfl) <| .cons (.gF rfl rfl rfl) <| .cons (.pF rfl rfl rfl) <| .cons (.asg rfl rfl) <| .nil <| ks_n <| .ret <| ks_r ?_
          refine kf_ret rfl ?_ nobox
          exact leafB (by rw [fldV, if_neg (show ¬ e.k = 1 by omega), if_neg h7, if_pos h30]; cases hA : nonA e.i <;> cases hC : accV d e.r <;> first | rfl | grind)
      · skip
        refine .cons (.gF rfl rfl rfl) <| .cons (.gF rfl rfl rfl) <| .cons (.gF rfl rfl rfl) <| .cons (.pF rfl rfl rfl) <| .cons (.mv rfl rfl) <| .cons (.gF rfl rfl rfl) <| .cons (.gF rfl rfl rfl) <| .cons (.gF rfl rfl rfl) <| .cons (.gF rfl rfl rfl) <| .cons (.pF rfl rfl rfl) <| .cons (.asg rfl rfl) <| .nil <| ks_n <| .ret <| ks_r ?_
        refine kf_ret rfl ?_ nobox
        exact leafB (by rw [fldV, if_neg (show ¬ e.k = 1 by omega), if_neg h7, if_pos h30]; cases hA : nonA e.i <;> cases hC : accV d e.r <;> first | rfl | grind)
    · skip
      refine .skip <| ks_n <| .seq <| .seq <| .region <| .cons (.fP 0 0 false rfl rfl) <| .cons (.l1 1 rfl rfl) <| .cons (.eq rfl rfl rfl) <| .nil <| ks_n ?_
      refine .cD rfl (fun h47 => ?_) (fun h47 => ?_)
      · skip
        refine .seq <| .region <| .cons (.fP 1 0 false rfl rfl) <| .cons (.l1 1 rfl rfl) <| .cons (.ge rfl rfl rfl) <| .cons (.mv rfl rfl) ?_
        refine .cD 51 rfl (fun g51 => ?_) (fun g51 => ?_)
        · skip
          refine .cons (.gT rfl rfl rfl (.fP 1 0 false rfl rfl)) <| .cons (.gT rfl rfl rfl (.l1 1 rfl rfl)) <| .cons (.gT rfl rfl rfl (.le rfl rfl rfl)) <| .cons (.pT rfl rfl rfl) <| .cons (.mv rfl rfl) ?_
          refine AOps.cases 56 _ rfl (fun g56 => ?_) (fun g56 => ?_)
          · try simp only [zs1, zs2, zs3, zs4, zs5, zs6, zs7] at g56
            refine .cons (.gT rfl rfl rfl (.fP 2 1 true rfl rfl)) <| .cons (.gT rfl rfl rfl (.lN 2 rfl rfl rfl)) <| .cons (.gT rfl rfl rfl (.cP [.tmp 58] rfl rfl rfl rfl (l3None_fn _) rfl)) ?_
            refine .cons (.pT rfl rfl rfl) <| .cons (.mv rfl rfl) ?_
            refine AOps.cases 61 _ rfl (fun g61 => ?_) (fun g61 => ?_)
            · try simp only [zs1, zs2, zs3, zs4, zs5, zs6, zs7] at g61
              refine .cons (.gT rfl rfl rfl (.fP 4 1 true rfl rfl)) <| .cons (.gT rfl rfl rfl (.lN 2 rfl rfl rfl)) <| .cons (.gT rfl rfl rfl (.cP [.tmp 63] rfl rfl rfl rfl (l3Empty_fn _) rfl)) ?_
              refine .cons (.pT rfl rfl rfl) <| .cons (.asg rfl rfl) <| .nil <| ks_n <| .ret <| ks_r ?_
              refine kf_ret rfl ?_ nobox
              exact leafB (by rw [fldV, if_pos h47, inB]; cases hA : nonA e.i <;> cases hC : nonC e.r <;> first | rfl | grind)
            · try simp only [zs1, zs2, zs3, zs4, zs5, zs6, zs7] at g61
              refine .cons (.gF rfl rfl rfl) <| .cons (.gF rfl rfl rfl) <| .cons (.gF rfl rfl rfl) <| .cons (.pF rfl rfl rfl) <| .cons (.asg rfl rfl) <| .nil <| ks_n <| .ret <| ks_r ?_
              refine kf_ret rfl ?_ nobox
              exact leafB (by rw [fldV, if_pos h47, inB]; cases hA : nonA e.i <;> cases hC : nonC e.r <;> first | rfl | grind)
          · try simp only [zs1, zs2, zs3, zs4, zs5, zs6, zs7] at g56
            refine .cons (.gF rfl rfl rfl) <| .cons (.gF rfl rfl rfl) <| .cons (.gF rfl rfl rfl) <| .cons (.pF rfl rfl rfl) <| .cons (.mv rfl rfl) <| .cons (.gF rfl rfl rfl) <| .cons (.gF rfl rfl rfl) <| .cons (.gF rfl rfl rfl) <| .cons (.pF rfl rfl rfl) <| .cons (.asg rfl rfl) <| .nil <| ks_n <| .ret <| ks_r ?_
            refine kf_ret rfl ?_ nobox
            exact leafB (by rw [fldV, if_pos h47, inB]; cases hA : nonA e.i <;> cases hC : nonC e.r <;> first | rfl | grind)
        · skip
          refine .cons (.gF rfl rfl rfl) <| .cons (.gF rfl rfl rfl) <| .cons (.gF rfl rfl rfl) <| .cons (.pF rfl rfl rfl) <| .cons (.mv rfl rfl) <| .cons (.gF rfl rfl rfl) <| .cons (.gF rfl rfl rfl) <| .cons (.gF rfl rfl rfl) <| .cons (.pF rfl rfl rfl) <| .cons (.mv rfl rfl) <| .cons (.gF rfl rfl rfl) <| .cons (.gF rfl rfl rfl) <| .cons (.gF rfl rfl rfl) <| .cons (.pF rfl rfl rfl) <| .cons (.asg rfl rfl) <| .nil <| ks_n <| .ret <| ks_r ?_
          refine kf_ret rfl ?_ nobox
          exact leafB (by rw [fldV, if_pos h47, inB]; cases hA : nonA e.i <;> cases hC : nonC e.r <;> first | rfl | grind)
      · skip
        refine .skip <| ks_n <| .seq <| .region <| .cons (.fP 1 0 false rfl rfl) <| .cons (.l1 1 rfl rfl) <| .cons (.eq rfl rfl rfl) <| .cons (.mv rfl rfl) ?_
        refine .cD 69 rfl (fun g69 => ?_) (fun g69 => ?_)
        · skip
          refine .cons (.gT rfl rfl rfl (.fP 2 1 true rfl rfl)) <| .cons (.gT rfl rfl rfl (.lN 2 rfl rfl rfl)) <| .cons (.gT rfl rfl rfl (.cP [.tmp 71] rfl rfl rfl rfl (l3None_fn _) rfl)) ?_
          refine .cons (.pT rfl rfl rfl) <| .cons (.mv rfl rfl) ?_
          refine AOps.cases 74 _ rfl (fun g74 => ?_) (fun g74 => ?_)
          · try simp only [zs1, zs2, zs3, zs4, zs5, zs6, zs7] at g74
            refine .cons (.gT rfl rfl rfl (.fP 4 1 true rfl rfl)) <| .cons (.gT rfl rfl rfl (.lN 2 rfl rfl rfl)) <| .cons (.gT rfl rfl rfl (.cP [.tmp 76] rfl rfl rfl rfl (l3Empty_fn _) rfl)) ?_
            refine .cons (.pT rfl rfl rfl) <| .cons (.asg rfl rfl) <| .nil <| ks_n <| .ret ?_
            refine kf_ret rfl ?_ nobox
            exact leafB (by rw [fldV, if_neg h47, if_neg h7, if_neg h30]; cases hA : nonA e.i <;> cases hC : nonC e.r <;> first | rfl | grind)
          · try simp only [zs1, zs2, zs3, zs4, zs5, zs6, zs7] at g74
            refine .cons (.gF rfl rfl rfl) <| .cons (.gF rfl rfl rfl) <| .cons (.gF rfl rfl rfl) <| .cons (.pF rfl rfl rfl) <| .cons (.asg rfl rfl) <| .nil <| ks_n <| .ret ?_
            refine kf_ret rfl ?_ nobox
            exact leafB (by rw [fldV, if_neg h47, if_neg h7, if_neg h30]; cases hA : nonA e.i <;> cases hC : nonC e.r <;> first | rfl | grind)
        · skip
          refine .cons (.gF rfl rfl rfl) <| .cons (.gF rfl rfl rfl) <| .cons (.gF rfl rfl rfl) <| .cons (.pF rfl rfl rfl) <| .cons (.mv rfl rfl) <| .cons (.gF rfl rfl rfl) <| .cons (.gF rfl rfl rfl) <| .cons (.gF rfl rfl rfl) <| .cons (.pF rfl rfl rfl) <| .cons (.asg rfl rfl) <| .nil <| ks_n <| .ret ?_
          refine kf_ret rfl ?_ nobox
          exact leafB (by rw [fldV, if_neg h47, if_neg h7, if_neg h30]; cases hA : nonA e.i <;> cases hC : nonC e.r <;> first | rfl | grind)

theorem shape_zero (d : Nat) (lv : Int) (hl : lv < 1) (e : Ex) (hr : e.r.2.length ≤ 1099511627776) (hkl : e.ks.length ≤ 1099511627776) : Fn Tryz.prog 178 [] [ad (rX e), nat1 (d : Nat), nat1 lv] (.o (bo1 false)) [] := by
 refine Fn.code0 Tryz.func178 rfl rfl rfl rfl ?_
 refine .seq <| .region <| .cons (St1.boxP rfl rfl rfl rfl rfl rfl) <| .cons (.asg rfl rfl) <| .nil <| ks_n <| .seq <| .seq ?_
 refine ACode.drawK (by kernel_rfl) (by kernel_rfl) ?_
 refine .cons (.mv rfl rfl) <| .cons (.ls rfl rfl rfl) <| .cons (.mv rfl rfl) ?_
 refine .cD 10 rfl (fun g10 => ?_) (fun g10 => ?_)
 ·skip
  refine .cons (.gF rfl rfl rfl) <| .cons (.gF rfl rfl rfl) <| .cons (.gF rfl rfl rfl) <| .cons (.gF rfl rfl rfl) <| .cons (.gF rfl rfl rfl) <| .cons (.gF rfl rfl rfl) <| .cons (.gF rfl rfl rfl) <| .cons (.pT rfl rfl rfl) <| .cons (.mv rfl rfl) <| .cons (.gF rfl rfl rfl) <| .cons (.gF rfl rfl rfl) <| .cons (.gF rfl rfl rfl) <| .cons (.gF rfl rfl rfl) <| .cons (.pT rfl rfl rfl) ?_
  refine .nil ⟨by kernel_rfl, ?_⟩
  refine ks_n ?_
  refine ACode.condT rfl (fun _ => ?_) (fun h => by first | (cases h; done) | (simp [*] at h; done) | (exfalso; simp_all; done))
  refine .seq <| .region <| .cons (.asg rfl rfl) <| .nil <| ks_n <| .ret <| ks_r ?_
  refine kf_ret rfl ?_ nobox
  rfl
 ·skip
  exact absurd hl g10

theorem shape_succ (d L : Nat) (lv : Int) (hl : ¬ lv < 1) (hl2 : lv ≤ 100) (e : Ex) (hr : e.r.2.length ≤ 1099511627776) (hkl : e.ks.length ≤ 1099511627776) (ih : ∀ x ∈ e.ks, Fn Tryz.prog 178 [] [ad (rX x), nat1 (d : Nat), nat1 (lv - 1)] (.o (bo1 (exV d L x))) []) : Fn Tryz.prog 178 [] [ad (rX e), nat1 (d : Nat), nat1 lv] (.o (bo1 (exV d (L + 1) e))) [] := by
 refine Fn.code0 Tryz.func178 rfl rfl rfl rfl ?_
 refine .seq <| .region <| .cons (St1.boxP rfl rfl rfl rfl rfl rfl) <| .cons (.asg rfl rfl) <| .nil <| ks_n <| .seq <| .seq ?_
 refine ACode.cut [(.t 1, .v (.o (nat1 (d : Nat)))), (.t 2, .v (.o (nat1 lv))), (.t 3, .v (.o (.c (.ptr (rX e))))), (.t 6, .v (.o (bo1 false))), (.t 24, .v (.o (bo1 (!(kidV e.k e.ks.length && fldV d e.k e.n e.i e.r)))))] ?_ ?_
 ·skip
  refine ACode.drawK (by kernel_rfl) (by kernel_rfl) ?_
  refine .cons (.mv rfl rfl) <| .cons (.ls rfl rfl rfl) <| .cons (.mv rfl rfl) ?_
  refine .cD 10 rfl (fun g10 => ?_) (fun g10 => ?_)
  ·skip
   exact absurd g10 hl
  ·skip
   refine .cons (.gT rfl rfl rfl (.fP 0 0 false rfl rfl)) <| .cons (.gT rfl rfl rfl (.l1 1 rfl rfl)) <| .cons (.gT rfl rfl rfl (.cP [.tmp 12] rfl rfl rfl rfl (l3Kids_fn _) rfl)) ?_
   refine .cons (.gT rfl rfl rfl (.fP 6 0 false rfl rfl)) <| .cons (.gT rfl rfl rfl (.l1 1 rfl rfl)) <| .cons (.gT rfl rfl rfl (.ln 94 7 112 rfl rfl rfl)) <| .cons (.gT rfl rfl rfl (.ne rfl rfl rfl)) <| .cons (.pF rfl rfl rfl) <| .cons (.mv rfl rfl) ?_
   refine RunK.cases 19 _ rfl (fun g19 => ?_) (fun g19 => ?_)
   ·try simp only [zs1, zs2, zs3, zs4, zs5, zs6, zs7] at g19
    refine .cons (.gF rfl rfl rfl) <| .cons (.gF rfl rfl rfl) <| .cons (.gF rfl rfl rfl) <| .cons (.gF rfl rfl rfl) <| .cons (.pT rfl rfl rfl) ?_
    refine .nil ⟨by kernel_rfl, ?_⟩
    exact kc_n (Wk.keep [] rfl rfl ⟨ks rfl .dt, ks rfl .dt, ks rfl .dt, ks rfl .dt, ks rfl (.dt (vB (by rw [kids_eq]; first | rfl | grind))), trivial⟩)
   ·try simp only [zs1, zs2, zs3, zs4, zs5, zs6, zs7] at g19
    refine .cons (.gT rfl rfl rfl (.lN 7 rfl rfl rfl)) <| .cons (.gT rfl rfl rfl (.mv rfl rfl)) <| .cons (.gT rfl rfl rfl (.cP [.tmp 20, .tmp 21] rfl rfl rfl rfl (l3Own_fn d e hr) rfl)) ?_
    refine .cons (.gT rfl rfl rfl (.nt rfl rfl)) <| .cons (.pF rfl rfl rfl) ?_
    refine .nil ⟨by kernel_rfl, ?_⟩
    exact kc_n (Wk.keep [] rfl rfl ⟨ks rfl .dt, ks rfl .dt, ks rfl .dt, ks rfl .dt, ks rfl (.dt (vB (by rw [kids_eq]; first | rfl | grind))), trivial⟩)
 refine ks_n ?_
 refine ACode.condT rfl (fun h24 => ?_) (fun h24 => ?_)
 ·try simp only [zs1, zs2, zs3, zs4, zs5, zs6, zs7] at h24
  refine .seq <| .region <| .cons (.asg rfl rfl) <| .nil <| ks_n <| .ret <| ks_r ?_
  refine kf_ret rfl ?_ nobox
  exact leafB (by rw [exV, h24]; rfl)
 ·try simp only [zs1, zs2, zs3, zs4, zs5, zs6, zs7] at h24
  refine .skip <| ks_n <| .seq <| .seq <| .region <| .cons (.asg rfl rfl) <| .nil <| ks_n <| .block ?_
  refine .loopK (fun m σ => (∃ i : Nat, m = e.ks.length - i ∧ (i ≤ e.ks.length) ∧ (e.ks.all (exV d L) = (e.ks.drop i).all (exV d L)) ∧ σ = [(.t 1, .v (.o (nat1 (d : Nat)))), (.t 2, .v (.o (nat1 lv))), (.t 3, .v (.o (.c (.ptr (rX e))))), (.t 6, .v (.o (bo1 false))), (.t 7, .v (.o (nat1 (i : Nat))))])) [] ⟨0, rfl, by omega, by simp, rfl⟩ ⟨ks rfl .dt, ks rfl .dt, ks rfl .dt, ks rfl .dt, ks rfl .dt, trivial⟩ ?_
  rintro m σ ⟨i, hm0, hi, hF, rfl⟩
  refine .seq <| .seq <| .region <| .cons (.mv rfl rfl) <| .cons (.fP 6 0 false rfl rfl) <| .cons (.l1 1 rfl rfl) <| .cons (.ln 94 7 112 rfl rfl rfl) <| .cons (.ls rfl rfl rfl) <| .nil <| ks_n ?_
  refine .cD rfl (fun h29 => ?_) (fun h29 => ?_)
  ·skip
   obtain ⟨x, hx1⟩ : ∃ x, e.ks[i]? = some x := ⟨_, List.getElem?_eq_getElem (by omega)⟩
   refine .skip <| ks_n <| .seq <| .block <| .seq <| .region <| .cons (.fP 6 0 false rfl rfl) <| .cons (.l1 1 rfl rfl) <| .cons (.mv rfl rfl) <| .cons (.xL 94 7 112 rfl rfl rfl rfl rfl (rE_at hx1)) ?_
   refine .cons (.lN 7 rfl rfl rfl) <| .cons (.mv rfl rfl) <| .cons (.mv rfl rfl) <| .cons (.sb rfl rfl rfl) <| .cons (.cP [.tmp 36, .tmp 37, .tmp 39] rfl rfl rfl rfl (ih x (List.mem_of_getElem? hx1)) rfl) ?_
   refine .cons (.nt rfl rfl) <| .nil <| ks_n ?_
   refine ACode.condT rfl (fun h41 => ?_) (fun h41 => ?_)
   ·try simp only [zs1, zs2, zs3, zs4, zs5, zs6, zs7] at h41
    refine .seq <| .region <| .cons (.asg rfl rfl) <| .nil <| ks_n <| .ret <| kb_r <| ks_r <| kl_r <| kb_r <| ks_r ?_
    refine kf_ret rfl ?_ nobox
    exact leafB (by rw [exV, h24, hF, all_drop hx1, h41]; rfl)
   ·try simp only [zs1, zs2, zs3, zs4, zs5, zs6, zs7] at h41
    refine .skip <| kb_n <| ks_n <| .region <| .cons (.mv rfl rfl) <| .cons (.pl rfl rfl rfl) <| .cons (.asg rfl rfl) <| .nil ?_
    refine kl_k [] ⟨i + 1, rfl, by omega, by rw [hF, all_drop hx1, h41, Bool.true_and], rfl⟩ ⟨ks rfl .dt, ks rfl .dt, ks rfl .dt, ks rfl .dt, ks rfl .dt, trivial⟩
  ·skip
   refine .exit <| ks_e <| kl_e <| kb_hit <| ks_n <| .seq <| .region <| .cons (.asg rfl rfl) <| .nil <| ks_n <| .ret ?_
   refine kf_ret rfl ?_ nobox
   exact leafB (by rw [exV, h24, hF, List.drop_of_length_le (by omega)]; rfl)

theorem szE_parts {e : Ex} (hs : szE e ≤ 1099511627776) : e.i.1.length ≤ 1099511627776 ∧ e.r.2.length ≤ 1099511627776 ∧ e.ks.length ≤ 1099511627776 ∧ ∀ x ∈ e.ks, szE x ≤ 1099511627776 := by
  rw [szE_eq, szC] at hs
  have := szAs_len e.r.2
  exact ⟨by omega, by omega, by omega, fun x hx => by have := szEs_mem hx; omega⟩
theorem l3Shape_fn (d : Nat) : ∀ (L : Nat) (lv : Int) (e : Ex), lv = (L : Int) → L ≤ 100 → szE e ≤ 1099511627776 → Fn Tryz.prog 178 [] [ad (rX e), nat1 (d : Nat), nat1 lv] (.o (bo1 (exV d L e))) []
  | 0, lv, e, hd, hL, hs => shape_zero d lv (by omega) e (szE_parts hs).2.1 (szE_parts hs).2.2.1
  | L + 1, lv, e, hd, hL, hs => shape_succ d L lv (by omega) (by omega) e (szE_parts hs).2.1 (szE_parts hs).2.2.1 fun x hx => l3Shape_fn d L (lv - 1) x (by omega) (by omega) ((szE_parts hs).2.2.2 x hx)
theorem cntEs_take {l : List Ex} {i : Nat} {x : Ex} (h : l[i]? = some x) : cntEs (l.take (i + 1)) = cntEs (l.take i) + cntE x := by
  have key : ∀ (a : List Ex) (x : Ex), cntEs (a ++ [x]) = cntEs a + cntE x := by
    intro a x
    induction a with
    | nil => simp [cntEs]
    | cons y a ih => rw [List.cons_append, cntEs, cntEs, ih]; omega
  rw [List.take_add_one, h]
  exact key _ _
theorem cnt_bd {d : Nat} : ∀ {L : Nat} {e : Ex}, exV d L e = true → cntE e + 1 ≤ 2 ^ L
  | 0, e, h => by cases h
  | L + 1, e, h => by
    rw [exV, Bool.and_eq_true, Bool.and_eq_true] at h
    rw [cntE_eq]
    have hp : 1 ≤ 2 ^ L := Nat.one_le_two_pow
    rcases kidV_len h.1.1 with h1 | h1
    · rw [List.eq_nil_of_length_eq_zero h1, cntEs, Nat.pow_succ]; omega
    · obtain ⟨x, y, h2⟩ := two_of h1
      have h3 := h.2
      rw [h2, List.all_cons, List.all_cons, Bool.and_eq_true, Bool.and_eq_true] at h3
      have := cnt_bd h3.1
      have := cnt_bd h3.2.1
      rw [h2, cntEs, cntEs, cntEs, Nat.pow_succ]; omega
theorem exV_kids {d L : Nat} {e : Ex} (h : exV d L e = true) : e.ks.length ≤ 2 ∧ ∀ x ∈ e.ks, exV d (L - 1) x = true := by
  cases L with
  | zero => cases h
  | succ L =>
    rw [exV, Bool.and_eq_true, Bool.and_eq_true] at h
    exact ⟨by have := kidV_len h.1.1; omega, fun x hx => List.all_eq_true.1 h.2 x hx⟩

theorem l3Count_one (d L : Nat) (lv : Int) (hl : 0 < lv) (hl2 : lv ≤ 100) (e : Ex) (hk2 : e.ks.length ≤ 2) (hb : ∀ x ∈ e.ks, cntE x ≤ 1000) (ih : ∀ x ∈ e.ks, Fn Tryz.prog 179 [] [ad (rX x), nat1 (lv - 1)] (.o (nat1 (cntE x : Nat))) []) : Fn Tryz.prog 179 [] [ad (rX e), nat1 lv] (.o (nat1 (cntE e : Nat))) [] := by
 refine Fn.code0 Tryz.func179 rfl rfl rfl rfl ?_
 refine .seq <| .region <| .cons (St1.boxP rfl rfl rfl rfl rfl rfl) <| .cons (.asg rfl rfl) <| .nil <| ks_n <| .seq <| .region <| .cons (.asg rfl rfl) <| .nil <| ks_n <| .seq <| .seq <| .region <| .cons (.asg rfl rfl) <| .nil <| ks_n <| .block ?_
 refine .loopK (fun m σ => (∃ i : Nat, m = e.ks.length - i ∧ (i ≤ e.ks.length) ∧ (cntEs (e.ks.take i) ≤ 1000 * i) ∧ σ = [(.t 1, .v (.o (nat1 lv))), (.t 2, .v (.o (.c (.ptr (rX e))))), (.t 5, .v (.o (nat1 ((1 + cntEs (e.ks.take i) : Nat))))), (.t 6, .v (.o (nat1 (i : Nat))))])) [] ⟨0, rfl, by omega, by simp [cntEs], rfl⟩ ⟨ks rfl .dt, ks rfl .dt, ks rfl (.dt (vI (by first | (simp [cntEs]; done) | (rw [cntEs_take hx1]; omega)))), ks rfl .dt, trivial⟩ ?_
 rintro m σ ⟨i, hm0, hi, hF, rfl⟩
 refine .seq <| .seq <| .region <| .cons (.mv rfl rfl) <| .cons (.fP 6 0 false rfl rfl) <| .cons (.l1 1 rfl rfl) <| .cons (.ln 94 7 112 rfl rfl rfl) <| .cons (.ls rfl rfl rfl) <| .cons (.mv rfl rfl) ?_
 refine .cD 12 rfl (fun g12 => ?_) (fun g12 => ?_)
 ·skip
  obtain ⟨x, hx1⟩ : ∃ x, e.ks[i]? = some x := ⟨_, List.getElem?_eq_getElem (by omega)⟩
  have hbx := hb x (List.mem_of_getElem? hx1)
  refine .cons (.gT rfl rfl rfl (.mv rfl rfl)) <| .cons (.gT rfl rfl rfl (.gt rfl rfl rfl)) <| .cons (.pT rfl rfl rfl) <| .nil <| ks_n ?_
  refine ACode.condT rfl (fun h15 => ?_) (fun h15 => ?_)
  ·try simp only [zs1, zs2, zs3, zs4, zs5, zs6, zs7] at h15
   refine .skip <| ks_n <| .seq <| .block <| .region <| .cons (.mv rfl rfl) <| .cons (.fP 6 0 false rfl rfl) <| .cons (.l1 1 rfl rfl) <| .cons (.mv rfl rfl) <| .cons (.xL 94 7 112 rfl rfl rfl rfl rfl (rE_at hx1)) ?_
   refine .cons (.lN 7 rfl rfl rfl) <| .cons (.mv rfl rfl) <| .cons (.sb rfl rfl rfl) <| .cons (.cP [.tmp 23, .tmp 25] rfl rfl rfl rfl (ih x (List.mem_of_getElem? hx1)) rfl) ?_
   refine .cons (.pl rfl rfl rfl) <| .cons (.asg rfl rfl) <| .nil <| kb_n <| ks_n <| .region <| .cons (.mv rfl rfl) <| .cons (.pl rfl rfl rfl) <| .cons (.asg rfl rfl) <| .nil ?_
   refine kl_k [] ⟨i + 1, rfl, by omega, by rw [cntEs_take hx1]; omega, rfl⟩ ⟨ks rfl .dt, ks rfl .dt, ks rfl (.dt (vI (by first | (simp [cntEs]; done) | (rw [cntEs_take hx1]; omega)))), ks rfl .dt, trivial⟩
  ·try simp only [zs1, zs2, zs3, zs4, zs5, zs6, zs7] at h15
   exact absurd hl h15
 ·skip
  have hall : e.ks.take i = e.ks := List.take_of_length_le (by omega)
  refine .cons (.gF rfl rfl rfl) <| .cons (.gF rfl rfl rfl) <| .cons (.pF rfl rfl rfl) <| .nil <| ks_n ?_
  refine ACode.condT rfl (fun h => by first | (cases h; done) | (simp [*] at h; done) | (exfalso; simp_all; done)) (fun _ => ?_)
  refine .exit <| ks_e <| kl_e <| kb_hit <| ks_n <| .seq <| .region <| .cons (.mv rfl rfl) <| .cons (.asg rfl rfl) <| .nil <| ks_n <| .ret ?_
  refine kf_ret rfl ?_ nobox
  exact leafI (by rw [cntE_eq, hall])

theorem l3Count_fn (d : Nat) : ∀ (L : Nat) (lv : Int) (e : Ex), lv = (L : Int) → L ≤ 6 → exV d L e = true → Fn Tryz.prog 179 [] [ad (rX e), nat1 lv] (.o (nat1 (cntE e : Nat))) []
  | 0, lv, e, hd, hL, h => by cases h
  | L + 1, lv, e, hd, hL, h => l3Count_one d L lv (by omega) (by omega) e (exV_kids h).1 (fun x hx => by
      have h1 := cnt_bd ((exV_kids h).2 x hx)
      have h2 : 2 ^ (L + 1 - 1) ≤ 2 ^ 6 := Nat.pow_le_pow_right (by omega) (by omega)
      omega) fun x hx => l3Count_fn d L (lv - 1) x (by omega) (by omega) ((exV_kids h).2 x hx)
theorem l3Access_fi {d : Int} (h : ((d.toNat : Nat) : Int) = d) (a : Acc) (ha : a.2.length ≤ 1099511627776) : Fn Tryz.prog 177 [] [ad (rC a), nat1 d] (.o (bo1 (accV d.toNat a))) [] := by
  have h2 := l3Access_fn d.toNat a ha
  rw [h] at h2; exact h2
theorem l3Shape_fi {d : Int} (h : ((d.toNat : Nat) : Int) = d) (e : Ex) (hs : szE e ≤ 1099511627776) : Fn Tryz.prog 178 [] [ad (rX e), nat1 d, nat1 5] (.o (bo1 (exV d.toNat 5 e))) [] := by
  have h2 := l3Shape_fn d.toNat 5 5 e rfl (by omega) hs
  rw [h] at h2; exact h2

theorem specStmtV_fn (d : Int) (s : Stm) (hs : szS s ≤ 1099511627776) : Fn Tryz.prog 135 [] [ad (rS s), nat1 d] (.o (bo1 (stmtV d s))) [] := by
 obtain ⟨hs1, hs2⟩ := szS_parts hs
 refine Fn.code0 Tryz.func135 rfl rfl rfl rfl ?_
 refine .seq <| .region <| .cons (St1.boxP rfl rfl rfl rfl rfl rfl) <| .cons (.asg rfl rfl) <| .nil <| ks_n <| .seq <| .seq ?_
 refine ACode.cut [(.t 2, .v (.o (.c (.ptr (rS s))))), (.t 4, .v (.o (bo1 false))), (.t 24, .v (.o (bo1 (!(inB d 0 4 && (accV d.toNat s.1 && exV d.toNat 5 s.2))))))] ?_ ?_
 ·skip
  refine .region <| .cons (.mv rfl rfl) <| .cons (.ls rfl rfl rfl) <| .cons (.mv rfl rfl) ?_
  refine .cD 7 rfl (fun g7 => ?_) (fun g7 => ?_)
  ·skip
   refine .cons (.gF rfl rfl rfl) <| .cons (.gF rfl rfl rfl) <| .cons (.pT rfl rfl rfl) <| .cons (.mv rfl rfl) <| .cons (.gF rfl rfl rfl) <| .cons (.gF rfl rfl rfl) <| .cons (.gF rfl rfl rfl) <| .cons (.gF rfl rfl rfl) <| .cons (.gF rfl rfl rfl) <| .cons (.pT rfl rfl rfl) <| .cons (.mv rfl rfl) <| .cons (.gF rfl rfl rfl) <| .cons (.gF rfl rfl rfl) <| .cons (.gF rfl rfl rfl) <| .cons (.gF rfl rfl rfl) <| .cons (.gF rfl rfl rfl) <| .cons (.pT rfl rfl rfl) <| .nil ?_
   exact kc_n (Wk.keep [] rfl rfl ⟨ks rfl .dt, ks rfl .dt, ks rfl (.dt (vB (by rw [inB]; cases hq1 : accV d.toNat s.1 <;> cases hq2 : exV d.toNat 5 s.2 <;> first | rfl | grind))), trivial⟩)
  ·skip
   refine .cons (.gT rfl rfl rfl (.mv rfl rfl)) <| .cons (.gT rfl rfl rfl (.gt rfl rfl rfl)) <| .cons (.pF rfl rfl rfl) <| .cons (.mv rfl rfl) ?_
   refine AOps.cases 11 _ rfl (fun g11 => ?_) (fun g11 => ?_)
   ·try simp only [zs1, zs2, zs3, zs4, zs5, zs6, zs7] at g11
    refine .cons (.gF rfl rfl rfl) <| .cons (.gF rfl rfl rfl) <| .cons (.gF rfl rfl rfl) <| .cons (.gF rfl rfl rfl) <| .cons (.gF rfl rfl rfl) <| .cons (.pT rfl rfl rfl) <| .cons (.mv rfl rfl) <| .cons (.gF rfl rfl rfl) <| .cons (.gF rfl rfl rfl) <| .cons (.gF rfl rfl rfl) <| .cons (.gF rfl rfl rfl) <| .cons (.gF rfl rfl rfl) <| .cons (.pT rfl rfl rfl) <| .nil ?_
    exact kc_n (Wk.keep [] rfl rfl ⟨ks rfl .dt, ks rfl .dt, ks rfl (.dt (vB (by rw [inB]; cases hq1 : accV d.toNat s.1 <;> cases hq2 : exV d.toNat 5 s.2 <;> first | rfl | grind))), trivial⟩)
   ·try simp only [zs1, zs2, zs3, zs4, zs5, zs6, zs7] at g11
    have hD : ((d.toNat : Nat) : Int) = d := by omega
    refine .cons (.gT rfl rfl rfl (.fP 0 1 true rfl rfl)) <| .cons (.gT rfl rfl rfl (.lN 2 rfl rfl rfl)) <| .cons (.gT rfl rfl rfl (.mv rfl rfl)) <| .cons (.gT rfl rfl rfl (.cP [.tmp 13, .tmp 14] rfl rfl rfl rfl (l3Access_fi hD s.1 hs1) rfl)) ?_
    refine .cons (.gT rfl rfl rfl (.nt rfl rfl)) <| .cons (.pF rfl rfl rfl) <| .cons (.mv rfl rfl) ?_
    refine AOps.cases 18 _ rfl (fun g18 => ?_) (fun g18 => ?_)
    ·try simp only [zs1, zs2, zs3, zs4, zs5, zs6, zs7] at g18
     refine .cons (.gF rfl rfl rfl) <| .cons (.gF rfl rfl rfl) <| .cons (.gF rfl rfl rfl) <| .cons (.gF rfl rfl rfl) <| .cons (.gF rfl rfl rfl) <| .cons (.pT rfl rfl rfl) <| .nil ?_
     exact kc_n (Wk.keep [] rfl rfl ⟨ks rfl .dt, ks rfl .dt, ks rfl (.dt (vB (by rw [inB]; cases hq1 : accV d.toNat s.1 <;> cases hq2 : exV d.toNat 5 s.2 <;> first | rfl | grind))), trivial⟩)
    ·try simp only [zs1, zs2, zs3, zs4, zs5, zs6, zs7] at g18
     refine .cons (.gT rfl rfl rfl (.fP 2 6 true rfl rfl)) <| .cons (.gT rfl rfl rfl (.lN 7 rfl rfl rfl)) <| .cons (.gT rfl rfl rfl (.mv rfl rfl)) <| .cons (.gT rfl rfl rfl (.cP [.tmp 20, .tmp 21, .const (.int .i64 (5))] rfl rfl rfl rfl (l3Shape_fi hD s.2 hs2) rfl)) ?_
     refine .cons (.gT rfl rfl rfl (.nt rfl rfl)) <| .cons (.pF rfl rfl rfl) <| .nil ?_
     exact kc_n (Wk.keep [] rfl rfl ⟨ks rfl .dt, ks rfl .dt, ks rfl (.dt (vB (by rw [inB]; cases hq1 : accV d.toNat s.1 <;> cases hq2 : exV d.toNat 5 s.2 <;> first | rfl | grind))), trivial⟩)
 refine ks_n ?_
 refine ACode.condT rfl (fun h24 => ?_) (fun h24 => ?_)
 ·try simp only [zs1, zs2, zs3, zs4, zs5, zs6, zs7] at h24
  refine .seq <| .region <| .cons (.asg rfl rfl) <| .nil <| ks_n <| .ret <| ks_r ?_
  refine kf_ret rfl ?_ nobox
  exact leafB (by rw [stmtV, ← Bool.and_assoc, h24]; rfl)
 ·try simp only [zs1, zs2, zs3, zs4, zs5, zs6, zs7] at h24
  have hX : exV d.toNat 5 s.2 = true := by simp only [Bool.and_eq_true] at h24; exact h24.2.2
  have hI : inB d 0 4 = true := by simp only [Bool.and_eq_true] at h24; exact h24.1
  have hA : accV d.toNat s.1 = true := by simp only [Bool.and_eq_true] at h24; exact h24.2.1
  refine .skip <| ks_n <| .seq <| .region <| .cons (.fP 2 6 true rfl rfl) <| .cons (.lN 7 rfl rfl rfl) <| .cons (.cP [.tmp 26, .const (.int .i64 (5))] rfl rfl rfl rfl (l3Count_fn d.toNat 5 5 s.2 rfl (by omega) hX) rfl) ?_
  refine .cons (.le rfl rfl rfl) <| .cons (.asg rfl rfl) <| .nil <| ks_n <| .ret ?_
  refine kf_ret rfl ?_ nobox
  exact leafB (by rw [stmtV, hI, hA, hX]; simp; omega)
theorem RetA2.mono {P Q : Nat → Prop} {x : Aff} {ok : Bool} {w : World} {e : Ending} {w' : World} (hp : ∀ b, P b → Q b) (h : RetA2 P x ok w e w') : RetA2 Q x ok w e w' := by
  obtain ⟨v, e, ha, hb⟩ := h
  exact ⟨v, e, ha.mono fun b hb _ => hp b hb, hb⟩
theorem dR_af (f : Aff → Aff) (l : List Aff) : dR ((l.take l.length).map fun x => rA (f x)) = dR ((l.map f).map rA) := by
  rw [List.take_length, List.map_map]; rfl

theorem l3CopyAff_fn {x : Aff} (hx : x.1.length ≤ 1073741824) : Fn Tryz.prog 184 [] [ad (rA x)] (.o (ad (rA x))) [] := by
 refine Fn.code0 Tryz.func184 rfl rfl rfl rfl ?_
 refine .seq <| .region <| .cons (St1.boxP rfl rfl rfl rfl rfl rfl) <| .cons (.al 102 [.slice none 0 0, .int .i64 0] rfl rfl rfl) <| .nil <| ks_n <| .seq <| .seq <| .region <| .cons (.fP 0 0 false rfl rfl) <| .cons (.l1 1 rfl rfl) <| .cons (.ln 3 1 8 rfl rfl rfl) <| .cons (.eq rfl rfl rfl) <| .nil <| ks_n ?_
 refine .cD rfl (fun h6 => ?_) (fun h6 => ?_)
 ·skip
  have hn : x.1 = [] := List.eq_nil_of_length_eq_zero (by omega)
  refine .seq <| .region <| .cons (.fP 1 0 false rfl rfl) <| .cons (.l1 1 rfl rfl) <| .cons (.bu [(1, .tmp 8)] [(0, 1), (1, 1)] [.slice none 0 0, .int .i64 0] rfl rfl rfl rfl rfl) <| .cons (.sT 2 true rfl rfl rfl rfl rfl rfl rfl) <| .nil <| ks_n <| .ret <| ks_r ?_
  refine kf_wret [(.t 2, .v (.o (.c (.box 100 2 0 0)))), (.b 100, .b 91 2 [[.d (dIs x.1), .d (dI x.2)]]), (.u 100, .u)] (Wk.keep [(100, 102)] rfl rfl ⟨ks rfl (.c .bx), kb 102 rfl (.cons (.cons (Cto.nilE 1 (by rw [hn]; rfl)) (.cons .dt Ctos.nil)) .nil), trivial⟩) rfl ?_ nobox
  rfl
 ·skip
  refine .skip <| ks_n <| .seq ?_
  refine ACode.drawK (by kernel_rfl) (by kernel_rfl) ?_
  refine .cons (St1.lit0 (k' := 110) (e := 3) (sz := 1) (b := true) rfl rfl rfl rfl (by kernel_rfl) rfl rfl) ?_
  refine .cons (.fP 0 0 false rfl rfl) <| .cons (.l1 1 rfl rfl) <| .cons (St1.appD (rows := []) (e := 3) (sz := 0) (by' := 8) rfl rfl rfl rfl rfl (by kernel_rfl) rfl rfl rfl rfl rfl (by simp; omega) rfl) ?_
  refine .cons (.fP 1 0 false rfl rfl) <| .cons (.l1 1 rfl rfl) <| .cons (.bu [(0, .tmp 13), (1, .tmp 15)] [(0, 1), (1, 1)] [.slice none 0 0, .int .i64 0] rfl rfl rfl rfl rfl) <| .cons (.sT 2 true rfl rfl rfl rfl rfl rfl rfl) ?_
  refine .nil ⟨by kernel_rfl, ?_⟩
  refine ks_n <| .ret ?_
  refine kf_wret [(.t 2, .v (.o (.c (.box 100 2 0 0)))), (.b 100, .b 91 2 [[.d (dIs x.1), .d (dI x.2)]]), (.u 100, .u)] (Wk.keep [(100, 102)] rfl rfl ⟨ks rfl (.c .bx), kb 102 rfl (.cons (.cons (.dt) (.cons .dt Ctos.nil)) .nil), trivial⟩) rfl ?_ nobox
  rfl

theorem l3CopyAcc_fn (a : Acc) (ha : a.2.length ≤ 1073741824) (hq : ∀ x ∈ a.2, x.1.length ≤ 1073741824) : Fn Tryz.prog 140 [] [ad (rC a)] (.o (ad (rC a))) [] := by
 refine Fn.code0 Tryz.func140 rfl rfl rfl rfl ?_
 refine .seq <| .region <| .cons (St1.boxP rfl rfl rfl rfl rfl rfl) <| .cons (.al 102 [.string ByteArray.empty, .slice none 0 0] rfl rfl rfl) <| .nil <| ks_n <| .seq <| .region <| .cons (.fP 0 0 false rfl rfl) <| .cons (.l1 1 rfl rfl) <| .cons (.bu [(0, .tmp 6)] [(0, 1), (1, 1)] [.string ByteArray.empty, .slice none 0 0] rfl rfl rfl rfl rfl) <| .cons (.al 103 [.string ByteArray.empty, .slice none 0 0] rfl rfl rfl) <| .cons (.sT 2 true rfl rfl rfl rfl rfl rfl rfl) <| .nil <| ks_n <| .seq <| .seq <| .region <| .cons (.asg rfl rfl) <| .nil <| ks_n <| .block ?_
 refine .loopK (fun m σ => (∃ i : Nat, m = a.2.length - i ∧ (i = 0) ∧ σ = [(.t 1, .v (.o (.c (.ptr (rC a))))), (.t 2, .v (.o (.c (.box 110 2 0 0)))), (.t 3, .v (.o (.c (.box 111 2 0 0)))), (.t 4, .v (.o (nat1 (i : Nat)))), (.b 110, .b 89 2 [[.d (dS ByteArray.empty), .d (.val (.slice none 0 0))]]), (.u 110, .u), (.b 111, .b 89 2 [[.d (dS a.1), .d (.val (.slice none 0 0))]]), (.u 111, .u)]) ∨ (∃ i : Nat, m = a.2.length - i ∧ (1 ≤ i) ∧ (i ≤ a.2.length) ∧ σ = [(.t 1, .v (.o (.c (.ptr (rC a))))), (.t 2, .v (.o (.c (.box 110 2 0 0)))), (.t 3, .v (.o (.c (.box 111 2 0 0)))), (.t 4, .v (.o (nat1 (i : Nat)))), (.b 110, .b 89 2 [[.d (dS ByteArray.empty), .d (.val (.slice none 0 0))]]), (.u 110, .u), (.b 112, .b 91 2 (dR ((a.2.take i).map rA))), (.u 112, .u), (.b 111, .b 89 2 [[.d (dS a.1), .own 112 2 (i)]]), (.u 111, .u)])) [(110, 102), (111, 103)] (.inl ⟨0, rfl, rfl, rfl⟩) ⟨ks rfl .dt, ks rfl (.c .bx), ks rfl (.c .bx), ks rfl .dt, kb 102 rfl (.cons (.cons .dt (.cons .dt Ctos.nil)) .nil), kb 103 rfl (.cons (.cons .dt (.cons .dt Ctos.nil)) .nil), trivial⟩ ?_
 rintro m σ (⟨i, hm0, rfl, rfl⟩ | ⟨i, hm0, hi1, hi2, rfl⟩)
 ·skip
  refine .seq <| .seq <| .region <| .cons (.mv rfl rfl) <| .cons (.fP 1 0 false rfl rfl) <| .cons (.l1 1 rfl rfl) <| .cons (.ln 91 2 32 rfl rfl rfl) <| .cons (.ls rfl rfl rfl) <| .nil <| ks_n ?_
  refine .cD rfl (fun h12 => ?_) (fun h12 => ?_)
  ·skip
   obtain ⟨x, hx1⟩ : ∃ x, a.2[0]? = some x := ⟨_, List.getElem?_eq_getElem (by omega)⟩
   refine .skip <| ks_n <| .seq <| .block ?_
   refine ACode.drawK (by kernel_rfl) (by kernel_rfl) ?_
   refine .cons (.fB 1 0 false rfl rfl rfl) <| .cons (.b1 1 rfl rfl rfl rfl rfl rfl) <| .cons (.fP 1 0 false rfl rfl) <| .cons (.l1 1 rfl rfl) <| .cons (.mv rfl rfl) <| .cons (.xL 91 2 32 rfl rfl rfl rfl rfl) ?_
   refine .cons (.lN 2 rfl rfl rfl) <| .cons (.cP [.tmp 21] rfl rfl rfl rfl (l3CopyAff_fn (hq x (List.mem_of_getElem? hx1))) rfl) ?_
   refine .cons (.li 91 1 0 [.tmp 22] rfl rfl rfl rfl rfl rfl) <| .cons (St1.appN (k' := 124) (e := 91) (sz := 1) (by' := 32) rfl rfl rfl rfl rfl (by kernel_rfl) rfl rfl rfl (by simp) (by first | (simp [dR]; done) | (simp [dR]; omega)) rfl rfl) ?_
   refine .cons (.fB 1 0 false rfl rfl rfl) <| .cons (.sT 1 false rfl rfl rfl rfl rfl rfl rfl) ?_
   refine .nil ⟨by kernel_rfl, ?_⟩
   refine kb_n <| ks_n <| .region <| .cons (.mv rfl rfl) <| .cons (.pl rfl rfl rfl) <| .cons (.asg rfl rfl) <| .nil ?_
   refine kl_k [(110, 110), (111, 111), (112, 124)] (.inr ⟨1, rfl, by omega, by omega, rfl⟩) ⟨ks rfl .dt, ks rfl (.c .bx), ks rfl (.c .bx), ks rfl .dt, kb 110 rfl (.cons (.cons .dt (.cons .dt Ctos.nil)) .nil), kb 124 rfl (.dt rfl (by first | exact dR_take (rA) hx1 | exact dR_take1 (rA) hx1 | rfl | (simp [dR]; done))), kb 111 rfl (.cons (.cons .dt (.cons .ow Ctos.nil)) .nil), trivial⟩
  ·skip
   have hn : a.2 = [] := List.eq_nil_of_length_eq_zero (by omega)
   refine .exit <| ks_e <| kl_e <| kb_hit <| ks_n <| .seq <| .region <| .cons (.bN 2 rfl rfl rfl rfl rfl rfl) <| .cons (.sT 2 true rfl rfl rfl rfl rfl rfl rfl) <| .nil <| ks_n <| .ret ?_
   refine kf_wret [(.t 2, .v (.o (.c (.box 100 2 0 0)))), (.b 100, .b 89 2 [[.d (dS a.1), .d (dAs a.2)]]), (.u 100, .u)] (Wk.keep [(100, 110)] rfl rfl ⟨ks rfl (.c .bx), kb 110 rfl (.cons (.cons .dt (.cons (Cto.nilE 2 (by rw [hn]; rfl)) Ctos.nil)) .nil), trivial⟩) rfl ?_ nobox
   rfl
 ·skip
  refine .seq <| .seq <| .region <| .cons (.mv rfl rfl) <| .cons (.fP 1 0 false rfl rfl) <| .cons (.l1 1 rfl rfl) <| .cons (.ln 91 2 32 rfl rfl rfl) <| .cons (.ls rfl rfl rfl) <| .nil <| ks_n ?_
  refine .cD rfl (fun h12 => ?_) (fun h12 => ?_)
  ·skip
   obtain ⟨x, hx1⟩ : ∃ x, a.2[i]? = some x := ⟨_, List.getElem?_eq_getElem (by omega)⟩
   refine .skip <| ks_n <| .seq <| .block ?_
   refine ACode.drawK (by kernel_rfl) (by kernel_rfl) ?_
   refine .cons (.fB 1 0 false rfl rfl rfl) <| .cons (.b1 1 rfl rfl rfl rfl rfl rfl) <| .cons (.fP 1 0 false rfl rfl) <| .cons (.l1 1 rfl rfl) <| .cons (.mv rfl rfl) <| .cons (.xL 91 2 32 rfl rfl rfl rfl rfl) ?_
   refine .cons (.lN 2 rfl rfl rfl) <| .cons (.cP [.tmp 21] rfl rfl rfl rfl (l3CopyAff_fn (hq x (List.mem_of_getElem? hx1))) rfl) ?_
   refine .cons (.li 91 1 0 [.tmp 22] rfl rfl rfl rfl rfl rfl) <| .cons (St1.appB (k' := 124) (e := 91) (sz := 1) (by' := 32) rfl rfl rfl rfl rfl (by kernel_rfl) rfl rfl rfl rfl (by first | (simp [dR]; done) | (simp [dR]; omega)) (by first | (simp [dR]; done) | (simp [dR]; omega)) rfl rfl rfl) ?_
   refine .cons (.fB 1 0 false rfl rfl rfl) <| .cons (.sT 1 false rfl rfl rfl rfl rfl rfl rfl) ?_
   refine .nil ⟨by kernel_rfl, ?_⟩
   refine kb_n <| ks_n <| .region <| .cons (.mv rfl rfl) <| .cons (.pl rfl rfl rfl) <| .cons (.asg rfl rfl) <| .nil ?_
   refine kl_k [(110, 110), (111, 111), (112, 124)] (.inr ⟨i + 1, rfl, by omega, by omega, rfl⟩) ⟨ks rfl .dt, ks rfl (.c .bx), ks rfl (.c .bx), ks rfl .dt, kb 110 rfl (.cons (.cons .dt (.cons .dt Ctos.nil)) .nil), kb 124 rfl (.dt rfl (by first | exact dR_take (rA) hx1 | exact dR_take1 (rA) hx1 | rfl | (simp [dR]; done))), kb 111 rfl (.cons (.cons .dt (.cons .ow Ctos.nil)) .nil), trivial⟩
  ·skip
   obtain rfl : i = a.2.length := by omega
   refine .exit <| ks_e <| kl_e <| kb_hit <| ks_n <| .seq <| .region <| .cons (.bN 2 rfl rfl rfl rfl rfl rfl) <| .cons (.sT 2 true rfl rfl rfl rfl rfl rfl rfl) <| .nil <| ks_n <| .ret ?_
   refine kf_wret [(.t 2, .v (.o (.c (.box 100 2 0 0)))), (.b 100, .b 89 2 [[.d (dS a.1), .d (dAs a.2)]]), (.u 100, .u)] (Wk.keep [(100, 110)] rfl rfl ⟨ks rfl (.c .bx), kb 110 rfl (.cons (.cons .dt (.cons (.fz rfl (by first | rfl | exact dR_af _ _ | (rw [List.take_length]; done)) (by first | rfl | (simp; done) | (simp; omega)) (by omega)) Ctos.nil)) .nil), trivial⟩) rfl ?_ nobox
   rfl
section
variable {P : Program} {n : Nat} {ops : Array Oper} {o : Oper} {σ : St} {d : Nat}
theorem run_appE {t ty e : TypeId} {sz by' : Nat} (ht : tyA P t = some (e, sz + 1, by', sz + 1)) (w : World) (ad : Option Addr) (c : Nat) : (Builtin.append_ #[t, t] ty #[.slice none 0 0, .slice ad 0 c]).run P w = .ok (.slice none 0 0) w := by
  obtain ⟨hu, i, z, hi, hz, hs1, hs2, hs3⟩ := tyA_out ht
  cases ad with
  | none => simp [Builtin.append_, run_underlying hu, sizeOf, typeInfo, hi, Builtin.lenOf, Builtin.firstCells]
  | some a =>
    have := run_firstCells_some (P := P) (w := w) i.size 0 a 0 c [] (by simp) (fun j v h => by simp at h)
    simp [Builtin.append_, run_underlying hu, sizeOf, typeInfo, hi, Builtin.lenOf, this]
theorem St1.appNE {t e : TypeId} {s x : Operand} {ts : Array TypeId} {sz by' : Nat} (ho : o.op = .call { callee := .builtin .append, args := #[s, x], argTypes := ts }) (hg : o.guard = none) (hd : o.dst = some d) (hn : Nat.blt d n = true) (hts : ts = #[t, t])
    (ht : tyA P t = some (e, sz + 1, by', sz + 1)) (hs' : ev σ s = some (.o (.c (.d (.val (.slice none 0 0)))))) (hx : ev σ x = some (.o (.c (.d (.list (sz + 1) []))))) :
    St1 P n ops o σ (rd s ++ rd x) [.t d] ((.t d, .v (.o (.c (.d (.val (.slice none 0 0)))))) :: σ) :=
  St1.value hg hd hn fun E bx τ a w hR hs => by
    subst hts
    obtain ⟨ad, c, e1, q1, q2, q3, q4⟩ := (ev_list hx (rd_r hR) hs).slice
    refine ⟨⟨.slice none 0 0, exec_app ho w w _ ?_, .val _ rfl⟩, fun k hk => by cases hk⟩
    rw [ev_val hs' (rd_l hR) hs, e1]
    exact run_appE ht w ad c
/-- A struct's zero cells, told as data: a nil slice may be told as the empty list. -/
inductive ZR : List Value → List D → Prop
  | nil : ZR [] []
  | val {z : Value} {zs : List Value} {ds : List D} (h : z.oneCell' = true) (hs : ZR zs ds) : ZR (z :: zs) (.val z :: ds)
  | list {zs : List Value} {ds : List D} (sz : Nat) (hs : ZR zs ds) : ZR (.slice none 0 0 :: zs) (.list sz [] :: ds)
theorem dr_empty {B : Nat → Prop} {w : World} (sz : Nat) : Dr B w (.list sz []) (.slice none 0 0) :=
  Dr.list sz [] none 0 0 0 0 (fun _ _ => undef) rfl (Nat.le_refl _) (by omega) (fun _ => rfl) (fun h => by simp at h) (fun i r h => by simp at h) (fun i r j x h => by simp at h) (fun i r j x h => by simp at h)
theorem ZR.cells {bx : Nat → Nat × Nat} {al B : Nat → Prop} {w : World} {zs : List Value} {ds : List D} (h : ZR zs ds) : zs.length = ds.length ∧ ∀ (i : Nat) c u, (ds.map C.d)[i]? = some c → zs[i]? = some u → Cr bx al B w c u := by
  induction h with
  | nil => exact ⟨rfl, fun i c u h => by simp at h⟩
  | val h hs ih =>
    refine ⟨by simp [ih.1], fun i c u hc hu => ?_⟩
    cases i with
    | zero => cases hc; cases hu; exact Dr.val _ h
    | succ i => exact ih.2 i c u hc hu
  | list sz hs ih =>
    refine ⟨by simp [ih.1], fun i c u hc hu => ?_⟩
    cases i with
    | zero => cases hc; cases hu; exact dr_empty sz
    | succ i => exact ih.2 i c u hc hu
end
theorem rdE_eq (e : Ex) : rdE e = (if e.k = 3 then [e.r] else []) ++ rdEs e.ks := by cases e; rw [rdE]; rfl
theorem rdEs_take {l : List Ex} {i : Nat} {x : Ex} (h : l[i]? = some x) : rdEs (l.take (i + 1)) = rdEs (l.take i) ++ rdE x := by
  have key : ∀ (a : List Ex) (x : Ex), rdEs (a ++ [x]) = rdEs a ++ rdE x := by
    intro a x
    induction a with
    | nil => simp [rdEs]
    | cons y a ih => rw [List.cons_append, rdEs, rdEs, ih, List.append_assoc]
  rw [List.take_add_one, h]
  exact key _ _
mutual
theorem rdE_len : ∀ e : Ex, (rdE e).length ≤ cntE e
  | .mk k n i r ks => by
    rw [rdE, cntE, List.length_append]
    have := rdEs_len ks
    split
    · simp; omega
    · simp; omega
theorem rdEs_len : ∀ l : List Ex, (rdEs l).length ≤ cntEs l
  | [] => by simp [rdEs]
  | e :: l => by
    rw [rdEs, cntEs, List.length_append]
    have := rdE_len e
    have := rdEs_len l
    omega
end
theorem cntEs_le {l : List Ex} {i : Nat} : cntEs (l.take i) ≤ cntEs l := by
  induction l generalizing i with
  | nil => simp [cntEs]
  | cons y l ih =>
    cases i with
    | zero => simp [cntEs]
    | succ i => rw [List.take_succ_cons, cntEs, cntEs]; have := ih (i := i); omega
theorem cnt64 {d L : Nat} {e : Ex} (h : exV d L e = true) (hL : L ≤ 6) : cntE e ≤ 64 := by
  have h1 := cnt_bd h
  have : 2 ^ L ≤ 2 ^ 6 := Nat.pow_le_pow_right (by omega) hL
  omega
theorem kids64 {e : Ex} {i : Nat} (h : cntE e ≤ 64) : (rdEs (e.ks.take i)).length ≤ 64 := by
  have h1 := rdEs_len (e.ks.take i)
  have h2 := cntEs_le (l := e.ks) (i := i)
  rw [cntE_eq] at h
  omega
theorem leaf_nil {d L : Nat} {e : Ex} (h : exV d L e = true) (hk : 1 ≤ e.k ∧ e.k ≤ 3) : e.ks = [] := by
  cases L with
  | zero => cases h
  | succ L =>
    rw [exV, Bool.and_eq_true, Bool.and_eq_true] at h
    have h1 := h.1.1
    rw [kidV, if_pos hk] at h1
    exact List.eq_nil_of_length_eq_zero (of_decide_eq_true h1)
theorem dR_apC (a b : List Acc) : dR (a.map rC) ++ (b.map rC).map (·.map C.d) = dR ((a ++ b).map rC) := by rw [dR_app, List.map_append]

theorem reads_one (e : Ex) {d L : Nat} (hv : exV d L e = true) (hcn : cntE e ≤ 64) (ih : ∀ x ∈ e.ks, Fn Tryz.prog 61 [] [ad (rX x)] (.o (vD (dCs (rdE x)))) []) : Fn Tryz.prog 61 [] [ad (rX e)] (.o (vD (dCs (rdE e)))) [] := by
  have hkl := (exV_kids hv).1
  refine Fn.code0 Tryz.func61 rfl rfl rfl rfl ?_
  refine .seq <| .region <| .cons (St1.boxP rfl rfl rfl rfl rfl rfl) <| .cons (.asg rfl rfl) <| .nil <| ks_n <| .seq <| .seq <| .region <| .cons (.fP 0 0 false rfl rfl) <| .cons (.l1 1 rfl rfl) <| .cons (.eq rfl rfl rfl) <| .nil <| ks_n ?_
  refine .cD rfl (fun h8 => ?_) (fun h8 => ?_)
  · skip
    refine .seq <| .region <| .cons (.fP 4 1 true rfl rfl) <| .cons (.lN 2 rfl rfl rfl) <| .cons (.li 89 1 0 [.tmp 10] rfl rfl rfl rfl rfl rfl) <| .cons (.asg rfl rfl) <| .nil <| ks_n <| .ret <| ks_r ?_
    refine kf_wret [(.t 2, .v (.o (vD (dCs (rdE e)))))] (Wk.keep [] rfl rfl ⟨ks rfl (.dt (by rw [rdE_eq, if_pos h8, leaf_nil hv (by omega)]; rfl)), trivial⟩) rfl ?_ nobox
    rfl
  · skip
    refine .skip <| ks_n <| .seq <| .region <| .cons (.asg rfl rfl) <| .nil <| ks_n <| .seq <| .seq <| .region <| .cons (.fP 6 0 false rfl rfl) <| .cons (.l1 1 rfl rfl) <| .cons (.ln 94 7 112 rfl rfl rfl) <| .cons (.mv rfl rfl) <| .nil <| ks_n <| .block ?_
    refine .loopK (fun m σ => (∃ i : Nat, m = e.ks.length - i ∧ (i ≤ e.ks.length) ∧ (rdEs (e.ks.take i) = []) ∧ σ = [(.t 1, .v (.o (.c (.ptr (rX e))))), (.t 2, .v (.o (.c (.d (.val (.slice none 0 0)))))), (.t 3, .v (.o (.c (.d (.val (.slice none 0 0)))))), (.t 13, .v (.o (vD (dEs e.ks)))), (.t 14, .v (.o (nat1 (e.ks.length : Nat)))), (.t 15, .v (.o (nat1 (i : Nat))))]) ∨ (∃ i : Nat, m = e.ks.length - i ∧ (i ≤ e.ks.length) ∧ (0 < (rdEs (e.ks.take i)).length) ∧ σ = [(.t 1, .v (.o (.c (.ptr (rX e))))), (.t 2, .v (.o (.c (.d (.val (.slice none 0 0)))))), (.t 3, .v (.o (.c (.own 110 2 ((rdEs (e.ks.take i)).length))))), (.t 13, .v (.o (vD (dEs e.ks)))), (.t 14, .v (.o (nat1 (e.ks.length : Nat)))), (.t 15, .v (.o (nat1 (i : Nat)))), (.b 110, .b 89 2 (dR ((rdEs (e.ks.take i)).map rC))), (.u 110, .u)])) [] (.inl ⟨0, rfl, by omega, by simp [rdEs], rfl⟩) ⟨ks rfl .dt, ks rfl .dt, ks rfl .dt, ks rfl .dt, ks rfl .dt, ks rfl .dt, trivial⟩ ?_
    rintro m σ (⟨i, hm0, hi, h0, rfl⟩ | ⟨i, hm0, hi, h0, rfl⟩)
    · skip
      refine .seq <| .region <| .cons (.ls rfl rfl rfl) <| .nil <| ks_n <| .seq ?_
      refine .cD rfl (fun h16 => ?_) (fun h16 => ?_)
      · skip
        obtain ⟨x, hx1⟩ : ∃ x, e.ks[i]? = some x := ⟨_, List.getElem?_eq_getElem (by omega)⟩
        have hmx := List.mem_of_getElem? hx1
        have hT := rdEs_take hx1
        have h64 := kids64 (i := i + 1) hcn
        refine .skip <| ks_n <| .seq <| .block <| .seq <| .region <| .cons (.xL 94 7 112 rfl rfl rfl rfl rfl (rE_at hx1)) ?_
        refine .cons (.lN 7 rfl rfl rfl) <| .cons (.al 105 [.int .i64 0, .int .i64 0, .slice none 0 0, .int .i64 0, .string ByteArray.empty, .slice none 0 0, .slice none 0 0] rfl rfl rfl) <| .cons (.sT 7 true rfl rfl rfl rfl rfl rfl rfl) <| .nil <| ks_n ?_
        by_cases hsp : rdE x = []
        · skip
          refine .region <| .cons (.mv rfl rfl) <| .cons (.bN 7 rfl rfl rfl rfl rfl rfl) <| .cons (.cP [.tmp 20] rfl rfl rfl rfl (ih x hmx) rfl) ?_
          refine .cons (St1.appNE (e := 89) (sz := 1) (by' := 40) rfl rfl rfl rfl rfl (by kernel_rfl) rfl (congrArg (fun l => some (V.o (vD (dCs l)))) hsp)) ?_
          refine .cons (.asg rfl rfl) <| .nil <| kb_n <| ks_n <| .region <| .cons (.pl rfl rfl rfl) <| .cons (.mv rfl rfl) <| .nil ?_
          refine kl_k [] (.inl ⟨i + 1, rfl, by omega, by rw [hT, h0, hsp]; rfl, rfl⟩) ⟨ks rfl .dt, ks rfl .dt, ks rfl .dt, ks rfl .dt, ks rfl .dt, ks rfl .dt, trivial⟩
        · skip
          refine .region <| .cons (.mv rfl rfl) <| .cons (.bN 7 rfl rfl rfl rfl rfl rfl) <| .cons (.cP [.tmp 20] rfl rfl rfl rfl (ih x hmx) rfl) ?_
          refine .cons (St1.appN (k' := 122) (e := 89) (sz := 1) (by' := 40) rfl rfl rfl rfl rfl (by kernel_rfl) rfl rfl rfl (by rw [List.length_map]; exact List.length_pos_iff.2 hsp) (by rw [hT, List.length_append] at h64; simp [dR]; omega) rfl rfl) ?_
          refine .cons (.asg rfl rfl) <| .nil <| kb_n <| ks_n <| .region <| .cons (.pl rfl rfl rfl) <| .cons (.mv rfl rfl) <| .nil ?_
          refine kl_k [(110, 122)] (.inr ⟨i + 1, rfl, by omega, by rw [hT, List.length_append]; have := List.length_pos_iff.2 hsp; omega, rfl⟩) ⟨ks rfl .dt, ks rfl .dt, ks rfl (.c (.ow (by first | (simp [rdEs]; done) | (rw [hT, List.length_append, List.length_map]; done) | (rw [hT, h0, List.length_map]; rfl) | (simp [hT, h0]; done)))), ks rfl .dt, ks rfl .dt, ks rfl .dt, kb 122 rfl (.dt rfl (by first | (rw [hT, ← dR_apC]; done) | (rw [hT, h0]; rfl) | (rw [hT, dR_apC]; done) | (simp [dR, hT, h0]; done))), trivial⟩
      · skip
        have hR : rdEs (e.ks.take i) = rdE e := by rw [List.take_of_length_le (by omega), rdE_eq, if_neg h8]; rfl
        refine .exit <| ks_e <| kl_e <| kb_hit <| ks_n <| .seq <| .region <| .cons (.mv rfl rfl) <| .cons (.asg rfl rfl) <| .nil <| ks_n <| .ret ?_
        refine kf_wret [(.t 2, .v (.o (vD (dCs (rdE e)))))] (Wk.keep [] rfl rfl ⟨ks rfl (.c (Cto.nilE 2 (by rw [← hR, h0]; rfl))), trivial⟩) rfl ?_ nobox
        rfl
    · skip
      refine .seq <| .region <| .cons (.ls rfl rfl rfl) <| .nil <| ks_n <| .seq ?_
      refine .cD rfl (fun h16 => ?_) (fun h16 => ?_)
      · skip
        obtain ⟨x, hx1⟩ : ∃ x, e.ks[i]? = some x := ⟨_, List.getElem?_eq_getElem (by omega)⟩
        have hmx := List.mem_of_getElem? hx1
        have hT := rdEs_take hx1
        have h64 := kids64 (i := i + 1) hcn
        refine .skip <| ks_n <| .seq <| .block <| .seq <| .region <| .cons (.xL 94 7 112 rfl rfl rfl rfl rfl (rE_at hx1)) ?_
        refine .cons (.lN 7 rfl rfl rfl) <| .cons (.al 105 [.int .i64 0, .int .i64 0, .slice none 0 0, .int .i64 0, .string ByteArray.empty, .slice none 0 0, .slice none 0 0] rfl rfl rfl) <| .cons (.sT 7 true rfl rfl rfl rfl rfl rfl rfl) <| .nil <| ks_n <| .region <| .cons (.mv rfl rfl) <| .cons (.bN 7 rfl rfl rfl rfl rfl rfl) <| .cons (.cP [.tmp 20] rfl rfl rfl rfl (ih x hmx) rfl) ?_
        refine .cons (St1.appB (k' := 122) (e := 89) (sz := 1) (by' := 40) rfl rfl rfl rfl rfl (by kernel_rfl) rfl rfl rfl rfl (by simp [dR]) (by rw [hT, List.length_append] at h64; simp [dR]; omega) rfl rfl rfl) ?_
        refine .cons (.asg rfl rfl) <| .nil <| kb_n <| ks_n <| .region <| .cons (.pl rfl rfl rfl) <| .cons (.mv rfl rfl) <| .nil ?_
        refine kl_k [(110, 122)] (.inr ⟨i + 1, rfl, by omega, by rw [hT, List.length_append]; omega, rfl⟩) ⟨ks rfl .dt, ks rfl .dt, ks rfl (.c (.ow (by first | (simp [rdEs]; done) | (rw [hT, List.length_append, List.length_map]; done) | (rw [hT, h0, List.length_map]; rfl) | (simp [hT, h0]; done)))), ks rfl .dt, ks rfl .dt, ks rfl .dt, kb 122 rfl (.dt rfl (by first | (rw [hT, ← dR_apC]; done) | (rw [hT, h0]; rfl) | (rw [hT, dR_apC]; done) | (simp [dR, hT, h0]; done))), trivial⟩
      · skip
        have hR : rdEs (e.ks.take i) = rdE e := by rw [List.take_of_length_le (by omega), rdE_eq, if_neg h8]; rfl
        refine .exit <| ks_e <| kl_e <| kb_hit <| ks_n <| .seq <| .region <| .cons (.mv rfl rfl) <| .cons (.asg rfl rfl) <| .nil <| ks_n <| .ret ?_
        refine kf_wret [(.t 2, .v (.o (vD (dCs (rdE e)))))] (Wk.keep [] rfl rfl ⟨ks rfl (.c (.fz rfl (by rw [hR]) (by rw [hR, List.length_map]) (by have := rdE_len e; first | omega | (rw [hR]; omega)))), trivial⟩) rfl ?_ nobox
        rfl

theorem reads_fn {d : Nat} : ∀ {L : Nat} (e : Ex), L ≤ 6 → exV d L e = true → Fn Tryz.prog 61 [] [ad (rX e)] (.o (vD (dCs (rdE e)))) []
  | 0, e, hL, h => by cases h
  | L + 1, e, hL, h => reads_one e h (cnt64 h hL) fun x hx => reads_fn (L := L) x (by omega) ((exV_kids h).2 x hx)
/-- A statement that is valid somewhere. -/
theorem stmtV_ex {d : Int} {s : Stm} (h : stmtV d s = true) : exV d.toNat 5 s.2 = true ∧ accV d.toNat s.1 = true ∧ cntE s.2 ≤ 12 ∧ 0 ≤ d ∧ d ≤ 4 := by
  rw [stmtV, Bool.and_eq_true, Bool.and_eq_true, Bool.and_eq_true, decide_eq_true_eq, inB, decide_eq_true_eq] at h
  exact ⟨h.2.1.2, h.2.1.1, h.2.2, h.1⟩
theorem sameE_eq (x y : Ex) : sameE x y = (decide (x.k = y.k) && decide (x.n = y.n) && decide (x.i = y.i) && sameC x.r y.r && sameEs x.ks y.ks) := by
  cases x; cases y
  rw [sameE, sameC]
  simp only [Ex.k, Ex.n, Ex.i, Ex.r, Ex.ks, Bool.and_assoc]
  congr 3
  rw [← Bool.and_assoc, ← Bool.and_assoc]
  congr 1
  exact Bool.and_comm _ _
theorem eqF_sameE : ∀ a b : List Ex, eqF sameE a b = sameEs a b
  | [], [] => rfl
  | [], _ :: _ => rfl
  | _ :: _, [] => rfl
  | x :: a, y :: b => by rw [eqF, sameEs, eqF_sameE a b]







theorem idx_acc {f : FuncId} {cap : List (List D)} (hc : callable Tryz.prog f = true) (p : Acc → Bool) (xs : List Acc) (hx : xs.length ≤ 1099511627776) (hf : ∀ x ∈ xs, Fn Tryz.prog f [] (ad (rC x) :: cap.map fun c => .c (.ptr c)) (.o (bo1 (p x))) []) : Fn Tryz.prog 195 [] [vD (dCs xs), .c (.fn f cap)] (.o (nat1 (idxF p xs))) [] := by
 refine Fn.code0 Tryz.func195 rfl rfl rfl rfl ?_
 refine .seq <| .region <| .cons (.asg rfl rfl) <| .nil <| ks_n <| .seq <| .seq <| .region <| .cons (.mv rfl rfl) <| .cons (.ln 89 2 40 rfl rfl rfl) <| .cons (.mv rfl rfl) <| .nil <| ks_n <| .block ?_
 refine .loopK (fun m σ => (∃ i : Nat, m = xs.length - i ∧ (i ≤ xs.length) ∧ (idxF p xs = idxG p i (xs.drop i)) ∧ σ = [(.t 0, .v (.o (vD (dCs xs)))), (.t 1, .v (.o (.c (.fn f cap)))), (.t 7, .v (.o (nat1 (xs.length : Nat)))), (.t 8, .v (.o (nat1 (i : Nat))))])) [] ⟨0, rfl, by omega, rfl, rfl⟩ ⟨ks rfl .dt, ks rfl .dt, ks rfl .dt, ks rfl .dt, trivial⟩ ?_
 rintro m σ ⟨i, hm0, hi, hF, rfl⟩
 refine .seq <| .region <| .cons (.ls rfl rfl rfl) <| .nil <| ks_n <| .seq ?_
 refine .cD rfl (fun h9 => ?_) (fun h9 => ?_)
 ·skip
  obtain ⟨x, hx1⟩ : ∃ x, xs[i]? = some x := ⟨_, List.getElem?_eq_getElem (by omega)⟩
  refine .skip <| ks_n <| .seq <| .block <| .seq <| .region <| .cons (.mv rfl rfl) <| .cons (.asg rfl rfl) <| .nil <| ks_n <| .seq <| .region <| .cons (.mv rfl rfl) <| .cons (.mv rfl rfl) <| .cons (.mv rfl rfl) <| .cons (.xL 89 2 40 rfl rfl rfl rfl rfl) ?_
  refine .cons (.lN 2 rfl rfl rfl) <| .cons (.cP [.tmp 15] rfl rfl rfl rfl (hf x (List.mem_of_getElem? hx1)) rfl hc) ?_
  refine .nil <| ks_n ?_
  refine ACode.condT rfl (fun h16 => ?_) (fun h16 => ?_)
  ·try simp only [zs1, zs2, zs3, zs4, zs5, zs6, zs7] at h16
   refine .seq <| .region <| .cons (.mv rfl rfl) <| .cons (.asg rfl rfl) <| .nil <| ks_n <| .ret <| kb_r <| ks_r <| kl_r <| kb_r <| ks_r ?_
   refine kf_ret rfl ?_ nobox
   exact leafI (by rw [hF, idxG_drop hx1, h16]; rfl)
  ·try simp only [zs1, zs2, zs3, zs4, zs5, zs6, zs7] at h16
   refine .skip <| kb_n <| ks_n <| .region <| .cons (.pl rfl rfl rfl) <| .cons (.mv rfl rfl) <| .nil ?_
   refine kl_k [] ⟨i + 1, rfl, by omega, by rw [hF, idxG_drop hx1, h16]; rfl, rfl⟩ ⟨ks rfl .dt, ks rfl .dt, ks rfl .dt, ks rfl .dt, trivial⟩
 ·skip
  refine .exit <| ks_e <| kl_e <| kb_hit <| ks_n <| .seq <| .region <| .cons (.asg rfl rfl) <| .nil <| ks_n <| .ret ?_
  refine kf_ret rfl ?_ nobox
  exact leafI (by rw [hF, List.drop_of_length_le (by omega)]; rfl)

theorem cnt_acc {f : FuncId} {cap : List (List D)} (hc : callable Tryz.prog f = true) (p : Acc → Bool) (xs : List Acc) (hx : xs.length ≤ 1099511627776) (hf : ∀ x ∈ xs, Fn Tryz.prog f [] (ad (rC x) :: cap.map fun c => .c (.ptr c)) (.o (bo1 (p x))) []) : Fn Tryz.prog 151 [] [vD (dCs xs), .c (.fn f cap)] (.o (bo1 (xs.any p))) [] := by
  refine Fn.code0 Tryz.func151 rfl rfl rfl rfl ?_
  refine .seq <| .region <| .cons (.asg rfl rfl) <| .nil <| ks_n <| .seq <| .region <| .cons (.mv rfl rfl) <| .cons (.mv rfl rfl) <| .cons (.cP [.tmp 5, .tmp 6] rfl rfl rfl rfl (idx_acc hc p xs hx hf) rfl) ?_
  refine .cons (.ge rfl rfl rfl) <| .cons (.asg rfl rfl) <| .nil <| ks_n <| .ret ?_
  refine kf_ret rfl ?_ nobox
  exact leafB idxG_any
def hbL (k : Nat) (l : List Acc) : St := [(.b k, .b 89 2 (dR (l.map rC))), (.u k, .u)]
theorem rdEs_le : ∀ {l : List Ex} {i : Nat}, (rdEs (l.take i)).length ≤ (rdEs l).length
  | [], i => by simp [rdEs]
  | y :: l, 0 => by simp [rdEs]
  | y :: l, i + 1 => by
    rw [List.take_succ_cons, rdEs, rdEs, List.length_append, List.length_append]
    have := rdEs_le (l := l) (i := i)
    omega
theorem hbL_HB (k : Nat) (l : List Acc) : HB (hbL k l) := HB.nil.data
theorem hbL_flat (k : Nat) (l : List Acc) : flatS (hbL k l) := flatS.nil.cons rfl

theorem l3Reads_one (l : List Acc) (e : Ex) (hi3 : e.r.2.length ≤ 1073741824) (hq3 : ∀ x ∈ e.r.2, x.1.length ≤ 1073741824) (hkl : e.ks.length ≤ 1099511627776) (hln : l.length + (rdE e).length ≤ 1073741824) (ih : ∀ x ∈ e.ks, ∀ l : List Acc, l.length + (rdE x).length ≤ 1073741824 → Fn Tryz.prog 93 (hbL 0 l) [.c (.own 0 2 l.length), ad (rX x)] (.o (.c (.own 1000 2 (l ++ rdE x).length))) (hbL 1000 (l ++ rdE x))) : Fn Tryz.prog 93 (hbL 0 l) [.c (.own 0 2 l.length), ad (rX e)] (.o (.c (.own 1000 2 (l ++ rdE e).length))) (hbL 1000 (l ++ rdE e)) := by
 have hrd := rdE_eq e
 have hbl : (rdE e).length = (if e.k = 3 then [e.r] else []).length + (rdEs e.ks).length := by rw [hrd, List.length_append]
 refine Fn.of_code Tryz.func93 rfl rfl (hbL_HB _ _) rfl rfl (hbL_HB _ _) rfl (one_num rfl) ?_
 refine .seq <| .region <| .cons (St1.boxP rfl rfl rfl rfl rfl rfl) <| .cons (.asg rfl rfl) <| .nil <| ks_n <| .seq ?_
 refine ACode.cut [(.t 0, .v (.o (.c (.own 1710 2 ((l ++ (if e.k = 3 then [e.r] else [])).length))))), (.t 3, .v (.o (.c (.ptr (rX e))))), (.t 4, .v (.o (.c (.d (.val (.slice none 0 0)))))), (.b 1710, .b 89 2 (dR ((l ++ (if e.k = 3 then [e.r] else [])).map rC))), (.u 1710, .u)] ?_ ?_
 ·skip
  refine .seq <| .region <| .cons (.fP 0 0 false rfl rfl) <| .cons (.l1 1 rfl rfl) <| .cons (.eq rfl rfl rfl) <| .nil <| ks_n ?_
  refine .cD rfl (fun h8 => ?_) (fun h8 => ?_)
  ·skip
   refine .region <| .cons (.mv rfl rfl) <| .cons (.fP 4 1 true rfl rfl) <| .cons (.lN 2 rfl rfl rfl) <| .cons (.cP [.tmp 11] rfl rfl rfl rfl (l3CopyAcc_fn _ hi3 hq3) rfl) ?_
   refine .cons (.li 89 1 0 [.tmp 12] rfl rfl rfl rfl rfl rfl) <| .cons (St1.appB (k' := 1014) (e := 89) (sz := 1) (by' := 40) rfl rfl rfl rfl rfl (by kernel_rfl) rfl rfl rfl rfl (by simp [dR]) (by rw [if_pos h8] at hbl; simp [dR] at hbl ⊢; omega) rfl rfl rfl) ?_
   refine .cons (.asg rfl rfl) <| .nil ?_
   exact kc_n (Wk.keep [(1710, 1014)] rfl rfl ⟨ks rfl (.c (.ow (by first | rfl | omega | (simp; done) | (simp; omega) | (simp [*]; done) | (simp [*]; omega) | (simp [rdEs]; done) | (rw [hT]; simp; omega) | (rw [hT]; simp [Nat.add_assoc]; done)))), ks rfl .dt, ks rfl .dt, kb 1014 rfl (.dt rfl (by first | rfl | (rw [if_pos h8, ← dR_apC]; rfl) | (rw [if_neg h8, List.append_nil]; done) | (simp only [dR_apC]; simp [hT, List.append_assoc]; done) | (rw [hT, ← List.append_assoc]; done) | (simp [rdEs]; done))), trivial⟩)
  ·skip
   refine .skip ?_
   exact kc_n (Wk.keep [(1710, 0)] rfl rfl ⟨ks rfl (.c (.ow (by first | rfl | omega | (simp; done) | (simp; omega) | (simp [*]; done) | (simp [*]; omega) | (simp [rdEs]; done) | (rw [hT]; simp; omega) | (rw [hT]; simp [Nat.add_assoc]; done)))), ks rfl .dt, ks rfl .dt, kb 0 rfl (.dt rfl (by first | rfl | (rw [if_pos h8, ← dR_apC]; rfl) | (rw [if_neg h8, List.append_nil]; done) | (simp only [dR_apC]; simp [hT, List.append_assoc]; done) | (rw [hT, ← List.append_assoc]; done) | (simp [rdEs]; done))), trivial⟩)
 refine ks_n <| .seq <| .seq <| .region <| .cons (.asg rfl rfl) <| .nil <| ks_n <| .block ?_
 refine .loopK (fun m σ => (∃ i : Nat, m = e.ks.length - i ∧ (i ≤ e.ks.length) ∧ (True) ∧ σ = [(.t 0, .v (.o (.c (.own 1010 2 ((l ++ (if e.k = 3 then [e.r] else []) ++ rdEs (e.ks.take i)).length))))), (.t 3, .v (.o (.c (.ptr (rX e))))), (.t 4, .v (.o (.c (.d (.val (.slice none 0 0)))))), (.t 5, .v (.o (nat1 (i : Nat)))), (.b 1010, .b 89 2 (dR ((l ++ (if e.k = 3 then [e.r] else []) ++ rdEs (e.ks.take i)).map rC))), (.u 1010, .u)])) [(1010, 1710)] ⟨0, rfl, by omega, trivial, rfl⟩ ⟨ks rfl (.c (.ow (by first | rfl | omega | (simp; done) | (simp; omega) | (simp [*]; done) | (simp [*]; omega) | (simp [rdEs]; done) | (rw [hT]; simp; omega) | (rw [hT]; simp [Nat.add_assoc]; done)))), ks rfl .dt, ks rfl .dt, ks rfl .dt, kb 1710 rfl (.dt rfl (by first | rfl | (rw [if_pos h8, ← dR_apC]; rfl) | (rw [if_neg h8, List.append_nil]; done) | (simp only [dR_apC]; simp [hT, List.append_assoc]; done) | (rw [hT, ← List.append_assoc]; done) | (simp [rdEs]; done))), trivial⟩ ?_
 rintro m σ ⟨i, hm0, hi, hF, rfl⟩
 refine .seq <| .seq <| .region <| .cons (.mv rfl rfl) <| .cons (.fP 6 0 false rfl rfl) <| .cons (.l1 1 rfl rfl) <| .cons (.ln 94 7 112 rfl rfl rfl) <| .cons (.ls rfl rfl rfl) <| .nil <| ks_n ?_
 refine .cD rfl (fun h19 => ?_) (fun h19 => ?_)
 ·skip
  obtain ⟨x, hx1⟩ : ∃ x, e.ks[i]? = some x := ⟨_, List.getElem?_eq_getElem (by omega)⟩
  have hT := rdEs_take hx1
  have hle := rdEs_le (l := e.ks) (i := i + 1)
  have hnx : (l ++ (if e.k = 3 then [e.r] else []) ++ rdEs (e.ks.take i)).length + (rdE x).length ≤ 1073741824 := by rw [hT, List.length_append] at hle; simp only [List.length_append]; omega
  refine .skip <| ks_n <| .seq <| .block <| .region <| .cons (.mv rfl rfl) <| .cons (.fP 6 0 false rfl rfl) <| .cons (.l1 1 rfl rfl) <| .cons (.mv rfl rfl) <| .cons (.xL 94 7 112 rfl rfl rfl rfl rfl (rE_at hx1)) ?_
  refine .cons (.lN 7 rfl rfl rfl) <| .cons (.cO [.tmp 22, .tmp 27] [(0, 1010), (1000, 1028)] rfl rfl rfl rfl (ih x (List.mem_of_getElem? hx1) (l ++ (if e.k = 3 then [e.r] else []) ++ rdEs (e.ks.take i)) hnx) rfl ⟨(by rw [renR_dR]; rfl), trivial⟩ (hbL_flat _ _) (hbL_flat _ _) (hbL_HB _ _) outS_one) ?_
  refine .cons (.asg rfl rfl) <| .nil <| kb_n <| ks_n <| .region <| .cons (.mv rfl rfl) <| .cons (.pl rfl rfl rfl) <| .cons (.asg rfl rfl) <| .nil ?_
  refine kl_k [(1010, 1028)] ⟨i + 1, rfl, by omega, trivial, rfl⟩ ⟨ks rfl (.c (.ow (by first | rfl | omega | (simp; done) | (simp; omega) | (simp [*]; done) | (simp [*]; omega) | (simp [rdEs]; done) | (rw [hT]; simp; omega) | (rw [hT]; simp [Nat.add_assoc]; done)))), ks rfl .dt, ks rfl .dt, ks rfl .dt, kb 1028 rfl (.dt rfl (by first | rfl | (rw [if_pos h8, ← dR_apC]; rfl) | (rw [if_neg h8, List.append_nil]; done) | (simp only [dR_apC]; simp [hT, List.append_assoc]; done) | (rw [hT, ← List.append_assoc]; done) | (simp [rdEs]; done))), trivial⟩
 ·skip
  have hall : l ++ (if e.k = 3 then [e.r] else []) ++ rdEs (e.ks.take i) = l ++ rdE e := by rw [List.take_of_length_le (by omega), hrd, List.append_assoc]
  refine .exit <| ks_e <| kl_e <| kb_hit <| ks_n <| .seq <| .region <| .cons (.mv rfl rfl) <| .cons (.asg rfl rfl) <| .nil <| ks_n <| .ret ?_
  refine kf_wret [(.t 4, .v (.o (.c (.own 1000 2 ((l ++ rdE e).length))))), (.b 1000, .b 89 2 (dR ((l ++ rdE e).map rC))), (.u 1000, .u)] (Wk.keep [(1000, 1010)] rfl rfl ⟨ks rfl (.c (.ow (by rw [hall]))), kb 1010 rfl (.dt rfl (by rw [hall])), trivial⟩) rfl ?_ (one_box rfl)
  rfl

theorem l3Reads_fn : ∀ e : Ex, szE e ≤ 1073741824 → ∀ l : List Acc, l.length + (rdE e).length ≤ 1073741824 → Fn Tryz.prog 93 (hbL 0 l) [.c (.own 0 2 l.length), ad (rX e)] (.o (.c (.own 1000 2 (l ++ rdE e).length))) (hbL 1000 (l ++ rdE e)) := by
  intro e
  induction e using Ex.rec' with
  | h e ih =>
    intro hs l hl
    have h1 := hs
    rw [szE_eq, szC] at h1
    have := szAs_len e.r.2
    exact l3Reads_one l e (by omega) (fun x hx => by have := szAs_mem hx; omega) (by omega) hl fun x hx l hl => ih x hx (by have := szEs_mem hx; omega) l hl




/-- An array, a part, a program, an instance. -/
abbrev Arr := ByteArray × List Int
def rR (a : Arr) : List D := [dS a.1, dIs a.2]
def dRs (l : List Arr) : D := .list 2 (l.map rR)
def dMs (l : List Stm) : D := .list 9 (l.map rS)
abbrev Prt := List Lp × List Stm
def rP (p : Prt) : List D := [dLs p.1, dMs p.2]
def dPts (l : List Prt) : D := .list 2 (l.map rP)
abbrev Prg := List Arr × List Prt
def rG (g : Prg) : List D := [dRs g.1, dPts g.2]
abbrev Ins := Int × Int × List Int
def rN (x : Ins) : List D := [dI x.1, dI x.2.1, dIs x.2.2]
def dNs (l : List Ins) : D := .list 3 (l.map rN)

/-- Arrays: names in order, dimensions within the limits. -/
def dimV (n : Int) : Bool := inB n 1 6
def arrOk (a : Arr) : Bool := arrV a.1 && (decide (1 ≤ a.2.length ∧ a.2.length ≤ 2) && a.2.all dimV)
def lastV (l : List Arr) (i : Nat) (a : Arr) : Bool := match l[i]? with | some b => sLt b.1 a.1 | none => true
def arrAt (l : List Arr) (i : Nat) : Bool := match l[i]? with
  | none => true
  | some a => arrOk a && (decide (i = 0) || lastV l (i - 1) a)
def arrsV (l : List Arr) : Bool := (List.range l.length).all (arrAt l) && decide (l.length ≤ 4)
theorem arrAt_eq {l : List Arr} {i : Nat} {a : Arr} (h : l[i]? = some a) : arrAt l i = (arrOk a && (decide (i = 0) || lastV l (i - 1) a)) := by rw [arrAt, h]
theorem lastV_eq {l : List Arr} {i : Nat} {a b : Arr} (h : l[i]? = some b) : lastV l i a = sLt b.1 a.1 := by rw [lastV, h]
theorem arrsV_bad {l : List Arr} {i : Nat} (hi : i < l.length) (h : arrAt l i = false) : arrsV l = false := by
  rw [arrsV, Bool.and_eq_false_iff]
  refine .inl (Bool.eq_false_iff.2 fun h2 => ?_)
  have := List.all_eq_true.1 h2 i (List.mem_range.2 hi)
  rw [h] at this; cases this
theorem arrsV_end {l : List Arr} (h : ∀ j, j < l.length → arrAt l j = true) : arrsV l = decide (l.length ≤ 4) := by
  rw [arrsV, show (List.range l.length).all (arrAt l) = true from List.all_eq_true.2 fun j hj => h j (List.mem_range.1 hj), Bool.true_and]
theorem arrsV_at {l : List Arr} (h : arrsV l = true) {a : Arr} (ha : a ∈ l) : arrOk a = true := by
  obtain ⟨i, hi⟩ := List.mem_iff_getElem?.1 ha
  rw [arrsV, Bool.and_eq_true] at h
  have := List.all_eq_true.1 h.1 i (List.mem_range.2 (List.getElem?_eq_some_iff.1 hi).1)
  rw [arrAt_eq hi, Bool.and_eq_true] at this
  exact this.1
theorem arrsV_len {l : List Arr} (h : arrsV l = true) : l.length ≤ 4 := by
  rw [arrsV, Bool.and_eq_true] at h; exact of_decide_eq_true h.2
theorem arrOk_at {a : Arr} (h : arrOk a = true) : (1 ≤ a.2.length ∧ a.2.length ≤ 2) ∧ ∀ d ∈ a.2, 1 ≤ d ∧ d ≤ 6 := by
  rw [arrOk, Bool.and_eq_true, Bool.and_eq_true] at h
  exact ⟨of_decide_eq_true h.2.1, fun d hd => of_decide_eq_true (List.all_eq_true.1 h.2.2 d hd)⟩
/-- A product of k numbers from 1 to 6 at the most. -/
def B6 (k : Nat) (n : Int) : Prop := 0 ≤ n ∧ ((k = 0 ∧ n ≤ 1) ∨ (k = 1 ∧ n ≤ 6) ∨ (k = 2 ∧ n ≤ 36))
theorem B6.bd {k : Nat} {n : Int} (h : B6 k n) : 0 ≤ n ∧ n ≤ 36 := by unfold B6 at h; omega
theorem mul_b6 {n d A : Int} (h0 : 0 ≤ n) (h1 : n ≤ A) (h2 : 0 ≤ d) (h3 : d ≤ 6) : 0 ≤ n * d ∧ n * d ≤ A * 6 :=
  ⟨Int.mul_nonneg h0 h2, Int.le_trans (Int.mul_le_mul_of_nonneg_right h1 h2) (Int.mul_le_mul_of_nonneg_left h3 (Int.le_trans h0 h1))⟩
theorem B6.mul {k : Nat} {n d : Int} (h : B6 k n) (hd : 1 ≤ d ∧ d ≤ 6) (hk : k < 2) : B6 (k + 1) (n * d) := by
  obtain ⟨h0, h | h | h⟩ := h
  · have := mul_b6 h0 h.2 (by omega) hd.2; unfold B6; omega
  · have := mul_b6 h0 h.2 (by omega) hd.2; unfold B6; omega
  · omega
theorem B6.at {k : Nat} {n d v : Int} (h0 : 0 ≤ n) (h : B6 k (n + 1)) (hd : 1 ≤ d ∧ d ≤ 6) (hk : k < 2) (hv : 0 ≤ v ∧ v ≤ d - 1) : 0 ≤ n * d ∧ n * d + v + 1 ≤ 36 ∧ 0 ≤ n * d + v ∧ B6 (k + 1) (n * d + v + 1) := by
  have h1 := h.mul hd hk
  have e : (n + 1) * d = n * d + d := by rw [Int.add_mul, Int.one_mul]
  rw [e] at h1
  have h2 := Int.mul_nonneg h0 (show 0 ≤ d by omega)
  have h3 := h1.bd
  refine ⟨h2, by omega, by omega, ?_⟩
  unfold B6 at h1 ⊢; omega
def sizeF (n : Int) (l : List Int) : Int := l.foldl (· * ·) n
def sizeA (l : List Int) : Int := sizeF 1 l
theorem sizeF_drop {l : List Int} {i : Nat} {d : Int} {n : Int} (h : l[i]? = some d) : sizeF n (l.drop i) = sizeF (n * d) (l.drop (i + 1)) := by
  obtain ⟨hi, rfl⟩ := List.getElem?_eq_some_iff.1 h
  rw [List.drop_eq_getElem_cons hi]; rfl
theorem sizeF_end {l : List Int} {i : Nat} {n : Int} (h : l.length ≤ i) : sizeF n (l.drop i) = n := by rw [List.drop_of_length_le h]; rfl
theorem sizeA_bd {a : Arr} (h : arrOk a = true) : 0 ≤ sizeA a.2 ∧ sizeA a.2 ≤ 36 := by
  obtain ⟨h1, h2⟩ := arrOk_at h
  have key : ∀ (l : List Int) (k : Nat) (n : Int), B6 k n → k + l.length ≤ 2 → (∀ d ∈ l, 1 ≤ d ∧ d ≤ 6) → 0 ≤ sizeF n l ∧ sizeF n l ≤ 36 := by
    intro l
    induction l with
    | nil => intro k n hb _ _; exact hb.bd
    | cons d l ih =>
      intro k n hb hk hd
      rw [List.length_cons] at hk
      exact ih (k + 1) (n * d) (hb.mul (hd d (by simp)) (by omega)) (by omega) fun d hd' => hd d (by simp [hd'])
  exact key a.2 0 1 (by unfold B6; omega) (by omega) h2
/-- The place of an element within its array, or -1. -/
def atG (p : List Int) : List Int → List Aff → Int → Int
  | d :: ds, s :: ss, n => if inB (affEval s p) 0 (d - 1) = true then atG p ds ss (n * d + affEval s p) else -1
  | _, _, n => n
theorem atG_yes {p : List Int} {ds : List Int} {ss : List Aff} {i : Nat} {d : Int} {s : Aff} {n : Int} (hd : ds[i]? = some d) (hs : ss[i]? = some s) (h : inB (affEval s p) 0 (d - 1) = true) : atG p (ds.drop i) (ss.drop i) n = atG p (ds.drop (i + 1)) (ss.drop (i + 1)) (n * d + affEval s p) := by
  obtain ⟨hi, rfl⟩ := List.getElem?_eq_some_iff.1 hd
  obtain ⟨hj, rfl⟩ := List.getElem?_eq_some_iff.1 hs
  rw [List.drop_eq_getElem_cons hi, List.drop_eq_getElem_cons hj, atG, if_pos h]
theorem atG_no {p : List Int} {ds : List Int} {ss : List Aff} {i : Nat} {d : Int} {s : Aff} {n : Int} (hd : ds[i]? = some d) (hs : ss[i]? = some s) (h : ¬ inB (affEval s p) 0 (d - 1) = true) : atG p (ds.drop i) (ss.drop i) n = -1 := by
  obtain ⟨hi, rfl⟩ := List.getElem?_eq_some_iff.1 hd
  obtain ⟨hj, rfl⟩ := List.getElem?_eq_some_iff.1 hs
  rw [List.drop_eq_getElem_cons hi, List.drop_eq_getElem_cons hj, atG, if_neg h]
theorem atG_end {p : List Int} {ds : List Int} {ss : List Aff} {i : Nat} {n : Int} (h : ss.length ≤ i) : atG p (ds.drop i) (ss.drop i) n = n := by
  rw [List.drop_of_length_le h, atG]; intros; contradiction
def cellG (a : Acc) (p : List Int) : List Arr → Int → Int
  | [], _ => -1
  | x :: l, base => if sEq x.1 a.1 = true then (if a.2.length = x.2.length then (if atG p x.2 a.2 0 = -1 then -1 else base + atG p x.2 a.2 0) else -1) else cellG a p l (base + sizeA x.2)
theorem cellG_next {a : Acc} {p : List Int} {l : List Arr} {i : Nat} {x : Arr} {b : Int} (hx : l[i]? = some x) (h : sEq x.1 a.1 = false) : cellG a p (l.drop i) b = cellG a p (l.drop (i + 1)) (b + sizeA x.2) := by
  obtain ⟨hi, rfl⟩ := List.getElem?_eq_some_iff.1 hx
  rw [List.drop_eq_getElem_cons hi, cellG, if_neg (by rw [h]; simp)]
theorem cellG_len {a : Acc} {p : List Int} {l : List Arr} {i : Nat} {x : Arr} {b : Int} (hx : l[i]? = some x) (h : sEq x.1 a.1 = true) (hl : ¬ a.2.length = x.2.length) : cellG a p (l.drop i) b = -1 := by
  obtain ⟨hi, rfl⟩ := List.getElem?_eq_some_iff.1 hx
  rw [List.drop_eq_getElem_cons hi, cellG, if_pos h, if_neg hl]
theorem cellG_at {a : Acc} {p : List Int} {l : List Arr} {i : Nat} {x : Arr} {b : Int} (hx : l[i]? = some x) (h : sEq x.1 a.1 = true) (hl : a.2.length = x.2.length) : cellG a p (l.drop i) b = if atG p x.2 a.2 0 = -1 then -1 else b + atG p x.2 a.2 0 := by
  obtain ⟨hi, rfl⟩ := List.getElem?_eq_some_iff.1 hx
  rw [List.drop_eq_getElem_cons hi, cellG, if_pos h, if_pos hl]
theorem cellG_end {a : Acc} {p : List Int} {l : List Arr} {i : Nat} {b : Int} (h : l.length ≤ i) : cellG a p (l.drop i) b = -1 := by rw [List.drop_of_length_le h]; rfl
def accG (ar : List Arr) (p : List Int) (a : Acc) : Bool := decide (0 ≤ cellG a p ar 0)
def stmG (ar : List Arr) (s : Stm) (p : List Int) : Bool := accG ar p s.1 && (rdE s.2).all (accG ar p)
def ptG' (ar : List Arr) (b : List Stm) (p : List Int) : Bool := isPt p && b.all fun s => stmG ar s p
def prtV (ar : List Arr) (q : Prt) : Bool := okP q.1 && (decide (1 ≤ q.2.length ∧ q.2.length ≤ 4) && (q.2.all (stmtV (q.1.length : Nat)) && (npR q.1).all (ptG' ar q.2)))
theorem prtV_eq {ar : List Arr} {q : Prt} (h1 : okP q.1 = true) (h2 : 1 ≤ q.2.length ∧ q.2.length ≤ 4) (h3 : q.2.all (stmtV (q.1.length : Nat)) = true) : prtV ar q = (npR q.1).all (ptG' ar q.2) := by
  rw [prtV, h1, decide_eq_true h2, h3]; rfl
theorem prtV_iff {ar : List Arr} {q : Prt} : prtV ar q = true ↔ okP q.1 = true ∧ (1 ≤ q.2.length ∧ q.2.length ≤ 4) ∧ (∀ s ∈ q.2, stmtV (q.1.length : Nat) s = true) ∧ ∀ p ∈ npR q.1, isPt p = true ∧ ∀ s ∈ q.2, stmG ar s p = true := by
  simp only [prtV, ptG', Bool.and_eq_true, decide_eq_true_eq, List.all_eq_true]
theorem prtV_f1 {ar : List Arr} {q : Prt} (h : okP q.1 = false) : prtV ar q = false := by rw [prtV, h]; rfl
theorem prtV_f2 {ar : List Arr} {q : Prt} (h : ¬ (1 ≤ q.2.length ∧ q.2.length ≤ 4)) : prtV ar q = false := Bool.eq_false_iff.2 fun h2 => h (prtV_iff.1 h2).2.1
theorem prtV_f3 {ar : List Arr} {q : Prt} {s : Stm} (hs : s ∈ q.2) (h : stmtV (q.1.length : Nat) s = false) : prtV ar q = false := Bool.eq_false_iff.2 fun h2 => by
  have := (prtV_iff.1 h2).2.2.1 s hs; rw [h] at this; cases this
theorem prtV_f4 {ar : List Arr} {q : Prt} {p : List Int} (hp : p ∈ npR q.1) (h : isPt p = false) : prtV ar q = false := Bool.eq_false_iff.2 fun h2 => by
  have := ((prtV_iff.1 h2).2.2.2 p hp).1; rw [h] at this; cases this
theorem prtV_f5 {ar : List Arr} {q : Prt} {p : List Int} {s : Stm} (hp : p ∈ npR q.1) (hs : s ∈ q.2) (h : stmG ar s p = false) : prtV ar q = false := Bool.eq_false_iff.2 fun h2 => by
  have := ((prtV_iff.1 h2).2.2.2 p hp).2 s hs; rw [h] at this; cases this
/-- The instances. -/
def rowI (k m : Nat) (p : List Int) : List Ins := (List.range m).map fun (i : Nat) => ((k : Int), (i : Int), p)
def insT (k m : Nat) (l : Pts) : List Ins := l.flatMap (rowI k m)
def insP (k : Nat) (q : Prt) : List Ins := insT k q.2.length (npR q.1)
def insG : Nat → List Prt → List Ins
  | _, [] => []
  | k, q :: l => insP k q ++ insG (k + 1) l
theorem rowI_len {k m : Nat} {p : List Int} : (rowI k m p).length = m := by simp [rowI]
theorem rowI_snoc {k m : Nat} {p : List Int} : rowI k (m + 1) p = rowI k m p ++ [((k : Int), (m : Int), p)] := by rw [rowI, List.range_succ, List.map_append]; rfl
theorem rowI_zero {k : Nat} {p : List Int} : rowI k 0 p = [] := rfl
theorem insT_len {k m : Nat} : ∀ {l : Pts}, (insT k m l).length = l.length * m
  | [] => by simp [insT]
  | p :: l => by
    have := insT_len (k := k) (m := m) (l := l)
    rw [insT] at this ⊢
    rw [List.flatMap_cons, List.length_append, this, rowI_len, List.length_cons, Nat.add_mul, Nat.one_mul, Nat.add_comm]
theorem insT_take {k m : Nat} {l : Pts} {i : Nat} {p : List Int} (h : l[i]? = some p) : insT k m (l.take (i + 1)) = insT k m (l.take i) ++ rowI k m p := by
  rw [List.take_add_one, h, insT, List.flatMap_append]; simp [insT]
theorem insG_app : ∀ (l : List Prt) (n : Nat) (q : Prt), insG n (l ++ [q]) = insG n l ++ insP (n + l.length) q
  | [], n, q => by simp [insG]
  | x :: l, n, q => by
    rw [List.cons_append, insG, insG, insG_app l (n + 1) q, List.append_assoc, List.length_cons, show n + 1 + l.length = n + (l.length + 1) by omega]
theorem insG_take {l : List Prt} {i : Nat} {q : Prt} (h : l[i]? = some q) : insG 0 (l.take (i + 1)) = insG 0 (l.take i) ++ insP i q := by
  have hi := (List.getElem?_eq_some_iff.1 h).1
  rw [List.take_add_one, h, Option.toList_some, insG_app, List.length_take, Nat.min_eq_left (by omega), Nat.zero_add]
theorem insP_len {k : Nat} {q : Prt} (h : q.2.length ≤ 4) : (insP k q).length = (npR q.1).length * q.2.length ∧ (insP k q).length ≤ 480 := by
  rw [insP, insT_len]
  exact ⟨rfl, Nat.le_trans (Nat.mul_le_mul (npR_len q.1) h) (by omega)⟩
def prgS (g : Prg) : Bool := arrsV g.1 && (decide (g.2.length ≤ 4) && g.2.all (prtV g.1))
def insV (g : Prg) : List Ins := if prgS g = true then insG 0 g.2 else []
def prgV (g : Prg) : Bool := prgS g && decide ((insG 0 g.2).length ≤ 120)
theorem prgS_f1 {g : Prg} (h : arrsV g.1 = false) : prgS g = false := by rw [prgS, h]; rfl
theorem prgS_f2 {g : Prg} (h : ¬ g.2.length ≤ 4) : prgS g = false := by rw [prgS, decide_eq_false h]; cases arrsV g.1 <;> rfl
theorem prgS_f3 {g : Prg} {q : Prt} (hq : q ∈ g.2) (h : prtV g.1 q = false) : prgS g = false := Bool.eq_false_iff.2 fun h2 => by
  rw [prgS, Bool.and_eq_true, Bool.and_eq_true] at h2
  have := List.all_eq_true.1 h2.2.2 q hq; rw [h] at this; cases this
theorem prgS_eq {g : Prg} (h1 : arrsV g.1 = true) (h2 : g.2.length ≤ 4) (h3 : ∀ j q, j < g.2.length → g.2[j]? = some q → prtV g.1 q = true) : prgS g = true := by
  rw [prgS, h1, decide_eq_true h2, List.all_eq_true.2]; · rfl
  intro q hq
  obtain ⟨j, hj⟩ := List.mem_iff_getElem?.1 hq
  exact h3 j q (List.getElem?_eq_some_iff.1 hj).1 hj
theorem prgS_iff {g : Prg} : prgS g = true ↔ arrsV g.1 = true ∧ g.2.length ≤ 4 ∧ ∀ q ∈ g.2, prtV g.1 q = true := by
  simp only [prgS, Bool.and_eq_true, decide_eq_true_eq, List.all_eq_true]
theorem prgV_f {g : Prg} (h : prgS g = false) : prgV g = false ∧ insV g = [] := ⟨by rw [prgV, h]; rfl, if_neg (by rw [h]; simp)⟩
theorem prgV_t {g : Prg} (h : prgS g = true) : prgV g = decide ((insG 0 g.2).length ≤ 120) ∧ insV g = insG 0 g.2 := ⟨by rw [prgV, h]; rfl, if_pos h⟩
theorem prgV_s {g : Prg} (h : prgV g = true) : prgS g = true ∧ insV g = insG 0 g.2 ∧ (insG 0 g.2).length ≤ 120 := by
  rw [prgV, Bool.and_eq_true] at h
  exact ⟨h.1, (prgV_t h.1).2, of_decide_eq_true h.2⟩
theorem insG_mem {x : Ins} : ∀ {l : List Prt} {n : Nat}, x ∈ insG n l → ∃ k q i, l[k]? = some q ∧ x.1 = ((n + k : Nat) : Int) ∧ x.2.1 = ((i : Nat) : Int) ∧ i < q.2.length ∧ x.2.2 ∈ npR q.1
  | [], n, h => by cases h
  | q :: l, n, h => by
    rw [insG, List.mem_append] at h
    rcases h with h | h
    · rw [insP, insT, List.mem_flatMap] at h
      obtain ⟨p, hp, h⟩ := h
      rw [rowI, List.mem_map] at h
      obtain ⟨i, hi, rfl⟩ := h
      exact ⟨0, q, i, rfl, rfl, rfl, List.mem_range.1 hi, hp⟩
    · obtain ⟨k, q', i, h1, h2, h3, h4, h5⟩ := insG_mem h
      exact ⟨k + 1, q', i, h1, by rw [h2]; congr 1; omega, h3, h4, h5⟩
end Go.Proofs.YtidfloikpieggaaGreat
