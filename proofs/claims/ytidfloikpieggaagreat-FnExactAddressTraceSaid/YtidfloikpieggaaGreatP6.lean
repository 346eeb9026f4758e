/- Part 6 of 6 of the proof: laws on memory and data, then what the functions compute, in the order in which they build on each other; conditions: those that each theorem names. -/
import Derived.Test.YtidfloikpieggaaGreatP5
set_option maxRecDepth 100000
set_option maxHeartbeats 1600000

namespace Go.Proofs.YtidfloikpieggaaGreat
set_option linter.unusedVariables false
set_option linter.unusedSimpArgs false
open Go.RowKit
theorem at_bad {g : Prg} (hs : szG g ≤ 1073741824) (hV : prgV g = false) : Fn Tryz.prog 24 [] [ad (rG g)] (.o (.c (.d (.val (.slice none 0 0))))) [] := by
 refine Fn.code0 Tryz.func24 rfl rfl rfl rfl ?_
 refine .seq <| .region <| .cons (St1.boxP rfl rfl rfl rfl rfl rfl) <| .cons (.asg rfl rfl) <| .nil <| ks_n <| .seq <| .region <| .cons (.lN 2 rfl rfl rfl) <| .cons (.cP [.tmp 8] rfl rfl rfl rfl (trace_no hs hV) rfl) ?_
 refine .cons (.mv rfl rfl) <| .cons (.ex rfl rfl rfl) <| .cons (.ex rfl rfl rfl) <| .cons (.asg rfl rfl) <| .cons (.asg rfl rfl) <| .nil <| ks_n <| .seq <| .seq <| .region <| .cons (.mv rfl rfl) <| .cons (.nt rfl rfl) <| .nil <| ks_n ?_
 refine ACode.condT rfl (fun h13 => ?_) (fun h13 => ?_)
 ·try simp only [zs1, zs2, zs3, zs4, zs5, zs6, zs7] at h13
  refine .seq <| .region <| .cons (.asg rfl rfl) <| .nil <| ks_n <| .ret <| ks_r ?_
  refine kf_ret rfl ?_ nobox
  rfl
 ·try simp only [zs1, zs2, zs3, zs4, zs5, zs6, zs7] at h13
  cases h13

theorem at_own {g : Prg} (hs : szG g ≤ 1073741824) (hV : prgV g = true) (hz : insG 0 g.2 ≠ []) : Fn Tryz.prog 24 [] [ad (rG g)] (.o (.c (.off 100 1 0 (min (trcA g).length 600)))) [(.b 100, .b 3 1 (dR ((trcA g).map rI))), (.u 100, .u)] := by
 obtain ⟨hS, hN, hL⟩ := prgV_s hV
 refine Fn.of_code Tryz.func24 rfl rfl HB.nil rfl rfl HB.nil.data rfl (one_num rfl) ?_
 refine .seq <| .region <| .cons (St1.boxP rfl rfl rfl rfl rfl rfl) <| .cons (.asg rfl rfl) <| .nil <| ks_n <| .seq <| .region <| .cons (.lN 2 rfl rfl rfl) <| .cons (.cP [.tmp 8] rfl rfl rfl rfl (trace_fn hs hV) rfl) ?_
 refine .cons (.mv rfl rfl) <| .cons (.ex rfl rfl rfl) <| .cons (.ex rfl rfl rfl) <| .cons (.asg rfl rfl) <| .cons (.asg rfl rfl) <| .nil <| ks_n <| .seq <| .seq <| .region <| .cons (.mv rfl rfl) <| .cons (.nt rfl rfl) <| .nil <| ks_n ?_
 refine ACode.condT rfl (fun h13 => ?_) (fun h13 => ?_)
 ·try simp only [zs1, zs2, zs3, zs4, zs5, zs6, zs7] at h13
  cases h13
 ·try simp only [zs1, zs2, zs3, zs4, zs5, zs6, zs7] at h13
  refine .skip <| ks_n <| .seq <| .region <| .cons (.asg rfl rfl) <| .nil <| ks_n <| .seq <| .seq <| .region <| .cons (.mv rfl rfl) <| .cons (.nP rfl rfl) <| .cons (.fP 2 0 false rfl rfl) <| .cons (.l1 1 rfl rfl) <| .cons (.ln 86 3 40 rfl rfl rfl) <| .cons (.mv rfl rfl) <| .nil <| ks_n <| .block ?_
  refine .loopK (fun m σ => (∃ i : Nat, m = (insG 0 g.2).length - i ∧ (i ≤ (insG 0 g.2).length) ∧ (i = 0) ∧ σ = [(.t 3, .v (.o (.c (.ptr (rT g))))), (.t 5, .v (.o (.c (.d (.val (.slice none 0 0)))))), (.t 18, .v (.o (nat1 ((insG 0 g.2).length : Nat)))), (.t 19, .v (.o (nat1 (i : Nat))))]) ∨ (∃ (i : Nat) (o : List Int), m = (insG 0 g.2).length - i ∧ (i ≤ (insG 0 g.2).length) ∧ (trcN g i = o) ∧ (0 < o.length) ∧ (o.length ≤ 13 * i) ∧ σ = [(.t 3, .v (.o (.c (.ptr (rT g))))), (.t 5, .v (.o (.c (.own 110 1 (o.length))))), (.t 18, .v (.o (nat1 ((insG 0 g.2).length : Nat)))), (.t 19, .v (.o (nat1 (i : Nat)))), (.b 110, .b 3 1 (dR (o.map rI))), (.u 110, .u)])) [] (.inl ⟨0, rfl, by omega, rfl, rfl⟩) ⟨ks rfl .dt, ks rfl .dt, ks rfl .dt, ks rfl .dt, trivial⟩ ?_
  rintro m σ (⟨i, hm0, hi, hi0, rfl⟩ | ⟨i, o, hm0, hi, hE, ho0, ho, rfl⟩)
  ·skip
   refine .seq <| .region <| .cons (.ls rfl rfl rfl) <| .nil <| ks_n <| .seq ?_
   refine .cD rfl (fun h20 => ?_) (fun h20 => ?_)
   ·skip
    obtain ⟨x, hx1⟩ : ∃ x_, (insG 0 g.2)[i]? = some x_ := ⟨_, List.getElem?_eq_getElem (by omega)⟩
    obtain ⟨kx, cx, qx, hIx⟩ := ins_at hS (List.mem_of_getElem? hx1)
    have hux := usR_len hIx
    have htn := trcN_next hx1
    refine .skip <| ks_n <| .seq <| .block <| .seq <| .region <| .cons (.mv rfl rfl) <| .cons (.asg rfl rfl) <| .nil <| ks_n ?_
    by_cases hsp : usR g x = []
    ·skip
     refine ACode.drawK (by kernel_rfl) (by kernel_rfl) ?_
     refine .cons (.mv rfl rfl) <| .cons (.mv rfl rfl) <| .cons (.nP rfl rfl) <| .cons (.fP 3 0 false rfl rfl) <| .cons (.l1 1 rfl rfl) <| .cons (.mv rfl rfl) <| .cons (.xL 35 1 24 rfl rfl rfl rfl rfl (map_at (usRs_at hx1))) ?_
     refine .cons (.l1 1 rfl rfl) <| .cons (St1.appNE (e := 3) (sz := 0) (by' := 8) rfl rfl rfl rfl rfl (by kernel_rfl) rfl (by rw [hsp]; rfl)) ?_
     refine .cons (.mv rfl rfl) <| .cons (.nP rfl rfl) <| .cons (.fP 4 0 false rfl rfl) <| .cons (.l1 1 rfl rfl) <| .cons (.mv rfl rfl) <| .cons (.xL 3 1 8 rfl rfl rfl rfl rfl (map_at (usWs_at hx1))) ?_
     refine .cons (.l1 1 rfl rfl) <| .cons (.li 3 0 0 [.tmp 37] rfl rfl rfl rfl rfl rfl) <| .cons (St1.appN (k' := 139) (e := 3) (sz := 0) (by' := 8) rfl rfl rfl rfl rfl (by kernel_rfl) rfl rfl rfl (by simp) (by first | (simp [dR]; done) | (simp [dR]; omega)) rfl rfl) ?_
     refine .cons (.asg rfl rfl) ?_
     refine .nil ⟨by kernel_rfl, ?_⟩
     refine kb_n <| ks_n <| .region <| .cons (.pl rfl rfl rfl) <| .cons (.mv rfl rfl) <| .nil ?_
     refine kl_k [(110, 139)] (.inr ⟨i + 1, usR g x ++ [usW g x], rfl, by omega, by rw [htn, hi0]; rfl, by simp, by simp; omega, rfl⟩) ⟨ks rfl .dt, ks rfl (.c .ow), ks rfl .dt, ks rfl .dt, kb 139 rfl (.dt rfl (by first | rfl | (rw [hsp]; rfl) | (simp [dR, rI, dI]; done) | (simp [dR, rI]; done) | (simp [dR]; rfl))), trivial⟩
    ·skip
     refine ACode.drawK (by kernel_rfl) (by kernel_rfl) ?_
     refine .cons (.mv rfl rfl) <| .cons (.mv rfl rfl) <| .cons (.nP rfl rfl) <| .cons (.fP 3 0 false rfl rfl) <| .cons (.l1 1 rfl rfl) <| .cons (.mv rfl rfl) <| .cons (.xL 35 1 24 rfl rfl rfl rfl rfl (map_at (usRs_at hx1))) ?_
     refine .cons (.l1 1 rfl rfl) <| .cons (St1.appN (k' := 130) (e := 3) (sz := 0) (by' := 8) rfl rfl rfl rfl rfl (by kernel_rfl) rfl rfl rfl (by simpa using List.length_pos_iff.2 hsp) (by first | (simp [dR]; done) | (simp [dR]; omega)) rfl rfl) ?_
     refine .cons (.mv rfl rfl) <| .cons (.nP rfl rfl) <| .cons (.fP 4 0 false rfl rfl) <| .cons (.l1 1 rfl rfl) <| .cons (.mv rfl rfl) <| .cons (.xL 3 1 8 rfl rfl rfl rfl rfl (map_at (usWs_at hx1))) ?_
     refine .cons (.l1 1 rfl rfl) <| .cons (.li 3 0 0 [.tmp 37] rfl rfl rfl rfl rfl rfl) <| .cons (St1.appB (k' := 139) (e := 3) (sz := 0) (by' := 8) rfl rfl rfl rfl rfl (by kernel_rfl) rfl rfl rfl rfl (by first | (simp [dR]; done) | (simp [dR]; omega)) (by first | (simp [dR]; done) | (simp [dR]; omega)) rfl rfl rfl) ?_
     refine .cons (.asg rfl rfl) ?_
     refine .nil ⟨by kernel_rfl, ?_⟩
     refine kb_n <| ks_n <| .region <| .cons (.pl rfl rfl rfl) <| .cons (.mv rfl rfl) <| .nil ?_
     refine kl_k [(110, 139)] (.inr ⟨i + 1, usR g x ++ [usW g x], rfl, by omega, by rw [htn, hi0]; rfl, by simp, by simp; omega, rfl⟩) ⟨ks rfl .dt, ks rfl (.c .ow), ks rfl .dt, ks rfl .dt, kb 139 rfl (.dt rfl (by first | rfl | (rw [hsp]; rfl) | (simp [dR, rI, dI]; done) | (simp [dR, rI]; done) | (simp [dR]; rfl))), trivial⟩
   ·skip
    exact absurd (List.eq_nil_of_length_eq_zero (by omega)) hz
  ·skip
   refine .seq <| .region <| .cons (.ls rfl rfl rfl) <| .nil <| ks_n <| .seq ?_
   refine .cD rfl (fun h20 => ?_) (fun h20 => ?_)
   ·skip
    obtain ⟨x, hx1⟩ : ∃ x_, (insG 0 g.2)[i]? = some x_ := ⟨_, List.getElem?_eq_getElem (by omega)⟩
    obtain ⟨kx, cx, qx, hIx⟩ := ins_at hS (List.mem_of_getElem? hx1)
    have hux := usR_len hIx
    have htn := trcN_next hx1
    refine .skip <| ks_n <| .seq <| .block <| .seq <| .region <| .cons (.mv rfl rfl) <| .cons (.asg rfl rfl) <| .nil <| ks_n ?_
    refine ACode.drawK (by kernel_rfl) (by kernel_rfl) ?_
    refine .cons (.mv rfl rfl) <| .cons (.mv rfl rfl) <| .cons (.nP rfl rfl) <| .cons (.fP 3 0 false rfl rfl) <| .cons (.l1 1 rfl rfl) <| .cons (.mv rfl rfl) <| .cons (.xL 35 1 24 rfl rfl rfl rfl rfl (map_at (usRs_at hx1))) ?_
    refine .cons (.l1 1 rfl rfl) <| .cons (St1.appB (k' := 130) (e := 3) (sz := 0) (by' := 8) rfl rfl rfl rfl rfl (by kernel_rfl) rfl rfl rfl rfl (by first | (simp [dR]; done) | (simp [dR]; omega)) (by first | (simp [dR]; done) | (simp [dR]; omega)) rfl rfl rfl) ?_
    refine .cons (.mv rfl rfl) <| .cons (.nP rfl rfl) <| .cons (.fP 4 0 false rfl rfl) <| .cons (.l1 1 rfl rfl) <| .cons (.mv rfl rfl) <| .cons (.xL 3 1 8 rfl rfl rfl rfl rfl (map_at (usWs_at hx1))) ?_
    refine .cons (.l1 1 rfl rfl) <| .cons (.li 3 0 0 [.tmp 37] rfl rfl rfl rfl rfl rfl) <| .cons (St1.appB (k' := 139) (e := 3) (sz := 0) (by' := 8) rfl rfl rfl rfl rfl (by kernel_rfl) rfl rfl rfl rfl (by first | (simp [dR]; done) | (simp [dR]; omega)) (by first | (simp [dR]; done) | (simp [dR]; omega)) rfl rfl rfl) ?_
    refine .cons (.asg rfl rfl) ?_
    refine .nil ⟨by kernel_rfl, ?_⟩
    refine kb_n <| ks_n <| .region <| .cons (.pl rfl rfl rfl) <| .cons (.mv rfl rfl) <| .nil ?_
    refine kl_k [(110, 139)] (.inr ⟨i + 1, o ++ usR g x ++ [usW g x], rfl, by omega, by rw [htn, hE], by simp; omega, by simp; omega, rfl⟩) ⟨ks rfl .dt, ks rfl (.c .ow), ks rfl .dt, ks rfl .dt, kb 139 rfl (.dt rfl (by first | rfl | (rw [hsp]; rfl) | (simp [dR, rI, dI]; done) | (simp [dR, rI]; done) | (simp [dR]; rfl))), trivial⟩
   ·skip
    obtain rfl : i = (insG 0 g.2).length := by omega
    rw [trcN_end (Nat.le_refl _)] at hE
    subst hE
    refine .exit <| ks_e <| kl_e <| kb_hit <| ks_n <| .seq <| .region <| .cons (.mv rfl rfl) <| .cons (.mv rfl rfl) <| .cons (.lB 3 1 8 rfl rfl rfl rfl) <| .cons (St1.min2 rfl rfl rfl rfl rfl rfl) <| .cons (St1.sliceToB (e := 3) (sz := 1) (by' := 8) (i := (min (trcA g).length 600)) rfl rfl rfl rfl rfl (by omega) (by omega)) ?_
    refine .cons (.cO [.tmp 45] [(0, 110)] rfl rfl rfl rfl (clip_own (trcA g) (min (trcA g).length 600)) rfl ⟨by rw [renR_dR]; rfl, trivial⟩ (.cons .nil rfl) (.cons .nil rfl) (.data .nil) outS_one) ?_
    refine .cons (.asg rfl rfl) <| .nil <| ks_n <| .ret ?_
    refine kf_wret [(.t 2, .v (.o (.c (.off 100 1 0 (min (trcA g).length 600))))), (.b 100, .b 3 1 (dR ((trcA g).map rI))), (.u 100, .u)] (Wk.keep [(100, 110)] rfl rfl ⟨ks rfl (.c .of), kb 110 rfl (.dt rfl rfl), trivial⟩) rfl ?_ (one_box rfl)
    rfl

theorem at_nil {g : Prg} (hs : szG g ≤ 1073741824) (hV : prgV g = true) (hz : insG 0 g.2 = []) : Fn Tryz.prog 24 [] [ad (rG g)] (.o (.c (.d (.val (.slice none 0 0))))) [] := by
 obtain ⟨hS, hN, hL⟩ := prgV_s hV
 refine Fn.code0 Tryz.func24 rfl rfl rfl rfl ?_
 refine .seq <| .region <| .cons (St1.boxP rfl rfl rfl rfl rfl rfl) <| .cons (.asg rfl rfl) <| .nil <| ks_n <| .seq <| .region <| .cons (.lN 2 rfl rfl rfl) <| .cons (.cP [.tmp 8] rfl rfl rfl rfl (trace_fn hs hV) rfl) ?_
 refine .cons (.mv rfl rfl) <| .cons (.ex rfl rfl rfl) <| .cons (.ex rfl rfl rfl) <| .cons (.asg rfl rfl) <| .cons (.asg rfl rfl) <| .nil <| ks_n <| .seq <| .seq <| .region <| .cons (.mv rfl rfl) <| .cons (.nt rfl rfl) <| .nil <| ks_n ?_
 refine ACode.condT rfl (fun h13 => ?_) (fun h13 => ?_)
 ·try simp only [zs1, zs2, zs3, zs4, zs5, zs6, zs7] at h13
  cases h13
 ·try simp only [zs1, zs2, zs3, zs4, zs5, zs6, zs7] at h13
  refine .skip <| ks_n <| .seq <| .region <| .cons (.asg rfl rfl) <| .nil <| ks_n <| .seq <| .seq <| .region <| .cons (.mv rfl rfl) <| .cons (.nP rfl rfl) <| .cons (.fP 2 0 false rfl rfl) <| .cons (.l1 1 rfl rfl) <| .cons (.ln 86 3 40 rfl rfl rfl) <| .cons (.mv rfl rfl) <| .nil <| ks_n <| .block ?_
  refine .loopK (fun m σ => (∃ i : Nat, m = (insG 0 g.2).length - i ∧ (i ≤ (insG 0 g.2).length) ∧ (i = 0) ∧ σ = [(.t 3, .v (.o (.c (.ptr (rT g))))), (.t 5, .v (.o (.c (.d (.val (.slice none 0 0)))))), (.t 18, .v (.o (nat1 ((insG 0 g.2).length : Nat)))), (.t 19, .v (.o (nat1 (i : Nat))))]) ∨ (∃ (i : Nat) (o : List Int), m = (insG 0 g.2).length - i ∧ (i ≤ (insG 0 g.2).length) ∧ (trcN g i = o) ∧ (0 < o.length) ∧ (o.length ≤ 13 * i) ∧ σ = [(.t 3, .v (.o (.c (.ptr (rT g))))), (.t 5, .v (.o (.c (.own 110 1 (o.length))))), (.t 18, .v (.o (nat1 ((insG 0 g.2).length : Nat)))), (.t 19, .v (.o (nat1 (i : Nat)))), (.b 110, .b 3 1 (dR (o.map rI))), (.u 110, .u)])) [] (.inl ⟨0, rfl, by omega, rfl, rfl⟩) ⟨ks rfl .dt, ks rfl .dt, ks rfl .dt, ks rfl .dt, trivial⟩ ?_
  rintro m σ (⟨i, hm0, hi, hi0, rfl⟩ | ⟨i, o, hm0, hi, hE, ho0, ho, rfl⟩)
  ·skip
   refine .seq <| .region <| .cons (.ls rfl rfl rfl) <| .nil <| ks_n <| .seq ?_
   refine .cD rfl (fun h20 => ?_) (fun h20 => ?_)
   ·skip
    obtain ⟨x, hx1⟩ : ∃ x_, (insG 0 g.2)[i]? = some x_ := ⟨_, List.getElem?_eq_getElem (by omega)⟩
    obtain ⟨kx, cx, qx, hIx⟩ := ins_at hS (List.mem_of_getElem? hx1)
    have hux := usR_len hIx
    have htn := trcN_next hx1
    refine .skip <| ks_n <| .seq <| .block <| .seq <| .region <| .cons (.mv rfl rfl) <| .cons (.asg rfl rfl) <| .nil <| ks_n ?_
    by_cases hsp : usR g x = []
    ·skip
     refine ACode.drawK (by kernel_rfl) (by kernel_rfl) ?_
     refine .cons (.mv rfl rfl) <| .cons (.mv rfl rfl) <| .cons (.nP rfl rfl) <| .cons (.fP 3 0 false rfl rfl) <| .cons (.l1 1 rfl rfl) <| .cons (.mv rfl rfl) <| .cons (.xL 35 1 24 rfl rfl rfl rfl rfl (map_at (usRs_at hx1))) ?_
     refine .cons (.l1 1 rfl rfl) <| .cons (St1.appNE (e := 3) (sz := 0) (by' := 8) rfl rfl rfl rfl rfl (by kernel_rfl) rfl (by rw [hsp]; rfl)) ?_
     refine .cons (.mv rfl rfl) <| .cons (.nP rfl rfl) <| .cons (.fP 4 0 false rfl rfl) <| .cons (.l1 1 rfl rfl) <| .cons (.mv rfl rfl) <| .cons (.xL 3 1 8 rfl rfl rfl rfl rfl (map_at (usWs_at hx1))) ?_
     refine .cons (.l1 1 rfl rfl) <| .cons (.li 3 0 0 [.tmp 37] rfl rfl rfl rfl rfl rfl) <| .cons (St1.appN (k' := 139) (e := 3) (sz := 0) (by' := 8) rfl rfl rfl rfl rfl (by kernel_rfl) rfl rfl rfl (by simp) (by first | (simp [dR]; done) | (simp [dR]; omega)) rfl rfl) ?_
     refine .cons (.asg rfl rfl) ?_
     refine .nil ⟨by kernel_rfl, ?_⟩
     refine kb_n <| ks_n <| .region <| .cons (.pl rfl rfl rfl) <| .cons (.mv rfl rfl) <| .nil ?_
     refine kl_k [(110, 139)] (.inr ⟨i + 1, usR g x ++ [usW g x], rfl, by omega, by rw [htn, hi0]; rfl, by simp, by simp; omega, rfl⟩) ⟨ks rfl .dt, ks rfl (.c .ow), ks rfl .dt, ks rfl .dt, kb 139 rfl (.dt rfl (by first | rfl | (rw [hsp]; rfl) | (simp [dR, rI, dI]; done) | (simp [dR, rI]; done) | (simp [dR]; rfl))), trivial⟩
    ·skip
     refine ACode.drawK (by kernel_rfl) (by kernel_rfl) ?_
     refine .cons (.mv rfl rfl) <| .cons (.mv rfl rfl) <| .cons (.nP rfl rfl) <| .cons (.fP 3 0 false rfl rfl) <| .cons (.l1 1 rfl rfl) <| .cons (.mv rfl rfl) <| .cons (.xL 35 1 24 rfl rfl rfl rfl rfl (map_at (usRs_at hx1))) ?_
     refine .cons (.l1 1 rfl rfl) <| .cons (St1.appN (k' := 130) (e := 3) (sz := 0) (by' := 8) rfl rfl rfl rfl rfl (by kernel_rfl) rfl rfl rfl (by simpa using List.length_pos_iff.2 hsp) (by first | (simp [dR]; done) | (simp [dR]; omega)) rfl rfl) ?_
     refine .cons (.mv rfl rfl) <| .cons (.nP rfl rfl) <| .cons (.fP 4 0 false rfl rfl) <| .cons (.l1 1 rfl rfl) <| .cons (.mv rfl rfl) <| .cons (.xL 3 1 8 rfl rfl rfl rfl rfl (map_at (usWs_at hx1))) ?_
     refine .cons (.l1 1 rfl rfl) <| .cons (.li 3 0 0 [.tmp 37] rfl rfl rfl rfl rfl rfl) <| .cons (St1.appB (k' := 139) (e := 3) (sz := 0) (by' := 8) rfl rfl rfl rfl rfl (by kernel_rfl) rfl rfl rfl rfl (by first | (simp [dR]; done) | (simp [dR]; omega)) (by first | (simp [dR]; done) | (simp [dR]; omega)) rfl rfl rfl) ?_
     refine .cons (.asg rfl rfl) ?_
     refine .nil ⟨by kernel_rfl, ?_⟩
     refine kb_n <| ks_n <| .region <| .cons (.pl rfl rfl rfl) <| .cons (.mv rfl rfl) <| .nil ?_
     refine kl_k [(110, 139)] (.inr ⟨i + 1, usR g x ++ [usW g x], rfl, by omega, by rw [htn, hi0]; rfl, by simp, by simp; omega, rfl⟩) ⟨ks rfl .dt, ks rfl (.c .ow), ks rfl .dt, ks rfl .dt, kb 139 rfl (.dt rfl (by first | rfl | (rw [hsp]; rfl) | (simp [dR, rI, dI]; done) | (simp [dR, rI]; done) | (simp [dR]; rfl))), trivial⟩
   ·skip
    skip
    refine .exit <| ks_e <| kl_e <| kb_hit <| ks_n <| .seq <| .region <| .cons (.mv rfl rfl) <| .cons (.mv rfl rfl) <| .cons (St1.lenN (e := 3) (m := 1) (by' := 8) rfl rfl rfl rfl rfl (by kernel_rfl) rfl) ?_
    refine .cons (St1.min2 rfl rfl rfl rfl rfl rfl) <| .cons (St1.sliceN (e := 3) (sz := 1) (by' := 8) rfl (by kernel_rfl) rfl rfl (by omega)) ?_
    refine .cons (.cP [.tmp 45] rfl rfl rfl rfl (clip_nil) rfl) ?_
    refine .cons (.asg rfl rfl) <| .nil <| ks_n <| .ret ?_
    refine kf_ret rfl ?_ nobox
    rfl
  ·skip
   refine .seq <| .region <| .cons (.ls rfl rfl rfl) <| .nil <| ks_n <| .seq ?_
   refine .cD rfl (fun h20 => ?_) (fun h20 => ?_)
   ·skip
    obtain ⟨x, hx1⟩ : ∃ x_, (insG 0 g.2)[i]? = some x_ := ⟨_, List.getElem?_eq_getElem (by omega)⟩
    obtain ⟨kx, cx, qx, hIx⟩ := ins_at hS (List.mem_of_getElem? hx1)
    have hux := usR_len hIx
    have htn := trcN_next hx1
    refine .skip <| ks_n <| .seq <| .block <| .seq <| .region <| .cons (.mv rfl rfl) <| .cons (.asg rfl rfl) <| .nil <| ks_n ?_
    refine ACode.drawK (by kernel_rfl) (by kernel_rfl) ?_
    refine .cons (.mv rfl rfl) <| .cons (.mv rfl rfl) <| .cons (.nP rfl rfl) <| .cons (.fP 3 0 false rfl rfl) <| .cons (.l1 1 rfl rfl) <| .cons (.mv rfl rfl) <| .cons (.xL 35 1 24 rfl rfl rfl rfl rfl (map_at (usRs_at hx1))) ?_
    refine .cons (.l1 1 rfl rfl) <| .cons (St1.appB (k' := 130) (e := 3) (sz := 0) (by' := 8) rfl rfl rfl rfl rfl (by kernel_rfl) rfl rfl rfl rfl (by first | (simp [dR]; done) | (simp [dR]; omega)) (by first | (simp [dR]; done) | (simp [dR]; omega)) rfl rfl rfl) ?_
    refine .cons (.mv rfl rfl) <| .cons (.nP rfl rfl) <| .cons (.fP 4 0 false rfl rfl) <| .cons (.l1 1 rfl rfl) <| .cons (.mv rfl rfl) <| .cons (.xL 3 1 8 rfl rfl rfl rfl rfl (map_at (usWs_at hx1))) ?_
    refine .cons (.l1 1 rfl rfl) <| .cons (.li 3 0 0 [.tmp 37] rfl rfl rfl rfl rfl rfl) <| .cons (St1.appB (k' := 139) (e := 3) (sz := 0) (by' := 8) rfl rfl rfl rfl rfl (by kernel_rfl) rfl rfl rfl rfl (by first | (simp [dR]; done) | (simp [dR]; omega)) (by first | (simp [dR]; done) | (simp [dR]; omega)) rfl rfl rfl) ?_
    refine .cons (.asg rfl rfl) ?_
    refine .nil ⟨by kernel_rfl, ?_⟩
    refine kb_n <| ks_n <| .region <| .cons (.pl rfl rfl rfl) <| .cons (.mv rfl rfl) <| .nil ?_
    refine kl_k [(110, 139)] (.inr ⟨i + 1, o ++ usR g x ++ [usW g x], rfl, by omega, by rw [htn, hE], by simp; omega, by simp; omega, rfl⟩) ⟨ks rfl .dt, ks rfl (.c .ow), ks rfl .dt, ks rfl .dt, kb 139 rfl (.dt rfl (by first | rfl | (rw [hsp]; rfl) | (simp [dR, rI, dI]; done) | (simp [dR, rI]; done) | (simp [dR]; rfl))), trivial⟩
   ·skip
    exfalso; rw [trcN, hz] at hE; simp at hE; subst hE; simp at ho0




theorem specAT_fn {g : Prg} (hs : szG g ≤ 1073741824)  : Fn Tryz.prog 23 [] [ad (rG g)] (.o (vD (dIs (trcV g)))) [] := by
 refine Fn.code0 Tryz.func23 rfl rfl rfl rfl ?_
 refine .seq <| .region <| .cons (St1.boxP rfl rfl rfl rfl rfl rfl) <| .cons (.asg rfl rfl) <| .nil <| ks_n <| .seq <| .region <| .cons (St1.lit0 (k' := 106) (e := 3) (sz := 1) (b := true) rfl rfl rfl rfl (by kernel_rfl) rfl rfl) ?_
 refine .cons (.asg rfl rfl) <| .nil <| ks_n <| .seq <| .seq <| .region <| .cons (.lN 2 rfl rfl rfl) <| .cons (.cP [.tmp 7] rfl rfl rfl rfl (specPV_fn hs) rfl) ?_
 refine .cons (.nt rfl rfl) <| .nil <| ks_n ?_
 refine ACode.condT rfl (fun h9 => ?_) (fun h9 => ?_)
 ·try simp only [zs1, zs2, zs3, zs4, zs5, zs6, zs7] at h9
  have hV : prgV g = false := by first | assumption | simp_all
  refine .seq <| .region <| .cons (.mv rfl rfl) <| .cons (.asg rfl rfl) <| .nil <| ks_n <| .ret <| ks_r ?_
  refine kf_wret [(.t 2, .v (.o (vD (dIs (trcV g)))))] (Wk.keep [] rfl rfl ⟨ks rfl (.c (.fz rfl (by rw [trcV_no hV]; rfl) (by rw [trcV_no hV]; rfl) (by omega))), trivial⟩) rfl ?_ nobox
  rfl
 ·try simp only [zs1, zs2, zs3, zs4, zs5, zs6, zs7] at h9
  have hV : prgV g = true := by first | assumption | simp_all
  obtain ⟨hS, hN, hL⟩ := prgV_s hV
  have hul := usL_len (g := g)
  refine .skip <| ks_n <| .seq <| .region <| .cons (.lN 2 rfl rfl rfl) <| .cons (.cP [.tmp 11] rfl rfl rfl rfl (l6Uses_fn hs hS) rfl) ?_
  refine .cons (.asg rfl rfl) <| .nil <| ks_n <| .seq <| .seq <| .region <| .cons (.asg rfl rfl) <| .nil <| ks_n <| .block ?_
  refine .loopK (fun m σ => (∃ (i : Nat) (o : List Int), m = (insG 0 g.2).length - i ∧ (i ≤ (insG 0 g.2).length) ∧ (trcN g i = o) ∧ (o.length ≤ 600) ∧ σ = [(.t 3, .v (.o (.c (.own 110 1 (o.length))))), (.t 4, .v (.o (vD (dUs (usL g))))), (.t 5, .v (.o (nat1 (i : Nat)))), (.b 110, .b 3 1 (dR (o.map rI))), (.u 110, .u)])) [(110, 106)] ⟨0, [], rfl, by omega, by simp [trcN], by simp, rfl⟩ ⟨ks rfl (.c .ow), ks rfl .dt, ks rfl .dt, kb 106 rfl (.dt rfl (by first | rfl | (rw [hsp]; rfl) | (simp [dR, rI, dI]; done) | (simp [dR, rI]; done) | (simp [dR]; rfl))), trivial⟩ ?_
  rintro m σ ⟨i, o, hm0, hi, hE, ho, rfl⟩
  refine .seq <| .seq <| .region <| .cons (.mv rfl rfl) <| .cons (.mv rfl rfl) <| .cons (.ln 71 2 32 rfl rfl rfl) <| .cons (.ls rfl rfl rfl) <| .nil <| ks_n ?_
  refine .cD rfl (fun h16 => ?_) (fun h16 => ?_)
  ·skip
   obtain ⟨x, hx1⟩ : ∃ x_, (insG 0 g.2)[i]? = some x_ := ⟨_, List.getElem?_eq_getElem (by omega)⟩
   obtain ⟨kx, cx, qx, hIx⟩ := ins_at hS (List.mem_of_getElem? hx1)
   have hux := usR_len hIx
   have htn := trcN_next hx1
   refine .skip <| ks_n <| .seq <| .block <| .seq ?_
   refine ACode.drawK (by kernel_rfl) (by kernel_rfl) ?_
   refine .cons (.mv rfl rfl) <| .cons (.mv rfl rfl) <| .cons (.mv rfl rfl) <| .cons (.xL 71 2 32 rfl rfl rfl rfl rfl (show (List.map rU (usL g))[i]? = some [dIs (usR g x), dI (usW g x)] from map_at (usL_at hx1))) ?_
   refine .cons (.fP 0 0 false rfl rfl) <| .cons (.l1 1 rfl rfl) <| .cons (St1.appB (k' := 125) (e := 3) (sz := 0) (by' := 8) rfl rfl rfl rfl rfl (by kernel_rfl) rfl rfl rfl rfl (by first | (simp [dR]; done) | (simp [dR]; omega)) (by first | (simp [dR]; done) | (simp [dR]; omega)) rfl rfl rfl) ?_
   refine .cons (.mv rfl rfl) <| .cons (.mv rfl rfl) <| .cons (.xL 71 2 32 rfl rfl rfl rfl rfl (show (List.map rU (usL g))[i]? = some [dIs (usR g x), dI (usW g x)] from map_at (usL_at hx1))) ?_
   refine .cons (.fP 1 0 false rfl rfl) <| .cons (.l1 1 rfl rfl) <| .cons (.li 3 0 0 [.tmp 30] rfl rfl rfl rfl rfl rfl) <| .cons (St1.appB (k' := 132) (e := 3) (sz := 0) (by' := 8) rfl rfl rfl rfl rfl (by kernel_rfl) rfl rfl rfl rfl (by first | (simp [dR]; done) | (simp [dR]; omega)) (by first | (simp [dR]; done) | (simp [dR]; omega)) rfl rfl rfl) ?_
   refine .cons (.asg rfl rfl) ?_
   refine .nil ⟨by kernel_rfl, ?_⟩
   refine ks_n <| .seq <| .region <| .cons (.mv rfl rfl) <| .cons (.lB 3 1 8 rfl rfl rfl rfl) <| .cons (.gt rfl rfl rfl) <| .nil <| ks_n ?_
   refine .cD rfl (fun h35 => ?_) (fun h35 => ?_)
   ·skip
    have h35s := h35
    simp at h35s
    have hmo := trcV_more hV (i := i + 1) (by rw [htn, hE]; simp; omega)
    rw [htn, hE] at hmo
    refine .seq ?_
    refine .keep [(.t 3, .v (.o (vD (dIs (o ++ usR g x ++ [usW g x])))))] [] ⟨ks rfl (.c (.fz rfl (by simp [dR, rI, dI]) (by simp; omega) (by simp; omega))), trivial⟩ ?_
    refine .region <| .cons (St1.lit0 (k' := 136) (e := 3) (sz := 1) (b := true) rfl rfl rfl rfl (by kernel_rfl) rfl rfl) ?_
    refine .cons (.mv rfl rfl) <| .cons (St1.sliceTo (e := 3) (sz := 1) (by' := 8) (k := 600) rfl rfl rfl rfl (by kernel_rfl) rfl rfl rfl rfl (by simp; omega)) ?_
    refine .cons (St1.appB (k' := 139) (e := 3) (sz := 0) (by' := 8) rfl rfl rfl rfl rfl (by kernel_rfl) rfl rfl rfl rfl (by first | (simp [dR]; done) | (simp [dR]; omega)) (by first | (simp [dR]; done) | (simp [dR]; omega)) rfl rfl rfl) ?_
    refine .cons (.asg rfl rfl) <| .nil <| ks_n <| .ret <| kb_r <| ks_r <| kl_r <| kb_r <| ks_r ?_
    refine kf_wret [(.t 2, .v (.o (vD (dIs (trcV g)))))] (Wk.keep [] rfl rfl ⟨ks rfl (.c (.fz rfl (by first | (rw [hmo]; done) | (rw [hmo]; simp [dR, rI, dI]; done) | (rw [hmo]; simp [dR]; done) | (rw [hmo]; simp [dR]; rfl)) (by first | (rw [hmo]; simp; done) | (rw [hmo]; simp; omega)) (by first | omega | (simp; omega)))), trivial⟩) rfl ?_ nobox
    rfl
   ·skip
    have h35s := h35
    simp at h35s
    have hle : (o ++ usR g x ++ [usW g x]).length ≤ 600 := by simp; omega
    refine .skip <| kb_n <| ks_n <| .region <| .cons (.mv rfl rfl) <| .cons (.pl rfl rfl rfl) <| .cons (.asg rfl rfl) <| .nil ?_
    refine kl_k [(110, 132)] ⟨i + 1, o ++ usR g x ++ [usW g x], rfl, by omega, by rw [htn, hE], by simp; omega, rfl⟩ ⟨ks rfl (.c .ow), ks rfl .dt, ks rfl .dt, kb 132 rfl (.dt rfl (by first | rfl | (rw [hsp]; rfl) | (simp [dR, rI, dI]; done) | (simp [dR, rI]; done) | (simp [dR]; rfl))), trivial⟩
  ·skip
   obtain rfl : i = (insG 0 g.2).length := by omega
   rw [trcN_end (Nat.le_refl _)] at hE
   have hall := trcV_all hV (by rw [hE]; exact ho)
   rw [hE] at hall
   refine .exit <| ks_e <| kl_e <| kb_hit <| ks_n <| .seq <| .region <| .cons (.mv rfl rfl) <| .cons (.asg rfl rfl) <| .nil <| ks_n <| .ret ?_
   refine kf_wret [(.t 2, .v (.o (vD (dIs (trcV g)))))] (Wk.keep [] rfl rfl ⟨ks rfl (.c (.fz rfl (by rw [hall]) (by rw [hall]; simp) (by omega))), trivial⟩) rfl ?_ nobox
   rfl
theorem e0_parts {w : World} {B : Nat → Prop} {d0 d1 : D} {v : Value} (h : V1r bx0 al0 B w (ad [d0, d1]) v) : ∃ u0 u1, v = .agg #[u0, u1] ∧ Dr B w d0 u0 ∧ Dr B w d1 u1 := by
  obtain ⟨vs, rfl, hl, h⟩ := h
  obtain ⟨u0, l0, rfl, h0⟩ := len_cons (show vs.length = 1 + 1 from hl)
  obtain ⟨u1, l1, rfl, h1⟩ := len_cons (show l0.length = 0 + 1 from h0)
  obtain rfl := len_zero h1
  exact ⟨u0, u1, rfl, h 0 (.d d0) u0 rfl rfl, h 1 (.d d1) u1 rfl rfl⟩
theorem DrU.intsA {w : World} {S : Nat → Prop} {xs : List Int} {a : Option Addr} {n c : Nat} (h : DrU w S (dIs xs) (.slice a n c)) (_ : n ≤ 17592186044416) : IntsA w a n c xs := by
  obtain ⟨a', n', c', e, _, hi⟩ := h.dr.ints
  simp only [Value.slice.injEq] at e
  obtain ⟨rfl, rfl, rfl⟩ := e
  exact hi
theorem DrU.marked {w w' : World} {S S' : Nat → Prop} {x : D} {v : Value} (h : DrU w S x v) (hm : Marked S' w w') (hd : ∀ b, S b → S' b → False) : DrU w' S x v := h.frame fun b hb hl => hm.old b hl fun h' => hd b hb h'
theorem mk_ints {tx : Int → ByteArray} {k : Int} {xs : List Int} : mkD tx k (dIs xs) = dIs (marks k xs.length) := by
  rw [dIs, mkD, dIs]
  congr 1
  apply List.ext_getElem?
  intro i
  by_cases hi : i < xs.length
  · have h := mkR_at tx (xs.map rI) k i (rI xs[i]) (by rw [List.getElem?_map, List.getElem?_eq_getElem hi]; rfl)
    have hw : wgtR ((xs.map rI).take i) = i := by
      rw [wgtR_leafs (by intro r hr; obtain ⟨z, _, rfl⟩ := List.mem_map.1 (List.mem_of_mem_take hr); exact ⟨_, rfl⟩)]
      simp; omega
    rw [h, hw, marks, List.getElem?_map, List.getElem?_map, List.getElem?_range hi]
    simp [mkL, mkD, rI, dI]
  · rw [List.getElem?_eq_none (by rw [mkR_len]; simp; omega), List.getElem?_eq_none (by simp [marks]; omega)]
/-- A function that answers a list of numbers in memory of its own. -/
def OwnUC (f : FuncId) (args : List V1) (xs : List Int) : Prop := ∀ (B : Nat → Prop) (w : World) (vs : List Value), Vals (V1r bx0 al0 B w) args vs →
  Calls Tryz.prog f vs.toArray w fun e w' => (∃ a c S, e = .returned (.slice a xs.length c) ∧ (∀ b, S b → w.heap.size ≤ b ∧ b < w'.heap.size) ∧ DrU w' S (dIs xs) (.slice a xs.length c)) ∧ Below w.heap.size w w'
theorem Fn.nilUC {f : FuncId} {args : List V1} (h : Fn Tryz.prog f [] args (.o (.c (.d (.val (.slice none 0 0))))) []) : OwnUC f args [] := fun B w vs hv => by
  refine (h.calls hv).mono ?_
  rintro e w' ⟨⟨v, B', rfl, hv⟩, hb⟩
  have hv : Dr _ w' (.val (.slice none 0 0)) v := hv
  cases hv
  exact ⟨⟨none, 0, fun _ => False, rfl, fun b hb => hb.elim, .list _ 1 [] none 0 0 0 0 (fun _ _ => undef) (fun _ _ _ => False) rfl (Nat.le_refl _) (by omega) (fun _ => rfl) (fun h => absurd h (by omega)) (fun i r h => by cases h) (fun i r j x h => by cases h) (fun _ _ _ h => h.elim) (fun _ _ _ _ _ h => h.elim) (fun i r j x h => by cases h)⟩, hb⟩
theorem Fn.offUC {f : FuncId} {args : List V1} {xs : List Int} {n : Nat} (hn : n ≤ xs.length) (hn2 : n ≤ 17592186044416) (h : Fn Tryz.prog f [] args (.o (.c (.off 100 1 0 n))) [(.b 100, .b 3 1 (dR (xs.map rI))), (.u 100, .u)]) : OwnUC f args (xs.take n) := fun B w vs hv => by
  refine (h B bx0 w vs ⟨fun k e sz rows h => (by cases h), fun k l hk => (no_al0 k hk).elim, fun k hk => (no_al0 k hk).elim⟩ hv).mono ?_
  rintro e w' ⟨v, bx', rfl, hp⟩
  have ha : Al (lk [(.b 100, .b 3 1 (dR (xs.map rI))), (.u 100, .u)]) 100 := ⟨_, _, _, rfl⟩
  obtain ⟨_, h2⟩ := (show Cr bx' (Al (lk [(.b 100, .b 3 1 (dR (xs.map rI))), (.u 100, .u)])) (Baft bx' B w (lk [(.b 100, .b 3 1 (dR (xs.map rI))), (.u 100, .u)])) w' (.off 100 1 0 n) v from hp.val)
  obtain ⟨cap, rfl, h3, h4⟩ := h2 ha
  obtain ⟨cur, h6, h7, h8, h9, h10⟩ := hp.ok.1 100 _ _ _ rfl
  have hge : w.heap.size ≤ (bx' 100).1 := (hp.new 100 ha).elim id fun ⟨l, hl, _⟩ => (no_al0 l hl).elim
  have hlt := (Array.getElem?_eq_some_iff.1 h6).1
  have hl : (xs.take n).length = n := by rw [List.length_take]; omega
  rw [hl, Nat.zero_mul]
  refine ⟨⟨_, cap, fun b => b = (bx' 100).1, rfl, fun b hb => by subst hb; exact ⟨hge, hlt⟩, ?_⟩, hp.os, hp.tape, hp.output, hp.size, fun b hb => hp.old b hb fun k hk => (no_al0 k hk).elim⟩
  have hat : ∀ (i : Nat) r, ((xs.take n).map rI)[i]? = some r → ∃ z, r = [.val (.int .i64 z)] ∧ cur[i]? = some (.int .i64 z) := fun i r hr => by
    rw [List.getElem?_map] at hr
    cases hx : (xs.take n)[i]? with
    | none => rw [hx] at hr; cases hr
    | some z =>
      rw [hx] at hr; cases hr
      have hx2 : xs[i]? = some z := by
        rw [List.getElem?_take] at hx; split at hx
        · exact hx
        · cases hx
      obtain ⟨u, h11, h12⟩ := h10 i [.d (dI z)] 0 (.d (dI z)) (by rw [dR, List.getElem?_map, List.getElem?_map, hx2]; rfl) rfl
      have h12 : Dr _ w' (dI z) u := h12
      cases h12
      rw [Nat.mul_one, Nat.add_zero] at h11
      exact ⟨z, rfl, h11⟩
  refine .list _ 1 ((xs.take n).map rI) _ n cap (bx' 100).1 0 (fun i _ => cur.getD i undef) (fun _ _ _ => False) (by rw [List.length_map, hl]) h3 hn2 (fun h => by cases h) (fun _ => rfl) (fun i r hr => ?_) (fun i r j x hr hx => ?_) (fun _ _ _ h => h.elim) (fun _ _ _ _ _ h => h.elim) (fun i r j x hr hx => ?_)
  all_goals obtain ⟨z, rfl, hc⟩ := hat i r hr
  · rfl
  all_goals
    obtain rfl : j = 0 := by have := (List.getElem?_eq_some_iff.1 hx).1; simp at this; omega
    cases hx
  · refine ⟨rfl, ?_, by simp [World.frozen?, h6]⟩
    rw [cell_of_row w' _ _ _ _ _ h6, Nat.mul_one, Nat.zero_add, Nat.add_zero, hc, Array.getD_eq_getD_getElem?, hc]; rfl
  · rw [Array.getD_eq_getD_getElem?, hc]; exact .val _ _ rfl
theorem at_ownUC {g : Prg} (hs : szG g ≤ 1073741824) : OwnUC 24 [ad (rG g)] (trcV g) := by
  cases hV : prgV g with
  | false => rw [trcV_no hV]; exact (at_bad hs hV).nilUC
  | true =>
    by_cases hz : insG 0 g.2 = []
    · have : trcV g = [] := by rw [trcV, if_pos hV, trcA, hz]; rfl
      rw [this]; exact (at_nil hs hV hz).nilUC
    · have h := (at_own hs hV hz).offUC (Nat.min_le_left _ _) (by omega)
      have e : (trcA g).take (min (trcA g).length 600) = trcV g := by
        rw [trcV, if_pos hV]
        by_cases q : (trcA g).length ≤ 600
        · rw [Nat.min_eq_left q, List.take_of_length_le (Nat.le_refl _), List.take_of_length_le q]
        · rw [Nat.min_eq_right (by omega)]
      rw [e] at h; exact h
set_option maxHeartbeats 6400000 in
theorem lawXat {g : Prg} (ho : okPrg g) {xs : List Int} (hx : xs.length ≤ 1000000) (qs : szG g ≤ 1048576 → PureC 23 [ad (rG g)] xs) (qi : szG g ≤ 1048576 → OwnUC 24 [ad (rG g)] xs)
    {w : World} {u0 u1 : Value} (d0 : Dr (fun b => b < w.heap.size) w (dRs g.1) u0) (d1 : Dr (fun b => b < w.heap.size) w (dPts g.2) u1) : Truth Tryz.prog 6 #[.agg #[u0, u1]] w := by
  have L0 := LawS.start w [u0, u1]
  have hz := szPrg_fn (l := 1048576) (by omega) ho
  have D0 := hid d0; have D1 := hid d1; clear d0 d1
  have HL0 := hid L0; clear L0
  have HX := hid hx; clear hx
  by_cases hs : szG g ≤ 1048576
  case neg =>
    rw [subZ_no (by omega)] at hz
    have HZ := hid hz; clear hz qs qi ho
    go_enter Tryz.func6, Tryz.ntmps6
    go_wp2_with fail
    refine (HZ.out.callsI (vs := [_, _]) (vals2_mk (ad2_v (D0.out.frame (below_sameAll HL0.out.below _)) (D1.out.frame (below_sameAll HL0.out.below _))) (Dr.val (.int .i64 1048576) rfl))).mono ?_
    rintro e wA ⟨rfl, bA⟩
    have LA := HL0.out.fwd bA HL0.out.lt
    have HLA := hid LA; clear LA
    go_wp2_with fail
    go_ret
    exact ⟨rfl, HLA.out.below⟩
  rw [subZ_yes (by omega)] at hz
  have qs := hid (qs hs); have qi := hid (qi hs)
  have hcp := hid (copyPrg hs)
  have hep := hid (eqPrg_fn g g (by omega))
  have HS := hid hs
  have HZ := hid hz
  have hz0 : (0 : Int) ≤ 1048576 - (szG g : Nat) := by omega
  clear hz ho hs
  obtain ⟨z, hz1⟩ : ∃ z : Int, z = 1048576 - (szG g : Nat) := ⟨_, rfl⟩
  rw [← hz1] at HZ hz0
  clear hz1
  go_enter Tryz.func6, Tryz.ntmps6
  go_wp2_with fail
  refine (HZ.out.callsI (vs := [_, _]) (vals2_mk (ad2_v (D0.out.frame (below_sameAll HL0.out.below _)) (D1.out.frame (below_sameAll HL0.out.below _))) (Dr.val (.int .i64 1048576) rfl))).mono ?_
  rintro e wA ⟨rfl, bA⟩
  have HLA := hid (HL0.out.fwd bA HL0.out.lt); clear bA
  have c0 := HLA.out.c 0 rfl; have c1 := HLA.out.c 1 rfl
  go_wp2_with fail
  clear c0 c1
  refine (hcp.out _ _ [u0, u1] rfl (all2 (D0.out.frame (below_sameAll HLA.out.below _)) (D1.out.frame (below_sameAll HLA.out.below _)))).mono ?_
  rintro e wB ⟨vs, rfl, bB, hv⟩
  obtain ⟨y0, l0, rfl, hv1⟩ := len_cons hv.1
  obtain ⟨y1, l1, rfl, hv2⟩ := len_cons hv1
  obtain rfl := len_zero hv2
  have NB0 := hid (hv.2 0 _ _ rfl rfl); have NB1 := hid (hv.2 1 _ _ rfl rfl); clear hv hv1 hv2
  have HLB := hid (HLA.out.fwd bB HLA.out.lt); clear bB
  go_wp2_with fail
  refine (qs.out _ _ [.agg #[y0, y1]] (vals1_mk (ad2_v NB0.out.dr NB1.out.dr))).mono ?_
  rintro e wC ⟨⟨a0, k0, rfl, i0⟩, bC⟩
  have HLC := hid (HLB.out.fwd bC HLB.out.lt); clear bC NB0 NB1
  have I0 := hid i0; clear i0
  have c0 := HLC.out.c 0 rfl; have c1 := HLC.out.c 1 rfl
  go_wp2_with fail
  clear c0 c1
  refine (hcp.out _ _ [u0, u1] rfl (all2 (D0.out.frame (below_sameAll HLC.out.below _)) (D1.out.frame (below_sameAll HLC.out.below _)))).mono ?_
  rintro e wD ⟨vs, rfl, bD, hv⟩
  obtain ⟨x0, l0, rfl, hv1⟩ := len_cons hv.1
  obtain ⟨x1, l1, rfl, hv2⟩ := len_cons hv1
  obtain rfl := len_zero hv2
  have ND0 := hid (hv.2 0 _ _ rfl rfl); have ND1 := hid (hv.2 1 _ _ rfl rfl); clear hv hv1 hv2
  have HBD := hid bD; clear bD
  have HA := hid ((HBD.out).alloc HBD.out.size (.cells #[x0, x1] 31))
  have HBx := hid (heap_alloc_new wD (.cells #[x0, x1] 31))
  have HAl := hid (show Below wD.heap.size wD (wD.alloc (.cells #[x0, x1] 31)) from (Below.refl _ _).alloc (Nat.le_refl _) _)
  have ND0a := hid (ND0.out.fwd HAl.out); have ND1a := hid (ND1.out.fwd HAl.out)
  have s0 := fun a m w => run_store Tryz.prog w a x0 m ND0.out.one; have s1 := fun a m w => run_store Tryz.prog w a x1 m ND1.out.one
  go_wp2_with fail
  clear s0 s1
  refine (qi.out _ _ [.agg #[x0, x1]] (vals1_mk (ad2_v ND0a.out.dr ND1a.out.dr))).mono ?_
  rintro e wE ⟨⟨a1, k1, SU, rfl, hSU, o1⟩, bE⟩
  have O1 := hid o1; clear o1
  have HSU := hid hSU; clear hSU
  have HBE := hid (HA.out.trans (bE.mono HA.out.size))
  have HDE := hid (HAl.out.trans (bE.mono HAl.out.size))
  have HBx1 := hid ((bE.block _ (by simp)).trans HBx.out); clear bE
  go_wp2_with fail
  refine (eqIntS_any _ _ _ _ _ _ xs xs _ (O1.out.intsA (by have := HX.out; omega)) (I0.out.below HBE.out)).mono ?_
  rintro e wF ⟨rfl, q⟩
  rw [dec_self]
  have HBF := hid (HBE.out.trans ((q.below _).mono HBE.out.size)); have HDF := hid (HDE.out.trans ((q.below _).mono HDE.out.size))
  have O1F := hid (O1.out.fwd (q.below _)); have HBxF := hid (((q.below wE.heap.size).block _ (blk_lt HBx1.out)).trans HBx1.out); clear q
  have HLF := hid (HLC.out.fwd HBF.out HLC.out.lt)
  have c0 := HLF.out.c 0 rfl; have c1 := HLF.out.c 1 rfl
  have e0 : wF.cell? ⟨wD.heap.size, 0, none⟩ = some x0 := by rw [cell_of_row wF _ _ _ _ _ HBxF.out]; rfl
  have e1 : wF.cell? ⟨wD.heap.size, 1, none⟩ = some x1 := by rw [cell_of_row wF _ _ _ _ _ HBxF.out]; rfl
  go_wp2_with fail
  go_region_held3 (fun wq => wq.cell? ⟨w.heap.size, 0, none⟩ = some u0 ∧ wq.cell? ⟨w.heap.size, 1, none⟩ = some u1 ∧ wq.cell? ⟨wD.heap.size, 0, none⟩ = some x0 ∧ wq.cell? ⟨wD.heap.size, 1, none⟩ = some x1)
    ((repeat' apply And.intro) <;> first | assumption | go_keep)
    (first
    | (go_at_call 12
       refine (hcp.out _ _ [u0, u1] rfl (all2 (D0.out.frame (below_sameAll (HLF.out.below.drew) _)) (D1.out.frame (below_sameAll (HLF.out.below.drew) _)))).mono ?_
       rintro e wG ⟨vs, rfl, bG, hv⟩
       obtain ⟨z0, l0, rfl, hv1⟩ := len_cons hv.1
       obtain ⟨z1, l1, rfl, hv2⟩ := len_cons hv1
       obtain rfl := len_zero hv2
       have NG0 := hid (hv.2 0 _ _ rfl rfl); have NG1 := hid (hv.2 1 _ _ rfl rfl)
       have HFG := hid (show Below wF.heap.size wF wG from (Below.refl _ _).drew.trans bG)
       clear hv hv1 hv2 bG
       have c0 := (HLF.out.fwd HFG.out HLF.out.lt).c 0 rfl; have c1 := (HLF.out.fwd HFG.out HLF.out.lt).c 1 rfl
       have e0 : wG.cell? ⟨wD.heap.size, 0, none⟩ = some x0 := by rw [cell_of_row wG _ _ _ _ _ ((HFG.out.block _ (blk_lt HBxF.out)).trans HBxF.out)]; rfl
       have e1 : wG.cell? ⟨wD.heap.size, 1, none⟩ = some x1 := by rw [cell_of_row wG _ _ _ _ _ ((HFG.out.block _ (blk_lt HBxF.out)).trans HBxF.out)]; rfl)
    | (go_at_call 14
       refine (hep.out.callsB (vs := [_, _]) (B := fun _ => True) (vals2_mk (ad2_v (((ND0.out.fwd HDF.out).fwd HFG.out).dr.mono fun _ _ _ => trivial) (((ND1.out.fwd HDF.out).fwd HFG.out).dr.mono fun _ _ _ => trivial)) (ad2_v (NG0.out.dr.mono fun _ _ _ => trivial) (NG1.out.dr.mono fun _ _ _ => trivial)))).mono ?_
       rintro e wH ⟨rfl, bH⟩
       rw [sameG_refl]
       have HFH := hid (HFG.out.trans (bH.mono HFG.out.size))
       clear bH
       have c0 := (HLF.out.fwd HFH.out HLF.out.lt).c 0 rfl; have c1 := (HLF.out.fwd HFH.out HLF.out.lt).c 1 rfl
       have e0 : wH.cell? ⟨wD.heap.size, 0, none⟩ = some x0 := by rw [cell_of_row wH _ _ _ _ _ ((HFH.out.block _ (blk_lt HBxF.out)).trans HBxF.out)]; rfl
       have e1 : wH.cell? ⟨wD.heap.size, 1, none⟩ = some x1 := by rw [cell_of_row wH _ _ _ _ _ ((HFH.out.block _ (blk_lt HBxF.out)).trans HBxF.out)]; rfl))

  have HBH := hid (HBF.out.trans (HFH.out.mono HBF.out.size)); have HDH := hid (HDF.out.trans (HFH.out.mono HDF.out.size))
  have O1H := hid (O1F.out.fwd HFH.out)
  clear NG0 NG1 HFG HFH HLF HBxF
  go_wp2_with fail
  clear c0 c1 e0 e1
  refine (markPrg_k HS.out (S := fun b => wC.heap.size ≤ b ∧ b < wD.heap.size) ((ND0.out.k fun b h1 h2 => ⟨h1, h2⟩).mark (marked_of HDH.out (fun _ => True))) ((ND1.out.k fun b h1 h2 => ⟨h1, h2⟩).mark (marked_of HDH.out (fun _ => True))) (fun b h => Nat.lt_of_lt_of_le h.2 HDH.out.size)).mono ?_
  rintro e wI ⟨⟨k, hk0, hk1, rfl⟩, mI⟩
  have HBI := hid (HBH.out.trans (mI.below (fun b h => h.1) HBH.out.size))
  have O1I := hid (O1H.out.marked mI (fun b hb h => by have := (HSU.out b hb).1; have := h.2; simp at *; omega)); clear mI
  have h2 : decide (k < 0) = false := by simp; omega
  go_wp2_with fail
  clear h2
  refine (eqIntS_any _ _ _ _ _ _ xs xs _ (O1I.out.intsA (by have := HX.out; omega)) (I0.out.below HBI.out)).mono ?_
  rintro e wJ ⟨rfl, q⟩
  rw [dec_self]
  have HBJ := hid (HBI.out.trans ((q.below _).mono HBI.out.size)); have O1J := hid (O1I.out.fwd (q.below _)); clear q
  go_wp2_with fail
  refine (markInts_u xs SU _ _ 1 O1J.out (by omega) (by rw [wgt_ints]; have := HX.out; omega)).mono ?_
  rintro e wK ⟨rfl, gK, o⟩
  rw [wgt_ints]; rw [mk_ints] at o
  have HBK := hid (HBJ.out.trans (gK.below (fun b hb => by have := (HSU.out b hb).1; have := HBD.out.size; simp at *; omega) HBJ.out.size))
  have O1K := hid o; clear o gK
  go_wp2_with fail
  refine (heldIntS_any _ _ _ 1 _ (O1K.out.intsA (by have := HX.out; omega)) (by omega) (by omega)).mono ?_
  rintro e wL ⟨rfl, q⟩
  have HBL := hid (HBK.out.trans ((q.below _).mono HBK.out.size)); have O1L := hid (O1K.out.fwd (q.below _)); clear q
  have HLL := hid (HLC.out.fwd HBL.out HLC.out.lt)
  have h3 : decide ((1 : Int) + (xs.length : Nat) < 0) = false := by simp; omega
  have c0 := HLL.out.c 0 rfl; have c1 := HLL.out.c 1 rfl
  go_wp2_with fail
  clear c0 c1
  refine (hcp.out _ _ [u0, u1] rfl (all2 (D0.out.frame (below_sameAll HLL.out.below _)) (D1.out.frame (below_sameAll HLL.out.below _)))).mono ?_
  rintro e wM ⟨vs, rfl, bM, hv⟩
  obtain ⟨m0, l0, rfl, hv1⟩ := len_cons hv.1
  obtain ⟨m1, l1, rfl, hv2⟩ := len_cons hv1
  obtain rfl := len_zero hv2
  have NM0 := hid (hv.2 0 _ _ rfl rfl); have NM1 := hid (hv.2 1 _ _ rfl rfl); clear hv hv1 hv2
  have HBM := hid (HBL.out.trans (bM.mono HBL.out.size)); have O1M := hid (O1L.out.fwd bM); clear bM
  go_wp2_with fail
  refine (qi.out _ _ [.agg #[m0, m1]] (vals1_mk (ad2_v NM0.out.dr NM1.out.dr))).mono ?_
  rintro e wN ⟨⟨a2, k2, SV, rfl, _, o2⟩, bN⟩
  have O2 := hid o2; clear o2
  have HBN := hid (HBM.out.trans (bN.mono HBM.out.size)); have O1N := hid (O1M.out.fwd bN); clear bN
  go_wp2_with fail
  refine (eqIntS_any _ _ _ _ _ _ xs xs _ (O2.out.intsA (by have := HX.out; omega)) (I0.out.below HBN.out)).mono ?_
  rintro e wO ⟨rfl, q⟩
  rw [dec_self]
  have HBO := hid (HBN.out.trans ((q.below _).mono HBN.out.size)); have O1O := hid (O1N.out.fwd (q.below _)); clear q
  go_wp2_with fail
  refine (heldIntS_any _ _ _ 1 _ (O1O.out.intsA (by have := HX.out; omega)) (by omega) (by omega)).mono ?_
  rintro e wP ⟨rfl, q⟩
  have HBP := hid (HBO.out.trans ((q.below _).mono HBO.out.size)); clear q
  go_wp2_with fail
  go_ret
  exact ⟨rfl, HLC.out.below.trans (HBP.out.mono (Nat.le_of_lt HLC.out.lt))⟩
theorem lawExat {g : Prg} (ho : okPrg g) {w : World} {v : Value} (e0 : V1r bx0 al0 (fun b => b < w.heap.size) w (ad (rG g)) v) : Truth Tryz.prog 6 #[v] w := by
  obtain ⟨u0, u1, rfl, d0, d1⟩ := e0_parts e0
  exact lawXat ho  (Nat.le_trans trcV_len (by omega)) (fun hs => (specAT_fn (by omega)).pureC) (fun hs => at_ownUC (by omega)) d0 d1
end Go.Proofs.YtidfloikpieggaaGreat
