/- Part 6 of 6 of the proof: laws on memory and data, then what the functions compute, in the order in which they build on each other; conditions: those that each theorem names. -/
import Derived.Test.YtidfloikpieggaaGreatP5
set_option maxRecDepth 100000
set_option maxHeartbeats 1600000

namespace Go.Proofs.YtidfloikpieggaaGreat
set_option linter.unusedVariables false
set_option linter.unusedSimpArgs false
open Go.RowKit
theorem ins_len {g : Prg} {x : Ins} {k c : Nat} {q : Prt} (h : InsOk g x k c q) : x.2.2.length = q.1.length := by
  have hp := h.pt
  rw [npR] at hp
  split at hp
  · exact (mem_pts.1 hp).1
  · cases hp
theorem ins_same {g : Prg} {x y : Ins} {k c k' c' : Nat} {q q' : Prt} (h : InsOk g x k c q) (h' : InsOk g y k' c' q') (e : x.1 = y.1) : x.2.2.length = y.2.2.length := by
  have e1 := h.e1; have e2 := h'.e1
  have : k = k' := by omega
  subst this
  have e3 := h.hq; rw [h'.hq] at e3; cases e3
  rw [ins_len h, ins_len h']
/-- The distances of a part, sorted, each once. -/
def dstV (g : Prg) (part : Int) : List (List Int) := kpV (sortL (dstG g part))
theorem mem_dstV {g : Prg} {part : Int} {d : List Int} : d ∈ dstV g part ↔ d ∈ dstG g part := by rw [dstV, mem_kpV, mem_sortL]
theorem sortL_nil : sortL [] = [] := List.eq_nil_of_length_eq_zero sortL_len
theorem subL_end {y x : List Int} {k : Nat} (h : y.length = x.length) (hk : y.length ≤ k) : (subL y x).take k = subL y x := List.take_of_length_le (by rw [subL_len h]; omega)
theorem pt_at {p : List Int} (h : isPt p = true) {i : Nat} {a : Int} (ha : p[i]? = some a) : -9999 ≤ a ∧ a ≤ 9999 := by
  rw [isPt, Bool.and_eq_true, Bool.not_eq_true', List.any_eq_false] at h
  have := h.2 a (List.mem_of_getElem? ha)
  simp [inB] at this
  omega

theorem compact_nil  : Fn Tryz.prog 123 [] [.c (.d (.val (.slice none 0 0))), .c (.fn 124 [])] (.o (.c (.d (.val (.slice none 0 0))))) [] := by
  refine Fn.code0 Tryz.func123 rfl rfl rfl rfl ?_
  refine .seq <| .region <| .cons (.asg rfl rfl) <| .nil <| ks_n <| .seq <| .seq <| .region <| .cons (.mv rfl rfl) <| .cons (St1.lenN (e := 35) (m := 1) (by' := 24) rfl rfl rfl rfl rfl (by kernel_rfl) rfl) ?_
  refine .cons (.ls rfl rfl rfl) <| .nil <| ks_n ?_
  refine .cD rfl (fun h10 => ?_) (fun h10 => ?_)
  · skip
    refine .seq <| .region <| .cons (.mv rfl rfl) <| .cons (.asg rfl rfl) <| .nil <| ks_n <| .ret <| ks_r ?_
    refine kf_ret rfl ?_ nobox
    rfl
  · skip
    omega

theorem dist_fn {g : Prg} (hS : prgS g = true) (hL : (insG 0 g.2).length ≤ 120) (part : Int)  : Fn Tryz.prog 78 [] [.c (.ptr (rT g)), nat1 part] (.o (vD (dPs (dstV g part)))) [] := by
 have hdl := depsN_len hL (n := (insG 0 g.2).length)
 have hdl2 : (depsG g).length ≤ 14400 := by unfold depsG; omega
 refine Fn.code0 Tryz.func78 rfl rfl rfl rfl ?_
 refine .seq <| .region <| .cons (.asg rfl rfl) <| .nil <| ks_n <| .seq <| .region <| .cons (.asg rfl rfl) <| .nil <| ks_n <| .seq <| .seq <| .region <| .cons (.mv rfl rfl) <| .cons (.cP [.tmp 12] rfl rfl rfl rfl (deps_fn hS hL) rfl) ?_
 refine .cons (.ln 159 3 24 rfl rfl rfl) <| .cons (.mv rfl rfl) <| .nil <| ks_n <| .block ?_
 refine .loopK (fun m σ => (∃ j : Nat, m = (depsG g).length - j ∧ (j ≤ (depsG g).length) ∧ (dstN g part j = []) ∧ σ = [(.t 0, .v (.o (.c (.ptr (rT g))))), (.t 1, .v (.o (nat1 part))), (.t 5, .v (.o (.c (.d (.val (.slice none 0 0)))))), (.t 13, .v (.o (vD (dDs (depsG g))))), (.t 14, .v (.o (nat1 ((depsG g).length : Nat)))), (.t 15, .v (.o (nat1 (j : Nat))))]) ∨ (∃ (j : Nat) (o : Pts), m = (depsG g).length - j ∧ (j ≤ (depsG g).length) ∧ (dstN g part j = o) ∧ (0 < o.length) ∧ σ = [(.t 0, .v (.o (.c (.ptr (rT g))))), (.t 1, .v (.o (nat1 part))), (.t 5, .v (.o (.c (.own 110 1 (o.length))))), (.t 13, .v (.o (vD (dDs (depsG g))))), (.t 14, .v (.o (nat1 ((depsG g).length : Nat)))), (.t 15, .v (.o (nat1 (j : Nat)))), (.b 110, .b 35 1 (dR (o.map rIs))), (.u 110, .u)])) [] (.inl ⟨0, rfl, by omega, rfl, rfl⟩) ⟨ks rfl .dt, ks rfl .dt, ks rfl .dt, ks rfl .dt, ks rfl .dt, ks rfl .dt, trivial⟩ ?_
 rintro m σ (⟨j, hm0, hj, hE, rfl⟩ | ⟨j, o, hm0, hj, hE, ho0, rfl⟩)
 ·skip
  refine .seq <| .region <| .cons (.ls rfl rfl rfl) <| .nil <| ks_n <| .seq ?_
  refine .cD rfl (fun h16 => ?_) (fun h16 => ?_)
  ·skip
   obtain ⟨d, hd1⟩ : ∃ x_, (depsG g)[j]? = some x_ := ⟨_, List.getElem?_eq_getElem (by omega)⟩
   obtain ⟨a, b, hde, hab, hbl, _⟩ := deps_mem (List.mem_of_getElem? hd1)
   obtain ⟨x, hx1⟩ : ∃ x, (insG 0 g.2)[a]? = some x := ⟨_, List.getElem?_eq_getElem (by omega)⟩
   obtain ⟨y, hy1⟩ : ∃ y, (insG 0 g.2)[b]? = some y := ⟨_, List.getElem?_eq_getElem hbl⟩
   obtain ⟨kx, cx, qx, hIx⟩ := ins_at hS (List.mem_of_getElem? hx1)
   obtain ⟨ky, cy, qy, hIy⟩ := ins_at hS (List.mem_of_getElem? hy1)
   have hda : d.1 = (a : Int) := by rw [hde]
   have hdb : d.2.1 = (b : Int) := by rw [hde]
   have hdd := dstD_eq (g := g) (part := part) hda hdb hx1 hy1
   have hyl := isPt_len hIy.ip
   refine .skip <| ks_n <| .seq <| .block <| .seq <| .region <| .cons (.xL 159 3 24 (i := j) rfl rfl rfl rfl rfl (map_at hd1)) ?_
   refine .cons (.lN 3 rfl rfl rfl) <| .cons (.al 107 [.int .i64 0, .int .i64 0, .int .i64 0] rfl rfl rfl) <| .cons (.sT 3 true rfl rfl rfl rfl rfl rfl rfl) <| .nil <| ks_n <| .seq ?_
   refine ACode.drawK (by kernel_rfl) (by kernel_rfl) ?_
   refine .cons (.mv rfl rfl) <| .cons (.nP rfl rfl) <| .cons (.fP 2 0 false rfl rfl) <| .cons (.l1 1 rfl rfl) <| .cons (.fB 0 0 false rfl rfl rfl) <| .cons (.b1 1 rfl rfl rfl rfl rfl rfl) <| .cons (.xL 86 3 40 (i := a) rfl rfl rfl rfl hda (map_at hx1)) ?_
   refine .cons (.lN 3 rfl rfl rfl) <| .cons (.mv rfl rfl) <| .cons (.nP rfl rfl) <| .cons (.fP 2 0 false rfl rfl) <| .cons (.l1 1 rfl rfl) <| .cons (.fB 1 0 false rfl rfl rfl) <| .cons (.b1 1 rfl rfl rfl rfl rfl rfl) <| .cons (.xL 86 3 40 (i := b) rfl rfl rfl rfl hdb (map_at hy1)) ?_
   refine .cons (.lN 3 rfl rfl rfl) <| .cons (.al 108 [.int .i64 0, .int .i64 0, .slice none 0 0] rfl rfl rfl) <| .cons (.al 109 [.int .i64 0, .int .i64 0, .slice none 0 0] rfl rfl rfl) <| .cons (.sT 3 true rfl rfl rfl rfl rfl rfl rfl) <| .cons (.sT 3 true rfl rfl rfl rfl rfl rfl rfl) ?_
   refine .nil ⟨by kernel_rfl, ?_⟩
   refine ks_n <| .seq <| .seq <| .region <| .cons (.fB 0 0 false rfl rfl rfl) <| .cons (.b1 1 rfl rfl rfl rfl rfl rfl) <| .cons (.mv rfl rfl) <| .cons (.ne rfl rfl rfl) <| .cons (.mv rfl rfl) ?_
   refine .cND 39 rfl (fun g39 => ?_) (fun g39 => ?_)
   ·skip
    have hdn : dstD g part d = none := by rw [hdd, if_neg (by omega)]
    refine .cons (.gF rfl rfl rfl) <| .cons (.gF rfl rfl rfl) <| .cons (.gF rfl rfl rfl) <| .cons (.gF rfl rfl rfl) <| .cons (.pT rfl rfl rfl) <| .nil <| ks_n ?_
    refine ACode.condT rfl (fun _ => ?_) (fun h => by first | (cases h; done) | (simp [*] at h; done) | (exfalso; simp_all; done))
    refine .exit <| ks_e <| kb_hit <| ks_n <| .region <| .cons (.pl rfl rfl rfl) <| .cons (.mv rfl rfl) <| .nil ?_
    refine kl_k [] (.inl ⟨j + 1, rfl, by omega, by rw [dstN_next hd1, hE, hdn]; rfl, rfl⟩) ⟨ks rfl .dt, ks rfl .dt, ks rfl .dt, ks rfl .dt, ks rfl .dt, ks rfl .dt, trivial⟩
   ·skip
    have hxp : x.1 = part := by omega
    refine .cons (.gT rfl rfl rfl (.fB 0 0 false rfl rfl rfl)) <| .cons (.gT rfl rfl rfl (.b1 1 rfl rfl rfl rfl rfl rfl)) <| .cons (.gT rfl rfl rfl (.mv rfl rfl)) <| .cons (.gT rfl rfl rfl (.ne rfl rfl rfl)) <| .cons (.pF rfl rfl rfl) <| .nil <| ks_n ?_
    refine ACode.condT rfl (fun h44 => ?_) (fun h44 => ?_)
    ·try simp only [zs1, zs2, zs3, zs4, zs5, zs6, zs7] at h44
     have hdn : dstD g part d = none := by rw [hdd, if_neg (by omega)]
     refine .exit <| ks_e <| kb_hit <| ks_n <| .region <| .cons (.pl rfl rfl rfl) <| .cons (.mv rfl rfl) <| .nil ?_
     refine kl_k [] (.inl ⟨j + 1, rfl, by omega, by rw [dstN_next hd1, hE, hdn]; rfl, rfl⟩) ⟨ks rfl .dt, ks rfl .dt, ks rfl .dt, ks rfl .dt, ks rfl .dt, ks rfl .dt, trivial⟩
    ·try simp only [zs1, zs2, zs3, zs4, zs5, zs6, zs7] at h44
     have hyp : y.1 = part := by omega
     have hds : dstD g part d = some (subL y.2.2 x.2.2) := by rw [hdd, if_pos ⟨hxp, hyp⟩]
     have hlen := (ins_same hIx hIy (by omega)).symm
     refine .skip <| ks_n <| .seq <| .region <| .cons (.asg rfl rfl) <| .nil <| ks_n <| .seq <| .seq <| .region <| .cons (.fB 2 0 false rfl rfl rfl) <| .cons (.b1 1 rfl rfl rfl rfl rfl rfl) <| .cons (.ln 3 1 8 rfl rfl rfl) <| .cons (.mv rfl rfl) <| .nil <| ks_n <| .block ?_
     refine .loopK (fun m σ => (∃ k : Nat, m = y.2.2.length - k ∧ (k = 0) ∧ σ = [(.t 0, .v (.o (.c (.ptr (rT g))))), (.t 1, .v (.o (nat1 part))), (.t 5, .v (.o (.c (.d (.val (.slice none 0 0)))))), (.t 8, .v (.o (.c (.ptr (rN x))))), (.t 9, .v (.o (.c (.ptr (rN y))))), (.t 10, .v (.o (.c (.d (.val (.slice none 0 0)))))), (.t 13, .v (.o (vD (dDs (depsG g))))), (.t 14, .v (.o (nat1 ((depsG g).length : Nat)))), (.t 15, .v (.o (nat1 (j : Nat)))), (.t 46, .v (.o (vD (dIs y.2.2)))), (.t 47, .v (.o (nat1 (y.2.2.length : Nat)))), (.t 48, .v (.o (nat1 (k : Nat))))]) ∨ (∃ k : Nat, m = y.2.2.length - k ∧ (1 ≤ k) ∧ (k ≤ y.2.2.length) ∧ σ = [(.t 0, .v (.o (.c (.ptr (rT g))))), (.t 1, .v (.o (nat1 part))), (.t 5, .v (.o (.c (.d (.val (.slice none 0 0)))))), (.t 8, .v (.o (.c (.ptr (rN x))))), (.t 9, .v (.o (.c (.ptr (rN y))))), (.t 10, .v (.o (.c (.own 120 1 (k))))), (.t 13, .v (.o (vD (dDs (depsG g))))), (.t 14, .v (.o (nat1 ((depsG g).length : Nat)))), (.t 15, .v (.o (nat1 (j : Nat)))), (.t 46, .v (.o (vD (dIs y.2.2)))), (.t 47, .v (.o (nat1 (y.2.2.length : Nat)))), (.t 48, .v (.o (nat1 (k : Nat)))), (.b 120, .b 3 1 (dR (((subL y.2.2 x.2.2).take k).map rI))), (.u 120, .u)])) [] (.inl ⟨0, rfl, rfl, rfl⟩) ⟨ks rfl .dt, ks rfl .dt, ks rfl .dt, ks rfl (.c (.frzP _ _ _ _ _ _ _ _ rfl (show _ = dR [rN x] from rfl) rfl rfl rfl)), ks rfl (.c (.frzP _ _ _ _ _ _ _ _ rfl (show _ = dR [rN y] from rfl) rfl rfl rfl)), ks rfl .dt, ks rfl .dt, ks rfl .dt, ks rfl .dt, ks rfl .dt, ks rfl .dt, ks rfl .dt, trivial⟩ ?_
     rintro m σ (⟨k, hm0, hk0, rfl⟩ | ⟨k, hm0, hk1, hk, rfl⟩)
     ·skip
      refine .seq <| .region <| .cons (.ls rfl rfl rfl) <| .nil <| ks_n <| .seq ?_
      refine .cD rfl (fun h49 => ?_) (fun h49 => ?_)
      ·skip
       obtain ⟨u, hu1⟩ : ∃ u, y.2.2[k]? = some u := ⟨_, List.getElem?_eq_getElem (by omega)⟩
       obtain ⟨v, hv1⟩ : ∃ v, x.2.2[k]? = some v := ⟨_, List.getElem?_eq_getElem (by omega)⟩
       have hub := pt_at hIy.ip hu1
       have hvb := pt_at hIx.ip hv1
       have hsn := subL_take hu1 hv1
       have hsl : ((subL y.2.2 x.2.2).take k).length = k := by rw [List.length_take, subL_len hlen]; omega
       have hs1 : ((subL y.2.2 x.2.2).take (k + 1)) = (subL y.2.2 x.2.2).take k ++ [u - v] := hsn
       refine .skip <| ks_n <| .seq <| .block <| .seq <| .region <| .cons (.mv rfl rfl) <| .cons (.asg rfl rfl) <| .nil <| ks_n ?_
       refine ACode.drawK (by kernel_rfl) (by kernel_rfl) ?_
       refine .cons (.mv rfl rfl) <| .cons (.fP 2 0 false rfl rfl) <| .cons (.l1 1 rfl rfl) <| .cons (.mv rfl rfl) <| .cons (.xL 3 1 8 (i := k) rfl rfl rfl rfl rfl (map_at hu1)) ?_
       refine .cons (.l1 1 rfl rfl) <| .cons (.fP 2 0 false rfl rfl) <| .cons (.l1 1 rfl rfl) <| .cons (.mv rfl rfl) <| .cons (.xL 3 1 8 (i := k) rfl rfl rfl rfl rfl (map_at hv1)) ?_
       refine .cons (.l1 1 rfl rfl) <| .cons (.sb rfl rfl rfl (by omega)) ?_
       refine .cons (.li 3 0 0 [.tmp 62] rfl rfl rfl rfl rfl rfl) <| .cons (St1.appN (k' := 164) (e := 3) (sz := 0) (by' := 8) rfl rfl rfl rfl rfl (by kernel_rfl) rfl rfl rfl (by simp) (by first | (simp [dR]; done) | (simp [dR]; omega)) rfl rfl) ?_
       refine .cons (.asg rfl rfl) ?_
       refine .nil ⟨by kernel_rfl, ?_⟩
       refine kb_n <| ks_n <| .region <| .cons (.pl rfl rfl rfl) <| .cons (.mv rfl rfl) <| .nil ?_
       refine kl_k [(120, 164)] (.inr ⟨k + 1, rfl, by omega, by omega, rfl⟩) ⟨ks rfl .dt, ks rfl .dt, ks rfl .dt, ks rfl .dt, ks rfl .dt, ks rfl (.c .ow), ks rfl .dt, ks rfl .dt, ks rfl .dt, ks rfl .dt, ks rfl .dt, ks rfl .dt, kb 164 rfl (.dt rfl (by first | rfl | (rw [hsn]; simp [dR, rI, dI]; done) | (rw [hsn, hk0]; simp [dR, rI, dI]; done))), trivial⟩
      ·skip
       have hse := subL_end (k := k) hlen (by omega)
       have hs0 : k = 0 → subL y.2.2 x.2.2 = [] := fun h => by rw [← hse, h]; rfl
       refine .exit <| ks_e <| kl_e <| kb_hit <| ks_n ?_
       refine .keep [(.t 0, .v (.o (.c (.ptr (rT g))))), (.t 1, .v (.o (nat1 part))), (.t 5, .v (.o (.c (.d (.val (.slice none 0 0)))))), (.t 10, .v (.o (vD (dIs (subL y.2.2 x.2.2))))), (.t 13, .v (.o (vD (dDs (depsG g))))), (.t 14, .v (.o (nat1 ((depsG g).length : Nat)))), (.t 15, .v (.o (nat1 (j : Nat))))] [] ⟨ks rfl .dt, ks rfl .dt, ks rfl .dt, ks rfl (.c (Cto.nilE 1 (by rw [hs0 hk0]; rfl))), ks rfl .dt, ks rfl .dt, ks rfl .dt, trivial⟩ ?_
       refine .region <| .cons (.mv rfl rfl) <| .cons (.mv rfl rfl) <| .cons (.li 35 0 0 [.tmp 67] rfl rfl rfl rfl rfl rfl) <| .cons (St1.appN (k' := 169) (e := 35) (sz := 0) (by' := 24) rfl rfl rfl rfl rfl (by kernel_rfl) rfl rfl rfl (by simp) (by first | (simp [dR]; done) | (simp [dR]; omega)) rfl rfl) ?_
       refine .cons (.asg rfl rfl) <| .nil <| kb_n <| ks_n <| .region <| .cons (.pl rfl rfl rfl) <| .cons (.mv rfl rfl) <| .nil ?_
       refine kl_k [(110, 169)] (.inr ⟨j + 1, [subL y.2.2 x.2.2], rfl, by omega, by rw [dstN_next hd1, hE, hds]; rfl, by simp, rfl⟩) ⟨ks rfl .dt, ks rfl .dt, ks rfl (.c .ow), ks rfl .dt, ks rfl .dt, ks rfl .dt, kb 169 rfl (.dt rfl (by first | rfl | (simp [dR, rIs]; done) | (simp [dR, rIs]; rfl))), trivial⟩
     ·skip
      refine .seq <| .region <| .cons (.ls rfl rfl rfl) <| .nil <| ks_n <| .seq ?_
      refine .cD rfl (fun h49 => ?_) (fun h49 => ?_)
      ·skip
       obtain ⟨u, hu1⟩ : ∃ u, y.2.2[k]? = some u := ⟨_, List.getElem?_eq_getElem (by omega)⟩
       obtain ⟨v, hv1⟩ : ∃ v, x.2.2[k]? = some v := ⟨_, List.getElem?_eq_getElem (by omega)⟩
       have hub := pt_at hIy.ip hu1
       have hvb := pt_at hIx.ip hv1
       have hsn := subL_take hu1 hv1
       have hsl : ((subL y.2.2 x.2.2).take k).length = k := by rw [List.length_take, subL_len hlen]; omega
       have hs1 : ((subL y.2.2 x.2.2).take (k + 1)) = (subL y.2.2 x.2.2).take k ++ [u - v] := hsn
       refine .skip <| ks_n <| .seq <| .block <| .seq <| .region <| .cons (.mv rfl rfl) <| .cons (.asg rfl rfl) <| .nil <| ks_n ?_
       refine ACode.drawK (by kernel_rfl) (by kernel_rfl) ?_
       refine .cons (.mv rfl rfl) <| .cons (.fP 2 0 false rfl rfl) <| .cons (.l1 1 rfl rfl) <| .cons (.mv rfl rfl) <| .cons (.xL 3 1 8 (i := k) rfl rfl rfl rfl rfl (map_at hu1)) ?_
       refine .cons (.l1 1 rfl rfl) <| .cons (.fP 2 0 false rfl rfl) <| .cons (.l1 1 rfl rfl) <| .cons (.mv rfl rfl) <| .cons (.xL 3 1 8 (i := k) rfl rfl rfl rfl rfl (map_at hv1)) ?_
       refine .cons (.l1 1 rfl rfl) <| .cons (.sb rfl rfl rfl (by omega)) ?_
       refine .cons (.li 3 0 0 [.tmp 62] rfl rfl rfl rfl rfl rfl) <| .cons (St1.appB (k' := 164) (e := 3) (sz := 0) (by' := 8) rfl rfl rfl rfl rfl (by kernel_rfl) rfl rfl rfl rfl (by first | rfl | (rw [dR_len, List.length_map]; exact hsl) | (simp [dR]; done)) (by first | (simp [dR]; done) | (simp [dR]; omega)) rfl rfl rfl) ?_
       refine .cons (.asg rfl rfl) ?_
       refine .nil ⟨by kernel_rfl, ?_⟩
       refine kb_n <| ks_n <| .region <| .cons (.pl rfl rfl rfl) <| .cons (.mv rfl rfl) <| .nil ?_
       refine kl_k [(120, 164)] (.inr ⟨k + 1, rfl, by omega, by omega, rfl⟩) ⟨ks rfl .dt, ks rfl .dt, ks rfl .dt, ks rfl .dt, ks rfl .dt, ks rfl (.c .ow), ks rfl .dt, ks rfl .dt, ks rfl .dt, ks rfl .dt, ks rfl .dt, ks rfl .dt, kb 164 rfl (.dt rfl (by first | rfl | (rw [hsn]; simp [dR, rI, dI]; done) | (rw [hsn, hk0]; simp [dR, rI, dI]; done))), trivial⟩
      ·skip
       have hse := subL_end (k := k) hlen (by omega)
       have hs0 : k = 0 → subL y.2.2 x.2.2 = [] := fun h => by rw [← hse, h]; rfl
       refine .exit <| ks_e <| kl_e <| kb_hit <| ks_n ?_
       refine .keep [(.t 0, .v (.o (.c (.ptr (rT g))))), (.t 1, .v (.o (nat1 part))), (.t 5, .v (.o (.c (.d (.val (.slice none 0 0)))))), (.t 10, .v (.o (vD (dIs (subL y.2.2 x.2.2))))), (.t 13, .v (.o (vD (dDs (depsG g))))), (.t 14, .v (.o (nat1 ((depsG g).length : Nat)))), (.t 15, .v (.o (nat1 (j : Nat))))] [] ⟨ks rfl .dt, ks rfl .dt, ks rfl .dt, ks rfl (.c (.fz rfl (by rw [hse]) (by rw [List.length_map, subL_len hlen]; omega) (by omega))), ks rfl .dt, ks rfl .dt, ks rfl .dt, trivial⟩ ?_
       refine .region <| .cons (.mv rfl rfl) <| .cons (.mv rfl rfl) <| .cons (.li 35 0 0 [.tmp 67] rfl rfl rfl rfl rfl rfl) <| .cons (St1.appN (k' := 169) (e := 35) (sz := 0) (by' := 24) rfl rfl rfl rfl rfl (by kernel_rfl) rfl rfl rfl (by simp) (by first | (simp [dR]; done) | (simp [dR]; omega)) rfl rfl) ?_
       refine .cons (.asg rfl rfl) <| .nil <| kb_n <| ks_n <| .region <| .cons (.pl rfl rfl rfl) <| .cons (.mv rfl rfl) <| .nil ?_
       refine kl_k [(110, 169)] (.inr ⟨j + 1, [subL y.2.2 x.2.2], rfl, by omega, by rw [dstN_next hd1, hE, hds]; rfl, by simp, rfl⟩) ⟨ks rfl .dt, ks rfl .dt, ks rfl (.c .ow), ks rfl .dt, ks rfl .dt, ks rfl .dt, kb 169 rfl (.dt rfl (by first | rfl | (simp [dR, rIs]; done) | (simp [dR, rIs]; rfl))), trivial⟩
  ·skip
   have hE2 := hE
   rw [dstN_end (j := j) (by omega)] at hE2
   refine .exit <| ks_e <| kl_e <| kb_hit <| ks_n <| .seq <| .region <| .cons (.mv rfl rfl) <| .cons (.cP [.tmp 71, .func 122] rfl rfl rfl rfl (sortN_fn) rfl) ?_
   refine .nil <| ks_n <| .seq <| .region <| .cons (.mv rfl rfl) <| .cons (.cP [.tmp 73, .func 124] rfl rfl rfl rfl (compact_nil) rfl) ?_
   refine .cons (.asg rfl rfl) <| .nil <| ks_n <| .ret ?_
   refine kf_wret [(.t 4, .v (.o (vD (dPs (dstV g part)))))] (Wk.keep [] rfl rfl ⟨ks rfl (.c (Cto.nilE 1 (by rw [dstV, hE2, sortL_nil]; rfl))), trivial⟩) rfl ?_ nobox
   rfl
 ·skip
  have ho := dstN_len (g := g) (part := part) (j := j)
  rw [hE] at ho
  refine .seq <| .region <| .cons (.ls rfl rfl rfl) <| .nil <| ks_n <| .seq ?_
  refine .cD rfl (fun h16 => ?_) (fun h16 => ?_)
  ·skip
   obtain ⟨d, hd1⟩ : ∃ x_, (depsG g)[j]? = some x_ := ⟨_, List.getElem?_eq_getElem (by omega)⟩
   obtain ⟨a, b, hde, hab, hbl, _⟩ := deps_mem (List.mem_of_getElem? hd1)
   obtain ⟨x, hx1⟩ : ∃ x, (insG 0 g.2)[a]? = some x := ⟨_, List.getElem?_eq_getElem (by omega)⟩
   obtain ⟨y, hy1⟩ : ∃ y, (insG 0 g.2)[b]? = some y := ⟨_, List.getElem?_eq_getElem hbl⟩
   obtain ⟨kx, cx, qx, hIx⟩ := ins_at hS (List.mem_of_getElem? hx1)
   obtain ⟨ky, cy, qy, hIy⟩ := ins_at hS (List.mem_of_getElem? hy1)
   have hda : d.1 = (a : Int) := by rw [hde]
   have hdb : d.2.1 = (b : Int) := by rw [hde]
   have hdd := dstD_eq (g := g) (part := part) hda hdb hx1 hy1
   have hyl := isPt_len hIy.ip
   refine .skip <| ks_n <| .seq <| .block <| .seq <| .region <| .cons (.xL 159 3 24 (i := j) rfl rfl rfl rfl rfl (map_at hd1)) ?_
   refine .cons (.lN 3 rfl rfl rfl) <| .cons (.al 107 [.int .i64 0, .int .i64 0, .int .i64 0] rfl rfl rfl) <| .cons (.sT 3 true rfl rfl rfl rfl rfl rfl rfl) <| .nil <| ks_n <| .seq ?_
   refine ACode.drawK (by kernel_rfl) (by kernel_rfl) ?_
   refine .cons (.mv rfl rfl) <| .cons (.nP rfl rfl) <| .cons (.fP 2 0 false rfl rfl) <| .cons (.l1 1 rfl rfl) <| .cons (.fB 0 0 false rfl rfl rfl) <| .cons (.b1 1 rfl rfl rfl rfl rfl rfl) <| .cons (.xL 86 3 40 (i := a) rfl rfl rfl rfl hda (map_at hx1)) ?_
   refine .cons (.lN 3 rfl rfl rfl) <| .cons (.mv rfl rfl) <| .cons (.nP rfl rfl) <| .cons (.fP 2 0 false rfl rfl) <| .cons (.l1 1 rfl rfl) <| .cons (.fB 1 0 false rfl rfl rfl) <| .cons (.b1 1 rfl rfl rfl rfl rfl rfl) <| .cons (.xL 86 3 40 (i := b) rfl rfl rfl rfl hdb (map_at hy1)) ?_
   refine .cons (.lN 3 rfl rfl rfl) <| .cons (.al 108 [.int .i64 0, .int .i64 0, .slice none 0 0] rfl rfl rfl) <| .cons (.al 109 [.int .i64 0, .int .i64 0, .slice none 0 0] rfl rfl rfl) <| .cons (.sT 3 true rfl rfl rfl rfl rfl rfl rfl) <| .cons (.sT 3 true rfl rfl rfl rfl rfl rfl rfl) ?_
   refine .nil ⟨by kernel_rfl, ?_⟩
   refine ks_n <| .seq <| .seq <| .region <| .cons (.fB 0 0 false rfl rfl rfl) <| .cons (.b1 1 rfl rfl rfl rfl rfl rfl) <| .cons (.mv rfl rfl) <| .cons (.ne rfl rfl rfl) <| .cons (.mv rfl rfl) ?_
   refine .cND 39 rfl (fun g39 => ?_) (fun g39 => ?_)
   ·skip
    have hdn : dstD g part d = none := by rw [hdd, if_neg (by omega)]
    refine .cons (.gF rfl rfl rfl) <| .cons (.gF rfl rfl rfl) <| .cons (.gF rfl rfl rfl) <| .cons (.gF rfl rfl rfl) <| .cons (.pT rfl rfl rfl) <| .nil <| ks_n ?_
    refine ACode.condT rfl (fun _ => ?_) (fun h => by first | (cases h; done) | (simp [*] at h; done) | (exfalso; simp_all; done))
    refine .exit <| ks_e <| kb_hit <| ks_n <| .region <| .cons (.pl rfl rfl rfl) <| .cons (.mv rfl rfl) <| .nil ?_
    refine kl_k [(110, 110)] (.inr ⟨j + 1, o, rfl, by omega, by rw [dstN_next hd1, hE, hdn]; simp, ho0, rfl⟩) ⟨ks rfl .dt, ks rfl .dt, ks rfl (.c .ow), ks rfl .dt, ks rfl .dt, ks rfl .dt, kb 110 rfl (.dt rfl (by first | rfl | (simp [dR, rIs]; done) | (simp [dR, rIs]; rfl))), trivial⟩
   ·skip
    have hxp : x.1 = part := by omega
    refine .cons (.gT rfl rfl rfl (.fB 0 0 false rfl rfl rfl)) <| .cons (.gT rfl rfl rfl (.b1 1 rfl rfl rfl rfl rfl rfl)) <| .cons (.gT rfl rfl rfl (.mv rfl rfl)) <| .cons (.gT rfl rfl rfl (.ne rfl rfl rfl)) <| .cons (.pF rfl rfl rfl) <| .nil <| ks_n ?_
    refine ACode.condT rfl (fun h44 => ?_) (fun h44 => ?_)
    ·try simp only [zs1, zs2, zs3, zs4, zs5, zs6, zs7] at h44
     have hdn : dstD g part d = none := by rw [hdd, if_neg (by omega)]
     refine .exit <| ks_e <| kb_hit <| ks_n <| .region <| .cons (.pl rfl rfl rfl) <| .cons (.mv rfl rfl) <| .nil ?_
     refine kl_k [(110, 110)] (.inr ⟨j + 1, o, rfl, by omega, by rw [dstN_next hd1, hE, hdn]; simp, ho0, rfl⟩) ⟨ks rfl .dt, ks rfl .dt, ks rfl (.c .ow), ks rfl .dt, ks rfl .dt, ks rfl .dt, kb 110 rfl (.dt rfl (by first | rfl | (simp [dR, rIs]; done) | (simp [dR, rIs]; rfl))), trivial⟩
    ·try simp only [zs1, zs2, zs3, zs4, zs5, zs6, zs7] at h44
     have hyp : y.1 = part := by omega
     have hds : dstD g part d = some (subL y.2.2 x.2.2) := by rw [hdd, if_pos ⟨hxp, hyp⟩]
     have hlen := (ins_same hIx hIy (by omega)).symm
     refine .skip <| ks_n <| .seq <| .region <| .cons (.asg rfl rfl) <| .nil <| ks_n <| .seq <| .seq <| .region <| .cons (.fB 2 0 false rfl rfl rfl) <| .cons (.b1 1 rfl rfl rfl rfl rfl rfl) <| .cons (.ln 3 1 8 rfl rfl rfl) <| .cons (.mv rfl rfl) <| .nil <| ks_n <| .block ?_
     refine .loopK (fun m σ => (∃ k : Nat, m = y.2.2.length - k ∧ (k = 0) ∧ σ = [(.t 0, .v (.o (.c (.ptr (rT g))))), (.t 1, .v (.o (nat1 part))), (.t 5, .v (.o (.c (.own 120 1 (o.length))))), (.t 8, .v (.o (.c (.ptr (rN x))))), (.t 9, .v (.o (.c (.ptr (rN y))))), (.t 10, .v (.o (.c (.d (.val (.slice none 0 0)))))), (.t 13, .v (.o (vD (dDs (depsG g))))), (.t 14, .v (.o (nat1 ((depsG g).length : Nat)))), (.t 15, .v (.o (nat1 (j : Nat)))), (.t 46, .v (.o (vD (dIs y.2.2)))), (.t 47, .v (.o (nat1 (y.2.2.length : Nat)))), (.t 48, .v (.o (nat1 (k : Nat)))), (.b 120, .b 35 1 (dR (o.map rIs))), (.u 120, .u)]) ∨ (∃ k : Nat, m = y.2.2.length - k ∧ (1 ≤ k) ∧ (k ≤ y.2.2.length) ∧ σ = [(.t 0, .v (.o (.c (.ptr (rT g))))), (.t 1, .v (.o (nat1 part))), (.t 5, .v (.o (.c (.own 120 1 (o.length))))), (.t 8, .v (.o (.c (.ptr (rN x))))), (.t 9, .v (.o (.c (.ptr (rN y))))), (.t 10, .v (.o (.c (.own 121 1 (k))))), (.t 13, .v (.o (vD (dDs (depsG g))))), (.t 14, .v (.o (nat1 ((depsG g).length : Nat)))), (.t 15, .v (.o (nat1 (j : Nat)))), (.t 46, .v (.o (vD (dIs y.2.2)))), (.t 47, .v (.o (nat1 (y.2.2.length : Nat)))), (.t 48, .v (.o (nat1 (k : Nat)))), (.b 120, .b 35 1 (dR (o.map rIs))), (.u 120, .u), (.b 121, .b 3 1 (dR (((subL y.2.2 x.2.2).take k).map rI))), (.u 121, .u)])) [(120, 110)] (.inl ⟨0, rfl, rfl, rfl⟩) ⟨ks rfl .dt, ks rfl .dt, ks rfl (.c .ow), ks rfl (.c (.frzP _ _ _ _ _ _ _ _ rfl (show _ = dR [rN x] from rfl) rfl rfl rfl)), ks rfl (.c (.frzP _ _ _ _ _ _ _ _ rfl (show _ = dR [rN y] from rfl) rfl rfl rfl)), ks rfl .dt, ks rfl .dt, ks rfl .dt, ks rfl .dt, ks rfl .dt, ks rfl .dt, ks rfl .dt, kb 110 rfl (.dt rfl (by first | rfl | (simp [dR, rIs]; done) | (simp [dR, rIs]; rfl))), trivial⟩ ?_
     rintro m σ (⟨k, hm0, hk0, rfl⟩ | ⟨k, hm0, hk1, hk, rfl⟩)
     ·skip
      refine .seq <| .region <| .cons (.ls rfl rfl rfl) <| .nil <| ks_n <| .seq ?_
      refine .cD rfl (fun h49 => ?_) (fun h49 => ?_)
      ·skip
       obtain ⟨u, hu1⟩ : ∃ u, y.2.2[k]? = some u := ⟨_, List.getElem?_eq_getElem (by omega)⟩
       obtain ⟨v, hv1⟩ : ∃ v, x.2.2[k]? = some v := ⟨_, List.getElem?_eq_getElem (by omega)⟩
       have hub := pt_at hIy.ip hu1
       have hvb := pt_at hIx.ip hv1
       have hsn := subL_take hu1 hv1
       have hsl : ((subL y.2.2 x.2.2).take k).length = k := by rw [List.length_take, subL_len hlen]; omega
       have hs1 : ((subL y.2.2 x.2.2).take (k + 1)) = (subL y.2.2 x.2.2).take k ++ [u - v] := hsn
       refine .skip <| ks_n <| .seq <| .block <| .seq <| .region <| .cons (.mv rfl rfl) <| .cons (.asg rfl rfl) <| .nil <| ks_n ?_
       refine ACode.drawK (by kernel_rfl) (by kernel_rfl) ?_
       refine .cons (.mv rfl rfl) <| .cons (.fP 2 0 false rfl rfl) <| .cons (.l1 1 rfl rfl) <| .cons (.mv rfl rfl) <| .cons (.xL 3 1 8 (i := k) rfl rfl rfl rfl rfl (map_at hu1)) ?_
       refine .cons (.l1 1 rfl rfl) <| .cons (.fP 2 0 false rfl rfl) <| .cons (.l1 1 rfl rfl) <| .cons (.mv rfl rfl) <| .cons (.xL 3 1 8 (i := k) rfl rfl rfl rfl rfl (map_at hv1)) ?_
       refine .cons (.l1 1 rfl rfl) <| .cons (.sb rfl rfl rfl (by omega)) ?_
       refine .cons (.li 3 0 0 [.tmp 62] rfl rfl rfl rfl rfl rfl) <| .cons (St1.appN (k' := 164) (e := 3) (sz := 0) (by' := 8) rfl rfl rfl rfl rfl (by kernel_rfl) rfl rfl rfl (by simp) (by first | (simp [dR]; done) | (simp [dR]; omega)) rfl rfl) ?_
       refine .cons (.asg rfl rfl) ?_
       refine .nil ⟨by kernel_rfl, ?_⟩
       refine kb_n <| ks_n <| .region <| .cons (.pl rfl rfl rfl) <| .cons (.mv rfl rfl) <| .nil ?_
       refine kl_k [(120, 120), (121, 164)] (.inr ⟨k + 1, rfl, by omega, by omega, rfl⟩) ⟨ks rfl .dt, ks rfl .dt, ks rfl (.c .ow), ks rfl .dt, ks rfl .dt, ks rfl (.c .ow), ks rfl .dt, ks rfl .dt, ks rfl .dt, ks rfl .dt, ks rfl .dt, ks rfl .dt, kb 120 rfl (.dt rfl (by first | rfl | (simp [dR, rIs]; done) | (simp [dR, rIs]; rfl))), kb 164 rfl (.dt rfl (by first | rfl | (rw [hsn]; simp [dR, rI, dI]; done) | (rw [hsn, hk0]; simp [dR, rI, dI]; done))), trivial⟩
      ·skip
       have hse := subL_end (k := k) hlen (by omega)
       have hs0 : k = 0 → subL y.2.2 x.2.2 = [] := fun h => by rw [← hse, h]; rfl
       refine .exit <| ks_e <| kl_e <| kb_hit <| ks_n ?_
       refine .keep [(.t 0, .v (.o (.c (.ptr (rT g))))), (.t 1, .v (.o (nat1 part))), (.t 5, .v (.o (.c (.own 830 1 (o.length))))), (.t 10, .v (.o (vD (dIs (subL y.2.2 x.2.2))))), (.t 13, .v (.o (vD (dDs (depsG g))))), (.t 14, .v (.o (nat1 ((depsG g).length : Nat)))), (.t 15, .v (.o (nat1 (j : Nat)))), (.b 830, .b 35 1 (dR (o.map rIs))), (.u 830, .u)] [(830, 120)] ⟨ks rfl .dt, ks rfl .dt, ks rfl (.c .ow), ks rfl (.c (Cto.nilE 1 (by rw [hs0 hk0]; rfl))), ks rfl .dt, ks rfl .dt, ks rfl .dt, kb 120 rfl (.dt rfl (by first | rfl | (simp [dR, rIs]; done) | (simp [dR, rIs]; rfl))), trivial⟩ ?_
       refine .region <| .cons (.mv rfl rfl) <| .cons (.mv rfl rfl) <| .cons (.li 35 0 0 [.tmp 67] rfl rfl rfl rfl rfl rfl) <| .cons (St1.appB (k' := 169) (e := 35) (sz := 0) (by' := 24) rfl rfl rfl rfl rfl (by kernel_rfl) rfl rfl rfl rfl (by first | (simp [dR]; done) | (simp [dR]; omega)) (by first | (simp [dR]; done) | (simp [dR]; omega)) rfl rfl rfl) ?_
       refine .cons (.asg rfl rfl) <| .nil <| kb_n <| ks_n <| .region <| .cons (.pl rfl rfl rfl) <| .cons (.mv rfl rfl) <| .nil ?_
       refine kl_k [(110, 169)] (.inr ⟨j + 1, o ++ [subL y.2.2 x.2.2], rfl, by omega, by rw [dstN_next hd1, hE, hds]; rfl, by simp, rfl⟩) ⟨ks rfl .dt, ks rfl .dt, ks rfl (.c .ow), ks rfl .dt, ks rfl .dt, ks rfl .dt, kb 169 rfl (.dt rfl (by first | rfl | (simp [dR, rIs]; done) | (simp [dR, rIs]; rfl))), trivial⟩
     ·skip
      refine .seq <| .region <| .cons (.ls rfl rfl rfl) <| .nil <| ks_n <| .seq ?_
      refine .cD rfl (fun h49 => ?_) (fun h49 => ?_)
      ·skip
       obtain ⟨u, hu1⟩ : ∃ u, y.2.2[k]? = some u := ⟨_, List.getElem?_eq_getElem (by omega)⟩
       obtain ⟨v, hv1⟩ : ∃ v, x.2.2[k]? = some v := ⟨_, List.getElem?_eq_getElem (by omega)⟩
       have hub := pt_at hIy.ip hu1
       have hvb := pt_at hIx.ip hv1
       have hsn := subL_take hu1 hv1
       have hsl : ((subL y.2.2 x.2.2).take k).length = k := by rw [List.length_take, subL_len hlen]; omega
       have hs1 : ((subL y.2.2 x.2.2).take (k + 1)) = (subL y.2.2 x.2.2).take k ++ [u - v] := hsn
       refine .skip <| ks_n <| .seq <| .block <| .seq <| .region <| .cons (.mv rfl rfl) <| .cons (.asg rfl rfl) <| .nil <| ks_n ?_
       refine ACode.drawK (by kernel_rfl) (by kernel_rfl) ?_
       refine .cons (.mv rfl rfl) <| .cons (.fP 2 0 false rfl rfl) <| .cons (.l1 1 rfl rfl) <| .cons (.mv rfl rfl) <| .cons (.xL 3 1 8 (i := k) rfl rfl rfl rfl rfl (map_at hu1)) ?_
       refine .cons (.l1 1 rfl rfl) <| .cons (.fP 2 0 false rfl rfl) <| .cons (.l1 1 rfl rfl) <| .cons (.mv rfl rfl) <| .cons (.xL 3 1 8 (i := k) rfl rfl rfl rfl rfl (map_at hv1)) ?_
       refine .cons (.l1 1 rfl rfl) <| .cons (.sb rfl rfl rfl (by omega)) ?_
       refine .cons (.li 3 0 0 [.tmp 62] rfl rfl rfl rfl rfl rfl) <| .cons (St1.appB (k' := 164) (e := 3) (sz := 0) (by' := 8) rfl rfl rfl rfl rfl (by kernel_rfl) rfl rfl rfl rfl (by first | rfl | (rw [dR_len, List.length_map]; exact hsl) | (simp [dR]; done)) (by first | (simp [dR]; done) | (simp [dR]; omega)) rfl rfl rfl) ?_
       refine .cons (.asg rfl rfl) ?_
       refine .nil ⟨by kernel_rfl, ?_⟩
       refine kb_n <| ks_n <| .region <| .cons (.pl rfl rfl rfl) <| .cons (.mv rfl rfl) <| .nil ?_
       refine kl_k [(120, 120), (121, 164)] (.inr ⟨k + 1, rfl, by omega, by omega, rfl⟩) ⟨ks rfl .dt, ks rfl .dt, ks rfl (.c .ow), ks rfl .dt, ks rfl .dt, ks rfl (.c .ow), ks rfl .dt, ks rfl .dt, ks rfl .dt, ks rfl .dt, ks rfl .dt, ks rfl .dt, kb 120 rfl (.dt rfl (by first | rfl | (simp [dR, rIs]; done) | (simp [dR, rIs]; rfl))), kb 164 rfl (.dt rfl (by first | rfl | (rw [hsn]; simp [dR, rI, dI]; done) | (rw [hsn, hk0]; simp [dR, rI, dI]; done))), trivial⟩
      ·skip
       have hse := subL_end (k := k) hlen (by omega)
       have hs0 : k = 0 → subL y.2.2 x.2.2 = [] := fun h => by rw [← hse, h]; rfl
       refine .exit <| ks_e <| kl_e <| kb_hit <| ks_n ?_
       refine .keep [(.t 0, .v (.o (.c (.ptr (rT g))))), (.t 1, .v (.o (nat1 part))), (.t 5, .v (.o (.c (.own 830 1 (o.length))))), (.t 10, .v (.o (vD (dIs (subL y.2.2 x.2.2))))), (.t 13, .v (.o (vD (dDs (depsG g))))), (.t 14, .v (.o (nat1 ((depsG g).length : Nat)))), (.t 15, .v (.o (nat1 (j : Nat)))), (.b 830, .b 35 1 (dR (o.map rIs))), (.u 830, .u)] [(830, 120)] ⟨ks rfl .dt, ks rfl .dt, ks rfl (.c .ow), ks rfl (.c (.fz rfl (by rw [hse]) (by rw [List.length_map, subL_len hlen]; omega) (by omega))), ks rfl .dt, ks rfl .dt, ks rfl .dt, kb 120 rfl (.dt rfl (by first | rfl | (simp [dR, rIs]; done) | (simp [dR, rIs]; rfl))), trivial⟩ ?_
       refine .region <| .cons (.mv rfl rfl) <| .cons (.mv rfl rfl) <| .cons (.li 35 0 0 [.tmp 67] rfl rfl rfl rfl rfl rfl) <| .cons (St1.appB (k' := 169) (e := 35) (sz := 0) (by' := 24) rfl rfl rfl rfl rfl (by kernel_rfl) rfl rfl rfl rfl (by first | (simp [dR]; done) | (simp [dR]; omega)) (by first | (simp [dR]; done) | (simp [dR]; omega)) rfl rfl rfl) ?_
       refine .cons (.asg rfl rfl) <| .nil <| kb_n <| ks_n <| .region <| .cons (.pl rfl rfl rfl) <| .cons (.mv rfl rfl) <| .nil ?_
       refine kl_k [(110, 169)] (.inr ⟨j + 1, o ++ [subL y.2.2 x.2.2], rfl, by omega, by rw [dstN_next hd1, hE, hds]; rfl, by simp, rfl⟩) ⟨ks rfl .dt, ks rfl .dt, ks rfl (.c .ow), ks rfl .dt, ks rfl .dt, ks rfl .dt, kb 169 rfl (.dt rfl (by first | rfl | (simp [dR, rIs]; done) | (simp [dR, rIs]; rfl))), trivial⟩
  ·skip
   have hE2 := hE
   rw [dstN_end (j := j) (by omega)] at hE2
   refine .exit <| ks_e <| kl_e <| kb_hit <| ks_n <| .seq <| .region <| .cons (.mv rfl rfl) <| .cons (.cO [.tmp 71, .func 122] [(0, 110)] rfl rfl rfl rfl (sortP_fn (ls := o) (by omega)) rfl ⟨by rw [renR_dR]; rfl, trivial⟩ (.cons .nil rfl) (.cons .nil rfl) (.data .nil) outS_one) ?_
   refine .nil <| ks_n <| .seq <| .region <| .cons (.mv rfl rfl) <| .cons (.cO [.tmp 73, .func 124] [(0, 110)] rfl rfl rfl rfl (compact_fn (ls := sortL o) (by rw [sortL_len]; omega) (by rw [sortL_len]; omega)) (by rw [sortL_len]; rfl) ⟨by rw [renR_dR]; rfl, trivial⟩ (.cons .nil rfl) (.cons .nil rfl) (.data .nil) outS_one) ?_
   refine .cons (.asg rfl rfl) <| .nil <| ks_n <| .ret ?_
   refine kf_wret [(.t 4, .v (.o (vD (dPs (dstV g part)))))] (Wk.keep [] rfl rfl ⟨ks rfl (.c (.fz rfl (by rw [dstV, hE2]) (by rw [List.length_map, dstV, hE2]) (by have := kpL_len (sortL o) (sortL o).length; have := sortL_len (ls := o); unfold kpV; omega))), trivial⟩) rfl ?_ nobox
   rfl
theorem dstG_mem {g : Prg} (hS : prgS g = true) {part : Int} {d : List Int} (h : d ∈ dstG g part) : ∃ k q, part = ((k : Nat) : Int) ∧ g.2[k]? = some q ∧ d.length = q.1.length := by
  rw [dstG, List.mem_filterMap] at h
  obtain ⟨e, he, hd⟩ := h
  obtain ⟨a, b, hde, hab, hbl, _⟩ := deps_mem he
  obtain ⟨x, hx1⟩ : ∃ x, (insG 0 g.2)[a]? = some x := ⟨_, List.getElem?_eq_getElem (by omega)⟩
  obtain ⟨y, hy1⟩ : ∃ y, (insG 0 g.2)[b]? = some y := ⟨_, List.getElem?_eq_getElem hbl⟩
  obtain ⟨kx, cx, qx, hIx⟩ := ins_at hS (List.mem_of_getElem? hx1)
  obtain ⟨ky, cy, qy, hIy⟩ := ins_at hS (List.mem_of_getElem? hy1)
  rw [dstD_eq (by rw [hde]) (by rw [hde]) hx1 hy1] at hd
  split at hd
  · rename_i hp
    cases hd
    have e1 := hIx.e1
    have hl := ins_same hIx hIy (by omega)
    exact ⟨kx, qx, by omega, hIx.hq, by rw [subL_len hl.symm, ← hl]; exact ins_len hIx⟩
  · cases hd
/-- The number of loops of a part. -/
def nestQ (g : Prg) (part : Int) : Nat := match g.2[part.toNat]? with | some q => q.1.length | none => 0
theorem nestQ_eq {g : Prg} {part : Int} {k : Nat} {q : Prt} (h : part = (k : Int)) (hq : g.2[k]? = some q) : nestQ g part = q.1.length := by rw [nestQ, h, Int.toNat_natCast, hq]
theorem prt_nest {g : Prg} (hS : prgS g = true) {k : Nat} {q : Prt} (hq : g.2[k]? = some q) : q.1.length ≤ 4 := by
  have h := (prtV_iff.1 ((prgS_iff.1 hS).2.2 q (List.mem_of_getElem? hq))).1
  exact (nsV_at (np_pts h).1).1
theorem part_at {g : Prg} {part : Int} (h : inB part 0 ((g.2.length : Nat) - 1) = true) : ∃ k q, part = ((k : Nat) : Int) ∧ g.2[k]? = some q := by
  have h := of_decide_eq_true h
  exact ⟨part.toNat, g.2[part.toNat]'(by omega), by omega, List.getElem?_eq_getElem (by omega)⟩
theorem part_in {g : Prg} {part : Int} {k : Nat} {q : Prt} (h : part = (k : Int)) (hq : g.2[k]? = some q) : inB part 0 ((g.2.length : Nat) - 1) = true := by
  have := (List.getElem?_eq_some_iff.1 hq).1
  exact decide_eq_true (by omega)
def crV (g : Prg) (part : Int) : List Bool := carF (nestQ g part) (dstV g part)
theorem crV_len {g : Prg} {part : Int} : (crV g part).length = nestQ g part := carF_len
theorem crV_eq {g : Prg} {part : Int} {k : Nat} {q : Prt} (h : part = (k : Int)) (hq : g.2[k]? = some q) : crV g part = carF q.1.length (dstV g part) := by rw [crV, nestQ_eq h hq]
/-- The loops that carry a distance. -/
def crl (g : Prg) (part : Int) : List Int := if prgV g = true ∧ inB part 0 ((g.2.length : Nat) - 1) = true then flagV (crV g part) else []
def hasL (g : Prg) (part loop : Int) : Bool := prgV g && (inB part 0 ((g.2.length : Nat) - 1) && inB loop 0 ((nestQ g part : Nat) - 1))
def parB (g : Prg) (part loop : Int) : Bool := hasL g part loop && !(crV g part).getD loop.toNat false
theorem carF_nil {n i : Nat} : (carF n []).getD i false = false := by
  rw [carF, List.foldl_nil, List.getD]
  by_cases h : i < n
  · rw [List.getElem?_replicate, if_pos h]; rfl
  · rw [List.getElem?_replicate, if_neg h]; rfl
theorem flagV_none {l : List Bool} (h : ∀ i, l.getD i false = false) : flagV l = [] := by
  rw [flagV, flagN]
  rw [List.filter_eq_nil_iff.2 (fun i _ => by rw [h i]; simp)]; rfl
/-- From the reference's list of distances: the same loops. -/
theorem crl_ref {g : Prg} {part : Int} {l : List (List Int)} (hV : prgV g = true) (hl : ∀ d, d ∈ l ↔ d ∈ dstG g part) : flagV (carF 4 l) = crl g part := by
  have hS := (prgV_s hV).1
  rw [crl]
  split
  · rename_i h
    obtain ⟨k, q, hk, hq⟩ := part_at h.2
    rw [crV_eq hk hq]
    refine (flagV_congr (carF_same (fun d => ?_) (prt_nest hS hq) fun d hd => ?_)).symm
    · rw [mem_dstV]; exact (hl d).symm
    · obtain ⟨k', q', hk', hq', hd'⟩ := dstG_mem hS (mem_dstV.1 hd)
      have : k = k' := by omega
      subst this
      rw [hq] at hq'; cases hq'
      exact hd'
  · rename_i h
    have e : l = [] := by
      cases l with
      | nil => rfl
      | cons d l =>
        obtain ⟨k', q', hk', hq', _⟩ := dstG_mem hS ((hl d).1 (by simp))
        exact absurd ⟨hV, part_in hk' hq'⟩ h
    rw [e]
    exact flagV_none fun i => carF_nil
theorem crl_no {g : Prg} {part : Int} (h : prgV g = false) : crl g part = [] := by rw [crl, if_neg (by rw [h]; simp)]
theorem crl_yes {g : Prg} {part : Int} (h : prgV g = true) (h2 : inB part 0 ((g.2.length : Nat) - 1) = true) : crl g part = flagV (crV g part) := by rw [crl, if_pos ⟨h, h2⟩]
theorem has_flagV {l : List Bool} {n : Int} (h : 0 ≤ n) : hasV (flagV l) n = l.getD n.toNat false := by
  rw [Bool.eq_iff_iff, hasV, List.any_eq_true]
  constructor
  · rintro ⟨m, hm, e⟩
    obtain ⟨i, rfl, _, h2⟩ := flagV_mem.1 hm
    have e := of_decide_eq_true e
    rw [show n.toNat = i by omega]; exact h2
  · intro h2
    refine ⟨n, flagV_mem.2 ⟨n.toNat, by omega, ?_, h2⟩, by simp⟩
    by_cases q : n.toNat < l.length
    · exact q
    · rw [List.getD, List.getElem?_eq_none (by omega)] at h2; cases h2
theorem parB_ref {g : Prg} {part loop : Int} (h : hasL g part loop = true) : parB g part loop = !hasV (crl g part) loop := by
  have h2 := h
  rw [hasL, Bool.and_eq_true, Bool.and_eq_true] at h2
  have h3 := of_decide_eq_true h2.2.2
  rw [parB, h, crl_yes h2.1 h2.2.1, has_flagV h3.1, Bool.true_and]
/-- The reference's list of distances. -/
def insS (d : List Int) : List (List Int) → List (List Int)
  | [] => [d]
  | x :: l => if lexB d x = true then d :: x :: l else x :: insS d l
def addS (l : List (List Int)) (d : List Int) : List (List Int) := if d ∈ l then l else insS d l
theorem mem_insS {d x : List Int} : ∀ {l : List (List Int)}, x ∈ insS d l ↔ x = d ∨ x ∈ l
  | [] => by simp [insS]
  | y :: l => by
    rw [insS]
    split
    · simp
    · rw [List.mem_cons, mem_insS, List.mem_cons]
      constructor
      · rintro (h | h | h)
        · exact .inr (.inl h)
        · exact .inl h
        · exact .inr (.inr h)
      · rintro (h | h | h)
        · exact .inr (.inl h)
        · exact .inl h
        · exact .inr (.inr h)
theorem mem_addS {d x : List Int} {l : List (List Int)} : x ∈ addS l d ↔ x ∈ l ∨ x = d := by
  rw [addS]
  split
  · rename_i h
    exact ⟨.inl, fun h2 => h2.elim id fun e => e ▸ h⟩
  · rw [mem_insS]; exact ⟨fun h => h.elim .inr .inl, fun h => h.elim .inr .inl⟩
theorem insS_len {d : List Int} : ∀ {l : List (List Int)}, (insS d l).length = l.length + 1
  | [] => rfl
  | y :: l => by
    rw [insS]; split
    · rfl
    · rw [List.length_cons, insS_len, List.length_cons]
theorem addS_len {d : List Int} {l : List (List Int)} : (addS l d).length ≤ l.length + 1 := by
  rw [addS]; split
  · omega
  · rw [insS_len]; omega
theorem insS_app {d : List Int} {r : List (List Int)} : ∀ {l : List (List Int)}, (l.any fun x => lexB d x) = true → insS d (l ++ r) = insS d l ++ r
  | [], h => by simp at h
  | x :: l, h => by
    rw [List.cons_append, insS, insS]
    split
    · rfl
    · rename_i hx
      rw [List.any_cons, Bool.or_eq_true] at h
      rw [insS_app (h.resolve_left hx)]; rfl
theorem insS_new {d x : List Int} : ∀ {l : List (List Int)}, (l.any fun x => lexB d x) = false → lexB d x = true → insS d (l ++ [x]) = l ++ [d, x]
  | [], _, hx => by rw [List.nil_append, insS, if_pos hx]; rfl
  | y :: l, h, hx => by
    rw [List.any_cons, Bool.or_eq_false_iff] at h
    rw [List.cons_append, insS, if_neg (by rw [h.1]; simp), insS_new h.2 hx]; rfl
theorem insS_last {d : List Int} : ∀ {l : List (List Int)}, (l.any fun x => lexB d x) = false → insS d l = l ++ [d]
  | [], _ => rfl
  | y :: l, h => by
    rw [List.any_cons, Bool.or_eq_false_iff] at h
    rw [insS, if_neg (by rw [h.1]; simp), insS_last h.2]; rfl
/-- Behind i rows: what was written, and whether d is among it. -/
def addN (l : List (List Int)) (d : List Int) (i : Nat) : List (List Int) := if ((l.take i).any fun x => lexB d x) = true then insS d (l.take i) else l.take i
def addB (l : List (List Int)) (d : List Int) (i : Nat) : Bool := (l.take i).any fun x => lexB d x
theorem addB_next {l : List (List Int)} {d x : List Int} {i : Nat} (h : l[i]? = some x) : addB l d (i + 1) = (addB l d i || lexB d x) := by
  rw [addB, List.take_add_one, h, List.any_append]; simp [addB]
theorem addN_old {l : List (List Int)} {d x : List Int} {i : Nat} (h : l[i]? = some x) (hb : addB l d i = true ∨ lexB d x = false) : addN l d (i + 1) = addN l d i ++ [x] := by
  have e := addB_next (d := d) h
  have ht : l.take (i + 1) = l.take i ++ [x] := by rw [List.take_add_one, h]; rfl
  unfold addB at e hb
  rw [addN, addN, e]
  rcases hb with hb | hb
  · rw [hb, Bool.true_or, if_pos rfl, if_pos rfl, ht, insS_app hb]
  · rw [hb, Bool.or_false]
    by_cases q : ((l.take i).any fun x => lexB d x) = true
    · rw [if_pos q, if_pos q, ht, insS_app q]
    · rw [if_neg q, if_neg q, ht]
theorem addN_new {l : List (List Int)} {d x : List Int} {i : Nat} (h : l[i]? = some x) (hb : addB l d i = false) (hx : lexB d x = true) : addN l d (i + 1) = addN l d i ++ [d] ++ [x] := by
  have e := addB_next (d := d) h
  have ht : l.take (i + 1) = l.take i ++ [x] := by rw [List.take_add_one, h]; rfl
  unfold addB at e hb
  rw [addN, addN, e, hb, hx, Bool.false_or, if_pos rfl, if_neg (by simp), ht, insS_new hb hx, List.append_assoc]; rfl
theorem addN_end {l : List (List Int)} {d : List Int} (h : ∀ j x, j < l.length → l[j]? = some x → ¬ x = d) : addS l d = if addB l d l.length = true then addN l d l.length else addN l d l.length ++ [d] := by
  have hm : d ∉ l := fun hd => by
    obtain ⟨j, hj⟩ := List.mem_iff_getElem?.1 hd
    exact h j d (List.getElem?_eq_some_iff.1 hj).1 hj rfl
  rw [addS, if_neg hm, addN, addB, List.take_length]
  split
  · rfl
  · rename_i q; exact insS_last (by simpa using q)
theorem addS_in {l : List (List Int)} {d x : List Int} {i : Nat} (h : l[i]? = some x) (e : x = d) : addS l d = l := by rw [addS, if_pos (e ▸ List.mem_of_getElem? h)]
def dstS (g : Prg) (part : Int) (j : Nat) : List (List Int) := (dstN g part j).foldl addS []
theorem dstS_none {g : Prg} {part : Int} {j : Nat} {d : Dpn} (h : (depsG g)[j]? = some d) (hn : dstD g part d = none) : dstS g part (j + 1) = dstS g part j := by rw [dstS, dstN_next h, hn]; simp [dstS]
theorem dstS_some {g : Prg} {part : Int} {j : Nat} {d : Dpn} {v : List Int} (h : (depsG g)[j]? = some d) (hn : dstD g part d = some v) : dstS g part (j + 1) = addS (dstS g part j) v := by rw [dstS, dstN_next h, hn]; simp [dstS, List.foldl_append]
theorem mem_foldS {d : List Int} : ∀ {l a : List (List Int)}, d ∈ l.foldl addS a ↔ d ∈ a ∨ d ∈ l
  | [], a => by simp
  | x :: l, a => by
    rw [List.foldl_cons, mem_foldS, mem_addS, List.mem_cons, or_assoc]
theorem mem_dstS {g : Prg} {part : Int} {j : Nat} {d : List Int} (h : (depsG g).length ≤ j) : d ∈ dstS g part j ↔ d ∈ dstG g part := by rw [dstS, mem_foldS, dstN_end h]; simp
theorem dstS_len {g : Prg} {part : Int} : ∀ j, (dstS g part j).length ≤ j := by
  intro j
  have key : ∀ (l a : List (List Int)), (l.foldl addS a).length ≤ a.length + l.length := by
    intro l
    induction l with
    | nil => intro a; simp
    | cons x l ih =>
      intro a
      have h1 := ih (addS a x)
      have h2 := addS_len (d := x) (l := a)
      rw [List.foldl_cons, List.length_cons]; omega
  have h1 := key (dstN g part j) []
  have h2 := dstN_len (g := g) (part := part) (j := j)
  rw [dstS]; simp at h1; omega
theorem carried_fn {g : Prg} (hS : prgS g = true) (hL : (insG 0 g.2).length ≤ 120) {part : Int} {k : Nat} {q : Prt} (hk : part = (k : Int)) (hq : g.2[k]? = some q)  : Fn Tryz.prog 40 [] [.c (.ptr (rT g)), nat1 part] (.o (vD (dBs (crV g part)))) [] := by
  have hqn := prt_nest hS hq
  have hdl := kpL_len (sortL (dstG g part)) (sortL (dstG g part)).length
  have hsl := sortL_len (ls := dstG g part)
  have hdg : (dstG g part).length ≤ 14400 := by
    have h1 := depsN_len hL (n := (insG 0 g.2).length)
    have h2 := dstN_len (g := g) (part := part) (j := (depsG g).length)
    rw [dstN_end (Nat.le_refl _)] at h2
    have h3 : (depsG g).length ≤ 14400 := by unfold depsG; omega
    omega
  have hdv : (dstV g part).length ≤ 14400 := by unfold dstV kpV; omega
  refine Fn.code0 Tryz.func40 rfl rfl rfl rfl ?_
  refine .seq <| .region <| .cons (.asg rfl rfl) <| .nil <| ks_n <| .seq <| .region <| .cons (.mv rfl rfl) <| .cons (.nP rfl rfl) <| .cons (.fP 0 1 true rfl rfl) <| .cons (.fP 1 0 false rfl rfl) <| .cons (.l1 1 rfl rfl) <| .cons (.mv rfl rfl) <| .cons (.xL 104 2 48 (i := k) rfl rfl rfl rfl hk (map_at hq)) ?_
  refine .cons (.fP 0 0 false rfl rfl) <| .cons (.l1 1 rfl rfl) <| .cons (.ln 172 2 48 rfl rfl rfl) <| .cons (.mk 119 4 1 1 [.bool false] rfl rfl rfl (by omega) rfl rfl) ?_
  refine .cons (.asg rfl rfl) <| .nil <| ks_n <| .seq <| .seq <| .region <| .cons (.mv rfl rfl) <| .cons (.mv rfl rfl) <| .cons (.cP [.tmp 20, .tmp 21] rfl rfl rfl rfl (dist_fn hS hL part) rfl) ?_
  refine .cons (.ln 35 1 24 rfl rfl rfl) <| .cons (.mv rfl rfl) <| .nil <| ks_n <| .block ?_
  refine .loopK (fun m σ => (∃ j : Nat, m = (dstV g part).length - j ∧ (j ≤ (dstV g part).length) ∧ σ = [(.t 5, .v (.o (.c (.own 110 1 (q.1.length))))), (.t 22, .v (.o (vD (dPs (dstV g part))))), (.t 23, .v (.o (nat1 ((dstV g part).length : Nat)))), (.t 24, .v (.o (nat1 (j : Nat)))), (.b 110, .b 4 1 (dR ((carF q.1.length ((dstV g part).take j)).map rB))), (.u 110, .u)])) [(110, 119)] ⟨0, rfl, by omega, rfl⟩ ⟨ks rfl (.c .ow), ks rfl .dt, ks rfl .dt, ks rfl .dt, kb 119 rfl (.dt rfl (by first | exact dR_repB _ | rfl | (rw [hcn, carS, if_neg (by omega)]; done) | (rw [hcn, carS, if_pos (by omega)]; exact dR_setB _ _ _ _))), trivial⟩ ?_
  rintro m σ ⟨j, hm0, hj, rfl⟩
  refine .seq <| .region <| .cons (.ls rfl rfl rfl) <| .nil <| ks_n <| .seq ?_
  refine .cD rfl (fun h25 => ?_) (fun h25 => ?_)
  · skip
    obtain ⟨d, hd1⟩ : ∃ x_, (dstV g part)[j]? = some x_ := ⟨_, List.getElem?_eq_getElem (by omega)⟩
    obtain ⟨k', q', hk', hq', hd'⟩ := dstG_mem hS (mem_dstV.1 (List.mem_of_getElem? hd1))
    have hkk : k = k' := by omega
    subst hkk
    rw [hq] at hq'; cases hq'
    have hcb := carry_bd (d := d)
    have hcn := carF_next (n := q.1.length) hd1
    refine .skip <| ks_n <| .seq <| .block <| .seq <| .region <| .cons (.xL 35 1 24 (i := j) rfl rfl rfl rfl rfl (map_at hd1)) ?_
    refine .cons (.l1 1 rfl rfl) <| .cons (.asg rfl rfl) <| .nil <| ks_n <| .seq <| .region <| .cons (.mv rfl rfl) <| .cons (.cP [.tmp 28] rfl rfl rfl rfl (carry_fn d) rfl) ?_
    refine .cons (.asg rfl rfl) <| .nil <| ks_n <| .seq <| .region <| .cons (.mv rfl rfl) <| .cons (.ge rfl rfl rfl) <| .nil <| ks_n ?_
    refine .cD rfl (fun h31 => ?_) (fun h31 => ?_)
    · skip
      obtain ⟨f, hf1⟩ : ∃ f, (carF q.1.length ((dstV g part).take j))[(carry d).toNat]? = some f := ⟨_, List.getElem?_eq_getElem (by rw [carF_len]; omega)⟩
      refine .region <| .cons (.mv rfl rfl) <| .cons (.mv rfl rfl) <| .cons (.xB 4 1 1 (i := (carry d).toNat) rfl rfl rfl rfl rfl (by omega) (by omega)) ?_
      refine .cons (.sT 1 false rfl rfl rfl rfl (dR_at (map_at hf1)) rfl rfl) <| .nil <| kb_n <| ks_n <| .region <| .cons (.pl rfl rfl rfl) <| .cons (.mv rfl rfl) <| .nil ?_
      refine kl_k [(110, 110)] ⟨j + 1, rfl, by omega, rfl⟩ ⟨ks rfl (.c .ow), ks rfl .dt, ks rfl .dt, ks rfl .dt, kb 110 rfl (.dt rfl (by first | exact dR_repB _ | rfl | (rw [hcn, carS, if_neg (by omega)]; done) | (rw [hcn, carS, if_pos (by omega)]; exact dR_setB _ _ _ _))), trivial⟩
    · skip
      refine .skip <| kb_n <| ks_n <| .region <| .cons (.pl rfl rfl rfl) <| .cons (.mv rfl rfl) <| .nil ?_
      refine kl_k [(110, 110)] ⟨j + 1, rfl, by omega, rfl⟩ ⟨ks rfl (.c .ow), ks rfl .dt, ks rfl .dt, ks rfl .dt, kb 110 rfl (.dt rfl (by first | exact dR_repB _ | rfl | (rw [hcn, carS, if_neg (by omega)]; done) | (rw [hcn, carS, if_pos (by omega)]; exact dR_setB _ _ _ _))), trivial⟩
  · skip
    obtain rfl : j = (dstV g part).length := by omega
    have hce : crV g part = carF q.1.length ((dstV g part).take (dstV g part).length) := by rw [crV_eq hk hq, List.take_length]
    refine .exit <| ks_e <| kl_e <| kb_hit <| ks_n <| .seq <| .region <| .cons (.mv rfl rfl) <| .cons (.asg rfl rfl) <| .nil <| ks_n <| .ret ?_
    refine kf_wret [(.t 4, .v (.o (vD (dBs (crV g part)))))] (Wk.keep [] rfl rfl ⟨ks rfl (.c (.fz rfl (by rw [hce]) (by rw [List.length_map, crV_len, nestQ_eq hk hq]) (by omega))), trivial⟩) rfl ?_ nobox
    rfl
theorem isLoop_fn {g : Prg} (hl : g.2.length ≤ 1099511627776) (hn : ∀ (k : Nat) q, g.2[k]? = some q → q.1.length ≤ 4) (part loop : Int) : Fn Tryz.prog 39 [] [ad (rG g), nat1 part, nat1 loop] (.o (bo1 (inB part 0 ((g.2.length : Nat) - 1) && inB loop 0 ((nestQ g part : Nat) - 1)))) [] := by
  refine Fn.code0 Tryz.func39 rfl rfl rfl rfl ?_
  refine .seq <| .region <| .cons (St1.boxP rfl rfl rfl rfl rfl rfl) <| .cons (.asg rfl rfl) <| .nil <| ks_n <| .seq <| .region <| .cons (.lN 2 rfl rfl rfl) <| .cons (.mv rfl rfl) <| .cons (.cP [.tmp 7, .tmp 8] rfl rfl rfl rfl (isPart_fn hl part) rfl) ?_
  refine .cons (.mv rfl rfl) ?_
  refine AOps.cases 10 _ rfl (fun g10 => ?_) (fun g10 => ?_)
  · try simp only [zs1, zs2, zs3, zs4, zs5, zs6, zs7] at g10
    obtain ⟨k, q, hk, hq⟩ := part_at (part := part) (g := g) (by first | assumption | simp_all)
    have hnq := nestQ_eq hk hq
    refine .cons (.gT rfl rfl rfl (.mv rfl rfl)) <| .cons (.gT rfl rfl rfl (.fP 1 0 false rfl rfl)) <| .cons (.gT rfl rfl rfl (.l1 1 rfl rfl)) <| .cons (.gT rfl rfl rfl (.mv rfl rfl)) <| .cons (.gT rfl rfl rfl (.xL 104 2 48 (i := k) rfl rfl rfl rfl hk (map_at hq))) ?_
    refine .cons (.gT rfl rfl rfl (.fP 0 0 false rfl rfl)) <| .cons (.gT rfl rfl rfl (.l1 1 rfl rfl)) <| .cons (.gT rfl rfl rfl (.ln 172 2 48 rfl rfl rfl)) <| .cons (.gT rfl rfl rfl (.sb rfl rfl rfl (by have := hn k q hq; omega))) ?_
    refine .cons (.gT rfl rfl rfl (.cP [.tmp 11, .const (.int .i64 (0)), .tmp 19] rfl rfl rfl rfl (within_fn _ _ _) rfl)) ?_
    refine .cons (.pT rfl rfl rfl) <| .cons (.asg rfl rfl) <| .nil <| ks_n <| .ret ?_
    refine kf_ret rfl ?_ nobox
    exact leafB (by first | (rw [g10, Bool.true_and, hnq]; done) | (rw [g10]; rfl) | simp_all)
  · try simp only [zs1, zs2, zs3, zs4, zs5, zs6, zs7] at g10
    refine .cons (.gF rfl rfl rfl) <| .cons (.gF rfl rfl rfl) <| .cons (.gF rfl rfl rfl) <| .cons (.gF rfl rfl rfl) <| .cons (.gF rfl rfl rfl) <| .cons (.gF rfl rfl rfl) <| .cons (.gF rfl rfl rfl) <| .cons (.gF rfl rfl rfl) <| .cons (.gF rfl rfl rfl) <| .cons (.gF rfl rfl rfl) <| .cons (.pF rfl rfl rfl) <| .cons (.asg rfl rfl) <| .nil <| ks_n <| .ret ?_
    refine kf_ret rfl ?_ nobox
    exact leafB (by first | (rw [g10, Bool.true_and, hnq]; done) | (rw [g10]; rfl) | simp_all)

theorem par_bad {g : Prg} (hs : szG g ≤ 1073741824) (part loop : Int) (hV : prgV g = false) : Fn Tryz.prog 13 [] [ad (rG g), nat1 part, nat1 loop] (.o (bo1 (parB g part loop))) [] := by
  refine Fn.code0 Tryz.func13 rfl rfl rfl rfl ?_
  refine .seq <| .region <| .cons (St1.boxP rfl rfl rfl rfl rfl rfl) <| .cons (.asg rfl rfl) <| .nil <| ks_n <| .seq <| .region <| .cons (.lN 2 rfl rfl rfl) <| .cons (.cP [.tmp 10] rfl rfl rfl rfl (trace_no hs hV) rfl) ?_
  refine .cons (.mv rfl rfl) <| .cons (.ex rfl rfl rfl) <| .cons (.ex rfl rfl rfl) <| .cons (.asg rfl rfl) <| .cons (.asg rfl rfl) <| .nil <| ks_n <| .seq <| .region <| .cons (.mv rfl rfl) <| .cons (.mv rfl rfl) ?_
  refine AOps.cases 15 _ rfl (fun g15 => ?_) (fun g15 => ?_)
  · try simp only [zs1, zs2, zs3, zs4, zs5, zs6, zs7] at g15
    cases g15
  · try simp only [zs1, zs2, zs3, zs4, zs5, zs6, zs7] at g15
    refine .cons (.gF rfl rfl rfl) <| .cons (.gF rfl rfl rfl) <| .cons (.gF rfl rfl rfl) <| .cons (.gF rfl rfl rfl) <| .cons (.pF rfl rfl rfl) <| .cons (.mv rfl rfl) <| .cons (.gF rfl rfl rfl) <| .cons (.gF rfl rfl rfl) <| .cons (.gF rfl rfl rfl) <| .cons (.gF rfl rfl rfl) <| .cons (.gF rfl rfl rfl) <| .cons (.gF rfl rfl rfl) <| .cons (.gF rfl rfl rfl) <| .cons (.pF rfl rfl rfl) <| .cons (.asg rfl rfl) <| .nil <| ks_n <| .ret ?_
    refine kf_ret rfl ?_ nobox
    exact leafB (by rw [parB, hasL, hV]; rfl)

theorem par_good {g : Prg} (hs : szG g ≤ 1073741824) (part loop : Int) (hV : prgV g = true) : Fn Tryz.prog 13 [] [ad (rG g), nat1 part, nat1 loop] (.o (bo1 (parB g part loop))) [] := by
  obtain ⟨hS, hN, hL⟩ := prgV_s hV
  have h4 := (prgS_iff.1 hS).2.1
  have hn4 : ∀ (k : Nat) q, g.2[k]? = some q → q.1.length ≤ 4 := fun k q hq => prt_nest hS hq
  refine Fn.code0 Tryz.func13 rfl rfl rfl rfl ?_
  refine .seq <| .region <| .cons (St1.boxP rfl rfl rfl rfl rfl rfl) <| .cons (.asg rfl rfl) <| .nil <| ks_n <| .seq <| .region <| .cons (.lN 2 rfl rfl rfl) <| .cons (.cP [.tmp 10] rfl rfl rfl rfl (trace_fn hs hV) rfl) ?_
  refine .cons (.mv rfl rfl) <| .cons (.ex rfl rfl rfl) <| .cons (.ex rfl rfl rfl) <| .cons (.asg rfl rfl) <| .cons (.asg rfl rfl) <| .nil <| ks_n <| .seq <| .region <| .cons (.mv rfl rfl) <| .cons (.mv rfl rfl) ?_
  refine AOps.cases 15 _ rfl (fun g15 => ?_) (fun g15 => ?_)
  · try simp only [zs1, zs2, zs3, zs4, zs5, zs6, zs7] at g15
    refine .cons (.gT rfl rfl rfl (.lN 2 rfl rfl rfl)) <| .cons (.gT rfl rfl rfl (.mv rfl rfl)) <| .cons (.gT rfl rfl rfl (.mv rfl rfl)) <| .cons (.gT rfl rfl rfl (.cP [.tmp 16, .tmp 17, .tmp 18] rfl rfl rfl rfl (isLoop_fn (by omega) hn4 part loop) rfl)) ?_
    refine .cons (.pT rfl rfl rfl) <| .cons (.mv rfl rfl) ?_
    refine AOps.cases 21 _ rfl (fun g21 => ?_) (fun g21 => ?_)
    · try simp only [zs1, zs2, zs3, zs4, zs5, zs6, zs7] at g21
      have hg : (inB part 0 ((g.2.length : Nat) - 1) && inB loop 0 ((nestQ g part : Nat) - 1)) = true := by first | assumption | simp_all
      rw [Bool.and_eq_true] at hg
      obtain ⟨k, q, hk, hq⟩ := part_at (part := part) (g := g) hg.1
      have hnq := nestQ_eq hk hq
      have hlo := of_decide_eq_true hg.2
      obtain ⟨b, hb1⟩ : ∃ b, (crV g part)[loop.toNat]? = some b := ⟨_, List.getElem?_eq_getElem (by rw [crV_len]; omega)⟩
      have hpb : parB g part loop = !b := by rw [parB, hasL, hV, hg.1, hg.2, List.getD, hb1]; rfl
      refine .cons (.gT rfl rfl rfl (.mv rfl rfl)) <| .cons (.gT rfl rfl rfl (.mv rfl rfl)) <| .cons (.gT rfl rfl rfl (.cP [.tmp 22, .tmp 23] rfl rfl rfl rfl (carried_fn hS hL hk hq) rfl)) ?_
      refine .cons (.gT rfl rfl rfl (.mv rfl rfl)) <| .cons (.gT rfl rfl rfl (.xL 4 1 1 (i := loop.toNat) rfl rfl rfl rfl (by omega) (map_at hb1))) ?_
      refine .cons (.gT rfl rfl rfl (.l1 1 rfl rfl)) <| .cons (.gT rfl rfl rfl (.nt rfl rfl)) <| .cons (.pT rfl rfl rfl) <| .cons (.asg rfl rfl) <| .nil <| ks_n <| .ret ?_
      refine kf_ret rfl ?_ nobox
      exact leafB (by first | (rw [hpb]; done) | (rw [parB, hasL, hg]; simp) | (rw [parB, hasL, hV, hg]; rfl))
    · try simp only [zs1, zs2, zs3, zs4, zs5, zs6, zs7] at g21
      have hg : (inB part 0 ((g.2.length : Nat) - 1) && inB loop 0 ((nestQ g part : Nat) - 1)) = false := by first | assumption | simp_all
      refine .cons (.gF rfl rfl rfl) <| .cons (.gF rfl rfl rfl) <| .cons (.gF rfl rfl rfl) <| .cons (.gF rfl rfl rfl) <| .cons (.gF rfl rfl rfl) <| .cons (.gF rfl rfl rfl) <| .cons (.gF rfl rfl rfl) <| .cons (.pF rfl rfl rfl) <| .cons (.asg rfl rfl) <| .nil <| ks_n <| .ret ?_
      refine kf_ret rfl ?_ nobox
      exact leafB (by first | (rw [hpb]; done) | (rw [parB, hasL, hg]; simp) | (rw [parB, hasL, hV, hg]; rfl))
  · try simp only [zs1, zs2, zs3, zs4, zs5, zs6, zs7] at g15
    cases g15

theorem implPar_fn {g : Prg} (hs : szG g ≤ 1073741824) (part loop : Int) : Fn Tryz.prog 13 [] [ad (rG g), nat1 part, nat1 loop] (.o (bo1 (parB g part loop))) [] := by
  cases hV : prgV g with
  | false => exact par_bad hs part loop hV
  | true => exact par_good hs part loop hV
theorem l6Minus_fn {y x : List Int} (hl : y.length = x.length) (h4 : y.length ≤ 4) (hyb : ∀ a ∈ y, -9999 ≤ a ∧ a ≤ 9999) (hxb : ∀ a ∈ x, -9999 ≤ a ∧ a ≤ 9999) : Fn Tryz.prog 131 [] [vD (dIs y), vD (dIs x)] (.o (vD (dIs (subL y x)))) [] := by
 refine Fn.code0 Tryz.func131 rfl rfl rfl rfl ?_
 refine .seq <| .region <| .cons (.asg rfl rfl) <| .nil <| ks_n <| .seq <| .region <| .cons (St1.lit0 (k' := 107) (e := 3) (sz := 1) (b := true) rfl rfl rfl rfl (by kernel_rfl) rfl rfl) ?_
 refine .cons (.asg rfl rfl) <| .nil <| ks_n <| .seq <| .seq <| .region <| .cons (.asg rfl rfl) <| .nil <| ks_n <| .block ?_
 refine .loopK (fun m σ => (∃ k : Nat, m = y.length - k ∧ (k ≤ y.length) ∧ σ = [(.t 0, .v (.o (vD (dIs y)))), (.t 1, .v (.o (vD (dIs x)))), (.t 5, .v (.o (.c (.own 110 1 (k))))), (.t 6, .v (.o (nat1 (k : Nat)))), (.b 110, .b 3 1 (dR (((subL y x).take k).map rI))), (.u 110, .u)])) [(110, 107)] ⟨0, rfl, by omega, rfl⟩ ⟨ks rfl .dt, ks rfl .dt, ks rfl (.c .ow), ks rfl .dt, kb 107 rfl (.dt rfl (by first | rfl | (rw [hsn]; simp [dR, rI, dI]; done))), trivial⟩ ?_
 rintro m σ ⟨k, hm0, hk, rfl⟩
 refine .seq <| .seq <| .region <| .cons (.mv rfl rfl) <| .cons (.mv rfl rfl) <| .cons (.ln 3 1 8 rfl rfl rfl) <| .cons (.ls rfl rfl rfl) <| .nil <| ks_n ?_
 refine .cD rfl (fun h11 => ?_) (fun h11 => ?_)
 ·skip
  obtain ⟨u, hu1⟩ : ∃ u, y[k]? = some u := ⟨_, List.getElem?_eq_getElem (by omega)⟩
  obtain ⟨v, hv1⟩ : ∃ v, x[k]? = some v := ⟨_, List.getElem?_eq_getElem (by omega)⟩
  have hub := hyb u (List.mem_of_getElem? hu1)
  have hvb := hxb v (List.mem_of_getElem? hv1)
  have hsn := subL_take hu1 hv1
  have hsl : ((subL y x).take k).length = k := by rw [List.length_take, subL_len hl]; omega
  refine .skip <| ks_n <| .seq <| .block ?_
  refine ACode.drawK (by kernel_rfl) (by kernel_rfl) ?_
  refine .cons (.mv rfl rfl) <| .cons (.mv rfl rfl) <| .cons (.mv rfl rfl) <| .cons (.xL 3 1 8 (i := k) rfl rfl rfl rfl rfl (map_at hu1)) ?_
  refine .cons (.l1 1 rfl rfl) <| .cons (.mv rfl rfl) <| .cons (.mv rfl rfl) <| .cons (.xL 3 1 8 (i := k) rfl rfl rfl rfl rfl (map_at hv1)) ?_
  refine .cons (.l1 1 rfl rfl) <| .cons (.sb rfl rfl rfl (by omega)) ?_
  refine .cons (.li 3 0 0 [.tmp 23] rfl rfl rfl rfl rfl rfl) <| .cons (St1.appB (k' := 125) (e := 3) (sz := 0) (by' := 8) rfl rfl rfl rfl rfl (by kernel_rfl) rfl rfl rfl rfl (by rw [dR_len, List.length_map]; exact hsl) (by simp [dR]; omega) rfl rfl rfl) ?_
  refine .cons (.asg rfl rfl) ?_
  refine .nil ⟨by kernel_rfl, ?_⟩
  refine kb_n <| ks_n <| .region <| .cons (.mv rfl rfl) <| .cons (.pl rfl rfl rfl) <| .cons (.asg rfl rfl) <| .nil ?_
  refine kl_k [(110, 125)] ⟨k + 1, rfl, by omega, rfl⟩ ⟨ks rfl .dt, ks rfl .dt, ks rfl (.c .ow), ks rfl .dt, kb 125 rfl (.dt rfl (by first | rfl | (rw [hsn]; simp [dR, rI, dI]; done))), trivial⟩
 ·skip
  have hse := subL_end (k := k) hl (by omega)
  obtain rfl : k = y.length := by omega
  refine .exit <| ks_e <| kl_e <| kb_hit <| ks_n <| .seq <| .region <| .cons (.mv rfl rfl) <| .cons (.asg rfl rfl) <| .nil <| ks_n <| .ret ?_
  refine kf_wret [(.t 4, .v (.o (vD (dIs (subL y x)))))] (Wk.keep [] rfl rfl ⟨ks rfl (.c (.fz rfl (by rw [hse]) (by rw [List.length_map, subL_len hl]) (by omega))), trivial⟩) rfl ?_ nobox
  rfl

theorem l6Add_fn (l : List (List Int)) (d : List Int) (hl : l.length ≤ 1000000) : Fn Tryz.prog 130 [] [vD (dPs l), vD (dIs d)] (.o (vD (dPs (addS l d)))) [] := by
 refine Fn.code0 Tryz.func130 rfl rfl rfl rfl ?_
 refine .seq <| .region <| .cons (.asg rfl rfl) <| .nil <| ks_n <| .seq <| .region <| .cons (St1.lit0 (k' := 108) (e := 35) (sz := 1) (b := true) rfl rfl rfl rfl (by kernel_rfl) rfl rfl) ?_
 refine .cons (.asg rfl rfl) <| .nil <| ks_n <| .seq <| .region <| .cons (.asg rfl rfl) <| .nil <| ks_n <| .seq <| .seq <| .region <| .cons (.asg rfl rfl) <| .nil <| ks_n <| .block ?_
 refine .loopK (fun m σ => (∃ (i : Nat) (o : Pts), m = l.length - i ∧ (i ≤ l.length) ∧ (addN l d i = o) ∧ (o.length ≤ 2 * i) ∧ (∀ j x, j < i → l[j]? = some x → ¬ x = d) ∧ σ = [(.t 0, .v (.o (vD (dPs l)))), (.t 1, .v (.o (vD (dIs d)))), (.t 5, .v (.o (.c (.own 110 1 (o.length))))), (.t 6, .v (.o (bo1 (addB l d i)))), (.t 7, .v (.o (nat1 (i : Nat)))), (.b 110, .b 35 1 (dR ((o).map rIs))), (.u 110, .u)])) [(110, 108)] ⟨0, [], rfl, by omega, rfl, by simp, fun j x hj _ => absurd hj (by omega), rfl⟩ ⟨ks rfl .dt, ks rfl .dt, ks rfl (.c .ow), ks rfl (.dt (vB (by first | rfl | (rw [addB_next hx1]; simp_all; done)))), ks rfl .dt, kb 108 rfl (.dt rfl (by first | rfl | (simp [dR, rIs]; done) | (simp [dR, rIs]; rfl))), trivial⟩ ?_
 rintro m σ ⟨i, o, hm0, hi, hE, ho, hF, rfl⟩
 refine .seq <| .seq <| .region <| .cons (.mv rfl rfl) <| .cons (.mv rfl rfl) <| .cons (.ln 35 1 24 rfl rfl rfl) <| .cons (.ls rfl rfl rfl) <| .nil <| ks_n ?_
 refine .cD rfl (fun h12 => ?_) (fun h12 => ?_)
 ·skip
  obtain ⟨x, hx1⟩ : ∃ x_, l[i]? = some x_ := ⟨_, List.getElem?_eq_getElem (by omega)⟩
  refine .skip <| ks_n <| .seq <| .block <| .seq <| .seq <| .region <| .cons (.mv rfl rfl) <| .cons (.mv rfl rfl) <| .cons (.xL 35 1 24 (i := i) rfl rfl rfl rfl rfl (map_at hx1)) ?_
  refine .cons (.l1 1 rfl rfl) <| .cons (.mv rfl rfl) <| .cons (.cP [.tmp 18, .tmp 19] rfl rfl rfl rfl (l1Ints_fn _ _) rfl) ?_
  refine .nil <| ks_n ?_
  refine ACode.condT rfl (fun h20 => ?_) (fun h20 => ?_)
  ·try simp only [zs1, zs2, zs3, zs4, zs5, zs6, zs7] at h20
   have heq : x = d := by first | assumption | simp_all
   have hin := addS_in hx1 heq
   refine .seq <| .region <| .cons (.mv rfl rfl) <| .cons (.asg rfl rfl) <| .nil <| ks_n <| .ret <| ks_r <| kb_r <| ks_r <| kl_r <| kb_r <| ks_r ?_
   refine kf_wret [(.t 4, .v (.o (vD (dPs (addS l d)))))] (Wk.keep [] rfl rfl ⟨ks rfl (.dt (by rw [hin])), trivial⟩) rfl ?_ nobox
   rfl
  ·try simp only [zs1, zs2, zs3, zs4, zs5, zs6, zs7] at h20
   have hne : ¬ x = d := by first | assumption | simp_all
   refine .skip <| ks_n <| .seq <| .seq <| .region <| .cons (.mv rfl rfl) <| .cons (.nt rfl rfl) <| .cons (.mv rfl rfl) ?_
   refine AOps.cases 24 _ rfl (fun g24 => ?_) (fun g24 => ?_)
   ·try simp only [zs1, zs2, zs3, zs4, zs5, zs6, zs7] at g24
    have hb0 : addB l d i = false := by first | assumption | simp_all
    refine .cons (.gT rfl rfl rfl (.mv rfl rfl)) <| .cons (.gT rfl rfl rfl (.mv rfl rfl)) <| .cons (.gT rfl rfl rfl (.mv rfl rfl)) <| .cons (.gT rfl rfl rfl (.xL 35 1 24 (i := i) rfl rfl rfl rfl rfl (map_at hx1))) ?_
    refine .cons (.gT rfl rfl rfl (.l1 1 rfl rfl)) <| .cons (.gT rfl rfl rfl (.cP [.tmp 25, .tmp 29] rfl rfl rfl rfl (specLex_fn _ _) rfl)) ?_
    refine .cons (.pT rfl rfl rfl) <| .nil <| ks_n ?_
    refine ACode.condT rfl (fun h31 => ?_) (fun h31 => ?_)
    ·try simp only [zs1, zs2, zs3, zs4, zs5, zs6, zs7] at h31
     have hlx : lexB d x = true := by first | assumption | simp_all
     refine .seq <| .region <| .cons (.mv rfl rfl) <| .cons (.mv rfl rfl) <| .cons (.li 35 0 0 [.tmp 33] rfl rfl rfl rfl rfl rfl) <| .cons (St1.appB (k' := 135) (e := 35) (sz := 0) (by' := 24) rfl rfl rfl rfl rfl (by kernel_rfl) rfl rfl rfl rfl (by first | (simp [dR]; done) | (simp [dR]; omega)) (by first | (simp [dR]; done) | (simp [dR]; omega)) rfl rfl rfl) ?_
     refine .cons (.asg rfl rfl) <| .nil <| ks_n <| .region <| .cons (.asg rfl rfl) <| .nil <| ks_n <| .region <| .cons (.mv rfl rfl) <| .cons (.mv rfl rfl) <| .cons (.mv rfl rfl) <| .cons (.xL 35 1 24 (i := i) rfl rfl rfl rfl rfl (map_at hx1)) ?_
     refine .cons (.l1 1 rfl rfl) <| .cons (.li 35 0 0 [.tmp 40] rfl rfl rfl rfl rfl rfl) <| .cons (St1.appB (k' := 142) (e := 35) (sz := 0) (by' := 24) rfl rfl rfl rfl rfl (by kernel_rfl) rfl rfl rfl rfl (by first | (simp [dR]; done) | (simp [dR]; omega)) (by first | (simp [dR]; done) | (simp [dR]; omega)) rfl rfl rfl) ?_
     refine .cons (.asg rfl rfl) <| .nil <| kb_n <| ks_n <| .region <| .cons (.mv rfl rfl) <| .cons (.pl rfl rfl rfl) <| .cons (.asg rfl rfl) <| .nil ?_
     refine kl_k [(110, 142)] ⟨i + 1, o ++ [d] ++ [x], rfl, by omega, by rw [addN_new hx1 hb0 hlx, hE], by simp; omega, fun j y hj h => (Nat.lt_succ_iff_lt_or_eq.1 hj).elim (fun h2 => hF j y h2 h) (fun h2 => by subst h2; rw [hx1] at h; cases h; exact hne), rfl⟩ ⟨ks rfl .dt, ks rfl .dt, ks rfl (.c .ow), ks rfl (.dt (vB (by first | rfl | (rw [addB_next hx1]; simp_all; done)))), ks rfl .dt, kb 142 rfl (.dt rfl (by first | rfl | (simp [dR, rIs]; done) | (simp [dR, rIs]; rfl))), trivial⟩
    ·try simp only [zs1, zs2, zs3, zs4, zs5, zs6, zs7] at h31
     have hlx : lexB d x = false := by first | assumption | simp_all
     refine .skip <| ks_n <| .region <| .cons (.mv rfl rfl) <| .cons (.mv rfl rfl) <| .cons (.mv rfl rfl) <| .cons (.xL 35 1 24 (i := i) rfl rfl rfl rfl rfl (map_at hx1)) ?_
     refine .cons (.l1 1 rfl rfl) <| .cons (.li 35 0 0 [.tmp 40] rfl rfl rfl rfl rfl rfl) <| .cons (St1.appB (k' := 142) (e := 35) (sz := 0) (by' := 24) rfl rfl rfl rfl rfl (by kernel_rfl) rfl rfl rfl rfl (by first | (simp [dR]; done) | (simp [dR]; omega)) (by first | (simp [dR]; done) | (simp [dR]; omega)) rfl rfl rfl) ?_
     refine .cons (.asg rfl rfl) <| .nil <| kb_n <| ks_n <| .region <| .cons (.mv rfl rfl) <| .cons (.pl rfl rfl rfl) <| .cons (.asg rfl rfl) <| .nil ?_
     refine kl_k [(110, 142)] ⟨i + 1, o ++ [x], rfl, by omega, by rw [addN_old hx1 (by first | exact .inl hbt | exact .inr hlx), hE], by simp; omega, fun j y hj h => (Nat.lt_succ_iff_lt_or_eq.1 hj).elim (fun h2 => hF j y h2 h) (fun h2 => by subst h2; rw [hx1] at h; cases h; exact hne), rfl⟩ ⟨ks rfl .dt, ks rfl .dt, ks rfl (.c .ow), ks rfl (.dt (vB (by first | rfl | (rw [addB_next hx1]; simp_all; done)))), ks rfl .dt, kb 142 rfl (.dt rfl (by first | rfl | (simp [dR, rIs]; done) | (simp [dR, rIs]; rfl))), trivial⟩
   ·try simp only [zs1, zs2, zs3, zs4, zs5, zs6, zs7] at g24
    have hbt : addB l d i = true := by first | assumption | simp_all
    refine .cons (.gF rfl rfl rfl) <| .cons (.gF rfl rfl rfl) <| .cons (.gF rfl rfl rfl) <| .cons (.gF rfl rfl rfl) <| .cons (.gF rfl rfl rfl) <| .cons (.gF rfl rfl rfl) <| .cons (.pF rfl rfl rfl) <| .nil <| ks_n ?_
    refine ACode.condT rfl (fun h => by first | (cases h; done) | (simp [*] at h; done) | (exfalso; simp_all; done)) (fun _ => ?_)
    refine .skip <| ks_n <| .region <| .cons (.mv rfl rfl) <| .cons (.mv rfl rfl) <| .cons (.mv rfl rfl) <| .cons (.xL 35 1 24 (i := i) rfl rfl rfl rfl rfl (map_at hx1)) ?_
    refine .cons (.l1 1 rfl rfl) <| .cons (.li 35 0 0 [.tmp 40] rfl rfl rfl rfl rfl rfl) <| .cons (St1.appB (k' := 142) (e := 35) (sz := 0) (by' := 24) rfl rfl rfl rfl rfl (by kernel_rfl) rfl rfl rfl rfl (by first | (simp [dR]; done) | (simp [dR]; omega)) (by first | (simp [dR]; done) | (simp [dR]; omega)) rfl rfl rfl) ?_
    refine .cons (.asg rfl rfl) <| .nil <| kb_n <| ks_n <| .region <| .cons (.mv rfl rfl) <| .cons (.pl rfl rfl rfl) <| .cons (.asg rfl rfl) <| .nil ?_
    refine kl_k [(110, 142)] ⟨i + 1, o ++ [x], rfl, by omega, by rw [addN_old hx1 (by first | exact .inl hbt | exact .inr hlx), hE], by simp; omega, fun j y hj h => (Nat.lt_succ_iff_lt_or_eq.1 hj).elim (fun h2 => hF j y h2 h) (fun h2 => by subst h2; rw [hx1] at h; cases h; exact hne), rfl⟩ ⟨ks rfl .dt, ks rfl .dt, ks rfl (.c .ow), ks rfl (.dt (vB (by first | rfl | (rw [addB_next hx1]; simp_all; done)))), ks rfl .dt, kb 142 rfl (.dt rfl (by first | rfl | (simp [dR, rIs]; done) | (simp [dR, rIs]; rfl))), trivial⟩
 ·skip
  obtain rfl : i = l.length := by omega
  have hend := addN_end hF
  refine .exit <| ks_e <| kl_e <| kb_hit <| ks_n <| .seq <| .seq <| .region <| .cons (.mv rfl rfl) <| .cons (.nt rfl rfl) <| .nil <| ks_n ?_
  refine ACode.condT rfl (fun h44 => ?_) (fun h44 => ?_)
  ·try simp only [zs1, zs2, zs3, zs4, zs5, zs6, zs7] at h44
   have hb0 : addB l d l.length = false := by first | assumption | simp_all
   rw [if_neg (by rw [hb0]; simp), hE] at hend
   refine .region <| .cons (.mv rfl rfl) <| .cons (.mv rfl rfl) <| .cons (.li 35 0 0 [.tmp 46] rfl rfl rfl rfl rfl rfl) <| .cons (St1.appB (k' := 148) (e := 35) (sz := 0) (by' := 24) rfl rfl rfl rfl rfl (by kernel_rfl) rfl rfl rfl rfl (by first | (simp [dR]; done) | (simp [dR]; omega)) (by first | (simp [dR]; done) | (simp [dR]; omega)) rfl rfl rfl) ?_
   refine .cons (.asg rfl rfl) <| .nil <| ks_n <| .seq <| .region <| .cons (.mv rfl rfl) <| .cons (.asg rfl rfl) <| .nil <| ks_n <| .ret ?_
   refine kf_wret [(.t 4, .v (.o (vD (dPs (addS l d)))))] (Wk.keep [] rfl rfl ⟨ks rfl (.c (.fz rfl (by first | (rw [hend]; done) | (rw [hend]; simp [dR, rIs]; done) | (rw [hend]; simp [dR, rIs]; rfl)) (by first | (rw [List.length_map, hend]; done) | (rw [List.length_map, hend]; simp)) (by first | omega | (simp; omega)))), trivial⟩) rfl ?_ nobox
   rfl
  ·try simp only [zs1, zs2, zs3, zs4, zs5, zs6, zs7] at h44
   have hbt : addB l d l.length = true := by first | assumption | simp_all
   rw [if_pos hbt, hE] at hend
   refine .skip <| ks_n <| .seq <| .region <| .cons (.mv rfl rfl) <| .cons (.asg rfl rfl) <| .nil <| ks_n <| .ret ?_
   refine kf_wret [(.t 4, .v (.o (vD (dPs (addS l d)))))] (Wk.keep [] rfl rfl ⟨ks rfl (.c (.fz rfl (by first | (rw [hend]; done) | (rw [hend]; simp [dR, rIs]; done) | (rw [hend]; simp [dR, rIs]; rfl)) (by first | (rw [List.length_map, hend]; done) | (rw [List.length_map, hend]; simp)) (by first | omega | (simp; omega)))), trivial⟩) rfl ?_ nobox
   rfl

theorem l6Dist_fn {g : Prg} (hs : szG g ≤ 1073741824) (hS : prgS g = true) (hL : (insG 0 g.2).length ≤ 120) (part : Int) : Fn Tryz.prog 82 [] [ad (rG g), nat1 part] (.o (vD (dPs (dstS g part (depsG g).length)))) [] := by
 have hdl := depsN_len hL (n := (insG 0 g.2).length)
 have hdl2 : (depsG g).length ≤ 14400 := by unfold depsG; omega
 refine Fn.code0 Tryz.func82 rfl rfl rfl rfl ?_
 refine .seq <| .region <| .cons (St1.boxP rfl rfl rfl rfl rfl rfl) <| .cons (.asg rfl rfl) <| .nil <| ks_n <| .seq <| .region <| .cons (St1.lit0D (e := 35) (sz := 1) (b := true) rfl rfl rfl rfl (by kernel_rfl)) ?_
 refine .cons (.asg rfl rfl) <| .nil <| ks_n <| .seq <| .region <| .cons (.lN 2 rfl rfl rfl) <| .cons (.cP [.tmp 12] rfl rfl rfl rfl (l4Instances_fn hS) rfl) ?_
 refine .cons (.asg rfl rfl) <| .nil <| ks_n <| .seq <| .region <| .cons (.lN 2 rfl rfl rfl) <| .cons (.cP [.tmp 14] rfl rfl rfl rfl (l6Deps_fn hs hS hL) rfl) ?_
 refine .cons (.asg rfl rfl) <| .nil <| ks_n <| .seq <| .seq <| .region <| .cons (.asg rfl rfl) <| .nil <| ks_n <| .block ?_
 refine .loopK (fun m σ => (∃ j : Nat, m = (depsG g).length - j ∧ (j ≤ (depsG g).length) ∧ σ = [(.t 1, .v (.o (nat1 part))), (.t 2, .v (.o (.c (.ptr (rG g))))), (.t 5, .v (.o (vD (dPs (dstS g part j))))), (.t 6, .v (.o (vD (dNs (insG 0 g.2))))), (.t 7, .v (.o (vD (dDs (depsG g))))), (.t 8, .v (.o (nat1 (j : Nat))))])) [] ⟨0, rfl, by omega, rfl⟩ ⟨ks rfl .dt, ks rfl .dt, ks rfl (.dt (by first | rfl | (rw [dstS_none hd1 hdn]; done) | (rw [dstS_some hd1 hds]; done))), ks rfl .dt, ks rfl .dt, ks rfl .dt, trivial⟩ ?_
 rintro m σ ⟨j, hm0, hj, rfl⟩
 have hsl := dstS_len (g := g) (part := part) j
 refine .seq <| .seq <| .region <| .cons (.mv rfl rfl) <| .cons (.mv rfl rfl) <| .cons (.ln 159 3 24 rfl rfl rfl) <| .cons (.ls rfl rfl rfl) <| .nil <| ks_n ?_
 refine .cD rfl (fun h19 => ?_) (fun h19 => ?_)
 ·skip
  obtain ⟨d, hd1⟩ : ∃ x_, (depsG g)[j]? = some x_ := ⟨_, List.getElem?_eq_getElem (by omega)⟩
  obtain ⟨a, b, hde, hab, hbl, _⟩ := deps_mem (List.mem_of_getElem? hd1)
  obtain ⟨x, hx1⟩ : ∃ x, (insG 0 g.2)[a]? = some x := ⟨_, List.getElem?_eq_getElem (by omega)⟩
  obtain ⟨y, hy1⟩ : ∃ y, (insG 0 g.2)[b]? = some y := ⟨_, List.getElem?_eq_getElem hbl⟩
  obtain ⟨kx, cx, qx, hIx⟩ := ins_at hS (List.mem_of_getElem? hx1)
  obtain ⟨ky, cy, qy, hIy⟩ := ins_at hS (List.mem_of_getElem? hy1)
  have hda : d.1 = (a : Int) := by rw [hde]
  have hdb : d.2.1 = (b : Int) := by rw [hde]
  have hdd := dstD_eq (g := g) (part := part) hda hdb hx1 hy1
  have hyl := isPt_len hIy.ip
  refine .skip <| ks_n <| .seq <| .block <| .seq <| .region <| .cons (.mv rfl rfl) <| .cons (.mv rfl rfl) <| .cons (.mv rfl rfl) <| .cons (.xL 159 3 24 (i := j) rfl rfl rfl rfl rfl (map_at hd1)) ?_
  refine .cons (.fP 0 0 false rfl rfl) <| .cons (.l1 1 rfl rfl) <| .cons (.xL 86 3 40 (i := a) rfl rfl rfl rfl hda (map_at hx1)) ?_
  refine .cons (.lN 3 rfl rfl rfl) <| .cons (.al 109 [.int .i64 0, .int .i64 0, .slice none 0 0] rfl rfl rfl) <| .cons (.sT 3 true rfl rfl rfl rfl rfl rfl rfl) <| .nil <| ks_n <| .seq <| .region <| .cons (.mv rfl rfl) <| .cons (.mv rfl rfl) <| .cons (.mv rfl rfl) <| .cons (.xL 159 3 24 (i := j) rfl rfl rfl rfl rfl (map_at hd1)) ?_
  refine .cons (.fP 1 0 false rfl rfl) <| .cons (.l1 1 rfl rfl) <| .cons (.xL 86 3 40 (i := b) rfl rfl rfl rfl hdb (map_at hy1)) ?_
  refine .cons (.lN 3 rfl rfl rfl) <| .cons (.al 110 [.int .i64 0, .int .i64 0, .slice none 0 0] rfl rfl rfl) <| .cons (.sT 3 true rfl rfl rfl rfl rfl rfl rfl) <| .nil <| ks_n <| .seq <| .region <| .cons (.fB 0 0 false rfl rfl rfl) <| .cons (.b1 1 rfl rfl rfl rfl rfl rfl) <| .cons (.mv rfl rfl) <| .cons (.eq rfl rfl rfl) <| .cons (.mv rfl rfl) ?_
  refine .cD 42 rfl (fun g42 => ?_) (fun g42 => ?_)
  ·skip
   have hxp : x.1 = part := by omega
   refine .cons (.gT rfl rfl rfl (.fB 0 0 false rfl rfl rfl)) <| .cons (.gT rfl rfl rfl (.b1 1 rfl rfl rfl rfl rfl rfl)) <| .cons (.gT rfl rfl rfl (.mv rfl rfl)) <| .cons (.gT rfl rfl rfl (.eq rfl rfl rfl)) <| .cons (.pT rfl rfl rfl) <| .nil <| ks_n ?_
   refine ACode.condT rfl (fun h47 => ?_) (fun h47 => ?_)
   ·try simp only [zs1, zs2, zs3, zs4, zs5, zs6, zs7] at h47
    have hyp : y.1 = part := by omega
    have hds : dstD g part d = some (subL y.2.2 x.2.2) := by rw [hdd, if_pos ⟨hxp, hyp⟩]
    have hlen := (ins_same hIx hIy (by omega)).symm
    refine .region <| .cons (.mv rfl rfl) <| .cons (.fB 2 0 false rfl rfl rfl) <| .cons (.b1 1 rfl rfl rfl rfl rfl rfl) <| .cons (.fB 2 0 false rfl rfl rfl) <| .cons (.b1 1 rfl rfl rfl rfl rfl rfl) <| .cons (.cP [.tmp 50, .tmp 52] rfl rfl rfl rfl (l6Minus_fn hlen hyl (fun a ha => by obtain ⟨i, hi⟩ := List.mem_iff_getElem?.1 ha; exact pt_at hIy.ip hi) (fun a ha => by obtain ⟨i, hi⟩ := List.mem_iff_getElem?.1 ha; exact pt_at hIx.ip hi)) rfl) ?_
    refine .cons (.cP [.tmp 48, .tmp 53] rfl rfl rfl rfl (l6Add_fn _ _ (by omega)) rfl) ?_
    refine .cons (.asg rfl rfl) <| .nil <| kb_n <| ks_n <| .region <| .cons (.mv rfl rfl) <| .cons (.pl rfl rfl rfl) <| .cons (.asg rfl rfl) <| .nil ?_
    refine kl_k [] ⟨j + 1, rfl, by omega, rfl⟩ ⟨ks rfl .dt, ks rfl .dt, ks rfl (.dt (by first | rfl | (rw [dstS_none hd1 hdn]; done) | (rw [dstS_some hd1 hds]; done))), ks rfl .dt, ks rfl .dt, ks rfl .dt, trivial⟩
   ·try simp only [zs1, zs2, zs3, zs4, zs5, zs6, zs7] at h47
    have hdn : dstD g part d = none := by rw [hdd, if_neg (by omega)]
    refine .skip <| kb_n <| ks_n <| .region <| .cons (.mv rfl rfl) <| .cons (.pl rfl rfl rfl) <| .cons (.asg rfl rfl) <| .nil ?_
    refine kl_k [] ⟨j + 1, rfl, by omega, rfl⟩ ⟨ks rfl .dt, ks rfl .dt, ks rfl (.dt (by first | rfl | (rw [dstS_none hd1 hdn]; done) | (rw [dstS_some hd1 hds]; done))), ks rfl .dt, ks rfl .dt, ks rfl .dt, trivial⟩
  ·skip
   have hdn : dstD g part d = none := by rw [hdd, if_neg (by omega)]
   refine .cons (.gF rfl rfl rfl) <| .cons (.gF rfl rfl rfl) <| .cons (.gF rfl rfl rfl) <| .cons (.gF rfl rfl rfl) <| .cons (.pF rfl rfl rfl) <| .nil <| ks_n ?_
   refine ACode.condT rfl (fun h => by first | (cases h; done) | (simp [*] at h; done) | (exfalso; simp_all; done)) (fun _ => ?_)
   refine .skip <| kb_n <| ks_n <| .region <| .cons (.mv rfl rfl) <| .cons (.pl rfl rfl rfl) <| .cons (.asg rfl rfl) <| .nil ?_
   refine kl_k [] ⟨j + 1, rfl, by omega, rfl⟩ ⟨ks rfl .dt, ks rfl .dt, ks rfl (.dt (by first | rfl | (rw [dstS_none hd1 hdn]; done) | (rw [dstS_some hd1 hds]; done))), ks rfl .dt, ks rfl .dt, ks rfl .dt, trivial⟩
 ·skip
  obtain rfl : j = (depsG g).length := by omega
  refine .exit <| ks_e <| kl_e <| kb_hit <| ks_n <| .seq <| .region <| .cons (.mv rfl rfl) <| .cons (.asg rfl rfl) <| .nil <| ks_n <| .ret ?_
  refine kf_ret rfl ?_ nobox
  rfl

theorem specDist_fn {g : Prg} (hs : szG g ≤ 1073741824) (part : Int) : Fn Tryz.prog 43 [] [ad (rG g), nat1 part] (.o (vD (dPs (if prgV g = true then dstS g part (depsG g).length else [])))) [] := by
 refine Fn.code0 Tryz.func43 rfl rfl rfl rfl ?_
 refine .seq <| .region <| .cons (St1.boxP rfl rfl rfl rfl rfl rfl) <| .cons (.asg rfl rfl) <| .nil <| ks_n <| .seq <| .seq <| .region <| .cons (.lN 2 rfl rfl rfl) <| .cons (.cP [.tmp 5] rfl rfl rfl rfl (specPV_fn hs) rfl) ?_
 refine .cons (.nt rfl rfl) <| .nil <| ks_n ?_
 refine ACode.condT rfl (fun h7 => ?_) (fun h7 => ?_)
 ·try simp only [zs1, zs2, zs3, zs4, zs5, zs6, zs7] at h7
  have hV : prgV g = false := by first | assumption | simp_all
  refine .seq <| .region <| .cons (St1.lit0D (e := 35) (sz := 1) (b := true) rfl rfl rfl rfl (by kernel_rfl)) ?_
  refine .cons (.asg rfl rfl) <| .nil <| ks_n <| .ret <| ks_r ?_
  refine kf_wret [(.t 4, .v (.o (vD (dPs (if prgV g = true then dstS g part (depsG g).length else [])))))] (Wk.keep [] rfl rfl ⟨ks rfl (.dt (by rw [if_neg (by rw [hV]; simp)]; rfl)), trivial⟩) rfl ?_ nobox
  rfl
 ·try simp only [zs1, zs2, zs3, zs4, zs5, zs6, zs7] at h7
  have hV : prgV g = true := by first | assumption | simp_all
  obtain ⟨hS, hN, hL⟩ := prgV_s hV
  refine .skip <| ks_n <| .seq <| .region <| .cons (.lN 2 rfl rfl rfl) <| .cons (.mv rfl rfl) <| .cons (.cP [.tmp 9, .tmp 10] rfl rfl rfl rfl (l6Dist_fn hs hS hL part) rfl) ?_
  refine .cons (.asg rfl rfl) <| .nil <| ks_n <| .ret ?_
  refine kf_wret [(.t 4, .v (.o (vD (dPs (if prgV g = true then dstS g part (depsG g).length else [])))))] (Wk.keep [] rfl rfl ⟨ks rfl (.dt (by rw [if_pos hV])), trivial⟩) rfl ?_ nobox
  rfl

theorem specCl_fn {g : Prg} (hs : szG g ≤ 1073741824) (part : Int) : Fn Tryz.prog 15 [] [ad (rG g), nat1 part] (.o (vD (dIs (crl g part)))) [] := by
  have hdl : (if prgV g = true then dstS g part (depsG g).length else []).length ≤ 14400 := by
    split
    · rename_i hV
      have h1 := depsN_len (prgV_s hV).2.2 (n := (insG 0 g.2).length)
      have h2 := dstS_len (g := g) (part := part) (depsG g).length
      have h3 : (depsG g).length ≤ 14400 := by have := (prgV_s hV).2.2; unfold depsG; omega
      omega
    · simp
  have hfin : flagV (carF 4 (if prgV g = true then dstS g part (depsG g).length else [])) = crl g part := by
    cases hV : prgV g with
    | false => rw [if_neg (by simp), crl_no hV]; exact flagV_none fun i => carF_nil
    | true => rw [if_pos rfl]; exact crl_ref hV fun d => mem_dstS (Nat.le_refl _)
  have hl4 : ∀ d ∈ (if prgV g = true then dstS g part (depsG g).length else []), d.length ≤ 4 := by
    intro d hd
    split at hd
    · rename_i hV
      obtain ⟨k, q, _, hq, h⟩ := dstG_mem (prgV_s hV).1 ((mem_dstS (Nat.le_refl _)).1 hd)
      have := prt_nest (prgV_s hV).1 hq
      omega
    · cases hd
  generalize hls : (if prgV g = true then dstS g part (depsG g).length else []) = ls at *
  refine Fn.code0 Tryz.func15 rfl rfl rfl rfl ?_
  refine .seq <| .region <| .cons (St1.boxP rfl rfl rfl rfl rfl rfl) <| .cons (.asg rfl rfl) <| .nil <| ks_n <| .seq <| .region <| .cons (.mk 109 4 1 1 [.bool false] (m := 4) rfl rfl rfl (by omega) rfl rfl) ?_
  refine .cons (.asg rfl rfl) <| .nil <| ks_n <| .seq <| .region <| .cons (.lN 2 rfl rfl rfl) <| .cons (.mv rfl rfl) <| .cons (.cP [.tmp 10, .tmp 11] rfl rfl rfl rfl ((hls ▸ specDist_fn hs part : Fn Tryz.prog 43 [] [ad (rG g), nat1 part] (.o (vD (dPs ls))) [])) rfl) ?_
  refine .cons (.asg rfl rfl) <| .nil <| ks_n <| .seq <| .seq <| .region <| .cons (.asg rfl rfl) <| .nil <| ks_n <| .block ?_
  refine .loopK (fun m σ => (∃ j : Nat, m = ls.length - j ∧ (j ≤ ls.length) ∧ σ = [(.t 5, .v (.o (.c (.own 110 1 (4))))), (.t 6, .v (.o (vD (dPs ls)))), (.t 7, .v (.o (nat1 (j : Nat)))), (.b 110, .b 4 1 (dR ((carF 4 (ls.take j)).map rB))), (.u 110, .u)])) [(110, 109)] ⟨0, rfl, by omega, rfl⟩ ⟨ks rfl (.c .ow), ks rfl .dt, ks rfl .dt, kb 109 rfl (.dt rfl (by first | exact dR_repB _ | rfl | (rw [hcn, carS, if_neg (by omega)]; done) | (rw [hcn, carS, if_pos (by omega)]; exact dR_setB _ _ _ _))), trivial⟩ ?_
  rintro m σ ⟨j, hm0, hj, rfl⟩
  refine .seq <| .seq <| .region <| .cons (.mv rfl rfl) <| .cons (.mv rfl rfl) <| .cons (.ln 35 1 24 rfl rfl rfl) <| .cons (.ls rfl rfl rfl) <| .nil <| ks_n ?_
  refine .cD rfl (fun h16 => ?_) (fun h16 => ?_)
  · skip
    obtain ⟨d, hd1⟩ : ∃ x_, ls[j]? = some x_ := ⟨_, List.getElem?_eq_getElem (by omega)⟩
    have hcb := carry_bd (d := d)
    have hd4 := hl4 d (List.mem_of_getElem? hd1)
    have hcn := carF_next (n := 4) hd1
    refine .skip <| ks_n <| .seq <| .block <| .seq <| .region <| .cons (.mv rfl rfl) <| .cons (.mv rfl rfl) <| .cons (.xL 35 1 24 (i := j) rfl rfl rfl rfl rfl (map_at hd1)) ?_
    refine .cons (.l1 1 rfl rfl) <| .cons (.cP [.tmp 22] rfl rfl rfl rfl (specCarry_fn d) rfl) ?_
    refine .cons (.asg rfl rfl) <| .nil <| ks_n <| .seq <| .region <| .cons (.mv rfl rfl) <| .cons (.ge rfl rfl rfl) <| .nil <| ks_n ?_
    refine .cD rfl (fun h25 => ?_) (fun h25 => ?_)
    · skip
      obtain ⟨f, hf1⟩ : ∃ f, (carF 4 (ls.take j))[(carry d).toNat]? = some f := ⟨_, List.getElem?_eq_getElem (by rw [carF_len]; omega)⟩
      refine .region <| .cons (.mv rfl rfl) <| .cons (.mv rfl rfl) <| .cons (.xB 4 1 1 (i := (carry d).toNat) rfl rfl rfl rfl rfl (by omega) (by omega)) ?_
      refine .cons (.sT 1 false rfl rfl rfl rfl (dR_at (map_at hf1)) rfl rfl) <| .nil <| kb_n <| ks_n <| .region <| .cons (.mv rfl rfl) <| .cons (.pl rfl rfl rfl) <| .cons (.asg rfl rfl) <| .nil ?_
      refine kl_k [(110, 110)] ⟨j + 1, rfl, by omega, rfl⟩ ⟨ks rfl (.c .ow), ks rfl .dt, ks rfl .dt, kb 110 rfl (.dt rfl (by first | exact dR_repB _ | rfl | (rw [hcn, carS, if_neg (by omega)]; done) | (rw [hcn, carS, if_pos (by omega)]; exact dR_setB _ _ _ _))), trivial⟩
    · skip
      refine .skip <| kb_n <| ks_n <| .region <| .cons (.mv rfl rfl) <| .cons (.pl rfl rfl rfl) <| .cons (.asg rfl rfl) <| .nil ?_
      refine kl_k [(110, 110)] ⟨j + 1, rfl, by omega, rfl⟩ ⟨ks rfl (.c .ow), ks rfl .dt, ks rfl .dt, kb 110 rfl (.dt rfl (by first | exact dR_repB _ | rfl | (rw [hcn, carS, if_neg (by omega)]; done) | (rw [hcn, carS, if_pos (by omega)]; exact dR_setB _ _ _ _))), trivial⟩
  · skip
    obtain rfl : j = ls.length := by omega
    refine .exit <| ks_e <| kl_e <| kb_hit <| ks_n <| .seq ?_
    refine .keep [(.t 5, .v (.o (vD (dBs (carF 4 ls)))))] [] ⟨ks rfl (.c (.fz rfl (by rw [List.take_length]) (by rw [List.length_map, carF_len]) (by omega))), trivial⟩ ?_
    refine .region <| .cons (.mv rfl rfl) <| .cons (.cP [.tmp 29] rfl rfl rfl rfl (l5Flagged_fn _ (by rw [carF_len]; omega)) rfl) ?_
    refine .cons (.asg rfl rfl) <| .nil <| ks_n <| .ret ?_
    refine kf_ret rfl ?_ nobox
    (rw [hfin]; rfl)

theorem l8Has_fn {g : Prg} (hs : szG g ≤ 1073741824) (part loop : Int) : Fn Tryz.prog 34 [] [ad (rG g), nat1 part, nat1 loop] (.o (bo1 (hasL g part loop))) [] := by
  refine Fn.code0 Tryz.func34 rfl rfl rfl rfl ?_
  refine .seq <| .region <| .cons (St1.boxP rfl rfl rfl rfl rfl rfl) <| .cons (.asg rfl rfl) <| .nil <| ks_n <| .seq <| .region <| .cons (.lN 2 rfl rfl rfl) <| .cons (.cP [.tmp 7] rfl rfl rfl rfl (specPV_fn hs) rfl) ?_
  refine .cons (.mv rfl rfl) ?_
  refine AOps.cases 9 _ rfl (fun g9 => ?_) (fun g9 => ?_)
  · try simp only [zs1, zs2, zs3, zs4, zs5, zs6, zs7] at g9
    have hV : prgV g = true := by first | assumption | simp_all
    have h4 := (prgS_iff.1 (prgV_s hV).1).2.1
    refine .cons (.gT rfl rfl rfl (.mv rfl rfl)) <| .cons (.gT rfl rfl rfl (.ge rfl rfl rfl)) <| .cons (.pT rfl rfl rfl) <| .cons (.mv rfl rfl) ?_
    refine AOps.cases 13 _ rfl (fun g13 => ?_) (fun g13 => ?_)
    · try simp only [zs1, zs2, zs3, zs4, zs5, zs6, zs7] at g13
      refine .cons (.gT rfl rfl rfl (.mv rfl rfl)) <| .cons (.gT rfl rfl rfl (.fP 1 0 false rfl rfl)) <| .cons (.gT rfl rfl rfl (.l1 1 rfl rfl)) <| .cons (.gT rfl rfl rfl (.ln 104 2 48 rfl rfl rfl)) <| .cons (.gT rfl rfl rfl (.ls rfl rfl rfl)) <| .cons (.pT rfl rfl rfl) <| .cons (.mv rfl rfl) ?_
      refine AOps.cases 20 _ rfl (fun g20 => ?_) (fun g20 => ?_)
      · try simp only [zs1, zs2, zs3, zs4, zs5, zs6, zs7] at g20
        have hin : inB part 0 ((g.2.length : Nat) - 1) = true := decide_eq_true (by omega)
        obtain ⟨k, q, hk, hq⟩ := part_at (part := part) (g := g) (by first | assumption | exact decide_eq_true (by omega))
        have hnq := nestQ_eq hk hq
        refine .cons (.gT rfl rfl rfl (.mv rfl rfl)) <| .cons (.gT rfl rfl rfl (.ge rfl rfl rfl)) <| .cons (.pT rfl rfl rfl) <| .cons (.mv rfl rfl) ?_
        refine AOps.cases 24 _ rfl (fun g24 => ?_) (fun g24 => ?_)
        · try simp only [zs1, zs2, zs3, zs4, zs5, zs6, zs7] at g24
          have hlq : inB loop 0 ((nestQ g part : Nat) - 1) = decide (loop < (q.1.length : Nat)) := by rw [hnq, inB]; congr 1; exact propext ⟨fun h => by omega, fun h => by omega⟩
          refine .cons (.gT rfl rfl rfl (.mv rfl rfl)) <| .cons (.gT rfl rfl rfl (.fP 1 0 false rfl rfl)) <| .cons (.gT rfl rfl rfl (.l1 1 rfl rfl)) <| .cons (.gT rfl rfl rfl (.mv rfl rfl)) <| .cons (.gT rfl rfl rfl (.xL 104 2 48 (i := k) rfl rfl rfl rfl hk (map_at hq))) ?_
          refine .cons (.gT rfl rfl rfl (.fP 0 0 false rfl rfl)) <| .cons (.gT rfl rfl rfl (.l1 1 rfl rfl)) <| .cons (.gT rfl rfl rfl (.ln 172 2 48 rfl rfl rfl)) <| .cons (.gT rfl rfl rfl (.ls rfl rfl rfl)) <| .cons (.pT rfl rfl rfl) <| .cons (.asg rfl rfl) <| .nil <| ks_n <| .ret ?_
          refine kf_ret rfl ?_ nobox
          exact leafB (by first | (rw [hasL, hV]; rfl) | (rw [hasL, hV, hout]; rfl) | (rw [hasL, hV, hin, hlf]; rfl) | (rw [hasL, hV, hin, hlq]; rfl))
        · try simp only [zs1, zs2, zs3, zs4, zs5, zs6, zs7] at g24
          have hlf : inB loop 0 ((nestQ g part : Nat) - 1) = false := decide_eq_false (by omega)
          refine .cons (.gF rfl rfl rfl) <| .cons (.gF rfl rfl rfl) <| .cons (.gF rfl rfl rfl) <| .cons (.gF rfl rfl rfl) <| .cons (.gF rfl rfl rfl) <| .cons (.gF rfl rfl rfl) <| .cons (.gF rfl rfl rfl) <| .cons (.gF rfl rfl rfl) <| .cons (.gF rfl rfl rfl) <| .cons (.pF rfl rfl rfl) <| .cons (.asg rfl rfl) <| .nil <| ks_n <| .ret ?_
          refine kf_ret rfl ?_ nobox
          exact leafB (by first | (rw [hasL, hV]; rfl) | (rw [hasL, hV, hout]; rfl) | (rw [hasL, hV, hin, hlf]; rfl) | (rw [hasL, hV, hin, hlq]; rfl))
      · try simp only [zs1, zs2, zs3, zs4, zs5, zs6, zs7] at g20
        have hout : inB part 0 ((g.2.length : Nat) - 1) = false := decide_eq_false (by omega)
        refine .cons (.gF rfl rfl rfl) <| .cons (.gF rfl rfl rfl) <| .cons (.pF rfl rfl rfl) <| .cons (.mv rfl rfl) <| .cons (.gF rfl rfl rfl) <| .cons (.gF rfl rfl rfl) <| .cons (.gF rfl rfl rfl) <| .cons (.gF rfl rfl rfl) <| .cons (.gF rfl rfl rfl) <| .cons (.gF rfl rfl rfl) <| .cons (.gF rfl rfl rfl) <| .cons (.gF rfl rfl rfl) <| .cons (.gF rfl rfl rfl) <| .cons (.pF rfl rfl rfl) <| .cons (.asg rfl rfl) <| .nil <| ks_n <| .ret ?_
        refine kf_ret rfl ?_ nobox
        exact leafB (by first | (rw [hasL, hV]; rfl) | (rw [hasL, hV, hout]; rfl) | (rw [hasL, hV, hin, hlf]; rfl) | (rw [hasL, hV, hin, hlq]; rfl))
    · try simp only [zs1, zs2, zs3, zs4, zs5, zs6, zs7] at g13
      have hout : inB part 0 ((g.2.length : Nat) - 1) = false := decide_eq_false (by omega)
      refine .cons (.gF rfl rfl rfl) <| .cons (.gF rfl rfl rfl) <| .cons (.gF rfl rfl rfl) <| .cons (.gF rfl rfl rfl) <| .cons (.gF rfl rfl rfl) <| .cons (.pF rfl rfl rfl) <| .cons (.mv rfl rfl) <| .cons (.gF rfl rfl rfl) <| .cons (.gF rfl rfl rfl) <| .cons (.pF rfl rfl rfl) <| .cons (.mv rfl rfl) <| .cons (.gF rfl rfl rfl) <| .cons (.gF rfl rfl rfl) <| .cons (.gF rfl rfl rfl) <| .cons (.gF rfl rfl rfl) <| .cons (.gF rfl rfl rfl) <| .cons (.gF rfl rfl rfl) <| .cons (.gF rfl rfl rfl) <| .cons (.gF rfl rfl rfl) <| .cons (.gF rfl rfl rfl) <| .cons (.pF rfl rfl rfl) <| .cons (.asg rfl rfl) <| .nil <| ks_n <| .ret ?_
      refine kf_ret rfl ?_ nobox
      exact leafB (by first | (rw [hasL, hV]; rfl) | (rw [hasL, hV, hout]; rfl) | (rw [hasL, hV, hin, hlf]; rfl) | (rw [hasL, hV, hin, hlq]; rfl))
  · try simp only [zs1, zs2, zs3, zs4, zs5, zs6, zs7] at g9
    have hV : prgV g = false := by first | assumption | simp_all
    refine .cons (.gF rfl rfl rfl) <| .cons (.gF rfl rfl rfl) <| .cons (.pF rfl rfl rfl) <| .cons (.mv rfl rfl) <| .cons (.gF rfl rfl rfl) <| .cons (.gF rfl rfl rfl) <| .cons (.gF rfl rfl rfl) <| .cons (.gF rfl rfl rfl) <| .cons (.gF rfl rfl rfl) <| .cons (.pF rfl rfl rfl) <| .cons (.mv rfl rfl) <| .cons (.gF rfl rfl rfl) <| .cons (.gF rfl rfl rfl) <| .cons (.pF rfl rfl rfl) <| .cons (.mv rfl rfl) <| .cons (.gF rfl rfl rfl) <| .cons (.gF rfl rfl rfl) <| .cons (.gF rfl rfl rfl) <| .cons (.gF rfl rfl rfl) <| .cons (.gF rfl rfl rfl) <| .cons (.gF rfl rfl rfl) <| .cons (.gF rfl rfl rfl) <| .cons (.gF rfl rfl rfl) <| .cons (.gF rfl rfl rfl) <| .cons (.pF rfl rfl rfl) <| .cons (.asg rfl rfl) <| .nil <| ks_n <| .ret ?_
    refine kf_ret rfl ?_ nobox
    exact leafB (by first | (rw [hasL, hV]; rfl) | (rw [hasL, hV, hout]; rfl) | (rw [hasL, hV, hin, hlf]; rfl) | (rw [hasL, hV, hin, hlq]; rfl))

theorem specPar_fn {g : Prg} (hs : szG g ≤ 1073741824) (part loop : Int) : Fn Tryz.prog 11 [] [ad (rG g), nat1 part, nat1 loop] (.o (bo1 (parB g part loop))) [] := by
  have hcl : (crl g part).length ≤ 1000000 := by
    rw [crl]; split
    · rename_i h
      obtain ⟨k, q, hk, hq⟩ := part_at h.2
      have h1 := flagN_len (l := crV g part) (n := (crV g part).length)
      have h2 := prt_nest (prgV_s h.1).1 hq
      rw [flagV]; rw [crV_len, nestQ_eq hk hq] at h1 ⊢; omega
    · simp
  refine Fn.code0 Tryz.func11 rfl rfl rfl rfl ?_
  refine .seq <| .region <| .cons (St1.boxP rfl rfl rfl rfl rfl rfl) <| .cons (.asg rfl rfl) <| .nil <| ks_n <| .seq <| .region <| .cons (.lN 2 rfl rfl rfl) <| .cons (.mv rfl rfl) <| .cons (.mv rfl rfl) <| .cons (.cP [.tmp 7, .tmp 8, .tmp 9] rfl rfl rfl rfl (l8Has_fn hs part loop) rfl) ?_
  refine .cons (.mv rfl rfl) ?_
  refine AOps.cases 11 _ rfl (fun g11 => ?_) (fun g11 => ?_)
  · try simp only [zs1, zs2, zs3, zs4, zs5, zs6, zs7] at g11
    have hH : hasL g part loop = true := by first | assumption | simp_all
    have hpr := parB_ref hH
    refine .cons (.gT rfl rfl rfl (.lN 2 rfl rfl rfl)) <| .cons (.gT rfl rfl rfl (.mv rfl rfl)) <| .cons (.gT rfl rfl rfl (.cP [.tmp 12, .tmp 13] rfl rfl rfl rfl (specCl_fn hs part) rfl)) ?_
    refine .cons (.gT rfl rfl rfl (.mv rfl rfl)) <| .cons (.gT rfl rfl rfl (.cP [.tmp 14, .tmp 15] rfl rfl rfl rfl (l6Has_fn _ _ (by omega)) rfl)) ?_
    refine .cons (.gT rfl rfl rfl (.nt rfl rfl)) <| .cons (.pT rfl rfl rfl) <| .cons (.asg rfl rfl) <| .nil <| ks_n <| .ret ?_
    refine kf_ret rfl ?_ nobox
    exact leafB (by first | (rw [hpr]; done) | (rw [parB, hH]; rfl))
  · try simp only [zs1, zs2, zs3, zs4, zs5, zs6, zs7] at g11
    have hH : hasL g part loop = false := by first | assumption | simp_all
    refine .cons (.gF rfl rfl rfl) <| .cons (.gF rfl rfl rfl) <| .cons (.gF rfl rfl rfl) <| .cons (.gF rfl rfl rfl) <| .cons (.gF rfl rfl rfl) <| .cons (.gF rfl rfl rfl) <| .cons (.pF rfl rfl rfl) <| .cons (.asg rfl rfl) <| .nil <| ks_n <| .ret ?_
    refine kf_ret rfl ?_ nobox
    exact leafB (by first | (rw [hpr]; done) | (rw [parB, hH]; rfl))
theorem lawExPar {g : Prg} (ho : okPrg g) (a b : Int) : Fn Tryz.prog 3 [] [ad (rG g), nat1 a, nat1 b] (.o (bo1 true)) [] := by
 refine Fn.code0 Tryz.func3 rfl rfl rfl rfl ?_
 refine .seq <| .region <| .cons (St1.boxP rfl rfl rfl rfl rfl rfl) <| .cons (.asg rfl rfl) <| .nil <| ks_n <| .seq <| .region <| .cons (.asg rfl rfl) <| .nil <| ks_n <| .seq <| .region <| .cons (.lN 2 rfl rfl rfl) <| .cons (.mv rfl rfl) <| .cons (.cP [.tmp 11, .tmp 12] rfl rfl rfl rfl (szPrg_fn (l := 1048576) (by omega) ho) rfl) ?_
 refine .cons (.asg rfl rfl) <| .nil <| ks_n <| .seq <| .seq <| .region <| .cons (.mv rfl rfl) <| .cons (.ls rfl rfl rfl) <| .nil <| ks_n ?_
 refine .cD rfl (fun h15 => ?_) (fun h15 => ?_)
 ·skip
  refine .seq <| .region <| .cons (.asg rfl rfl) <| .nil <| ks_n <| .ret <| ks_r ?_
  refine kf_ret rfl ?_ nobox
  rfl
 ·skip
  have hP := subZ_pos h15
  have hs : szG g ≤ 1048576 := by omega
  refine .skip <| ks_n <| .seq <| .region <| .cons (.lN 2 rfl rfl rfl) <| .cons (.cP [.tmp 16] rfl rfl rfl rfl (toPrg_fn (by omega)) rfl) ?_
  refine .cons (.mv rfl rfl) <| .cons (.mv rfl rfl) <| .cons (.cP [.tmp 17, .tmp 18, .tmp 19] rfl rfl rfl rfl (specPar_fn (by omega) a b) rfl) ?_
  refine .cons (.asg rfl rfl) <| .nil <| ks_n <| .seq <| .region <| .cons (.lN 2 rfl rfl rfl) <| .cons (.cP [.tmp 21] rfl rfl rfl rfl (toPrg_fn (by omega)) rfl) ?_
  refine .cons (.al 109 [.slice none 0 0, .slice none 0 0] rfl rfl rfl) <| .cons (.sT 2 true rfl rfl rfl rfl rfl rfl rfl) <| .nil <| ks_n <| .seq <| .region <| .cons (.bN 2 rfl rfl rfl rfl rfl rfl) <| .cons (.mv rfl rfl) <| .cons (.mv rfl rfl) <| .cons (.cP [.tmp 23, .tmp 24, .tmp 25] rfl rfl rfl rfl (implPar_fn (by omega) a b) rfl) ?_
  refine .cons (.asg rfl rfl) <| .nil <| ks_n <| .seq <| .seq <| .region <| .cons (.mv rfl rfl) <| .cons (.mv rfl rfl) <| .cons (St1.neqB rfl rfl rfl rfl (by kernel_rfl) rfl rfl) ?_
  refine .nil <| ks_n ?_
  refine ACode.condT rfl (fun h29 => ?_) (fun h29 => ?_)
  ·try simp only [zs1, zs2, zs3, zs4, zs5, zs6, zs7] at h29
   exfalso; simp_all
  ·try simp only [zs1, zs2, zs3, zs4, zs5, zs6, zs7] at h29
   refine .skip <| ks_n <| .seq <| .seq ?_
   refine ACode.drawK (by kernel_rfl) (by kernel_rfl) ?_
   refine .cons (.bN 2 rfl rfl rfl rfl rfl rfl) <| .cons (.lN 2 rfl rfl rfl) <| .cons (.cP [.tmp 31] rfl rfl rfl rfl (toPrg_fn (by omega)) rfl) ?_
   refine .cons (.cP [.tmp 30, .tmp 32] rfl rfl rfl rfl (eqPrg_fn _ _ (by omega)) rfl) ?_
   refine .cons (.nt rfl rfl) ?_
   refine .nil ⟨by kernel_rfl, ?_⟩
   refine ks_n ?_
   refine ACode.condT rfl (fun h34 => ?_) (fun h34 => ?_)
   ·try simp only [zs1, zs2, zs3, zs4, zs5, zs6, zs7] at h34
    exact absurd (h34.symm.trans (sameG_refl g)) (by decide)
   ·try simp only [zs1, zs2, zs3, zs4, zs5, zs6, zs7] at h34
    refine .skip <| ks_n <| .seq <| .region <| .cons (.asg rfl rfl) <| .nil <| ks_n <| .ret ?_
    refine kf_ret rfl ?_ nobox
    rfl
end Go.Proofs.YtidfloikpieggaaGreat
