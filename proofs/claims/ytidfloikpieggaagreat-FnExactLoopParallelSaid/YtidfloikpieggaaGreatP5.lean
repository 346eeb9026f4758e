/- Part 5 of 6 of the proof: laws on memory and data, then what the functions compute, in the order in which they build on each other; conditions: those that each theorem names. -/
import Derived.Lib.SliceRun
import Derived.Shelf.SlSortCmp.Whole1
import Derived.Sort.LotA
import Derived.Shelf.SlSortCmp.NoneTotal
import Derived.Test.YtidfloikpieggaaGreatProg
import Derived.Test.YtidfloikpieggaaGreatP4
set_option maxRecDepth 100000
set_option maxHeartbeats 1600000

namespace Go.Proofs.YtidfloikpieggaaGreat
set_option linter.unusedVariables false
set_option linter.unusedSimpArgs false
open Go.RowKit
theorem all_of {α : Type} {l : List α} {p : α → Bool} (h : ∀ (j : Nat) x, l[j]? = some x → p x = true) : l.all p = true := by
  rw [List.all_eq_true]
  intro x hx
  obtain ⟨j, hj⟩ := List.mem_iff_getElem?.1 hx
  exact h j x hj

theorem instances_fn {g : Prg} (hs : szG g ≤ 1073741824) : Fn Tryz.prog 56 [] [ad (rG g)] (.tup [vD (dNs (insV g)), bo1 (prgV g)]) [] := by
 have h1 := szO_len (f := szR) g.1
 have h2 := szO_len (f := szPt) g.2
 have hsz : szG g = szO szR g.1 + szO szPt g.2 := rfl
 refine Fn.code0 Tryz.func56 rfl rfl rfl rfl ?_
 refine .seq <| .region <| .cons (St1.boxP rfl rfl rfl rfl rfl rfl) <| .cons (.asg rfl rfl) <| .cons (.asg rfl rfl) <| .nil <| ks_n <| .seq <| .seq <| .region <| .cons (.fP 0 0 false rfl rfl) <| .cons (.l1 1 rfl rfl) <| .cons (.cP [.tmp 14] rfl rfl rfl rfl (arraysOk_fn g.1 (by omega) (fun x hx => by have := szO_mem (f := szR) hx; have e : szR x = x.1.size + x.2.length := rfl; omega)) rfl) ?_
 refine .cons (.nt rfl rfl) <| .cons (.mv rfl rfl) ?_
 refine AOps.cases 17 _ rfl (fun g17 => ?_) (fun g17 => ?_)
 ·try simp only [zs1, zs2, zs3, zs4, zs5, zs6, zs7] at g17
  refine .cons (.gF rfl rfl rfl) <| .cons (.gF rfl rfl rfl) <| .cons (.gF rfl rfl rfl) <| .cons (.gF rfl rfl rfl) <| .cons (.pT rfl rfl rfl) <| .nil <| ks_n ?_
  refine ACode.condT rfl (fun _ => ?_) (fun h => by first | (cases h; done) | (simp [*] at h; done) | (exfalso; simp_all; done))
  refine .seq ?_
  obtain ⟨hO, hN⟩ := prgV_f (g := g) (by first | exact prgS_f2 (show ¬ g.2.length ≤ 4 by omega) | exact prgS_f1 (by assumption))
  refine .region <| .cons (.asg rfl rfl) <| .cons (.asg rfl rfl) <| .nil <| ks_n <| .ret <| ks_r ?_
  refine kf_wret [(.t 2, .v (.o (vD (dNs (insV g))))), (.t 3, .v (.o (bo1 (prgV g))))] (Wk.keep [] rfl rfl ⟨ks rfl (.c (Cto.nilE 3 (by first | (rw [hN]; rfl) | (rw [hN, hEz]; rfl)))), ks rfl (.dt (by first | exact congrArg (fun b => V.o (bo1 b)) hO.symm | exact congrArg (fun b => V.o (bo1 b)) (by rw [hO, hEz, decide_eq_decide]; simp) | exact congrArg (fun b => V.o (bo1 b)) (by rw [hO, hEz, decide_eq_decide]; omega))), trivial⟩) rfl ?_ nobox
  rfl
 ·try simp only [zs1, zs2, zs3, zs4, zs5, zs6, zs7] at g17
  refine .cons (.gT rfl rfl rfl (.fP 1 0 false rfl rfl)) <| .cons (.gT rfl rfl rfl (.l1 1 rfl rfl)) <| .cons (.gT rfl rfl rfl (.ln 104 2 48 rfl rfl rfl)) <| .cons (.gT rfl rfl rfl (.gt rfl rfl rfl)) <| .cons (.pF rfl rfl rfl) <| .nil <| ks_n ?_
  refine ACode.condT rfl (fun h22 => ?_) (fun h22 => ?_)
  ·try simp only [zs1, zs2, zs3, zs4, zs5, zs6, zs7] at h22
   refine .seq ?_
   obtain ⟨hO, hN⟩ := prgV_f (g := g) (by first | exact prgS_f2 (show ¬ g.2.length ≤ 4 by omega) | exact prgS_f1 (by assumption))
   refine .region <| .cons (.asg rfl rfl) <| .cons (.asg rfl rfl) <| .nil <| ks_n <| .ret <| ks_r ?_
   refine kf_wret [(.t 2, .v (.o (vD (dNs (insV g))))), (.t 3, .v (.o (bo1 (prgV g))))] (Wk.keep [] rfl rfl ⟨ks rfl (.c (Cto.nilE 3 (by first | (rw [hN]; rfl) | (rw [hN, hEz]; rfl)))), ks rfl (.dt (by first | exact congrArg (fun b => V.o (bo1 b)) hO.symm | exact congrArg (fun b => V.o (bo1 b)) (by rw [hO, hEz, decide_eq_decide]; simp) | exact congrArg (fun b => V.o (bo1 b)) (by rw [hO, hEz, decide_eq_decide]; omega))), trivial⟩) rfl ?_ nobox
   rfl
  ·try simp only [zs1, zs2, zs3, zs4, zs5, zs6, zs7] at h22
   have hA : arrsV g.1 = true := by first | assumption | simp_all
   have h4 : g.2.length ≤ 4 := by omega
   refine .skip <| ks_n <| .seq <| .region <| .cons (.asg rfl rfl) <| .nil <| ks_n <| .seq <| .seq <| .region <| .cons (.fP 1 0 false rfl rfl) <| .cons (.l1 1 rfl rfl) <| .cons (.ln 104 2 48 rfl rfl rfl) <| .cons (.mv rfl rfl) <| .nil <| ks_n <| .block ?_
   refine .loopK (fun m σ => (∃ k : Nat, m = g.2.length - k ∧ (k ≤ g.2.length) ∧ (∀ j q, j < k → g.2[j]? = some q → prtV g.1 q = true) ∧ (insG 0 (g.2.take k) = []) ∧ σ = [(.t 1, .v (.o (.c (.ptr (rG g))))), (.t 4, .v (.o (.c (.d (.val (.slice none 0 0)))))), (.t 24, .v (.o (vD (dPts g.2)))), (.t 25, .v (.o (nat1 (g.2.length : Nat)))), (.t 26, .v (.o (nat1 (k : Nat))))]) ∨ (∃ (k : Nat) (o : List Ins), m = g.2.length - k ∧ (k ≤ g.2.length) ∧ (∀ j q, j < k → g.2[j]? = some q → prtV g.1 q = true) ∧ (insG 0 (g.2.take k) = o) ∧ (o.length ≤ 480 * k) ∧ σ = [(.t 1, .v (.o (.c (.ptr (rG g))))), (.t 4, .v (.o (.c (.own 110 3 (o.length))))), (.t 24, .v (.o (vD (dPts g.2)))), (.t 25, .v (.o (nat1 (g.2.length : Nat)))), (.t 26, .v (.o (nat1 (k : Nat)))), (.b 110, .b 86 3 (dR (o.map rN))), (.u 110, .u)])) [] (.inl ⟨0, rfl, by omega, fun j q hj _ => absurd hj (by omega), rfl, rfl⟩) ⟨ks rfl .dt, ks rfl .dt, ks rfl .dt, ks rfl .dt, ks rfl .dt, trivial⟩ ?_
   rintro m σ (⟨k, hm0, hk, hF, hE, rfl⟩ | ⟨k, o, hm0, hk, hF, hE, ho, rfl⟩)
   ·skip
    refine .seq <| .region <| .cons (.ls rfl rfl rfl) <| .nil <| ks_n <| .seq ?_
    refine .cD rfl (fun h27 => ?_) (fun h27 => ?_)
    ·skip
     obtain ⟨q, hq1⟩ : ∃ x_, g.2[k]? = some x_ := ⟨_, List.getElem?_eq_getElem (by omega)⟩
     have hqm := List.mem_of_getElem? hq1
     have hqs := szO_mem (f := szPt) hqm
     have hqe : szPt q = szLs q.1 + szO szS q.2 := rfl
     have hbg := sz_bg (ns := q.1) (by omega)
     have hql := szO_len (f := szS) q.2
     refine .skip <| ks_n <| .seq <| .block <| .seq <| .region <| .cons (.mv rfl rfl) <| .cons (.xL 104 2 48 rfl rfl rfl rfl rfl) ?_
     refine .cons (.lN 2 rfl rfl rfl) <| .cons (.al 106 [.slice none 0 0, .slice none 0 0] rfl rfl rfl) <| .cons (.asg rfl rfl) <| .cons (.sT 2 true rfl rfl rfl rfl rfl rfl rfl) <| .nil <| ks_n <| .seq ?_
     refine .keep [(.t 1, .v (.o (.c (.ptr (rG g))))), (.t 4, .v (.o (.c (.d (.val (.slice none 0 0)))))), (.t 5, .v (.o (nat1 (k : Nat)))), (.t 6, .v (.o (.c (.ptr (rP q))))), (.t 24, .v (.o (vD (dPts g.2)))), (.t 25, .v (.o (nat1 (g.2.length : Nat)))), (.t 26, .v (.o (nat1 (k : Nat))))] [] ⟨ks rfl .dt, ks rfl .dt, ks rfl .dt, ks rfl (.c (.frzP _ _ _ _ _ _ _ _ rfl (show _ = dR [rP q] from rfl) rfl rfl rfl)), ks rfl .dt, ks rfl .dt, ks rfl .dt, trivial⟩ ?_
     refine .region <| .cons (.fP 0 0 false rfl rfl) <| .cons (.l1 1 rfl rfl) <| .cons (.cP [.tmp 33] rfl rfl rfl rfl (implNestPts_B q.1 hbg) rfl) ?_
     refine .cons (.mv rfl rfl) <| .cons (.ex rfl rfl rfl) <| .cons (.ex rfl rfl rfl) <| .cons (.asg rfl rfl) <| .cons (.asg rfl rfl) <| .nil <| ks_n <| .seq <| .seq <| .region <| .cons (.mv rfl rfl) <| .cons (.nt rfl rfl) <| .cons (.mv rfl rfl) ?_
     refine AOps.cases 39 _ rfl (fun g39 => ?_) (fun g39 => ?_)
     ·try simp only [zs1, zs2, zs3, zs4, zs5, zs6, zs7] at g39
      refine .cons (.gF rfl rfl rfl) <| .cons (.gF rfl rfl rfl) <| .cons (.gF rfl rfl rfl) <| .cons (.gF rfl rfl rfl) <| .cons (.gF rfl rfl rfl) <| .cons (.pT rfl rfl rfl) <| .cons (.mv rfl rfl) <| .cons (.gF rfl rfl rfl) <| .cons (.gF rfl rfl rfl) <| .cons (.gF rfl rfl rfl) <| .cons (.gF rfl rfl rfl) <| .cons (.pT rfl rfl rfl) <| .nil <| ks_n ?_
      refine ACode.condT rfl (fun _ => ?_) (fun h => by first | (cases h; done) | (simp [*] at h; done) | (exfalso; simp_all; done))
      refine .seq ?_
      have hbad : prtV g.1 q = false := by first | exact prtV_f1 (by assumption) | exact prtV_f2 (fun h => by simp_all [inB]; omega) | (obtain ⟨s, hs, hs2⟩ := List.any_eq_true.1 (by assumption); exact prtV_f3 hs (by simpa using hs2))
      obtain ⟨hO, hN⟩ := prgV_f (g := g) (prgS_f3 hqm hbad)
      refine .region <| .cons (.asg rfl rfl) <| .cons (.asg rfl rfl) <| .nil <| ks_n <| .ret <| ks_r <| kb_r <| ks_r <| kl_r <| kb_r <| ks_r ?_
      refine kf_wret [(.t 2, .v (.o (vD (dNs (insV g))))), (.t 3, .v (.o (bo1 (prgV g))))] (Wk.keep [] rfl rfl ⟨ks rfl (.c (Cto.nilE 3 (by first | (rw [hN]; rfl) | (rw [hN, hEz]; rfl)))), ks rfl (.dt (by first | exact congrArg (fun b => V.o (bo1 b)) hO.symm | exact congrArg (fun b => V.o (bo1 b)) (by rw [hO, hEz, decide_eq_decide]; simp) | exact congrArg (fun b => V.o (bo1 b)) (by rw [hO, hEz, decide_eq_decide]; omega))), trivial⟩) rfl ?_ nobox
      rfl
     ·try simp only [zs1, zs2, zs3, zs4, zs5, zs6, zs7] at g39
      refine .cons (.gT rfl rfl rfl (.fP 1 0 false rfl rfl)) <| .cons (.gT rfl rfl rfl (.l1 1 rfl rfl)) <| .cons (.gT rfl rfl rfl (.ln 96 9 152 rfl rfl rfl)) <| .cons (.gT rfl rfl rfl (.cP [.tmp 42, .const (.int .i64 (1)), .const (.int .i64 (4))] rfl rfl rfl rfl (within_fn _ 1 4) rfl)) ?_
      refine .cons (.gT rfl rfl rfl (.nt rfl rfl)) <| .cons (.pF rfl rfl rfl) <| .cons (.mv rfl rfl) ?_
      refine AOps.cases 46 _ rfl (fun g46 => ?_) (fun g46 => ?_)
      ·try simp only [zs1, zs2, zs3, zs4, zs5, zs6, zs7] at g46
       refine .cons (.gF rfl rfl rfl) <| .cons (.gF rfl rfl rfl) <| .cons (.gF rfl rfl rfl) <| .cons (.gF rfl rfl rfl) <| .cons (.pT rfl rfl rfl) <| .nil <| ks_n ?_
       refine ACode.condT rfl (fun _ => ?_) (fun h => by first | (cases h; done) | (simp [*] at h; done) | (exfalso; simp_all; done))
       refine .seq ?_
       have hbad : prtV g.1 q = false := by first | exact prtV_f1 (by assumption) | exact prtV_f2 (fun h => by simp_all [inB]; omega) | (obtain ⟨s, hs, hs2⟩ := List.any_eq_true.1 (by assumption); exact prtV_f3 hs (by simpa using hs2))
       obtain ⟨hO, hN⟩ := prgV_f (g := g) (prgS_f3 hqm hbad)
       refine .region <| .cons (.asg rfl rfl) <| .cons (.asg rfl rfl) <| .nil <| ks_n <| .ret <| ks_r <| kb_r <| ks_r <| kl_r <| kb_r <| ks_r ?_
       refine kf_wret [(.t 2, .v (.o (vD (dNs (insV g))))), (.t 3, .v (.o (bo1 (prgV g))))] (Wk.keep [] rfl rfl ⟨ks rfl (.c (Cto.nilE 3 (by first | (rw [hN]; rfl) | (rw [hN, hEz]; rfl)))), ks rfl (.dt (by first | exact congrArg (fun b => V.o (bo1 b)) hO.symm | exact congrArg (fun b => V.o (bo1 b)) (by rw [hO, hEz, decide_eq_decide]; simp) | exact congrArg (fun b => V.o (bo1 b)) (by rw [hO, hEz, decide_eq_decide]; omega))), trivial⟩) rfl ?_ nobox
       rfl
      ·try simp only [zs1, zs2, zs3, zs4, zs5, zs6, zs7] at g46
       refine .cons (.gT rfl rfl rfl (.fP 1 0 false rfl rfl)) <| .cons (.gT rfl rfl rfl (.l1 1 rfl rfl)) <| .cons (.gT rfl rfl rfl (St1.makeFunc (xs := [.tmp 6]) rfl rfl rfl rfl rfl rfl rfl)) <| .cons (.gT rfl rfl rfl (.cP [.tmp 48, .tmp 49] rfl rfl rfl rfl (cnt_stm (f := 98) (cap := [rP q]) (by kernel_rfl) (fun s => !stmtV (q.1.length : Nat) s) q.2 (by omega) (fun s hs => ins1_fn (by have := szO_mem (f := szS) hs; omega))) rfl)) ?_
       refine .cons (.pF rfl rfl rfl) <| .nil <| ks_n ?_
       refine ACode.condT rfl (fun h51 => ?_) (fun h51 => ?_)
       ·try simp only [zs1, zs2, zs3, zs4, zs5, zs6, zs7] at h51
        refine .seq ?_
        have hbad : prtV g.1 q = false := by first | exact prtV_f1 (by assumption) | exact prtV_f2 (fun h => by simp_all [inB]; omega) | (obtain ⟨s, hs, hs2⟩ := List.any_eq_true.1 (by assumption); exact prtV_f3 hs (by simpa using hs2))
        obtain ⟨hO, hN⟩ := prgV_f (g := g) (prgS_f3 hqm hbad)
        refine .region <| .cons (.asg rfl rfl) <| .cons (.asg rfl rfl) <| .nil <| ks_n <| .ret <| ks_r <| kb_r <| ks_r <| kl_r <| kb_r <| ks_r ?_
        refine kf_wret [(.t 2, .v (.o (vD (dNs (insV g))))), (.t 3, .v (.o (bo1 (prgV g))))] (Wk.keep [] rfl rfl ⟨ks rfl (.c (Cto.nilE 3 (by first | (rw [hN]; rfl) | (rw [hN, hEz]; rfl)))), ks rfl (.dt (by first | exact congrArg (fun b => V.o (bo1 b)) hO.symm | exact congrArg (fun b => V.o (bo1 b)) (by rw [hO, hEz, decide_eq_decide]; simp) | exact congrArg (fun b => V.o (bo1 b)) (by rw [hO, hEz, decide_eq_decide]; omega))), trivial⟩) rfl ?_ nobox
        rfl
       ·try simp only [zs1, zs2, zs3, zs4, zs5, zs6, zs7] at h51
        have hv1 : okP q.1 = true := by first | assumption | simp_all
        have hv2 : 1 ≤ q.2.length ∧ q.2.length ≤ 4 := by simp_all [inB]; omega
        have hv3 : ∀ s ∈ q.2, stmtV (q.1.length : Nat) s = true := by simp_all
        refine .skip <| ks_n <| .seq <| .region <| .cons (.mv rfl rfl) <| .cons (.ln 35 1 24 rfl rfl rfl) <| .cons (.mv rfl rfl) <| .nil <| ks_n <| .block ?_
        refine .loopK (fun m σ => (∃ i : Nat, m = (npR q.1).length - i ∧ (i = 0) ∧ σ = [(.t 1, .v (.o (.c (.ptr (rG g))))), (.t 4, .v (.o (.c (.d (.val (.slice none 0 0)))))), (.t 5, .v (.o (nat1 (k : Nat)))), (.t 6, .v (.o (.c (.ptr (rP q))))), (.t 24, .v (.o (vD (dPts g.2)))), (.t 25, .v (.o (nat1 (g.2.length : Nat)))), (.t 26, .v (.o (nat1 (k : Nat)))), (.t 52, .v (.o (vD (dPs (npR q.1))))), (.t 53, .v (.o (nat1 ((npR q.1).length : Nat)))), (.t 54, .v (.o (nat1 (i : Nat))))]) ∨ (∃ (i : Nat) (o2 : List Ins), m = (npR q.1).length - i ∧ (i ≤ (npR q.1).length) ∧ (∀ j p, j < i → (npR q.1)[j]? = some p → ptG' g.1 q.2 p = true) ∧ ([] ++ insT k q.2.length ((npR q.1).take i) = o2) ∧ (o2.length ≤ 480 * k + 4 * i) ∧ σ = [(.t 1, .v (.o (.c (.ptr (rG g))))), (.t 4, .v (.o (.c (.own 120 3 (o2.length))))), (.t 5, .v (.o (nat1 (k : Nat)))), (.t 6, .v (.o (.c (.ptr (rP q))))), (.t 24, .v (.o (vD (dPts g.2)))), (.t 25, .v (.o (nat1 (g.2.length : Nat)))), (.t 26, .v (.o (nat1 (k : Nat)))), (.t 52, .v (.o (vD (dPs (npR q.1))))), (.t 53, .v (.o (nat1 ((npR q.1).length : Nat)))), (.t 54, .v (.o (nat1 (i : Nat)))), (.b 120, .b 86 3 (dR (o2.map rN))), (.u 120, .u)])) [] (.inl ⟨0, rfl, rfl, rfl⟩) ⟨ks rfl .dt, ks rfl .dt, ks rfl .dt, ks rfl .dt, ks rfl .dt, ks rfl .dt, ks rfl .dt, ks rfl .dt, ks rfl .dt, ks rfl .dt, trivial⟩ ?_
        rintro m σ (⟨i, hm0, rfl, rfl⟩ | ⟨i, o2, hm0, hi, hG, hEo, ho2, rfl⟩)
        ·skip
         refine .seq <| .region <| .cons (.ls rfl rfl rfl) <| .nil <| ks_n <| .seq ?_
         refine .cD rfl (fun h55 => ?_) (fun h55 => ?_)
         ·skip
          obtain ⟨p, hp1⟩ : ∃ x_, (npR q.1)[0]? = some x_ := ⟨_, List.getElem?_eq_getElem (by omega)⟩
          have hpm := List.mem_of_getElem? hp1
          have hpt := npR_pt hpm
          have hnl := npR_len q.1
          refine .skip <| ks_n <| .seq <| .block <| .seq <| .region <| .cons (.xL 35 1 24 rfl rfl rfl rfl rfl) ?_
          refine .cons (.l1 1 rfl rfl) <| .cons (.asg rfl rfl) <| .nil <| ks_n <| .seq <| .seq <| .region <| .cons (.mv rfl rfl) <| .cons (.cP [.tmp 58] rfl rfl rfl rfl (isPoint_fn _) rfl) ?_
          refine .cons (.nt rfl rfl) <| .nil <| ks_n ?_
          refine ACode.condT rfl (fun h60 => ?_) (fun h60 => ?_)
          ·try simp only [zs1, zs2, zs3, zs4, zs5, zs6, zs7] at h60
           refine .seq ?_
           obtain ⟨hO, hN⟩ := prgV_f (g := g) (prgS_f3 hqm (prtV_f4 hpm (by assumption)))
           refine .region <| .cons (.asg rfl rfl) <| .cons (.asg rfl rfl) <| .nil <| ks_n <| .ret <| ks_r <| kb_r <| ks_r <| kl_r <| kb_r <| kb_r <| ks_r <| kl_r <| kb_r <| ks_r ?_
           refine kf_wret [(.t 2, .v (.o (vD (dNs (insV g))))), (.t 3, .v (.o (bo1 (prgV g))))] (Wk.keep [] rfl rfl ⟨ks rfl (.c (Cto.nilE 3 (by first | (rw [hN]; rfl) | (rw [hN, hEz]; rfl)))), ks rfl (.dt (by first | exact congrArg (fun b => V.o (bo1 b)) hO.symm | exact congrArg (fun b => V.o (bo1 b)) (by rw [hO, hEz, decide_eq_decide]; simp) | exact congrArg (fun b => V.o (bo1 b)) (by rw [hO, hEz, decide_eq_decide]; omega))), trivial⟩) rfl ?_ nobox
           rfl
          ·try simp only [zs1, zs2, zs3, zs4, zs5, zs6, zs7] at h60
           refine .skip <| ks_n <| .seq <| .region <| .cons (.fP 1 0 false rfl rfl) <| .cons (.l1 1 rfl rfl) <| .cons (.ln 96 9 152 rfl rfl rfl) <| .cons (.mv rfl rfl) <| .nil <| ks_n <| .block ?_
           refine .loopK (fun m σ => (∃ j : Nat, m = q.2.length - j ∧ (j = 0) ∧ σ = [(.t 1, .v (.o (.c (.ptr (rG g))))), (.t 4, .v (.o (.c (.d (.val (.slice none 0 0)))))), (.t 5, .v (.o (nat1 (k : Nat)))), (.t 6, .v (.o (.c (.ptr (rP q))))), (.t 10, .v (.o (vD (dIs p)))), (.t 24, .v (.o (vD (dPts g.2)))), (.t 25, .v (.o (nat1 (g.2.length : Nat)))), (.t 26, .v (.o (nat1 (k : Nat)))), (.t 52, .v (.o (vD (dPs (npR q.1))))), (.t 53, .v (.o (nat1 ((npR q.1).length : Nat)))), (.t 54, .v (.o (nat1 (0 : Nat)))), (.t 62, .v (.o (vD (dMs q.2)))), (.t 63, .v (.o (nat1 (q.2.length : Nat)))), (.t 64, .v (.o (nat1 (j : Nat))))]) ∨ (∃ (j : Nat) (o3 : List Ins), m = q.2.length - j ∧ (j ≤ q.2.length) ∧ (∀ t s, t < j → q.2[t]? = some s → stmG g.1 s p = true) ∧ ([] ++ rowI k j p = o3) ∧ (o3.length ≤ 480 * k + 4 * 0 + j) ∧ σ = [(.t 1, .v (.o (.c (.ptr (rG g))))), (.t 4, .v (.o (.c (.own 130 3 (o3.length))))), (.t 5, .v (.o (nat1 (k : Nat)))), (.t 6, .v (.o (.c (.ptr (rP q))))), (.t 10, .v (.o (vD (dIs p)))), (.t 24, .v (.o (vD (dPts g.2)))), (.t 25, .v (.o (nat1 (g.2.length : Nat)))), (.t 26, .v (.o (nat1 (k : Nat)))), (.t 52, .v (.o (vD (dPs (npR q.1))))), (.t 53, .v (.o (nat1 ((npR q.1).length : Nat)))), (.t 54, .v (.o (nat1 (0 : Nat)))), (.t 62, .v (.o (vD (dMs q.2)))), (.t 63, .v (.o (nat1 (q.2.length : Nat)))), (.t 64, .v (.o (nat1 (j : Nat)))), (.b 130, .b 86 3 (dR (o3.map rN))), (.u 130, .u)])) [] (.inl ⟨0, rfl, rfl, rfl⟩) ⟨ks rfl .dt, ks rfl .dt, ks rfl .dt, ks rfl .dt, ks rfl .dt, ks rfl .dt, ks rfl .dt, ks rfl .dt, ks rfl .dt, ks rfl .dt, ks rfl .dt, ks rfl .dt, ks rfl .dt, ks rfl .dt, trivial⟩ ?_
           rintro m σ (⟨j, hm0, rfl, rfl⟩ | ⟨j, o3, hm0, hj, hH, hEp, ho3, rfl⟩)
           ·skip
            refine .seq <| .region <| .cons (.ls rfl rfl rfl) <| .nil <| ks_n <| .seq ?_
            refine .cD rfl (fun h65 => ?_) (fun h65 => ?_)
            ·skip
             obtain ⟨s, hs1⟩ : ∃ x_, q.2[0]? = some x_ := ⟨_, List.getElem?_eq_getElem (by omega)⟩
             have hsm := List.mem_of_getElem? hs1
             have hsv := hv3 s hsm
             refine .skip <| ks_n <| .seq <| .block <| .seq <| .region <| .cons (.mv rfl rfl) <| .cons (.xL 96 9 152 rfl rfl rfl rfl rfl) ?_
             refine .cons (.lN 9 rfl rfl rfl) <| .cons (.al 112 [.string ByteArray.empty, .slice none 0 0, .int .i64 0, .int .i64 0, .slice none 0 0, .int .i64 0, .string ByteArray.empty, .slice none 0 0, .slice none 0 0] rfl rfl rfl) <| .cons (.asg rfl rfl) <| .cons (.sT 9 true rfl rfl rfl rfl rfl rfl rfl) <| .nil <| ks_n <| .seq <| .seq <| .region <| .cons (.lN 2 rfl rfl rfl) <| .cons (.bN 9 rfl rfl rfl rfl rfl rfl) <| .cons (.mv rfl rfl) <| .cons (.cP [.tmp 69, .tmp 70, .tmp 71] rfl rfl rfl rfl (sok_fn hA hsv hpt.1 hpt.2) rfl) ?_
             refine .cons (.nt rfl rfl) <| .nil <| ks_n ?_
             refine ACode.condT rfl (fun h73 => ?_) (fun h73 => ?_)
             ·try simp only [zs1, zs2, zs3, zs4, zs5, zs6, zs7] at h73
              refine .seq ?_
              obtain ⟨hO, hN⟩ := prgV_f (g := g) (prgS_f3 hqm (prtV_f5 hpm hsm (by assumption)))
              refine .region <| .cons (.asg rfl rfl) <| .cons (.asg rfl rfl) <| .nil <| ks_n <| .ret <| ks_r <| kb_r <| ks_r <| kl_r <| kb_r <| kb_r <| ks_r <| kl_r <| kb_r <| kb_r <| ks_r <| kl_r <| kb_r <| ks_r ?_
              refine kf_wret [(.t 2, .v (.o (vD (dNs (insV g))))), (.t 3, .v (.o (bo1 (prgV g))))] (Wk.keep [] rfl rfl ⟨ks rfl (.c (Cto.nilE 3 (by first | (rw [hN]; rfl) | (rw [hN, hEz]; rfl)))), ks rfl (.dt (by first | exact congrArg (fun b => V.o (bo1 b)) hO.symm | exact congrArg (fun b => V.o (bo1 b)) (by rw [hO, hEz, decide_eq_decide]; simp) | exact congrArg (fun b => V.o (bo1 b)) (by rw [hO, hEz, decide_eq_decide]; omega))), trivial⟩) rfl ?_ nobox
              rfl
             ·try simp only [zs1, zs2, zs3, zs4, zs5, zs6, zs7] at h73
              have hST : stmG g.1 s p = true := by assumption
              refine .skip <| ks_n <| .region <| .cons (.mv rfl rfl) <| .cons (.mv rfl rfl) <| .cons (.mv rfl rfl) <| .cons (.mv rfl rfl) <| .cons (.cP [.tmp 77] rfl rfl rfl rfl (cloneInts_fn p (by omega)) rfl) ?_
              refine .cons (.bu [(0, .tmp 75), (1, .tmp 76), (2, .tmp 78)] [(0, 1), (1, 1), (2, 1)] [.int .i64 0, .int .i64 0, .slice none 0 0] rfl rfl rfl rfl rfl) <| .cons (.li 86 2 0 [.tmp 79] rfl rfl rfl rfl rfl rfl) <| .cons (St1.appN (k' := 181) (e := 86) (sz := 2) (by' := 40) rfl rfl rfl rfl rfl (by kernel_rfl) rfl rfl rfl (by simp) (by first | (simp [dR]; done) | (simp [dR]; omega)) rfl rfl) ?_
              refine .cons (.asg rfl rfl) <| .nil <| kb_n <| ks_n <| .region <| .cons (.pl rfl rfl rfl) <| .cons (.mv rfl rfl) <| .nil ?_
              refine kl_k [(130, 181)] (.inr ⟨1, [((k : Int), ((0 : Nat) : Int), p)], rfl, by omega, fun t s' ht hs' => (Nat.lt_succ_iff_lt_or_eq.1 ht).elim (fun h => absurd h (by omega)) (fun h => by subst h; rw [hs1] at hs'; cases hs'; exact hST), rfl, by simp, rfl⟩) ⟨ks rfl .dt, ks rfl (.c .ow), ks rfl .dt, ks rfl .dt, ks rfl .dt, ks rfl .dt, ks rfl .dt, ks rfl .dt, ks rfl .dt, ks rfl .dt, ks rfl .dt, ks rfl .dt, ks rfl .dt, ks rfl .dt, kb 181 rfl (.dt rfl (by first | rfl | (simp [dR, rN, dI]; done))), trivial⟩
            ·skip
             exfalso; omega
           ·skip
            refine .seq <| .region <| .cons (.ls rfl rfl rfl) <| .nil <| ks_n <| .seq ?_
            refine .cD rfl (fun h65 => ?_) (fun h65 => ?_)
            ·skip
             obtain ⟨s, hs1⟩ : ∃ x_, q.2[j]? = some x_ := ⟨_, List.getElem?_eq_getElem (by omega)⟩
             have hsm := List.mem_of_getElem? hs1
             have hsv := hv3 s hsm
             refine .skip <| ks_n <| .seq <| .block <| .seq <| .region <| .cons (.mv rfl rfl) <| .cons (.xL 96 9 152 rfl rfl rfl rfl rfl) ?_
             refine .cons (.lN 9 rfl rfl rfl) <| .cons (.al 112 [.string ByteArray.empty, .slice none 0 0, .int .i64 0, .int .i64 0, .slice none 0 0, .int .i64 0, .string ByteArray.empty, .slice none 0 0, .slice none 0 0] rfl rfl rfl) <| .cons (.asg rfl rfl) <| .cons (.sT 9 true rfl rfl rfl rfl rfl rfl rfl) <| .nil <| ks_n <| .seq <| .seq <| .region <| .cons (.lN 2 rfl rfl rfl) <| .cons (.bN 9 rfl rfl rfl rfl rfl rfl) <| .cons (.mv rfl rfl) <| .cons (.cP [.tmp 69, .tmp 70, .tmp 71] rfl rfl rfl rfl (sok_fn hA hsv hpt.1 hpt.2) rfl) ?_
             refine .cons (.nt rfl rfl) <| .nil <| ks_n ?_
             refine ACode.condT rfl (fun h73 => ?_) (fun h73 => ?_)
             ·try simp only [zs1, zs2, zs3, zs4, zs5, zs6, zs7] at h73
              refine .seq ?_
              obtain ⟨hO, hN⟩ := prgV_f (g := g) (prgS_f3 hqm (prtV_f5 hpm hsm (by assumption)))
              refine .region <| .cons (.asg rfl rfl) <| .cons (.asg rfl rfl) <| .nil <| ks_n <| .ret <| ks_r <| kb_r <| ks_r <| kl_r <| kb_r <| kb_r <| ks_r <| kl_r <| kb_r <| kb_r <| ks_r <| kl_r <| kb_r <| ks_r ?_
              refine kf_wret [(.t 2, .v (.o (vD (dNs (insV g))))), (.t 3, .v (.o (bo1 (prgV g))))] (Wk.keep [] rfl rfl ⟨ks rfl (.c (Cto.nilE 3 (by first | (rw [hN]; rfl) | (rw [hN, hEz]; rfl)))), ks rfl (.dt (by first | exact congrArg (fun b => V.o (bo1 b)) hO.symm | exact congrArg (fun b => V.o (bo1 b)) (by rw [hO, hEz, decide_eq_decide]; simp) | exact congrArg (fun b => V.o (bo1 b)) (by rw [hO, hEz, decide_eq_decide]; omega))), trivial⟩) rfl ?_ nobox
              rfl
             ·try simp only [zs1, zs2, zs3, zs4, zs5, zs6, zs7] at h73
              have hST : stmG g.1 s p = true := by assumption
              refine .skip <| ks_n <| .region <| .cons (.mv rfl rfl) <| .cons (.mv rfl rfl) <| .cons (.mv rfl rfl) <| .cons (.mv rfl rfl) <| .cons (.cP [.tmp 77] rfl rfl rfl rfl (cloneInts_fn p (by omega)) rfl) ?_
              refine .cons (.bu [(0, .tmp 75), (1, .tmp 76), (2, .tmp 78)] [(0, 1), (1, 1), (2, 1)] [.int .i64 0, .int .i64 0, .slice none 0 0] rfl rfl rfl rfl rfl) <| .cons (.li 86 2 0 [.tmp 79] rfl rfl rfl rfl rfl rfl) <| .cons (St1.appB (k' := 181) (e := 86) (sz := 2) (by' := 40) rfl rfl rfl rfl rfl (by kernel_rfl) rfl rfl rfl rfl (by first | (simp [dR]; done) | (simp [dR]; omega)) (by first | (simp [dR]; done) | (simp [dR]; omega)) rfl rfl rfl) ?_
              refine .cons (.asg rfl rfl) <| .nil <| kb_n <| ks_n <| .region <| .cons (.pl rfl rfl rfl) <| .cons (.mv rfl rfl) <| .nil ?_
              refine kl_k [(130, 181)] (.inr ⟨j + 1, o3 ++ [((k : Int), ((j : Nat) : Int), p)], rfl, by omega, fun t s' ht hs' => (Nat.lt_succ_iff_lt_or_eq.1 ht).elim (fun h => hH t s' h hs') (fun h => by subst h; rw [hs1] at hs'; cases hs'; exact hST), by rw [rowI_snoc, ← List.append_assoc, hEp], by rw [List.length_append, List.length_singleton]; omega, rfl⟩) ⟨ks rfl .dt, ks rfl (.c .ow), ks rfl .dt, ks rfl .dt, ks rfl .dt, ks rfl .dt, ks rfl .dt, ks rfl .dt, ks rfl .dt, ks rfl .dt, ks rfl .dt, ks rfl .dt, ks rfl .dt, ks rfl .dt, kb 181 rfl (.dt rfl (by first | rfl | (simp [dR, rN, dI]; done))), trivial⟩
            ·skip
             obtain rfl : j = q.2.length := by omega
             have hPT : ptG' g.1 q.2 p = true := by rw [ptG', show isPt p = true by assumption, Bool.true_and]; exact all_of fun j s h => hH j s (List.getElem?_eq_some_iff.1 h).1 h
             refine .exit <| ks_e <| kl_e <| kb_hit <| kb_n <| ks_n <| .region <| .cons (.pl rfl rfl rfl) <| .cons (.mv rfl rfl) <| .nil ?_
             refine kl_k [(120, 130)] (.inr ⟨1, o3, rfl, by omega, fun j p' hj hp' => (Nat.lt_succ_iff_lt_or_eq.1 hj).elim (fun h => absurd h (by omega)) (fun h => by subst h; rw [hp1] at hp'; cases hp'; exact hPT), by rw [insT_take hp1]; exact hEp, by omega, rfl⟩) ⟨ks rfl .dt, ks rfl (.c .ow), ks rfl .dt, ks rfl .dt, ks rfl .dt, ks rfl .dt, ks rfl .dt, ks rfl .dt, ks rfl .dt, ks rfl .dt, kb 130 rfl (.dt rfl (by first | rfl | (simp [dR, rN, dI]; done))), trivial⟩
         ·skip
          have hn0 : npR q.1 = [] := List.eq_nil_of_length_eq_zero (by omega)
          have hPV : prtV g.1 q = true := by rw [prtV_eq hv1 hv2 (List.all_eq_true.2 hv3), hn0]; rfl
          refine .exit <| ks_e <| kl_e <| kb_hit <| kb_n <| ks_n <| .region <| .cons (.pl rfl rfl rfl) <| .cons (.mv rfl rfl) <| .nil ?_
          refine kl_k [] (.inl ⟨k + 1, rfl, by omega, fun j q' hj hq' => (Nat.lt_succ_iff_lt_or_eq.1 hj).elim (fun h => hF j q' h hq') (fun h => by subst h; rw [hq1] at hq'; cases hq'; exact hPV), by rw [insG_take hq1, hE, insP, hn0]; rfl, rfl⟩) ⟨ks rfl .dt, ks rfl .dt, ks rfl .dt, ks rfl .dt, ks rfl .dt, trivial⟩
        ·skip
         refine .seq <| .region <| .cons (.ls rfl rfl rfl) <| .nil <| ks_n <| .seq ?_
         refine .cD rfl (fun h55 => ?_) (fun h55 => ?_)
         ·skip
          obtain ⟨p, hp1⟩ : ∃ x_, (npR q.1)[i]? = some x_ := ⟨_, List.getElem?_eq_getElem (by omega)⟩
          have hpm := List.mem_of_getElem? hp1
          have hpt := npR_pt hpm
          have hnl := npR_len q.1
          refine .skip <| ks_n <| .seq <| .block <| .seq <| .region <| .cons (.xL 35 1 24 rfl rfl rfl rfl rfl) ?_
          refine .cons (.l1 1 rfl rfl) <| .cons (.asg rfl rfl) <| .nil <| ks_n <| .seq <| .seq <| .region <| .cons (.mv rfl rfl) <| .cons (.cP [.tmp 58] rfl rfl rfl rfl (isPoint_fn _) rfl) ?_
          refine .cons (.nt rfl rfl) <| .nil <| ks_n ?_
          refine ACode.condT rfl (fun h60 => ?_) (fun h60 => ?_)
          ·try simp only [zs1, zs2, zs3, zs4, zs5, zs6, zs7] at h60
           refine .seq ?_
           obtain ⟨hO, hN⟩ := prgV_f (g := g) (prgS_f3 hqm (prtV_f4 hpm (by assumption)))
           refine .region <| .cons (.asg rfl rfl) <| .cons (.asg rfl rfl) <| .nil <| ks_n <| .ret <| ks_r <| kb_r <| ks_r <| kl_r <| kb_r <| kb_r <| ks_r <| kl_r <| kb_r <| ks_r ?_
           refine kf_wret [(.t 2, .v (.o (vD (dNs (insV g))))), (.t 3, .v (.o (bo1 (prgV g))))] (Wk.keep [] rfl rfl ⟨ks rfl (.c (Cto.nilE 3 (by first | (rw [hN]; rfl) | (rw [hN, hEz]; rfl)))), ks rfl (.dt (by first | exact congrArg (fun b => V.o (bo1 b)) hO.symm | exact congrArg (fun b => V.o (bo1 b)) (by rw [hO, hEz, decide_eq_decide]; simp) | exact congrArg (fun b => V.o (bo1 b)) (by rw [hO, hEz, decide_eq_decide]; omega))), trivial⟩) rfl ?_ nobox
           rfl
          ·try simp only [zs1, zs2, zs3, zs4, zs5, zs6, zs7] at h60
           refine .skip <| ks_n <| .seq <| .region <| .cons (.fP 1 0 false rfl rfl) <| .cons (.l1 1 rfl rfl) <| .cons (.ln 96 9 152 rfl rfl rfl) <| .cons (.mv rfl rfl) <| .nil <| ks_n <| .block ?_
           refine .loopK (fun m σ => (∃ (j : Nat) (o3 : List Ins), m = q.2.length - j ∧ (j ≤ q.2.length) ∧ (∀ t s, t < j → q.2[t]? = some s → stmG g.1 s p = true) ∧ (o2 ++ rowI k j p = o3) ∧ (o3.length ≤ 480 * k + 4 * i + j) ∧ σ = [(.t 1, .v (.o (.c (.ptr (rG g))))), (.t 4, .v (.o (.c (.own 130 3 (o3.length))))), (.t 5, .v (.o (nat1 (k : Nat)))), (.t 6, .v (.o (.c (.ptr (rP q))))), (.t 10, .v (.o (vD (dIs p)))), (.t 24, .v (.o (vD (dPts g.2)))), (.t 25, .v (.o (nat1 (g.2.length : Nat)))), (.t 26, .v (.o (nat1 (k : Nat)))), (.t 52, .v (.o (vD (dPs (npR q.1))))), (.t 53, .v (.o (nat1 ((npR q.1).length : Nat)))), (.t 54, .v (.o (nat1 (i : Nat)))), (.t 62, .v (.o (vD (dMs q.2)))), (.t 63, .v (.o (nat1 (q.2.length : Nat)))), (.t 64, .v (.o (nat1 (j : Nat)))), (.b 130, .b 86 3 (dR (o3.map rN))), (.u 130, .u)])) [(130, 120)] ⟨0, o2, rfl, by omega, fun t s ht _ => absurd ht (by omega), by simp [rowI_zero], by omega, rfl⟩ ⟨ks rfl .dt, ks rfl (.c .ow), ks rfl .dt, ks rfl .dt, ks rfl .dt, ks rfl .dt, ks rfl .dt, ks rfl .dt, ks rfl .dt, ks rfl .dt, ks rfl .dt, ks rfl .dt, ks rfl .dt, ks rfl .dt, kb 120 rfl (.dt rfl (by first | rfl | (simp [dR, rN, dI]; done))), trivial⟩ ?_
           rintro m σ ⟨j, o3, hm0, hj, hH, hEp, ho3, rfl⟩
           refine .seq <| .region <| .cons (.ls rfl rfl rfl) <| .nil <| ks_n <| .seq ?_
           refine .cD rfl (fun h65 => ?_) (fun h65 => ?_)
           ·skip
            obtain ⟨s, hs1⟩ : ∃ x_, q.2[j]? = some x_ := ⟨_, List.getElem?_eq_getElem (by omega)⟩
            have hsm := List.mem_of_getElem? hs1
            have hsv := hv3 s hsm
            refine .skip <| ks_n <| .seq <| .block <| .seq <| .region <| .cons (.mv rfl rfl) <| .cons (.xL 96 9 152 rfl rfl rfl rfl rfl) ?_
            refine .cons (.lN 9 rfl rfl rfl) <| .cons (.al 112 [.string ByteArray.empty, .slice none 0 0, .int .i64 0, .int .i64 0, .slice none 0 0, .int .i64 0, .string ByteArray.empty, .slice none 0 0, .slice none 0 0] rfl rfl rfl) <| .cons (.asg rfl rfl) <| .cons (.sT 9 true rfl rfl rfl rfl rfl rfl rfl) <| .nil <| ks_n <| .seq <| .seq <| .region <| .cons (.lN 2 rfl rfl rfl) <| .cons (.bN 9 rfl rfl rfl rfl rfl rfl) <| .cons (.mv rfl rfl) <| .cons (.cP [.tmp 69, .tmp 70, .tmp 71] rfl rfl rfl rfl (sok_fn hA hsv hpt.1 hpt.2) rfl) ?_
            refine .cons (.nt rfl rfl) <| .nil <| ks_n ?_
            refine ACode.condT rfl (fun h73 => ?_) (fun h73 => ?_)
            ·try simp only [zs1, zs2, zs3, zs4, zs5, zs6, zs7] at h73
             refine .seq ?_
             obtain ⟨hO, hN⟩ := prgV_f (g := g) (prgS_f3 hqm (prtV_f5 hpm hsm (by assumption)))
             refine .region <| .cons (.asg rfl rfl) <| .cons (.asg rfl rfl) <| .nil <| ks_n <| .ret <| ks_r <| kb_r <| ks_r <| kl_r <| kb_r <| kb_r <| ks_r <| kl_r <| kb_r <| kb_r <| ks_r <| kl_r <| kb_r <| ks_r ?_
             refine kf_wret [(.t 2, .v (.o (vD (dNs (insV g))))), (.t 3, .v (.o (bo1 (prgV g))))] (Wk.keep [] rfl rfl ⟨ks rfl (.c (Cto.nilE 3 (by first | (rw [hN]; rfl) | (rw [hN, hEz]; rfl)))), ks rfl (.dt (by first | exact congrArg (fun b => V.o (bo1 b)) hO.symm | exact congrArg (fun b => V.o (bo1 b)) (by rw [hO, hEz, decide_eq_decide]; simp) | exact congrArg (fun b => V.o (bo1 b)) (by rw [hO, hEz, decide_eq_decide]; omega))), trivial⟩) rfl ?_ nobox
             rfl
            ·try simp only [zs1, zs2, zs3, zs4, zs5, zs6, zs7] at h73
             have hST : stmG g.1 s p = true := by assumption
             refine .skip <| ks_n <| .region <| .cons (.mv rfl rfl) <| .cons (.mv rfl rfl) <| .cons (.mv rfl rfl) <| .cons (.mv rfl rfl) <| .cons (.cP [.tmp 77] rfl rfl rfl rfl (cloneInts_fn p (by omega)) rfl) ?_
             refine .cons (.bu [(0, .tmp 75), (1, .tmp 76), (2, .tmp 78)] [(0, 1), (1, 1), (2, 1)] [.int .i64 0, .int .i64 0, .slice none 0 0] rfl rfl rfl rfl rfl) <| .cons (.li 86 2 0 [.tmp 79] rfl rfl rfl rfl rfl rfl) <| .cons (St1.appB (k' := 181) (e := 86) (sz := 2) (by' := 40) rfl rfl rfl rfl rfl (by kernel_rfl) rfl rfl rfl rfl (by first | (simp [dR]; done) | (simp [dR]; omega)) (by first | (simp [dR]; done) | (simp [dR]; omega)) rfl rfl rfl) ?_
             refine .cons (.asg rfl rfl) <| .nil <| kb_n <| ks_n <| .region <| .cons (.pl rfl rfl rfl) <| .cons (.mv rfl rfl) <| .nil ?_
             refine kl_k [(130, 181)] ⟨j + 1, o3 ++ [((k : Int), ((j : Nat) : Int), p)], rfl, by omega, fun t s' ht hs' => (Nat.lt_succ_iff_lt_or_eq.1 ht).elim (fun h => hH t s' h hs') (fun h => by subst h; rw [hs1] at hs'; cases hs'; exact hST), by rw [rowI_snoc, ← List.append_assoc, hEp], by rw [List.length_append, List.length_singleton]; omega, rfl⟩ ⟨ks rfl .dt, ks rfl (.c .ow), ks rfl .dt, ks rfl .dt, ks rfl .dt, ks rfl .dt, ks rfl .dt, ks rfl .dt, ks rfl .dt, ks rfl .dt, ks rfl .dt, ks rfl .dt, ks rfl .dt, ks rfl .dt, kb 181 rfl (.dt rfl (by first | rfl | (simp [dR, rN, dI]; done))), trivial⟩
           ·skip
            obtain rfl : j = q.2.length := by omega
            have hPT : ptG' g.1 q.2 p = true := by rw [ptG', show isPt p = true by assumption, Bool.true_and]; exact all_of fun j s h => hH j s (List.getElem?_eq_some_iff.1 h).1 h
            refine .exit <| ks_e <| kl_e <| kb_hit <| kb_n <| ks_n <| .region <| .cons (.pl rfl rfl rfl) <| .cons (.mv rfl rfl) <| .nil ?_
            refine kl_k [(120, 130)] (.inr ⟨i + 1, o3, rfl, by omega, fun j p' hj hp' => (Nat.lt_succ_iff_lt_or_eq.1 hj).elim (fun h => hG j p' h hp') (fun h => by subst h; rw [hp1] at hp'; cases hp'; exact hPT), by rw [insT_take hp1, ← List.append_assoc, hEo]; exact hEp, by omega, rfl⟩) ⟨ks rfl .dt, ks rfl (.c .ow), ks rfl .dt, ks rfl .dt, ks rfl .dt, ks rfl .dt, ks rfl .dt, ks rfl .dt, ks rfl .dt, ks rfl .dt, kb 130 rfl (.dt rfl (by first | rfl | (simp [dR, rN, dI]; done))), trivial⟩
         ·skip
          obtain rfl : i = (npR q.1).length := by omega
          rw [List.take_length] at hEo
          have hPV : prtV g.1 q = true := by rw [prtV_eq hv1 hv2 (List.all_eq_true.2 hv3)]; exact all_of fun j p h => hG j p (List.getElem?_eq_some_iff.1 h).1 h
          have hnl := npR_len q.1
          refine .exit <| ks_e <| kl_e <| kb_hit <| kb_n <| ks_n <| .region <| .cons (.pl rfl rfl rfl) <| .cons (.mv rfl rfl) <| .nil ?_
          refine kl_k [(110, 120)] (.inr ⟨k + 1, o2, rfl, by omega, fun j q' hj hq' => (Nat.lt_succ_iff_lt_or_eq.1 hj).elim (fun h => hF j q' h hq') (fun h => by subst h; rw [hq1] at hq'; cases hq'; exact hPV), by rw [insG_take hq1, hE]; exact hEo, by omega, rfl⟩) ⟨ks rfl .dt, ks rfl (.c .ow), ks rfl .dt, ks rfl .dt, ks rfl .dt, kb 120 rfl (.dt rfl (by first | rfl | (simp [dR, rN, dI]; done))), trivial⟩
    ·skip
     obtain rfl : k = g.2.length := by omega
     rw [List.take_length] at hE
     have hEz := hE
     obtain ⟨hO, hN⟩ := prgV_t (prgS_eq hA h4 hF)
     refine .exit <| ks_e <| kl_e <| kb_hit <| ks_n <| .seq <| .region <| .cons (.mv rfl rfl) <| .cons (.mv rfl rfl) <| .cons (St1.lenN (e := 86) (m := 3) (by' := 40) rfl rfl rfl rfl rfl (by kernel_rfl) rfl) ?_
     refine .cons (.le rfl rfl rfl) <| .cons (.asg rfl rfl) <| .cons (.asg rfl rfl) <| .nil <| ks_n <| .ret ?_
     refine kf_wret [(.t 2, .v (.o (vD (dNs (insV g))))), (.t 3, .v (.o (bo1 (prgV g))))] (Wk.keep [] rfl rfl ⟨ks rfl (.c (Cto.nilE 3 (by first | (rw [hN]; rfl) | (rw [hN, hEz]; rfl)))), ks rfl (.dt (by first | exact congrArg (fun b => V.o (bo1 b)) hO.symm | exact congrArg (fun b => V.o (bo1 b)) (by rw [hO, hEz, decide_eq_decide]; simp) | exact congrArg (fun b => V.o (bo1 b)) (by rw [hO, hEz, decide_eq_decide]; omega))), trivial⟩) rfl ?_ nobox
     rfl
   ·skip
    refine .seq <| .region <| .cons (.ls rfl rfl rfl) <| .nil <| ks_n <| .seq ?_
    refine .cD rfl (fun h27 => ?_) (fun h27 => ?_)
    ·skip
     obtain ⟨q, hq1⟩ : ∃ x_, g.2[k]? = some x_ := ⟨_, List.getElem?_eq_getElem (by omega)⟩
     have hqm := List.mem_of_getElem? hq1
     have hqs := szO_mem (f := szPt) hqm
     have hqe : szPt q = szLs q.1 + szO szS q.2 := rfl
     have hbg := sz_bg (ns := q.1) (by omega)
     have hql := szO_len (f := szS) q.2
     refine .skip <| ks_n <| .seq <| .block <| .seq <| .region <| .cons (.mv rfl rfl) <| .cons (.xL 104 2 48 rfl rfl rfl rfl rfl) ?_
     refine .cons (.lN 2 rfl rfl rfl) <| .cons (.al 106 [.slice none 0 0, .slice none 0 0] rfl rfl rfl) <| .cons (.asg rfl rfl) <| .cons (.sT 2 true rfl rfl rfl rfl rfl rfl rfl) <| .nil <| ks_n <| .seq ?_
     refine .keep [(.t 1, .v (.o (.c (.ptr (rG g))))), (.t 4, .v (.o (.c (.own 770 3 (o.length))))), (.t 5, .v (.o (nat1 (k : Nat)))), (.t 6, .v (.o (.c (.ptr (rP q))))), (.t 24, .v (.o (vD (dPts g.2)))), (.t 25, .v (.o (nat1 (g.2.length : Nat)))), (.t 26, .v (.o (nat1 (k : Nat)))), (.b 770, .b 86 3 (dR (o.map rN))), (.u 770, .u)] [(770, 110)] ⟨ks rfl .dt, ks rfl (.c .ow), ks rfl .dt, ks rfl (.c (.frzP _ _ _ _ _ _ _ _ rfl (show _ = dR [rP q] from rfl) rfl rfl rfl)), ks rfl .dt, ks rfl .dt, ks rfl .dt, kb 110 rfl (.dt rfl (by first | rfl | (simp [dR, rN, dI]; done))), trivial⟩ ?_
     refine .region <| .cons (.fP 0 0 false rfl rfl) <| .cons (.l1 1 rfl rfl) <| .cons (.cP [.tmp 33] rfl rfl rfl rfl (implNestPts_B q.1 hbg) rfl) ?_
     refine .cons (.mv rfl rfl) <| .cons (.ex rfl rfl rfl) <| .cons (.ex rfl rfl rfl) <| .cons (.asg rfl rfl) <| .cons (.asg rfl rfl) <| .nil <| ks_n <| .seq <| .seq <| .region <| .cons (.mv rfl rfl) <| .cons (.nt rfl rfl) <| .cons (.mv rfl rfl) ?_
     refine AOps.cases 39 _ rfl (fun g39 => ?_) (fun g39 => ?_)
     ·try simp only [zs1, zs2, zs3, zs4, zs5, zs6, zs7] at g39
      refine .cons (.gF rfl rfl rfl) <| .cons (.gF rfl rfl rfl) <| .cons (.gF rfl rfl rfl) <| .cons (.gF rfl rfl rfl) <| .cons (.gF rfl rfl rfl) <| .cons (.pT rfl rfl rfl) <| .cons (.mv rfl rfl) <| .cons (.gF rfl rfl rfl) <| .cons (.gF rfl rfl rfl) <| .cons (.gF rfl rfl rfl) <| .cons (.gF rfl rfl rfl) <| .cons (.pT rfl rfl rfl) <| .nil <| ks_n ?_
      refine ACode.condT rfl (fun _ => ?_) (fun h => by first | (cases h; done) | (simp [*] at h; done) | (exfalso; simp_all; done))
      refine .seq ?_
      have hbad : prtV g.1 q = false := by first | exact prtV_f1 (by assumption) | exact prtV_f2 (fun h => by simp_all [inB]; omega) | (obtain ⟨s, hs, hs2⟩ := List.any_eq_true.1 (by assumption); exact prtV_f3 hs (by simpa using hs2))
      obtain ⟨hO, hN⟩ := prgV_f (g := g) (prgS_f3 hqm hbad)
      refine .region <| .cons (.asg rfl rfl) <| .cons (.asg rfl rfl) <| .nil <| ks_n <| .ret <| ks_r <| kb_r <| ks_r <| kl_r <| kb_r <| ks_r ?_
      refine kf_wret [(.t 2, .v (.o (vD (dNs (insV g))))), (.t 3, .v (.o (bo1 (prgV g))))] (Wk.keep [] rfl rfl ⟨ks rfl (.c (Cto.nilE 3 (by first | (rw [hN]; rfl) | (rw [hN, hEz]; rfl)))), ks rfl (.dt (by first | exact congrArg (fun b => V.o (bo1 b)) hO.symm | exact congrArg (fun b => V.o (bo1 b)) (by rw [hO, hEz, decide_eq_decide]; simp) | exact congrArg (fun b => V.o (bo1 b)) (by rw [hO, hEz, decide_eq_decide]; omega))), trivial⟩) rfl ?_ nobox
      rfl
     ·try simp only [zs1, zs2, zs3, zs4, zs5, zs6, zs7] at g39
      refine .cons (.gT rfl rfl rfl (.fP 1 0 false rfl rfl)) <| .cons (.gT rfl rfl rfl (.l1 1 rfl rfl)) <| .cons (.gT rfl rfl rfl (.ln 96 9 152 rfl rfl rfl)) <| .cons (.gT rfl rfl rfl (.cP [.tmp 42, .const (.int .i64 (1)), .const (.int .i64 (4))] rfl rfl rfl rfl (within_fn _ 1 4) rfl)) ?_
      refine .cons (.gT rfl rfl rfl (.nt rfl rfl)) <| .cons (.pF rfl rfl rfl) <| .cons (.mv rfl rfl) ?_
      refine AOps.cases 46 _ rfl (fun g46 => ?_) (fun g46 => ?_)
      ·try simp only [zs1, zs2, zs3, zs4, zs5, zs6, zs7] at g46
       refine .cons (.gF rfl rfl rfl) <| .cons (.gF rfl rfl rfl) <| .cons (.gF rfl rfl rfl) <| .cons (.gF rfl rfl rfl) <| .cons (.pT rfl rfl rfl) <| .nil <| ks_n ?_
       refine ACode.condT rfl (fun _ => ?_) (fun h => by first | (cases h; done) | (simp [*] at h; done) | (exfalso; simp_all; done))
       refine .seq ?_
       have hbad : prtV g.1 q = false := by first | exact prtV_f1 (by assumption) | exact prtV_f2 (fun h => by simp_all [inB]; omega) | (obtain ⟨s, hs, hs2⟩ := List.any_eq_true.1 (by assumption); exact prtV_f3 hs (by simpa using hs2))
       obtain ⟨hO, hN⟩ := prgV_f (g := g) (prgS_f3 hqm hbad)
       refine .region <| .cons (.asg rfl rfl) <| .cons (.asg rfl rfl) <| .nil <| ks_n <| .ret <| ks_r <| kb_r <| ks_r <| kl_r <| kb_r <| ks_r ?_
       refine kf_wret [(.t 2, .v (.o (vD (dNs (insV g))))), (.t 3, .v (.o (bo1 (prgV g))))] (Wk.keep [] rfl rfl ⟨ks rfl (.c (Cto.nilE 3 (by first | (rw [hN]; rfl) | (rw [hN, hEz]; rfl)))), ks rfl (.dt (by first | exact congrArg (fun b => V.o (bo1 b)) hO.symm | exact congrArg (fun b => V.o (bo1 b)) (by rw [hO, hEz, decide_eq_decide]; simp) | exact congrArg (fun b => V.o (bo1 b)) (by rw [hO, hEz, decide_eq_decide]; omega))), trivial⟩) rfl ?_ nobox
       rfl
      ·try simp only [zs1, zs2, zs3, zs4, zs5, zs6, zs7] at g46
       refine .cons (.gT rfl rfl rfl (.fP 1 0 false rfl rfl)) <| .cons (.gT rfl rfl rfl (.l1 1 rfl rfl)) <| .cons (.gT rfl rfl rfl (St1.makeFunc (xs := [.tmp 6]) rfl rfl rfl rfl rfl rfl rfl)) <| .cons (.gT rfl rfl rfl (.cP [.tmp 48, .tmp 49] rfl rfl rfl rfl (cnt_stm (f := 98) (cap := [rP q]) (by kernel_rfl) (fun s => !stmtV (q.1.length : Nat) s) q.2 (by omega) (fun s hs => ins1_fn (by have := szO_mem (f := szS) hs; omega))) rfl)) ?_
       refine .cons (.pF rfl rfl rfl) <| .nil <| ks_n ?_
       refine ACode.condT rfl (fun h51 => ?_) (fun h51 => ?_)
       ·try simp only [zs1, zs2, zs3, zs4, zs5, zs6, zs7] at h51
        refine .seq ?_
        have hbad : prtV g.1 q = false := by first | exact prtV_f1 (by assumption) | exact prtV_f2 (fun h => by simp_all [inB]; omega) | (obtain ⟨s, hs, hs2⟩ := List.any_eq_true.1 (by assumption); exact prtV_f3 hs (by simpa using hs2))
        obtain ⟨hO, hN⟩ := prgV_f (g := g) (prgS_f3 hqm hbad)
        refine .region <| .cons (.asg rfl rfl) <| .cons (.asg rfl rfl) <| .nil <| ks_n <| .ret <| ks_r <| kb_r <| ks_r <| kl_r <| kb_r <| ks_r ?_
        refine kf_wret [(.t 2, .v (.o (vD (dNs (insV g))))), (.t 3, .v (.o (bo1 (prgV g))))] (Wk.keep [] rfl rfl ⟨ks rfl (.c (Cto.nilE 3 (by first | (rw [hN]; rfl) | (rw [hN, hEz]; rfl)))), ks rfl (.dt (by first | exact congrArg (fun b => V.o (bo1 b)) hO.symm | exact congrArg (fun b => V.o (bo1 b)) (by rw [hO, hEz, decide_eq_decide]; simp) | exact congrArg (fun b => V.o (bo1 b)) (by rw [hO, hEz, decide_eq_decide]; omega))), trivial⟩) rfl ?_ nobox
        rfl
       ·try simp only [zs1, zs2, zs3, zs4, zs5, zs6, zs7] at h51
        have hv1 : okP q.1 = true := by first | assumption | simp_all
        have hv2 : 1 ≤ q.2.length ∧ q.2.length ≤ 4 := by simp_all [inB]; omega
        have hv3 : ∀ s ∈ q.2, stmtV (q.1.length : Nat) s = true := by simp_all
        refine .skip <| ks_n <| .seq <| .region <| .cons (.mv rfl rfl) <| .cons (.ln 35 1 24 rfl rfl rfl) <| .cons (.mv rfl rfl) <| .nil <| ks_n <| .block ?_
        refine .loopK (fun m σ => (∃ (i : Nat) (o2 : List Ins), m = (npR q.1).length - i ∧ (i ≤ (npR q.1).length) ∧ (∀ j p, j < i → (npR q.1)[j]? = some p → ptG' g.1 q.2 p = true) ∧ (o ++ insT k q.2.length ((npR q.1).take i) = o2) ∧ (o2.length ≤ 480 * k + 4 * i) ∧ σ = [(.t 1, .v (.o (.c (.ptr (rG g))))), (.t 4, .v (.o (.c (.own 120 3 (o2.length))))), (.t 5, .v (.o (nat1 (k : Nat)))), (.t 6, .v (.o (.c (.ptr (rP q))))), (.t 24, .v (.o (vD (dPts g.2)))), (.t 25, .v (.o (nat1 (g.2.length : Nat)))), (.t 26, .v (.o (nat1 (k : Nat)))), (.t 52, .v (.o (vD (dPs (npR q.1))))), (.t 53, .v (.o (nat1 ((npR q.1).length : Nat)))), (.t 54, .v (.o (nat1 (i : Nat)))), (.b 120, .b 86 3 (dR (o2.map rN))), (.u 120, .u)])) [(120, 770)] ⟨0, o, rfl, by omega, fun j p hj _ => absurd hj (by omega), by simp [insT], by omega, rfl⟩ ⟨ks rfl .dt, ks rfl (.c .ow), ks rfl .dt, ks rfl .dt, ks rfl .dt, ks rfl .dt, ks rfl .dt, ks rfl .dt, ks rfl .dt, ks rfl .dt, kb 770 rfl (.dt rfl (by first | rfl | (simp [dR, rN, dI]; done))), trivial⟩ ?_
        rintro m σ ⟨i, o2, hm0, hi, hG, hEo, ho2, rfl⟩
        refine .seq <| .region <| .cons (.ls rfl rfl rfl) <| .nil <| ks_n <| .seq ?_
        refine .cD rfl (fun h55 => ?_) (fun h55 => ?_)
        ·skip
         obtain ⟨p, hp1⟩ : ∃ x_, (npR q.1)[i]? = some x_ := ⟨_, List.getElem?_eq_getElem (by omega)⟩
         have hpm := List.mem_of_getElem? hp1
         have hpt := npR_pt hpm
         have hnl := npR_len q.1
         refine .skip <| ks_n <| .seq <| .block <| .seq <| .region <| .cons (.xL 35 1 24 rfl rfl rfl rfl rfl) ?_
         refine .cons (.l1 1 rfl rfl) <| .cons (.asg rfl rfl) <| .nil <| ks_n <| .seq <| .seq <| .region <| .cons (.mv rfl rfl) <| .cons (.cP [.tmp 58] rfl rfl rfl rfl (isPoint_fn _) rfl) ?_
         refine .cons (.nt rfl rfl) <| .nil <| ks_n ?_
         refine ACode.condT rfl (fun h60 => ?_) (fun h60 => ?_)
         ·try simp only [zs1, zs2, zs3, zs4, zs5, zs6, zs7] at h60
          refine .seq ?_
          obtain ⟨hO, hN⟩ := prgV_f (g := g) (prgS_f3 hqm (prtV_f4 hpm (by assumption)))
          refine .region <| .cons (.asg rfl rfl) <| .cons (.asg rfl rfl) <| .nil <| ks_n <| .ret <| ks_r <| kb_r <| ks_r <| kl_r <| kb_r <| kb_r <| ks_r <| kl_r <| kb_r <| ks_r ?_
          refine kf_wret [(.t 2, .v (.o (vD (dNs (insV g))))), (.t 3, .v (.o (bo1 (prgV g))))] (Wk.keep [] rfl rfl ⟨ks rfl (.c (Cto.nilE 3 (by first | (rw [hN]; rfl) | (rw [hN, hEz]; rfl)))), ks rfl (.dt (by first | exact congrArg (fun b => V.o (bo1 b)) hO.symm | exact congrArg (fun b => V.o (bo1 b)) (by rw [hO, hEz, decide_eq_decide]; simp) | exact congrArg (fun b => V.o (bo1 b)) (by rw [hO, hEz, decide_eq_decide]; omega))), trivial⟩) rfl ?_ nobox
          rfl
         ·try simp only [zs1, zs2, zs3, zs4, zs5, zs6, zs7] at h60
          refine .skip <| ks_n <| .seq <| .region <| .cons (.fP 1 0 false rfl rfl) <| .cons (.l1 1 rfl rfl) <| .cons (.ln 96 9 152 rfl rfl rfl) <| .cons (.mv rfl rfl) <| .nil <| ks_n <| .block ?_
          refine .loopK (fun m σ => (∃ (j : Nat) (o3 : List Ins), m = q.2.length - j ∧ (j ≤ q.2.length) ∧ (∀ t s, t < j → q.2[t]? = some s → stmG g.1 s p = true) ∧ (o2 ++ rowI k j p = o3) ∧ (o3.length ≤ 480 * k + 4 * i + j) ∧ σ = [(.t 1, .v (.o (.c (.ptr (rG g))))), (.t 4, .v (.o (.c (.own 130 3 (o3.length))))), (.t 5, .v (.o (nat1 (k : Nat)))), (.t 6, .v (.o (.c (.ptr (rP q))))), (.t 10, .v (.o (vD (dIs p)))), (.t 24, .v (.o (vD (dPts g.2)))), (.t 25, .v (.o (nat1 (g.2.length : Nat)))), (.t 26, .v (.o (nat1 (k : Nat)))), (.t 52, .v (.o (vD (dPs (npR q.1))))), (.t 53, .v (.o (nat1 ((npR q.1).length : Nat)))), (.t 54, .v (.o (nat1 (i : Nat)))), (.t 62, .v (.o (vD (dMs q.2)))), (.t 63, .v (.o (nat1 (q.2.length : Nat)))), (.t 64, .v (.o (nat1 (j : Nat)))), (.b 130, .b 86 3 (dR (o3.map rN))), (.u 130, .u)])) [(130, 120)] ⟨0, o2, rfl, by omega, fun t s ht _ => absurd ht (by omega), by simp [rowI_zero], by omega, rfl⟩ ⟨ks rfl .dt, ks rfl (.c .ow), ks rfl .dt, ks rfl .dt, ks rfl .dt, ks rfl .dt, ks rfl .dt, ks rfl .dt, ks rfl .dt, ks rfl .dt, ks rfl .dt, ks rfl .dt, ks rfl .dt, ks rfl .dt, kb 120 rfl (.dt rfl (by first | rfl | (simp [dR, rN, dI]; done))), trivial⟩ ?_
          rintro m σ ⟨j, o3, hm0, hj, hH, hEp, ho3, rfl⟩
          refine .seq <| .region <| .cons (.ls rfl rfl rfl) <| .nil <| ks_n <| .seq ?_
          refine .cD rfl (fun h65 => ?_) (fun h65 => ?_)
          ·skip
           obtain ⟨s, hs1⟩ : ∃ x_, q.2[j]? = some x_ := ⟨_, List.getElem?_eq_getElem (by omega)⟩
           have hsm := List.mem_of_getElem? hs1
           have hsv := hv3 s hsm
           refine .skip <| ks_n <| .seq <| .block <| .seq <| .region <| .cons (.mv rfl rfl) <| .cons (.xL 96 9 152 rfl rfl rfl rfl rfl) ?_
           refine .cons (.lN 9 rfl rfl rfl) <| .cons (.al 112 [.string ByteArray.empty, .slice none 0 0, .int .i64 0, .int .i64 0, .slice none 0 0, .int .i64 0, .string ByteArray.empty, .slice none 0 0, .slice none 0 0] rfl rfl rfl) <| .cons (.asg rfl rfl) <| .cons (.sT 9 true rfl rfl rfl rfl rfl rfl rfl) <| .nil <| ks_n <| .seq <| .seq <| .region <| .cons (.lN 2 rfl rfl rfl) <| .cons (.bN 9 rfl rfl rfl rfl rfl rfl) <| .cons (.mv rfl rfl) <| .cons (.cP [.tmp 69, .tmp 70, .tmp 71] rfl rfl rfl rfl (sok_fn hA hsv hpt.1 hpt.2) rfl) ?_
           refine .cons (.nt rfl rfl) <| .nil <| ks_n ?_
           refine ACode.condT rfl (fun h73 => ?_) (fun h73 => ?_)
           ·try simp only [zs1, zs2, zs3, zs4, zs5, zs6, zs7] at h73
            refine .seq ?_
            obtain ⟨hO, hN⟩ := prgV_f (g := g) (prgS_f3 hqm (prtV_f5 hpm hsm (by assumption)))
            refine .region <| .cons (.asg rfl rfl) <| .cons (.asg rfl rfl) <| .nil <| ks_n <| .ret <| ks_r <| kb_r <| ks_r <| kl_r <| kb_r <| kb_r <| ks_r <| kl_r <| kb_r <| kb_r <| ks_r <| kl_r <| kb_r <| ks_r ?_
            refine kf_wret [(.t 2, .v (.o (vD (dNs (insV g))))), (.t 3, .v (.o (bo1 (prgV g))))] (Wk.keep [] rfl rfl ⟨ks rfl (.c (Cto.nilE 3 (by first | (rw [hN]; rfl) | (rw [hN, hEz]; rfl)))), ks rfl (.dt (by first | exact congrArg (fun b => V.o (bo1 b)) hO.symm | exact congrArg (fun b => V.o (bo1 b)) (by rw [hO, hEz, decide_eq_decide]; simp) | exact congrArg (fun b => V.o (bo1 b)) (by rw [hO, hEz, decide_eq_decide]; omega))), trivial⟩) rfl ?_ nobox
            rfl
           ·try simp only [zs1, zs2, zs3, zs4, zs5, zs6, zs7] at h73
            have hST : stmG g.1 s p = true := by assumption
            refine .skip <| ks_n <| .region <| .cons (.mv rfl rfl) <| .cons (.mv rfl rfl) <| .cons (.mv rfl rfl) <| .cons (.mv rfl rfl) <| .cons (.cP [.tmp 77] rfl rfl rfl rfl (cloneInts_fn p (by omega)) rfl) ?_
            refine .cons (.bu [(0, .tmp 75), (1, .tmp 76), (2, .tmp 78)] [(0, 1), (1, 1), (2, 1)] [.int .i64 0, .int .i64 0, .slice none 0 0] rfl rfl rfl rfl rfl) <| .cons (.li 86 2 0 [.tmp 79] rfl rfl rfl rfl rfl rfl) <| .cons (St1.appB (k' := 181) (e := 86) (sz := 2) (by' := 40) rfl rfl rfl rfl rfl (by kernel_rfl) rfl rfl rfl rfl (by first | (simp [dR]; done) | (simp [dR]; omega)) (by first | (simp [dR]; done) | (simp [dR]; omega)) rfl rfl rfl) ?_
            refine .cons (.asg rfl rfl) <| .nil <| kb_n <| ks_n <| .region <| .cons (.pl rfl rfl rfl) <| .cons (.mv rfl rfl) <| .nil ?_
            refine kl_k [(130, 181)] ⟨j + 1, o3 ++ [((k : Int), ((j : Nat) : Int), p)], rfl, by omega, fun t s' ht hs' => (Nat.lt_succ_iff_lt_or_eq.1 ht).elim (fun h => hH t s' h hs') (fun h => by subst h; rw [hs1] at hs'; cases hs'; exact hST), by rw [rowI_snoc, ← List.append_assoc, hEp], by rw [List.length_append, List.length_singleton]; omega, rfl⟩ ⟨ks rfl .dt, ks rfl (.c .ow), ks rfl .dt, ks rfl .dt, ks rfl .dt, ks rfl .dt, ks rfl .dt, ks rfl .dt, ks rfl .dt, ks rfl .dt, ks rfl .dt, ks rfl .dt, ks rfl .dt, ks rfl .dt, kb 181 rfl (.dt rfl (by first | rfl | (simp [dR, rN, dI]; done))), trivial⟩
          ·skip
           obtain rfl : j = q.2.length := by omega
           have hPT : ptG' g.1 q.2 p = true := by rw [ptG', show isPt p = true by assumption, Bool.true_and]; exact all_of fun j s h => hH j s (List.getElem?_eq_some_iff.1 h).1 h
           refine .exit <| ks_e <| kl_e <| kb_hit <| kb_n <| ks_n <| .region <| .cons (.pl rfl rfl rfl) <| .cons (.mv rfl rfl) <| .nil ?_
           refine kl_k [(120, 130)] ⟨i + 1, o3, rfl, by omega, fun j p' hj hp' => (Nat.lt_succ_iff_lt_or_eq.1 hj).elim (fun h => hG j p' h hp') (fun h => by subst h; rw [hp1] at hp'; cases hp'; exact hPT), by rw [insT_take hp1, ← List.append_assoc, hEo]; exact hEp, by omega, rfl⟩ ⟨ks rfl .dt, ks rfl (.c .ow), ks rfl .dt, ks rfl .dt, ks rfl .dt, ks rfl .dt, ks rfl .dt, ks rfl .dt, ks rfl .dt, ks rfl .dt, kb 130 rfl (.dt rfl (by first | rfl | (simp [dR, rN, dI]; done))), trivial⟩
        ·skip
         obtain rfl : i = (npR q.1).length := by omega
         rw [List.take_length] at hEo
         have hPV : prtV g.1 q = true := by rw [prtV_eq hv1 hv2 (List.all_eq_true.2 hv3)]; exact all_of fun j p h => hG j p (List.getElem?_eq_some_iff.1 h).1 h
         have hnl := npR_len q.1
         refine .exit <| ks_e <| kl_e <| kb_hit <| kb_n <| ks_n <| .region <| .cons (.pl rfl rfl rfl) <| .cons (.mv rfl rfl) <| .nil ?_
         refine kl_k [(110, 120)] (.inr ⟨k + 1, o2, rfl, by omega, fun j q' hj hq' => (Nat.lt_succ_iff_lt_or_eq.1 hj).elim (fun h => hF j q' h hq') (fun h => by subst h; rw [hq1] at hq'; cases hq'; exact hPV), by rw [insG_take hq1, hE]; exact hEo, by omega, rfl⟩) ⟨ks rfl .dt, ks rfl (.c .ow), ks rfl .dt, ks rfl .dt, ks rfl .dt, kb 120 rfl (.dt rfl (by first | rfl | (simp [dR, rN, dI]; done))), trivial⟩
    ·skip
     obtain rfl : k = g.2.length := by omega
     rw [List.take_length] at hE
     have hEz := hE
     obtain ⟨hO, hN⟩ := prgV_t (prgS_eq hA h4 hF)
     refine .exit <| ks_e <| kl_e <| kb_hit <| ks_n <| .seq <| .region <| .cons (.mv rfl rfl) <| .cons (.mv rfl rfl) <| .cons (.lB 86 3 40 rfl rfl rfl rfl) <| .cons (.le rfl rfl rfl) <| .cons (.asg rfl rfl) <| .cons (.asg rfl rfl) <| .nil <| ks_n <| .ret ?_
     refine kf_wret [(.t 2, .v (.o (vD (dNs (insV g))))), (.t 3, .v (.o (bo1 (prgV g))))] (Wk.keep [] rfl rfl ⟨ks rfl (.c (.fz rfl (by first | (rw [hN, hEz]; done) | (rw [hN, hEz]; rfl)) (by rw [hN, hEz, List.length_map]) (by omega))), ks rfl (.dt (by first | exact congrArg (fun b => V.o (bo1 b)) hO.symm | exact congrArg (fun b => V.o (bo1 b)) (by rw [hO, hEz, decide_eq_decide]; simp) | exact congrArg (fun b => V.o (bo1 b)) (by rw [hO, hEz, decide_eq_decide]; omega))), trivial⟩) rfl ?_ nobox
     rfl
def clsV (ar : List Arr) (s : Stm) (p : List Int) : List Int := if stmG ar s p = true then (rdE s.2).map fun a => cellG a p ar 0 else []
def wrV (ar : List Arr) (s : Stm) (p : List Int) : Int := if stmG ar s p = true then cellG s.1 p ar 0 else 0
def cntP (ar : List Arr) (q : Prt) : Int := if prtV ar q = true then (((npR q.1).length * q.2.length : Nat) : Int) else 0
theorem cls_no {ar : List Arr} {s : Stm} {p : List Int} (h : stmG ar s p = false) : clsV ar s p = [] ∧ wrV ar s p = 0 := ⟨if_neg (by rw [h]; simp), if_neg (by rw [h]; simp)⟩
theorem cls_yes {ar : List Arr} {s : Stm} {p : List Int} (h : stmG ar s p = true) : clsV ar s p = (rdE s.2).map (fun a => cellG a p ar 0) ∧ wrV ar s p = cellG s.1 p ar 0 := ⟨if_pos h, if_pos h⟩
theorem accG_no {ar : List Arr} {p : List Int} {a : Acc} (h : cellG a p ar 0 < 0) : accG ar p a = false := decide_eq_false (by omega)
theorem accG_yes {ar : List Arr} {p : List Int} {a : Acc} (h : ¬ cellG a p ar 0 < 0) : accG ar p a = true := decide_eq_true (by omega)
theorem stmG_r {ar : List Arr} {s : Stm} {p : List Int} {a : Acc} (ha : a ∈ rdE s.2) (h : cellG a p ar 0 < 0) : stmG ar s p = false := Bool.eq_false_iff.2 fun h2 => by
  rw [stmG, Bool.and_eq_true] at h2
  have := List.all_eq_true.1 h2.2 a ha
  rw [accG_no h] at this; cases this
theorem stmG_w {ar : List Arr} {s : Stm} {p : List Int} (h : cellG s.1 p ar 0 < 0) : stmG ar s p = false := by rw [stmG, accG_no h]; rfl
theorem stmG_t {ar : List Arr} {s : Stm} {p : List Int} (h : ¬ cellG s.1 p ar 0 < 0) (h2 : ∀ (j : Nat) a, j < (rdE s.2).length → (rdE s.2)[j]? = some a → accG ar p a = true) : stmG ar s p = true := by
  rw [stmG, accG_yes h, Bool.true_and]
  exact all_of fun j a h => h2 j a (List.getElem?_eq_some_iff.1 h).1 h
theorem cntP_no {ar : List Arr} {q : Prt} (h : prtV ar q = false) : cntP ar q = 0 := if_neg (by rw [h]; simp)
theorem cntP_yes {ar : List Arr} {q : Prt} (h : prtV ar q = true) : cntP ar q = (((npR q.1).length * q.2.length : Nat) : Int) := if_pos h
theorem cntP_len {ar : List Arr} {q : Prt} (h : prtV ar q = true) (k : Nat) : cntP ar q = ((insP k q).length : Nat) ∧ (insP k q).length ≤ 480 := by
  obtain ⟨h1, h2⟩ := insP_len (k := k) (prtV_iff.1 h).2.1.2
  exact ⟨by rw [cntP_yes h, h1], h2⟩
theorem np_pts {ns : List Lp} (h : okP ns = true) : nsV ns = true ∧ npR ns = ptsF ns [] [] := by
  have hv := (okP_iff.1 h).1
  exact ⟨hv, (np_yes hv (fun h2 => by rw [np_no1 h2] at h; cases h) (fun h2 => by rw [np_no2 h2] at h; cases h)).2⟩

theorem l4Cells_fn {ar : List Arr} (hv : arrsV ar = true) {D : Int} {s : Stm} {p : List Int} (hs : stmtV D s = true) (hz : szS s ≤ 1073741824) (hS : Small p) (hn : p.length ≤ 4) : Fn Tryz.prog 88 [] [vD (dRs ar), ad (rS s), vD (dIs p)] (.tup [vD (dIs (clsV ar s p)), nat1 (wrV ar s p), bo1 (stmG ar s p)]) [] := by
  obtain ⟨ha, hr, hrl⟩ := stm_accs hs
  have hz2 : szE s.2 ≤ 1073741824 := by have : szS s = szC s.1 + szE s.2 := rfl; omega
  refine Fn.code0 Tryz.func88 rfl rfl rfl rfl ?_
  refine .seq <| .region <| .cons (St1.boxP rfl rfl rfl rfl rfl rfl) <| .cons (.asg rfl rfl) <| .cons (.asg rfl rfl) <| .cons (.asg rfl rfl) <| .nil <| ks_n <| .seq <| .region <| .cons (St1.lit0 (k' := 114) (e := 3) (sz := 1) (b := true) rfl rfl rfl rfl (by kernel_rfl) rfl rfl) ?_
  refine .cons (.asg rfl rfl) <| .nil <| ks_n <| .seq <| .region <| .cons (St1.lit0 (k' := 115) (e := 89) (sz := 2) (b := true) rfl rfl rfl rfl (by kernel_rfl) rfl rfl) ?_
  refine .cons (.fP 2 6 true rfl rfl) <| .cons (.lN 7 rfl rfl rfl) <| .cons (.cO [.tmp 15, .tmp 17] [(0, 115), (1000, 118)] rfl rfl rfl rfl (l3Reads_fn s.2 hz2 [] (by simp; omega)) rfl ⟨rfl, trivial⟩ (hbL_flat _ _) (hbL_flat _ _) (hbL_HB _ _) outS_one) ?_
  refine .cons (.asg rfl rfl) <| .nil <| ks_n <| .seq <| .seq <| .region <| .cons (.asg rfl rfl) <| .nil <| ks_n <| .block ?_
  refine .loopK (fun m σ => (∃ i : Nat, m = (rdE s.2).length - i ∧ (i ≤ (rdE s.2).length) ∧ (∀ j a, j < i → (rdE s.2)[j]? = some a → accG ar p a = true) ∧ σ = [(.t 0, .v (.o (vD (dRs ar)))), (.t 2, .v (.o (vD (dIs p)))), (.t 4, .v (.o (.c (.ptr (rS s))))), (.t 9, .v (.o (.c (.own 110 1 (i))))), (.t 10, .v (.o (vD (dCs (rdE s.2))))), (.t 11, .v (.o (nat1 (i : Nat)))), (.b 110, .b 3 1 (dR (((rdE s.2).take i).map fun a => rI (cellG a p ar 0)))), (.u 110, .u)])) [(110, 114)] ⟨0, rfl, by omega, fun j a hj _ => absurd hj (by omega), rfl⟩ ⟨ks rfl .dt, ks rfl .dt, ks rfl .dt, ks rfl (.c .ow), ks rfl (.c (.fz rfl rfl (by simp) (by simp; omega))), ks rfl .dt, kb 114 rfl (.dt rfl (by first | exact dR_take (fun a : Acc => rI (cellG a p ar 0)) hx1 | exact dR_take1 (fun a : Acc => rI (cellG a p ar 0)) hx1 | rfl | (simp [dR]; done))), trivial⟩ ?_
  rintro m σ ⟨i, hm0, hi, hF, rfl⟩
  refine .seq <| .seq <| .region <| .cons (.mv rfl rfl) <| .cons (.mv rfl rfl) <| .cons (.ln 89 2 40 rfl rfl rfl) <| .cons (.ls rfl rfl rfl) <| .nil <| ks_n ?_
  refine .cD rfl (fun h22 => ?_) (fun h22 => ?_)
  · skip
    obtain ⟨x, hx1⟩ : ∃ x_, (rdE s.2)[i]? = some x_ := ⟨_, List.getElem?_eq_getElem (by omega)⟩
    refine .skip <| ks_n <| .seq <| .block <| .seq <| .region <| .cons (.mv rfl rfl) <| .cons (.mv rfl rfl) <| .cons (.mv rfl rfl) <| .cons (.xL 89 2 40 rfl rfl rfl rfl rfl) ?_
    refine .cons (.lN 2 rfl rfl rfl) <| .cons (.mv rfl rfl) <| .cons (.cP [.tmp 25, .tmp 29, .tmp 30] rfl rfl rfl rfl (l4Cell_fn hv (hr x (List.mem_of_getElem? hx1)) hS hn) rfl) ?_
    refine .cons (.asg rfl rfl) <| .nil <| ks_n <| .seq <| .seq <| .region <| .cons (.mv rfl rfl) <| .cons (.ls rfl rfl rfl) <| .nil <| ks_n ?_
    refine .cD rfl (fun h33 => ?_) (fun h33 => ?_)
    · skip
      refine .seq ?_
      have hG := stmG_r (List.mem_of_getElem? hx1) h33
      obtain ⟨hC, hW⟩ := cls_no hG
      refine .region <| .cons (St1.lit0D (e := 3) (sz := 1) (b := true) rfl rfl rfl rfl (by kernel_rfl)) ?_
      refine .cons (.asg rfl rfl) <| .cons (.asg rfl rfl) <| .cons (.asg rfl rfl) <| .nil <| ks_n <| .ret <| ks_r <| kb_r <| ks_r <| kl_r <| kb_r <| ks_r ?_
      refine kf_wret [(.t 6, .v (.o (vD (dIs (clsV ar s p))))), (.t 7, .v (.o (nat1 (wrV ar s p)))), (.t 8, .v (.o (bo1 (stmG ar s p))))] (Wk.keep [] rfl rfl ⟨ks rfl (.dt (by rw [hC]; rfl)), ks rfl (.dt (by rw [hW])), ks rfl (.dt (by rw [hG])), trivial⟩) rfl ?_ nobox
      rfl
    · skip
      refine .skip <| ks_n <| .region <| .cons (.mv rfl rfl) <| .cons (.mv rfl rfl) <| .cons (.li 3 0 0 [.tmp 36] rfl rfl rfl rfl rfl rfl) <| .cons (St1.appB (k' := 138) (e := 3) (sz := 0) (by' := 8) rfl rfl rfl rfl rfl (by kernel_rfl) rfl rfl rfl rfl (by first | (simp [dR]; done) | (simp [dR]; omega)) (by first | (simp [dR]; done) | (simp [dR]; omega)) rfl rfl rfl) ?_
      refine .cons (.asg rfl rfl) <| .nil <| kb_n <| ks_n <| .region <| .cons (.mv rfl rfl) <| .cons (.pl rfl rfl rfl) <| .cons (.asg rfl rfl) <| .nil ?_
      refine kl_k [(110, 138)] ⟨i + 1, rfl, by omega, fun j a' hj h' => (Nat.lt_succ_iff_lt_or_eq.1 hj).elim (fun h => hF j a' h h') (fun h => by subst h; rw [hx1] at h'; cases h'; exact accG_yes h33), rfl⟩ ⟨ks rfl .dt, ks rfl .dt, ks rfl .dt, ks rfl (.c .ow), ks rfl .dt, ks rfl .dt, kb 138 rfl (.dt rfl (by first | exact dR_take (fun a : Acc => rI (cellG a p ar 0)) hx1 | exact dR_take1 (fun a : Acc => rI (cellG a p ar 0)) hx1 | rfl | (simp [dR]; done))), trivial⟩
  · skip
    obtain rfl : i = (rdE s.2).length := by omega
    refine .exit <| ks_e <| kl_e <| kb_hit <| ks_n <| .seq <| .region <| .cons (.mv rfl rfl) <| .cons (.fP 0 1 true rfl rfl) <| .cons (.lN 2 rfl rfl rfl) <| .cons (.mv rfl rfl) <| .cons (.cP [.tmp 39, .tmp 41, .tmp 42] rfl rfl rfl rfl (l4Cell_fn hv ha hS hn) rfl) ?_
    refine .cons (.asg rfl rfl) <| .nil <| ks_n <| .seq <| .seq <| .region <| .cons (.mv rfl rfl) <| .cons (.ls rfl rfl rfl) <| .nil <| ks_n ?_
    refine .cD rfl (fun h45 => ?_) (fun h45 => ?_)
    · skip
      refine .seq ?_
      have hG : stmG ar s p = false := stmG_w h45
      obtain ⟨hC, hW⟩ := cls_no hG
      refine .region <| .cons (St1.lit0D (e := 3) (sz := 1) (b := true) rfl rfl rfl rfl (by kernel_rfl)) ?_
      refine .cons (.asg rfl rfl) <| .cons (.asg rfl rfl) <| .cons (.asg rfl rfl) <| .nil <| ks_n <| .ret <| ks_r ?_
      refine kf_wret [(.t 6, .v (.o (vD (dIs (clsV ar s p))))), (.t 7, .v (.o (nat1 (wrV ar s p)))), (.t 8, .v (.o (bo1 (stmG ar s p))))] (Wk.keep [] rfl rfl ⟨ks rfl (.dt (by rw [hC]; rfl)), ks rfl (.dt (by rw [hW])), ks rfl (.dt (by rw [hG])), trivial⟩) rfl ?_ nobox
      rfl
    · skip
      refine .skip <| ks_n <| .seq ?_
      have hG := stmG_t h45 hF
      obtain ⟨hC, hW⟩ := cls_yes hG
      refine .region <| .cons (.mv rfl rfl) <| .cons (.mv rfl rfl) <| .cons (.asg rfl rfl) <| .cons (.asg rfl rfl) <| .cons (.asg rfl rfl) <| .nil <| ks_n <| .ret ?_
      refine kf_wret [(.t 6, .v (.o (vD (dIs (clsV ar s p))))), (.t 7, .v (.o (nat1 (wrV ar s p)))), (.t 8, .v (.o (bo1 (stmG ar s p))))] (Wk.keep [] rfl rfl ⟨ks rfl (.c (.fz rfl (by rw [hC]; first | rfl | (rw [List.take_length, List.map_map]; rfl)) (by rw [hC]; simp) (by omega))), ks rfl (.dt (by rw [hW])), ks rfl (.dt (by rw [hG])), trivial⟩) rfl ?_ nobox
      rfl

theorem l4Part_fn {ar : List Arr} (hv : arrsV ar = true) {q : Prt} (hs : szPt q ≤ 1073741824) : Fn Tryz.prog 87 [] [vD (dRs ar), ad (rP q)] (.tup [nat1 (cntP ar q), bo1 (prtV ar q)]) [] := by
 have hqe : szPt q = szLs q.1 + szO szS q.2 := rfl
 have hbg := sz_bg (ns := q.1) (by omega)
 have hql := szO_len (f := szS) q.2
 have hnl := npR_len q.1
 refine Fn.code0 Tryz.func87 rfl rfl rfl rfl ?_
 refine .seq <| .region <| .cons (St1.boxP rfl rfl rfl rfl rfl rfl) <| .cons (.asg rfl rfl) <| .cons (.asg rfl rfl) <| .nil <| ks_n <| .seq <| .region <| .cons (.fP 0 0 false rfl rfl) <| .cons (.l1 1 rfl rfl) <| .cons (.cP [.tmp 15] rfl rfl rfl rfl (specNestPts_B q.1 hbg) rfl) ?_
 refine .cons (.mv rfl rfl) <| .cons (.ex rfl rfl rfl) <| .cons (.ex rfl rfl rfl) <| .cons (.asg rfl rfl) <| .cons (.asg rfl rfl) <| .nil <| ks_n <| .seq <| .seq <| .region <| .cons (.mv rfl rfl) <| .cons (.nt rfl rfl) <| .cons (.mv rfl rfl) ?_
 refine AOps.cases 21 _ rfl (fun g21 => ?_) (fun g21 => ?_)
 ·try simp only [zs1, zs2, zs3, zs4, zs5, zs6, zs7] at g21
  refine .cons (.gF rfl rfl rfl) <| .cons (.gF rfl rfl rfl) <| .cons (.gF rfl rfl rfl) <| .cons (.gF rfl rfl rfl) <| .cons (.pT rfl rfl rfl) <| .cons (.mv rfl rfl) <| .cons (.gF rfl rfl rfl) <| .cons (.gF rfl rfl rfl) <| .cons (.gF rfl rfl rfl) <| .cons (.gF rfl rfl rfl) <| .cons (.pT rfl rfl rfl) <| .nil <| ks_n ?_
  refine ACode.condT rfl (fun _ => ?_) (fun h => by first | (cases h; done) | (simp [*] at h; done) | (exfalso; simp_all; done))
  refine .seq ?_
  have hP : prtV ar q = false := by first | exact prtV_f1 (by assumption) | exact prtV_f2 (by omega)
  have hC := cntP_no hP
  refine .region <| .cons (.asg rfl rfl) <| .cons (.asg rfl rfl) <| .nil <| ks_n <| .ret <| ks_r ?_
  refine kf_wret [(.t 4, .v (.o (nat1 (cntP ar q)))), (.t 5, .v (.o (bo1 (prtV ar q))))] (Wk.keep [] rfl rfl ⟨ks rfl (.dt (by first | (rw [hC]; done) | (rw [hC]; rfl) | (rw [hC]; exact congrArg (fun z => V.o (nat1 z)) (by rw [Int.natCast_mul])))), ks rfl (.dt (by rw [hP])), trivial⟩) rfl ?_ nobox
  rfl
 ·try simp only [zs1, zs2, zs3, zs4, zs5, zs6, zs7] at g21
  refine .cons (.gT rfl rfl rfl (.fP 1 0 false rfl rfl)) <| .cons (.gT rfl rfl rfl (.l1 1 rfl rfl)) <| .cons (.gT rfl rfl rfl (.ln 96 9 152 rfl rfl rfl)) <| .cons (.gT rfl rfl rfl (.ls rfl rfl rfl)) <| .cons (.pF rfl rfl rfl) <| .cons (.mv rfl rfl) ?_
  refine AOps.cases 27 _ rfl (fun g27 => ?_) (fun g27 => ?_)
  ·try simp only [zs1, zs2, zs3, zs4, zs5, zs6, zs7] at g27
   refine .cons (.gF rfl rfl rfl) <| .cons (.gF rfl rfl rfl) <| .cons (.gF rfl rfl rfl) <| .cons (.gF rfl rfl rfl) <| .cons (.pT rfl rfl rfl) <| .nil <| ks_n ?_
   refine ACode.condT rfl (fun _ => ?_) (fun h => by first | (cases h; done) | (simp [*] at h; done) | (exfalso; simp_all; done))
   refine .seq ?_
   have hP : prtV ar q = false := by first | exact prtV_f1 (by assumption) | exact prtV_f2 (by omega)
   have hC := cntP_no hP
   refine .region <| .cons (.asg rfl rfl) <| .cons (.asg rfl rfl) <| .nil <| ks_n <| .ret <| ks_r ?_
   refine kf_wret [(.t 4, .v (.o (nat1 (cntP ar q)))), (.t 5, .v (.o (bo1 (prtV ar q))))] (Wk.keep [] rfl rfl ⟨ks rfl (.dt (by first | (rw [hC]; done) | (rw [hC]; rfl) | (rw [hC]; exact congrArg (fun z => V.o (nat1 z)) (by rw [Int.natCast_mul])))), ks rfl (.dt (by rw [hP])), trivial⟩) rfl ?_ nobox
   rfl
  ·try simp only [zs1, zs2, zs3, zs4, zs5, zs6, zs7] at g27
   refine .cons (.gT rfl rfl rfl (.fP 1 0 false rfl rfl)) <| .cons (.gT rfl rfl rfl (.l1 1 rfl rfl)) <| .cons (.gT rfl rfl rfl (.ln 96 9 152 rfl rfl rfl)) <| .cons (.gT rfl rfl rfl (.gt rfl rfl rfl)) <| .cons (.pF rfl rfl rfl) <| .nil <| ks_n ?_
   refine ACode.condT rfl (fun h32 => ?_) (fun h32 => ?_)
   ·try simp only [zs1, zs2, zs3, zs4, zs5, zs6, zs7] at h32
    refine .seq ?_
    have hP : prtV ar q = false := by first | exact prtV_f1 (by assumption) | exact prtV_f2 (by omega)
    have hC := cntP_no hP
    refine .region <| .cons (.asg rfl rfl) <| .cons (.asg rfl rfl) <| .nil <| ks_n <| .ret <| ks_r ?_
    refine kf_wret [(.t 4, .v (.o (nat1 (cntP ar q)))), (.t 5, .v (.o (bo1 (prtV ar q))))] (Wk.keep [] rfl rfl ⟨ks rfl (.dt (by first | (rw [hC]; done) | (rw [hC]; rfl) | (rw [hC]; exact congrArg (fun z => V.o (nat1 z)) (by rw [Int.natCast_mul])))), ks rfl (.dt (by rw [hP])), trivial⟩) rfl ?_ nobox
    rfl
   ·try simp only [zs1, zs2, zs3, zs4, zs5, zs6, zs7] at h32
    have hv1 : okP q.1 = true := by first | assumption | simp_all
    have hv2 : 1 ≤ q.2.length ∧ q.2.length ≤ 4 := by omega
    have hmb := Nat.mul_le_mul hnl hv2.2
    refine .skip <| ks_n <| .seq <| .seq <| .region <| .cons (.asg rfl rfl) <| .nil <| ks_n <| .block ?_
    refine .loopK (fun m σ => (∃ i : Nat, m = q.2.length - i ∧ (i ≤ q.2.length) ∧ (∀ j s, j < i → q.2[j]? = some s → stmtV (q.1.length : Nat) s = true ∧ ∀ p ∈ npR q.1, stmG ar s p = true ∧ isPt p = true) ∧ σ = [(.t 0, .v (.o (vD (dRs ar)))), (.t 3, .v (.o (.c (.ptr (rP q))))), (.t 6, .v (.o (vD (dPs (npR q.1))))), (.t 8, .v (.o (nat1 (i : Nat))))])) [] ⟨0, rfl, by omega, fun j s hj _ => absurd hj (by omega), rfl⟩ ⟨ks rfl .dt, ks rfl .dt, ks rfl .dt, ks rfl .dt, trivial⟩ ?_
    rintro m σ ⟨i, hm0, hi, hF, rfl⟩
    refine .seq <| .seq <| .region <| .cons (.mv rfl rfl) <| .cons (.fP 1 0 false rfl rfl) <| .cons (.l1 1 rfl rfl) <| .cons (.ln 96 9 152 rfl rfl rfl) <| .cons (.ls rfl rfl rfl) <| .nil <| ks_n ?_
    refine .cD rfl (fun h37 => ?_) (fun h37 => ?_)
    ·skip
     obtain ⟨s, hs1⟩ : ∃ x_, q.2[i]? = some x_ := ⟨_, List.getElem?_eq_getElem (by omega)⟩
     have hsm := List.mem_of_getElem? hs1
     have hss := szO_mem (f := szS) hsm
     refine .skip <| ks_n <| .seq <| .block <| .seq <| .seq ?_
     refine ACode.drawK (by kernel_rfl) (by kernel_rfl) ?_
     refine .cons (.fP 1 0 false rfl rfl) <| .cons (.l1 1 rfl rfl) <| .cons (.mv rfl rfl) <| .cons (.xL 96 9 152 rfl rfl rfl rfl rfl) ?_
     refine .cons (.lN 9 rfl rfl rfl) <| .cons (.fP 0 0 false rfl rfl) <| .cons (.l1 1 rfl rfl) <| .cons (.ln 172 2 48 rfl rfl rfl) <| .cons (.cP [.tmp 44, .tmp 47] rfl rfl rfl rfl (specStmtV_fn (q.1.length : Nat) s (by omega)) rfl) ?_
     refine .cons (.nt rfl rfl) ?_
     refine .nil ⟨by kernel_rfl, ?_⟩
     refine ks_n ?_
     refine ACode.condT rfl (fun h49 => ?_) (fun h49 => ?_)
     ·try simp only [zs1, zs2, zs3, zs4, zs5, zs6, zs7] at h49
      refine .seq ?_
      have hP := prtV_f3 (ar := ar) hsm (by assumption)
      have hC := cntP_no hP
      refine .region <| .cons (.asg rfl rfl) <| .cons (.asg rfl rfl) <| .nil <| ks_n <| .ret <| ks_r <| kb_r <| ks_r <| kl_r <| kb_r <| ks_r ?_
      refine kf_wret [(.t 4, .v (.o (nat1 (cntP ar q)))), (.t 5, .v (.o (bo1 (prtV ar q))))] (Wk.keep [] rfl rfl ⟨ks rfl (.dt (by first | (rw [hC]; done) | (rw [hC]; rfl) | (rw [hC]; exact congrArg (fun z => V.o (nat1 z)) (by rw [Int.natCast_mul])))), ks rfl (.dt (by rw [hP])), trivial⟩) rfl ?_ nobox
      rfl
     ·try simp only [zs1, zs2, zs3, zs4, zs5, zs6, zs7] at h49
      have hsv : stmtV (q.1.length : Nat) s = true := by assumption
      refine .skip <| ks_n <| .seq <| .region <| .cons (.asg rfl rfl) <| .nil <| ks_n <| .block ?_
      refine .loopK (fun m σ => (∃ k : Nat, m = (npR q.1).length - k ∧ (k ≤ (npR q.1).length) ∧ (∀ j p, j < k → (npR q.1)[j]? = some p → stmG ar s p = true ∧ isPt p = true) ∧ σ = [(.t 0, .v (.o (vD (dRs ar)))), (.t 3, .v (.o (.c (.ptr (rP q))))), (.t 6, .v (.o (vD (dPs (npR q.1))))), (.t 8, .v (.o (nat1 (i : Nat)))), (.t 9, .v (.o (nat1 (k : Nat))))])) [] ⟨0, rfl, by omega, fun j p hj _ => absurd hj (by omega), rfl⟩ ⟨ks rfl .dt, ks rfl .dt, ks rfl .dt, ks rfl .dt, ks rfl .dt, trivial⟩ ?_
      rintro m σ ⟨k, hm0, hk, hG, rfl⟩
      refine .seq <| .seq <| .region <| .cons (.mv rfl rfl) <| .cons (.mv rfl rfl) <| .cons (.ln 35 1 24 rfl rfl rfl) <| .cons (.ls rfl rfl rfl) <| .nil <| ks_n ?_
      refine .cD rfl (fun h53 => ?_) (fun h53 => ?_)
      ·skip
       obtain ⟨p, hp1⟩ : ∃ x_, (npR q.1)[k]? = some x_ := ⟨_, List.getElem?_eq_getElem (by omega)⟩
       have hpm := List.mem_of_getElem? hp1
       have hpt := npR_pt hpm
       refine .skip <| ks_n <| .seq <| .block <| .seq ?_
       refine ACode.drawK (by kernel_rfl) (by kernel_rfl) ?_
       refine .cons (.mv rfl rfl) <| .cons (.fP 1 0 false rfl rfl) <| .cons (.l1 1 rfl rfl) <| .cons (.mv rfl rfl) <| .cons (.xL 96 9 152 rfl rfl rfl rfl rfl) ?_
       refine .cons (.lN 9 rfl rfl rfl) <| .cons (.mv rfl rfl) <| .cons (.mv rfl rfl) <| .cons (.xL 35 1 24 rfl rfl rfl rfl rfl) ?_
       refine .cons (.l1 1 rfl rfl) <| .cons (.cP [.tmp 57, .tmp 62, .tmp 66] rfl rfl rfl rfl (l4Cells_fn hv hsv (by omega) hpt.1 hpt.2) rfl) ?_
       refine .cons (.mv rfl rfl) <| .cons (.ex rfl rfl rfl) <| .cons (.ex rfl rfl rfl) <| .cons (.ex rfl rfl rfl) <| .cons (.asg rfl rfl) <| .cons (.asg rfl rfl) <| .cons (.asg rfl rfl) ?_
       refine .nil ⟨by kernel_rfl, ?_⟩
       refine ks_n <| .seq <| .region <| .cons (.mv rfl rfl) <| .cons (.nt rfl rfl) <| .cons (.mv rfl rfl) ?_
       refine AOps.cases 73 _ rfl (fun g73 => ?_) (fun g73 => ?_)
       ·try simp only [zs1, zs2, zs3, zs4, zs5, zs6, zs7] at g73
        refine .cons (.gF rfl rfl rfl) <| .cons (.gF rfl rfl rfl) <| .cons (.gF rfl rfl rfl) <| .cons (.gF rfl rfl rfl) <| .cons (.gF rfl rfl rfl) <| .cons (.gF rfl rfl rfl) <| .cons (.pT rfl rfl rfl) <| .nil <| ks_n ?_
        refine ACode.condT rfl (fun _ => ?_) (fun h => by first | (cases h; done) | (simp [*] at h; done) | (exfalso; simp_all; done))
        refine .seq ?_
        have hP : prtV ar q = false := by first | exact prtV_f5 hpm hsm (by assumption) | exact prtV_f4 hpm (by assumption)
        have hC := cntP_no hP
        refine .region <| .cons (.asg rfl rfl) <| .cons (.asg rfl rfl) <| .nil <| ks_n <| .ret <| kb_r <| ks_r <| kl_r <| kb_r <| kb_r <| ks_r <| kl_r <| kb_r <| ks_r ?_
        refine kf_wret [(.t 4, .v (.o (nat1 (cntP ar q)))), (.t 5, .v (.o (bo1 (prtV ar q))))] (Wk.keep [] rfl rfl ⟨ks rfl (.dt (by first | (rw [hC]; done) | (rw [hC]; rfl) | (rw [hC]; exact congrArg (fun z => V.o (nat1 z)) (by rw [Int.natCast_mul])))), ks rfl (.dt (by rw [hP])), trivial⟩) rfl ?_ nobox
        rfl
       ·try simp only [zs1, zs2, zs3, zs4, zs5, zs6, zs7] at g73
        refine .cons (.gT rfl rfl rfl (.mv rfl rfl)) <| .cons (.gT rfl rfl rfl (.mv rfl rfl)) <| .cons (.gT rfl rfl rfl (.xL 35 1 24 rfl rfl rfl rfl rfl)) ?_
        refine .cons (.gT rfl rfl rfl (.l1 1 rfl rfl)) <| .cons (.gT rfl rfl rfl (.cP [.tmp 77] rfl rfl rfl rfl (l1Point_fn _) rfl)) ?_
        refine .cons (.gT rfl rfl rfl (.nt rfl rfl)) <| .cons (.pF rfl rfl rfl) <| .nil <| ks_n ?_
        refine ACode.condT rfl (fun h80 => ?_) (fun h80 => ?_)
        ·try simp only [zs1, zs2, zs3, zs4, zs5, zs6, zs7] at h80
         refine .seq ?_
         have hP : prtV ar q = false := by first | exact prtV_f5 hpm hsm (by assumption) | exact prtV_f4 hpm (by assumption)
         have hC := cntP_no hP
         refine .region <| .cons (.asg rfl rfl) <| .cons (.asg rfl rfl) <| .nil <| ks_n <| .ret <| kb_r <| ks_r <| kl_r <| kb_r <| kb_r <| ks_r <| kl_r <| kb_r <| ks_r ?_
         refine kf_wret [(.t 4, .v (.o (nat1 (cntP ar q)))), (.t 5, .v (.o (bo1 (prtV ar q))))] (Wk.keep [] rfl rfl ⟨ks rfl (.dt (by first | (rw [hC]; done) | (rw [hC]; rfl) | (rw [hC]; exact congrArg (fun z => V.o (nat1 z)) (by rw [Int.natCast_mul])))), ks rfl (.dt (by rw [hP])), trivial⟩) rfl ?_ nobox
         rfl
        ·try simp only [zs1, zs2, zs3, zs4, zs5, zs6, zs7] at h80
         have hSG : stmG ar s p = true := by first | assumption | simp_all
         have hPT : isPt p = true := by first | assumption | simp_all
         refine .skip <| kb_n <| ks_n <| .region <| .cons (.mv rfl rfl) <| .cons (.pl rfl rfl rfl) <| .cons (.asg rfl rfl) <| .nil ?_
         refine kl_k [] ⟨k + 1, rfl, by omega, fun j p' hj h' => (Nat.lt_succ_iff_lt_or_eq.1 hj).elim (fun h => hG j p' h h') (fun h => by subst h; rw [hp1] at h'; cases h'; exact ⟨hSG, hPT⟩), rfl⟩ ⟨ks rfl .dt, ks rfl .dt, ks rfl .dt, ks rfl .dt, ks rfl .dt, trivial⟩
      ·skip
       have hAll : ∀ p ∈ npR q.1, stmG ar s p = true ∧ isPt p = true := fun p hp => by obtain ⟨j, hj⟩ := List.mem_iff_getElem?.1 hp; exact hG j p (by have := (List.getElem?_eq_some_iff.1 hj).1; omega) hj
       refine .exit <| ks_e <| kl_e <| kb_hit <| kb_n <| ks_n <| .region <| .cons (.mv rfl rfl) <| .cons (.pl rfl rfl rfl) <| .cons (.asg rfl rfl) <| .nil ?_
       refine kl_k [] ⟨i + 1, rfl, by omega, fun j s' hj h' => (Nat.lt_succ_iff_lt_or_eq.1 hj).elim (fun h => hF j s' h h') (fun h => by subst h; rw [hs1] at h'; cases h'; exact ⟨hsv, hAll⟩), rfl⟩ ⟨ks rfl .dt, ks rfl .dt, ks rfl .dt, ks rfl .dt, trivial⟩
    ·skip
     have hP : prtV ar q = true := prtV_iff.2 ⟨hv1, hv2, fun s hs => by obtain ⟨j, hj⟩ := List.mem_iff_getElem?.1 hs; exact (hF j s (by have := (List.getElem?_eq_some_iff.1 hj).1; omega) hj).1, fun p hp => ⟨by obtain ⟨s, hs⟩ : ∃ s, q.2[0]? = some s := ⟨_, List.getElem?_eq_getElem (by omega)⟩; exact ((hF 0 s (by omega) hs).2 p hp).2, fun s hs => by obtain ⟨j, hj⟩ := List.mem_iff_getElem?.1 hs; exact ((hF j s (by have := (List.getElem?_eq_some_iff.1 hj).1; omega) hj).2 p hp).1⟩⟩
     have hC := cntP_yes hP
     refine .exit <| ks_e <| kl_e <| kb_hit <| ks_n <| .seq <| .region <| .cons (.mv rfl rfl) <| .cons (.ln 35 1 24 rfl rfl rfl) <| .cons (.fP 1 0 false rfl rfl) <| .cons (.l1 1 rfl rfl) <| .cons (.ln 96 9 152 rfl rfl rfl) <| .cons (.ml rfl rfl rfl (by omega)) ?_
     refine .cons (.asg rfl rfl) <| .cons (.asg rfl rfl) <| .nil <| ks_n <| .ret ?_
     refine kf_wret [(.t 4, .v (.o (nat1 (cntP ar q)))), (.t 5, .v (.o (bo1 (prtV ar q))))] (Wk.keep [] rfl rfl ⟨ks rfl (.dt (by first | (rw [hC]; done) | (rw [hC]; rfl) | (rw [hC]; exact congrArg (fun z => V.o (nat1 z)) (by rw [Int.natCast_mul])))), ks rfl (.dt (by rw [hP])), trivial⟩) rfl ?_ nobox
     rfl

theorem specPV_fn {g : Prg} (hs : szG g ≤ 1073741824) : Fn Tryz.prog 50 [] [ad (rG g)] (.o (bo1 (prgV g))) [] := by
 have h1 := szO_len (f := szR) g.1
 have h2 := szO_len (f := szPt) g.2
 have hsz : szG g = szO szR g.1 + szO szPt g.2 := rfl
 refine Fn.code0 Tryz.func50 rfl rfl rfl rfl ?_
 refine .seq <| .region <| .cons (St1.boxP rfl rfl rfl rfl rfl rfl) <| .cons (.asg rfl rfl) <| .nil <| ks_n <| .seq <| .seq <| .region <| .cons (.fP 0 0 false rfl rfl) <| .cons (.l1 1 rfl rfl) <| .cons (.cP [.tmp 8] rfl rfl rfl rfl (l4Arrays_fn g.1 (by omega) (fun x hx => by have := szO_mem (f := szR) hx; have e : szR x = x.1.size + x.2.length := rfl; omega)) rfl) ?_
 refine .cons (.nt rfl rfl) <| .cons (.mv rfl rfl) ?_
 refine AOps.cases 11 _ rfl (fun g11 => ?_) (fun g11 => ?_)
 ·try simp only [zs1, zs2, zs3, zs4, zs5, zs6, zs7] at g11
  refine .cons (.gF rfl rfl rfl) <| .cons (.gF rfl rfl rfl) <| .cons (.gF rfl rfl rfl) <| .cons (.gF rfl rfl rfl) <| .cons (.pT rfl rfl rfl) <| .nil <| ks_n ?_
  refine ACode.condT rfl (fun _ => ?_) (fun h => by first | (cases h; done) | (simp [*] at h; done) | (exfalso; simp_all; done))
  refine .seq ?_
  obtain ⟨hO, hN⟩ := prgV_f (g := g) (by first | exact prgS_f2 (show ¬ g.2.length ≤ 4 by omega) | exact prgS_f1 (by assumption))
  refine .region <| .cons (.asg rfl rfl) <| .nil <| ks_n <| .ret <| ks_r ?_
  refine kf_ret rfl ?_ nobox
  exact leafB (by rw [hO]; try (rw [decide_eq_decide]; omega))
 ·try simp only [zs1, zs2, zs3, zs4, zs5, zs6, zs7] at g11
  refine .cons (.gT rfl rfl rfl (.fP 1 0 false rfl rfl)) <| .cons (.gT rfl rfl rfl (.l1 1 rfl rfl)) <| .cons (.gT rfl rfl rfl (.ln 104 2 48 rfl rfl rfl)) <| .cons (.gT rfl rfl rfl (.gt rfl rfl rfl)) <| .cons (.pF rfl rfl rfl) <| .nil <| ks_n ?_
  refine ACode.condT rfl (fun h16 => ?_) (fun h16 => ?_)
  ·try simp only [zs1, zs2, zs3, zs4, zs5, zs6, zs7] at h16
   refine .seq ?_
   obtain ⟨hO, hN⟩ := prgV_f (g := g) (by first | exact prgS_f2 (show ¬ g.2.length ≤ 4 by omega) | exact prgS_f1 (by assumption))
   refine .region <| .cons (.asg rfl rfl) <| .nil <| ks_n <| .ret <| ks_r ?_
   refine kf_ret rfl ?_ nobox
   exact leafB (by rw [hO]; try (rw [decide_eq_decide]; omega))
  ·try simp only [zs1, zs2, zs3, zs4, zs5, zs6, zs7] at h16
   have hA : arrsV g.1 = true := by first | assumption | simp_all
   have h4 : g.2.length ≤ 4 := by omega
   refine .skip <| ks_n <| .seq <| .region <| .cons (.asg rfl rfl) <| .nil <| ks_n <| .seq <| .seq <| .region <| .cons (.asg rfl rfl) <| .nil <| ks_n <| .block ?_
   refine .loopK (fun m σ => (∃ (k : Nat) (t : Int), m = g.2.length - k ∧ (k ≤ g.2.length) ∧ (∀ j q, j < k → g.2[j]? = some q → prtV g.1 q = true) ∧ (t = ((insG 0 (g.2.take k)).length : Nat)) ∧ (0 ≤ t ∧ t ≤ 480 * k) ∧ σ = [(.t 1, .v (.o (.c (.ptr (rG g))))), (.t 2, .v (.o (bo1 false))), (.t 3, .v (.o (nat1 t))), (.t 4, .v (.o (nat1 (k : Nat))))])) [] ⟨0, 0, rfl, by omega, fun j q hj _ => absurd hj (by omega), rfl, by omega, rfl⟩ ⟨ks rfl .dt, ks rfl .dt, ks rfl .dt, ks rfl .dt, trivial⟩ ?_
   rintro m σ ⟨k, t, hm0, hk, hF, hT, hb, rfl⟩
   refine .seq <| .seq <| .region <| .cons (.mv rfl rfl) <| .cons (.fP 1 0 false rfl rfl) <| .cons (.l1 1 rfl rfl) <| .cons (.ln 104 2 48 rfl rfl rfl) <| .cons (.ls rfl rfl rfl) <| .nil <| ks_n ?_
   refine .cD rfl (fun h21 => ?_) (fun h21 => ?_)
   ·skip
    obtain ⟨q, hq1⟩ : ∃ x_, g.2[k]? = some x_ := ⟨_, List.getElem?_eq_getElem (by omega)⟩
    have hqm := List.mem_of_getElem? hq1
    have hqs := szO_mem (f := szPt) hqm
    refine .skip <| ks_n <| .seq <| .block <| .seq ?_
    refine ACode.drawK (by kernel_rfl) (by kernel_rfl) ?_
    refine .cons (.fP 0 0 false rfl rfl) <| .cons (.l1 1 rfl rfl) <| .cons (.fP 1 0 false rfl rfl) <| .cons (.l1 1 rfl rfl) <| .cons (.mv rfl rfl) <| .cons (.xL 104 2 48 rfl rfl rfl rfl rfl) ?_
    refine .cons (.lN 2 rfl rfl rfl) <| .cons (.cP [.tmp 26, .tmp 31] rfl rfl rfl rfl (l4Part_fn hA (by omega)) rfl) ?_
    refine .cons (.mv rfl rfl) <| .cons (.ex rfl rfl rfl) <| .cons (.ex rfl rfl rfl) <| .cons (.asg rfl rfl) <| .cons (.asg rfl rfl) ?_
    refine .nil ⟨by kernel_rfl, ?_⟩
    refine ks_n <| .seq <| .seq <| .region <| .cons (.mv rfl rfl) <| .cons (.nt rfl rfl) <| .nil <| ks_n ?_
    refine ACode.condT rfl (fun h36 => ?_) (fun h36 => ?_)
    ·try simp only [zs1, zs2, zs3, zs4, zs5, zs6, zs7] at h36
     refine .seq ?_
     obtain ⟨hO, hN⟩ := prgV_f (prgS_f3 hqm (by assumption))
     refine .region <| .cons (.asg rfl rfl) <| .nil <| ks_n <| .ret <| ks_r <| kb_r <| ks_r <| kl_r <| kb_r <| ks_r ?_
     refine kf_ret rfl ?_ nobox
     exact leafB (by rw [hO]; try (rw [decide_eq_decide]; omega))
    ·try simp only [zs1, zs2, zs3, zs4, zs5, zs6, zs7] at h36
     have hPV : prtV g.1 q = true := by assumption
     have hcl := cntP_len hPV k
     refine .skip <| ks_n <| .region <| .cons (.mv rfl rfl) <| .cons (.mv rfl rfl) <| .cons (.pl rfl rfl rfl) <| .cons (.asg rfl rfl) <| .nil <| kb_n <| ks_n <| .region <| .cons (.mv rfl rfl) <| .cons (.pl rfl rfl rfl) <| .cons (.asg rfl rfl) <| .nil ?_
     refine kl_k [] ⟨k + 1, t + cntP g.1 q, rfl, by omega, fun j q' hj h' => (Nat.lt_succ_iff_lt_or_eq.1 hj).elim (fun h => hF j q' h h') (fun h => by subst h; rw [hq1] at h'; cases h'; exact hPV), by rw [insG_take hq1, List.length_append, hT, hcl.1]; omega, by omega, rfl⟩ ⟨ks rfl .dt, ks rfl .dt, ks rfl .dt, ks rfl .dt, trivial⟩
   ·skip
    obtain rfl : k = g.2.length := by omega
    rw [List.take_length] at hT
    obtain ⟨hO, hN⟩ := prgV_t (prgS_eq hA h4 hF)
    refine .exit <| ks_e <| kl_e <| kb_hit <| ks_n <| .seq <| .region <| .cons (.mv rfl rfl) <| .cons (.le rfl rfl rfl) <| .cons (.asg rfl rfl) <| .nil <| ks_n <| .ret ?_
    refine kf_ret rfl ?_ nobox
    exact leafB (by rw [hO]; try (rw [decide_eq_decide]; omega))

theorem l4Instances_fn {g : Prg} (hg : prgS g = true) : Fn Tryz.prog 69 [] [ad (rG g)] (.o (vD (dNs (insG 0 g.2)))) [] := by
  obtain ⟨hA, h4, hP⟩ := prgS_iff.1 hg
  refine Fn.code0 Tryz.func69 rfl rfl rfl rfl ?_
  refine .seq <| .region <| .cons (St1.boxP rfl rfl rfl rfl rfl rfl) <| .cons (.asg rfl rfl) <| .nil <| ks_n <| .seq <| .region <| .cons (St1.lit0 (k' := 108) (e := 86) (sz := 3) (b := true) rfl rfl rfl rfl (by kernel_rfl) rfl rfl) ?_
  refine .cons (.asg rfl rfl) <| .nil <| ks_n <| .seq <| .seq <| .region <| .cons (.asg rfl rfl) <| .nil <| ks_n <| .block ?_
  refine .loopK (fun m σ => (∃ (k : Nat) (o : List Ins), m = g.2.length - k ∧ (k ≤ g.2.length) ∧ (insG 0 (g.2.take k) = o) ∧ (o.length ≤ 480 * k) ∧ σ = [(.t 1, .v (.o (.c (.ptr (rG g))))), (.t 3, .v (.o (.c (.own 110 3 (o.length))))), (.t 4, .v (.o (nat1 (k : Nat)))), (.b 110, .b 86 3 (dR (o.map rN))), (.u 110, .u)])) [(110, 108)] ⟨0, [], rfl, by omega, rfl, by simp, rfl⟩ ⟨ks rfl .dt, ks rfl (.c .ow), ks rfl .dt, kb 108 rfl (.dt rfl (by first | rfl | (simp [dR, rN, dI]; done) | (simp [dR, rN, dI]; rfl))), trivial⟩ ?_
  rintro m σ ⟨k, o, hm0, hk, hE, ho, rfl⟩
  refine .seq <| .seq <| .region <| .cons (.mv rfl rfl) <| .cons (.fP 1 0 false rfl rfl) <| .cons (.l1 1 rfl rfl) <| .cons (.ln 104 2 48 rfl rfl rfl) <| .cons (.ls rfl rfl rfl) <| .nil <| ks_n ?_
  refine .cD rfl (fun h13 => ?_) (fun h13 => ?_)
  · skip
    obtain ⟨q, hq1⟩ : ∃ x_, g.2[k]? = some x_ := ⟨_, List.getElem?_eq_getElem (by omega)⟩
    have hqm := List.mem_of_getElem? hq1
    have hqv := prtV_iff.1 (hP q hqm)
    have hnp := np_pts hqv.1
    have hnl := npR_len q.1
    have hq4 := hqv.2.1
    refine .skip <| ks_n <| .seq <| .block <| .seq <| .region <| .cons (St1.lit0 (k' := 116) (e := 35) (sz := 1) (b := true) rfl rfl rfl rfl (by kernel_rfl) rfl rfl) ?_
    refine .cons (.fP 1 0 false rfl rfl) <| .cons (.l1 1 rfl rfl) <| .cons (.mv rfl rfl) <| .cons (.xL 104 2 48 rfl rfl rfl rfl rfl) ?_
    refine .cons (.fP 0 0 false rfl rfl) <| .cons (.l1 1 rfl rfl) <| .cons (.cO [.tmp 16, .tmp 22, .const (.slice none 0 0)] [(0, 116), (1000, 123)] rfl rfl rfl rfl (Fn.nilArg (pre := [.c (.own 0 1 0), vD (dLs q.1)]) (post := []) (sz := 1) (l2Points_fn hnp.1 q.1 [] [] rfl (by simp) PB.nil (by simp))) rfl (hbIn_one rfl) (hbPt_flat _ _) (hbPt_flat _ _) (hbPt_HB _ _) outS_one) ?_
    refine .cons (.asg rfl rfl) <| .nil <| ks_n <| .seq <| .region <| .cons (.asg rfl rfl) <| .nil <| ks_n <| .block ?_
    refine .loopK (fun m σ => (∃ (i : Nat) (o2 : List Ins), m = (npR q.1).length - i ∧ (i ≤ (npR q.1).length) ∧ (o ++ insT k q.2.length ((npR q.1).take i) = o2) ∧ (o2.length ≤ 480 * k + 4 * i) ∧ σ = [(.t 1, .v (.o (.c (.ptr (rG g))))), (.t 3, .v (.o (.c (.own 120 3 (o2.length))))), (.t 4, .v (.o (nat1 (k : Nat)))), (.t 5, .v (.o (vD (dPs (npR q.1))))), (.t 6, .v (.o (nat1 (i : Nat)))), (.b 120, .b 86 3 (dR (o2.map rN))), (.u 120, .u)])) [(120, 110)] ⟨0, o, rfl, by omega, by simp [insT], by omega, rfl⟩ ⟨ks rfl .dt, ks rfl (.c .ow), ks rfl .dt, ks rfl (.c (.fz rfl (by first | (rw [hnp.2]; done) | (rw [hnp.2]; rfl)) (by rw [hnp.2, List.length_map]) (by rw [← hnp.2]; omega))), ks rfl .dt, kb 110 rfl (.dt rfl (by first | rfl | (simp [dR, rN, dI]; done) | (simp [dR, rN, dI]; rfl))), trivial⟩ ?_
    rintro m σ ⟨i, o2, hm0, hi, hEo, ho2, rfl⟩
    refine .seq <| .seq <| .region <| .cons (.mv rfl rfl) <| .cons (.mv rfl rfl) <| .cons (.ln 35 1 24 rfl rfl rfl) <| .cons (.ls rfl rfl rfl) <| .nil <| ks_n ?_
    refine .cD rfl (fun h27 => ?_) (fun h27 => ?_)
    · skip
      obtain ⟨p, hp1⟩ : ∃ x_, (npR q.1)[i]? = some x_ := ⟨_, List.getElem?_eq_getElem (by omega)⟩
      have hpt := npR_pt (List.mem_of_getElem? hp1)
      refine .skip <| ks_n <| .seq <| .block <| .seq <| .region <| .cons (.asg rfl rfl) <| .nil <| ks_n <| .block ?_
      refine .loopK (fun m σ => (∃ (j : Nat) (o3 : List Ins), m = q.2.length - j ∧ (j ≤ q.2.length) ∧ (o2 ++ rowI k j p = o3) ∧ (o3.length ≤ 480 * k + 4 * i + j) ∧ σ = [(.t 1, .v (.o (.c (.ptr (rG g))))), (.t 3, .v (.o (.c (.own 130 3 (o3.length))))), (.t 4, .v (.o (nat1 (k : Nat)))), (.t 5, .v (.o (vD (dPs (npR q.1))))), (.t 6, .v (.o (nat1 (i : Nat)))), (.t 7, .v (.o (nat1 (j : Nat)))), (.b 130, .b 86 3 (dR (o3.map rN))), (.u 130, .u)])) [(130, 120)] ⟨0, o2, rfl, by omega, by simp [rowI_zero], by omega, rfl⟩ ⟨ks rfl .dt, ks rfl (.c .ow), ks rfl .dt, ks rfl .dt, ks rfl .dt, ks rfl .dt, kb 120 rfl (.dt rfl (by first | rfl | (simp [dR, rN, dI]; done) | (simp [dR, rN, dI]; rfl))), trivial⟩ ?_
      rintro m σ ⟨j, o3, hm0, hj, hEp, ho3, rfl⟩
      refine .seq <| .seq <| .region <| .cons (.mv rfl rfl) <| .cons (.fP 1 0 false rfl rfl) <| .cons (.l1 1 rfl rfl) <| .cons (.mv rfl rfl) <| .cons (.xL 104 2 48 rfl rfl rfl rfl rfl) ?_
      refine .cons (.fP 1 0 false rfl rfl) <| .cons (.l1 1 rfl rfl) <| .cons (.ln 96 9 152 rfl rfl rfl) <| .cons (.ls rfl rfl rfl) <| .nil <| ks_n ?_
      refine .cD rfl (fun h38 => ?_) (fun h38 => ?_)
      · skip
        refine .skip <| ks_n <| .seq <| .block <| .region <| .cons (.mv rfl rfl) <| .cons (.mv rfl rfl) <| .cons (.mv rfl rfl) <| .cons (St1.lit0 (k' := 144) (e := 3) (sz := 1) (b := true) rfl rfl rfl rfl (by kernel_rfl) rfl rfl) ?_
        refine .cons (.mv rfl rfl) <| .cons (.mv rfl rfl) <| .cons (.xL 35 1 24 rfl rfl rfl rfl rfl) ?_
        refine .cons (.l1 1 rfl rfl) <| .cons (St1.appD (rows := []) (e := 3) (sz := 0) (by' := 8) rfl rfl rfl rfl rfl (by kernel_rfl) rfl rfl rfl rfl (by simp) (by simp; omega) rfl) ?_
        refine .cons (.bu [(0, .tmp 42), (1, .tmp 43), (2, .tmp 49)] [(0, 1), (1, 1), (2, 1)] [.int .i64 0, .int .i64 0, .slice none 0 0] rfl rfl rfl rfl rfl) <| .cons (.li 86 2 0 [.tmp 50] rfl rfl rfl rfl rfl rfl) <| .cons (St1.appB (k' := 152) (e := 86) (sz := 2) (by' := 40) rfl rfl rfl rfl rfl (by kernel_rfl) rfl rfl rfl rfl (by first | (simp [dR]; done) | (simp [dR]; omega)) (by first | (simp [dR]; done) | (simp [dR]; omega)) rfl rfl rfl) ?_
        refine .cons (.asg rfl rfl) <| .nil <| kb_n <| ks_n <| .region <| .cons (.mv rfl rfl) <| .cons (.pl rfl rfl rfl) <| .cons (.asg rfl rfl) <| .nil ?_
        refine kl_k [(130, 152)] ⟨j + 1, o3 ++ [((k : Int), ((j : Nat) : Int), p)], rfl, by omega, by rw [rowI_snoc, ← List.append_assoc, hEp], by rw [List.length_append, List.length_singleton]; omega, rfl⟩ ⟨ks rfl .dt, ks rfl (.c .ow), ks rfl .dt, ks rfl .dt, ks rfl .dt, ks rfl .dt, kb 152 rfl (.dt rfl (by first | rfl | (simp [dR, rN, dI]; done) | (simp [dR, rN, dI]; rfl))), trivial⟩
      · skip
        obtain rfl : j = q.2.length := by omega
        refine .exit <| ks_e <| kl_e <| kb_hit <| kb_n <| ks_n <| .region <| .cons (.mv rfl rfl) <| .cons (.pl rfl rfl rfl) <| .cons (.asg rfl rfl) <| .nil ?_
        refine kl_k [(120, 130)] ⟨i + 1, o3, rfl, by omega, by rw [insT_take hp1, ← List.append_assoc, hEo]; exact hEp, by omega, rfl⟩ ⟨ks rfl .dt, ks rfl (.c .ow), ks rfl .dt, ks rfl .dt, ks rfl .dt, kb 130 rfl (.dt rfl (by first | rfl | (simp [dR, rN, dI]; done) | (simp [dR, rN, dI]; rfl))), trivial⟩
    · skip
      obtain rfl : i = (npR q.1).length := by omega
      rw [List.take_length] at hEo
      refine .exit <| ks_e <| kl_e <| kb_hit <| kb_n <| ks_n <| .region <| .cons (.mv rfl rfl) <| .cons (.pl rfl rfl rfl) <| .cons (.asg rfl rfl) <| .nil ?_
      refine kl_k [(110, 120)] ⟨k + 1, o2, rfl, by omega, by rw [insG_take hq1, hE]; exact hEo, by omega, rfl⟩ ⟨ks rfl .dt, ks rfl (.c .ow), ks rfl .dt, kb 120 rfl (.dt rfl (by first | rfl | (simp [dR, rN, dI]; done) | (simp [dR, rN, dI]; rfl))), trivial⟩
  · skip
    obtain rfl : k = g.2.length := by omega
    rw [List.take_length] at hE
    refine .exit <| ks_e <| kl_e <| kb_hit <| ks_n <| .seq <| .region <| .cons (.mv rfl rfl) <| .cons (.asg rfl rfl) <| .nil <| ks_n <| .ret ?_
    refine kf_wret [(.t 2, .v (.o (vD (dNs (insG 0 g.2)))))] (Wk.keep [] rfl rfl ⟨ks rfl (.c (.fz rfl (by rw [hE]) (by rw [hE, List.length_map]) (by omega))), trivial⟩) rfl ?_ nobox
    rfl
/-- The statement of an instance. -/
def stI (g : Prg) (x : Ins) : Stm := match (g.2[x.1.toNat]?).bind fun q => q.2[x.2.1.toNat]? with | some s => s | none => ((ByteArray.empty, []), .mk 0 0 ([], 0) (ByteArray.empty, []) [])
theorem stI_eq {g : Prg} {x : Ins} {k c : Nat} {q : Prt} {s : Stm} (h1 : x.1 = (k : Int)) (hq : g.2[k]? = some q) (h2 : x.2.1 = (c : Int)) (hs : q.2[c]? = some s) : stI g x = s := by
  rw [stI, h1, h2, Int.toNat_natCast, Int.toNat_natCast, hq, Option.bind_some, hs]
structure InsOk (g : Prg) (x : Ins) (k c : Nat) (q : Prt) : Prop where
  e1 : x.1 = (k : Int)
  hq : g.2[k]? = some q
  e2 : x.2.1 = (c : Int)
  hs : q.2[c]? = some (stI g x)
  pt : x.2.2 ∈ npR q.1
  sv : stmtV (q.1.length : Nat) (stI g x) = true
  ok : stmG g.1 (stI g x) x.2.2 = true
  ip : isPt x.2.2 = true
  hk : k < g.2.length
  hc : c < q.2.length
theorem ins_at {g : Prg} {x : Ins} (hg : prgS g = true) (hx : x ∈ insG 0 g.2) : ∃ k c q, InsOk g x k c q := by
  obtain ⟨k, q, c, h1, h2, h3, h4, h5⟩ := insG_mem hx
  rw [Nat.zero_add] at h2
  obtain ⟨s, hs⟩ : ∃ s, q.2[c]? = some s := ⟨_, List.getElem?_eq_getElem h4⟩
  have e := stI_eq h2 h1 h3 hs
  have hp := prtV_iff.1 ((prgS_iff.1 hg).2.2 q (List.mem_of_getElem? h1))
  have hm := List.mem_of_getElem? hs
  exact ⟨k, c, q, h2, h1, h3, by rw [e]; exact hs, h5, by rw [e]; exact hp.2.2.1 s hm, by rw [e]; exact (hp.2.2.2 _ h5).2 s hm, (hp.2.2.2 _ h5).1, (List.getElem?_eq_some_iff.1 h1).1, h4⟩
theorem stI_sz {g : Prg} {x : Ins} {k c : Nat} {q : Prt} (h : InsOk g x k c q) : szS (stI g x) ≤ szG g := by
  have h1 := szO_mem (f := szS) (List.mem_of_getElem? h.hs)
  have h2 := szO_mem (f := szPt) (List.mem_of_getElem? h.hq)
  have e1 : szPt q = szLs q.1 + szO szS q.2 := rfl
  have e2 : szG g = szO szR g.1 + szO szPt g.2 := rfl
  omega

theorem stmt_fn {g : Prg} {x : Ins} {k c : Nat} {q : Prt} (h : InsOk g x k c q) : Fn Tryz.prog 60 [] [ad (rG g), ad (rN x)] (.o (ad (rS (stI g x)))) [] := by
 refine Fn.code0 Tryz.func60 rfl rfl rfl rfl ?_
 refine .seq <| .region <| .cons (St1.boxP rfl rfl rfl rfl rfl rfl) <| .cons (St1.boxP rfl rfl rfl rfl rfl rfl) <| .cons (.al 104 [.string ByteArray.empty, .slice none 0 0, .int .i64 0, .int .i64 0, .slice none 0 0, .int .i64 0, .string ByteArray.empty, .slice none 0 0, .slice none 0 0] rfl rfl rfl) <| .nil <| ks_n <| .seq ?_
 refine ACode.drawK (by kernel_rfl) (by kernel_rfl) ?_
 refine .cons (.fP 1 0 false rfl rfl) <| .cons (.l1 1 rfl rfl) <| .cons (.fP 0 0 false rfl rfl) <| .cons (.l1 1 rfl rfl) <| .cons (.xL 104 2 48 (i := k) rfl rfl rfl rfl h.e1 (map_at h.hq)) ?_
 refine .cons (.fP 1 0 false rfl rfl) <| .cons (.l1 1 rfl rfl) <| .cons (.fP 1 0 false rfl rfl) <| .cons (.l1 1 rfl rfl) <| .cons (.xL 96 9 152 (i := c) rfl rfl rfl rfl h.e2 (map_at h.hs)) ?_
 refine .cons (.lN 9 rfl rfl rfl) <| .cons (.sT 9 true rfl rfl rfl rfl rfl rfl rfl) ?_
 refine .nil ⟨by kernel_rfl, ?_⟩
 refine ks_n <| .ret ?_
 refine kf_ret rfl ?_ nobox
 rfl
def rB (b : Bool) : List D := [dB b]
def dBs (l : List Bool) : D := .list 1 (l.map rB)
/-- The cells that an instance reads, the one that it writes. -/
def usR (g : Prg) (x : Ins) : List Int := (rdE (stI g x).2).map fun a => cellG a x.2.2 g.1 0
def usW (g : Prg) (x : Ins) : Int := cellG (stI g x).1 x.2.2 g.1 0
def usRs (g : Prg) : Pts := (insG 0 g.2).map (usR g)
def usWs (g : Prg) : List Int := (insG 0 g.2).map (usW g)
def rU (u : List Int × Int) : List D := [dIs u.1, dI u.2]
def dUs (l : List (List Int × Int)) : D := .list 2 (l.map rU)
def usG (g : Prg) (x : Ins) : List Int × Int := (usR g x, usW g x)
def usL (g : Prg) : List (List Int × Int) := (insG 0 g.2).map (usG g)
/-- A traced program. -/
def rT (g : Prg) : List D := [dRs g.1, dPts g.2, dNs (insG 0 g.2), dPs (usRs g), dIs (usWs g)]
theorem usR_len {g : Prg} {x : Ins} {k c : Nat} {q : Prt} (h : InsOk g x k c q) : (usR g x).length ≤ 12 := by
  rw [usR, List.length_map]; exact (stm_accs h.sv).2.2
theorem dR_setB (l : List Bool) (i : Nat) (x y : Bool) : (dR (l.map rB)).set i (place1 ((rB x).map C.d) 0 (bo1 y).cells) = dR ((l.set i y).map rB) := by
  unfold dR
  rw [List.map_set, List.map_set]
  rfl
theorem dR_repB (n : Nat) : dR (List.replicate n [dB false]) = dR ((List.replicate n false).map rB) := by rw [List.map_replicate]; rfl
/-- The places of what is true. -/
def flagN (l : List Bool) (n : Nat) : List Int := ((List.range n).filter fun i => l.getD i false).map fun (i : Nat) => (i : Int)
def flagV (l : List Bool) : List Int := flagN l l.length
theorem flagN_len {l : List Bool} {n : Nat} : (flagN l n).length ≤ n := by
  rw [flagN, List.length_map]
  exact Nat.le_trans (List.length_filter_le _ _) (by simp)
theorem flagN_next {l : List Bool} {n : Nat} {b : Bool} (h : l[n]? = some b) : flagN l (n + 1) = if b = true then flagN l n ++ [(n : Int)] else flagN l n := by
  rw [flagN, List.range_succ, List.filter_append, List.map_append]
  have e : l.getD n false = b := by rw [List.getD, h]; rfl
  cases b with
  | true => rw [if_pos rfl, List.filter_cons_of_pos (by rw [e])]; rfl
  | false => rw [if_neg (by simp), List.filter_cons_of_neg (by rw [e]; simp)]; simp [flagN]
theorem flagV_mem {l : List Bool} {n : Int} : n ∈ flagV l ↔ ∃ i : Nat, n = (i : Int) ∧ i < l.length ∧ l.getD i false = true := by
  rw [flagV, flagN, List.mem_map]
  constructor
  · rintro ⟨i, hi, rfl⟩
    rw [List.mem_filter, List.mem_range] at hi
    exact ⟨i, rfl, hi⟩
  · rintro ⟨i, rfl, hi⟩
    exact ⟨i, by rw [List.mem_filter, List.mem_range]; exact hi, rfl⟩
def hasV (l : List Int) (n : Int) : Bool := l.any fun m => decide (m = n)




theorem insG_len {g : Prg} (h : prgS g = true) : (insG 0 g.2).length ≤ 1920 := by
  obtain ⟨_, h4, hP⟩ := prgS_iff.1 h
  have key : ∀ (l : List Prt) (n : Nat), (∀ q ∈ l, prtV g.1 q = true) → (insG n l).length ≤ 480 * l.length := by
    intro l
    induction l with
    | nil => intro n _; simp [insG]
    | cons q l ih =>
      intro n hq
      have h1 := (cntP_len (hq q (by simp)) n).2
      have h2 := ih (n + 1) fun q' h' => hq q' (by simp [h'])
      rw [insG, List.length_append, List.length_cons]; omega
  have := key g.2 0 hP
  omega
theorem touched_fn {g : Prg} (hv : arrsV g.1 = true) {x : Ins} {k c : Nat} {q : Prt} (hI : InsOk g x k c q) : Fn Tryz.prog 76 [] [ad (rG g), ad (rN x)] (.tup [vD (dIs (usR g x)), nat1 (usW g x)]) [] := by
  obtain ⟨ha, hr, hrl⟩ := stm_accs hI.sv
  have hpt := npR_pt hI.pt
  refine Fn.code0 Tryz.func76 rfl rfl rfl rfl ?_
  refine .seq <| .region <| .cons (St1.boxP rfl rfl rfl rfl rfl rfl) <| .cons (St1.boxP rfl rfl rfl rfl rfl rfl) <| .cons (.asg rfl rfl) <| .cons (.asg rfl rfl) <| .nil <| ks_n <| .seq <| .region <| .cons (.lN 2 rfl rfl rfl) <| .cons (.lN 3 rfl rfl rfl) <| .cons (.cP [.tmp 10, .tmp 11] rfl rfl rfl rfl (stmt_fn hI) rfl) ?_
  refine .cons (.al 106 [.string ByteArray.empty, .slice none 0 0, .int .i64 0, .int .i64 0, .slice none 0 0, .int .i64 0, .string ByteArray.empty, .slice none 0 0, .slice none 0 0] rfl rfl rfl) <| .cons (.sT 9 true rfl rfl rfl rfl rfl rfl rfl) <| .nil <| ks_n <| .seq <| .region <| .cons (.asg rfl rfl) <| .nil <| ks_n <| .seq <| .seq <| .region <| .cons (.fB 2 6 true rfl rfl rfl) <| .cons (.bN 7 rfl rfl rfl rfl rfl rfl) <| .cons (.cP [.tmp 14] rfl rfl rfl rfl (reads_fn (L := 5) _ (by omega) (stmtV_ex hI.sv).1) rfl) ?_
  refine .cons (.ln 89 2 40 rfl rfl rfl) <| .cons (.mv rfl rfl) <| .nil <| ks_n <| .block ?_
  refine .loopK (fun m σ => (∃ i : Nat, m = (rdE (stI g x).2).length - i ∧ (i = 0) ∧ σ = [(.t 2, .v (.o (.c (.ptr (rG g))))), (.t 3, .v (.o (.c (.ptr (rN x))))), (.t 6, .v (.o (.c (.ptr (rS (stI g x)))))), (.t 7, .v (.o (.c (.d (.val (.slice none 0 0)))))), (.t 15, .v (.o (vD (dCs (rdE (stI g x).2))))), (.t 16, .v (.o (nat1 ((rdE (stI g x).2).length : Nat)))), (.t 17, .v (.o (nat1 (i : Nat))))]) ∨ (∃ i : Nat, m = (rdE (stI g x).2).length - i ∧ (1 ≤ i) ∧ (i ≤ (rdE (stI g x).2).length) ∧ σ = [(.t 2, .v (.o (.c (.ptr (rG g))))), (.t 3, .v (.o (.c (.ptr (rN x))))), (.t 6, .v (.o (.c (.ptr (rS (stI g x)))))), (.t 7, .v (.o (.c (.own 110 1 (i))))), (.t 15, .v (.o (vD (dCs (rdE (stI g x).2))))), (.t 16, .v (.o (nat1 ((rdE (stI g x).2).length : Nat)))), (.t 17, .v (.o (nat1 (i : Nat)))), (.b 110, .b 3 1 (dR (((rdE (stI g x).2).take i).map (fun a : Acc => rI (cellG a x.2.2 g.1 0))))), (.u 110, .u)])) [] (.inl ⟨0, rfl, rfl, rfl⟩) ⟨ks rfl .dt, ks rfl .dt, ks rfl (.c (.frzP _ _ _ _ _ _ _ _ rfl (show _ = dR [rS (stI g x)] from rfl) rfl rfl rfl)), ks rfl .dt, ks rfl .dt, ks rfl .dt, ks rfl .dt, trivial⟩ ?_
  rintro m σ (⟨i, hm0, rfl, rfl⟩ | ⟨i, hm0, hi1, hi, rfl⟩)
  · skip
    refine .seq <| .region <| .cons (.ls rfl rfl rfl) <| .nil <| ks_n <| .seq ?_
    refine .cD rfl (fun h18 => ?_) (fun h18 => ?_)
    · skip
      obtain ⟨a, ha1⟩ : ∃ x_, (rdE (stI g x).2)[0]? = some x_ := ⟨_, List.getElem?_eq_getElem (by omega)⟩
      refine .skip <| ks_n <| .seq <| .block <| .seq <| .region <| .cons (.xL 89 2 40 rfl rfl rfl rfl rfl) ?_
      refine .cons (.lN 2 rfl rfl rfl) <| .cons (.al 109 [.string ByteArray.empty, .slice none 0 0] rfl rfl rfl) <| .cons (.sT 2 true rfl rfl rfl rfl rfl rfl rfl) <| .nil <| ks_n <| .region <| .cons (.mv rfl rfl) <| .cons (.lN 2 rfl rfl rfl) <| .cons (.bN 2 rfl rfl rfl rfl rfl rfl) <| .cons (.fP 2 0 false rfl rfl) <| .cons (.l1 1 rfl rfl) <| .cons (.cP [.tmp 22, .tmp 23, .tmp 25] rfl rfl rfl rfl (cell_fn hv (hr a (List.mem_of_getElem? ha1)) hpt.1 hpt.2) rfl) ?_
      refine .cons (.li 3 0 0 [.tmp 26] rfl rfl rfl rfl rfl rfl) <| .cons (St1.appN (k' := 128) (e := 3) (sz := 0) (by' := 8) rfl rfl rfl rfl rfl (by kernel_rfl) rfl rfl rfl (by simp) (by first | (simp [dR]; done) | (simp [dR]; omega)) rfl rfl) ?_
      refine .cons (.asg rfl rfl) <| .nil <| kb_n <| ks_n <| .region <| .cons (.pl rfl rfl rfl) <| .cons (.mv rfl rfl) <| .nil ?_
      refine kl_k [(110, 128)] (.inr ⟨1, rfl, by omega, by omega, rfl⟩) ⟨ks rfl .dt, ks rfl .dt, ks rfl .dt, ks rfl (.c .ow), ks rfl .dt, ks rfl .dt, ks rfl .dt, kb 128 rfl (.dt rfl (by first | exact dR_take (fun a : Acc => rI (cellG a x.2.2 g.1 0)) ha1 | exact dR_take1 (fun a : Acc => rI (cellG a x.2.2 g.1 0)) ha1 | rfl | (simp [dR]; done))), trivial⟩
    · skip
      have hn : usR g x = [] := by rw [usR, List.eq_nil_of_length_eq_zero (show (rdE (stI g x).2).length = 0 by omega)]; rfl
      refine .exit <| ks_e <| kl_e <| kb_hit <| ks_n <| .seq <| .region <| .cons (.mv rfl rfl) <| .cons (.lN 2 rfl rfl rfl) <| .cons (.fP 0 1 true rfl rfl) <| .cons (.lN 2 rfl rfl rfl) <| .cons (.fP 2 0 false rfl rfl) <| .cons (.l1 1 rfl rfl) <| .cons (.cP [.tmp 31, .tmp 33, .tmp 35] rfl rfl rfl rfl (cell_fn hv ha hpt.1 hpt.2) rfl) ?_
      refine .cons (.asg rfl rfl) <| .cons (.asg rfl rfl) <| .nil <| ks_n <| .ret ?_
      refine kf_wret [(.t 4, .v (.o (vD (dIs (usR g x))))), (.t 5, .v (.o (nat1 (usW g x))))] (Wk.keep [] rfl rfl ⟨ks rfl (.c (Cto.nilE 1 (by rw [hn]; rfl))), ks rfl .dt, trivial⟩) rfl ?_ nobox
      rfl
  · skip
    refine .seq <| .region <| .cons (.ls rfl rfl rfl) <| .nil <| ks_n <| .seq ?_
    refine .cD rfl (fun h18 => ?_) (fun h18 => ?_)
    · skip
      obtain ⟨a, ha1⟩ : ∃ x_, (rdE (stI g x).2)[i]? = some x_ := ⟨_, List.getElem?_eq_getElem (by omega)⟩
      refine .skip <| ks_n <| .seq <| .block <| .seq <| .region <| .cons (.xL 89 2 40 rfl rfl rfl rfl rfl) ?_
      refine .cons (.lN 2 rfl rfl rfl) <| .cons (.al 109 [.string ByteArray.empty, .slice none 0 0] rfl rfl rfl) <| .cons (.sT 2 true rfl rfl rfl rfl rfl rfl rfl) <| .nil <| ks_n <| .region <| .cons (.mv rfl rfl) <| .cons (.lN 2 rfl rfl rfl) <| .cons (.bN 2 rfl rfl rfl rfl rfl rfl) <| .cons (.fP 2 0 false rfl rfl) <| .cons (.l1 1 rfl rfl) <| .cons (.cP [.tmp 22, .tmp 23, .tmp 25] rfl rfl rfl rfl (cell_fn hv (hr a (List.mem_of_getElem? ha1)) hpt.1 hpt.2) rfl) ?_
      refine .cons (.li 3 0 0 [.tmp 26] rfl rfl rfl rfl rfl rfl) <| .cons (St1.appB (k' := 128) (e := 3) (sz := 0) (by' := 8) rfl rfl rfl rfl rfl (by kernel_rfl) rfl rfl rfl rfl (by first | (simp [dR]; done) | (simp [dR]; omega)) (by first | (simp [dR]; done) | (simp [dR]; omega)) rfl rfl rfl) ?_
      refine .cons (.asg rfl rfl) <| .nil <| kb_n <| ks_n <| .region <| .cons (.pl rfl rfl rfl) <| .cons (.mv rfl rfl) <| .nil ?_
      refine kl_k [(110, 128)] (.inr ⟨i + 1, rfl, by omega, by omega, rfl⟩) ⟨ks rfl .dt, ks rfl .dt, ks rfl .dt, ks rfl (.c .ow), ks rfl .dt, ks rfl .dt, ks rfl .dt, kb 128 rfl (.dt rfl (by first | exact dR_take (fun a : Acc => rI (cellG a x.2.2 g.1 0)) ha1 | exact dR_take1 (fun a : Acc => rI (cellG a x.2.2 g.1 0)) ha1 | rfl | (simp [dR]; done))), trivial⟩
    · skip
      obtain rfl : i = (rdE (stI g x).2).length := by omega
      refine .exit <| ks_e <| kl_e <| kb_hit <| ks_n <| .seq <| .region <| .cons (.mv rfl rfl) <| .cons (.lN 2 rfl rfl rfl) <| .cons (.fP 0 1 true rfl rfl) <| .cons (.lN 2 rfl rfl rfl) <| .cons (.fP 2 0 false rfl rfl) <| .cons (.l1 1 rfl rfl) <| .cons (.cP [.tmp 31, .tmp 33, .tmp 35] rfl rfl rfl rfl (cell_fn hv ha hpt.1 hpt.2) rfl) ?_
      refine .cons (.asg rfl rfl) <| .cons (.asg rfl rfl) <| .nil <| ks_n <| .ret ?_
      refine kf_wret [(.t 4, .v (.o (vD (dIs (usR g x))))), (.t 5, .v (.o (nat1 (usW g x))))] (Wk.keep [] rfl rfl ⟨ks rfl (.c (.fz rfl (by rw [List.take_length, usR, List.map_map]; rfl) (by simp [usR]) (by omega))), ks rfl .dt, trivial⟩) rfl ?_ nobox
      rfl

theorem trace_no {g : Prg} (hs : szG g ≤ 1073741824) (hV : prgV g = false) : Fn Tryz.prog 38 [] [ad (rG g)] (.tup [.c (.d (.val (.pointer none))), bo1 false]) [] := by
 refine Fn.code0 Tryz.func38 rfl rfl rfl rfl ?_
 refine .seq <| .region <| .cons (St1.boxP rfl rfl rfl rfl rfl rfl) <| .cons (.asg rfl rfl) <| .cons (.asg rfl rfl) <| .nil <| ks_n <| .seq <| .region <| .cons (.lN 2 rfl rfl rfl) <| .cons (.cP [.tmp 12] rfl rfl rfl rfl (instances_fn hs) rfl) ?_
 refine .cons (.mv rfl rfl) <| .cons (.ex rfl rfl rfl) <| .cons (.ex rfl rfl rfl) <| .cons (.asg rfl rfl) <| .cons (.asg rfl rfl) <| .nil <| ks_n <| .seq <| .seq <| .region <| .cons (.mv rfl rfl) <| .cons (.nt rfl rfl) <| .nil <| ks_n ?_
 refine ACode.condT rfl (fun h17 => ?_) (fun h17 => ?_)
 ·try simp only [zs1, zs2, zs3, zs4, zs5, zs6, zs7] at h17
  refine .seq <| .region <| .cons (.asg rfl rfl) <| .cons (.asg rfl rfl) <| .nil <| ks_n <| .ret <| ks_r ?_
  refine kf_ret rfl ?_ nobox
  rfl
 ·try simp only [zs1, zs2, zs3, zs4, zs5, zs6, zs7] at h17
  rw [hV] at h17; cases h17

theorem trace_fn {g : Prg} (hs : szG g ≤ 1073741824) (hV : prgV g = true) : Fn Tryz.prog 38 [] [ad (rG g)] (.tup [.c (.ptr (rT g)), bo1 true]) [] := by
 obtain ⟨hS, hN, hL⟩ := prgV_s hV
 have hv := (prgS_iff.1 hS).1
 refine Fn.code0 Tryz.func38 rfl rfl rfl rfl ?_
 refine .seq <| .region <| .cons (St1.boxP rfl rfl rfl rfl rfl rfl) <| .cons (.asg rfl rfl) <| .cons (.asg rfl rfl) <| .nil <| ks_n <| .seq <| .region <| .cons (.lN 2 rfl rfl rfl) <| .cons (.cP [.tmp 12] rfl rfl rfl rfl (instances_fn hs) rfl) ?_
 refine .cons (.mv rfl rfl) <| .cons (.ex rfl rfl rfl) <| .cons (.ex rfl rfl rfl) <| .cons (.asg rfl rfl) <| .cons (.asg rfl rfl) <| .nil <| ks_n <| .seq <| .seq <| .region <| .cons (.mv rfl rfl) <| .cons (.nt rfl rfl) <| .nil <| ks_n ?_
 refine ACode.condT rfl (fun h17 => ?_) (fun h17 => ?_)
 ·try simp only [zs1, zs2, zs3, zs4, zs5, zs6, zs7] at h17
  rw [hV] at h17; cases h17
 ·try simp only [zs1, zs2, zs3, zs4, zs5, zs6, zs7] at h17
  rw [hN]
  refine .skip <| ks_n <| .seq <| .region <| .cons (.lN 2 rfl rfl rfl) <| .cons (.mv rfl rfl) <| .cons (.bu [(0, .tmp 18), (1, .tmp 19)] [(0, 2), (2, 1), (3, 1), (4, 1)] [.slice none 0 0, .slice none 0 0, .slice none 0 0, .slice none 0 0, .slice none 0 0] rfl rfl rfl rfl rfl) <| .cons (St1.boxB (k' := 121) rfl rfl rfl rfl rfl rfl rfl) <| .cons (.asg rfl rfl) <| .nil <| ks_n <| .seq <| .seq <| .region <| .cons (.mv rfl rfl) <| .cons (.ln 86 3 40 rfl rfl rfl) <| .cons (.mv rfl rfl) <| .nil <| ks_n <| .block ?_
  refine .loopK (fun m σ => (∃ i : Nat, m = (insG 0 g.2).length - i ∧ (i = 0) ∧ σ = [(.t 1, .v (.o (.c (.ptr (rG g))))), (.t 6, .v (.o (.c (.box 110 5 0 0)))), (.t 22, .v (.o (vD (dNs (insG 0 g.2))))), (.t 23, .v (.o (nat1 ((insG 0 g.2).length : Nat)))), (.t 24, .v (.o (nat1 (i : Nat)))), (.b 110, .b 74 5 [[.d (dRs g.1), .d (dPts g.2), .d (dNs (insG 0 g.2)), .d (.val (.slice none 0 0)), .d (.val (.slice none 0 0))]]), (.u 110, .u)]) ∨ (∃ i : Nat, m = (insG 0 g.2).length - i ∧ (1 ≤ i) ∧ (i ≤ (insG 0 g.2).length) ∧ σ = [(.t 1, .v (.o (.c (.ptr (rG g))))), (.t 6, .v (.o (.c (.box 110 5 0 0)))), (.t 22, .v (.o (vD (dNs (insG 0 g.2))))), (.t 23, .v (.o (nat1 ((insG 0 g.2).length : Nat)))), (.t 24, .v (.o (nat1 (i : Nat)))), (.b 111, .b 35 1 (dR (((insG 0 g.2).take i).map (fun x => rIs (usR g x))))), (.u 111, .u), (.b 112, .b 3 1 (dR (((insG 0 g.2).take i).map (fun x => rI (usW g x))))), (.u 112, .u), (.b 110, .b 74 5 [[.d (dRs g.1), .d (dPts g.2), .d (dNs (insG 0 g.2)), .own 111 1 (i), .own 112 1 (i)]]), (.u 110, .u)])) [(110, 121)] (.inl ⟨0, rfl, rfl, rfl⟩) ⟨ks rfl .dt, ks rfl (.c .bx), ks rfl .dt, ks rfl .dt, ks rfl .dt, kb 121 rfl (.cons (.cons .dt (.cons .dt (.cons .dt (.cons .dt (.cons .dt Ctos.nil))))) .nil), trivial⟩ ?_
  rintro m σ (⟨i, hm0, rfl, rfl⟩ | ⟨i, hm0, hi1, hi, rfl⟩)
  ·skip
   refine .seq <| .region <| .cons (.ls rfl rfl rfl) <| .nil <| ks_n <| .seq ?_
   refine .cD rfl (fun h25 => ?_) (fun h25 => ?_)
   ·skip
    obtain ⟨x, hx1⟩ : ∃ x_, (insG 0 g.2)[0]? = some x_ := ⟨_, List.getElem?_eq_getElem (by omega)⟩
    obtain ⟨k, c, q, hI⟩ := ins_at hS (List.mem_of_getElem? hx1)
    have hsz := stI_sz hI
    refine .skip <| ks_n <| .seq <| .block <| .seq <| .region <| .cons (.xL 86 3 40 rfl rfl rfl rfl rfl) ?_
    refine .cons (.lN 3 rfl rfl rfl) <| .cons (.al 108 [.int .i64 0, .int .i64 0, .slice none 0 0] rfl rfl rfl) <| .cons (.sT 3 true rfl rfl rfl rfl rfl rfl rfl) <| .nil <| ks_n <| .seq <| .region <| .cons (.lN 2 rfl rfl rfl) <| .cons (.bN 3 rfl rfl rfl rfl rfl rfl) <| .cons (.cP [.tmp 29, .tmp 30] rfl rfl rfl rfl (touched_fn hv hI) rfl) ?_
    refine .cons (.mv rfl rfl) <| .cons (.ex rfl rfl rfl) <| .cons (.ex rfl rfl rfl) <| .cons (.asg rfl rfl) <| .cons (.asg rfl rfl) <| .nil <| ks_n ?_
    refine ACode.drawK (by kernel_rfl) (by kernel_rfl) ?_
    refine .cons (.mv rfl rfl) <| .cons (.mv rfl rfl) <| .cons (.mv rfl rfl) <| .cons (.nB rfl rfl rfl) <| .cons (.fB 3 0 false rfl rfl rfl) <| .cons (.b1 1 rfl rfl rfl rfl rfl rfl) <| .cons (.mv rfl rfl) <| .cons (.li 35 0 0 [.tmp 40] rfl rfl rfl rfl rfl rfl) <| .cons (St1.appN (k' := 142) (e := 35) (sz := 0) (by' := 24) rfl rfl rfl rfl rfl (by kernel_rfl) rfl rfl rfl (by simp) (by first | (simp [dR]; done) | (simp [dR]; omega)) rfl rfl) ?_
    refine .cons (.mv rfl rfl) <| .cons (.nB rfl rfl rfl) <| .cons (.fB 4 0 false rfl rfl rfl) <| .cons (.b1 1 rfl rfl rfl rfl rfl rfl) <| .cons (.mv rfl rfl) <| .cons (.li 3 0 0 [.tmp 47] rfl rfl rfl rfl rfl rfl) <| .cons (St1.appN (k' := 149) (e := 3) (sz := 0) (by' := 8) rfl rfl rfl rfl rfl (by kernel_rfl) rfl rfl rfl (by simp) (by first | (simp [dR]; done) | (simp [dR]; omega)) rfl rfl) ?_
    refine .cons (.nB rfl rfl rfl) <| .cons (.fB 3 0 false rfl rfl rfl) <| .cons (.sT 1 false rfl rfl rfl rfl rfl rfl rfl) <| .cons (.nB rfl rfl rfl) <| .cons (.fB 4 0 false rfl rfl rfl) <| .cons (.sT 1 false rfl rfl rfl rfl rfl rfl rfl) ?_
    refine .nil ⟨by kernel_rfl, ?_⟩
    refine kb_n <| ks_n <| .region <| .cons (.pl rfl rfl rfl) <| .cons (.mv rfl rfl) <| .nil ?_
    refine kl_k [(110, 110), (111, 142), (112, 149)] (.inr ⟨1, rfl, by omega, by omega, rfl⟩) ⟨ks rfl .dt, ks rfl (.c .bx), ks rfl .dt, ks rfl .dt, ks rfl .dt, kb 142 rfl (.dt rfl (by first | exact dR_take (fun x => rIs (usR g x)) hx1 | exact dR_take1 (fun x => rIs (usR g x)) hx1 | rfl | (simp [dR]; done))), kb 149 rfl (.dt rfl (by first | exact dR_take (fun x => rI (usW g x)) hx1 | exact dR_take1 (fun x => rI (usW g x)) hx1 | rfl | (simp [dR]; done))), kb 110 rfl (.cons (.cons .dt (.cons .dt (.cons .dt (.cons .ow (.cons .ow Ctos.nil))))) .nil), trivial⟩
   ·skip
    have hn : insG 0 g.2 = [] := List.eq_nil_of_length_eq_zero (by omega)
    refine .exit <| ks_e <| kl_e <| kb_hit <| ks_n <| .seq ?_
    refine .keep [(.t 6, .v (.o (.c (.box 810 5 0 0)))), (.b 810, .b 74 5 [[.d (dRs g.1), .d (dPts g.2), .d (dNs (insG 0 g.2)), .d (dPs (usRs g)), .d (dIs (usWs g))]]), (.u 810, .u)] [(810, 110)] ⟨ks rfl (.c .bx), kb 110 rfl (.cons (.cons .dt (.cons .dt (.cons .dt (.cons (Cto.nilE 1 (by rw [usRs, hn]; rfl)) (.cons (Cto.nilE 1 (by rw [usWs, hn]; rfl)) Ctos.nil))))) .nil), trivial⟩ ?_
    refine .region <| .cons (.mv rfl rfl) <| .cons (.asg rfl rfl) <| .cons (.asg rfl rfl) <| .nil <| ks_n <| .ret ?_
    refine kf_wret [(.t 2, .v (.o (.c (.ptr (rT g))))), (.t 3, .v (.o (bo1 true)))] (Wk.keep [] rfl rfl ⟨ks rfl (.c (.frzP _ _ _ _ _ _ _ _ rfl (show _ = dR [rT g] from rfl) rfl rfl rfl)), ks rfl .dt, trivial⟩) rfl ?_ nobox
    rfl
  ·skip
   refine .seq <| .region <| .cons (.ls rfl rfl rfl) <| .nil <| ks_n <| .seq ?_
   refine .cD rfl (fun h25 => ?_) (fun h25 => ?_)
   ·skip
    obtain ⟨x, hx1⟩ : ∃ x_, (insG 0 g.2)[i]? = some x_ := ⟨_, List.getElem?_eq_getElem (by omega)⟩
    obtain ⟨k, c, q, hI⟩ := ins_at hS (List.mem_of_getElem? hx1)
    have hsz := stI_sz hI
    refine .skip <| ks_n <| .seq <| .block <| .seq <| .region <| .cons (.xL 86 3 40 rfl rfl rfl rfl rfl) ?_
    refine .cons (.lN 3 rfl rfl rfl) <| .cons (.al 108 [.int .i64 0, .int .i64 0, .slice none 0 0] rfl rfl rfl) <| .cons (.sT 3 true rfl rfl rfl rfl rfl rfl rfl) <| .nil <| ks_n <| .seq <| .region <| .cons (.lN 2 rfl rfl rfl) <| .cons (.bN 3 rfl rfl rfl rfl rfl rfl) <| .cons (.cP [.tmp 29, .tmp 30] rfl rfl rfl rfl (touched_fn hv hI) rfl) ?_
    refine .cons (.mv rfl rfl) <| .cons (.ex rfl rfl rfl) <| .cons (.ex rfl rfl rfl) <| .cons (.asg rfl rfl) <| .cons (.asg rfl rfl) <| .nil <| ks_n ?_
    refine ACode.drawK (by kernel_rfl) (by kernel_rfl) ?_
    refine .cons (.mv rfl rfl) <| .cons (.mv rfl rfl) <| .cons (.mv rfl rfl) <| .cons (.nB rfl rfl rfl) <| .cons (.fB 3 0 false rfl rfl rfl) <| .cons (.b1 1 rfl rfl rfl rfl rfl rfl) <| .cons (.mv rfl rfl) <| .cons (.li 35 0 0 [.tmp 40] rfl rfl rfl rfl rfl rfl) <| .cons (St1.appB (k' := 142) (e := 35) (sz := 0) (by' := 24) rfl rfl rfl rfl rfl (by kernel_rfl) rfl rfl rfl rfl (by first | (simp [dR]; done) | (simp [dR]; omega)) (by first | (simp [dR]; done) | (simp [dR]; omega)) rfl rfl rfl) ?_
    refine .cons (.mv rfl rfl) <| .cons (.nB rfl rfl rfl) <| .cons (.fB 4 0 false rfl rfl rfl) <| .cons (.b1 1 rfl rfl rfl rfl rfl rfl) <| .cons (.mv rfl rfl) <| .cons (.li 3 0 0 [.tmp 47] rfl rfl rfl rfl rfl rfl) <| .cons (St1.appB (k' := 149) (e := 3) (sz := 0) (by' := 8) rfl rfl rfl rfl rfl (by kernel_rfl) rfl rfl rfl rfl (by first | (simp [dR]; done) | (simp [dR]; omega)) (by first | (simp [dR]; done) | (simp [dR]; omega)) rfl rfl rfl) ?_
    refine .cons (.nB rfl rfl rfl) <| .cons (.fB 3 0 false rfl rfl rfl) <| .cons (.sT 1 false rfl rfl rfl rfl rfl rfl rfl) <| .cons (.nB rfl rfl rfl) <| .cons (.fB 4 0 false rfl rfl rfl) <| .cons (.sT 1 false rfl rfl rfl rfl rfl rfl rfl) ?_
    refine .nil ⟨by kernel_rfl, ?_⟩
    refine kb_n <| ks_n <| .region <| .cons (.pl rfl rfl rfl) <| .cons (.mv rfl rfl) <| .nil ?_
    refine kl_k [(110, 110), (111, 142), (112, 149)] (.inr ⟨i + 1, rfl, by omega, by omega, rfl⟩) ⟨ks rfl .dt, ks rfl (.c .bx), ks rfl .dt, ks rfl .dt, ks rfl .dt, kb 142 rfl (.dt rfl (by first | exact dR_take (fun x => rIs (usR g x)) hx1 | exact dR_take1 (fun x => rIs (usR g x)) hx1 | rfl | (simp [dR]; done))), kb 149 rfl (.dt rfl (by first | exact dR_take (fun x => rI (usW g x)) hx1 | exact dR_take1 (fun x => rI (usW g x)) hx1 | rfl | (simp [dR]; done))), kb 110 rfl (.cons (.cons .dt (.cons .dt (.cons .dt (.cons .ow (.cons .ow Ctos.nil))))) .nil), trivial⟩
   ·skip
    obtain rfl : i = (insG 0 g.2).length := by omega
    refine .exit <| ks_e <| kl_e <| kb_hit <| ks_n <| .seq ?_
    refine .keep [(.t 6, .v (.o (.c (.box 810 5 0 0)))), (.b 810, .b 74 5 [[.d (dRs g.1), .d (dPts g.2), .d (dNs (insG 0 g.2)), .d (dPs (usRs g)), .d (dIs (usWs g))]]), (.u 810, .u)] [(810, 110)] ⟨ks rfl (.c .bx), kb 110 rfl (.cons (.cons .dt (.cons .dt (.cons .dt (.cons (.fz rfl (by rw [List.take_length, usRs, List.map_map]; rfl) (by simp [usRs]) (by omega)) (.cons (.fz rfl (by rw [List.take_length, usWs, List.map_map]; rfl) (by simp [usWs]) (by omega)) Ctos.nil))))) .nil), trivial⟩ ?_
    refine .region <| .cons (.mv rfl rfl) <| .cons (.asg rfl rfl) <| .cons (.asg rfl rfl) <| .nil <| ks_n <| .ret ?_
    refine kf_wret [(.t 2, .v (.o (.c (.ptr (rT g))))), (.t 3, .v (.o (bo1 true)))] (Wk.keep [] rfl rfl ⟨ks rfl (.c (.frzP _ _ _ _ _ _ _ _ rfl (show _ = dR [rT g] from rfl) rfl rfl rfl)), ks rfl .dt, trivial⟩) rfl ?_ nobox
    rfl

theorem l6Uses_fn {g : Prg} (hs : szG g ≤ 1073741824) (hS : prgS g = true) : Fn Tryz.prog 51 [] [ad (rG g)] (.o (vD (dUs (usL g)))) [] := by
 have hL := insG_len hS
 have hv := (prgS_iff.1 hS).1
 refine Fn.code0 Tryz.func51 rfl rfl rfl rfl ?_
 refine .seq <| .region <| .cons (St1.boxP rfl rfl rfl rfl rfl rfl) <| .cons (.asg rfl rfl) <| .nil <| ks_n <| .seq <| .region <| .cons (St1.lit0 (k' := 109) (e := 71) (sz := 2) (b := true) rfl rfl rfl rfl (by kernel_rfl) rfl rfl) ?_
 refine .cons (.asg rfl rfl) <| .nil <| ks_n <| .seq <| .region <| .cons (.lN 2 rfl rfl rfl) <| .cons (.cP [.tmp 10] rfl rfl rfl rfl (l4Instances_fn hS) rfl) ?_
 refine .cons (.asg rfl rfl) <| .nil <| ks_n <| .seq <| .seq <| .region <| .cons (.asg rfl rfl) <| .nil <| ks_n <| .block ?_
 refine .loopK (fun m σ => (∃ i : Nat, m = (insG 0 g.2).length - i ∧ (i ≤ (insG 0 g.2).length) ∧ (True) ∧ σ = [(.t 1, .v (.o (.c (.ptr (rG g))))), (.t 3, .v (.o (.c (.own 110 2 (i))))), (.t 4, .v (.o (vD (dNs (insG 0 g.2))))), (.t 5, .v (.o (nat1 (i : Nat)))), (.b 110, .b 71 2 (dR (((insG 0 g.2).take i).map (fun x => rU (usG g x))))), (.u 110, .u)])) [(110, 109)] ⟨0, rfl, by omega, trivial, rfl⟩ ⟨ks rfl .dt, ks rfl (.c .ow), ks rfl .dt, ks rfl .dt, kb 109 rfl (.dt rfl (by first | exact dR_take (fun x => rU (usG g x)) hx1 | exact dR_take1 (fun x => rU (usG g x)) hx1 | rfl | (simp [dR]; done))), trivial⟩ ?_
 rintro m σ ⟨i, hm0, hi, hF, rfl⟩
 refine .seq <| .seq <| .region <| .cons (.mv rfl rfl) <| .cons (.mv rfl rfl) <| .cons (.ln 86 3 40 rfl rfl rfl) <| .cons (.ls rfl rfl rfl) <| .nil <| ks_n ?_
 refine .cD rfl (fun h15 => ?_) (fun h15 => ?_)
 ·skip
  obtain ⟨x, hx1⟩ : ∃ x_, (insG 0 g.2)[i]? = some x_ := ⟨_, List.getElem?_eq_getElem (by omega)⟩
  obtain ⟨k, c, q, hI⟩ := ins_at hS (List.mem_of_getElem? hx1)
  have hsz := stI_sz hI
  have hpt := npR_pt hI.pt
  obtain ⟨hC, hW⟩ := cls_yes hI.ok
  refine .skip <| ks_n <| .seq <| .block <| .seq ?_
  refine ACode.drawK (by kernel_rfl) (by kernel_rfl) ?_
  refine .cons (.fP 0 0 false rfl rfl) <| .cons (.l1 1 rfl rfl) <| .cons (.fP 1 0 false rfl rfl) <| .cons (.l1 1 rfl rfl) <| .cons (.mv rfl rfl) <| .cons (.mv rfl rfl) <| .cons (.xL 86 3 40 rfl rfl rfl rfl rfl) ?_
  refine .cons (.fP 0 0 false rfl rfl) <| .cons (.l1 1 rfl rfl) <| .cons (.xL 104 2 48 (i := k) rfl rfl rfl rfl hI.e1 (map_at hI.hq)) ?_
  refine .cons (.fP 1 0 false rfl rfl) <| .cons (.l1 1 rfl rfl) <| .cons (.mv rfl rfl) <| .cons (.mv rfl rfl) <| .cons (.xL 86 3 40 rfl rfl rfl rfl rfl) ?_
  refine .cons (.fP 1 0 false rfl rfl) <| .cons (.l1 1 rfl rfl) <| .cons (.xL 96 9 152 (i := c) rfl rfl rfl rfl hI.e2 (map_at hI.hs)) ?_
  refine .cons (.lN 9 rfl rfl rfl) <| .cons (.mv rfl rfl) <| .cons (.mv rfl rfl) <| .cons (.xL 86 3 40 rfl rfl rfl rfl rfl) ?_
  refine .cons (.fP 2 0 false rfl rfl) <| .cons (.l1 1 rfl rfl) <| .cons (.cP [.tmp 20, .tmp 37, .tmp 42] rfl rfl rfl rfl (l4Cells_fn hv hI.sv (by omega) hpt.1 hpt.2) rfl) ?_
  refine .cons (.mv rfl rfl) <| .cons (.ex rfl rfl rfl) <| .cons (.ex rfl rfl rfl) <| .cons (.ex rfl rfl rfl) <| .cons (.asg rfl rfl) <| .cons (.asg rfl rfl) <| .cons (.asg rfl rfl) ?_
  refine .nil ⟨by kernel_rfl, ?_⟩
  refine ks_n ?_
  refine .keep [(.t 1, .v (.o (.c (.ptr (rG g))))), (.t 3, .v (.o (.c (.own 770 2 (i))))), (.t 4, .v (.o (vD (dNs (insG 0 g.2))))), (.t 5, .v (.o (nat1 (i : Nat)))), (.t 6, .v (.o (vD (dIs (usR g x))))), (.t 7, .v (.o (nat1 (usW g x)))), (.b 770, .b 71 2 (dR (((insG 0 g.2).take i).map (fun x => rU (usG g x))))), (.u 770, .u)] [(770, 110)] ⟨ks rfl .dt, ks rfl (.c .ow), ks rfl .dt, ks rfl .dt, ks rfl (.dt (by rw [hC]; rfl)), ks rfl (.dt (by rw [hW]; rfl)), kb 110 rfl (.dt rfl (by first | exact dR_take (fun x => rU (usG g x)) hx1 | exact dR_take1 (fun x => rU (usG g x)) hx1 | rfl | (simp [dR]; done))), trivial⟩ ?_
  refine .region <| .cons (.mv rfl rfl) <| .cons (.mv rfl rfl) <| .cons (.mv rfl rfl) <| .cons (.bu [(0, .tmp 48), (1, .tmp 49)] [(0, 1), (1, 1)] [.slice none 0 0, .int .i64 0] rfl rfl rfl rfl rfl) <| .cons (.li 71 1 0 [.tmp 50] rfl rfl rfl rfl rfl rfl) <| .cons (St1.appB (k' := 152) (e := 71) (sz := 1) (by' := 32) rfl rfl rfl rfl rfl (by kernel_rfl) rfl rfl rfl rfl (by first | (simp [dR]; done) | (simp [dR]; omega)) (by first | (simp [dR]; done) | (simp [dR]; omega)) rfl rfl rfl) ?_
  refine .cons (.asg rfl rfl) <| .nil <| kb_n <| ks_n <| .region <| .cons (.mv rfl rfl) <| .cons (.pl rfl rfl rfl) <| .cons (.asg rfl rfl) <| .nil ?_
  refine kl_k [(110, 152)] ⟨i + 1, rfl, by omega, trivial, rfl⟩ ⟨ks rfl .dt, ks rfl (.c .ow), ks rfl .dt, ks rfl .dt, kb 152 rfl (.dt rfl (by first | exact dR_take (fun x => rU (usG g x)) hx1 | exact dR_take1 (fun x => rU (usG g x)) hx1 | rfl | (simp [dR]; done))), trivial⟩
 ·skip
  obtain rfl : i = (insG 0 g.2).length := by omega
  refine .exit <| ks_e <| kl_e <| kb_hit <| ks_n <| .seq <| .region <| .cons (.mv rfl rfl) <| .cons (.asg rfl rfl) <| .nil <| ks_n <| .ret ?_
  refine kf_wret [(.t 2, .v (.o (vD (dUs (usL g)))))] (Wk.keep [] rfl rfl ⟨ks rfl (.c (.fz rfl (by rw [List.take_length, usL, List.map_map]; rfl) (by simp [usL]) (by omega))), trivial⟩) rfl ?_ nobox
  rfl
theorem any_no {α : Type} {l : List α} {p : α → Bool} (h : ∀ (j : Nat) m, j < l.length → l[j]? = some m → p m = false) : l.any p = false := by
  rw [Bool.eq_false_iff]
  intro h2
  obtain ⟨m, hm, h3⟩ := List.any_eq_true.1 h2
  obtain ⟨j, hj⟩ := List.mem_iff_getElem?.1 hm
  rw [h j m (List.getElem?_eq_some_iff.1 hj).1 hj] at h3; cases h3
theorem any_yes {α : Type} {l : List α} {p : α → Bool} {j : Nat} {m : α} (h : l[j]? = some m) (h2 : p m = true) : l.any p = true := List.any_eq_true.2 ⟨m, List.mem_of_getElem? h, h2⟩

theorem l5Flagged_fn (l : List Bool) (hl : l.length ≤ 1000000) : Fn Tryz.prog 45 [] [vD (dBs l)] (.o (vD (dIs (flagV l)))) [] := by
 refine Fn.code0 Tryz.func45 rfl rfl rfl rfl ?_
 refine .seq <| .region <| .cons (.asg rfl rfl) <| .nil <| ks_n <| .seq <| .region <| .cons (St1.lit0 (k' := 105) (e := 3) (sz := 1) (b := true) rfl rfl rfl rfl (by kernel_rfl) rfl rfl) ?_
 refine .cons (.asg rfl rfl) <| .nil <| ks_n <| .seq <| .seq <| .region <| .cons (.asg rfl rfl) <| .nil <| ks_n <| .block ?_
 refine .loopK (fun m σ => (∃ (i : Nat) (o : List Int), m = l.length - i ∧ (i ≤ l.length) ∧ (flagN l i = o) ∧ (o.length ≤ i) ∧ σ = [(.t 0, .v (.o (vD (dBs l)))), (.t 3, .v (.o (.c (.own 110 1 (o.length))))), (.t 4, .v (.o (nat1 (i : Nat)))), (.b 110, .b 3 1 (dR (o.map rI))), (.u 110, .u)])) [(110, 105)] ⟨0, [], rfl, by omega, rfl, by simp, rfl⟩ ⟨ks rfl .dt, ks rfl (.c .ow), ks rfl .dt, kb 105 rfl (.dt rfl (by first | rfl | (simp [dR, rI, dI]; done) | (simp [dR, rI]; done) | (simp [dR]; rfl))), trivial⟩ ?_
 rintro m σ ⟨i, o, hm0, hi, hE, ho, rfl⟩
 refine .seq <| .seq <| .region <| .cons (.mv rfl rfl) <| .cons (.mv rfl rfl) <| .cons (.ln 4 1 1 rfl rfl rfl) <| .cons (.ls rfl rfl rfl) <| .nil <| ks_n ?_
 refine .cD rfl (fun h9 => ?_) (fun h9 => ?_)
 ·skip
  obtain ⟨b, hb1⟩ : ∃ x_, l[i]? = some x_ := ⟨_, List.getElem?_eq_getElem (by omega)⟩
  refine .skip <| ks_n <| .seq <| .block <| .seq <| .region <| .cons (.mv rfl rfl) <| .cons (.mv rfl rfl) <| .cons (.xL 4 1 1 rfl rfl rfl rfl rfl (map_at hb1)) ?_
  refine .cons (.l1 1 rfl rfl) <| .nil <| ks_n ?_
  refine ACode.condT rfl (fun h15 => ?_) (fun h15 => ?_)
  ·try simp only [zs1, zs2, zs3, zs4, zs5, zs6, zs7] at h15
   refine .region <| .cons (.mv rfl rfl) <| .cons (.mv rfl rfl) <| .cons (.li 3 0 0 [.tmp 17] rfl rfl rfl rfl rfl rfl) <| .cons (St1.appB (k' := 119) (e := 3) (sz := 0) (by' := 8) rfl rfl rfl rfl rfl (by kernel_rfl) rfl rfl rfl rfl (by first | (simp [dR]; done) | (simp [dR]; omega)) (by first | (simp [dR]; done) | (simp [dR]; omega)) rfl rfl rfl) ?_
   refine .cons (.asg rfl rfl) <| .nil <| kb_n <| ks_n <| .region <| .cons (.mv rfl rfl) <| .cons (.pl rfl rfl rfl) <| .cons (.asg rfl rfl) <| .nil ?_
   refine kl_k [(110, 119)] ⟨i + 1, o ++ [(i : Int)], rfl, by omega, by rw [flagN_next hb1, if_pos h15, hE], by rw [List.length_append, List.length_singleton]; omega, rfl⟩ ⟨ks rfl .dt, ks rfl (.c .ow), ks rfl .dt, kb 119 rfl (.dt rfl (by first | rfl | (simp [dR, rI, dI]; done) | (simp [dR, rI]; done) | (simp [dR]; rfl))), trivial⟩
  ·try simp only [zs1, zs2, zs3, zs4, zs5, zs6, zs7] at h15
   refine .skip <| kb_n <| ks_n <| .region <| .cons (.mv rfl rfl) <| .cons (.pl rfl rfl rfl) <| .cons (.asg rfl rfl) <| .nil ?_
   refine kl_k [(110, 110)] ⟨i + 1, o, rfl, by omega, by rw [flagN_next hb1, if_neg (by rw [h15]; simp), hE], by omega, rfl⟩ ⟨ks rfl .dt, ks rfl (.c .ow), ks rfl .dt, kb 110 rfl (.dt rfl (by first | rfl | (simp [dR, rI, dI]; done) | (simp [dR, rI]; done) | (simp [dR]; rfl))), trivial⟩
 ·skip
  obtain rfl : i = l.length := by omega
  refine .exit <| ks_e <| kl_e <| kb_hit <| ks_n <| .seq <| .region <| .cons (.mv rfl rfl) <| .cons (.asg rfl rfl) <| .nil <| ks_n <| .ret ?_
  refine kf_wret [(.t 2, .v (.o (vD (dIs (flagV l)))))] (Wk.keep [] rfl rfl ⟨ks rfl (.c (.fz rfl (by rw [flagV, hE]) (by rw [flagV, hE, List.length_map]) (by omega))), trivial⟩) rfl ?_ nobox
  rfl

theorem l6Has_fn (l : List Int) (n : Int) (hl : l.length ≤ 1099511627776) : Fn Tryz.prog 35 [] [vD (dIs l), nat1 n] (.o (bo1 (hasV l n))) [] := by
  refine Fn.code0 Tryz.func35 rfl rfl rfl rfl ?_
  refine .seq <| .region <| .cons (.asg rfl rfl) <| .nil <| ks_n <| .seq <| .seq <| .region <| .cons (.asg rfl rfl) <| .nil <| ks_n <| .block ?_
  refine .loopK (fun m σ => (∃ i : Nat, m = l.length - i ∧ (i ≤ l.length) ∧ (∀ j m, j < i → l[j]? = some m → decide (m = n) = false) ∧ σ = [(.t 0, .v (.o (vD (dIs l)))), (.t 1, .v (.o (nat1 n))), (.t 4, .v (.o (bo1 false))), (.t 5, .v (.o (nat1 (i : Nat))))])) [] ⟨0, rfl, by omega, fun j m hj _ => absurd hj (by omega), rfl⟩ ⟨ks rfl .dt, ks rfl .dt, ks rfl .dt, ks rfl .dt, trivial⟩ ?_
  rintro m σ ⟨i, hm0, hi, hF, rfl⟩
  refine .seq <| .seq <| .region <| .cons (.mv rfl rfl) <| .cons (.mv rfl rfl) <| .cons (.ln 3 1 8 rfl rfl rfl) <| .cons (.ls rfl rfl rfl) <| .nil <| ks_n ?_
  refine .cD rfl (fun h9 => ?_) (fun h9 => ?_)
  · skip
    obtain ⟨x, hx1⟩ : ∃ x_, l[i]? = some x_ := ⟨_, List.getElem?_eq_getElem (by omega)⟩
    refine .skip <| ks_n <| .seq <| .block <| .seq <| .region <| .cons (.mv rfl rfl) <| .cons (.mv rfl rfl) <| .cons (.xL 3 1 8 rfl rfl rfl rfl rfl) ?_
    refine .cons (.l1 1 rfl rfl) <| .cons (.mv rfl rfl) <| .cons (.eq rfl rfl rfl) <| .nil <| ks_n ?_
    refine .cD rfl (fun h17 => ?_) (fun h17 => ?_)
    · skip
      refine .seq <| .region <| .cons (.asg rfl rfl) <| .nil <| ks_n <| .ret <| kb_r <| ks_r <| kl_r <| kb_r <| ks_r ?_
      refine kf_ret rfl ?_ nobox
      exact leafB (any_yes hx1 (decide_eq_true (by omega))).symm
    · skip
      refine .skip <| kb_n <| ks_n <| .region <| .cons (.mv rfl rfl) <| .cons (.pl rfl rfl rfl) <| .cons (.asg rfl rfl) <| .nil ?_
      refine kl_k [] ⟨i + 1, rfl, by omega, fun j m hj hm => (Nat.lt_succ_iff_lt_or_eq.1 hj).elim (fun h => hF j m h hm) (fun h => by subst h; rw [hx1] at hm; cases hm; exact decide_eq_false (by omega)), rfl⟩ ⟨ks rfl .dt, ks rfl .dt, ks rfl .dt, ks rfl .dt, trivial⟩
  · skip
    refine .exit <| ks_e <| kl_e <| kb_hit <| ks_n <| .seq <| .region <| .cons (.asg rfl rfl) <| .nil <| ks_n <| .ret ?_
    refine kf_ret rfl ?_ nobox
    exact leafB (any_no fun j m hj hm => hF j m (by omega) hm).symm

theorem isPart_fn {g : Prg} (hl : g.2.length ≤ 1099511627776) (n : Int) : Fn Tryz.prog 46 [] [ad (rG g), nat1 n] (.o (bo1 (inB n 0 ((g.2.length : Nat) - 1)))) [] := by
  refine Fn.code0 Tryz.func46 rfl rfl rfl rfl ?_
  refine .seq <| .region <| .cons (St1.boxP rfl rfl rfl rfl rfl rfl) <| .cons (.asg rfl rfl) <| .nil <| ks_n <| .seq <| .region <| .cons (.mv rfl rfl) <| .cons (.fP 1 0 false rfl rfl) <| .cons (.l1 1 rfl rfl) <| .cons (.ln 104 2 48 rfl rfl rfl) <| .cons (.sb rfl rfl rfl) <| .cons (.cP [.tmp 5, .const (.int .i64 (0)), .tmp 9] rfl rfl rfl rfl (within_fn _ 0 _) rfl) ?_
  refine .cons (.asg rfl rfl) <| .nil <| ks_n <| .ret ?_
  refine kf_ret rfl ?_ nobox
  rfl
abbrev Dpn := Int × Int × Int
def rD (d : Dpn) : List D := [dI d.1, dI d.2.1, dI d.2.2]
def dDs (l : List Dpn) : D := .list 3 (l.map rD)
def kindU (x y : List Int × Int) : Int := (if hasV y.1 x.2 = true then 1 else 0) + (if hasV x.1 y.2 = true then 2 else 0) + (if x.2 = y.2 then 4 else 0)
theorem kindU_bd {x y : List Int × Int} : 0 ≤ kindU x y ∧ kindU x y ≤ 7 := by unfold kindU; split <;> split <;> split <;> omega
def kindN (g : Prg) (i k : Nat) : Int := match (usL g)[i]?, (usL g)[k]? with | some x, some y => kindU x y | _, _ => 0
theorem kindN_eq {g : Prg} {i k : Nat} {x y : List Int × Int} (hx : (usL g)[i]? = some x) (hy : (usL g)[k]? = some y) : kindN g i k = kindU x y := by rw [kindN, hx, hy]
theorem kindN_bd {g : Prg} {i k : Nat} : 0 ≤ kindN g i k ∧ kindN g i k ≤ 7 := by
  unfold kindN; split
  · exact kindU_bd
  · omega
def rowN (g : Prg) (i m : Nat) : List Dpn := ((List.range m).filter fun k => decide (i < k) && decide (kindN g i k ≠ 0)).map fun (k : Nat) => ((i : Int), (k : Int), kindN g i k)
def depsN (g : Prg) (n : Nat) : List Dpn := (List.range n).flatMap fun i => rowN g i (insG 0 g.2).length
def depsG (g : Prg) : List Dpn := depsN g (insG 0 g.2).length
theorem rowN_len {g : Prg} {i m : Nat} : (rowN g i m).length ≤ m := by
  rw [rowN, List.length_map]
  exact Nat.le_trans (List.length_filter_le _ _) (by simp)
theorem rowN_zero {g : Prg} {i : Nat} : rowN g i (i + 1) = [] := by
  rw [rowN, List.filter_eq_nil_iff.2]; · rfl
  intro k hk
  have := List.mem_range.1 hk
  simp; omega
theorem rowN_yes {g : Prg} {i k : Nat} (h : i < k) (hk : kindN g i k ≠ 0) : rowN g i (k + 1) = rowN g i k ++ [((i : Int), (k : Int), kindN g i k)] := by
  rw [rowN, List.range_succ, List.filter_append, List.map_append, List.filter_cons_of_pos (by simp [h, hk])]; rfl
theorem rowN_no {g : Prg} {i k : Nat} (hk : kindN g i k = 0) : rowN g i (k + 1) = rowN g i k := by
  rw [rowN, List.range_succ, List.filter_append, List.map_append, List.filter_cons_of_neg (by simp [hk])]; simp [rowN]
theorem depsN_next {g : Prg} {n : Nat} : depsN g (n + 1) = depsN g n ++ rowN g n (insG 0 g.2).length := by
  rw [depsN, List.range_succ, List.flatMap_append]; simp [depsN]
theorem depsN_len {g : Prg} (h : (insG 0 g.2).length ≤ 120) : ∀ {n : Nat}, (depsN g n).length ≤ 120 * n
  | 0 => by simp [depsN]
  | n + 1 => by
    have h1 := depsN_len h (n := n)
    have h2 := rowN_len (g := g) (i := n) (m := (insG 0 g.2).length)
    rw [depsN_next, List.length_append]; omega
theorem deps_mem {g : Prg} {d : Dpn} (h : d ∈ depsG g) : ∃ i k : Nat, d = ((i : Int), (k : Int), kindN g i k) ∧ i < k ∧ k < (insG 0 g.2).length ∧ kindN g i k ≠ 0 := by
  rw [depsG, depsN, List.mem_flatMap] at h
  obtain ⟨i, hi, h⟩ := h
  rw [rowN, List.mem_map] at h
  obtain ⟨k, hk, rfl⟩ := h
  rw [List.mem_filter, Bool.and_eq_true, decide_eq_true_eq, decide_eq_true_eq] at hk
  exact ⟨i, k, rfl, hk.2.1, List.mem_range.1 hk.1, hk.2.2⟩
theorem usL_at {g : Prg} {i : Nat} {x : Ins} (hx : (insG 0 g.2)[i]? = some x) : (usL g)[i]? = some (usG g x) := by rw [usL, List.getElem?_map, hx]; rfl
theorem usRs_at {g : Prg} {i : Nat} {x : Ins} (hx : (insG 0 g.2)[i]? = some x) : (usRs g)[i]? = some (usR g x) := by rw [usRs, List.getElem?_map, hx]; rfl
theorem usWs_at {g : Prg} {i : Nat} {x : Ins} (hx : (insG 0 g.2)[i]? = some x) : (usWs g)[i]? = some (usW g x) := by rw [usWs, List.getElem?_map, hx]; rfl
theorem usL_len {g : Prg} : (usL g).length = (insG 0 g.2).length := List.length_map _

set_option maxHeartbeats 400000 in
theorem nonzero_any (x : Int) (w : World) : Calls Tryz.prog 126 #[.int .i64 x] w fun e w' => e = .returned (.bool (x != 0)) ∧ w = w' := by
  go_enter Tryz.func126, Tryz.ntmps126
  go_wp2
  go_ret
  exact ⟨rfl, rfl⟩
theorem Tryz.egCarry : ∀ args w, (callFunc 126 args).run Tryz.prog w = .ok (.enter 126 args) w := fun _ _ => by kernel_rfl
def carry (xs : List Int) : Int := findI (fun x => x != 0) xs
set_option maxHeartbeats 400000 in
theorem implCarry_any (P : Nat → Prop) (a : Option Addr) (n c : Nat) (xs : List Int) (w : World) (hx : Sl Sh.int P w (.slice a n c) xs) :
    Calls Tryz.prog 79 #[.slice a n c] w fun e w' => e = .returned (.int .i64 (carry xs)) ∧ w = w' := by
  go_enter Tryz.func79, Tryz.ntmps79
  go_wp2_with (go_at_call 125; refine (indexFunc_any P 126 #[] Tryz.egCarry (fun x => x != 0) _ _ _ xs _ hx (fun x => nonzero_any x _)).mono ?_; rintro e w' ⟨rfl, rfl⟩)
  go_ret
  exact ⟨rfl, rfl⟩
set_option maxHeartbeats 400000 in
theorem specCarry_any (P : Nat → Prop) (a : Option Addr) (n c : Nat) (xs : List Int) (w : World) (hx : Sl Sh.int P w (.slice a n c) xs) :
    Calls Tryz.prog 44 #[.slice a n c] w fun e w' => e = .returned (.int .i64 (carry xs)) ∧ w = w' := by
  have hle := hx.le
  have hlen := hx.len
  have Hlen := hid hlen; clear hlen
  go_enter Tryz.func44, Tryz.ntmps44
  go_wp2
  go_loop [3] (fun i => ∃ k : Nat, k ≤ n ∧ i = .int .i64 k ∧ Hid (∀ x ∈ xs.take k, (x != 0) = false)) (fun i => n - (intOf i).toNat)
  case atStart => exact ⟨0, Nat.zero_le _, rfl, hid (by simp)⟩
  case round =>
    obtain ⟨k, hk, rfl, ht⟩ := hrel
    by_cases hlt : k < n
    · obtain ⟨ba, oa, ha, _, _, hca⟩ := hx.intAt (by omega)
      subst ha
      have h1 := hca k hlt
      generalize hy : xs.getD k 0 = y at h1
      have Hy := hid hy; clear hy hca
      cases hq : (y != 0) with
      | true =>
        have Hq : Hid ((y != 0) = true) := hid hq
        go_wp2
        go_ret
        exact ⟨ret_int (findI_hit (p := fun x => x != 0) ht.out (by rw [Hlen.out]; exact hlt) (by rw [Hy.out]; exact Hq.out)).symm, rfl⟩
      | false =>
        have Hq : Hid ((y != 0) = false) := hid hq
        go_wp2
        exact ⟨⟨k + 1, by omega, rfl, hid (take_step (p := fun x => x != 0) ht.out (by rw [Hlen.out]; exact hlt) (by rw [Hy.out]; exact Hq.out))⟩, by simp [intOf]; omega⟩
    · have : k = n := by omega
      subst this
      go_wp2
      go_ret
      exact ⟨ret_int (findI_none (p := fun x => x != 0) (by have h := ht.out; rw [List.take_of_length_le (by rw [Hlen.out]; omega)] at h; exact h)).symm, rfl⟩
/-- The difference of two points. -/
def subL (y x : List Int) : List Int := List.zipWith (· - ·) y x
theorem subL_len {y x : List Int} (h : y.length = x.length) : (subL y x).length = y.length := by rw [subL, List.length_zipWith, h, Nat.min_self]
theorem subL_take {y x : List Int} {k : Nat} {a b : Int} (hy : y[k]? = some a) (hx : x[k]? = some b) : (subL y x).take (k + 1) = (subL y x).take k ++ [a - b] := by
  rw [List.take_add_one, subL, List.getElem?_zipWith, hy, hx]; rfl
def dstD (g : Prg) (part : Int) (d : Dpn) : Option (List Int) :=
  match (insG 0 g.2)[d.1.toNat]?, (insG 0 g.2)[d.2.1.toNat]? with
  | some x, some y => if x.1 = part ∧ y.1 = part then some (subL y.2.2 x.2.2) else none
  | _, _ => none
def dstN (g : Prg) (part : Int) (j : Nat) : List (List Int) := ((depsG g).take j).filterMap (dstD g part)
def dstG (g : Prg) (part : Int) : List (List Int) := (depsG g).filterMap (dstD g part)
theorem dstN_next {g : Prg} {part : Int} {j : Nat} {d : Dpn} (h : (depsG g)[j]? = some d) : dstN g part (j + 1) = dstN g part j ++ (dstD g part d).toList := by
  rw [dstN, List.take_add_one, h, List.filterMap_append]
  cases hd : dstD g part d with
  | none => simp [hd, dstN]
  | some v => simp [hd, dstN]
theorem dstN_end {g : Prg} {part : Int} {j : Nat} (h : (depsG g).length ≤ j) : dstN g part j = dstG g part := by rw [dstN, List.take_of_length_le h]; rfl
theorem dstD_eq {g : Prg} {part : Int} {d : Dpn} {i k : Nat} {x y : Ins} (h1 : d.1 = (i : Int)) (h2 : d.2.1 = (k : Int)) (hx : (insG 0 g.2)[i]? = some x) (hy : (insG 0 g.2)[k]? = some y) :
    dstD g part d = if x.1 = part ∧ y.1 = part then some (subL y.2.2 x.2.2) else none := by
  rw [dstD, h1, h2, Int.toNat_natCast, Int.toNat_natCast, hx, hy]
theorem dstN_len {g : Prg} {part : Int} {j : Nat} : (dstN g part j).length ≤ j := by
  rw [dstN]
  exact Nat.le_trans (List.length_filterMap_le _ _) (by rw [List.length_take]; omega)
/-- Neighbours that are alike become one: of the first m. -/
def kpL (ls : List (List Int)) : Nat → List (List Int)
  | 0 => []
  | m + 1 => if m ≠ 0 ∧ ls.getD m [] = ls.getD (m - 1) [] then kpL ls m else kpL ls m ++ [ls.getD m []]
def kpV (ls : List (List Int)) : List (List Int) := kpL ls ls.length
theorem kpL_len (ls : List (List Int)) : ∀ m, (kpL ls m).length ≤ m
  | 0 => Nat.le_refl _
  | m + 1 => by
    have := kpL_len ls m
    rw [kpL]; split
    · omega
    · rw [List.length_append, List.length_singleton]; omega
theorem getD_atL {α : Type} {l : List α} {i : Nat} {x d : α} (h : l[i]? = some x) : l.getD i d = x := by rw [List.getD, h]; rfl
theorem kpL_dup {ls : List (List Int)} {m : Nat} {x y : List Int} (h0 : m ≠ 0) (hx : ls[m]? = some x) (hy : ls[m - 1]? = some y) (h : x = y) : kpL ls (m + 1) = kpL ls m := by
  rw [kpL, if_pos ⟨h0, by rw [getD_atL hx, getD_atL hy, h]⟩]
theorem kpL_new {ls : List (List Int)} {m : Nat} {x y : List Int} (hx : ls[m]? = some x) (hy : ls[m - 1]? = some y) (h : ¬ x = y) : kpL ls (m + 1) = kpL ls m ++ [x] := by
  rw [kpL, if_neg (fun q => h (by rw [getD_atL hx, getD_atL hy] at q; exact q.2)), getD_atL hx]
theorem kpL_one {ls : List (List Int)} (h : 1 ≤ ls.length) : kpL ls 1 = ls.take 1 := by
  cases ls with
  | nil => simp at h
  | cons x l => simp [kpL]
theorem mem_kpL {ls : List (List Int)} {x : List Int} : ∀ m, m ≤ ls.length → (x ∈ kpL ls m ↔ x ∈ ls.take m)
  | 0, _ => by simp [kpL]
  | m + 1, h => by
    have ih := mem_kpL (ls := ls) (x := x) m (by omega)
    have hx : ls[m]? = some (ls.getD m []) := by rw [List.getD, List.getElem?_eq_getElem (by omega)]; rfl
    rw [List.take_add_one, hx, kpL]
    split
    · rename_i hd
      rw [ih, List.mem_append]
      refine ⟨.inl, fun h2 => ?_⟩
      rcases h2 with h2 | h2
      · exact h2
      · have e : x = ls.getD m [] := by simpa using h2
        rw [e, hd.2]
        have hy : ls[m - 1]? = some (ls.getD (m - 1) []) := by rw [List.getD, List.getElem?_eq_getElem (by omega)]; rfl
        refine List.mem_of_getElem? (i := m - 1) ?_
        rw [List.getElem?_take, if_pos (by omega)]; exact hy
    · rw [List.mem_append, List.mem_append, ih]; simp
theorem mem_kpV {ls : List (List Int)} {x : List Int} : x ∈ kpV ls ↔ x ∈ ls := by rw [kpV, mem_kpL _ (Nat.le_refl _), List.take_length]
/-- The row while it is made shorter. -/
def rowsK (ls : List (List Int)) (m : Nat) : List (List Int) := kpL ls m ++ ls.drop (kpL ls m).length
theorem rowsK_len {ls : List (List Int)} {m : Nat} (h : m ≤ ls.length) : (rowsK ls m).length = ls.length := by
  have := kpL_len ls m
  rw [rowsK, List.length_append, List.length_drop]; omega
theorem rowsK_at {ls : List (List Int)} {m i : Nat} {x : List Int} (h : ls[i]? = some x) (hi : (kpL ls m).length ≤ i) : (rowsK ls m)[i]? = some x := by
  rw [rowsK, List.getElem?_append_right hi, List.getElem?_drop, show (kpL ls m).length + (i - (kpL ls m).length) = i by omega]; exact h
theorem rowsK_set {ls : List (List Int)} {m : Nat} {x : List Int} (h : kpL ls (m + 1) = kpL ls m ++ [x]) (hl : (kpL ls m).length < ls.length) : (rowsK ls m).set (kpL ls m).length x = rowsK ls (m + 1) := by
  rw [rowsK, rowsK, h, List.set_append, if_neg (by omega), Nat.sub_self, List.drop_eq_getElem_cons hl, List.set_cons_zero, List.length_append, List.length_singleton, List.append_assoc]; rfl
theorem rowsK_take {ls : List (List Int)} {m : Nat} : (rowsK ls m).take (kpL ls m).length = kpL ls m := by rw [rowsK, List.take_left]
theorem dR_setP (l : List (List Int)) (i : Nat) (x y : List Int) : (dR (l.map rIs)).set i (place1 ((rIs x).map C.d) 0 (vD (dIs y)).cells) = dR ((l.set i y).map rIs) := by
  unfold dR
  rw [List.map_set, List.map_set]
  rfl
theorem dR_takeP (l : List (List D)) (i : Nat) : (dR l).take i = dR (l.take i) := by rw [dR, dR, List.map_take]
/-- Which loops carry a distance. -/
def carS (fl : List Bool) (d : List Int) : List Bool := if 0 ≤ carry d then fl.set (carry d).toNat true else fl
def carF (n : Nat) (l : List (List Int)) : List Bool := l.foldl carS (List.replicate n false)
theorem carS_len {fl : List Bool} {d : List Int} : (carS fl d).length = fl.length := by
  rw [carS]; split
  · rw [List.length_set]
  · rfl
theorem carF_len {n : Nat} {l : List (List Int)} : (carF n l).length = n := by
  have key : ∀ (l : List (List Int)) (fl : List Bool), (l.foldl carS fl).length = fl.length := by
    intro l
    induction l with
    | nil => intro fl; rfl
    | cons d l ih => intro fl; rw [List.foldl_cons, ih, carS_len]
  rw [carF, key, List.length_replicate]
theorem carF_next {n j : Nat} {l : List (List Int)} {d : List Int} (h : l[j]? = some d) : carF n (l.take (j + 1)) = carS (carF n (l.take j)) d := by
  rw [carF, List.take_add_one, h, List.foldl_append]; rfl
theorem carF_at {n : Nat} {l : List (List Int)} {i : Nat} (hi : i < n) : (carF n l).getD i false = l.any fun d => decide (carry d = (i : Int)) := by
  have key : ∀ (l : List (List Int)) (fl : List Bool), i < fl.length → (l.foldl carS fl).getD i false = (fl.getD i false || l.any fun d => decide (carry d = (i : Int))) := by
    intro l
    induction l with
    | nil => intro fl _; simp
    | cons d l ih =>
      intro fl hf
      rw [List.foldl_cons, ih _ (by rw [carS_len]; exact hf), List.any_cons, ← Bool.or_assoc]
      congr 1
      rw [carS]
      split
      · rename_i h0
        rw [List.getD, List.getElem?_set]
        by_cases e : (carry d).toNat = i
        · rw [if_pos e, if_pos (by omega), decide_eq_true (by omega)]; simp
        · rw [if_neg e, decide_eq_false (by omega)]; simp [List.getD]
      · rename_i h0
        rw [decide_eq_false (by omega)]; simp
  rw [carF, key _ _ (by rw [List.length_replicate]; exact hi)]
  simp [List.getD, hi]
theorem flagV_congr {a b : List Bool} (h : ∀ i, a.getD i false = b.getD i false) : flagV a = flagV b := by
  have ext : ∀ (l : List Bool) (m : Nat), flagN l (l.length + m) = flagV l := by
    intro l m
    induction m with
    | zero => rfl
    | succ m ih =>
      have e : l.getD (l.length + m) false = false := by rw [List.getD, List.getElem?_eq_none (by omega)]; rfl
      rw [← ih, flagN, show l.length + (m + 1) = (l.length + m) + 1 by omega, List.range_succ, List.filter_append, List.map_append, List.filter_cons_of_neg (by rw [e]; simp)]
      simp [flagN]
  have e1 := ext a (b.length)
  have e2 := ext b (a.length)
  rw [← e1, ← e2, Nat.add_comm b.length, flagN, flagN]
  congr 2
  funext i
  exact h i
theorem carry_bd {d : List Int} : carry d = -1 ∨ (0 ≤ carry d ∧ carry d < (d.length : Nat)) := by
  rw [carry, findI]
  split
  · rename_i h
    right
    obtain ⟨x, hx, hp⟩ := List.any_eq_true.1 h
    have := List.findIdx_lt_length_of_exists (p := fun x => x != 0) (xs := d) ⟨x, hx, hp⟩
    omega
  · exact .inl rfl
/-- The same set of distances, all of them short: the same loops. -/
theorem carF_same {n m : Nat} {l l' : List (List Int)} (hl : ∀ d, d ∈ l ↔ d ∈ l') (hn : n ≤ m) (h : ∀ d ∈ l, d.length = n) : ∀ i, (carF n l).getD i false = (carF m l').getD i false := by
  intro i
  have hany : (l.any fun d => decide (carry d = (i : Int))) = l'.any fun d => decide (carry d = (i : Int)) := by
    rw [Bool.eq_iff_iff, List.any_eq_true, List.any_eq_true]
    exact ⟨fun ⟨d, h1, h2⟩ => ⟨d, (hl d).1 h1, h2⟩, fun ⟨d, h1, h2⟩ => ⟨d, (hl d).2 h1, h2⟩⟩
  by_cases h1 : i < n
  · rw [carF_at h1, carF_at (by omega), hany]
  · rw [List.getD, List.getElem?_eq_none (by rw [carF_len]; omega)]
    by_cases h2 : i < m
    · rw [carF_at h2, ← hany]
      symm
      show _ = false
      rw [List.any_eq_false]
      intro d hd
      have := carry_bd (d := d)
      have := h d hd
      simp; omega
    · rw [List.getD, List.getElem?_eq_none (by rw [carF_len]; omega)]
/-- A leaf: one cell, no slice. -/
def nsl : Value → Bool
  | .slice .. => false
  | v => v.oneCell'
theorem nsl_one {v : Value} (h : nsl v = true) : v.oneCell' = true := by
  cases v <;> first | rfl | exact h
/-- The value v reads as x; all of it lies in blocks from lo on, and may be written. -/
inductive DrN (lo : Nat) (w : World) : D → Value → Prop
  | val (v : Value) (h : nsl v = true) : DrN lo w (.val v) v
  | list (sz : Nat) (rows : List (List D)) (a : Option Addr) (n cap b off : Nat) (f : Nat → Nat → Value) (hn : n = rows.length) (h1 : n ≤ cap) (h2 : n ≤ 17592186044416) (h3 : a = none → cap = 0)
      (h4 : 0 < n → a = some ⟨b, off, none⟩) (h5 : ∀ (i : Nat) r, rows[i]? = some r → r.length = sz)
      (h6 : ∀ (i : Nat) r (j : Nat) x, rows[i]? = some r → r[j]? = some x → lo ≤ b ∧ w.cell? ⟨b, off + (i * sz + j), none⟩ = some (f i j) ∧ w.frozen? ⟨b, off + (i * sz + j), none⟩ = false)
      (h7 : ∀ (i : Nat) r (j : Nat) x, rows[i]? = some r → r[j]? = some x → DrN lo w x (f i j)) : DrN lo w (.list sz rows) (.slice a n cap)
section
variable {lo lo' : Nat} {w w' : World} {x : D} {v : Value}
theorem DrN.dr (h : DrN lo w x v) : Dr (fun b => lo ≤ b) w x v := by
  induction h with
  | val v h => exact .val v (nsl_one h)
  | list sz rows a n cap b off f hn h1 h2 h3 h4 h5 h6 h7 ih =>
    exact .list sz rows a n cap b off f hn h1 h2 h3 h4 h5 (fun i r j x hr hx => ⟨(h6 i r j x hr hx).1, (h6 i r j x hr hx).2.1⟩) ih
theorem DrN.one (h : DrN lo w x v) : v.oneCell' = true := h.dr.one
theorem DrN.frame (hs : Same (fun b => lo ≤ b) w w') (h : DrN lo w x v) : DrN lo w' x v := by
  induction h with
  | val v h => exact .val v h
  | list sz rows a n cap b off f hn h1 h2 h3 h4 h5 h6 h7 ih =>
    refine .list sz rows a n cap b off f hn h1 h2 h3 h4 h5 (fun i r j x hr hx => ?_) ih
    obtain ⟨g1, g2, g3⟩ := h6 i r j x hr hx
    exact ⟨g1, hs.cell g1 g2, (World.frozen?_of_block (a := ⟨b, off + (i * sz + j), none⟩) (hs b g1 (World.block_lt_of_cell? _ _ g2))).trans g3⟩
theorem DrN.mono (hl : lo' ≤ lo) (h : DrN lo w x v) : DrN lo' w x v := by
  induction h with
  | val v h => exact .val v h
  | list sz rows a n cap b off f hn h1 h2 h3 h4 h5 h6 h7 ih =>
    exact .list sz rows a n cap b off f hn h1 h2 h3 h4 h5 (fun i r j x hr hx => ⟨Nat.le_trans hl (h6 i r j x hr hx).1, (h6 i r j x hr hx).2⟩) ih
end
/-- The values vs, one by one. -/
def DrNs (lo : Nat) (w : World) (ds : List D) (vs : List Value) : Prop := vs.length = ds.length ∧ ∀ (i : Nat) d u, ds[i]? = some d → vs[i]? = some u → DrN lo w d u
/-- A row of the call's own: its first k rows read as told; what they lead to lies behind it. -/
def Grid (w : World) (g : Nat) (e : TypeId) (sz n k : Nat) (rows : List (List D)) : Prop :=
  ∃ cur : Array Value, w.heap[g]? = some (.cells cur e (0, 0)) ∧ cur.size = n * sz ∧ ∀ (i : Nat) r (j : Nat) x, i < k → rows[i]? = some r → r[j]? = some x → ∃ u, cur[i * sz + j]? = some u ∧ DrN (g + 1) w x u
section
variable {w w' : World} {g : Nat} {e : TypeId} {sz n k : Nat} {rows : List (List D)}
theorem Grid.lt (h : Grid w g e sz n k rows) : g < w.heap.size := by
  obtain ⟨cur, h1, _⟩ := h
  exact (Array.getElem?_eq_some_iff.1 h1).1
theorem Grid.cell (h : Grid w g e sz n k rows) {o : Nat} (ho : o < n * sz) : ∃ u, w.cell? ⟨g, o, none⟩ = some u := by
  obtain ⟨cur, h1, h2, _⟩ := h
  exact ⟨cur[o]'(by omega), by rw [cell_of_row w _ _ _ _ _ h1]; exact Array.getElem?_eq_getElem _⟩
theorem Grid.frozen (h : Grid w g e sz n k rows) (o : Nat) : w.frozen? ⟨g, o, none⟩ = false := by
  obtain ⟨cur, h1, _, _⟩ := h
  simp [World.frozen?, h1]
theorem Grid.done (h : Grid w g e sz n rows.length rows) (hn : n = rows.length) (hb : n ≤ 17592186044416) (hl : ∀ r ∈ rows, r.length = sz) : DrN g w (.list sz rows) (.slice (some ⟨g, 0, none⟩) n n) := by
  have hfr := h.frozen
  obtain ⟨cur, h1, h2, h3⟩ := h
  have hlt : ∀ {i : Nat} {r}, rows[i]? = some r → i < rows.length := fun h => (List.getElem?_eq_some_iff.1 h).1
  refine .list sz rows _ _ _ g 0 (fun i j => cur.getD (i * sz + j) undef) hn (Nat.le_refl _) hb (fun h => by cases h) (fun _ => rfl) (fun i r hr => hl r (List.mem_of_getElem? hr)) (fun i r j x hr hx => ?_) (fun i r j x hr hx => ?_)
  · obtain ⟨u, h4, h5⟩ := h3 i r j x (hlt hr) hr hx
    refine ⟨Nat.le_refl _, ?_, hfr _⟩
    rw [cell_of_row w _ _ _ _ _ h1, Nat.zero_add, h4, Array.getD_eq_getD_getElem?, h4]; rfl
  · obtain ⟨u, h4, h5⟩ := h3 i r j x (hlt hr) hr hx
    rw [Array.getD_eq_getD_getElem?, h4]
    exact h5.mono (Nat.le_succ _)
end

/-- The value v reads as x but for its leaves; all of it lies in blocks of S, and may be written. -/
inductive DrK (S : Nat → Prop) (w : World) : D → Value → Prop
  | val (v u : Value) (h : nsl u = true) : DrK S w (.val v) u
  | list (sz : Nat) (rows : List (List D)) (a : Option Addr) (n cap b off : Nat) (f : Nat → Nat → Value) (hn : n = rows.length) (h1 : n ≤ cap) (h2 : n ≤ 17592186044416)
      (h4 : 0 < n → a = some ⟨b, off, none⟩) (h5 : ∀ (i : Nat) r, rows[i]? = some r → r.length = sz)
      (h6 : ∀ (i : Nat) r (j : Nat) x, rows[i]? = some r → r[j]? = some x → S b ∧ w.cell? ⟨b, off + (i * sz + j), none⟩ = some (f i j) ∧ w.frozen? ⟨b, off + (i * sz + j), none⟩ = false)
      (h7 : ∀ (i : Nat) r (j : Nat) x, rows[i]? = some r → r[j]? = some x → DrK S w x (f i j)) : DrK S w (.list sz rows) (.slice a n cap)
/-- From w to w' leaves in the blocks of S were turned, and new blocks made, no more. -/
structure Marked (S : Nat → Prop) (w w' : World) : Prop where
  os : w'.os = w.os
  tape : w'.tape = w.tape
  output : w'.output = w.output
  size : w.heap.size ≤ w'.heap.size
  old : ∀ b, b < w.heap.size → ¬ S b → w'.heap[b]? = w.heap[b]?
  cell : ∀ b o u, w.cell? ⟨b, o, none⟩ = some u → ∃ u', w'.cell? ⟨b, o, none⟩ = some u' ∧ (u' = u ∨ (nsl u = true ∧ nsl u' = true))
  frz : ∀ b o, b < w.heap.size → w'.frozen? ⟨b, o, none⟩ = w.frozen? ⟨b, o, none⟩
section
variable {S S' : Nat → Prop} {w w' w'' : World} {x : D} {v : Value}
theorem DrN.k {lo : Nat} (h : DrN lo w x v) (hS : ∀ b, lo ≤ b → b < w.heap.size → S b) : DrK S w x v := by
  induction h with
  | val v h => exact .val v v h
  | list sz rows a n cap b off f hn h1 h2 h3 h4 h5 h6 h7 ih =>
    exact .list sz rows a n cap b off f hn h1 h2 h4 h5 (fun i r j x hr hx => ⟨hS b (h6 i r j x hr hx).1 (World.block_lt_of_cell? _ _ (h6 i r j x hr hx).2.1), (h6 i r j x hr hx).2⟩) ih
theorem Marked.refl (S : Nat → Prop) (w : World) : Marked S w w := ⟨rfl, rfl, rfl, Nat.le_refl _, fun _ _ _ => rfl, fun _ _ u h => ⟨u, h, .inl rfl⟩, fun _ _ _ => rfl⟩
theorem Marked.trans (h : Marked S w w') (h' : Marked S w' w'') : Marked S w w'' := by
  refine ⟨h'.os.trans h.os, h'.tape.trans h.tape, h'.output.trans h.output, Nat.le_trans h.size h'.size, fun b hb hS => (h'.old b (Nat.lt_of_lt_of_le hb h.size) hS).trans (h.old b hb hS), fun b o u hu => ?_, fun b o hb => (h'.frz b o (Nat.lt_of_lt_of_le hb h.size)).trans (h.frz b o hb)⟩
  obtain ⟨u1, h1, h2⟩ := h.cell b o u hu
  obtain ⟨u2, h3, h4⟩ := h'.cell b o u1 h1
  refine ⟨u2, h3, ?_⟩
  rcases h2 with rfl | ⟨h2, h5⟩
  · exact h4
  · rcases h4 with rfl | ⟨h4, h6⟩
    · exact .inr ⟨h2, h5⟩
    · exact .inr ⟨h2, h6⟩
theorem Marked.same {B : Nat → Prop} (h : Marked S w w') (hB : ∀ b, B b → b < w.heap.size → ¬ S b) : Same B w w' := fun b hb hl => h.old b hl (hB b hb hl)
/-- A slice whose leaves may be marked. -/
theorem DrK.slice {sz : Nat} {rows : List (List D)} (h : DrK S w (.list sz rows) v) : ∃ ad cap, v = .slice ad rows.length cap ∧ rows.length ≤ 17592186044416 := by
  cases h with
  | list _ _ a n cap b off f hn h1 h2 h4 h5 h6 h7 => subst hn; exact ⟨a, cap, rfl, h2⟩
theorem DrK.at {sz : Nat} {rows : List (List D)} {ad : Option Addr} {n cap : Nat} (h : DrK S w (.list sz rows) (.slice ad n cap)) {i : Nat} {r : List D} (hi : rows[i]? = some r) (hr : 0 < r.length) :
    ∃ b off, ad = some ⟨b, off, none⟩ ∧ S b ∧ r.length = sz ∧ ∀ (j : Nat) x, r[j]? = some x → ∃ u, w.cell? ⟨b, off + (i * sz + j), none⟩ = some u ∧ w.frozen? ⟨b, off + (i * sz + j), none⟩ = false ∧ DrK S w x u := by
  cases h with
  | list _ _ a n cap b off f hn h1 h2 h4 h5 h6 h7 =>
    have hl := (List.getElem?_eq_some_iff.1 hi).1
    exact ⟨b, off, h4 (by omega), (h6 i r 0 _ hi (List.getElem?_eq_getElem hr)).1, h5 i r hi, fun j x hx => ⟨f i j, (h6 i r j x hi hx).2.1, (h6 i r j x hi hx).2.2, h7 i r j x hi hx⟩⟩
end
section
variable {B : Nat → Prop} {w w' : World} {x : D} {v : Value}
end

theorem DrNs.mono {lo lo' : Nat} {w : World} {ds : List D} {vs : List Value} (hl : lo' ≤ lo) (h : DrNs lo w ds vs) : DrNs lo' w ds vs := ⟨h.1, fun i d u hd hu => (h.2 i d u hd hu).mono hl⟩
theorem len_cons {α : Type} {l : List α} {n : Nat} (h : l.length = n + 1) : ∃ x l', l = x :: l' ∧ l'.length = n := by
  cases l with
  | nil => cases h
  | cons x l => exact ⟨x, l, rfl, by simpa using h⟩
theorem len_zero {α : Type} {l : List α} (h : l.length = 0) : l = [] := List.eq_nil_of_length_eq_zero h
/-- Three new blocks: what came in, the answer, the local variable. -/
structure R3 (w : World) (g : Nat) (A B C : List Value) (e1 e2 : TypeId) : Prop where
  a : w.heap[g]? = some (.cells A.toArray e1 (0, 0))
  b : w.heap[g + 1]? = some (.cells B.toArray e2 (0, 0))
  c : w.heap[g + 1 + 1]? = some (.cells C.toArray e2 (0, 0))
section
variable {w w' : World} {g : Nat} {A B C : List Value} {e1 e2 : TypeId}
theorem blk_lt {b : Nat} {o : Obj} (h : w.heap[b]? = some o) : b < w.heap.size := (Array.getElem?_eq_some_iff.1 h).1
theorem R3.c1 (h : R3 w g A B C e1 e2) (j : Nat) {v : Value} (hv : A[j]? = some v) : w.cell? ⟨g, j, none⟩ = some v := by
  rw [cell_of_row w _ _ _ _ _ h.a, List.getElem?_toArray]; exact hv
theorem R3.c2 (h : R3 w g A B C e1 e2) (j : Nat) {v : Value} (hv : B[j]? = some v) : w.cell? ⟨g + 1, j, none⟩ = some v := by
  rw [cell_of_row w _ _ _ _ _ h.b, List.getElem?_toArray]; exact hv
theorem R3.c3 (h : R3 w g A B C e1 e2) (j : Nat) {v : Value} (hv : C[j]? = some v) : w.cell? ⟨g + 1 + 1, j, none⟩ = some v := by
  rw [cell_of_row w _ _ _ _ _ h.c, List.getElem?_toArray]; exact hv
theorem R3.f2 (h : R3 w g A B C e1 e2) (j : Nat) : w.frozen? ⟨g + 1, j, none⟩ = false := by simp [World.frozen?, h.b]
theorem R3.f3 (h : R3 w g A B C e1 e2) (j : Nat) : w.frozen? ⟨g + 1 + 1, j, none⟩ = false := by simp [World.frozen?, h.c]
/-- From block m on what was there stays. -/
structure Past (m : Nat) (w w' : World) : Prop where
  size : w.heap.size ≤ w'.heap.size
  same : ∀ b, m ≤ b → b < w.heap.size → w'.heap[b]? = w.heap[b]?
theorem Past.refl (m : Nat) (w : World) : Past m w w := ⟨Nat.le_refl _, fun _ _ _ => rfl⟩
end



end Go.Proofs.YtidfloikpieggaaGreat
/- Programs are copied into new memory; what is copied may be marked; condition: the sizes. -/
namespace Go.Proofs.YtidfloikpieggaaGreat
set_option linter.unusedVariables false
set_option linter.unusedSimpArgs false
open Go.RowKit

/-! ### The number of leaves -/
/-! ### Marks -/
/-! ### Copies -/
end Go.Proofs.YtidfloikpieggaaGreat
namespace Go.Proofs.YtidfloikpieggaaGreat
set_option linter.unusedVariables false
set_option linter.unusedSimpArgs false
open Go.RowKit

theorem OwnS.len {w : World} {B n c : Nat} {a : Option Addr} {xs : List Int} (h : OwnS w B (.slice a n c) xs) : xs.length = n := by
  rcases h.2 with ⟨e, h0⟩ | ⟨_, _, _, e, _⟩
  · simp at e; omega
  · simp at e; exact e.2.1.symm
theorem OwnS.at {w : World} {B n c : Nat} {a : Option Addr} {xs : List Int} (h : OwnS w B (.slice a n c) xs) (hn : 0 < n) :
    ∃ g, a = some ⟨g, 0, none⟩ ∧ B ≤ g ∧ g < w.heap.size ∧ n ≤ c ∧ (∀ j, j < n → w.cell? ⟨g, j, none⟩ = some (.int .i64 (xs.getD j 0))) ∧ ∀ j, w.frozen? ⟨g, j, none⟩ = false := by
  have hl := h.len
  have h0 := h
  rcases h.2 with ⟨e, h1⟩ | ⟨g, cap, cur, e, hB, hg, hnc, _⟩
  · simp at e; omega
  · have ha : a = some ⟨g, 0, none⟩ := by simp at e; exact e.1
    have hc : c = cap := by simp at e; exact e.2.2
    subst ha hc
    unfold OwnS at h0
    rw [hl] at h0
    exact ⟨g, rfl, hB, (Array.getElem?_eq_some_iff.1 hg).1, by omega, fun j hj => by rw [World.ownsRow.cellAt h0 j (by omega), List.getElem?_map, List.getD, List.getElem?_eq_getElem (by omega)]; rfl, fun j => World.ownsRow.frozenAt h0 j⟩

theorem OwnS.one (w : World) {B : Nat} (hB : B ≤ w.heap.size) (x : Int) : OwnS (w.alloc (.cells #[.int .i64 x] 3)) B (.slice (some ⟨w.heap.size, 0, none⟩) 1 1) [x] :=
  ⟨rfl, .inr ⟨w.heap.size, 1, _, rfl, hB, heap_alloc_new w _, Nat.le_refl _, by unfold maxLen; omega, rfl, rfl⟩⟩
end Go.Proofs.YtidfloikpieggaaGreat
namespace Go.Proofs.YtidfloikpieggaaGreat
set_option linter.unusedVariables false
set_option linter.unusedSimpArgs false
open Go.ChangeShapes Go.WideShapes Go.ChangeAt Go.RowKit
section
variable {H : Type} {enc : TypeId × Value → H} {P : Program} {w : World} {spare : Nat → Bool} {held : Bool} {t : TypeId} {α : Type} {f : α → List D} {ok : α → Prop} {v : Value} {dd : DataW H} {ps : List MemPlace}
theorem op_agg (hop : ∀ n, OpF enc P w spare held n t f ok) (h : DataW.Trod enc P w 0 spare held t v dd ps) (hw : ∀ m ∈ dd.weights P t, m ≤ reachBytes) (hv : ∃ cs, v = .agg cs) : ∃ a, ok a ∧ V1r (fun _ => (0, 0)) (Al (lk [])) (fun b => b < w.heap.size) w (ad (f a)) v := by
  obtain ⟨fuel, hf⟩ := h
  obtain ⟨cs, rfl⟩ := hv
  obtain ⟨a, h1, h2, h3⟩ := hop fuel fuel (Nat.le_refl _) _ _ hf hw
  refine ⟨a, h1, cs.toList, by simp, by rw [List.length_map]; exact h2, fun i c u hc hu => ?_⟩
  rw [List.getElem?_map] at hc
  cases hq : (f a)[i]? with
  | none => rw [hq] at hc; cases hc
  | some d => rw [hq] at hc; cases hc; exact h3 i d u hq hu
theorem okWide_agg {r : Reach} {b0 : Nat} {fs : Array Field} (ht : P.underlying t = some (.struct fs)) (h : Value.okWide P w r b0 t v) : ∃ cs, v = .agg cs := by
  unfold Value.okWide at h
  rw [ht] at h
  obtain ⟨cs, e, _⟩ := h
  exact ⟨cs, e⟩
theorem vals1_mk {R : V1 → Value → Prop} {x : V1} {u : Value} (h : R x u) : Vals R [x] [u] := ⟨rfl, fun i y v hy hv => by
  match i, hy, hv with
  | 0, hy, hv => cases hy; cases hv; exact h⟩
theorem vals2_mk {R : V1 → Value → Prop} {x y : V1} {u v : Value} (h : R x u) (h2 : R y v) : Vals R [x, y] [u, v] := .cons h (vals1_mk h2)
theorem vals3_mk {R : V1 → Value → Prop} {x y z : V1} {u v t : Value} (h : R x u) (h2 : R y v) (h3 : R z t) : Vals R [x, y, z] [u, v, t] := .cons h (vals2_mk h2 h3)
end
end Go.Proofs.YtidfloikpieggaaGreat
namespace Go.Proofs.YtidfloikpieggaaGreat
set_option linter.unusedVariables false
set_option linter.unusedSimpArgs false
open Go.RowKit
abbrev bx0 : Nat → Nat × Nat := fun _ => (0, 0)
abbrev al0 : Nat → Prop := Al (lk [])
theorem no_al0 : ∀ k, ¬ al0 k := fun k ⟨e, sz, rows, h⟩ => by cases h
/-- A function that answers a list of numbers in memory of its own. -/
def OwnC (f : FuncId) (args : List V1) (xs : List Int) : Prop := ∀ (B : Nat → Prop) (w : World) (vs : List Value), Vals (V1r bx0 al0 B w) args vs →
  Calls Tryz.prog f vs.toArray w fun e w' => (∃ a c, e = .returned (.slice a xs.length c) ∧ OwnS w' w.heap.size (.slice a xs.length c) xs) ∧ Below w.heap.size w w'
/-- What the law took, behind its first box. -/
structure LawS (w w' : World) (us : List Value) : Prop where
  below : Below w.heap.size w w'
  box : w'.heap[w.heap.size]? = some (.cells us.toArray 25 (0, 0))
theorem LawS.lt {w w' : World} {us : List Value} (h : LawS w w' us) : w.heap.size < w'.heap.size := (Array.getElem?_eq_some_iff.1 h.box).1
theorem LawS.c {w w' : World} {us : List Value} (h : LawS w w' us) (j : Nat) {v : Value} (hv : us[j]? = some v) : w'.cell? ⟨w.heap.size, j, none⟩ = some v := by
  rw [cell_of_row w' _ _ _ _ _ h.box, List.getElem?_toArray]; exact hv
theorem Marked.below {S : Nat → Prop} {w w' : World} {n : Nat} (h : Marked S w w') (hS : ∀ b, S b → n ≤ b) (hn : n ≤ w.heap.size) : Below n w w' :=
  ⟨h.os, h.tape, h.output, h.size, fun b hb => h.old b (by omega) fun hs => by have := hS b hs; omega⟩



theorem index_fn (l : List Int) (n : Int) (hl : l.length ≤ 1099511627776) : Fn Tryz.prog 160 [] [vD (dIs l), nat1 n] (.o (nat1 (idxF (fun m => decide (m = n)) l))) [] := by
  refine Fn.code0 Tryz.func160 rfl rfl rfl rfl ?_
  refine .seq <| .region <| .cons (.asg rfl rfl) <| .nil <| ks_n <| .seq <| .seq <| .region <| .cons (.mv rfl rfl) <| .cons (.ln 3 1 8 rfl rfl rfl) <| .cons (.mv rfl rfl) <| .nil <| ks_n <| .block ?_
  refine .loopK (fun m σ => (∃ i : Nat, m = l.length - i ∧ (i ≤ l.length) ∧ (idxF (fun m => decide (m = n)) l = idxG (fun m => decide (m = n)) i (l.drop i)) ∧ σ = [(.t 0, .v (.o (vD (dIs l)))), (.t 1, .v (.o (nat1 n))), (.t 7, .v (.o (nat1 (l.length : Nat)))), (.t 8, .v (.o (nat1 (i : Nat))))])) [] ⟨0, rfl, by omega, rfl, rfl⟩ ⟨ks rfl .dt, ks rfl .dt, ks rfl .dt, ks rfl .dt, trivial⟩ ?_
  rintro m σ ⟨i, hm0, hi, hF, rfl⟩
  refine .seq <| .region <| .cons (.ls rfl rfl rfl) <| .nil <| ks_n <| .seq ?_
  refine .cD rfl (fun h9 => ?_) (fun h9 => ?_)
  · skip
    obtain ⟨x, hx1⟩ : ∃ x_, l[i]? = some x_ := ⟨_, List.getElem?_eq_getElem (by omega)⟩
    refine .skip <| ks_n <| .seq <| .block <| .seq <| .region <| .cons (.mv rfl rfl) <| .cons (.asg rfl rfl) <| .nil <| ks_n <| .seq <| .region <| .cons (.mv rfl rfl) <| .cons (.mv rfl rfl) <| .cons (.mv rfl rfl) <| .cons (.xL 3 1 8 rfl rfl rfl rfl rfl) ?_
    refine .cons (.l1 1 rfl rfl) <| .cons (.eq rfl rfl rfl) <| .nil <| ks_n ?_
    refine .cD rfl (fun h16 => ?_) (fun h16 => ?_)
    · skip
      refine .seq <| .region <| .cons (.mv rfl rfl) <| .cons (.asg rfl rfl) <| .nil <| ks_n <| .ret <| kb_r <| ks_r <| kl_r <| kb_r <| ks_r ?_
      refine kf_ret rfl ?_ nobox
      exact leafI (by rw [hF, idxG_drop hx1, if_pos (by simp; omega)])
    · skip
      refine .skip <| kb_n <| ks_n <| .region <| .cons (.pl rfl rfl rfl) <| .cons (.mv rfl rfl) <| .nil ?_
      refine kl_k [] ⟨i + 1, rfl, by omega, by rw [hF, idxG_drop hx1, if_neg (by simp; omega)], rfl⟩ ⟨ks rfl .dt, ks rfl .dt, ks rfl .dt, ks rfl .dt, trivial⟩
  · skip
    refine .exit <| ks_e <| kl_e <| kb_hit <| ks_n <| .seq <| .region <| .cons (.asg rfl rfl) <| .nil <| ks_n <| .ret ?_
    refine kf_ret rfl ?_ nobox
    exact leafI (by rw [hF, List.drop_of_length_le (by omega)]; rfl)

theorem contains_fn (l : List Int) (n : Int) (hl : l.length ≤ 1099511627776) : Fn Tryz.prog 111 [] [vD (dIs l), nat1 n] (.o (bo1 (hasV l n))) [] := by
  refine Fn.code0 Tryz.func111 rfl rfl rfl rfl ?_
  refine .seq <| .region <| .cons (.asg rfl rfl) <| .nil <| ks_n <| .seq <| .region <| .cons (.mv rfl rfl) <| .cons (.mv rfl rfl) <| .cons (.cP [.tmp 5, .tmp 6] rfl rfl rfl rfl (index_fn l n hl) rfl) ?_
  refine .cons (.ge rfl rfl rfl) <| .cons (.asg rfl rfl) <| .nil <| ks_n <| .ret ?_
  refine kf_ret rfl ?_ nobox
  exact leafB (by first | exact idxG_any | (rw [hasV, ← idxG_any]; rfl))

theorem between_fn {g : Prg} {i k : Nat} {x y : Ins} (hx : (insG 0 g.2)[i]? = some x) (hy : (insG 0 g.2)[k]? = some y) (hlx : (usR g x).length ≤ 12) (hly : (usR g y).length ≤ 12) : Fn Tryz.prog 166 [] [.c (.ptr (rT g)), nat1 (i : Nat), nat1 (k : Nat)] (.o (nat1 (kindN g i k))) [] := by
 refine Fn.code0 Tryz.func166 rfl rfl rfl rfl ?_
 refine .seq <| .region <| .cons (.asg rfl rfl) <| .nil <| ks_n <| .seq <| .region <| .cons (.asg rfl rfl) <| .nil <| ks_n <| .seq <| .seq ?_
 refine ACode.drawK (by kernel_rfl) (by kernel_rfl) ?_
 refine .cons (.mv rfl rfl) <| .cons (.nP rfl rfl) <| .cons (.fP 3 0 false rfl rfl) <| .cons (.l1 1 rfl rfl) <| .cons (.mv rfl rfl) <| .cons (.xL 35 1 24 rfl rfl rfl rfl rfl (map_at (usRs_at hy))) ?_
 refine .cons (.l1 1 rfl rfl) <| .cons (.mv rfl rfl) <| .cons (.nP rfl rfl) <| .cons (.fP 4 0 false rfl rfl) <| .cons (.l1 1 rfl rfl) <| .cons (.mv rfl rfl) <| .cons (.xL 3 1 8 rfl rfl rfl rfl rfl (map_at (usWs_at hx))) ?_
 refine .cons (.l1 1 rfl rfl) <| .cons (.cP [.tmp 14, .tmp 21] rfl rfl rfl rfl (contains_fn _ _ (by omega)) rfl) ?_
 refine .nil ⟨by kernel_rfl, ?_⟩
 refine ks_n ?_
 refine ACode.condT rfl (fun h22 => ?_) (fun h22 => ?_)
 ·try simp only [zs1, zs2, zs3, zs4, zs5, zs6, zs7] at h22
  refine .region <| .cons (.mv rfl rfl) <| .cons (.pl rfl rfl rfl) <| .cons (.asg rfl rfl) <| .nil <| ks_n <| .seq <| .seq ?_
  refine ACode.drawK (by kernel_rfl) (by kernel_rfl) ?_
  refine .cons (.mv rfl rfl) <| .cons (.nP rfl rfl) <| .cons (.fP 3 0 false rfl rfl) <| .cons (.l1 1 rfl rfl) <| .cons (.mv rfl rfl) <| .cons (.xL 35 1 24 rfl rfl rfl rfl rfl (map_at (usRs_at hx))) ?_
  refine .cons (.l1 1 rfl rfl) <| .cons (.mv rfl rfl) <| .cons (.nP rfl rfl) <| .cons (.fP 4 0 false rfl rfl) <| .cons (.l1 1 rfl rfl) <| .cons (.mv rfl rfl) <| .cons (.xL 3 1 8 rfl rfl rfl rfl rfl (map_at (usWs_at hy))) ?_
  refine .cons (.l1 1 rfl rfl) <| .cons (.cP [.tmp 31, .tmp 38] rfl rfl rfl rfl (contains_fn _ _ (by omega)) rfl) ?_
  refine .nil ⟨by kernel_rfl, ?_⟩
  refine ks_n ?_
  refine ACode.condT rfl (fun h39 => ?_) (fun h39 => ?_)
  ·try simp only [zs1, zs2, zs3, zs4, zs5, zs6, zs7] at h39
   refine .region <| .cons (.mv rfl rfl) <| .cons (.pl rfl rfl rfl) <| .cons (.asg rfl rfl) <| .nil <| ks_n <| .seq <| .seq ?_
   refine ACode.drawK (by kernel_rfl) (by kernel_rfl) ?_
   refine .cons (.mv rfl rfl) <| .cons (.nP rfl rfl) <| .cons (.fP 4 0 false rfl rfl) <| .cons (.l1 1 rfl rfl) <| .cons (.mv rfl rfl) <| .cons (.xL 3 1 8 rfl rfl rfl rfl rfl (map_at (usWs_at hx))) ?_
   refine .cons (.l1 1 rfl rfl) <| .cons (.mv rfl rfl) <| .cons (.nP rfl rfl) <| .cons (.fP 4 0 false rfl rfl) <| .cons (.l1 1 rfl rfl) <| .cons (.mv rfl rfl) <| .cons (.xL 3 1 8 rfl rfl rfl rfl rfl (map_at (usWs_at hy))) ?_
   refine .cons (.l1 1 rfl rfl) <| .cons (.eq rfl rfl rfl) ?_
   refine .nil ⟨by kernel_rfl, ?_⟩
   refine ks_n ?_
   refine .cD rfl (fun h56 => ?_) (fun h56 => ?_)
   ·skip
    refine .region <| .cons (.mv rfl rfl) <| .cons (.pl rfl rfl rfl) <| .cons (.asg rfl rfl) <| .nil <| ks_n <| .seq <| .region <| .cons (.mv rfl rfl) <| .cons (.asg rfl rfl) <| .nil <| ks_n <| .ret ?_
    refine kf_ret rfl ?_ nobox
    exact leafI (by rw [kindN_eq (usL_at hx) (usL_at hy), kindU]; simp_all [usG])
   ·skip
    refine .skip <| ks_n <| .seq <| .region <| .cons (.mv rfl rfl) <| .cons (.asg rfl rfl) <| .nil <| ks_n <| .ret ?_
    refine kf_ret rfl ?_ nobox
    exact leafI (by rw [kindN_eq (usL_at hx) (usL_at hy), kindU]; simp_all [usG])
  ·try simp only [zs1, zs2, zs3, zs4, zs5, zs6, zs7] at h39
   refine .skip <| ks_n <| .seq <| .seq ?_
   refine ACode.drawK (by kernel_rfl) (by kernel_rfl) ?_
   refine .cons (.mv rfl rfl) <| .cons (.nP rfl rfl) <| .cons (.fP 4 0 false rfl rfl) <| .cons (.l1 1 rfl rfl) <| .cons (.mv rfl rfl) <| .cons (.xL 3 1 8 rfl rfl rfl rfl rfl (map_at (usWs_at hx))) ?_
   refine .cons (.l1 1 rfl rfl) <| .cons (.mv rfl rfl) <| .cons (.nP rfl rfl) <| .cons (.fP 4 0 false rfl rfl) <| .cons (.l1 1 rfl rfl) <| .cons (.mv rfl rfl) <| .cons (.xL 3 1 8 rfl rfl rfl rfl rfl (map_at (usWs_at hy))) ?_
   refine .cons (.l1 1 rfl rfl) <| .cons (.eq rfl rfl rfl) ?_
   refine .nil ⟨by kernel_rfl, ?_⟩
   refine ks_n ?_
   refine .cD rfl (fun h56 => ?_) (fun h56 => ?_)
   ·skip
    refine .region <| .cons (.mv rfl rfl) <| .cons (.pl rfl rfl rfl) <| .cons (.asg rfl rfl) <| .nil <| ks_n <| .seq <| .region <| .cons (.mv rfl rfl) <| .cons (.asg rfl rfl) <| .nil <| ks_n <| .ret ?_
    refine kf_ret rfl ?_ nobox
    exact leafI (by rw [kindN_eq (usL_at hx) (usL_at hy), kindU]; simp_all [usG])
   ·skip
    refine .skip <| ks_n <| .seq <| .region <| .cons (.mv rfl rfl) <| .cons (.asg rfl rfl) <| .nil <| ks_n <| .ret ?_
    refine kf_ret rfl ?_ nobox
    exact leafI (by rw [kindN_eq (usL_at hx) (usL_at hy), kindU]; simp_all [usG])
 ·try simp only [zs1, zs2, zs3, zs4, zs5, zs6, zs7] at h22
  refine .skip <| ks_n <| .seq <| .seq ?_
  refine ACode.drawK (by kernel_rfl) (by kernel_rfl) ?_
  refine .cons (.mv rfl rfl) <| .cons (.nP rfl rfl) <| .cons (.fP 3 0 false rfl rfl) <| .cons (.l1 1 rfl rfl) <| .cons (.mv rfl rfl) <| .cons (.xL 35 1 24 rfl rfl rfl rfl rfl (map_at (usRs_at hx))) ?_
  refine .cons (.l1 1 rfl rfl) <| .cons (.mv rfl rfl) <| .cons (.nP rfl rfl) <| .cons (.fP 4 0 false rfl rfl) <| .cons (.l1 1 rfl rfl) <| .cons (.mv rfl rfl) <| .cons (.xL 3 1 8 rfl rfl rfl rfl rfl (map_at (usWs_at hy))) ?_
  refine .cons (.l1 1 rfl rfl) <| .cons (.cP [.tmp 31, .tmp 38] rfl rfl rfl rfl (contains_fn _ _ (by omega)) rfl) ?_
  refine .nil ⟨by kernel_rfl, ?_⟩
  refine ks_n ?_
  refine ACode.condT rfl (fun h39 => ?_) (fun h39 => ?_)
  ·try simp only [zs1, zs2, zs3, zs4, zs5, zs6, zs7] at h39
   refine .region <| .cons (.mv rfl rfl) <| .cons (.pl rfl rfl rfl) <| .cons (.asg rfl rfl) <| .nil <| ks_n <| .seq <| .seq ?_
   refine ACode.drawK (by kernel_rfl) (by kernel_rfl) ?_
   refine .cons (.mv rfl rfl) <| .cons (.nP rfl rfl) <| .cons (.fP 4 0 false rfl rfl) <| .cons (.l1 1 rfl rfl) <| .cons (.mv rfl rfl) <| .cons (.xL 3 1 8 rfl rfl rfl rfl rfl (map_at (usWs_at hx))) ?_
   refine .cons (.l1 1 rfl rfl) <| .cons (.mv rfl rfl) <| .cons (.nP rfl rfl) <| .cons (.fP 4 0 false rfl rfl) <| .cons (.l1 1 rfl rfl) <| .cons (.mv rfl rfl) <| .cons (.xL 3 1 8 rfl rfl rfl rfl rfl (map_at (usWs_at hy))) ?_
   refine .cons (.l1 1 rfl rfl) <| .cons (.eq rfl rfl rfl) ?_
   refine .nil ⟨by kernel_rfl, ?_⟩
   refine ks_n ?_
   refine .cD rfl (fun h56 => ?_) (fun h56 => ?_)
   ·skip
    refine .region <| .cons (.mv rfl rfl) <| .cons (.pl rfl rfl rfl) <| .cons (.asg rfl rfl) <| .nil <| ks_n <| .seq <| .region <| .cons (.mv rfl rfl) <| .cons (.asg rfl rfl) <| .nil <| ks_n <| .ret ?_
    refine kf_ret rfl ?_ nobox
    exact leafI (by rw [kindN_eq (usL_at hx) (usL_at hy), kindU]; simp_all [usG])
   ·skip
    refine .skip <| ks_n <| .seq <| .region <| .cons (.mv rfl rfl) <| .cons (.asg rfl rfl) <| .nil <| ks_n <| .ret ?_
    refine kf_ret rfl ?_ nobox
    exact leafI (by rw [kindN_eq (usL_at hx) (usL_at hy), kindU]; simp_all [usG])
  ·try simp only [zs1, zs2, zs3, zs4, zs5, zs6, zs7] at h39
   refine .skip <| ks_n <| .seq <| .seq ?_
   refine ACode.drawK (by kernel_rfl) (by kernel_rfl) ?_
   refine .cons (.mv rfl rfl) <| .cons (.nP rfl rfl) <| .cons (.fP 4 0 false rfl rfl) <| .cons (.l1 1 rfl rfl) <| .cons (.mv rfl rfl) <| .cons (.xL 3 1 8 rfl rfl rfl rfl rfl (map_at (usWs_at hx))) ?_
   refine .cons (.l1 1 rfl rfl) <| .cons (.mv rfl rfl) <| .cons (.nP rfl rfl) <| .cons (.fP 4 0 false rfl rfl) <| .cons (.l1 1 rfl rfl) <| .cons (.mv rfl rfl) <| .cons (.xL 3 1 8 rfl rfl rfl rfl rfl (map_at (usWs_at hy))) ?_
   refine .cons (.l1 1 rfl rfl) <| .cons (.eq rfl rfl rfl) ?_
   refine .nil ⟨by kernel_rfl, ?_⟩
   refine ks_n ?_
   refine .cD rfl (fun h56 => ?_) (fun h56 => ?_)
   ·skip
    refine .region <| .cons (.mv rfl rfl) <| .cons (.pl rfl rfl rfl) <| .cons (.asg rfl rfl) <| .nil <| ks_n <| .seq <| .region <| .cons (.mv rfl rfl) <| .cons (.asg rfl rfl) <| .nil <| ks_n <| .ret ?_
    refine kf_ret rfl ?_ nobox
    exact leafI (by rw [kindN_eq (usL_at hx) (usL_at hy), kindU]; simp_all [usG])
   ·skip
    refine .skip <| ks_n <| .seq <| .region <| .cons (.mv rfl rfl) <| .cons (.asg rfl rfl) <| .nil <| ks_n <| .ret ?_
    refine kf_ret rfl ?_ nobox
    exact leafI (by rw [kindN_eq (usL_at hx) (usL_at hy), kindU]; simp_all [usG])

theorem l6Kinds_fn (x y : List Int × Int) (hx : x.1.length ≤ 12) (hy : y.1.length ≤ 12) : Fn Tryz.prog 172 [] [ad (rU x), ad (rU y)] (.o (nat1 (kindU x y))) [] := by
 refine Fn.code0 Tryz.func172 rfl rfl rfl rfl ?_
 refine .seq <| .region <| .cons (St1.boxP rfl rfl rfl rfl rfl rfl) <| .cons (St1.boxP rfl rfl rfl rfl rfl rfl) <| .cons (.asg rfl rfl) <| .nil <| ks_n <| .seq <| .region <| .cons (.asg rfl rfl) <| .nil <| ks_n <| .seq <| .seq <| .region <| .cons (.fP 0 0 false rfl rfl) <| .cons (.l1 1 rfl rfl) <| .cons (.fP 1 0 false rfl rfl) <| .cons (.l1 1 rfl rfl) <| .cons (.cP [.tmp 7, .tmp 9] rfl rfl rfl rfl (l6Has_fn _ _ (by omega)) rfl) ?_
 refine .nil <| ks_n ?_
 refine ACode.condT rfl (fun h10 => ?_) (fun h10 => ?_)
 ·try simp only [zs1, zs2, zs3, zs4, zs5, zs6, zs7] at h10
  refine .region <| .cons (.mv rfl rfl) <| .cons (.pl rfl rfl rfl) <| .cons (.asg rfl rfl) <| .nil <| ks_n <| .seq <| .seq <| .region <| .cons (.fP 0 0 false rfl rfl) <| .cons (.l1 1 rfl rfl) <| .cons (.fP 1 0 false rfl rfl) <| .cons (.l1 1 rfl rfl) <| .cons (.cP [.tmp 14, .tmp 16] rfl rfl rfl rfl (l6Has_fn _ _ (by omega)) rfl) ?_
  refine .nil <| ks_n ?_
  refine ACode.condT rfl (fun h17 => ?_) (fun h17 => ?_)
  ·try simp only [zs1, zs2, zs3, zs4, zs5, zs6, zs7] at h17
   refine .region <| .cons (.mv rfl rfl) <| .cons (.pl rfl rfl rfl) <| .cons (.asg rfl rfl) <| .nil <| ks_n <| .seq <| .seq <| .region <| .cons (.fP 1 0 false rfl rfl) <| .cons (.l1 1 rfl rfl) <| .cons (.fP 1 0 false rfl rfl) <| .cons (.l1 1 rfl rfl) <| .cons (.eq rfl rfl rfl) <| .nil <| ks_n ?_
   refine .cD rfl (fun h24 => ?_) (fun h24 => ?_)
   ·skip
    refine .region <| .cons (.mv rfl rfl) <| .cons (.pl rfl rfl rfl) <| .cons (.asg rfl rfl) <| .nil <| ks_n <| .seq <| .region <| .cons (.mv rfl rfl) <| .cons (.asg rfl rfl) <| .nil <| ks_n <| .ret ?_
    refine kf_ret rfl ?_ nobox
    exact leafI (by rw [kindU]; simp_all)
   ·skip
    refine .skip <| ks_n <| .seq <| .region <| .cons (.mv rfl rfl) <| .cons (.asg rfl rfl) <| .nil <| ks_n <| .ret ?_
    refine kf_ret rfl ?_ nobox
    exact leafI (by rw [kindU]; simp_all)
  ·try simp only [zs1, zs2, zs3, zs4, zs5, zs6, zs7] at h17
   refine .skip <| ks_n <| .seq <| .seq <| .region <| .cons (.fP 1 0 false rfl rfl) <| .cons (.l1 1 rfl rfl) <| .cons (.fP 1 0 false rfl rfl) <| .cons (.l1 1 rfl rfl) <| .cons (.eq rfl rfl rfl) <| .nil <| ks_n ?_
   refine .cD rfl (fun h24 => ?_) (fun h24 => ?_)
   ·skip
    refine .region <| .cons (.mv rfl rfl) <| .cons (.pl rfl rfl rfl) <| .cons (.asg rfl rfl) <| .nil <| ks_n <| .seq <| .region <| .cons (.mv rfl rfl) <| .cons (.asg rfl rfl) <| .nil <| ks_n <| .ret ?_
    refine kf_ret rfl ?_ nobox
    exact leafI (by rw [kindU]; simp_all)
   ·skip
    refine .skip <| ks_n <| .seq <| .region <| .cons (.mv rfl rfl) <| .cons (.asg rfl rfl) <| .nil <| ks_n <| .ret ?_
    refine kf_ret rfl ?_ nobox
    exact leafI (by rw [kindU]; simp_all)
 ·try simp only [zs1, zs2, zs3, zs4, zs5, zs6, zs7] at h10
  refine .skip <| ks_n <| .seq <| .seq <| .region <| .cons (.fP 0 0 false rfl rfl) <| .cons (.l1 1 rfl rfl) <| .cons (.fP 1 0 false rfl rfl) <| .cons (.l1 1 rfl rfl) <| .cons (.cP [.tmp 14, .tmp 16] rfl rfl rfl rfl (l6Has_fn _ _ (by omega)) rfl) ?_
  refine .nil <| ks_n ?_
  refine ACode.condT rfl (fun h17 => ?_) (fun h17 => ?_)
  ·try simp only [zs1, zs2, zs3, zs4, zs5, zs6, zs7] at h17
   refine .region <| .cons (.mv rfl rfl) <| .cons (.pl rfl rfl rfl) <| .cons (.asg rfl rfl) <| .nil <| ks_n <| .seq <| .seq <| .region <| .cons (.fP 1 0 false rfl rfl) <| .cons (.l1 1 rfl rfl) <| .cons (.fP 1 0 false rfl rfl) <| .cons (.l1 1 rfl rfl) <| .cons (.eq rfl rfl rfl) <| .nil <| ks_n ?_
   refine .cD rfl (fun h24 => ?_) (fun h24 => ?_)
   ·skip
    refine .region <| .cons (.mv rfl rfl) <| .cons (.pl rfl rfl rfl) <| .cons (.asg rfl rfl) <| .nil <| ks_n <| .seq <| .region <| .cons (.mv rfl rfl) <| .cons (.asg rfl rfl) <| .nil <| ks_n <| .ret ?_
    refine kf_ret rfl ?_ nobox
    exact leafI (by rw [kindU]; simp_all)
   ·skip
    refine .skip <| ks_n <| .seq <| .region <| .cons (.mv rfl rfl) <| .cons (.asg rfl rfl) <| .nil <| ks_n <| .ret ?_
    refine kf_ret rfl ?_ nobox
    exact leafI (by rw [kindU]; simp_all)
  ·try simp only [zs1, zs2, zs3, zs4, zs5, zs6, zs7] at h17
   refine .skip <| ks_n <| .seq <| .seq <| .region <| .cons (.fP 1 0 false rfl rfl) <| .cons (.l1 1 rfl rfl) <| .cons (.fP 1 0 false rfl rfl) <| .cons (.l1 1 rfl rfl) <| .cons (.eq rfl rfl rfl) <| .nil <| ks_n ?_
   refine .cD rfl (fun h24 => ?_) (fun h24 => ?_)
   ·skip
    refine .region <| .cons (.mv rfl rfl) <| .cons (.pl rfl rfl rfl) <| .cons (.asg rfl rfl) <| .nil <| ks_n <| .seq <| .region <| .cons (.mv rfl rfl) <| .cons (.asg rfl rfl) <| .nil <| ks_n <| .ret ?_
    refine kf_ret rfl ?_ nobox
    exact leafI (by rw [kindU]; simp_all)
   ·skip
    refine .skip <| ks_n <| .seq <| .region <| .cons (.mv rfl rfl) <| .cons (.asg rfl rfl) <| .nil <| ks_n <| .ret ?_
    refine kf_ret rfl ?_ nobox
    exact leafI (by rw [kindU]; simp_all)

theorem deps_fn {g : Prg} (hS : prgS g = true) (hL : (insG 0 g.2).length ≤ 120) : Fn Tryz.prog 120 [] [.c (.ptr (rT g))] (.o (vD (dDs (depsG g)))) [] := by
  refine Fn.code0 Tryz.func120 rfl rfl rfl rfl ?_
  refine .seq <| .region <| .cons (.asg rfl rfl) <| .nil <| ks_n <| .seq <| .region <| .cons (.asg rfl rfl) <| .nil <| ks_n <| .seq <| .seq <| .region <| .cons (.mv rfl rfl) <| .cons (.nP rfl rfl) <| .cons (.fP 2 0 false rfl rfl) <| .cons (.l1 1 rfl rfl) <| .cons (.ln 86 3 40 rfl rfl rfl) <| .cons (.mv rfl rfl) <| .nil <| ks_n <| .block ?_
  refine .loopK (fun m σ => (∃ i : Nat, m = (insG 0 g.2).length - i ∧ (i ≤ (insG 0 g.2).length) ∧ (depsN g i = []) ∧ σ = [(.t 0, .v (.o (.c (.ptr (rT g))))), (.t 3, .v (.o (.c (.d (.val (.slice none 0 0)))))), (.t 10, .v (.o (vD (dNs (insG 0 g.2))))), (.t 11, .v (.o (nat1 ((insG 0 g.2).length : Nat)))), (.t 12, .v (.o (nat1 (i : Nat))))]) ∨ (∃ (i : Nat) (o : List Dpn), m = (insG 0 g.2).length - i ∧ (i ≤ (insG 0 g.2).length) ∧ (depsN g i = o) ∧ (o.length ≤ 120 * i) ∧ σ = [(.t 0, .v (.o (.c (.ptr (rT g))))), (.t 3, .v (.o (.c (.own 110 3 (o.length))))), (.t 10, .v (.o (vD (dNs (insG 0 g.2))))), (.t 11, .v (.o (nat1 ((insG 0 g.2).length : Nat)))), (.t 12, .v (.o (nat1 (i : Nat)))), (.b 110, .b 159 3 (dR (o.map rD))), (.u 110, .u)])) [] (.inl ⟨0, rfl, by omega, rfl, rfl⟩) ⟨ks rfl .dt, ks rfl .dt, ks rfl .dt, ks rfl .dt, ks rfl .dt, trivial⟩ ?_
  rintro m σ (⟨i, hm0, hi, hE, rfl⟩ | ⟨i, o, hm0, hi, hE, ho, rfl⟩)
  · skip
    refine .seq <| .region <| .cons (.ls rfl rfl rfl) <| .nil <| ks_n <| .seq ?_
    refine .cD rfl (fun h13 => ?_) (fun h13 => ?_)
    · skip
      obtain ⟨x, hx1⟩ : ∃ x_, (insG 0 g.2)[i]? = some x_ := ⟨_, List.getElem?_eq_getElem (by omega)⟩
      obtain ⟨kx, cx, qx, hIx⟩ := ins_at hS (List.mem_of_getElem? hx1)
      have hlx := usR_len hIx
      refine .skip <| ks_n <| .seq <| .block <| .seq <| .region <| .cons (.mv rfl rfl) <| .cons (.asg rfl rfl) <| .nil <| ks_n <| .seq <| .region <| .cons (.mv rfl rfl) <| .cons (.pl rfl rfl rfl) <| .cons (.asg rfl rfl) <| .nil <| ks_n <| .block ?_
      refine .loopK (fun m σ => (∃ k : Nat, m = (insG 0 g.2).length - k ∧ (i + 1 ≤ k) ∧ (k ≤ (insG 0 g.2).length) ∧ (rowN g i k = []) ∧ σ = [(.t 0, .v (.o (.c (.ptr (rT g))))), (.t 3, .v (.o (.c (.d (.val (.slice none 0 0)))))), (.t 4, .v (.o (nat1 (i : Nat)))), (.t 5, .v (.o (nat1 (k : Nat)))), (.t 10, .v (.o (vD (dNs (insG 0 g.2))))), (.t 11, .v (.o (nat1 ((insG 0 g.2).length : Nat)))), (.t 12, .v (.o (nat1 (i : Nat))))]) ∨ (∃ (k : Nat) (o2 : List Dpn), m = (insG 0 g.2).length - k ∧ (i + 1 ≤ k) ∧ (k ≤ (insG 0 g.2).length) ∧ ([] ++ rowN g i k = o2) ∧ (o2.length ≤ 120 * i + k) ∧ σ = [(.t 0, .v (.o (.c (.ptr (rT g))))), (.t 3, .v (.o (.c (.own 120 3 (o2.length))))), (.t 4, .v (.o (nat1 (i : Nat)))), (.t 5, .v (.o (nat1 (k : Nat)))), (.t 10, .v (.o (vD (dNs (insG 0 g.2))))), (.t 11, .v (.o (nat1 ((insG 0 g.2).length : Nat)))), (.t 12, .v (.o (nat1 (i : Nat)))), (.b 120, .b 159 3 (dR (o2.map rD))), (.u 120, .u)])) [] (.inl ⟨i + 1, rfl, by omega, by omega, rowN_zero, rfl⟩) ⟨ks rfl .dt, ks rfl .dt, ks rfl .dt, ks rfl .dt, ks rfl .dt, ks rfl .dt, ks rfl .dt, trivial⟩ ?_
      rintro m σ (⟨k, hm0, hk1, hk, hEi, rfl⟩ | ⟨k, o2, hm0, hk1, hk, hEi, ho2, rfl⟩)
      · skip
        refine .seq <| .seq <| .region <| .cons (.mv rfl rfl) <| .cons (.mv rfl rfl) <| .cons (.nP rfl rfl) <| .cons (.fP 2 0 false rfl rfl) <| .cons (.l1 1 rfl rfl) <| .cons (.ln 86 3 40 rfl rfl rfl) <| .cons (.ls rfl rfl rfl) <| .nil <| ks_n ?_
        refine .cD rfl (fun h23 => ?_) (fun h23 => ?_)
        · skip
          obtain ⟨y, hy1⟩ : ∃ x_, (insG 0 g.2)[k]? = some x_ := ⟨_, List.getElem?_eq_getElem (by omega)⟩
          obtain ⟨ky, cy, qy, hIy⟩ := ins_at hS (List.mem_of_getElem? hy1)
          have hly := usR_len hIy
          have hkb := kindN_bd (g := g) (i := i) (k := k)
          refine .skip <| ks_n <| .seq <| .block <| .seq <| .region <| .cons (.mv rfl rfl) <| .cons (.mv rfl rfl) <| .cons (.mv rfl rfl) <| .cons (.cP [.tmp 26, .tmp 27, .tmp 28] rfl rfl rfl rfl (between_fn hx1 hy1 hlx hly) rfl) ?_
          refine .cons (.asg rfl rfl) <| .nil <| ks_n <| .seq <| .region <| .cons (.mv rfl rfl) <| .cons (.gt rfl rfl rfl) <| .nil <| ks_n ?_
          refine .cD rfl (fun h31 => ?_) (fun h31 => ?_)
          · skip
            have hkn : kindN g i k ≠ 0 := by omega
            refine .region <| .cons (.mv rfl rfl) <| .cons (.mv rfl rfl) <| .cons (.mv rfl rfl) <| .cons (.mv rfl rfl) <| .cons (.bu [(0, .tmp 33), (1, .tmp 34), (2, .tmp 35)] [(0, 1), (1, 1), (2, 1)] [.int .i64 0, .int .i64 0, .int .i64 0] rfl rfl rfl rfl rfl) <| .cons (.li 159 2 0 [.tmp 36] rfl rfl rfl rfl rfl rfl) <| .cons (St1.appN (k' := 138) (e := 159) (sz := 2) (by' := 24) rfl rfl rfl rfl rfl (by kernel_rfl) rfl rfl rfl (by simp) (by first | (simp [dR]; done) | (simp [dR]; omega)) rfl rfl) ?_
            refine .cons (.asg rfl rfl) <| .nil <| kb_n <| ks_n <| .region <| .cons (.mv rfl rfl) <| .cons (.pl rfl rfl rfl) <| .cons (.asg rfl rfl) <| .nil ?_
            refine kl_k [(120, 138)] (.inr ⟨k + 1, [((i : Int), ((k : Nat) : Int), kindN g i k)], rfl, by omega, by omega, by rw [rowN_yes (by omega) hkn, hEi]; rfl, by simp; omega, rfl⟩) ⟨ks rfl .dt, ks rfl (.c .ow), ks rfl .dt, ks rfl .dt, ks rfl .dt, ks rfl .dt, ks rfl .dt, kb 138 rfl (.dt rfl (by first | rfl | (simp [dR, rD, dI]; done) | (simp [dR, rD, dI]; rfl))), trivial⟩
          · skip
            have hkz : kindN g i k = 0 := by omega
            refine .skip <| kb_n <| ks_n <| .region <| .cons (.mv rfl rfl) <| .cons (.pl rfl rfl rfl) <| .cons (.asg rfl rfl) <| .nil ?_
            refine kl_k [] (.inl ⟨k + 1, rfl, by omega, by omega, by rw [rowN_no hkz, hEi], rfl⟩) ⟨ks rfl .dt, ks rfl .dt, ks rfl .dt, ks rfl .dt, ks rfl .dt, ks rfl .dt, ks rfl .dt, trivial⟩
        · skip
          obtain rfl : k = (insG 0 g.2).length := by omega
          refine .exit <| ks_e <| kl_e <| kb_hit <| kb_n <| ks_n <| .region <| .cons (.pl rfl rfl rfl) <| .cons (.mv rfl rfl) <| .nil ?_
          refine kl_k [] (.inl ⟨i + 1, rfl, by omega, by rw [depsN_next, hE, hEi]; rfl, rfl⟩) ⟨ks rfl .dt, ks rfl .dt, ks rfl .dt, ks rfl .dt, ks rfl .dt, trivial⟩
      · skip
        refine .seq <| .seq <| .region <| .cons (.mv rfl rfl) <| .cons (.mv rfl rfl) <| .cons (.nP rfl rfl) <| .cons (.fP 2 0 false rfl rfl) <| .cons (.l1 1 rfl rfl) <| .cons (.ln 86 3 40 rfl rfl rfl) <| .cons (.ls rfl rfl rfl) <| .nil <| ks_n ?_
        refine .cD rfl (fun h23 => ?_) (fun h23 => ?_)
        · skip
          obtain ⟨y, hy1⟩ : ∃ x_, (insG 0 g.2)[k]? = some x_ := ⟨_, List.getElem?_eq_getElem (by omega)⟩
          obtain ⟨ky, cy, qy, hIy⟩ := ins_at hS (List.mem_of_getElem? hy1)
          have hly := usR_len hIy
          have hkb := kindN_bd (g := g) (i := i) (k := k)
          refine .skip <| ks_n <| .seq <| .block <| .seq <| .region <| .cons (.mv rfl rfl) <| .cons (.mv rfl rfl) <| .cons (.mv rfl rfl) <| .cons (.cP [.tmp 26, .tmp 27, .tmp 28] rfl rfl rfl rfl (between_fn hx1 hy1 hlx hly) rfl) ?_
          refine .cons (.asg rfl rfl) <| .nil <| ks_n <| .seq <| .region <| .cons (.mv rfl rfl) <| .cons (.gt rfl rfl rfl) <| .nil <| ks_n ?_
          refine .cD rfl (fun h31 => ?_) (fun h31 => ?_)
          · skip
            have hkn : kindN g i k ≠ 0 := by omega
            refine .region <| .cons (.mv rfl rfl) <| .cons (.mv rfl rfl) <| .cons (.mv rfl rfl) <| .cons (.mv rfl rfl) <| .cons (.bu [(0, .tmp 33), (1, .tmp 34), (2, .tmp 35)] [(0, 1), (1, 1), (2, 1)] [.int .i64 0, .int .i64 0, .int .i64 0] rfl rfl rfl rfl rfl) <| .cons (.li 159 2 0 [.tmp 36] rfl rfl rfl rfl rfl rfl) <| .cons (St1.appB (k' := 138) (e := 159) (sz := 2) (by' := 24) rfl rfl rfl rfl rfl (by kernel_rfl) rfl rfl rfl rfl (by first | (simp [dR]; done) | (simp [dR]; omega)) (by first | (simp [dR]; done) | (simp [dR]; omega)) rfl rfl rfl) ?_
            refine .cons (.asg rfl rfl) <| .nil <| kb_n <| ks_n <| .region <| .cons (.mv rfl rfl) <| .cons (.pl rfl rfl rfl) <| .cons (.asg rfl rfl) <| .nil ?_
            refine kl_k [(120, 138)] (.inr ⟨k + 1, o2 ++ [((i : Int), ((k : Nat) : Int), kindN g i k)], rfl, by omega, by omega, by rw [rowN_yes (by omega) hkn, ← List.append_assoc, hEi], by rw [List.length_append, List.length_singleton]; omega, rfl⟩) ⟨ks rfl .dt, ks rfl (.c .ow), ks rfl .dt, ks rfl .dt, ks rfl .dt, ks rfl .dt, ks rfl .dt, kb 138 rfl (.dt rfl (by first | rfl | (simp [dR, rD, dI]; done) | (simp [dR, rD, dI]; rfl))), trivial⟩
          · skip
            have hkz : kindN g i k = 0 := by omega
            refine .skip <| kb_n <| ks_n <| .region <| .cons (.mv rfl rfl) <| .cons (.pl rfl rfl rfl) <| .cons (.asg rfl rfl) <| .nil ?_
            refine kl_k [(120, 120)] (.inr ⟨k + 1, o2, rfl, by omega, by omega, by rw [rowN_no hkz, hEi], by omega, rfl⟩) ⟨ks rfl .dt, ks rfl (.c .ow), ks rfl .dt, ks rfl .dt, ks rfl .dt, ks rfl .dt, ks rfl .dt, kb 120 rfl (.dt rfl (by first | rfl | (simp [dR, rD, dI]; done) | (simp [dR, rD, dI]; rfl))), trivial⟩
        · skip
          obtain rfl : k = (insG 0 g.2).length := by omega
          refine .exit <| ks_e <| kl_e <| kb_hit <| kb_n <| ks_n <| .region <| .cons (.pl rfl rfl rfl) <| .cons (.mv rfl rfl) <| .nil ?_
          refine kl_k [(110, 120)] (.inr ⟨i + 1, o2, rfl, by omega, by rw [depsN_next, hE]; exact hEi, by omega, rfl⟩) ⟨ks rfl .dt, ks rfl (.c .ow), ks rfl .dt, ks rfl .dt, ks rfl .dt, kb 120 rfl (.dt rfl (by first | rfl | (simp [dR, rD, dI]; done) | (simp [dR, rD, dI]; rfl))), trivial⟩
    · skip
      obtain rfl : i = (insG 0 g.2).length := by omega
      refine .exit <| ks_e <| kl_e <| kb_hit <| ks_n <| .seq <| .region <| .cons (.mv rfl rfl) <| .cons (.asg rfl rfl) <| .nil <| ks_n <| .ret ?_
      refine kf_wret [(.t 2, .v (.o (vD (dDs (depsG g)))))] (Wk.keep [] rfl rfl ⟨ks rfl (.c (Cto.nilE 3 (by rw [depsG, hE]; rfl))), trivial⟩) rfl ?_ nobox
      rfl
  · skip
    refine .seq <| .region <| .cons (.ls rfl rfl rfl) <| .nil <| ks_n <| .seq ?_
    refine .cD rfl (fun h13 => ?_) (fun h13 => ?_)
    · skip
      obtain ⟨x, hx1⟩ : ∃ x_, (insG 0 g.2)[i]? = some x_ := ⟨_, List.getElem?_eq_getElem (by omega)⟩
      obtain ⟨kx, cx, qx, hIx⟩ := ins_at hS (List.mem_of_getElem? hx1)
      have hlx := usR_len hIx
      refine .skip <| ks_n <| .seq <| .block <| .seq <| .region <| .cons (.mv rfl rfl) <| .cons (.asg rfl rfl) <| .nil <| ks_n <| .seq <| .region <| .cons (.mv rfl rfl) <| .cons (.pl rfl rfl rfl) <| .cons (.asg rfl rfl) <| .nil <| ks_n <| .block ?_
      refine .loopK (fun m σ => (∃ (k : Nat) (o2 : List Dpn), m = (insG 0 g.2).length - k ∧ (i + 1 ≤ k) ∧ (k ≤ (insG 0 g.2).length) ∧ (o ++ rowN g i k = o2) ∧ (o2.length ≤ 120 * i + k) ∧ σ = [(.t 0, .v (.o (.c (.ptr (rT g))))), (.t 3, .v (.o (.c (.own 120 3 (o2.length))))), (.t 4, .v (.o (nat1 (i : Nat)))), (.t 5, .v (.o (nat1 (k : Nat)))), (.t 10, .v (.o (vD (dNs (insG 0 g.2))))), (.t 11, .v (.o (nat1 ((insG 0 g.2).length : Nat)))), (.t 12, .v (.o (nat1 (i : Nat)))), (.b 120, .b 159 3 (dR (o2.map rD))), (.u 120, .u)])) [(120, 110)] ⟨i + 1, o, rfl, by omega, by omega, by rw [rowN_zero, List.append_nil], by omega, rfl⟩ ⟨ks rfl .dt, ks rfl (.c .ow), ks rfl .dt, ks rfl .dt, ks rfl .dt, ks rfl .dt, ks rfl .dt, kb 110 rfl (.dt rfl (by first | rfl | (simp [dR, rD, dI]; done) | (simp [dR, rD, dI]; rfl))), trivial⟩ ?_
      rintro m σ ⟨k, o2, hm0, hk1, hk, hEi, ho2, rfl⟩
      refine .seq <| .seq <| .region <| .cons (.mv rfl rfl) <| .cons (.mv rfl rfl) <| .cons (.nP rfl rfl) <| .cons (.fP 2 0 false rfl rfl) <| .cons (.l1 1 rfl rfl) <| .cons (.ln 86 3 40 rfl rfl rfl) <| .cons (.ls rfl rfl rfl) <| .nil <| ks_n ?_
      refine .cD rfl (fun h23 => ?_) (fun h23 => ?_)
      · skip
        obtain ⟨y, hy1⟩ : ∃ x_, (insG 0 g.2)[k]? = some x_ := ⟨_, List.getElem?_eq_getElem (by omega)⟩
        obtain ⟨ky, cy, qy, hIy⟩ := ins_at hS (List.mem_of_getElem? hy1)
        have hly := usR_len hIy
        have hkb := kindN_bd (g := g) (i := i) (k := k)
        refine .skip <| ks_n <| .seq <| .block <| .seq <| .region <| .cons (.mv rfl rfl) <| .cons (.mv rfl rfl) <| .cons (.mv rfl rfl) <| .cons (.cP [.tmp 26, .tmp 27, .tmp 28] rfl rfl rfl rfl (between_fn hx1 hy1 hlx hly) rfl) ?_
        refine .cons (.asg rfl rfl) <| .nil <| ks_n <| .seq <| .region <| .cons (.mv rfl rfl) <| .cons (.gt rfl rfl rfl) <| .nil <| ks_n ?_
        refine .cD rfl (fun h31 => ?_) (fun h31 => ?_)
        · skip
          have hkn : kindN g i k ≠ 0 := by omega
          refine .region <| .cons (.mv rfl rfl) <| .cons (.mv rfl rfl) <| .cons (.mv rfl rfl) <| .cons (.mv rfl rfl) <| .cons (.bu [(0, .tmp 33), (1, .tmp 34), (2, .tmp 35)] [(0, 1), (1, 1), (2, 1)] [.int .i64 0, .int .i64 0, .int .i64 0] rfl rfl rfl rfl rfl) <| .cons (.li 159 2 0 [.tmp 36] rfl rfl rfl rfl rfl rfl) <| .cons (St1.appB (k' := 138) (e := 159) (sz := 2) (by' := 24) rfl rfl rfl rfl rfl (by kernel_rfl) rfl rfl rfl rfl (by first | (simp [dR]; done) | (simp [dR]; omega)) (by first | (simp [dR]; done) | (simp [dR]; omega)) rfl rfl rfl) ?_
          refine .cons (.asg rfl rfl) <| .nil <| kb_n <| ks_n <| .region <| .cons (.mv rfl rfl) <| .cons (.pl rfl rfl rfl) <| .cons (.asg rfl rfl) <| .nil ?_
          refine kl_k [(120, 138)] ⟨k + 1, o2 ++ [((i : Int), ((k : Nat) : Int), kindN g i k)], rfl, by omega, by omega, by rw [rowN_yes (by omega) hkn, ← List.append_assoc, hEi], by rw [List.length_append, List.length_singleton]; omega, rfl⟩ ⟨ks rfl .dt, ks rfl (.c .ow), ks rfl .dt, ks rfl .dt, ks rfl .dt, ks rfl .dt, ks rfl .dt, kb 138 rfl (.dt rfl (by first | rfl | (simp [dR, rD, dI]; done) | (simp [dR, rD, dI]; rfl))), trivial⟩
        · skip
          have hkz : kindN g i k = 0 := by omega
          refine .skip <| kb_n <| ks_n <| .region <| .cons (.mv rfl rfl) <| .cons (.pl rfl rfl rfl) <| .cons (.asg rfl rfl) <| .nil ?_
          refine kl_k [(120, 120)] ⟨k + 1, o2, rfl, by omega, by omega, by rw [rowN_no hkz, hEi], by omega, rfl⟩ ⟨ks rfl .dt, ks rfl (.c .ow), ks rfl .dt, ks rfl .dt, ks rfl .dt, ks rfl .dt, ks rfl .dt, kb 120 rfl (.dt rfl (by first | rfl | (simp [dR, rD, dI]; done) | (simp [dR, rD, dI]; rfl))), trivial⟩
      · skip
        obtain rfl : k = (insG 0 g.2).length := by omega
        refine .exit <| ks_e <| kl_e <| kb_hit <| kb_n <| ks_n <| .region <| .cons (.pl rfl rfl rfl) <| .cons (.mv rfl rfl) <| .nil ?_
        refine kl_k [(110, 120)] (.inr ⟨i + 1, o2, rfl, by omega, by rw [depsN_next, hE]; exact hEi, by omega, rfl⟩) ⟨ks rfl .dt, ks rfl (.c .ow), ks rfl .dt, ks rfl .dt, ks rfl .dt, kb 120 rfl (.dt rfl (by first | rfl | (simp [dR, rD, dI]; done) | (simp [dR, rD, dI]; rfl))), trivial⟩
    · skip
      obtain rfl : i = (insG 0 g.2).length := by omega
      refine .exit <| ks_e <| kl_e <| kb_hit <| ks_n <| .seq <| .region <| .cons (.mv rfl rfl) <| .cons (.asg rfl rfl) <| .nil <| ks_n <| .ret ?_
      refine kf_wret [(.t 2, .v (.o (vD (dDs (depsG g)))))] (Wk.keep [] rfl rfl ⟨ks rfl (.c (.fz rfl (by rw [depsG, hE]) (by rw [depsG, hE, List.length_map]) (by omega))), trivial⟩) rfl ?_ nobox
      rfl

theorem l6Deps_fn {g : Prg} (hs : szG g ≤ 1073741824) (hS : prgS g = true) (hL : (insG 0 g.2).length ≤ 120) : Fn Tryz.prog 129 [] [ad (rG g)] (.o (vD (dDs (depsG g)))) [] := by
 have hul := usL_len (g := g)
 refine Fn.code0 Tryz.func129 rfl rfl rfl rfl ?_
 refine .seq <| .region <| .cons (St1.boxP rfl rfl rfl rfl rfl rfl) <| .cons (.asg rfl rfl) <| .nil <| ks_n <| .seq <| .region <| .cons (St1.lit0 (k' := 108) (e := 159) (sz := 3) (b := true) rfl rfl rfl rfl (by kernel_rfl) rfl rfl) ?_
 refine .cons (.asg rfl rfl) <| .nil <| ks_n <| .seq <| .region <| .cons (.lN 2 rfl rfl rfl) <| .cons (.cP [.tmp 9] rfl rfl rfl rfl (l6Uses_fn hs hS) rfl) ?_
 refine .cons (.asg rfl rfl) <| .nil <| ks_n <| .seq <| .seq <| .region <| .cons (.asg rfl rfl) <| .nil <| ks_n <| .block ?_
 refine .loopK (fun m σ => (∃ (i : Nat) (o : List Dpn), m = (insG 0 g.2).length - i ∧ (i ≤ (insG 0 g.2).length) ∧ (depsN g i = o) ∧ (o.length ≤ 120 * i) ∧ σ = [(.t 1, .v (.o (.c (.ptr (rG g))))), (.t 3, .v (.o (.c (.own 110 3 (o.length))))), (.t 4, .v (.o (vD (dUs (usL g))))), (.t 5, .v (.o (nat1 (i : Nat)))), (.b 110, .b 159 3 (dR (o.map rD))), (.u 110, .u)])) [(110, 108)] ⟨0, [], rfl, by omega, rfl, by simp, rfl⟩ ⟨ks rfl .dt, ks rfl (.c .ow), ks rfl .dt, ks rfl .dt, kb 108 rfl (.dt rfl (by first | rfl | (simp [dR, rD, dI]; done) | (simp [dR, rD, dI]; rfl))), trivial⟩ ?_
 rintro m σ ⟨i, o, hm0, hi, hE, ho, rfl⟩
 refine .seq <| .seq <| .region <| .cons (.mv rfl rfl) <| .cons (.mv rfl rfl) <| .cons (.ln 71 2 32 rfl rfl rfl) <| .cons (.ls rfl rfl rfl) <| .nil <| ks_n ?_
 refine .cD rfl (fun h14 => ?_) (fun h14 => ?_)
 ·skip
  obtain ⟨x, hx1⟩ : ∃ x_, (insG 0 g.2)[i]? = some x_ := ⟨_, List.getElem?_eq_getElem (by omega)⟩
  obtain ⟨kx, cx, qx, hIx⟩ := ins_at hS (List.mem_of_getElem? hx1)
  have hlx := usR_len hIx
  refine .skip <| ks_n <| .seq <| .block <| .seq <| .region <| .cons (.mv rfl rfl) <| .cons (.pl rfl rfl rfl) <| .cons (.asg rfl rfl) <| .nil <| ks_n <| .block ?_
  refine .loopK (fun m σ => (∃ (k : Nat) (o2 : List Dpn), m = (insG 0 g.2).length - k ∧ (i + 1 ≤ k) ∧ (k ≤ (insG 0 g.2).length) ∧ (o ++ rowN g i k = o2) ∧ (o2.length ≤ 120 * i + k) ∧ σ = [(.t 1, .v (.o (.c (.ptr (rG g))))), (.t 3, .v (.o (.c (.own 120 3 (o2.length))))), (.t 4, .v (.o (vD (dUs (usL g))))), (.t 5, .v (.o (nat1 (i : Nat)))), (.t 6, .v (.o (nat1 (k : Nat)))), (.b 120, .b 159 3 (dR (o2.map rD))), (.u 120, .u)])) [(120, 110)] ⟨i + 1, o, rfl, by omega, by omega, by rw [rowN_zero, List.append_nil], by omega, rfl⟩ ⟨ks rfl .dt, ks rfl (.c .ow), ks rfl .dt, ks rfl .dt, ks rfl .dt, kb 110 rfl (.dt rfl (by first | rfl | (simp [dR, rD, dI]; done) | (simp [dR, rD, dI]; rfl))), trivial⟩ ?_
  rintro m σ ⟨k, o2, hm0, hk1, hk, hEi, ho2, rfl⟩
  refine .seq <| .seq <| .region <| .cons (.mv rfl rfl) <| .cons (.mv rfl rfl) <| .cons (.ln 71 2 32 rfl rfl rfl) <| .cons (.ls rfl rfl rfl) <| .nil <| ks_n ?_
  refine .cD rfl (fun h22 => ?_) (fun h22 => ?_)
  ·skip
   obtain ⟨y, hy1⟩ : ∃ x_, (insG 0 g.2)[k]? = some x_ := ⟨_, List.getElem?_eq_getElem (by omega)⟩
   obtain ⟨ky, cy, qy, hIy⟩ := ins_at hS (List.mem_of_getElem? hy1)
   have hly := usR_len hIy
   have hkb := kindN_bd (g := g) (i := i) (k := k)
   have hke := kindN_eq (usL_at hx1) (usL_at hy1)
   refine .skip <| ks_n <| .seq <| .block <| .seq ?_
   refine ACode.drawK (by kernel_rfl) (by kernel_rfl) ?_
   refine .cons (.mv rfl rfl) <| .cons (.mv rfl rfl) <| .cons (.xL 71 2 32 rfl rfl rfl rfl rfl (map_at (usL_at hx1))) ?_
   refine .cons (.lN 2 rfl rfl rfl) <| .cons (.mv rfl rfl) <| .cons (.mv rfl rfl) <| .cons (.xL 71 2 32 rfl rfl rfl rfl rfl (map_at (usL_at hy1))) ?_
   refine .cons (.lN 2 rfl rfl rfl) <| .cons (.cP [.tmp 28, .tmp 32] rfl rfl rfl rfl (l6Kinds_fn (usG g x) (usG g y) hlx hly) rfl) ?_
   refine .cons (.asg rfl rfl) ?_
   refine .nil ⟨by kernel_rfl, ?_⟩
   refine ks_n <| .seq ?_
   refine .keep [(.t 1, .v (.o (.c (.ptr (rG g))))), (.t 3, .v (.o (.c (.own 800 3 (o2.length))))), (.t 4, .v (.o (vD (dUs (usL g))))), (.t 5, .v (.o (nat1 (i : Nat)))), (.t 6, .v (.o (nat1 (k : Nat)))), (.t 7, .v (.o (nat1 (kindN g i k)))), (.b 800, .b 159 3 (dR (o2.map rD))), (.u 800, .u)] [(800, 120)] ⟨ks rfl .dt, ks rfl (.c .ow), ks rfl .dt, ks rfl .dt, ks rfl .dt, ks rfl (.dt (by rw [hke])), kb 120 rfl (.dt rfl (by first | rfl | (simp [dR, rD, dI]; done) | (simp [dR, rD, dI]; rfl))), trivial⟩ ?_
   refine .region <| .cons (.mv rfl rfl) <| .cons (.ne rfl rfl rfl) <| .nil <| ks_n ?_
   refine .cND rfl (fun h35 => ?_) (fun h35 => ?_)
   ·skip
    have hkn : kindN g i k ≠ 0 := by omega
    refine .region <| .cons (.mv rfl rfl) <| .cons (.mv rfl rfl) <| .cons (.mv rfl rfl) <| .cons (.mv rfl rfl) <| .cons (.bu [(0, .tmp 37), (1, .tmp 38), (2, .tmp 39)] [(0, 1), (1, 1), (2, 1)] [.int .i64 0, .int .i64 0, .int .i64 0] rfl rfl rfl rfl rfl) <| .cons (.li 159 2 0 [.tmp 40] rfl rfl rfl rfl rfl rfl) <| .cons (St1.appB (k' := 142) (e := 159) (sz := 2) (by' := 24) rfl rfl rfl rfl rfl (by kernel_rfl) rfl rfl rfl rfl (by first | (simp [dR]; done) | (simp [dR]; omega)) (by first | (simp [dR]; done) | (simp [dR]; omega)) rfl rfl rfl) ?_
    refine .cons (.asg rfl rfl) <| .nil <| kb_n <| ks_n <| .region <| .cons (.mv rfl rfl) <| .cons (.pl rfl rfl rfl) <| .cons (.asg rfl rfl) <| .nil ?_
    refine kl_k [(120, 142)] ⟨k + 1, o2 ++ [((i : Int), ((k : Nat) : Int), kindN g i k)], rfl, by omega, by omega, by rw [rowN_yes (by omega) hkn, ← List.append_assoc, hEi], by rw [List.length_append, List.length_singleton]; omega, rfl⟩ ⟨ks rfl .dt, ks rfl (.c .ow), ks rfl .dt, ks rfl .dt, ks rfl .dt, kb 142 rfl (.dt rfl (by first | rfl | (simp [dR, rD, dI]; done) | (simp [dR, rD, dI]; rfl))), trivial⟩
   ·skip
    have hkz : kindN g i k = 0 := by omega
    refine .skip <| kb_n <| ks_n <| .region <| .cons (.mv rfl rfl) <| .cons (.pl rfl rfl rfl) <| .cons (.asg rfl rfl) <| .nil ?_
    refine kl_k [(120, 800)] ⟨k + 1, o2, rfl, by omega, by omega, by rw [rowN_no hkz, hEi], by omega, rfl⟩ ⟨ks rfl .dt, ks rfl (.c .ow), ks rfl .dt, ks rfl .dt, ks rfl .dt, kb 800 rfl (.dt rfl (by first | rfl | (simp [dR, rD, dI]; done) | (simp [dR, rD, dI]; rfl))), trivial⟩
  ·skip
   obtain rfl : k = (insG 0 g.2).length := by omega
   refine .exit <| ks_e <| kl_e <| kb_hit <| kb_n <| ks_n <| .region <| .cons (.mv rfl rfl) <| .cons (.pl rfl rfl rfl) <| .cons (.asg rfl rfl) <| .nil ?_
   refine kl_k [(110, 120)] ⟨i + 1, o2, rfl, by omega, by rw [depsN_next, hE]; exact hEi, by omega, rfl⟩ ⟨ks rfl .dt, ks rfl (.c .ow), ks rfl .dt, ks rfl .dt, kb 120 rfl (.dt rfl (by first | rfl | (simp [dR, rD, dI]; done) | (simp [dR, rD, dI]; rfl))), trivial⟩
 ·skip
  obtain rfl : i = (insG 0 g.2).length := by omega
  refine .exit <| ks_e <| kl_e <| kb_hit <| ks_n <| .seq <| .region <| .cons (.mv rfl rfl) <| .cons (.asg rfl rfl) <| .nil <| ks_n <| .ret ?_
  refine kf_wret [(.t 2, .v (.o (vD (dDs (depsG g)))))] (Wk.keep [] rfl rfl ⟨ks rfl (.c (.fz rfl (by rw [depsG, hE]) (by rw [depsG, hE, List.length_map]) (by omega))), trivial⟩) rfl ?_ nobox
  rfl

section
variable {P : Program} {n : Nat} {ops : Array Oper} {o : Oper} {σ : St} {d : Nat} {t e : TypeId} {x y : Operand} {k sz by' m i : Nat} {p : Int} {rows : List (List C)}
theorem St1.sliceToB (h4 : (o.op, o.guard, o.dst, Nat.blt d n) = (Op.slice t x none (some y) none, none, some d, true)) (ht : tyS P t = some (e, sz, by')) (hx : ev σ x = some (.o (.c (.own k sz m)))) (hb : lk σ (.b k) = .b e sz rows) (hy : ev σ y = some (.o (nat1 p))) (hp : p = (i : Int)) (hi : i ≤ m) :
    St1 P n ops o σ ((rd x ++ rd y) ++ [.b k]) [.t d] ((.t d, .v (.o (.c (.own k sz i)))) :: σ) := by
  simp only [Prod.mk.injEq] at h4
  obtain ⟨ho, hg, hd, hn⟩ := h4
  exact St1.value hg hd hn fun E bx τ a w hR hs => by
    subst hp
    have hk : τ (.b k) = .b e sz rows := (rd_r hR _ (by simp)).trans hb
    obtain ⟨cap, e1, c1, c2, c3⟩ := ev_own hx (rd_l (rd_l hR)) hs (Al_of hk)
    obtain ⟨hu, _⟩ := tyS_out ht
    have hrefs := (ev_ok hx (rd_l (rd_l hR)) hs).2
    refine ⟨⟨.slice (some ⟨(bx k).1, 0, none⟩) i cap, ?_, ⟨rfl, fun _ => ⟨cap, rfl, by omega, c2, c3⟩⟩⟩, hrefs⟩
    have hbd : 0 ≤ (i : Int) ∧ (i : Int) ≤ (cap : Int) := by omega
    simp [execOp, ho, e1, ev_val hy (rd_r (rd_l hR)) hs, sliceAt_list ht, Instr.slice, run_underlying hu, Instr.sliceBounds, Instr.sliceBound, asIntOf, hbd, run_sizeE ht]
    rw [if_pos (by omega)]
    simp [Addr.add]
/-- What clear writes is cells. -/
def tyC (P : Program) (t : TypeId) : Bool := match P.underlying t with
  | some (.slice e) => match P.info? e with
    | some i => match i.zero with
      | some z => Nat.beq z.cells.size i.size && (Nat.blt 0 i.size && z.cells.toList.all fun v => v.oneCell')
      | none => false
    | none => false
  | _ => false
theorem zeroCells_ok {zs : Array Value} {q : Nat} (h0 : 0 < zs.size) (h : ∀ v ∈ zs.toList, v.oneCell' = true) : (Builtin.zeroCells zs q).toList.length = q * zs.size ∧ ∀ v ∈ (Builtin.zeroCells zs q).toList, v.oneCell' = true := by
  refine ⟨by simp [Builtin.zeroCells], fun v hv => ?_⟩
  simp only [Builtin.zeroCells, Array.toList_map, List.mem_map] at hv
  obtain ⟨j, _, rfl⟩ := hv
  have hj : j % zs.size < zs.size := Nat.mod_lt _ h0
  rw [getElem!_pos zs _ hj]
  exact h _ (Array.mem_toList_iff.2 (Array.getElem_mem hj))
theorem run_clear_own {w : World} {b q c s : Nat} {cur : Array Value} (hc : tyC P t = true) (ht : tyS P t = some (e, sz, by')) (hw : w.heap[b]? = some (.cells cur e (0, 0))) (hq : 0 < q) (hs : s + q * sz ≤ cur.size) {ty : TypeId} :
    ∃ vs : List Value, vs.length = q * sz ∧ (Builtin.clear_ #[t] ty #[.slice (some ⟨b, s, none⟩) q c]).run P w = .ok (.tuple #[]) (w.setCells b s vs) := by
  obtain ⟨hu, i, hi, hsz, _⟩ := tyS_out ht
  simp only [tyC, hu, hi] at hc
  cases hz : i.zero with
  | none => rw [hz] at hc; cases hc
  | some z =>
    rw [hz] at hc
    simp only [Bool.and_eq_true] at hc
    obtain ⟨h1, h2, h3⟩ := hc
    have h1' := Nat.eq_of_beq_eq_true h1
    have h2' : 0 < i.size := by simpa using h2
    obtain ⟨g1, g2⟩ := zeroCells_ok (zs := z.cells) (q := q) (by omega) (fun v hv => List.all_eq_true.1 h3 v hv)
    refine ⟨(Builtin.zeroCells z.cells q).toList, by rw [g1, h1', hsz], ?_⟩
    have hst := run_storeCells_cells (P := P) b s (Builtin.zeroCells z.cells q).toList 0 w (fun j hj => by rw [cell_of_row w _ _ _ _ _ hw, Array.getElem?_eq_getElem (by rw [g1, h1', hsz] at hj; omega)]; rfl) (fun j hj => by simp [World.frozen?, hw]) g2
    simp only [Nat.add_zero] at hst
    obtain ⟨q', rfl⟩ : ∃ q', q = q' + 1 := ⟨q - 1, by omega⟩
    simp [Builtin.clear_, run_underlying hu, zeroValue, typeInfo, hi, hz, hst]
theorem AOps.clrB {o1 o2 : Oper} {l : List Oper} {K : St → Prop} (h4 : (o1.op, o1.guard, o1.dst, Nat.blt d n) = (Op.slice t x (some y) none none, none, some d, true)) (h5 : (o2.op, o2.guard, o2.dst) = (Op.call { callee := .builtin .clear, args := #[.tmp d], argTypes := #[t] }, none, none))
    (ht : tyS P t = some (e, sz, by')) (hc : tyC P t = true) (hx : ev σ x = some (.o (.c (.own k sz m)))) (hb : lk σ (.b k) = .b e sz rows) (hm : rows.length = m) (hy : ev σ y = some (.o (nat1 p))) (hp : p = (i : Int)) (hi : i < m)
    (kk : AOps P n ops l K ((.b k, .b e sz (rows.take i)) :: (.t d, .no) :: σ)) : AOps P n ops (o1 :: o2 :: l) K σ := by
  simp only [Prod.mk.injEq] at h4 h5
  obtain ⟨ho, hg, hd, hn⟩ := h4
  obtain ⟨ho2, hg2, hd2⟩ := h5
  subst hp hm
  intro E bx a w hE hs Q hQ
  have hR : ∀ r, lk σ r = lk σ r := fun _ => rfl
  obtain ⟨cap, e1, c1, c2, c3⟩ := ev_own hx (fun _ _ => rfl) hs (Al_of hb)
  obtain ⟨hu, _⟩ := tyS_out ht
  obtain ⟨cur, b1, b2, b3, b4, b5⟩ := hs.box k e sz rows hb
  refine wpList_step fun KK hKK => ?_
  rw [if_pos (by simp [Region.wanted, hg])]
  unfold Oper.wp
  have hbd : 0 ≤ (i : Int) ∧ (i : Int) ≤ (rows.length : Int) := by omega
  have hrun : (execOp a.eval o1).run P w = .ok (.value (.slice (some ⟨(bx k).1, i * sz, none⟩) (rows.length - i) (cap - i))) w := by
    simp [execOp, ho, e1, ev_val hy (fun _ _ => rfl) hs, sliceAt_list ht, Instr.slice, run_underlying hu, Instr.sliceBounds, Instr.sliceBound, asIntOf, hbd, run_sizeE ht]
    rw [if_pos (by omega), if_neg (by omega)]
    simp [Addr.add]
    exact fun h => h.symm
  rw [hrun, Oper.upon_value, hd]
  refine hKK _ _ ?_
  have hdn : d < E.n := by rw [hE]; simpa using hn
  have hs1 : SR E bx (upd (lk σ) (.t d) .no) (a.put (some d) (.slice (some ⟨(bx k).1, i * sz, none⟩) (rows.length - i) (cap - i))) w := hs.drop _
  refine wpList_step fun KK2 hKK2 => ?_
  rw [if_pos (by simp [Region.wanted, hg2])]
  unfold Oper.wp
  have hle := Nat.mul_le_mul_right sz (show i ≤ rows.length by omega)
  have hsum : i * sz + (rows.length - i) * sz ≤ cur.size := by rw [Nat.sub_mul]; omega
  obtain ⟨vs, v1, v2⟩ := run_clear_own (P := P) (w := w) (b := (bx k).1) (q := rows.length - i) (c := cap - i) (s := i * sz) hc ht b1 (by omega) hsum (ty := o2.type)
  have hrun2 : (execOp (a.put (some d) (.slice (some ⟨(bx k).1, i * sz, none⟩) (rows.length - i) (cap - i))).eval o2).run P w = .ok (.value (.tuple #[])) (w.setCells (bx k).1 (i * sz) vs) := by
    have hda : d < a.tmps.size := by rw [hs.size]; exact hdn
    have hev : (a.put (some d) (.slice (some ⟨(bx k).1, i * sz, none⟩) (rows.length - i) (cap - i))).eval (.tmp d) = .slice (some ⟨(bx k).1, i * sz, none⟩) (rows.length - i) (cap - i) := by
      simp [Act.put, Act.eval, hda]
    simp only [execOp, ho2, resolve, invoke, builtin, Sem.run_bind, Sem.run_pure, Result.andThen_ok, List.map_toArray, List.map_cons, List.map_nil, hev, v2]
  rw [hrun2, Oper.upon_value, hd2]
  refine hKK2 _ _ ?_
  obtain ⟨cur', f1, f2, f3⟩ := heap_setCells (bx k).1 e vs (i * sz) w cur b1 (by rw [v1]; exact hsum)
  have hkb : upd (lk σ) (.t d) .no (.b k) = .b e sz rows := by rw [upd_other _ _ (by simp)]; exact hb
  have hnew := hs1.write (rows' := rows.take i) hkb (setCells_grown (bx k).1 vs (i * sz) w) f1 (by rw [f2, b2]) (by rw [List.length_take, f2]; exact Nat.le_trans (Nat.mul_le_mul_right sz (Nat.min_le_right _ _)) b3)
    (fun j r hj => by rw [List.getElem?_take] at hj; split at hj; · exact b4 j r hj
                      · cases hj)
    (fun j r q c hj hq => by
      have hj0 : j < i ∧ rows[j]? = some r := by
        rw [List.getElem?_take] at hj
        split at hj
        · exact ⟨by assumption, hj⟩
        · cases hj
      obtain ⟨u, u1, u2⟩ := b5 j r q c hj0.2 hq
      have hqs : q < sz := by have := b4 j r hj0.2; have := (List.getElem?_eq_some_iff.1 hq).1; omega
      have hmul := Nat.mul_le_mul_right sz (show j + 1 ≤ i by omega)
      rw [Nat.add_mul, Nat.one_mul] at hmul
      have hal := Al_upd_t (lk σ) d .no
      have hbf := Bf_upd_t (E := E) (bx := bx) (lk σ) d .no
      refine ⟨u, ?_, by rw [hal, hbf]; exact u2⟩
      rw [← Array.getElem?_toList, f3, List.append_assoc, List.getElem?_append_left (by rw [List.length_take, Array.length_toList]; omega), List.getElem?_take, if_pos (by omega), Array.getElem?_toList]
      exact u1)
    (fun r hr c hc' l hl => by
      rw [upd_other _ _ (by simp)]
      exact fun hu' => (hs.unused l hu').2.2 k e sz rows hb r (List.mem_of_mem_take hr) c hc' hl)
  refine kk E bx _ _ hE ?_ Q hQ
  have e9 : lk ((.b k, .b e sz (rows.take i)) :: (.t d, .no) :: σ) = upd (upd (lk σ) (.t d) .no) (.b k) (.b e sz (rows.take i)) := by rw [lk_cons, lk_cons]
  rw [e9]
  exact hnew
/-! ### The last rows of a slice of the call's own, read on -/
theorem ev_off {E : Env} {bx : Nat → Nat × Nat} {τ : Res → RC} {a : Act} {w : World} {k sz i m : Nat} (h : ev σ x = some (.o (.c (.off k sz i m)))) (hr : ∀ r ∈ rd x, τ r = lk σ r) (hs : SR E bx τ a w) (hk : Al τ k) :
    ∃ cap, a.eval x = .slice (some ⟨(bx k).1, i * sz, none⟩) m cap ∧ m ≤ cap ∧ cap ≤ maxLen := (ev_ok h hr hs).1.2 hk
theorem St1.sliceFromB (h4 : (o.op, o.guard, o.dst, Nat.blt d n) = (Op.slice t x (some y) none none, none, some d, true)) (ht : tyS P t = some (e, sz, by')) (hx : ev σ x = some (.o (.c (.own k sz m)))) (hb : lk σ (.b k) = .b e sz rows) (hy : ev σ y = some (.o (nat1 p))) (hp : p = (i : Int)) (hi : i < m) :
    St1 P n ops o σ ((rd x ++ rd y) ++ [.b k]) [.t d] ((.t d, .v (.o (.c (.off k sz i (m - i))))) :: σ) := by
  simp only [Prod.mk.injEq] at h4
  obtain ⟨ho, hg, hd, hn⟩ := h4
  exact St1.value hg hd hn fun E bx τ a w hR hs => by
    subst hp
    have hk : τ (.b k) = .b e sz rows := (rd_r hR _ (by simp)).trans hb
    obtain ⟨cap, e1, c1, c2, c3⟩ := ev_own hx (rd_l (rd_l hR)) hs (Al_of hk)
    obtain ⟨hu, _⟩ := tyS_out ht
    have hrefs := (ev_ok hx (rd_l (rd_l hR)) hs).2
    refine ⟨⟨.slice (some ⟨(bx k).1, i * sz, none⟩) (m - i) (cap - i), ?_, ⟨rfl, fun _ => ⟨cap - i, rfl, by omega, by omega⟩⟩⟩, hrefs⟩
    have hbd : 0 ≤ (i : Int) ∧ (i : Int) ≤ (m : Int) := by omega
    simp [execOp, ho, e1, ev_val hy (rd_r (rd_l hR)) hs, sliceAt_list ht, Instr.slice, run_underlying hu, Instr.sliceBounds, Instr.sliceBound, asIntOf, hbd, run_sizeE ht]
    rw [if_pos (by omega), if_neg (by omega)]
    simp [Addr.add]
    exact fun h => h.symm
theorem St1.indexO {t e e' : TypeId} {x y : Operand} {sz sz' sz2 by' i0 i k m : Nat} {rows : List (List C)} {z : Int} (h4 : (o.op, o.guard, o.dst, Nat.blt d n) = (Op.indexAddr t x y, none, some d, true)) (ht : tyS P t = some (e, sz, by'))
    (hx : ev σ x = some (.o (.c (.off k sz' i0 m)))) (hsz : sz' = sz) (hb : lk σ (.b k) = .b e' sz2 rows) (hy : ev σ y = some (.o (nat1 z))) (hz : z = (i : Int)) (hi : i < m) : St1 P n ops o σ ((rd x ++ rd y) ++ [.b k]) [.t d] ((.t d, .v (.o (.c (.box k sz' (i0 + i) 0)))) :: σ) := by
  simp only [Prod.mk.injEq] at h4
  obtain ⟨ho, hg, hd, hn⟩ := h4
  exact St1.value hg hd hn fun E bx τ a w hR hs => by
    subst hsz hz
    have hk : τ (.b k) = .b e' sz2 rows := (rd_r hR _ (by simp)).trans hb
    obtain ⟨cap, e1, h1, h2⟩ := ev_off hx (rd_l (rd_l hR)) hs (Al_of hk)
    refine ⟨⟨_, by simp only [execOp, ho, e1, ev_val hy (rd_r (rd_l hR)) hs, Sem.run_bind, run_indexAt' ht w _ _ _ cap i hi]; rfl, rfl, fun _ => by rw [Nat.add_mul]; rfl⟩, fun l hl hu => ?_⟩
    exact (ev_ok hx (rd_l (rd_l hR)) hs).2 l hl hu
theorem St1.lenO {e e' : TypeId} {m by' sz sz' k i0 l : Nat} {rows : List (List C)} {ts : Array TypeId} (h4 : (o.op, o.guard, o.dst, Nat.blt d n) = (Op.call { callee := .builtin .len, args := #[x], argTypes := ts }, none, some d, true)) (hts : ts = #[t]) (ht : tyS P t = some (e, m, by')) (hx : ev σ x = some (.o (.c (.off k sz i0 l)))) (hb : lk σ (.b k) = .b e' sz' rows) :
    St1 P n ops o σ (rd x ++ [.b k]) [.t d] ((.t d, .v (.o (nat1 (l : Nat)))) :: σ) := by
  simp only [Prod.mk.injEq] at h4
  obtain ⟨ho, hg, hd, hn⟩ := h4
  exact St1.value hg hd hn fun E bx τ a w hR hs => by
    subst hts
    have hk : τ (.b k) = .b e' sz' rows := (rd_r hR _ (by simp)).trans hb
    obtain ⟨cap, e1, _⟩ := ev_off hx (rd_l hR) hs (Al_of hk)
    obtain ⟨hu, _⟩ := tyS_out ht
    exact ⟨⟨_, by simp [execOp, ho, resolve, invoke, builtin, e1, Builtin.len_, run_underlying hu, goInt], .val _ rfl⟩, fun k hk => by cases hk⟩
theorem Cto.of {σ : St} {inv : Inv} {k k' sz i n m : Nat} (hn : n = m := by first | rfl | omega) (h : (k', k) ∈ inv := by first | decide | simp) : Cto σ inv (.off k sz i n) (.off k' sz i m) := .off _ _ _ _ _ _ h hn
end






theorem vals2_parts {R : V1 → Value → Prop} {x y : V1} {vs : List Value} (h : Vals R [x, y] vs) : ∃ u v, vs = [u, v] ∧ R x u ∧ R y v := by
  obtain ⟨hl, h⟩ := h
  obtain ⟨u, l0, rfl, h0⟩ := len_cons (show vs.length = 1 + 1 from hl)
  obtain ⟨v, l1, rfl, h1⟩ := len_cons (show l0.length = 0 + 1 from h0)
  obtain rfl := len_zero h1
  exact ⟨u, v, rfl, h 0 x u rfl rfl, h 1 y v rfl rfl⟩
/-- A block of flags. -/
def TB (w : World) (g : Nat) (fl : List Bool) : Prop := w.heap[g]? = some (.cells (fl.map Value.bool).toArray 4 (0, 0))
section
variable {w w' : World} {g : Nat} {fl : List Bool}
theorem TB.to (h : TB w g fl) (hb : w'.heap[g]? = w.heap[g]?) : TB w' g fl := hb.trans h
theorem TB.lt (h : TB w g fl) : g < w.heap.size := blk_lt h
/-- But for the blocks of X nothing that was there has turned. -/
structure Chg (X : Nat → Prop) (w w' : World) : Prop where
  os : w'.os = w.os
  tape : w'.tape = w.tape
  output : w'.output = w.output
  size : w.heap.size ≤ w'.heap.size
  old : ∀ b, b < w.heap.size → ¬ X b → w'.heap[b]? = w.heap[b]?
theorem Chg.refl (X : Nat → Prop) (w : World) : Chg X w w := ⟨rfl, rfl, rfl, Nat.le_refl _, fun _ _ _ => rfl⟩
theorem Chg.below {X : Nat → Prop} {n : Nat} (h : Chg X w w') (hn : n ≤ w.heap.size) (hX : ∀ b, X b → n ≤ b) : Below n w w' := ⟨h.os, h.tape, h.output, h.size, fun b hb => h.old b (by omega) fun hx => by have := hX b hx; omega⟩
end

theorem Vals.none {args : List V1} {vs : List Value} {bx : Nat → Nat × Nat} {B : Nat → Prop} {w : World} (h : Vals (V1r bx (Al (lk [])) B w) args vs) : Vals (V1r bx0 al0 B w) args vs :=
  ⟨h.1, fun i x v hx hv => (h.2 i x v hx hv).to (Same.refl _ _) (fun b hb _ => hb) (fun k _ hk => (no_al0 k hk).elim)⟩
theorem al_one {k : Nat} {x : RC} : Al (lk [(.b 100, x), (.u 100, .u)]) k → k = 100 := fun ⟨e, sz, rows, h⟩ => by
  by_cases hk : k = 100
  · exact hk
  · rw [lk_other _ _ _ _ (by simp; omega), lk_other _ _ _ _ (by simp)] at h; cases h
/-- A call that answers numbers in memory of its own, told over abstract states. -/
theorem OwnC.fn {f : FuncId} {args : List V1} {xs : List Int} (hne : xs ≠ []) (h : OwnC f args xs) : Fn Tryz.prog f [] args (.o (.c (.own 100 1 xs.length))) [(.b 100, .b 3 1 (dR (xs.map rI))), (.u 100, .u)] := by
  intro B bx w vs hok hv
  refine (h B w vs hv.none).mono ?_
  rintro e w' ⟨⟨a, c, rfl, ho⟩, hb⟩
  obtain ⟨h1, ⟨_, h0⟩ | ⟨g, cap, cur, e, hg, hc, h3, h4, h5, r⟩⟩ := ho
  · exact absurd (List.eq_nil_of_length_eq_zero h0) hne
  cases e
  have hk : ∀ k, Al (lk [(.b 100, RC.b 3 1 (dR (xs.map rI))), (.u 100, .u)]) k → k = 100 := fun k => al_one
  refine ⟨_, fun _ => (g, cur.size), rfl, ⟨⟨fun k e sz rows hl => ?_, fun k l h1 h2 _ => (hk k h1).trans (hk l h2).symm, fun k h1 h2 => h2.2 k h1 rfl⟩, ⟨rfl, fun _ => ⟨c, rfl, h3, h4, by show c * 1 = cur.size; omega⟩⟩, hb.os, hb.tape, hb.output, hb.size, fun b hl _ => hb.block b hl, fun k h1 h2 => by have := hk k h2; omega, fun k _ => .inl hg⟩⟩
  obtain rfl := hk k ⟨e, sz, rows, hl⟩
  have hl : RC.b 3 1 (dR (xs.map rI)) = .b e sz rows := hl
  cases hl
  have hlen : (dR (xs.map rI)).length = xs.length := by simp [dR]
  refine ⟨cur, hc, rfl, by rw [hlen]; omega, fun i r hi => ?_, fun i r j c hi hj => ?_⟩
  all_goals
    rw [dR, List.getElem?_map, List.getElem?_map] at hi
    cases hx : xs[i]? with
    | none => rw [hx] at hi; cases hi
    | some x =>
      rw [hx] at hi; cases hi
      first
      | rfl
      | (obtain rfl : j = 0 := by have := (List.getElem?_eq_some_iff.1 hj).1; simp [rI] at this; omega
         cases hj
         refine ⟨.int .i64 x, ?_, Dr.val _ rfl⟩
         have hil := (List.getElem?_eq_some_iff.1 hx).1
         have := congrArg (fun l => l[i]?) r
         simp only [List.getElem?_map, hx] at this
         rw [List.getElem?_take, if_pos (by omega), Array.getElem?_toList] at this
         rw [Nat.mul_one, Nat.add_zero]; exact this)
end Go.Proofs.YtidfloikpieggaaGreat
namespace Go.Proofs.YtidfloikpieggaaGreat
set_option linter.unusedVariables false
set_option linter.unusedSimpArgs false
open Go.RowKit Go.Shelf Go.Lib
def ltL (x y : List Int) : Bool := decide (cmpL x y < 0)
theorem swoL : Go.Sort.SWO ltL where
  irrefl x := by rw [ltL, cmpL_self]; rfl
  trans x y z h1 h2 := by
    rw [ltL, decide_eq_true_eq] at *; exact cmpL_trans x y z h1 h2
  ntrans x y z h1 h2 := by
    rw [ltL, decide_eq_false_iff_not] at *
    have e1 := cmpL_anti x y; have e2 := cmpL_anti y z; have e3 := cmpL_anti x z
    intro h
    by_cases q1 : cmpL y x = 0
    · rw [cmpL_zero _ _ q1] at h2; exact h2 h
    · by_cases q2 : cmpL z y = 0
      · rw [cmpL_zero _ _ q2] at h; exact h1 h
      · have := cmpL_trans z y x (by omega) (by omega); omega
/-- The sorted list. -/
def sortL (ls : List (List Int)) : List (List Int) := ls.mergeSort fun x y => !ltL y x
theorem sortL_len {ls : List (List Int)} : (sortL ls).length = ls.length := List.length_mergeSort ..
theorem mem_sortL {ls : List (List Int)} {x : List Int} : x ∈ sortL ls ↔ x ∈ ls := (List.mergeSort_perm ls _).mem_iff
/-- A value and the numbers that it stands for. -/
abbrev VL (B : Nat → Prop) (w : World) := { p : Value × List Int // Dr B w (dIs p.2) p.1 }
theorem dr_nilI (B : Nat → Prop) (w : World) : Dr B w (dIs []) (.slice none 0 0) :=
  Dr.list 1 [] none 0 0 0 0 (fun _ _ => undef) rfl (Nat.le_refl _) (by omega) (fun _ => rfl) (fun h => absurd h (by omega)) (fun i r h => by cases h) (fun i r j x h => by cases h) (fun i r j x h => by cases h)
instance instVL (B : Nat → Prop) (w : World) : Inhabited (VL B w) := ⟨⟨(.slice none 0 0, []), dr_nilI B w⟩⟩
def vlV {B : Nat → Prop} {w : World} (p : VL B w) : Value := p.1.1
def vlC {B : Nat → Prop} {w : World} (p q : VL B w) : Int := cmpL p.1.2 q.1.2
theorem swoV (B : Nat → Prop) (w : World) : Go.Sort.SWO (ltOf (vlC (B := B) (w := w))) where
  irrefl x := swoL.irrefl x.1.2
  trans x y z := swoL.trans x.1.2 y.1.2 z.1.2
  ntrans x y z := swoL.ntrans x.1.2 y.1.2 z.1.2
section
variable {B : Nat → Prop} {w : World} {blk : Nat}
theorem sortWorld_block {d : Array (VL B w)} {m b : Nat} {os : Array Obj} (hb : b < w.heap.size) (hne : b ≠ blk) : (sortWorld vlV w blk 0 m d os).heap[b]? = w.heap[b]? := by
  show ((w.heap.modify blk _) ++ os)[b]? = _
  rw [Array.getElem?_append_left (by simpa using hb), Array.getElem?_modify, if_neg (fun e => hne e.symm)]
theorem sortWorld_own {d : Array (VL B w)} {m : Nat} {os : Array Obj} {cur : Array Value} {e : TypeId} (h : w.heap[blk]? = some (.cells cur e (0, 0))) : (sortWorld vlV w blk 0 m d os).heap[blk]? = some (.cells (Go.Sort.putCells vlV 0 d cur) e (0, 0)) := by
  have hb := (Array.getElem?_eq_some_iff.1 h).1
  show ((w.heap.modify blk _) ++ os)[blk]? = _
  rw [Array.getElem?_append_left (by simpa using hb), Array.getElem?_modify, if_pos rfl, h]; rfl
theorem sortWorld_size {d : Array (VL B w)} {m : Nat} {os : Array Obj} : w.heap.size ≤ (sortWorld vlV w blk 0 m d os).heap.size := by
  show _ ≤ ((w.heap.modify blk _) ++ os).size
  simp
theorem sortWorld_same {d : Array (VL B w)} {m : Nat} {os : Array Obj} (hB : ¬ B blk) : Same B w (sortWorld vlV w blk 0 m d os) := fun b hb hl => sortWorld_block hl fun e => hB (e ▸ hb)
end
/-- The sorted permutation of what stood there, read as lists. -/
theorem perm_sortL {B : Nat → Prop} {w : World} {d d' : Array (VL B w)} (hp : Go.Sort.PermIn 0 d.size d d') (hs : Go.Sort.SortedIn (ltOf vlC) 0 d.size d') : d'.toList.map (fun p => p.1.2) = sortL (d.toList.map fun p => p.1.2) := by
  have hsz := hp.1
  have key := Go.Sort.sorted_unique_holds (lt := ltL) swoL (fun x y h1 h2 => by
    rw [ltL, decide_eq_false_iff_not] at h1 h2
    have := cmpL_anti x y
    exact cmpL_zero x y (by omega)) (d.map fun p => p.1.2) (d'.map fun p => p.1.2) ⟨by simp [hsz], fun i hi => ?_, ?_⟩ fun i j h1 h2 h3 => ?_
  · simpa [sortL] using key
  · rw [Array.size_map] at hi
    have hi : d.size ≤ i := by omega
    rw [getElem!_neg _ i (by simp; omega), getElem!_neg _ i (by simp; omega)]
  · have h := hp.2.2
    have e1 : d'.extract 0 d.size = d' := by rw [← hsz]; exact Array.extract_size
    rw [e1, Array.extract_size] at h
    have e2 : (d'.map fun p => p.1.2).extract 0 (d.map fun p => p.1.2).size = d'.map fun p => p.1.2 := by rw [Array.size_map, ← hsz, ← Array.size_map (f := fun p : VL B w => p.1.2)]; exact Array.extract_size
    rw [Array.size_map] at *
    have e3 : (d.map fun p => p.1.2).extract 0 d.size = d.map fun p => p.1.2 := by rw [← Array.size_map (f := fun p : VL B w => p.1.2)]; exact Array.extract_size
    rw [e2, e3, Array.toList_map, Array.toList_map]
    exact h.map _
  · rw [Array.size_map] at h3
    have h := hs i j h1 h2 h3
    have q1 : j < d'.size := by omega
    have q2 : i < d'.size := by omega
    rw [getElem!_pos _ j (by simpa using q1), getElem!_pos _ i (by simpa using q2), Array.getElem_map, Array.getElem_map]
    rw [getElem!_pos _ j q1, getElem!_pos _ i q2] at h
    exact h
theorem al_z {x : RC} {k : Nat} : Al (lk [(.b 0, x), (.u 0, .u)]) k → k = 0 := fun ⟨e, sz, rows, h⟩ => by
  by_cases hk : k = 0
  · exact hk
  · rw [lk_other _ _ _ _ (by simp; omega), lk_other _ _ _ _ (by simp)] at h; cases h
theorem sort_fn {ρ : Go.Shelf.Ren} (L : SlLaysF.n6 Tryz.prog ρ) {ls : List (List Int)} (hl : ls.length ≤ 1000000) : Fn Tryz.prog (ρ.f 6) [(.b 0, .b 35 1 (dR (ls.map rIs))), (.u 0, .u)] [.c (.own 0 1 ls.length), .c (.fn 122 [])] (.tup []) [(.b 0, .b 35 1 (dR ((sortL ls).map rIs))), (.u 0, .u)] := by
  intro B bx w vs hok hv
  obtain ⟨v0, v1, rfl, q0, q1⟩ := vals2_parts hv
  have ha : Al (lk [(.b 0, RC.b 35 1 (dR (ls.map rIs))), (.u 0, .u)]) 0 := ⟨_, _, _, rfl⟩
  obtain ⟨_, h2⟩ := (show Cr bx (Al (lk [(.b 0, RC.b 35 1 (dR (ls.map rIs))), (.u 0, .u)])) B w (.own 0 1 ls.length) v0 from q0)
  obtain ⟨cap, rfl, h3, h4, h5⟩ := h2 ha
  obtain ⟨us, rfl, hus, _⟩ := (show Cr bx (Al (lk [(.b 0, RC.b 35 1 (dR (ls.map rIs))), (.u 0, .u)])) B w (.fn 122 []) v1 from q1)
  obtain rfl := List.eq_nil_of_length_eq_zero (show us.length = 0 from hus)
  obtain ⟨cur, hc, hcs, hcl, hr, hcells⟩ := hok.box 0 _ _ _ rfl
  have hB : ¬ B (bx 0).1 := hok.exc 0 ha
  have hlen : (dR (ls.map rIs)).length = ls.length := by simp [dR]
  rw [hlen, Nat.mul_one] at hcl
  have hat : ∀ i (hi : i < ls.length), ∃ u, cur[i]? = some u ∧ Dr B w (dIs ls[i]) u := fun i hi => by
    obtain ⟨u, e1, e2⟩ := hcells i [.d (dIs ls[i])] 0 (.d (dIs ls[i])) (by rw [dR, List.getElem?_map, List.getElem?_map, List.getElem?_eq_getElem hi]; rfl) rfl
    exact ⟨u, by rw [Nat.mul_one, Nat.add_zero] at e1; exact e1, e2⟩
  obtain ⟨d, hds, hd⟩ : ∃ d : Array (VL B w), d.size = ls.length ∧ ∀ i (hi : i < d.size), cur[i]? = some (vlV d[i]) ∧ ls[i]? = some d[i].1.2 := by
    refine ⟨Array.ofFn (n := ls.length) fun i => ⟨((hat i i.2).choose, ls[i]), (hat i i.2).choose_spec.2⟩, Array.size_ofFn, fun i hi => ?_⟩
    rw [Array.size_ofFn] at hi
    rw [Array.getElem_ofFn]
    exact ⟨(hat i hi).choose_spec.1, List.getElem?_eq_getElem hi⟩
  have hmap : d.toList.map (fun p => p.1.2) = ls := by
    apply List.ext_getElem?
    intro i
    rw [List.getElem?_map, Array.getElem?_toList]
    by_cases hi : i < d.size
    · rw [Array.getElem?_eq_getElem hi, (hd i hi).2]; rfl
    · rw [Array.getElem?_eq_none (by omega), List.getElem?_eq_none (by omega)]; rfl
  have hH : Go.Sort.Holds vlV w (bx 0).1 0 d := fun j hj => ⟨by rw [cell_of_row w _ _ _ _ _ hc, Nat.zero_add, getElem!_pos d j hj]; exact (hd j hj).1, by simp [World.frozen?, hc]⟩
  have hcmp : CmpLays1 Tryz.prog 122 #[] vlV vlC (bx 0).1 0 d.size w := fun m os dk hs x y => by
    have hs' : Same B w (sortWorld vlV w (bx 0).1 0 m dk os) := sortWorld_same hB
    have hx := x.2.frame hs'
    have hy := y.2.frame hs'
    obtain ⟨a1, c1, e1, _⟩ := Dr.slice (show Dr B _ (.list 1 (x.1.2.map rI)) x.1.1 from hx)
    obtain ⟨a2, c2, e2, _⟩ := Dr.slice (show Dr B _ (.list 1 (y.1.2.map rI)) y.1.1 from hy)
    rw [e1] at hx; rw [e2] at hy
    show Calls Tryz.prog _ (#[x.1.1, y.1.1] ++ #[]) _ _
    rw [e1, e2]
    refine (slCompare_any B B _ _ _ _ _ _ x.1.2 y.1.2 _ (dr_ints hx) (dr_ints hy)).mono ?_
    rintro e w' ⟨rfl, rfl⟩
    exact ⟨rfl, 0, #[], by rw [Go.Sort.grow_empty]; rfl⟩
  have eg : ∀ args w, (callFunc 122 args).run Tryz.prog w = .ok (.enter 122 args) w := fun _ _ => by kernel_rfl
  have hfin := Any.slices_SortFunc L vlV (fun x => x.2.one) vlC (swoV B w) 122 #[] (bx 0).1 0 cap d w eg hcmp hH (Array.getElem?_eq_some_iff.1 hc).1 (by omega)
  rw [hds] at hfin
  refine hfin.mono ?_
  rintro e w' ⟨rfl, d', n, os, hp, hso, rfl⟩
  rw [← hds] at hp hso
  have hperm := perm_sortL hp hso
  rw [hmap] at hperm
  have hsz := hp.1
  have hsame : Same B w (sortWorld vlV w (bx 0).1 0 n d' os) := sortWorld_same hB
  have hk : ∀ k, Al (lk [(.b 0, RC.b 35 1 (dR ((sortL ls).map rIs))), (.u 0, .u)]) k → k = 0 := fun k => al_z
  refine ⟨.tuple #[], bx, rfl, ⟨⟨fun k e sz rows hl => ?_, fun k l h1 h2 _ => (hk k h1).trans (hk l h2).symm, fun k h1 h2 => h2.2 k h1 rfl⟩, ⟨[], rfl, rfl, fun i c u h => by cases h⟩, rfl, rfl, rfl, sortWorld_size, fun b hl h => sortWorld_block hl (h 0 ha), fun k _ h2 => by obtain rfl := hk k h2; exact ⟨ha, rfl⟩, fun k h2 => by obtain rfl := hk k h2; exact .inr ⟨0, ha, rfl⟩⟩⟩
  obtain rfl := hk k ⟨e, sz, rows, hl⟩
  have hl : RC.b 35 1 (dR ((sortL ls).map rIs)) = .b e sz rows := hl
  cases hl
  have hlen' : (dR ((sortL ls).map rIs)).length = ls.length := by simp [dR, sortL_len]
  refine ⟨_, sortWorld_own hc, by simp [Go.Sort.putCells, hcs], by rw [hlen', Nat.mul_one]; simp [Go.Sort.putCells]; omega, fun i r hi => ?_, fun i r j c hi hj => ?_⟩
  all_goals
    rw [dR, List.getElem?_map, List.getElem?_map] at hi
    cases hx : (sortL ls)[i]? with
    | none => rw [hx] at hi; cases hi
    | some l =>
      rw [hx] at hi; cases hi
      first
      | rfl
      | (obtain rfl : j = 0 := by have := (List.getElem?_eq_some_iff.1 hj).1; simp [rIs] at this; omega
         cases hj
         have hil : i < d'.size := by have := (List.getElem?_eq_some_iff.1 hx).1; rw [sortL_len] at this; omega
         rw [← hperm, List.getElem?_map, Array.getElem?_toList, Array.getElem?_eq_getElem hil] at hx
         have hx : d'[i].1.2 = l := by simpa using hx
         refine ⟨vlV d'[i], ?_, ?_⟩
         · rw [Nat.mul_one, Nat.add_zero, Go.Sort.putCells, Array.getElem?_mapIdx, (hd i (by omega)).1]
           simp [hil]
         · subst hx
           exact Dr.mono (B' := Baft bx B w (lk [(.b 0, RC.b 35 1 (dR ((sortL ls).map rIs))), (.u 0, .u)])) (fun b hb _ => ⟨.inl hb, fun k h1 e => by obtain rfl := hk k h1; exact hB (e ▸ hb)⟩) (d'[i].2.frame hsame))
end Go.Proofs.YtidfloikpieggaaGreat
namespace Go.Proofs.YtidfloikpieggaaGreat
set_option linter.unusedVariables false
set_option linter.unusedSimpArgs false
open Go.RowKit
theorem slEq_fn (p q : List Int) : Fn Tryz.prog 124 [] [vD (dIs p), vD (dIs q)] (.o (bo1 (decide (p = q)))) [] :=
  Fn.pure fun B bx al w vs hv => by
    obtain ⟨u, v, rfl, h1, h2⟩ := vals2 hv
    have h3 := dr_ints h1
    have h4 := dr_ints h2
    obtain ⟨a, n, c, rfl, rfl⟩ := sl_form h3
    obtain ⟨a2, n2, c2, rfl, rfl⟩ := sl_form h4
    exact (slEq_any B B a a2 _ _ c c2 p q w h3 h4).mono fun e w' ⟨h1, h2⟩ => ⟨_, h1, h2.below _, .val _ rfl⟩
theorem l1Ints_fn (p q : List Int) : Fn Tryz.prog 173 [] [vD (dIs p), vD (dIs q)] (.o (bo1 (decide (p = q)))) [] :=
  Fn.pure fun B bx al w vs hv => by
    obtain ⟨u, v, rfl, h1, h2⟩ := vals2 hv
    have h3 := dr_ints h1
    have h4 := dr_ints h2
    obtain ⟨a, n, c, rfl, rfl⟩ := sl_form h3
    obtain ⟨a2, n2, c2, rfl, rfl⟩ := sl_form h4
    exact (l1Ints_any B B a a2 _ _ c c2 p q w h3 h4).mono fun e w' ⟨h1, h2⟩ => ⟨_, h1, h2.below _, .val _ rfl⟩
theorem specLex_fn (p q : List Int) : Fn Tryz.prog 174 [] [vD (dIs p), vD (dIs q)] (.o (bo1 (lexB p q))) [] :=
  Fn.pure fun B bx al w vs hv => by
    obtain ⟨u, v, rfl, h1, h2⟩ := vals2 hv
    have h3 := dr_ints h1
    have h4 := dr_ints h2
    obtain ⟨a, n, c, rfl, rfl⟩ := sl_form h3
    obtain ⟨a2, n2, c2, rfl, rfl⟩ := sl_form h4
    exact (specLex_any B B a a2 _ _ c c2 p q w h3 h4).mono fun e w' ⟨h1, h2⟩ => ⟨_, h1, h2.below _, .val _ rfl⟩
theorem carry_fn (p : List Int) : Fn Tryz.prog 79 [] [vD (dIs p)] (.o (nat1 (carry p))) [] :=
  Fn.pure fun B bx al w vs hv => by
    obtain ⟨u, rfl, h1⟩ := vals1 hv
    have h3 := dr_ints h1
    obtain ⟨a, n, c, rfl, rfl⟩ := sl_form h3
    exact (implCarry_any B a _ c p w h3).mono fun e w' ⟨h1, h2⟩ => ⟨_, h1, by rw [← h2]; exact Below.refl _ _, .val _ rfl⟩
theorem specCarry_fn (p : List Int) : Fn Tryz.prog 44 [] [vD (dIs p)] (.o (nat1 (carry p))) [] :=
  Fn.pure fun B bx al w vs hv => by
    obtain ⟨u, rfl, h1⟩ := vals1 hv
    have h3 := dr_ints h1
    obtain ⟨a, n, c, rfl, rfl⟩ := sl_form h3
    exact (specCarry_any B a _ c p w h3).mono fun e w' ⟨h1, h2⟩ => ⟨_, h1, by rw [← h2]; exact Below.refl _ _, .val _ rfl⟩

theorem compact_fn {ls : List (List Int)} (hl : ls.length ≤ 1000000) (h0 : 0 < ls.length) : Fn Tryz.prog 123 [(.b 0, .b 35 1 (dR ((ls).map rIs))), (.u 0, .u)] [.c (.own 0 1 ls.length), .c (.fn 124 [])] (.o (.c (.own 0 1 (kpV ls).length))) [(.b 0, .b 35 1 (dR ((kpV ls).map rIs))), (.u 0, .u)] := by
 refine Fn.of_code Tryz.func123 rfl rfl HB.nil.data rfl rfl HB.nil.data rfl (fun k _ h => by obtain rfl := al_z h; exact ⟨_, _, _, rfl⟩) ?_
 refine .seq <| .region <| .cons (.asg rfl rfl) <| .nil <| ks_n <| .seq <| .seq <| .region <| .cons (.mv rfl rfl) <| .cons (.lB 35 1 24 rfl rfl rfl rfl) <| .cons (.ls rfl rfl rfl) <| .nil <| ks_n ?_
 refine .cD rfl (fun h10 => ?_) (fun h10 => ?_)
 ·skip
  have hall : kpV ls = ls := by rw [kpV, show ls.length = 1 by omega, kpL_one (by omega), List.take_of_length_le (by omega)]
  refine .seq <| .region <| .cons (.mv rfl rfl) <| .cons (.asg rfl rfl) <| .nil <| ks_n <| .ret <| ks_r ?_
  refine kf_wret [(.t 4, .v (.o (.c (.own 0 1 ((kpV ls).length))))), (.b 0, .b 35 1 (dR ((kpV ls).map rIs))), (.u 0, .u)] (Wk.keep [(0, 0)] rfl rfl ⟨ks rfl (.c (.ow (by first | (rw [hall]; done) | (rw [kpV, ← hkq]; done)))), kb 0 rfl (.dt rfl (by first | (rw [hall]; done) | (rw [dR_takeP, ← List.map_take, rowsK_take, kpV, ← hkq]; done))), trivial⟩) rfl ?_ (one_box rfl)
  rfl
 ·skip
  refine .skip <| ks_n <| .seq <| .seq <| .region <| .cons (.asg rfl rfl) <| .nil <| ks_n <| .block ?_
  refine .loopK (fun m σ => (∃ k : Nat, m = ls.length - k ∧ (1 ≤ k) ∧ (k ≤ ls.length) ∧ (kpL ls k = ls.take k) ∧ σ = [(.t 0, .v (.o (.c (.own 0 1 (ls.length))))), (.t 1, .v (.o (.c (.fn 124 [])))), (.t 5, .v (.o (nat1 (k : Nat)))), (.b 0, .b 35 1 (dR ((ls).map rIs))), (.u 0, .u)])) [(0, 0)] ⟨1, rfl, by omega, by omega, kpL_one (by omega), rfl⟩ ⟨ks rfl (.c .ow), ks rfl .dt, ks rfl .dt, kb 0 rfl (.dt rfl rfl), trivial⟩ ?_
  rintro m σ ⟨k, hm0, hk1, hk, hE, rfl⟩
  refine .seq <| .seq <| .region <| .cons (.mv rfl rfl) <| .cons (.mv rfl rfl) <| .cons (.lB 35 1 24 rfl rfl rfl rfl) <| .cons (.ls rfl rfl rfl) <| .nil <| ks_n ?_
  refine .cD rfl (fun h15 => ?_) (fun h15 => ?_)
  ·skip
   obtain ⟨x, hx1⟩ : ∃ x_, ls[k]? = some x_ := ⟨_, List.getElem?_eq_getElem (by omega)⟩
   obtain ⟨y, hy1⟩ : ∃ x_, ls[k - 1]? = some x_ := ⟨_, List.getElem?_eq_getElem (by omega)⟩
   refine .skip <| ks_n <| .seq <| .block <| .seq ?_
   refine ACode.drawK (by kernel_rfl) (by kernel_rfl) ?_
   refine .cons (.mv rfl rfl) <| .cons (.mv rfl rfl) <| .cons (.mv rfl rfl) <| .cons (.xB 35 1 24 (i := k) rfl rfl rfl rfl rfl rfl (by omega)) ?_
   refine .cons (.b1 1 rfl rfl rfl rfl (dR_at (map_at hx1)) rfl) <| .cons (.mv rfl rfl) <| .cons (.mv rfl rfl) <| .cons (.sb rfl rfl rfl) <| .cons (.xB 35 1 24 (i := (k - 1)) rfl rfl rfl rfl rfl (by omega) (by omega)) ?_
   refine .cons (.b1 1 rfl rfl rfl rfl (dR_at (map_at hy1)) rfl) <| .cons (.cP [.tmp 22, .tmp 27] rfl rfl rfl rfl (slEq_fn x y) rfl (by kernel_rfl)) ?_
   refine .nil ⟨by kernel_rfl, ?_⟩
   refine ks_n ?_
   refine ACode.condT rfl (fun h28 => ?_) (fun h28 => ?_)
   ·try simp only [zs1, zs2, zs3, zs4, zs5, zs6, zs7] at h28
    have hdup := kpL_dup (by omega) hx1 hy1 (by first | assumption | simp_all)
    have hdl : (kpL ls k).length = k := by rw [hE, List.length_take]; omega
    have hd0 : (kpL ls k).length < k + 1 := by omega
    have hr0 : rowsK ls (k + 1) = ls := by rw [rowsK, hdup, hE, List.length_take, Nat.min_eq_left (by omega), List.take_append_drop]
    refine .seq <| .region <| .cons (.mv rfl rfl) <| .cons (.mv rfl rfl) <| .cons (St1.sliceFromB (e := 35) (sz := 1) (by' := 24) (i := k) rfl (by kernel_rfl) rfl rfl rfl rfl (by omega)) ?_
    refine .cons (.asg rfl rfl) <| .nil <| ks_n <| .seq <| .seq <| .region <| .cons (.asg rfl rfl) <| .nil <| ks_n <| .block ?_
    refine .loopK (fun m σ => (∃ q : Nat, m = ls.length - q ∧ (1 ≤ q) ∧ (k + q ≤ ls.length) ∧ ((kpL ls (k + q)).length < k + q) ∧ σ = [(.t 0, .v (.o (.c (.own 0 1 (ls.length))))), (.t 1, .v (.o (.c (.fn 124 [])))), (.t 5, .v (.o (nat1 ((kpL ls (k + q)).length : Nat)))), (.t 6, .v (.o (.c (.off 0 1 (k) (ls.length - k))))), (.t 7, .v (.o (nat1 (q : Nat)))), (.b 0, .b 35 1 (dR ((rowsK ls (k + q)).map rIs))), (.u 0, .u)])) [(0, 0)] ⟨1, rfl, by omega, by omega, by rw [hdup]; exact hd0, rfl⟩ ⟨ks rfl (.c .ow), ks rfl .dt, ks rfl (.dt (vI (by first | omega | (rw [hdup, hdl]; done) | (rw [← Nat.add_assoc, hsk]; done) | (rw [← Nat.add_assoc, hne, List.length_append, List.length_singleton]; omega)))), ks rfl (.c .of), ks rfl .dt, kb 0 rfl (.dt rfl (by first | rfl | (rw [hr0]; done) | (rw [hrk]; done) | (rw [← Nat.add_assoc, ← rowsK_set hne (by omega)]; exact dR_setP _ _ _ _))), trivial⟩ ?_
    rintro m σ ⟨q, hm0, hq1, hq, hkl, rfl⟩
    refine .seq <| .seq <| .region <| .cons (.mv rfl rfl) <| .cons (.mv rfl rfl) <| .cons (St1.lenO (e := 35) (m := 1) (by' := 24) rfl rfl (by kernel_rfl) rfl rfl) ?_
    refine .cons (.ls rfl rfl rfl) <| .nil <| ks_n ?_
    refine .cD rfl (fun h35 => ?_) (fun h35 => ?_)
    ·skip
     obtain ⟨x, hx1⟩ : ∃ x_, ls[k + q]? = some x_ := ⟨_, List.getElem?_eq_getElem (by omega)⟩
     obtain ⟨y, hy1⟩ : ∃ x_, ls[k + (q - 1)]? = some x_ := ⟨_, List.getElem?_eq_getElem (by omega)⟩
     have hy2 : ls[k + q - 1]? = some y := by rw [show k + q - 1 = k + (q - 1) by omega]; exact hy1
     refine .skip <| ks_n <| .seq <| .block <| .seq ?_
     refine ACode.drawK (by kernel_rfl) (by kernel_rfl) ?_
     refine .cons (.mv rfl rfl) <| .cons (.mv rfl rfl) <| .cons (.mv rfl rfl) <| .cons (St1.indexO (e := 35) (sz := 1) (by' := 24) (i := q) rfl (by kernel_rfl) rfl rfl rfl rfl rfl (by omega)) ?_
     refine .cons (.b1 1 rfl rfl rfl rfl (dR_at (map_at (rowsK_at hx1 (by omega)))) rfl) ?_
     refine .cons (.mv rfl rfl) <| .cons (.mv rfl rfl) <| .cons (.sb rfl rfl rfl) <| .cons (St1.indexO (e := 35) (sz := 1) (by' := 24) (i := (q - 1)) rfl (by kernel_rfl) rfl rfl rfl rfl (by omega) (by omega)) ?_
     refine .cons (.b1 1 rfl rfl rfl rfl (dR_at (map_at (rowsK_at hy1 (by omega)))) rfl) ?_
     refine .cons (.cP [.tmp 42, .tmp 47] rfl rfl rfl rfl (slEq_fn x y) rfl (by kernel_rfl)) ?_
     refine .cons (.nt rfl rfl) ?_
     refine .nil ⟨by kernel_rfl, ?_⟩
     refine ks_n ?_
     refine ACode.condT rfl (fun h49 => ?_) (fun h49 => ?_)
     ·try simp only [zs1, zs2, zs3, zs4, zs5, zs6, zs7] at h49
      have hne := kpL_new hx1 hy2 (by first | assumption | simp_all)
      obtain ⟨z, hz1⟩ : ∃ z_, (rowsK ls (k + q))[(kpL ls (k + q)).length]? = some z_ := ⟨_, List.getElem?_eq_getElem (by rw [rowsK_len (by omega)]; omega)⟩
      refine .seq <| .region <| .cons (.mv rfl rfl) <| .cons (.mv rfl rfl) <| .cons (.mv rfl rfl) <| .cons (.mv rfl rfl) <| .cons (St1.indexO (e := 35) (sz := 1) (by' := 24) (i := q) rfl (by kernel_rfl) rfl rfl rfl rfl rfl (by omega)) ?_
      refine .cons (.b1 1 rfl rfl rfl rfl (dR_at (map_at (rowsK_at hx1 (by omega)))) rfl) ?_
      refine .cons (.xB 35 1 24 (i := (kpL ls (k + q)).length) rfl rfl rfl rfl rfl rfl (by omega)) ?_
      refine .cons (.sT 1 false rfl rfl rfl rfl (dR_at (map_at hz1)) rfl rfl) <| .nil <| ks_n <| .region <| .cons (.mv rfl rfl) <| .cons (.pl rfl rfl rfl) <| .cons (.asg rfl rfl) <| .nil <| kb_n <| ks_n <| .region <| .cons (.mv rfl rfl) <| .cons (.pl rfl rfl rfl) <| .cons (.asg rfl rfl) <| .nil ?_
      refine kl_k [(0, 0)] ⟨q + 1, rfl, by omega, by omega, by first | (rw [← Nat.add_assoc, hsk]; omega) | (rw [← Nat.add_assoc, hne, List.length_append, List.length_singleton]; omega), rfl⟩ ⟨ks rfl (.c .ow), ks rfl .dt, ks rfl (.dt (vI (by first | omega | (rw [hdup, hdl]; done) | (rw [← Nat.add_assoc, hsk]; done) | (rw [← Nat.add_assoc, hne, List.length_append, List.length_singleton]; omega)))), ks rfl (.c .of), ks rfl .dt, kb 0 rfl (.dt rfl (by first | rfl | (rw [hr0]; done) | (rw [hrk]; done) | (rw [← Nat.add_assoc, ← rowsK_set hne (by omega)]; exact dR_setP _ _ _ _))), trivial⟩
     ·try simp only [zs1, zs2, zs3, zs4, zs5, zs6, zs7] at h49
      have hsk := kpL_dup (by omega) hx1 hy2 (by first | assumption | simp_all)
      have hrk : rowsK ls (k + (q + 1)) = rowsK ls (k + q) := by rw [← Nat.add_assoc, rowsK, hsk]; rfl
      refine .skip <| kb_n <| ks_n <| .region <| .cons (.mv rfl rfl) <| .cons (.pl rfl rfl rfl) <| .cons (.asg rfl rfl) <| .nil ?_
      refine kl_k [(0, 0)] ⟨q + 1, rfl, by omega, by omega, by first | (rw [← Nat.add_assoc, hsk]; omega) | (rw [← Nat.add_assoc, hne, List.length_append, List.length_singleton]; omega), rfl⟩ ⟨ks rfl (.c .ow), ks rfl .dt, ks rfl (.dt (vI (by first | omega | (rw [hdup, hdl]; done) | (rw [← Nat.add_assoc, hsk]; done) | (rw [← Nat.add_assoc, hne, List.length_append, List.length_singleton]; omega)))), ks rfl (.c .of), ks rfl .dt, kb 0 rfl (.dt rfl (by first | rfl | (rw [hr0]; done) | (rw [hrk]; done) | (rw [← Nat.add_assoc, ← rowsK_set hne (by omega)]; exact dR_setP _ _ _ _))), trivial⟩
    ·skip
     have hkq : k + q = ls.length := by omega
     refine .exit <| ks_e <| kl_e <| kb_hit <| ks_n <| .seq <| .region <| .cons (.mv rfl rfl) <| .cons (.mv rfl rfl) ?_
     refine .clrB (e := 35) (sz := 1) (by' := 24) (i := (kpL ls (k + q)).length) rfl rfl rfl (by kernel_rfl) rfl rfl (by rw [dR_len, List.length_map, rowsK_len (by omega)]) rfl (by first | rfl | omega) (by omega) ?_
     refine .nil <| ks_n <| .seq <| .region <| .cons (.mv rfl rfl) <| .cons (.mv rfl rfl) <| .cons (St1.sliceToB (e := 35) (sz := 1) (by' := 24) (i := (kpL ls (k + q)).length) rfl rfl rfl rfl rfl (by first | rfl | omega) (by omega)) ?_
     refine .cons (.asg rfl rfl) <| .nil <| ks_n <| .ret <| kb_r <| ks_r <| kl_r <| kb_r <| ks_r ?_
     refine kf_wret [(.t 4, .v (.o (.c (.own 0 1 ((kpV ls).length))))), (.b 0, .b 35 1 (dR ((kpV ls).map rIs))), (.u 0, .u)] (Wk.keep [(0, 0)] rfl rfl ⟨ks rfl (.c (.ow (by first | (rw [hall]; done) | (rw [kpV, ← hkq]; done)))), kb 0 rfl (.dt rfl (by first | (rw [hall]; done) | (rw [dR_takeP, ← List.map_take, rowsK_take, kpV, ← hkq]; done))), trivial⟩) rfl ?_ (one_box rfl)
     rfl
   ·try simp only [zs1, zs2, zs3, zs4, zs5, zs6, zs7] at h28
    have hnew : kpL ls (k + 1) = ls.take (k + 1) := by rw [kpL_new hx1 hy1 (by first | assumption | simp_all), hE, List.take_add_one, hx1]; rfl
    refine .skip <| kb_n <| ks_n <| .region <| .cons (.mv rfl rfl) <| .cons (.pl rfl rfl rfl) <| .cons (.asg rfl rfl) <| .nil ?_
    refine kl_k [(0, 0)] ⟨k + 1, rfl, by omega, by omega, hnew, rfl⟩ ⟨ks rfl (.c .ow), ks rfl .dt, ks rfl .dt, kb 0 rfl (.dt rfl rfl), trivial⟩
  ·skip
   have hall : kpV ls = ls := by rw [kpV, ← show k = ls.length by omega, hE, List.take_of_length_le (by omega)]
   refine .exit <| ks_e <| kl_e <| kb_hit <| ks_n <| .seq <| .region <| .cons (.mv rfl rfl) <| .cons (.asg rfl rfl) <| .nil <| ks_n <| .ret ?_
   refine kf_wret [(.t 4, .v (.o (.c (.own 0 1 ((kpV ls).length))))), (.b 0, .b 35 1 (dR ((kpV ls).map rIs))), (.u 0, .u)] (Wk.keep [(0, 0)] rfl rfl ⟨ks rfl (.c (.ow (by first | (rw [hall]; done) | (rw [kpV, ← hkq]; done)))), kb 0 rfl (.dt rfl (by first | (rw [hall]; done) | (rw [dR_takeP, ← List.map_take, rowsK_take, kpV, ← hkq]; done))), trivial⟩) rfl ?_ (one_box rfl)
   rfl
end Go.Proofs.YtidfloikpieggaaGreat
/- The library's sort at this dump: the numbers of its functions, each fact by the kernel (laid by the shelf's tools for the seat of r9a alone); no condition. -/
namespace Go.Proofs
open Go.Shelf
def Tryz.laysSlF6_f121_ren : Go.Shelf.Ren := ⟨fun | 6 => 121 | 15 => 168 | 14 => 167 | 28 => 213 | 29 => 214 | 20 => 205 | 21 => 206 | 22 => 207 | 23 => 208 | 24 => 209 | 25 => 210 | 26 => 211 | 27 => 212 | 46 => 237 | 47 => 238 | 48 => 239 | 49 => 240 | 50 => 241 | 57 => 250 | n => n, fun | 22 => 60 | 24 => 35 | 25 => 161 | 3 => 3 | 39 => 212 | 0 => 0 | 53 => 244 | 55 => 246 | 4 => 4 | 46 => 238 | 45 => 237 | 50 => 127 | 5 => 5 | 9 => 9 | 66 => 262 | 70 => 187 | 76 => 269 | 77 => 192 | n => n, fun | n => n⟩
theorem Tryz.laysSlF6_f121 : Go.Proofs.SlLaysF.n6 Tryz.prog Tryz.laysSlF6_f121_ren := {
  mixed := by kernel_rfl
  f6 := ⟨Tryz.f121.name, by decide, Tryz.func121.trans (congrArg some (by kernel_rfl))⟩
  f14 := ⟨Tryz.f167.name, by decide, Tryz.func167.trans (congrArg some (by kernel_rfl))⟩
  f15 := Tryz.func168.trans (congrArg some (by kernel_rfl))
  f20 := ⟨Tryz.f205.name, by decide, Tryz.func205.trans (congrArg some (by kernel_rfl))⟩
  f21 := ⟨Tryz.f206.name, by decide, Tryz.func206.trans (congrArg some (by kernel_rfl))⟩
  f22 := ⟨Tryz.f207.name, by decide, Tryz.func207.trans (congrArg some (by kernel_rfl))⟩
  f23 := ⟨Tryz.f208.name, by decide, Tryz.func208.trans (congrArg some (by kernel_rfl))⟩
  f24 := ⟨Tryz.f209.name, by decide, Tryz.func209.trans (congrArg some (by kernel_rfl))⟩
  f25 := ⟨Tryz.f210.name, by decide, Tryz.func210.trans (congrArg some (by kernel_rfl))⟩
  f26 := ⟨Tryz.f211.name, by decide, Tryz.func211.trans (congrArg some (by kernel_rfl))⟩
  f27 := ⟨Tryz.f212.name, by decide, Tryz.func212.trans (congrArg some (by kernel_rfl))⟩
  f28 := Tryz.func213.trans (congrArg some (by kernel_rfl))
  f29 := Tryz.func214.trans (congrArg some (by kernel_rfl))
  f46 := ⟨Tryz.f237.name, by decide, Tryz.func237.trans (congrArg some (by kernel_rfl))⟩
  f47 := Tryz.func238.trans (congrArg some (by kernel_rfl))
  f48 := Tryz.func239.trans (congrArg some (by kernel_rfl))
  f49 := ⟨Tryz.f240.name, by decide, Tryz.func240.trans (congrArg some (by kernel_rfl))⟩
  f50 := ⟨Tryz.f241.name, by decide, Tryz.func241.trans (congrArg some (by kernel_rfl))⟩
  f57 := ⟨Tryz.f250.name, by decide, Tryz.func250.trans (congrArg some (by kernel_rfl))⟩
  t0 := Tryz.underlying0
  a0 := Tryz.isAgg0
  z0 := Tryz.sizeOf0
  v0 := Tryz.zeroValue0
  t3 := Tryz.underlying3
  a3 := Tryz.isAgg3
  z3 := Tryz.sizeOf3
  v3 := Tryz.zeroValue3
  t4 := Tryz.underlying4
  a4 := Tryz.isAgg4
  z4 := Tryz.sizeOf4
  v4 := Tryz.zeroValue4
  t5 := Tryz.underlying5
  a5 := Tryz.isAgg5
  z5 := Tryz.sizeOf5
  v5 := Tryz.zeroValue5
  t9 := Tryz.underlying9
  a9 := Tryz.isAgg9
  z9 := Tryz.sizeOf9
  v9 := Tryz.zeroValue9
  t22 := Tryz.underlying60
  a22 := Tryz.isAgg60
  z22 := Tryz.sizeOf60
  v22 := Tryz.zeroValue60
  a24 := Tryz.isAgg35
  z24 := Tryz.sizeOf35
  t25 := Tryz.underlying161
  a25 := Tryz.isAgg161
  z25 := Tryz.sizeOf161
  v25 := Tryz.zeroValue161
  t39 := Tryz.underlying212
  a39 := Tryz.isAgg212
  z39 := Tryz.sizeOf212
  v39 := Tryz.zeroValue212
  t45 := Tryz.underlying237
  a45 := Tryz.isAgg237
  z45 := Tryz.sizeOf237
  v45 := Tryz.zeroValue237
  t46 := Tryz.underlying238
  a46 := Tryz.isAgg238
  z46 := Tryz.sizeOf238
  v46 := Tryz.zeroValue238
  t50 := Tryz.underlying127
  a50 := Tryz.isAgg127
  z50 := Tryz.sizeOf127
  v50 := Tryz.zeroValue127
  t53 := Tryz.underlying244
  a53 := Tryz.isAgg244
  z53 := Tryz.sizeOf244
  v53 := Tryz.zeroValue244
  t55 := Tryz.underlying246
  a55 := Tryz.isAgg246
  z55 := Tryz.sizeOf246
  v55 := Tryz.zeroValue246
  t66 := Tryz.underlying262
  a66 := Tryz.isAgg262
  z66 := Tryz.sizeOf262
  v66 := Tryz.zeroValue262
  t70 := Tryz.underlying187
  a70 := Tryz.isAgg187
  z70 := Tryz.sizeOf187
  v70 := Tryz.zeroValue187
  t76 := Tryz.underlying269
  a76 := Tryz.isAgg269
  z76 := Tryz.sizeOf269
  v76 := Tryz.zeroValue269
  t77 := Tryz.underlying192
  a77 := Tryz.isAgg192
  z77 := Tryz.sizeOf192
  v77 := Tryz.zeroValue192 }
def Tryz.laysSlF06_f121_ren : Go.Shelf.Ren := ⟨fun | 6 => 121 | 15 => 168 | 14 => 167 | 28 => 213 | 29 => 214 | 20 => 205 | 21 => 206 | 22 => 207 | 23 => 208 | 24 => 209 | 25 => 210 | 26 => 211 | 27 => 212 | 46 => 237 | 47 => 238 | 48 => 239 | 49 => 240 | 50 => 241 | 57 => 250 | n => n, fun | 22 => 60 | 24 => 35 | 25 => 161 | 3 => 3 | 39 => 212 | 0 => 0 | 53 => 244 | 55 => 246 | 4 => 4 | 46 => 238 | 45 => 237 | 50 => 127 | 5 => 5 | 9 => 9 | 66 => 262 | 70 => 187 | 76 => 269 | 77 => 192 | n => n, fun | n => n⟩
theorem Tryz.laysSlF06_f121 : Go.Proofs.SlLaysF0.n6 Tryz.prog Tryz.laysSlF06_f121_ren := {
  mixed := by kernel_rfl
  f6 := ⟨Tryz.f121.name, by decide, Tryz.func121.trans (congrArg some (by kernel_rfl))⟩
  f14 := ⟨Tryz.f167.name, by decide, Tryz.func167.trans (congrArg some (by kernel_rfl))⟩
  f15 := Tryz.func168.trans (congrArg some (by kernel_rfl))
  f20 := ⟨Tryz.f205.name, by decide, Tryz.func205.trans (congrArg some (by kernel_rfl))⟩
  f21 := ⟨Tryz.f206.name, by decide, Tryz.func206.trans (congrArg some (by kernel_rfl))⟩
  f22 := ⟨Tryz.f207.name, by decide, Tryz.func207.trans (congrArg some (by kernel_rfl))⟩
  f23 := ⟨Tryz.f208.name, by decide, Tryz.func208.trans (congrArg some (by kernel_rfl))⟩
  f24 := ⟨Tryz.f209.name, by decide, Tryz.func209.trans (congrArg some (by kernel_rfl))⟩
  f25 := ⟨Tryz.f210.name, by decide, Tryz.func210.trans (congrArg some (by kernel_rfl))⟩
  f26 := ⟨Tryz.f211.name, by decide, Tryz.func211.trans (congrArg some (by kernel_rfl))⟩
  f27 := ⟨Tryz.f212.name, by decide, Tryz.func212.trans (congrArg some (by kernel_rfl))⟩
  f28 := Tryz.func213.trans (congrArg some (by kernel_rfl))
  f29 := Tryz.func214.trans (congrArg some (by kernel_rfl))
  f46 := ⟨Tryz.f237.name, by decide, Tryz.func237.trans (congrArg some (by kernel_rfl))⟩
  f47 := Tryz.func238.trans (congrArg some (by kernel_rfl))
  f48 := Tryz.func239.trans (congrArg some (by kernel_rfl))
  f49 := ⟨Tryz.f240.name, by decide, Tryz.func240.trans (congrArg some (by kernel_rfl))⟩
  f50 := ⟨Tryz.f241.name, by decide, Tryz.func241.trans (congrArg some (by kernel_rfl))⟩
  f57 := ⟨Tryz.f250.name, by decide, Tryz.func250.trans (congrArg some (by kernel_rfl))⟩
  t0 := Tryz.underlying0
  a0 := Tryz.isAgg0
  z0 := Tryz.sizeOf0
  v0 := Tryz.zeroValue0
  t3 := Tryz.underlying3
  a3 := Tryz.isAgg3
  z3 := Tryz.sizeOf3
  v3 := Tryz.zeroValue3
  t4 := Tryz.underlying4
  a4 := Tryz.isAgg4
  z4 := Tryz.sizeOf4
  v4 := Tryz.zeroValue4
  t5 := Tryz.underlying5
  a5 := Tryz.isAgg5
  z5 := Tryz.sizeOf5
  v5 := Tryz.zeroValue5
  t9 := Tryz.underlying9
  a9 := Tryz.isAgg9
  z9 := Tryz.sizeOf9
  v9 := Tryz.zeroValue9
  t22 := Tryz.underlying60
  a22 := Tryz.isAgg60
  z22 := Tryz.sizeOf60
  v22 := Tryz.zeroValue60
  t25 := Tryz.underlying161
  a25 := Tryz.isAgg161
  z25 := Tryz.sizeOf161
  v25 := Tryz.zeroValue161
  t39 := Tryz.underlying212
  a39 := Tryz.isAgg212
  z39 := Tryz.sizeOf212
  v39 := Tryz.zeroValue212
  t45 := Tryz.underlying237
  a45 := Tryz.isAgg237
  z45 := Tryz.sizeOf237
  v45 := Tryz.zeroValue237
  t46 := Tryz.underlying238
  a46 := Tryz.isAgg238
  z46 := Tryz.sizeOf238
  v46 := Tryz.zeroValue238
  t50 := Tryz.underlying127
  a50 := Tryz.isAgg127
  z50 := Tryz.sizeOf127
  v50 := Tryz.zeroValue127
  t53 := Tryz.underlying244
  a53 := Tryz.isAgg244
  z53 := Tryz.sizeOf244
  v53 := Tryz.zeroValue244
  t55 := Tryz.underlying246
  a55 := Tryz.isAgg246
  z55 := Tryz.sizeOf246
  v55 := Tryz.zeroValue246
  t66 := Tryz.underlying262
  a66 := Tryz.isAgg262
  z66 := Tryz.sizeOf262
  v66 := Tryz.zeroValue262
  t70 := Tryz.underlying187
  a70 := Tryz.isAgg187
  z70 := Tryz.sizeOf187
  v70 := Tryz.zeroValue187
  t76 := Tryz.underlying269
  a76 := Tryz.isAgg269
  z76 := Tryz.sizeOf269
  v76 := Tryz.zeroValue269
  t77 := Tryz.underlying192
  a77 := Tryz.isAgg192
  z77 := Tryz.sizeOf192
  v77 := Tryz.zeroValue192 }
end Go.Proofs
namespace Go.Proofs.YtidfloikpieggaaGreat
set_option linter.unusedVariables false
set_option linter.unusedSimpArgs false
open Go.RowKit Go.Shelf
theorem sortP_fn {ls : List (List Int)} (hl : ls.length ≤ 1000000) : Fn Tryz.prog 121 [(.b 0, .b 35 1 (dR (ls.map rIs))), (.u 0, .u)] [.c (.own 0 1 ls.length), .c (.fn 122 [])] (.tup []) [(.b 0, .b 35 1 (dR ((sortL ls).map rIs))), (.u 0, .u)] := sort_fn Tryz.laysSlF6_f121 hl
theorem sortN_fn : Fn Tryz.prog 121 [] [.c (.d (.val (.slice none 0 0))), .c (.fn 122 [])] (.tup []) [] := by
  intro B bx w vs hok hv
  obtain ⟨v0, v1, rfl, q0, q1⟩ := vals2_parts hv
  have q0 : Dr B w (.val (.slice none 0 0)) v0 := q0
  cases q0
  have h := AnyF.slices_SortFunc_none Tryz.laysSlF06_f121 none 0 v1 w
  refine (show Calls Tryz.prog 121 #[.slice none 0 0, v1] w _ from h).mono ?_
  rintro e w' ⟨rfl, rfl⟩
  exact ⟨.tuple #[], bx, rfl, ⟨⟨fun k e sz rows hl => (by cases hl), fun k l hk => (no_al0 k hk).elim, fun k hk => (no_al0 k hk).elim⟩, ⟨[], rfl, rfl, fun i c u h => by cases h⟩, rfl, rfl, rfl, Nat.le_refl _, fun b hl _ => rfl, fun k _ hk => (no_al0 k hk).elim, fun k hk => (no_al0 k hk).elim⟩⟩
end Go.Proofs.YtidfloikpieggaaGreat
