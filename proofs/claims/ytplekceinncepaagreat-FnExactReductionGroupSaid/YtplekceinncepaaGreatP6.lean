/- Part 6 of 6 of the proof: laws on memory and data, then what the functions compute, in the order in which they build on each other; conditions: those that each theorem names. -/
import Derived.Test.YtplekceinncepaaGreatP5

/- Instances of programs (the program); condition: memory holds it. -/
namespace Go.Proofs.YtplekceinncepaaGreat
set_option linter.unusedVariables false
set_option linter.unusedSimpArgs false
open Go.RowKit

theorem all_of {α : Type} {l : List α} {p : α → Bool} (h : ∀ (j : Nat) x, l[j]? = some x → p x = true) : l.all p = true := by
  rw [List.all_eq_true]
  intro x hx
  obtain ⟨j, hj⟩ := List.mem_iff_getElem?.1 hx
  exact h j x hj

set_option maxRecDepth 100000 in
set_option maxHeartbeats 1600000 in
theorem instances_fn {g : Prg} (hs : szG g ≤ 1073741824) : Fn Tryz.prog 26 [] [ad (rG g)] (.tup [vD (dNs (insV g)), bo1 (prgV g)]) [] := by
  have h1 := szO_len (f := szR) g.1
  have h2 := szO_len (f := szPt) g.2
  have hsz : szG g = szO szR g.1 + szO szPt g.2 := rfl
  refine Fn.code0 Tryz.func26 rfl rfl rfl rfl ?_
  refine ACode.seq ?_
  refine ACode.region ?_
  refine .cons (St1.boxP rfl rfl rfl rfl rfl rfl) ?_
  refine .cons (.asg rfl rfl) ?_
  refine .cons (.asg rfl rfl) ?_
  refine .nil ?_
  refine ks_n ?_
  refine ACode.seq ?_
  refine ACode.seq ?_
  refine ACode.region ?_
  refine .cons (.fP 0 0 false rfl rfl) ?_
  refine .cons (.l1 1 rfl rfl) ?_
  refine .cons (.cP [.tmp 14] rfl rfl rfl rfl (arraysOk_fn g.1 (by omega) (fun x hx => by have := szO_mem (f := szR) hx; have e : szR x = x.1.size + x.2.length := rfl; omega)) rfl) ?_
  refine .cons (.nt rfl rfl) ?_
  refine .cons (.mv rfl rfl) ?_
  refine AOps.cases 17 _ rfl (fun g17 => ?_) (fun g17 => ?_)
  · try simp only [List.length_map, decide_eq_true_eq, decide_eq_false_iff_not, Bool.not_eq_true', Bool.not_eq_false', Bool.not_eq_true, Bool.not_eq_false] at g17
    refine .cons (.gF rfl rfl rfl) ?_
    refine .cons (.gF rfl rfl rfl) ?_
    refine .cons (.gF rfl rfl rfl) ?_
    refine .cons (.gF rfl rfl rfl) ?_
    refine .cons (.pT rfl rfl rfl) ?_
    refine .nil ?_
    refine ks_n ?_
    refine ACode.condT rfl (fun _ => ?_) (fun h => by first | (cases h; done) | (simp [*] at h; done) | (exfalso; simp_all; done))
    refine ACode.seq ?_
    obtain ⟨hO, hN⟩ := prgV_f (g := g) (by first | exact prgS_f2 (show ¬ g.2.length ≤ 4 by omega) | exact prgS_f1 (by assumption))
    refine ACode.region ?_
    refine .cons (.asg rfl rfl) ?_
    refine .cons (.asg rfl rfl) ?_
    refine .nil ?_
    refine ks_n ?_
    refine ACode.ret ?_
    refine ks_r ?_
    refine kf_wret [(.t 2, .v (.o (vD (dNs (insV g))))), (.t 3, .v (.o (bo1 (prgV g))))] (Wk.keep [] rfl rfl ⟨ks rfl (.c (Cto.nilE 3 (by first | (rw [hN]; rfl) | (rw [hN, hEz]; rfl)))), ks rfl (.dt (by first | exact congrArg (fun b => V.o (bo1 b)) hO.symm | exact congrArg (fun b => V.o (bo1 b)) (by rw [hO, hEz, decide_eq_decide]; simp) | exact congrArg (fun b => V.o (bo1 b)) (by rw [hO, hEz, decide_eq_decide]; omega))), trivial⟩) rfl ?_ nobox
    rfl
  · try simp only [List.length_map, decide_eq_true_eq, decide_eq_false_iff_not, Bool.not_eq_true', Bool.not_eq_false', Bool.not_eq_true, Bool.not_eq_false] at g17
    refine .cons (.gT rfl rfl rfl (.fP 1 0 false rfl rfl)) ?_
    refine .cons (.gT rfl rfl rfl (.l1 1 rfl rfl)) ?_
    refine .cons (.gT rfl rfl rfl (.ln 101 2 48 rfl rfl rfl)) ?_
    refine .cons (.gT rfl rfl rfl (.gt rfl rfl rfl)) ?_
    refine .cons (.pF rfl rfl rfl) ?_
    refine .nil ?_
    refine ks_n ?_
    refine ACode.condT rfl (fun h22 => ?_) (fun h22 => ?_)
    · try simp only [List.length_map, decide_eq_true_eq, decide_eq_false_iff_not, Bool.not_eq_true', Bool.not_eq_false', Bool.not_eq_true, Bool.not_eq_false] at h22
      refine ACode.seq ?_
      obtain ⟨hO, hN⟩ := prgV_f (g := g) (by first | exact prgS_f2 (show ¬ g.2.length ≤ 4 by omega) | exact prgS_f1 (by assumption))
      refine ACode.region ?_
      refine .cons (.asg rfl rfl) ?_
      refine .cons (.asg rfl rfl) ?_
      refine .nil ?_
      refine ks_n ?_
      refine ACode.ret ?_
      refine ks_r ?_
      refine kf_wret [(.t 2, .v (.o (vD (dNs (insV g))))), (.t 3, .v (.o (bo1 (prgV g))))] (Wk.keep [] rfl rfl ⟨ks rfl (.c (Cto.nilE 3 (by first | (rw [hN]; rfl) | (rw [hN, hEz]; rfl)))), ks rfl (.dt (by first | exact congrArg (fun b => V.o (bo1 b)) hO.symm | exact congrArg (fun b => V.o (bo1 b)) (by rw [hO, hEz, decide_eq_decide]; simp) | exact congrArg (fun b => V.o (bo1 b)) (by rw [hO, hEz, decide_eq_decide]; omega))), trivial⟩) rfl ?_ nobox
      rfl
    · try simp only [List.length_map, decide_eq_true_eq, decide_eq_false_iff_not, Bool.not_eq_true', Bool.not_eq_false', Bool.not_eq_true, Bool.not_eq_false] at h22
      have hA : arrsV g.1 = true := by first | assumption | simp_all
      have h4 : g.2.length ≤ 4 := by omega
      refine ACode.skip ?_
      refine ks_n ?_
      refine ACode.seq ?_
      refine ACode.region ?_
      refine .cons (.asg rfl rfl) ?_
      refine .nil ?_
      refine ks_n ?_
      refine ACode.seq ?_
      refine ACode.seq ?_
      refine ACode.region ?_
      refine .cons (.fP 1 0 false rfl rfl) ?_
      refine .cons (.l1 1 rfl rfl) ?_
      refine .cons (.ln 101 2 48 rfl rfl rfl) ?_
      refine .cons (.mv rfl rfl) ?_
      refine .nil ?_
      refine ks_n ?_
      refine ACode.block ?_
      refine .loopK (fun m σ => (∃ k : Nat, m = g.2.length - k ∧ (k ≤ g.2.length) ∧ (∀ j q, j < k → g.2[j]? = some q → prtV g.1 q = true) ∧ (insG 0 (g.2.take k) = []) ∧ σ = [(.t 1, .v (.o (.c (.ptr (rG g))))), (.t 4, .v (.o (.c (.d (.val (.slice none 0 0)))))), (.t 24, .v (.o (vD (dPts g.2)))), (.t 25, .v (.o (nat1 (g.2.length : Nat)))), (.t 26, .v (.o (nat1 (k : Nat))))]) ∨ (∃ (k : Nat) (o : List Ins), m = g.2.length - k ∧ (k ≤ g.2.length) ∧ (∀ j q, j < k → g.2[j]? = some q → prtV g.1 q = true) ∧ (insG 0 (g.2.take k) = o) ∧ (o.length ≤ 480 * k) ∧ σ = [(.t 1, .v (.o (.c (.ptr (rG g))))), (.t 4, .v (.o (.c (.own 110 3 (o.length))))), (.t 24, .v (.o (vD (dPts g.2)))), (.t 25, .v (.o (nat1 (g.2.length : Nat)))), (.t 26, .v (.o (nat1 (k : Nat)))), (.b 110, .b 67 3 (dR (o.map rN))), (.u 110, .u)])) [] (.inl ⟨0, rfl, by omega, fun j q hj _ => absurd hj (by omega), rfl, rfl⟩) ⟨ks rfl .dt, ks rfl .dt, ks rfl .dt, ks rfl .dt, ks rfl .dt, trivial⟩ ?_
      rintro m σ (⟨k, hm0, hk, hF, hE, rfl⟩ | ⟨k, o, hm0, hk, hF, hE, ho, rfl⟩)
      · skip
        refine ACode.seq ?_
        refine ACode.region ?_
        refine .cons (.ls rfl rfl rfl) ?_
        refine .nil ?_
        refine ks_n ?_
        refine ACode.seq ?_
        refine .cD rfl (fun h27 => ?_) (fun h27 => ?_)
        · skip
          obtain ⟨q, hq1⟩ : ∃ x_, g.2[k]? = some x_ := ⟨_, List.getElem?_eq_getElem (by omega)⟩
          have hqm := List.mem_of_getElem? hq1
          have hqs := szO_mem (f := szPt) hqm
          have hqe : szPt q = szLs q.1 + szO szS q.2 := rfl
          have hbg := sz_bg (ns := q.1) (by omega)
          have hql := szO_len (f := szS) q.2
          refine ACode.skip ?_
          refine ks_n ?_
          refine ACode.seq ?_
          refine ACode.block ?_
          refine ACode.seq ?_
          refine ACode.region ?_
          refine .cons (.mv rfl rfl) ?_
          refine .cons (.xL 101 2 48 rfl rfl rfl rfl rfl) ?_
          refine .cons (.lN 2 rfl rfl rfl) ?_
          refine .cons (.al 106 [.slice none 0 0, .slice none 0 0] rfl rfl rfl) ?_
          refine .cons (.asg rfl rfl) ?_
          refine .cons (.sT 2 true rfl rfl rfl rfl rfl rfl rfl) ?_
          refine .nil ?_
          refine ks_n ?_
          refine ACode.seq ?_
          refine .keep [(.t 1, .v (.o (.c (.ptr (rG g))))), (.t 4, .v (.o (.c (.d (.val (.slice none 0 0)))))), (.t 5, .v (.o (nat1 (k : Nat)))), (.t 6, .v (.o (.c (.ptr (rP q))))), (.t 24, .v (.o (vD (dPts g.2)))), (.t 25, .v (.o (nat1 (g.2.length : Nat)))), (.t 26, .v (.o (nat1 (k : Nat))))] [] ⟨ks rfl .dt, ks rfl .dt, ks rfl .dt, ks rfl (.c (.frzP _ _ _ _ _ _ _ _ rfl (show _ = dR [rP q] from rfl) rfl rfl rfl)), ks rfl .dt, ks rfl .dt, ks rfl .dt, trivial⟩ ?_
          refine ACode.region ?_
          refine .cons (.fP 0 0 false rfl rfl) ?_
          refine .cons (.l1 1 rfl rfl) ?_
          refine .cons (.cP [.tmp 33] rfl rfl rfl rfl (implNestPts_B q.1 hbg) rfl) ?_
          refine .cons (.mv rfl rfl) ?_
          refine .cons (.ex rfl rfl rfl) ?_
          refine .cons (.ex rfl rfl rfl) ?_
          refine .cons (.asg rfl rfl) ?_
          refine .cons (.asg rfl rfl) ?_
          refine .nil ?_
          refine ks_n ?_
          refine ACode.seq ?_
          refine ACode.seq ?_
          refine ACode.region ?_
          refine .cons (.mv rfl rfl) ?_
          refine .cons (.nt rfl rfl) ?_
          refine .cons (.mv rfl rfl) ?_
          refine AOps.cases 39 _ rfl (fun g39 => ?_) (fun g39 => ?_)
          · try simp only [List.length_map, decide_eq_true_eq, decide_eq_false_iff_not, Bool.not_eq_true', Bool.not_eq_false', Bool.not_eq_true, Bool.not_eq_false] at g39
            refine .cons (.gF rfl rfl rfl) ?_
            refine .cons (.gF rfl rfl rfl) ?_
            refine .cons (.gF rfl rfl rfl) ?_
            refine .cons (.gF rfl rfl rfl) ?_
            refine .cons (.gF rfl rfl rfl) ?_
            refine .cons (.pT rfl rfl rfl) ?_
            refine .cons (.mv rfl rfl) ?_
            refine .cons (.gF rfl rfl rfl) ?_
            refine .cons (.gF rfl rfl rfl) ?_
            refine .cons (.gF rfl rfl rfl) ?_
            refine .cons (.gF rfl rfl rfl) ?_
            refine .cons (.pT rfl rfl rfl) ?_
            refine .nil ?_
            refine ks_n ?_
            refine ACode.condT rfl (fun _ => ?_) (fun h => by first | (cases h; done) | (simp [*] at h; done) | (exfalso; simp_all; done))
            refine ACode.seq ?_
            have hbad : prtV g.1 q = false := by first | exact prtV_f1 (by assumption) | exact prtV_f2 (fun h => by simp_all [inB]; omega) | (obtain ⟨s, hs, hs2⟩ := List.any_eq_true.1 (by assumption); exact prtV_f3 hs (by simpa using hs2))
            obtain ⟨hO, hN⟩ := prgV_f (g := g) (prgS_f3 hqm hbad)
            refine ACode.region ?_
            refine .cons (.asg rfl rfl) ?_
            refine .cons (.asg rfl rfl) ?_
            refine .nil ?_
            refine ks_n ?_
            refine ACode.ret ?_
            refine ks_r ?_
            refine kb_r ?_
            refine ks_r ?_
            refine kl_r ?_
            refine kb_r ?_
            refine ks_r ?_
            refine kf_wret [(.t 2, .v (.o (vD (dNs (insV g))))), (.t 3, .v (.o (bo1 (prgV g))))] (Wk.keep [] rfl rfl ⟨ks rfl (.c (Cto.nilE 3 (by first | (rw [hN]; rfl) | (rw [hN, hEz]; rfl)))), ks rfl (.dt (by first | exact congrArg (fun b => V.o (bo1 b)) hO.symm | exact congrArg (fun b => V.o (bo1 b)) (by rw [hO, hEz, decide_eq_decide]; simp) | exact congrArg (fun b => V.o (bo1 b)) (by rw [hO, hEz, decide_eq_decide]; omega))), trivial⟩) rfl ?_ nobox
            rfl
          · try simp only [List.length_map, decide_eq_true_eq, decide_eq_false_iff_not, Bool.not_eq_true', Bool.not_eq_false', Bool.not_eq_true, Bool.not_eq_false] at g39
            refine .cons (.gT rfl rfl rfl (.fP 1 0 false rfl rfl)) ?_
            refine .cons (.gT rfl rfl rfl (.l1 1 rfl rfl)) ?_
            refine .cons (.gT rfl rfl rfl (.ln 64 9 152 rfl rfl rfl)) ?_
            refine .cons (.gT rfl rfl rfl (.cP [.tmp 42, .const (.int .i64 (1)), .const (.int .i64 (4))] rfl rfl rfl rfl (within_fn _ 1 4) rfl)) ?_
            refine .cons (.gT rfl rfl rfl (.nt rfl rfl)) ?_
            refine .cons (.pF rfl rfl rfl) ?_
            refine .cons (.mv rfl rfl) ?_
            refine AOps.cases 46 _ rfl (fun g46 => ?_) (fun g46 => ?_)
            · try simp only [List.length_map, decide_eq_true_eq, decide_eq_false_iff_not, Bool.not_eq_true', Bool.not_eq_false', Bool.not_eq_true, Bool.not_eq_false] at g46
              refine .cons (.gF rfl rfl rfl) ?_
              refine .cons (.gF rfl rfl rfl) ?_
              refine .cons (.gF rfl rfl rfl) ?_
              refine .cons (.gF rfl rfl rfl) ?_
              refine .cons (.pT rfl rfl rfl) ?_
              refine .nil ?_
              refine ks_n ?_
              refine ACode.condT rfl (fun _ => ?_) (fun h => by first | (cases h; done) | (simp [*] at h; done) | (exfalso; simp_all; done))
              refine ACode.seq ?_
              have hbad : prtV g.1 q = false := by first | exact prtV_f1 (by assumption) | exact prtV_f2 (fun h => by simp_all [inB]; omega) | (obtain ⟨s, hs, hs2⟩ := List.any_eq_true.1 (by assumption); exact prtV_f3 hs (by simpa using hs2))
              obtain ⟨hO, hN⟩ := prgV_f (g := g) (prgS_f3 hqm hbad)
              refine ACode.region ?_
              refine .cons (.asg rfl rfl) ?_
              refine .cons (.asg rfl rfl) ?_
              refine .nil ?_
              refine ks_n ?_
              refine ACode.ret ?_
              refine ks_r ?_
              refine kb_r ?_
              refine ks_r ?_
              refine kl_r ?_
              refine kb_r ?_
              refine ks_r ?_
              refine kf_wret [(.t 2, .v (.o (vD (dNs (insV g))))), (.t 3, .v (.o (bo1 (prgV g))))] (Wk.keep [] rfl rfl ⟨ks rfl (.c (Cto.nilE 3 (by first | (rw [hN]; rfl) | (rw [hN, hEz]; rfl)))), ks rfl (.dt (by first | exact congrArg (fun b => V.o (bo1 b)) hO.symm | exact congrArg (fun b => V.o (bo1 b)) (by rw [hO, hEz, decide_eq_decide]; simp) | exact congrArg (fun b => V.o (bo1 b)) (by rw [hO, hEz, decide_eq_decide]; omega))), trivial⟩) rfl ?_ nobox
              rfl
            · try simp only [List.length_map, decide_eq_true_eq, decide_eq_false_iff_not, Bool.not_eq_true', Bool.not_eq_false', Bool.not_eq_true, Bool.not_eq_false] at g46
              refine .cons (.gT rfl rfl rfl (.fP 1 0 false rfl rfl)) ?_
              refine .cons (.gT rfl rfl rfl (.l1 1 rfl rfl)) ?_
              refine .cons (.gT rfl rfl rfl (St1.makeFunc (xs := [.tmp 6]) rfl rfl rfl rfl rfl rfl rfl)) ?_
              refine .cons (.gT rfl rfl rfl (.cP [.tmp 48, .tmp 49] rfl rfl rfl rfl (cnt_stm (f := 58) (cap := [rP q]) (by kernel_rfl) (fun s => !stmtV (q.1.length : Nat) s) q.2 (by omega) (fun s hs => ins1_fn (by have := szO_mem (f := szS) hs; omega))) rfl)) ?_
              refine .cons (.pF rfl rfl rfl) ?_
              refine .nil ?_
              refine ks_n ?_
              refine ACode.condT rfl (fun h51 => ?_) (fun h51 => ?_)
              · try simp only [List.length_map, decide_eq_true_eq, decide_eq_false_iff_not, Bool.not_eq_true', Bool.not_eq_false', Bool.not_eq_true, Bool.not_eq_false] at h51
                refine ACode.seq ?_
                have hbad : prtV g.1 q = false := by first | exact prtV_f1 (by assumption) | exact prtV_f2 (fun h => by simp_all [inB]; omega) | (obtain ⟨s, hs, hs2⟩ := List.any_eq_true.1 (by assumption); exact prtV_f3 hs (by simpa using hs2))
                obtain ⟨hO, hN⟩ := prgV_f (g := g) (prgS_f3 hqm hbad)
                refine ACode.region ?_
                refine .cons (.asg rfl rfl) ?_
                refine .cons (.asg rfl rfl) ?_
                refine .nil ?_
                refine ks_n ?_
                refine ACode.ret ?_
                refine ks_r ?_
                refine kb_r ?_
                refine ks_r ?_
                refine kl_r ?_
                refine kb_r ?_
                refine ks_r ?_
                refine kf_wret [(.t 2, .v (.o (vD (dNs (insV g))))), (.t 3, .v (.o (bo1 (prgV g))))] (Wk.keep [] rfl rfl ⟨ks rfl (.c (Cto.nilE 3 (by first | (rw [hN]; rfl) | (rw [hN, hEz]; rfl)))), ks rfl (.dt (by first | exact congrArg (fun b => V.o (bo1 b)) hO.symm | exact congrArg (fun b => V.o (bo1 b)) (by rw [hO, hEz, decide_eq_decide]; simp) | exact congrArg (fun b => V.o (bo1 b)) (by rw [hO, hEz, decide_eq_decide]; omega))), trivial⟩) rfl ?_ nobox
                rfl
              · try simp only [List.length_map, decide_eq_true_eq, decide_eq_false_iff_not, Bool.not_eq_true', Bool.not_eq_false', Bool.not_eq_true, Bool.not_eq_false] at h51
                have hv1 : okP q.1 = true := by first | assumption | simp_all
                have hv2 : 1 ≤ q.2.length ∧ q.2.length ≤ 4 := by simp_all [inB]; omega
                have hv3 : ∀ s ∈ q.2, stmtV (q.1.length : Nat) s = true := by simp_all
                refine ACode.skip ?_
                refine ks_n ?_
                refine ACode.seq ?_
                refine ACode.region ?_
                refine .cons (.mv rfl rfl) ?_
                refine .cons (.ln 38 1 24 rfl rfl rfl) ?_
                refine .cons (.mv rfl rfl) ?_
                refine .nil ?_
                refine ks_n ?_
                refine ACode.block ?_
                refine .loopK (fun m σ => (∃ i : Nat, m = (npR q.1).length - i ∧ (i = 0) ∧ σ = [(.t 1, .v (.o (.c (.ptr (rG g))))), (.t 4, .v (.o (.c (.d (.val (.slice none 0 0)))))), (.t 5, .v (.o (nat1 (k : Nat)))), (.t 6, .v (.o (.c (.ptr (rP q))))), (.t 24, .v (.o (vD (dPts g.2)))), (.t 25, .v (.o (nat1 (g.2.length : Nat)))), (.t 26, .v (.o (nat1 (k : Nat)))), (.t 52, .v (.o (vD (dPs (npR q.1))))), (.t 53, .v (.o (nat1 ((npR q.1).length : Nat)))), (.t 54, .v (.o (nat1 (i : Nat))))]) ∨ (∃ (i : Nat) (o2 : List Ins), m = (npR q.1).length - i ∧ (i ≤ (npR q.1).length) ∧ (∀ j p, j < i → (npR q.1)[j]? = some p → ptG' g.1 q.2 p = true) ∧ ([] ++ insT k q.2.length ((npR q.1).take i) = o2) ∧ (o2.length ≤ 480 * k + 4 * i) ∧ σ = [(.t 1, .v (.o (.c (.ptr (rG g))))), (.t 4, .v (.o (.c (.own 120 3 (o2.length))))), (.t 5, .v (.o (nat1 (k : Nat)))), (.t 6, .v (.o (.c (.ptr (rP q))))), (.t 24, .v (.o (vD (dPts g.2)))), (.t 25, .v (.o (nat1 (g.2.length : Nat)))), (.t 26, .v (.o (nat1 (k : Nat)))), (.t 52, .v (.o (vD (dPs (npR q.1))))), (.t 53, .v (.o (nat1 ((npR q.1).length : Nat)))), (.t 54, .v (.o (nat1 (i : Nat)))), (.b 120, .b 67 3 (dR (o2.map rN))), (.u 120, .u)])) [] (.inl ⟨0, rfl, rfl, rfl⟩) ⟨ks rfl .dt, ks rfl .dt, ks rfl .dt, ks rfl .dt, ks rfl .dt, ks rfl .dt, ks rfl .dt, ks rfl .dt, ks rfl .dt, ks rfl .dt, trivial⟩ ?_
                rintro m σ (⟨i, hm0, rfl, rfl⟩ | ⟨i, o2, hm0, hi, hG, hEo, ho2, rfl⟩)
                · skip
                  refine ACode.seq ?_
                  refine ACode.region ?_
                  refine .cons (.ls rfl rfl rfl) ?_
                  refine .nil ?_
                  refine ks_n ?_
                  refine ACode.seq ?_
                  refine .cD rfl (fun h55 => ?_) (fun h55 => ?_)
                  · skip
                    obtain ⟨p, hp1⟩ : ∃ x_, (npR q.1)[0]? = some x_ := ⟨_, List.getElem?_eq_getElem (by omega)⟩
                    have hpm := List.mem_of_getElem? hp1
                    have hpt := npR_pt hpm
                    have hnl := npR_len q.1
                    refine ACode.skip ?_
                    refine ks_n ?_
                    refine ACode.seq ?_
                    refine ACode.block ?_
                    refine ACode.seq ?_
                    refine ACode.region ?_
                    refine .cons (.xL 38 1 24 rfl rfl rfl rfl rfl) ?_
                    refine .cons (.l1 1 rfl rfl) ?_
                    refine .cons (.asg rfl rfl) ?_
                    refine .nil ?_
                    refine ks_n ?_
                    refine ACode.seq ?_
                    refine ACode.seq ?_
                    refine ACode.region ?_
                    refine .cons (.mv rfl rfl) ?_
                    refine .cons (.cP [.tmp 58] rfl rfl rfl rfl (isPoint_fn _) rfl) ?_
                    refine .cons (.nt rfl rfl) ?_
                    refine .nil ?_
                    refine ks_n ?_
                    refine ACode.condT rfl (fun h60 => ?_) (fun h60 => ?_)
                    · try simp only [List.length_map, decide_eq_true_eq, decide_eq_false_iff_not, Bool.not_eq_true', Bool.not_eq_false', Bool.not_eq_true, Bool.not_eq_false] at h60
                      refine ACode.seq ?_
                      obtain ⟨hO, hN⟩ := prgV_f (g := g) (prgS_f3 hqm (prtV_f4 hpm (by assumption)))
                      refine ACode.region ?_
                      refine .cons (.asg rfl rfl) ?_
                      refine .cons (.asg rfl rfl) ?_
                      refine .nil ?_
                      refine ks_n ?_
                      refine ACode.ret ?_
                      refine ks_r ?_
                      refine kb_r ?_
                      refine ks_r ?_
                      refine kl_r ?_
                      refine kb_r ?_
                      refine kb_r ?_
                      refine ks_r ?_
                      refine kl_r ?_
                      refine kb_r ?_
                      refine ks_r ?_
                      refine kf_wret [(.t 2, .v (.o (vD (dNs (insV g))))), (.t 3, .v (.o (bo1 (prgV g))))] (Wk.keep [] rfl rfl ⟨ks rfl (.c (Cto.nilE 3 (by first | (rw [hN]; rfl) | (rw [hN, hEz]; rfl)))), ks rfl (.dt (by first | exact congrArg (fun b => V.o (bo1 b)) hO.symm | exact congrArg (fun b => V.o (bo1 b)) (by rw [hO, hEz, decide_eq_decide]; simp) | exact congrArg (fun b => V.o (bo1 b)) (by rw [hO, hEz, decide_eq_decide]; omega))), trivial⟩) rfl ?_ nobox
                      rfl
                    · try simp only [List.length_map, decide_eq_true_eq, decide_eq_false_iff_not, Bool.not_eq_true', Bool.not_eq_false', Bool.not_eq_true, Bool.not_eq_false] at h60
                      refine ACode.skip ?_
                      refine ks_n ?_
                      refine ACode.seq ?_
                      refine ACode.region ?_
                      refine .cons (.fP 1 0 false rfl rfl) ?_
                      refine .cons (.l1 1 rfl rfl) ?_
                      refine .cons (.ln 64 9 152 rfl rfl rfl) ?_
                      refine .cons (.mv rfl rfl) ?_
                      refine .nil ?_
                      refine ks_n ?_
                      refine ACode.block ?_
                      refine .loopK (fun m σ => (∃ j : Nat, m = q.2.length - j ∧ (j = 0) ∧ σ = [(.t 1, .v (.o (.c (.ptr (rG g))))), (.t 4, .v (.o (.c (.d (.val (.slice none 0 0)))))), (.t 5, .v (.o (nat1 (k : Nat)))), (.t 6, .v (.o (.c (.ptr (rP q))))), (.t 10, .v (.o (vD (dIs p)))), (.t 24, .v (.o (vD (dPts g.2)))), (.t 25, .v (.o (nat1 (g.2.length : Nat)))), (.t 26, .v (.o (nat1 (k : Nat)))), (.t 52, .v (.o (vD (dPs (npR q.1))))), (.t 53, .v (.o (nat1 ((npR q.1).length : Nat)))), (.t 54, .v (.o (nat1 (0 : Nat)))), (.t 62, .v (.o (vD (dMs q.2)))), (.t 63, .v (.o (nat1 (q.2.length : Nat)))), (.t 64, .v (.o (nat1 (j : Nat))))]) ∨ (∃ (j : Nat) (o3 : List Ins), m = q.2.length - j ∧ (j ≤ q.2.length) ∧ (∀ t s, t < j → q.2[t]? = some s → stmG g.1 s p = true) ∧ ([] ++ rowI k j p = o3) ∧ (o3.length ≤ 480 * k + 4 * 0 + j) ∧ σ = [(.t 1, .v (.o (.c (.ptr (rG g))))), (.t 4, .v (.o (.c (.own 130 3 (o3.length))))), (.t 5, .v (.o (nat1 (k : Nat)))), (.t 6, .v (.o (.c (.ptr (rP q))))), (.t 10, .v (.o (vD (dIs p)))), (.t 24, .v (.o (vD (dPts g.2)))), (.t 25, .v (.o (nat1 (g.2.length : Nat)))), (.t 26, .v (.o (nat1 (k : Nat)))), (.t 52, .v (.o (vD (dPs (npR q.1))))), (.t 53, .v (.o (nat1 ((npR q.1).length : Nat)))), (.t 54, .v (.o (nat1 (0 : Nat)))), (.t 62, .v (.o (vD (dMs q.2)))), (.t 63, .v (.o (nat1 (q.2.length : Nat)))), (.t 64, .v (.o (nat1 (j : Nat)))), (.b 130, .b 67 3 (dR (o3.map rN))), (.u 130, .u)])) [] (.inl ⟨0, rfl, rfl, rfl⟩) ⟨ks rfl .dt, ks rfl .dt, ks rfl .dt, ks rfl .dt, ks rfl .dt, ks rfl .dt, ks rfl .dt, ks rfl .dt, ks rfl .dt, ks rfl .dt, ks rfl .dt, ks rfl .dt, ks rfl .dt, ks rfl .dt, trivial⟩ ?_
                      rintro m σ (⟨j, hm0, rfl, rfl⟩ | ⟨j, o3, hm0, hj, hH, hEp, ho3, rfl⟩)
                      · skip
                        refine ACode.seq ?_
                        refine ACode.region ?_
                        refine .cons (.ls rfl rfl rfl) ?_
                        refine .nil ?_
                        refine ks_n ?_
                        refine ACode.seq ?_
                        refine .cD rfl (fun h65 => ?_) (fun h65 => ?_)
                        · skip
                          obtain ⟨s, hs1⟩ : ∃ x_, q.2[0]? = some x_ := ⟨_, List.getElem?_eq_getElem (by omega)⟩
                          have hsm := List.mem_of_getElem? hs1
                          have hsv := hv3 s hsm
                          refine ACode.skip ?_
                          refine ks_n ?_
                          refine ACode.seq ?_
                          refine ACode.block ?_
                          refine ACode.seq ?_
                          refine ACode.region ?_
                          refine .cons (.mv rfl rfl) ?_
                          refine .cons (.xL 64 9 152 rfl rfl rfl rfl rfl) ?_
                          refine .cons (.lN 9 rfl rfl rfl) ?_
                          refine .cons (.al 112 [.string ByteArray.empty, .slice none 0 0, .int .i64 0, .int .i64 0, .slice none 0 0, .int .i64 0, .string ByteArray.empty, .slice none 0 0, .slice none 0 0] rfl rfl rfl) ?_
                          refine .cons (.asg rfl rfl) ?_
                          refine .cons (.sT 9 true rfl rfl rfl rfl rfl rfl rfl) ?_
                          refine .nil ?_
                          refine ks_n ?_
                          refine ACode.seq ?_
                          refine ACode.seq ?_
                          refine ACode.region ?_
                          refine .cons (.lN 2 rfl rfl rfl) ?_
                          refine .cons (.bN 9 rfl rfl rfl rfl rfl rfl) ?_
                          refine .cons (.mv rfl rfl) ?_
                          refine .cons (.cP [.tmp 69, .tmp 70, .tmp 71] rfl rfl rfl rfl (sok_fn hA hsv hpt.1 hpt.2) rfl) ?_
                          refine .cons (.nt rfl rfl) ?_
                          refine .nil ?_
                          refine ks_n ?_
                          refine ACode.condT rfl (fun h73 => ?_) (fun h73 => ?_)
                          · try simp only [List.length_map, decide_eq_true_eq, decide_eq_false_iff_not, Bool.not_eq_true', Bool.not_eq_false', Bool.not_eq_true, Bool.not_eq_false] at h73
                            refine ACode.seq ?_
                            obtain ⟨hO, hN⟩ := prgV_f (g := g) (prgS_f3 hqm (prtV_f5 hpm hsm (by assumption)))
                            refine ACode.region ?_
                            refine .cons (.asg rfl rfl) ?_
                            refine .cons (.asg rfl rfl) ?_
                            refine .nil ?_
                            refine ks_n ?_
                            refine ACode.ret ?_
                            refine ks_r ?_
                            refine kb_r ?_
                            refine ks_r ?_
                            refine kl_r ?_
                            refine kb_r ?_
                            refine kb_r ?_
                            refine ks_r ?_
                            refine kl_r ?_
                            refine kb_r ?_
                            refine kb_r ?_
                            refine ks_r ?_
                            refine kl_r ?_
                            refine kb_r ?_
                            refine ks_r ?_
                            refine kf_wret [(.t 2, .v (.o (vD (dNs (insV g))))), (.t 3, .v (.o (bo1 (prgV g))))] (Wk.keep [] rfl rfl ⟨ks rfl (.c (Cto.nilE 3 (by first | (rw [hN]; rfl) | (rw [hN, hEz]; rfl)))), ks rfl (.dt (by first | exact congrArg (fun b => V.o (bo1 b)) hO.symm | exact congrArg (fun b => V.o (bo1 b)) (by rw [hO, hEz, decide_eq_decide]; simp) | exact congrArg (fun b => V.o (bo1 b)) (by rw [hO, hEz, decide_eq_decide]; omega))), trivial⟩) rfl ?_ nobox
                            rfl
                          · try simp only [List.length_map, decide_eq_true_eq, decide_eq_false_iff_not, Bool.not_eq_true', Bool.not_eq_false', Bool.not_eq_true, Bool.not_eq_false] at h73
                            have hST : stmG g.1 s p = true := by assumption
                            refine ACode.skip ?_
                            refine ks_n ?_
                            refine ACode.region ?_
                            refine .cons (.mv rfl rfl) ?_
                            refine .cons (.mv rfl rfl) ?_
                            refine .cons (.mv rfl rfl) ?_
                            refine .cons (.mv rfl rfl) ?_
                            refine .cons (.cP [.tmp 77] rfl rfl rfl rfl (cloneInts_fn p (by omega)) rfl) ?_
                            refine .cons (.bu [(0, .tmp 75), (1, .tmp 76), (2, .tmp 78)] [(0, 1), (1, 1), (2, 1)] [.int .i64 0, .int .i64 0, .slice none 0 0] rfl rfl rfl rfl rfl) ?_
                            refine .cons (.li 67 2 0 [.tmp 79] rfl rfl rfl rfl rfl rfl) ?_
                            refine .cons (St1.appN (k' := 181) (e := 67) (sz := 2) (by' := 40) rfl rfl rfl rfl rfl (by kernel_rfl) rfl rfl rfl (by simp) (by first | (simp [dR]; done) | (simp [dR]; omega)) rfl rfl) ?_
                            refine .cons (.asg rfl rfl) ?_
                            refine .nil ?_
                            refine kb_n ?_
                            refine ks_n ?_
                            refine ACode.region ?_
                            refine .cons (.pl rfl rfl rfl) ?_
                            refine .cons (.mv rfl rfl) ?_
                            refine .nil ?_
                            refine kl_k [(130, 181)] (.inr ⟨1, [((k : Int), ((0 : Nat) : Int), p)], rfl, by omega, fun t s' ht hs' => (Nat.lt_succ_iff_lt_or_eq.1 ht).elim (fun h => absurd h (by omega)) (fun h => by subst h; rw [hs1] at hs'; cases hs'; exact hST), rfl, by simp, rfl⟩) ⟨ks rfl .dt, ks rfl (.c .ow), ks rfl .dt, ks rfl .dt, ks rfl .dt, ks rfl .dt, ks rfl .dt, ks rfl .dt, ks rfl .dt, ks rfl .dt, ks rfl .dt, ks rfl .dt, ks rfl .dt, ks rfl .dt, kb 181 rfl (.dt rfl (by first | rfl | (simp [dR, rN, dI]; done))), trivial⟩
                        · skip
                          exfalso; omega
                      · skip
                        refine ACode.seq ?_
                        refine ACode.region ?_
                        refine .cons (.ls rfl rfl rfl) ?_
                        refine .nil ?_
                        refine ks_n ?_
                        refine ACode.seq ?_
                        refine .cD rfl (fun h65 => ?_) (fun h65 => ?_)
                        · skip
                          obtain ⟨s, hs1⟩ : ∃ x_, q.2[j]? = some x_ := ⟨_, List.getElem?_eq_getElem (by omega)⟩
                          have hsm := List.mem_of_getElem? hs1
                          have hsv := hv3 s hsm
                          refine ACode.skip ?_
                          refine ks_n ?_
                          refine ACode.seq ?_
                          refine ACode.block ?_
                          refine ACode.seq ?_
                          refine ACode.region ?_
                          refine .cons (.mv rfl rfl) ?_
                          refine .cons (.xL 64 9 152 rfl rfl rfl rfl rfl) ?_
                          refine .cons (.lN 9 rfl rfl rfl) ?_
                          refine .cons (.al 112 [.string ByteArray.empty, .slice none 0 0, .int .i64 0, .int .i64 0, .slice none 0 0, .int .i64 0, .string ByteArray.empty, .slice none 0 0, .slice none 0 0] rfl rfl rfl) ?_
                          refine .cons (.asg rfl rfl) ?_
                          refine .cons (.sT 9 true rfl rfl rfl rfl rfl rfl rfl) ?_
                          refine .nil ?_
                          refine ks_n ?_
                          refine ACode.seq ?_
                          refine ACode.seq ?_
                          refine ACode.region ?_
                          refine .cons (.lN 2 rfl rfl rfl) ?_
                          refine .cons (.bN 9 rfl rfl rfl rfl rfl rfl) ?_
                          refine .cons (.mv rfl rfl) ?_
                          refine .cons (.cP [.tmp 69, .tmp 70, .tmp 71] rfl rfl rfl rfl (sok_fn hA hsv hpt.1 hpt.2) rfl) ?_
                          refine .cons (.nt rfl rfl) ?_
                          refine .nil ?_
                          refine ks_n ?_
                          refine ACode.condT rfl (fun h73 => ?_) (fun h73 => ?_)
                          · try simp only [List.length_map, decide_eq_true_eq, decide_eq_false_iff_not, Bool.not_eq_true', Bool.not_eq_false', Bool.not_eq_true, Bool.not_eq_false] at h73
                            refine ACode.seq ?_
                            obtain ⟨hO, hN⟩ := prgV_f (g := g) (prgS_f3 hqm (prtV_f5 hpm hsm (by assumption)))
                            refine ACode.region ?_
                            refine .cons (.asg rfl rfl) ?_
                            refine .cons (.asg rfl rfl) ?_
                            refine .nil ?_
                            refine ks_n ?_
                            refine ACode.ret ?_
                            refine ks_r ?_
                            refine kb_r ?_
                            refine ks_r ?_
                            refine kl_r ?_
                            refine kb_r ?_
                            refine kb_r ?_
                            refine ks_r ?_
                            refine kl_r ?_
                            refine kb_r ?_
                            refine kb_r ?_
                            refine ks_r ?_
                            refine kl_r ?_
                            refine kb_r ?_
                            refine ks_r ?_
                            refine kf_wret [(.t 2, .v (.o (vD (dNs (insV g))))), (.t 3, .v (.o (bo1 (prgV g))))] (Wk.keep [] rfl rfl ⟨ks rfl (.c (Cto.nilE 3 (by first | (rw [hN]; rfl) | (rw [hN, hEz]; rfl)))), ks rfl (.dt (by first | exact congrArg (fun b => V.o (bo1 b)) hO.symm | exact congrArg (fun b => V.o (bo1 b)) (by rw [hO, hEz, decide_eq_decide]; simp) | exact congrArg (fun b => V.o (bo1 b)) (by rw [hO, hEz, decide_eq_decide]; omega))), trivial⟩) rfl ?_ nobox
                            rfl
                          · try simp only [List.length_map, decide_eq_true_eq, decide_eq_false_iff_not, Bool.not_eq_true', Bool.not_eq_false', Bool.not_eq_true, Bool.not_eq_false] at h73
                            have hST : stmG g.1 s p = true := by assumption
                            refine ACode.skip ?_
                            refine ks_n ?_
                            refine ACode.region ?_
                            refine .cons (.mv rfl rfl) ?_
                            refine .cons (.mv rfl rfl) ?_
                            refine .cons (.mv rfl rfl) ?_
                            refine .cons (.mv rfl rfl) ?_
                            refine .cons (.cP [.tmp 77] rfl rfl rfl rfl (cloneInts_fn p (by omega)) rfl) ?_
                            refine .cons (.bu [(0, .tmp 75), (1, .tmp 76), (2, .tmp 78)] [(0, 1), (1, 1), (2, 1)] [.int .i64 0, .int .i64 0, .slice none 0 0] rfl rfl rfl rfl rfl) ?_
                            refine .cons (.li 67 2 0 [.tmp 79] rfl rfl rfl rfl rfl rfl) ?_
                            refine .cons (St1.appB (k' := 181) (e := 67) (sz := 2) (by' := 40) rfl rfl rfl rfl rfl (by kernel_rfl) rfl rfl rfl rfl (by first | (simp [dR]; done) | (simp [dR]; omega)) (by first | (simp [dR]; done) | (simp [dR]; omega)) rfl rfl rfl) ?_
                            refine .cons (.asg rfl rfl) ?_
                            refine .nil ?_
                            refine kb_n ?_
                            refine ks_n ?_
                            refine ACode.region ?_
                            refine .cons (.pl rfl rfl rfl) ?_
                            refine .cons (.mv rfl rfl) ?_
                            refine .nil ?_
                            refine kl_k [(130, 181)] (.inr ⟨j + 1, o3 ++ [((k : Int), ((j : Nat) : Int), p)], rfl, by omega, fun t s' ht hs' => (Nat.lt_succ_iff_lt_or_eq.1 ht).elim (fun h => hH t s' h hs') (fun h => by subst h; rw [hs1] at hs'; cases hs'; exact hST), by rw [rowI_snoc, ← List.append_assoc, hEp], by rw [List.length_append, List.length_singleton]; omega, rfl⟩) ⟨ks rfl .dt, ks rfl (.c .ow), ks rfl .dt, ks rfl .dt, ks rfl .dt, ks rfl .dt, ks rfl .dt, ks rfl .dt, ks rfl .dt, ks rfl .dt, ks rfl .dt, ks rfl .dt, ks rfl .dt, ks rfl .dt, kb 181 rfl (.dt rfl (by first | rfl | (simp [dR, rN, dI]; done))), trivial⟩
                        · skip
                          obtain rfl : j = q.2.length := by omega
                          have hPT : ptG' g.1 q.2 p = true := by rw [ptG', show isPt p = true by assumption, Bool.true_and]; exact all_of fun j s h => hH j s (List.getElem?_eq_some_iff.1 h).1 h
                          refine ACode.exit ?_
                          refine ks_e ?_
                          refine kl_e ?_
                          refine kb_hit ?_
                          refine kb_n ?_
                          refine ks_n ?_
                          refine ACode.region ?_
                          refine .cons (.pl rfl rfl rfl) ?_
                          refine .cons (.mv rfl rfl) ?_
                          refine .nil ?_
                          refine kl_k [(120, 130)] (.inr ⟨1, o3, rfl, by omega, fun j p' hj hp' => (Nat.lt_succ_iff_lt_or_eq.1 hj).elim (fun h => absurd h (by omega)) (fun h => by subst h; rw [hp1] at hp'; cases hp'; exact hPT), by rw [insT_take hp1]; exact hEp, by omega, rfl⟩) ⟨ks rfl .dt, ks rfl (.c .ow), ks rfl .dt, ks rfl .dt, ks rfl .dt, ks rfl .dt, ks rfl .dt, ks rfl .dt, ks rfl .dt, ks rfl .dt, kb 130 rfl (.dt rfl (by first | rfl | (simp [dR, rN, dI]; done))), trivial⟩
                  · skip
                    have hn0 : npR q.1 = [] := List.eq_nil_of_length_eq_zero (by omega)
                    have hPV : prtV g.1 q = true := by rw [prtV_eq hv1 hv2 (List.all_eq_true.2 hv3), hn0]; rfl
                    refine ACode.exit ?_
                    refine ks_e ?_
                    refine kl_e ?_
                    refine kb_hit ?_
                    refine kb_n ?_
                    refine ks_n ?_
                    refine ACode.region ?_
                    refine .cons (.pl rfl rfl rfl) ?_
                    refine .cons (.mv rfl rfl) ?_
                    refine .nil ?_
                    refine kl_k [] (.inl ⟨k + 1, rfl, by omega, fun j q' hj hq' => (Nat.lt_succ_iff_lt_or_eq.1 hj).elim (fun h => hF j q' h hq') (fun h => by subst h; rw [hq1] at hq'; cases hq'; exact hPV), by rw [insG_take hq1, hE, insP, hn0]; rfl, rfl⟩) ⟨ks rfl .dt, ks rfl .dt, ks rfl .dt, ks rfl .dt, ks rfl .dt, trivial⟩
                · skip
                  refine ACode.seq ?_
                  refine ACode.region ?_
                  refine .cons (.ls rfl rfl rfl) ?_
                  refine .nil ?_
                  refine ks_n ?_
                  refine ACode.seq ?_
                  refine .cD rfl (fun h55 => ?_) (fun h55 => ?_)
                  · skip
                    obtain ⟨p, hp1⟩ : ∃ x_, (npR q.1)[i]? = some x_ := ⟨_, List.getElem?_eq_getElem (by omega)⟩
                    have hpm := List.mem_of_getElem? hp1
                    have hpt := npR_pt hpm
                    have hnl := npR_len q.1
                    refine ACode.skip ?_
                    refine ks_n ?_
                    refine ACode.seq ?_
                    refine ACode.block ?_
                    refine ACode.seq ?_
                    refine ACode.region ?_
                    refine .cons (.xL 38 1 24 rfl rfl rfl rfl rfl) ?_
                    refine .cons (.l1 1 rfl rfl) ?_
                    refine .cons (.asg rfl rfl) ?_
                    refine .nil ?_
                    refine ks_n ?_
                    refine ACode.seq ?_
                    refine ACode.seq ?_
                    refine ACode.region ?_
                    refine .cons (.mv rfl rfl) ?_
                    refine .cons (.cP [.tmp 58] rfl rfl rfl rfl (isPoint_fn _) rfl) ?_
                    refine .cons (.nt rfl rfl) ?_
                    refine .nil ?_
                    refine ks_n ?_
                    refine ACode.condT rfl (fun h60 => ?_) (fun h60 => ?_)
                    · try simp only [List.length_map, decide_eq_true_eq, decide_eq_false_iff_not, Bool.not_eq_true', Bool.not_eq_false', Bool.not_eq_true, Bool.not_eq_false] at h60
                      refine ACode.seq ?_
                      obtain ⟨hO, hN⟩ := prgV_f (g := g) (prgS_f3 hqm (prtV_f4 hpm (by assumption)))
                      refine ACode.region ?_
                      refine .cons (.asg rfl rfl) ?_
                      refine .cons (.asg rfl rfl) ?_
                      refine .nil ?_
                      refine ks_n ?_
                      refine ACode.ret ?_
                      refine ks_r ?_
                      refine kb_r ?_
                      refine ks_r ?_
                      refine kl_r ?_
                      refine kb_r ?_
                      refine kb_r ?_
                      refine ks_r ?_
                      refine kl_r ?_
                      refine kb_r ?_
                      refine ks_r ?_
                      refine kf_wret [(.t 2, .v (.o (vD (dNs (insV g))))), (.t 3, .v (.o (bo1 (prgV g))))] (Wk.keep [] rfl rfl ⟨ks rfl (.c (Cto.nilE 3 (by first | (rw [hN]; rfl) | (rw [hN, hEz]; rfl)))), ks rfl (.dt (by first | exact congrArg (fun b => V.o (bo1 b)) hO.symm | exact congrArg (fun b => V.o (bo1 b)) (by rw [hO, hEz, decide_eq_decide]; simp) | exact congrArg (fun b => V.o (bo1 b)) (by rw [hO, hEz, decide_eq_decide]; omega))), trivial⟩) rfl ?_ nobox
                      rfl
                    · try simp only [List.length_map, decide_eq_true_eq, decide_eq_false_iff_not, Bool.not_eq_true', Bool.not_eq_false', Bool.not_eq_true, Bool.not_eq_false] at h60
                      refine ACode.skip ?_
                      refine ks_n ?_
                      refine ACode.seq ?_
                      refine ACode.region ?_
                      refine .cons (.fP 1 0 false rfl rfl) ?_
                      refine .cons (.l1 1 rfl rfl) ?_
                      refine .cons (.ln 64 9 152 rfl rfl rfl) ?_
                      refine .cons (.mv rfl rfl) ?_
                      refine .nil ?_
                      refine ks_n ?_
                      refine ACode.block ?_
                      refine .loopK (fun m σ => (∃ (j : Nat) (o3 : List Ins), m = q.2.length - j ∧ (j ≤ q.2.length) ∧ (∀ t s, t < j → q.2[t]? = some s → stmG g.1 s p = true) ∧ (o2 ++ rowI k j p = o3) ∧ (o3.length ≤ 480 * k + 4 * i + j) ∧ σ = [(.t 1, .v (.o (.c (.ptr (rG g))))), (.t 4, .v (.o (.c (.own 130 3 (o3.length))))), (.t 5, .v (.o (nat1 (k : Nat)))), (.t 6, .v (.o (.c (.ptr (rP q))))), (.t 10, .v (.o (vD (dIs p)))), (.t 24, .v (.o (vD (dPts g.2)))), (.t 25, .v (.o (nat1 (g.2.length : Nat)))), (.t 26, .v (.o (nat1 (k : Nat)))), (.t 52, .v (.o (vD (dPs (npR q.1))))), (.t 53, .v (.o (nat1 ((npR q.1).length : Nat)))), (.t 54, .v (.o (nat1 (i : Nat)))), (.t 62, .v (.o (vD (dMs q.2)))), (.t 63, .v (.o (nat1 (q.2.length : Nat)))), (.t 64, .v (.o (nat1 (j : Nat)))), (.b 130, .b 67 3 (dR (o3.map rN))), (.u 130, .u)])) [(130, 120)] ⟨0, o2, rfl, by omega, fun t s ht _ => absurd ht (by omega), by simp [rowI_zero], by omega, rfl⟩ ⟨ks rfl .dt, ks rfl (.c .ow), ks rfl .dt, ks rfl .dt, ks rfl .dt, ks rfl .dt, ks rfl .dt, ks rfl .dt, ks rfl .dt, ks rfl .dt, ks rfl .dt, ks rfl .dt, ks rfl .dt, ks rfl .dt, kb 120 rfl (.dt rfl (by first | rfl | (simp [dR, rN, dI]; done))), trivial⟩ ?_
                      rintro m σ ⟨j, o3, hm0, hj, hH, hEp, ho3, rfl⟩
                      refine ACode.seq ?_
                      refine ACode.region ?_
                      refine .cons (.ls rfl rfl rfl) ?_
                      refine .nil ?_
                      refine ks_n ?_
                      refine ACode.seq ?_
                      refine .cD rfl (fun h65 => ?_) (fun h65 => ?_)
                      · skip
                        obtain ⟨s, hs1⟩ : ∃ x_, q.2[j]? = some x_ := ⟨_, List.getElem?_eq_getElem (by omega)⟩
                        have hsm := List.mem_of_getElem? hs1
                        have hsv := hv3 s hsm
                        refine ACode.skip ?_
                        refine ks_n ?_
                        refine ACode.seq ?_
                        refine ACode.block ?_
                        refine ACode.seq ?_
                        refine ACode.region ?_
                        refine .cons (.mv rfl rfl) ?_
                        refine .cons (.xL 64 9 152 rfl rfl rfl rfl rfl) ?_
                        refine .cons (.lN 9 rfl rfl rfl) ?_
                        refine .cons (.al 112 [.string ByteArray.empty, .slice none 0 0, .int .i64 0, .int .i64 0, .slice none 0 0, .int .i64 0, .string ByteArray.empty, .slice none 0 0, .slice none 0 0] rfl rfl rfl) ?_
                        refine .cons (.asg rfl rfl) ?_
                        refine .cons (.sT 9 true rfl rfl rfl rfl rfl rfl rfl) ?_
                        refine .nil ?_
                        refine ks_n ?_
                        refine ACode.seq ?_
                        refine ACode.seq ?_
                        refine ACode.region ?_
                        refine .cons (.lN 2 rfl rfl rfl) ?_
                        refine .cons (.bN 9 rfl rfl rfl rfl rfl rfl) ?_
                        refine .cons (.mv rfl rfl) ?_
                        refine .cons (.cP [.tmp 69, .tmp 70, .tmp 71] rfl rfl rfl rfl (sok_fn hA hsv hpt.1 hpt.2) rfl) ?_
                        refine .cons (.nt rfl rfl) ?_
                        refine .nil ?_
                        refine ks_n ?_
                        refine ACode.condT rfl (fun h73 => ?_) (fun h73 => ?_)
                        · try simp only [List.length_map, decide_eq_true_eq, decide_eq_false_iff_not, Bool.not_eq_true', Bool.not_eq_false', Bool.not_eq_true, Bool.not_eq_false] at h73
                          refine ACode.seq ?_
                          obtain ⟨hO, hN⟩ := prgV_f (g := g) (prgS_f3 hqm (prtV_f5 hpm hsm (by assumption)))
                          refine ACode.region ?_
                          refine .cons (.asg rfl rfl) ?_
                          refine .cons (.asg rfl rfl) ?_
                          refine .nil ?_
                          refine ks_n ?_
                          refine ACode.ret ?_
                          refine ks_r ?_
                          refine kb_r ?_
                          refine ks_r ?_
                          refine kl_r ?_
                          refine kb_r ?_
                          refine kb_r ?_
                          refine ks_r ?_
                          refine kl_r ?_
                          refine kb_r ?_
                          refine kb_r ?_
                          refine ks_r ?_
                          refine kl_r ?_
                          refine kb_r ?_
                          refine ks_r ?_
                          refine kf_wret [(.t 2, .v (.o (vD (dNs (insV g))))), (.t 3, .v (.o (bo1 (prgV g))))] (Wk.keep [] rfl rfl ⟨ks rfl (.c (Cto.nilE 3 (by first | (rw [hN]; rfl) | (rw [hN, hEz]; rfl)))), ks rfl (.dt (by first | exact congrArg (fun b => V.o (bo1 b)) hO.symm | exact congrArg (fun b => V.o (bo1 b)) (by rw [hO, hEz, decide_eq_decide]; simp) | exact congrArg (fun b => V.o (bo1 b)) (by rw [hO, hEz, decide_eq_decide]; omega))), trivial⟩) rfl ?_ nobox
                          rfl
                        · try simp only [List.length_map, decide_eq_true_eq, decide_eq_false_iff_not, Bool.not_eq_true', Bool.not_eq_false', Bool.not_eq_true, Bool.not_eq_false] at h73
                          have hST : stmG g.1 s p = true := by assumption
                          refine ACode.skip ?_
                          refine ks_n ?_
                          refine ACode.region ?_
                          refine .cons (.mv rfl rfl) ?_
                          refine .cons (.mv rfl rfl) ?_
                          refine .cons (.mv rfl rfl) ?_
                          refine .cons (.mv rfl rfl) ?_
                          refine .cons (.cP [.tmp 77] rfl rfl rfl rfl (cloneInts_fn p (by omega)) rfl) ?_
                          refine .cons (.bu [(0, .tmp 75), (1, .tmp 76), (2, .tmp 78)] [(0, 1), (1, 1), (2, 1)] [.int .i64 0, .int .i64 0, .slice none 0 0] rfl rfl rfl rfl rfl) ?_
                          refine .cons (.li 67 2 0 [.tmp 79] rfl rfl rfl rfl rfl rfl) ?_
                          refine .cons (St1.appB (k' := 181) (e := 67) (sz := 2) (by' := 40) rfl rfl rfl rfl rfl (by kernel_rfl) rfl rfl rfl rfl (by first | (simp [dR]; done) | (simp [dR]; omega)) (by first | (simp [dR]; done) | (simp [dR]; omega)) rfl rfl rfl) ?_
                          refine .cons (.asg rfl rfl) ?_
                          refine .nil ?_
                          refine kb_n ?_
                          refine ks_n ?_
                          refine ACode.region ?_
                          refine .cons (.pl rfl rfl rfl) ?_
                          refine .cons (.mv rfl rfl) ?_
                          refine .nil ?_
                          refine kl_k [(130, 181)] ⟨j + 1, o3 ++ [((k : Int), ((j : Nat) : Int), p)], rfl, by omega, fun t s' ht hs' => (Nat.lt_succ_iff_lt_or_eq.1 ht).elim (fun h => hH t s' h hs') (fun h => by subst h; rw [hs1] at hs'; cases hs'; exact hST), by rw [rowI_snoc, ← List.append_assoc, hEp], by rw [List.length_append, List.length_singleton]; omega, rfl⟩ ⟨ks rfl .dt, ks rfl (.c .ow), ks rfl .dt, ks rfl .dt, ks rfl .dt, ks rfl .dt, ks rfl .dt, ks rfl .dt, ks rfl .dt, ks rfl .dt, ks rfl .dt, ks rfl .dt, ks rfl .dt, ks rfl .dt, kb 181 rfl (.dt rfl (by first | rfl | (simp [dR, rN, dI]; done))), trivial⟩
                      · skip
                        obtain rfl : j = q.2.length := by omega
                        have hPT : ptG' g.1 q.2 p = true := by rw [ptG', show isPt p = true by assumption, Bool.true_and]; exact all_of fun j s h => hH j s (List.getElem?_eq_some_iff.1 h).1 h
                        refine ACode.exit ?_
                        refine ks_e ?_
                        refine kl_e ?_
                        refine kb_hit ?_
                        refine kb_n ?_
                        refine ks_n ?_
                        refine ACode.region ?_
                        refine .cons (.pl rfl rfl rfl) ?_
                        refine .cons (.mv rfl rfl) ?_
                        refine .nil ?_
                        refine kl_k [(120, 130)] (.inr ⟨i + 1, o3, rfl, by omega, fun j p' hj hp' => (Nat.lt_succ_iff_lt_or_eq.1 hj).elim (fun h => hG j p' h hp') (fun h => by subst h; rw [hp1] at hp'; cases hp'; exact hPT), by rw [insT_take hp1, ← List.append_assoc, hEo]; exact hEp, by omega, rfl⟩) ⟨ks rfl .dt, ks rfl (.c .ow), ks rfl .dt, ks rfl .dt, ks rfl .dt, ks rfl .dt, ks rfl .dt, ks rfl .dt, ks rfl .dt, ks rfl .dt, kb 130 rfl (.dt rfl (by first | rfl | (simp [dR, rN, dI]; done))), trivial⟩
                  · skip
                    obtain rfl : i = (npR q.1).length := by omega
                    rw [List.take_length] at hEo
                    have hPV : prtV g.1 q = true := by rw [prtV_eq hv1 hv2 (List.all_eq_true.2 hv3)]; exact all_of fun j p h => hG j p (List.getElem?_eq_some_iff.1 h).1 h
                    have hnl := npR_len q.1
                    refine ACode.exit ?_
                    refine ks_e ?_
                    refine kl_e ?_
                    refine kb_hit ?_
                    refine kb_n ?_
                    refine ks_n ?_
                    refine ACode.region ?_
                    refine .cons (.pl rfl rfl rfl) ?_
                    refine .cons (.mv rfl rfl) ?_
                    refine .nil ?_
                    refine kl_k [(110, 120)] (.inr ⟨k + 1, o2, rfl, by omega, fun j q' hj hq' => (Nat.lt_succ_iff_lt_or_eq.1 hj).elim (fun h => hF j q' h hq') (fun h => by subst h; rw [hq1] at hq'; cases hq'; exact hPV), by rw [insG_take hq1, hE]; exact hEo, by omega, rfl⟩) ⟨ks rfl .dt, ks rfl (.c .ow), ks rfl .dt, ks rfl .dt, ks rfl .dt, kb 120 rfl (.dt rfl (by first | rfl | (simp [dR, rN, dI]; done))), trivial⟩
        · skip
          obtain rfl : k = g.2.length := by omega
          rw [List.take_length] at hE
          have hEz := hE
          obtain ⟨hO, hN⟩ := prgV_t (prgS_eq hA h4 hF)
          refine ACode.exit ?_
          refine ks_e ?_
          refine kl_e ?_
          refine kb_hit ?_
          refine ks_n ?_
          refine ACode.seq ?_
          refine ACode.region ?_
          refine .cons (.mv rfl rfl) ?_
          refine .cons (.mv rfl rfl) ?_
          refine .cons (St1.lenN (e := 67) (m := 3) (by' := 40) rfl rfl rfl rfl rfl (by kernel_rfl) rfl) ?_
          refine .cons (.le rfl rfl rfl) ?_
          refine .cons (.asg rfl rfl) ?_
          refine .cons (.asg rfl rfl) ?_
          refine .nil ?_
          refine ks_n ?_
          refine ACode.ret ?_
          refine kf_wret [(.t 2, .v (.o (vD (dNs (insV g))))), (.t 3, .v (.o (bo1 (prgV g))))] (Wk.keep [] rfl rfl ⟨ks rfl (.c (Cto.nilE 3 (by first | (rw [hN]; rfl) | (rw [hN, hEz]; rfl)))), ks rfl (.dt (by first | exact congrArg (fun b => V.o (bo1 b)) hO.symm | exact congrArg (fun b => V.o (bo1 b)) (by rw [hO, hEz, decide_eq_decide]; simp) | exact congrArg (fun b => V.o (bo1 b)) (by rw [hO, hEz, decide_eq_decide]; omega))), trivial⟩) rfl ?_ nobox
          rfl
      · skip
        refine ACode.seq ?_
        refine ACode.region ?_
        refine .cons (.ls rfl rfl rfl) ?_
        refine .nil ?_
        refine ks_n ?_
        refine ACode.seq ?_
        refine .cD rfl (fun h27 => ?_) (fun h27 => ?_)
        · skip
          obtain ⟨q, hq1⟩ : ∃ x_, g.2[k]? = some x_ := ⟨_, List.getElem?_eq_getElem (by omega)⟩
          have hqm := List.mem_of_getElem? hq1
          have hqs := szO_mem (f := szPt) hqm
          have hqe : szPt q = szLs q.1 + szO szS q.2 := rfl
          have hbg := sz_bg (ns := q.1) (by omega)
          have hql := szO_len (f := szS) q.2
          refine ACode.skip ?_
          refine ks_n ?_
          refine ACode.seq ?_
          refine ACode.block ?_
          refine ACode.seq ?_
          refine ACode.region ?_
          refine .cons (.mv rfl rfl) ?_
          refine .cons (.xL 101 2 48 rfl rfl rfl rfl rfl) ?_
          refine .cons (.lN 2 rfl rfl rfl) ?_
          refine .cons (.al 106 [.slice none 0 0, .slice none 0 0] rfl rfl rfl) ?_
          refine .cons (.asg rfl rfl) ?_
          refine .cons (.sT 2 true rfl rfl rfl rfl rfl rfl rfl) ?_
          refine .nil ?_
          refine ks_n ?_
          refine ACode.seq ?_
          refine .keep [(.t 1, .v (.o (.c (.ptr (rG g))))), (.t 4, .v (.o (.c (.own 770 3 (o.length))))), (.t 5, .v (.o (nat1 (k : Nat)))), (.t 6, .v (.o (.c (.ptr (rP q))))), (.t 24, .v (.o (vD (dPts g.2)))), (.t 25, .v (.o (nat1 (g.2.length : Nat)))), (.t 26, .v (.o (nat1 (k : Nat)))), (.b 770, .b 67 3 (dR (o.map rN))), (.u 770, .u)] [(770, 110)] ⟨ks rfl .dt, ks rfl (.c .ow), ks rfl .dt, ks rfl (.c (.frzP _ _ _ _ _ _ _ _ rfl (show _ = dR [rP q] from rfl) rfl rfl rfl)), ks rfl .dt, ks rfl .dt, ks rfl .dt, kb 110 rfl (.dt rfl (by first | rfl | (simp [dR, rN, dI]; done))), trivial⟩ ?_
          refine ACode.region ?_
          refine .cons (.fP 0 0 false rfl rfl) ?_
          refine .cons (.l1 1 rfl rfl) ?_
          refine .cons (.cP [.tmp 33] rfl rfl rfl rfl (implNestPts_B q.1 hbg) rfl) ?_
          refine .cons (.mv rfl rfl) ?_
          refine .cons (.ex rfl rfl rfl) ?_
          refine .cons (.ex rfl rfl rfl) ?_
          refine .cons (.asg rfl rfl) ?_
          refine .cons (.asg rfl rfl) ?_
          refine .nil ?_
          refine ks_n ?_
          refine ACode.seq ?_
          refine ACode.seq ?_
          refine ACode.region ?_
          refine .cons (.mv rfl rfl) ?_
          refine .cons (.nt rfl rfl) ?_
          refine .cons (.mv rfl rfl) ?_
          refine AOps.cases 39 _ rfl (fun g39 => ?_) (fun g39 => ?_)
          · try simp only [List.length_map, decide_eq_true_eq, decide_eq_false_iff_not, Bool.not_eq_true', Bool.not_eq_false', Bool.not_eq_true, Bool.not_eq_false] at g39
            refine .cons (.gF rfl rfl rfl) ?_
            refine .cons (.gF rfl rfl rfl) ?_
            refine .cons (.gF rfl rfl rfl) ?_
            refine .cons (.gF rfl rfl rfl) ?_
            refine .cons (.gF rfl rfl rfl) ?_
            refine .cons (.pT rfl rfl rfl) ?_
            refine .cons (.mv rfl rfl) ?_
            refine .cons (.gF rfl rfl rfl) ?_
            refine .cons (.gF rfl rfl rfl) ?_
            refine .cons (.gF rfl rfl rfl) ?_
            refine .cons (.gF rfl rfl rfl) ?_
            refine .cons (.pT rfl rfl rfl) ?_
            refine .nil ?_
            refine ks_n ?_
            refine ACode.condT rfl (fun _ => ?_) (fun h => by first | (cases h; done) | (simp [*] at h; done) | (exfalso; simp_all; done))
            refine ACode.seq ?_
            have hbad : prtV g.1 q = false := by first | exact prtV_f1 (by assumption) | exact prtV_f2 (fun h => by simp_all [inB]; omega) | (obtain ⟨s, hs, hs2⟩ := List.any_eq_true.1 (by assumption); exact prtV_f3 hs (by simpa using hs2))
            obtain ⟨hO, hN⟩ := prgV_f (g := g) (prgS_f3 hqm hbad)
            refine ACode.region ?_
            refine .cons (.asg rfl rfl) ?_
            refine .cons (.asg rfl rfl) ?_
            refine .nil ?_
            refine ks_n ?_
            refine ACode.ret ?_
            refine ks_r ?_
            refine kb_r ?_
            refine ks_r ?_
            refine kl_r ?_
            refine kb_r ?_
            refine ks_r ?_
            refine kf_wret [(.t 2, .v (.o (vD (dNs (insV g))))), (.t 3, .v (.o (bo1 (prgV g))))] (Wk.keep [] rfl rfl ⟨ks rfl (.c (Cto.nilE 3 (by first | (rw [hN]; rfl) | (rw [hN, hEz]; rfl)))), ks rfl (.dt (by first | exact congrArg (fun b => V.o (bo1 b)) hO.symm | exact congrArg (fun b => V.o (bo1 b)) (by rw [hO, hEz, decide_eq_decide]; simp) | exact congrArg (fun b => V.o (bo1 b)) (by rw [hO, hEz, decide_eq_decide]; omega))), trivial⟩) rfl ?_ nobox
            rfl
          · try simp only [List.length_map, decide_eq_true_eq, decide_eq_false_iff_not, Bool.not_eq_true', Bool.not_eq_false', Bool.not_eq_true, Bool.not_eq_false] at g39
            refine .cons (.gT rfl rfl rfl (.fP 1 0 false rfl rfl)) ?_
            refine .cons (.gT rfl rfl rfl (.l1 1 rfl rfl)) ?_
            refine .cons (.gT rfl rfl rfl (.ln 64 9 152 rfl rfl rfl)) ?_
            refine .cons (.gT rfl rfl rfl (.cP [.tmp 42, .const (.int .i64 (1)), .const (.int .i64 (4))] rfl rfl rfl rfl (within_fn _ 1 4) rfl)) ?_
            refine .cons (.gT rfl rfl rfl (.nt rfl rfl)) ?_
            refine .cons (.pF rfl rfl rfl) ?_
            refine .cons (.mv rfl rfl) ?_
            refine AOps.cases 46 _ rfl (fun g46 => ?_) (fun g46 => ?_)
            · try simp only [List.length_map, decide_eq_true_eq, decide_eq_false_iff_not, Bool.not_eq_true', Bool.not_eq_false', Bool.not_eq_true, Bool.not_eq_false] at g46
              refine .cons (.gF rfl rfl rfl) ?_
              refine .cons (.gF rfl rfl rfl) ?_
              refine .cons (.gF rfl rfl rfl) ?_
              refine .cons (.gF rfl rfl rfl) ?_
              refine .cons (.pT rfl rfl rfl) ?_
              refine .nil ?_
              refine ks_n ?_
              refine ACode.condT rfl (fun _ => ?_) (fun h => by first | (cases h; done) | (simp [*] at h; done) | (exfalso; simp_all; done))
              refine ACode.seq ?_
              have hbad : prtV g.1 q = false := by first | exact prtV_f1 (by assumption) | exact prtV_f2 (fun h => by simp_all [inB]; omega) | (obtain ⟨s, hs, hs2⟩ := List.any_eq_true.1 (by assumption); exact prtV_f3 hs (by simpa using hs2))
              obtain ⟨hO, hN⟩ := prgV_f (g := g) (prgS_f3 hqm hbad)
              refine ACode.region ?_
              refine .cons (.asg rfl rfl) ?_
              refine .cons (.asg rfl rfl) ?_
              refine .nil ?_
              refine ks_n ?_
              refine ACode.ret ?_
              refine ks_r ?_
              refine kb_r ?_
              refine ks_r ?_
              refine kl_r ?_
              refine kb_r ?_
              refine ks_r ?_
              refine kf_wret [(.t 2, .v (.o (vD (dNs (insV g))))), (.t 3, .v (.o (bo1 (prgV g))))] (Wk.keep [] rfl rfl ⟨ks rfl (.c (Cto.nilE 3 (by first | (rw [hN]; rfl) | (rw [hN, hEz]; rfl)))), ks rfl (.dt (by first | exact congrArg (fun b => V.o (bo1 b)) hO.symm | exact congrArg (fun b => V.o (bo1 b)) (by rw [hO, hEz, decide_eq_decide]; simp) | exact congrArg (fun b => V.o (bo1 b)) (by rw [hO, hEz, decide_eq_decide]; omega))), trivial⟩) rfl ?_ nobox
              rfl
            · try simp only [List.length_map, decide_eq_true_eq, decide_eq_false_iff_not, Bool.not_eq_true', Bool.not_eq_false', Bool.not_eq_true, Bool.not_eq_false] at g46
              refine .cons (.gT rfl rfl rfl (.fP 1 0 false rfl rfl)) ?_
              refine .cons (.gT rfl rfl rfl (.l1 1 rfl rfl)) ?_
              refine .cons (.gT rfl rfl rfl (St1.makeFunc (xs := [.tmp 6]) rfl rfl rfl rfl rfl rfl rfl)) ?_
              refine .cons (.gT rfl rfl rfl (.cP [.tmp 48, .tmp 49] rfl rfl rfl rfl (cnt_stm (f := 58) (cap := [rP q]) (by kernel_rfl) (fun s => !stmtV (q.1.length : Nat) s) q.2 (by omega) (fun s hs => ins1_fn (by have := szO_mem (f := szS) hs; omega))) rfl)) ?_
              refine .cons (.pF rfl rfl rfl) ?_
              refine .nil ?_
              refine ks_n ?_
              refine ACode.condT rfl (fun h51 => ?_) (fun h51 => ?_)
              · try simp only [List.length_map, decide_eq_true_eq, decide_eq_false_iff_not, Bool.not_eq_true', Bool.not_eq_false', Bool.not_eq_true, Bool.not_eq_false] at h51
                refine ACode.seq ?_
                have hbad : prtV g.1 q = false := by first | exact prtV_f1 (by assumption) | exact prtV_f2 (fun h => by simp_all [inB]; omega) | (obtain ⟨s, hs, hs2⟩ := List.any_eq_true.1 (by assumption); exact prtV_f3 hs (by simpa using hs2))
                obtain ⟨hO, hN⟩ := prgV_f (g := g) (prgS_f3 hqm hbad)
                refine ACode.region ?_
                refine .cons (.asg rfl rfl) ?_
                refine .cons (.asg rfl rfl) ?_
                refine .nil ?_
                refine ks_n ?_
                refine ACode.ret ?_
                refine ks_r ?_
                refine kb_r ?_
                refine ks_r ?_
                refine kl_r ?_
                refine kb_r ?_
                refine ks_r ?_
                refine kf_wret [(.t 2, .v (.o (vD (dNs (insV g))))), (.t 3, .v (.o (bo1 (prgV g))))] (Wk.keep [] rfl rfl ⟨ks rfl (.c (Cto.nilE 3 (by first | (rw [hN]; rfl) | (rw [hN, hEz]; rfl)))), ks rfl (.dt (by first | exact congrArg (fun b => V.o (bo1 b)) hO.symm | exact congrArg (fun b => V.o (bo1 b)) (by rw [hO, hEz, decide_eq_decide]; simp) | exact congrArg (fun b => V.o (bo1 b)) (by rw [hO, hEz, decide_eq_decide]; omega))), trivial⟩) rfl ?_ nobox
                rfl
              · try simp only [List.length_map, decide_eq_true_eq, decide_eq_false_iff_not, Bool.not_eq_true', Bool.not_eq_false', Bool.not_eq_true, Bool.not_eq_false] at h51
                have hv1 : okP q.1 = true := by first | assumption | simp_all
                have hv2 : 1 ≤ q.2.length ∧ q.2.length ≤ 4 := by simp_all [inB]; omega
                have hv3 : ∀ s ∈ q.2, stmtV (q.1.length : Nat) s = true := by simp_all
                refine ACode.skip ?_
                refine ks_n ?_
                refine ACode.seq ?_
                refine ACode.region ?_
                refine .cons (.mv rfl rfl) ?_
                refine .cons (.ln 38 1 24 rfl rfl rfl) ?_
                refine .cons (.mv rfl rfl) ?_
                refine .nil ?_
                refine ks_n ?_
                refine ACode.block ?_
                refine .loopK (fun m σ => (∃ (i : Nat) (o2 : List Ins), m = (npR q.1).length - i ∧ (i ≤ (npR q.1).length) ∧ (∀ j p, j < i → (npR q.1)[j]? = some p → ptG' g.1 q.2 p = true) ∧ (o ++ insT k q.2.length ((npR q.1).take i) = o2) ∧ (o2.length ≤ 480 * k + 4 * i) ∧ σ = [(.t 1, .v (.o (.c (.ptr (rG g))))), (.t 4, .v (.o (.c (.own 120 3 (o2.length))))), (.t 5, .v (.o (nat1 (k : Nat)))), (.t 6, .v (.o (.c (.ptr (rP q))))), (.t 24, .v (.o (vD (dPts g.2)))), (.t 25, .v (.o (nat1 (g.2.length : Nat)))), (.t 26, .v (.o (nat1 (k : Nat)))), (.t 52, .v (.o (vD (dPs (npR q.1))))), (.t 53, .v (.o (nat1 ((npR q.1).length : Nat)))), (.t 54, .v (.o (nat1 (i : Nat)))), (.b 120, .b 67 3 (dR (o2.map rN))), (.u 120, .u)])) [(120, 770)] ⟨0, o, rfl, by omega, fun j p hj _ => absurd hj (by omega), by simp [insT], by omega, rfl⟩ ⟨ks rfl .dt, ks rfl (.c .ow), ks rfl .dt, ks rfl .dt, ks rfl .dt, ks rfl .dt, ks rfl .dt, ks rfl .dt, ks rfl .dt, ks rfl .dt, kb 770 rfl (.dt rfl (by first | rfl | (simp [dR, rN, dI]; done))), trivial⟩ ?_
                rintro m σ ⟨i, o2, hm0, hi, hG, hEo, ho2, rfl⟩
                refine ACode.seq ?_
                refine ACode.region ?_
                refine .cons (.ls rfl rfl rfl) ?_
                refine .nil ?_
                refine ks_n ?_
                refine ACode.seq ?_
                refine .cD rfl (fun h55 => ?_) (fun h55 => ?_)
                · skip
                  obtain ⟨p, hp1⟩ : ∃ x_, (npR q.1)[i]? = some x_ := ⟨_, List.getElem?_eq_getElem (by omega)⟩
                  have hpm := List.mem_of_getElem? hp1
                  have hpt := npR_pt hpm
                  have hnl := npR_len q.1
                  refine ACode.skip ?_
                  refine ks_n ?_
                  refine ACode.seq ?_
                  refine ACode.block ?_
                  refine ACode.seq ?_
                  refine ACode.region ?_
                  refine .cons (.xL 38 1 24 rfl rfl rfl rfl rfl) ?_
                  refine .cons (.l1 1 rfl rfl) ?_
                  refine .cons (.asg rfl rfl) ?_
                  refine .nil ?_
                  refine ks_n ?_
                  refine ACode.seq ?_
                  refine ACode.seq ?_
                  refine ACode.region ?_
                  refine .cons (.mv rfl rfl) ?_
                  refine .cons (.cP [.tmp 58] rfl rfl rfl rfl (isPoint_fn _) rfl) ?_
                  refine .cons (.nt rfl rfl) ?_
                  refine .nil ?_
                  refine ks_n ?_
                  refine ACode.condT rfl (fun h60 => ?_) (fun h60 => ?_)
                  · try simp only [List.length_map, decide_eq_true_eq, decide_eq_false_iff_not, Bool.not_eq_true', Bool.not_eq_false', Bool.not_eq_true, Bool.not_eq_false] at h60
                    refine ACode.seq ?_
                    obtain ⟨hO, hN⟩ := prgV_f (g := g) (prgS_f3 hqm (prtV_f4 hpm (by assumption)))
                    refine ACode.region ?_
                    refine .cons (.asg rfl rfl) ?_
                    refine .cons (.asg rfl rfl) ?_
                    refine .nil ?_
                    refine ks_n ?_
                    refine ACode.ret ?_
                    refine ks_r ?_
                    refine kb_r ?_
                    refine ks_r ?_
                    refine kl_r ?_
                    refine kb_r ?_
                    refine kb_r ?_
                    refine ks_r ?_
                    refine kl_r ?_
                    refine kb_r ?_
                    refine ks_r ?_
                    refine kf_wret [(.t 2, .v (.o (vD (dNs (insV g))))), (.t 3, .v (.o (bo1 (prgV g))))] (Wk.keep [] rfl rfl ⟨ks rfl (.c (Cto.nilE 3 (by first | (rw [hN]; rfl) | (rw [hN, hEz]; rfl)))), ks rfl (.dt (by first | exact congrArg (fun b => V.o (bo1 b)) hO.symm | exact congrArg (fun b => V.o (bo1 b)) (by rw [hO, hEz, decide_eq_decide]; simp) | exact congrArg (fun b => V.o (bo1 b)) (by rw [hO, hEz, decide_eq_decide]; omega))), trivial⟩) rfl ?_ nobox
                    rfl
                  · try simp only [List.length_map, decide_eq_true_eq, decide_eq_false_iff_not, Bool.not_eq_true', Bool.not_eq_false', Bool.not_eq_true, Bool.not_eq_false] at h60
                    refine ACode.skip ?_
                    refine ks_n ?_
                    refine ACode.seq ?_
                    refine ACode.region ?_
                    refine .cons (.fP 1 0 false rfl rfl) ?_
                    refine .cons (.l1 1 rfl rfl) ?_
                    refine .cons (.ln 64 9 152 rfl rfl rfl) ?_
                    refine .cons (.mv rfl rfl) ?_
                    refine .nil ?_
                    refine ks_n ?_
                    refine ACode.block ?_
                    refine .loopK (fun m σ => (∃ (j : Nat) (o3 : List Ins), m = q.2.length - j ∧ (j ≤ q.2.length) ∧ (∀ t s, t < j → q.2[t]? = some s → stmG g.1 s p = true) ∧ (o2 ++ rowI k j p = o3) ∧ (o3.length ≤ 480 * k + 4 * i + j) ∧ σ = [(.t 1, .v (.o (.c (.ptr (rG g))))), (.t 4, .v (.o (.c (.own 130 3 (o3.length))))), (.t 5, .v (.o (nat1 (k : Nat)))), (.t 6, .v (.o (.c (.ptr (rP q))))), (.t 10, .v (.o (vD (dIs p)))), (.t 24, .v (.o (vD (dPts g.2)))), (.t 25, .v (.o (nat1 (g.2.length : Nat)))), (.t 26, .v (.o (nat1 (k : Nat)))), (.t 52, .v (.o (vD (dPs (npR q.1))))), (.t 53, .v (.o (nat1 ((npR q.1).length : Nat)))), (.t 54, .v (.o (nat1 (i : Nat)))), (.t 62, .v (.o (vD (dMs q.2)))), (.t 63, .v (.o (nat1 (q.2.length : Nat)))), (.t 64, .v (.o (nat1 (j : Nat)))), (.b 130, .b 67 3 (dR (o3.map rN))), (.u 130, .u)])) [(130, 120)] ⟨0, o2, rfl, by omega, fun t s ht _ => absurd ht (by omega), by simp [rowI_zero], by omega, rfl⟩ ⟨ks rfl .dt, ks rfl (.c .ow), ks rfl .dt, ks rfl .dt, ks rfl .dt, ks rfl .dt, ks rfl .dt, ks rfl .dt, ks rfl .dt, ks rfl .dt, ks rfl .dt, ks rfl .dt, ks rfl .dt, ks rfl .dt, kb 120 rfl (.dt rfl (by first | rfl | (simp [dR, rN, dI]; done))), trivial⟩ ?_
                    rintro m σ ⟨j, o3, hm0, hj, hH, hEp, ho3, rfl⟩
                    refine ACode.seq ?_
                    refine ACode.region ?_
                    refine .cons (.ls rfl rfl rfl) ?_
                    refine .nil ?_
                    refine ks_n ?_
                    refine ACode.seq ?_
                    refine .cD rfl (fun h65 => ?_) (fun h65 => ?_)
                    · skip
                      obtain ⟨s, hs1⟩ : ∃ x_, q.2[j]? = some x_ := ⟨_, List.getElem?_eq_getElem (by omega)⟩
                      have hsm := List.mem_of_getElem? hs1
                      have hsv := hv3 s hsm
                      refine ACode.skip ?_
                      refine ks_n ?_
                      refine ACode.seq ?_
                      refine ACode.block ?_
                      refine ACode.seq ?_
                      refine ACode.region ?_
                      refine .cons (.mv rfl rfl) ?_
                      refine .cons (.xL 64 9 152 rfl rfl rfl rfl rfl) ?_
                      refine .cons (.lN 9 rfl rfl rfl) ?_
                      refine .cons (.al 112 [.string ByteArray.empty, .slice none 0 0, .int .i64 0, .int .i64 0, .slice none 0 0, .int .i64 0, .string ByteArray.empty, .slice none 0 0, .slice none 0 0] rfl rfl rfl) ?_
                      refine .cons (.asg rfl rfl) ?_
                      refine .cons (.sT 9 true rfl rfl rfl rfl rfl rfl rfl) ?_
                      refine .nil ?_
                      refine ks_n ?_
                      refine ACode.seq ?_
                      refine ACode.seq ?_
                      refine ACode.region ?_
                      refine .cons (.lN 2 rfl rfl rfl) ?_
                      refine .cons (.bN 9 rfl rfl rfl rfl rfl rfl) ?_
                      refine .cons (.mv rfl rfl) ?_
                      refine .cons (.cP [.tmp 69, .tmp 70, .tmp 71] rfl rfl rfl rfl (sok_fn hA hsv hpt.1 hpt.2) rfl) ?_
                      refine .cons (.nt rfl rfl) ?_
                      refine .nil ?_
                      refine ks_n ?_
                      refine ACode.condT rfl (fun h73 => ?_) (fun h73 => ?_)
                      · try simp only [List.length_map, decide_eq_true_eq, decide_eq_false_iff_not, Bool.not_eq_true', Bool.not_eq_false', Bool.not_eq_true, Bool.not_eq_false] at h73
                        refine ACode.seq ?_
                        obtain ⟨hO, hN⟩ := prgV_f (g := g) (prgS_f3 hqm (prtV_f5 hpm hsm (by assumption)))
                        refine ACode.region ?_
                        refine .cons (.asg rfl rfl) ?_
                        refine .cons (.asg rfl rfl) ?_
                        refine .nil ?_
                        refine ks_n ?_
                        refine ACode.ret ?_
                        refine ks_r ?_
                        refine kb_r ?_
                        refine ks_r ?_
                        refine kl_r ?_
                        refine kb_r ?_
                        refine kb_r ?_
                        refine ks_r ?_
                        refine kl_r ?_
                        refine kb_r ?_
                        refine kb_r ?_
                        refine ks_r ?_
                        refine kl_r ?_
                        refine kb_r ?_
                        refine ks_r ?_
                        refine kf_wret [(.t 2, .v (.o (vD (dNs (insV g))))), (.t 3, .v (.o (bo1 (prgV g))))] (Wk.keep [] rfl rfl ⟨ks rfl (.c (Cto.nilE 3 (by first | (rw [hN]; rfl) | (rw [hN, hEz]; rfl)))), ks rfl (.dt (by first | exact congrArg (fun b => V.o (bo1 b)) hO.symm | exact congrArg (fun b => V.o (bo1 b)) (by rw [hO, hEz, decide_eq_decide]; simp) | exact congrArg (fun b => V.o (bo1 b)) (by rw [hO, hEz, decide_eq_decide]; omega))), trivial⟩) rfl ?_ nobox
                        rfl
                      · try simp only [List.length_map, decide_eq_true_eq, decide_eq_false_iff_not, Bool.not_eq_true', Bool.not_eq_false', Bool.not_eq_true, Bool.not_eq_false] at h73
                        have hST : stmG g.1 s p = true := by assumption
                        refine ACode.skip ?_
                        refine ks_n ?_
                        refine ACode.region ?_
                        refine .cons (.mv rfl rfl) ?_
                        refine .cons (.mv rfl rfl) ?_
                        refine .cons (.mv rfl rfl) ?_
                        refine .cons (.mv rfl rfl) ?_
                        refine .cons (.cP [.tmp 77] rfl rfl rfl rfl (cloneInts_fn p (by omega)) rfl) ?_
                        refine .cons (.bu [(0, .tmp 75), (1, .tmp 76), (2, .tmp 78)] [(0, 1), (1, 1), (2, 1)] [.int .i64 0, .int .i64 0, .slice none 0 0] rfl rfl rfl rfl rfl) ?_
                        refine .cons (.li 67 2 0 [.tmp 79] rfl rfl rfl rfl rfl rfl) ?_
                        refine .cons (St1.appB (k' := 181) (e := 67) (sz := 2) (by' := 40) rfl rfl rfl rfl rfl (by kernel_rfl) rfl rfl rfl rfl (by first | (simp [dR]; done) | (simp [dR]; omega)) (by first | (simp [dR]; done) | (simp [dR]; omega)) rfl rfl rfl) ?_
                        refine .cons (.asg rfl rfl) ?_
                        refine .nil ?_
                        refine kb_n ?_
                        refine ks_n ?_
                        refine ACode.region ?_
                        refine .cons (.pl rfl rfl rfl) ?_
                        refine .cons (.mv rfl rfl) ?_
                        refine .nil ?_
                        refine kl_k [(130, 181)] ⟨j + 1, o3 ++ [((k : Int), ((j : Nat) : Int), p)], rfl, by omega, fun t s' ht hs' => (Nat.lt_succ_iff_lt_or_eq.1 ht).elim (fun h => hH t s' h hs') (fun h => by subst h; rw [hs1] at hs'; cases hs'; exact hST), by rw [rowI_snoc, ← List.append_assoc, hEp], by rw [List.length_append, List.length_singleton]; omega, rfl⟩ ⟨ks rfl .dt, ks rfl (.c .ow), ks rfl .dt, ks rfl .dt, ks rfl .dt, ks rfl .dt, ks rfl .dt, ks rfl .dt, ks rfl .dt, ks rfl .dt, ks rfl .dt, ks rfl .dt, ks rfl .dt, ks rfl .dt, kb 181 rfl (.dt rfl (by first | rfl | (simp [dR, rN, dI]; done))), trivial⟩
                    · skip
                      obtain rfl : j = q.2.length := by omega
                      have hPT : ptG' g.1 q.2 p = true := by rw [ptG', show isPt p = true by assumption, Bool.true_and]; exact all_of fun j s h => hH j s (List.getElem?_eq_some_iff.1 h).1 h
                      refine ACode.exit ?_
                      refine ks_e ?_
                      refine kl_e ?_
                      refine kb_hit ?_
                      refine kb_n ?_
                      refine ks_n ?_
                      refine ACode.region ?_
                      refine .cons (.pl rfl rfl rfl) ?_
                      refine .cons (.mv rfl rfl) ?_
                      refine .nil ?_
                      refine kl_k [(120, 130)] ⟨i + 1, o3, rfl, by omega, fun j p' hj hp' => (Nat.lt_succ_iff_lt_or_eq.1 hj).elim (fun h => hG j p' h hp') (fun h => by subst h; rw [hp1] at hp'; cases hp'; exact hPT), by rw [insT_take hp1, ← List.append_assoc, hEo]; exact hEp, by omega, rfl⟩ ⟨ks rfl .dt, ks rfl (.c .ow), ks rfl .dt, ks rfl .dt, ks rfl .dt, ks rfl .dt, ks rfl .dt, ks rfl .dt, ks rfl .dt, ks rfl .dt, kb 130 rfl (.dt rfl (by first | rfl | (simp [dR, rN, dI]; done))), trivial⟩
                · skip
                  obtain rfl : i = (npR q.1).length := by omega
                  rw [List.take_length] at hEo
                  have hPV : prtV g.1 q = true := by rw [prtV_eq hv1 hv2 (List.all_eq_true.2 hv3)]; exact all_of fun j p h => hG j p (List.getElem?_eq_some_iff.1 h).1 h
                  have hnl := npR_len q.1
                  refine ACode.exit ?_
                  refine ks_e ?_
                  refine kl_e ?_
                  refine kb_hit ?_
                  refine kb_n ?_
                  refine ks_n ?_
                  refine ACode.region ?_
                  refine .cons (.pl rfl rfl rfl) ?_
                  refine .cons (.mv rfl rfl) ?_
                  refine .nil ?_
                  refine kl_k [(110, 120)] (.inr ⟨k + 1, o2, rfl, by omega, fun j q' hj hq' => (Nat.lt_succ_iff_lt_or_eq.1 hj).elim (fun h => hF j q' h hq') (fun h => by subst h; rw [hq1] at hq'; cases hq'; exact hPV), by rw [insG_take hq1, hE]; exact hEo, by omega, rfl⟩) ⟨ks rfl .dt, ks rfl (.c .ow), ks rfl .dt, ks rfl .dt, ks rfl .dt, kb 120 rfl (.dt rfl (by first | rfl | (simp [dR, rN, dI]; done))), trivial⟩
        · skip
          obtain rfl : k = g.2.length := by omega
          rw [List.take_length] at hE
          have hEz := hE
          obtain ⟨hO, hN⟩ := prgV_t (prgS_eq hA h4 hF)
          refine ACode.exit ?_
          refine ks_e ?_
          refine kl_e ?_
          refine kb_hit ?_
          refine ks_n ?_
          refine ACode.seq ?_
          refine ACode.region ?_
          refine .cons (.mv rfl rfl) ?_
          refine .cons (.mv rfl rfl) ?_
          refine .cons (.lB 67 3 40 rfl rfl rfl rfl) ?_
          refine .cons (.le rfl rfl rfl) ?_
          refine .cons (.asg rfl rfl) ?_
          refine .cons (.asg rfl rfl) ?_
          refine .nil ?_
          refine ks_n ?_
          refine ACode.ret ?_
          refine kf_wret [(.t 2, .v (.o (vD (dNs (insV g))))), (.t 3, .v (.o (bo1 (prgV g))))] (Wk.keep [] rfl rfl ⟨ks rfl (.c (.fz rfl (by first | (rw [hN, hEz]; done) | (rw [hN, hEz]; rfl)) (by rw [hN, hEz, List.length_map]) (by omega))), ks rfl (.dt (by first | exact congrArg (fun b => V.o (bo1 b)) hO.symm | exact congrArg (fun b => V.o (bo1 b)) (by rw [hO, hEz, decide_eq_decide]; simp) | exact congrArg (fun b => V.o (bo1 b)) (by rw [hO, hEz, decide_eq_decide]; omega))), trivial⟩) rfl ?_ nobox
          rfl

end Go.Proofs.YtplekceinncepaaGreat

/- Instances of programs (the reference); condition: memory holds it. -/
namespace Go.Proofs.YtplekceinncepaaGreat
set_option linter.unusedVariables false
set_option linter.unusedSimpArgs false
open Go.RowKit

def clsV (ar : List Arr) (s : Stm) (p : List Int) : List Int := if stmG ar s p = true then (rdE s.2).map fun a => cellG a p ar 0 else []
def wrV (ar : List Arr) (s : Stm) (p : List Int) : Int := if stmG ar s p = true then cellG s.1 p ar 0 else 0
def cntP (ar : List Arr) (q : Prt) : Int := if prtV ar q = true then (((npR q.1).length * q.2.length : Nat) : Int) else 0
theorem cls_no {ar : List Arr} {s : Stm} {p : List Int} (h : stmG ar s p = false) : clsV ar s p = [] ∧ wrV ar s p = 0 := ⟨if_neg (by rw [h]; simp), if_neg (by rw [h]; simp)⟩
theorem cls_yes {ar : List Arr} {s : Stm} {p : List Int} (h : stmG ar s p = true) : clsV ar s p = (rdE s.2).map (fun a => cellG a p ar 0) ∧ wrV ar s p = cellG s.1 p ar 0 := ⟨if_pos h, if_pos h⟩
theorem accG_no {ar : List Arr} {p : List Int} {a : Acc} (h : cellG a p ar 0 < 0) : accG ar p a = false := decide_eq_false (by omega)
theorem accG_yes {ar : List Arr} {p : List Int} {a : Acc} (h : ¬ cellG a p ar 0 < 0) : accG ar p a = true := decide_eq_true (by omega)
theorem stmG_r {ar : List Arr} {s : Stm} {p : List Int} {a : Acc} (ha : a ∈ rdE s.2) (h : cellG a p ar 0 < 0) : stmG ar s p = false := Bool.eq_false_iff.2 fun h2 => by
  rw [stmG, Bool.and_eq_true] at h2
  have := List.all_eq_true.1 h2.2 a ha
  rw [accG_no h] at this; cases this
theorem stmG_w {ar : List Arr} {s : Stm} {p : List Int} (h : cellG s.1 p ar 0 < 0) : stmG ar s p = false := by rw [stmG, accG_no h]; rfl
theorem stmG_t {ar : List Arr} {s : Stm} {p : List Int} (h : ¬ cellG s.1 p ar 0 < 0) (h2 : ∀ (j : Nat) a, j < (rdE s.2).length → (rdE s.2)[j]? = some a → accG ar p a = true) : stmG ar s p = true := by
  rw [stmG, accG_yes h, Bool.true_and]
  exact all_of fun j a h => h2 j a (List.getElem?_eq_some_iff.1 h).1 h
theorem cntP_no {ar : List Arr} {q : Prt} (h : prtV ar q = false) : cntP ar q = 0 := if_neg (by rw [h]; simp)
theorem cntP_yes {ar : List Arr} {q : Prt} (h : prtV ar q = true) : cntP ar q = (((npR q.1).length * q.2.length : Nat) : Int) := if_pos h
theorem cntP_len {ar : List Arr} {q : Prt} (h : prtV ar q = true) (k : Nat) : cntP ar q = ((insP k q).length : Nat) ∧ (insP k q).length ≤ 480 := by
  obtain ⟨h1, h2⟩ := insP_len (k := k) (prtV_iff.1 h).2.1.2
  exact ⟨by rw [cntP_yes h, h1], h2⟩
theorem np_pts {ns : List Lp} (h : okP ns = true) : nsV ns = true ∧ npR ns = ptsF ns [] [] := by
  have hv := (okP_iff.1 h).1
  exact ⟨hv, (np_yes hv (fun h2 => by rw [np_no1 h2] at h; cases h) (fun h2 => by rw [np_no2 h2] at h; cases h)).2⟩

set_option maxRecDepth 100000 in
set_option maxHeartbeats 1600000 in
theorem l4Cells_fn {ar : List Arr} (hv : arrsV ar = true) {D : Int} {s : Stm} {p : List Int} (hs : stmtV D s = true) (hz : szS s ≤ 1073741824) (hS : Small p) (hn : p.length ≤ 4) : Fn Tryz.prog 90 [] [vD (dRs ar), ad (rS s), vD (dIs p)] (.tup [vD (dIs (clsV ar s p)), nat1 (wrV ar s p), bo1 (stmG ar s p)]) [] := by
  obtain ⟨ha, hr, hrl⟩ := stm_accs hs
  have hz2 : szE s.2 ≤ 1073741824 := by have : szS s = szC s.1 + szE s.2 := rfl; omega
  refine Fn.code0 Tryz.func90 rfl rfl rfl rfl ?_
  refine ACode.seq ?_
  refine ACode.region ?_
  refine .cons (St1.boxP rfl rfl rfl rfl rfl rfl) ?_
  refine .cons (.asg rfl rfl) ?_
  refine .cons (.asg rfl rfl) ?_
  refine .cons (.asg rfl rfl) ?_
  refine .nil ?_
  refine ks_n ?_
  refine ACode.seq ?_
  refine ACode.region ?_
  refine .cons (St1.lit0 (k' := 114) (e := 3) (sz := 1) (b := true) rfl rfl rfl rfl (by kernel_rfl) rfl rfl) ?_
  refine .cons (.asg rfl rfl) ?_
  refine .nil ?_
  refine ks_n ?_
  refine ACode.seq ?_
  refine ACode.region ?_
  refine .cons (St1.lit0 (k' := 115) (e := 57) (sz := 2) (b := true) rfl rfl rfl rfl (by kernel_rfl) rfl rfl) ?_
  refine .cons (.fP 2 6 true rfl rfl) ?_
  refine .cons (.lN 7 rfl rfl rfl) ?_
  refine .cons (.cO [.tmp 15, .tmp 17] [(0, 115), (1000, 118)] rfl rfl rfl rfl (l3Reads_fn s.2 hz2 [] (by simp; omega)) rfl ⟨rfl, trivial⟩ (hbL_flat _ _) (hbL_flat _ _) (hbL_HB _ _) outS_one) ?_
  refine .cons (.asg rfl rfl) ?_
  refine .nil ?_
  refine ks_n ?_
  refine ACode.seq ?_
  refine ACode.seq ?_
  refine ACode.region ?_
  refine .cons (.asg rfl rfl) ?_
  refine .nil ?_
  refine ks_n ?_
  refine ACode.block ?_
  refine .loopK (fun m σ => (∃ i : Nat, m = (rdE s.2).length - i ∧ (i ≤ (rdE s.2).length) ∧ (∀ j a, j < i → (rdE s.2)[j]? = some a → accG ar p a = true) ∧ σ = [(.t 0, .v (.o (vD (dRs ar)))), (.t 2, .v (.o (vD (dIs p)))), (.t 4, .v (.o (.c (.ptr (rS s))))), (.t 9, .v (.o (.c (.own 110 1 (i))))), (.t 10, .v (.o (vD (dCs (rdE s.2))))), (.t 11, .v (.o (nat1 (i : Nat)))), (.b 110, .b 3 1 (dR (((rdE s.2).take i).map fun a => rI (cellG a p ar 0)))), (.u 110, .u)])) [(110, 114)] ⟨0, rfl, by omega, fun j a hj _ => absurd hj (by omega), rfl⟩ ⟨ks rfl .dt, ks rfl .dt, ks rfl .dt, ks rfl (.c .ow), ks rfl (.c (.fz rfl rfl (by simp) (by simp; omega))), ks rfl .dt, kb 114 rfl (.dt rfl (by first | exact dR_take (fun a : Acc => rI (cellG a p ar 0)) hx1 | exact dR_take1 (fun a : Acc => rI (cellG a p ar 0)) hx1 | rfl | (simp [dR]; done))), trivial⟩ ?_
  rintro m σ ⟨i, hm0, hi, hF, rfl⟩
  refine ACode.seq ?_
  refine ACode.seq ?_
  refine ACode.region ?_
  refine .cons (.mv rfl rfl) ?_
  refine .cons (.mv rfl rfl) ?_
  refine .cons (.ln 57 2 40 rfl rfl rfl) ?_
  refine .cons (.ls rfl rfl rfl) ?_
  refine .nil ?_
  refine ks_n ?_
  refine .cD rfl (fun h22 => ?_) (fun h22 => ?_)
  · skip
    obtain ⟨x, hx1⟩ : ∃ x_, (rdE s.2)[i]? = some x_ := ⟨_, List.getElem?_eq_getElem (by omega)⟩
    refine ACode.skip ?_
    refine ks_n ?_
    refine ACode.seq ?_
    refine ACode.block ?_
    refine ACode.seq ?_
    refine ACode.region ?_
    refine .cons (.mv rfl rfl) ?_
    refine .cons (.mv rfl rfl) ?_
    refine .cons (.mv rfl rfl) ?_
    refine .cons (.xL 57 2 40 rfl rfl rfl rfl rfl) ?_
    refine .cons (.lN 2 rfl rfl rfl) ?_
    refine .cons (.mv rfl rfl) ?_
    refine .cons (.cP [.tmp 25, .tmp 29, .tmp 30] rfl rfl rfl rfl (l4Cell_fn hv (hr x (List.mem_of_getElem? hx1)) hS hn) rfl) ?_
    refine .cons (.asg rfl rfl) ?_
    refine .nil ?_
    refine ks_n ?_
    refine ACode.seq ?_
    refine ACode.seq ?_
    refine ACode.region ?_
    refine .cons (.mv rfl rfl) ?_
    refine .cons (.ls rfl rfl rfl) ?_
    refine .nil ?_
    refine ks_n ?_
    refine .cD rfl (fun h33 => ?_) (fun h33 => ?_)
    · skip
      refine ACode.seq ?_
      have hG := stmG_r (List.mem_of_getElem? hx1) h33
      obtain ⟨hC, hW⟩ := cls_no hG
      refine ACode.region ?_
      refine .cons (St1.lit0D (e := 3) (sz := 1) (b := true) rfl rfl rfl rfl (by kernel_rfl)) ?_
      refine .cons (.asg rfl rfl) ?_
      refine .cons (.asg rfl rfl) ?_
      refine .cons (.asg rfl rfl) ?_
      refine .nil ?_
      refine ks_n ?_
      refine ACode.ret ?_
      refine ks_r ?_
      refine kb_r ?_
      refine ks_r ?_
      refine kl_r ?_
      refine kb_r ?_
      refine ks_r ?_
      refine kf_wret [(.t 6, .v (.o (vD (dIs (clsV ar s p))))), (.t 7, .v (.o (nat1 (wrV ar s p)))), (.t 8, .v (.o (bo1 (stmG ar s p))))] (Wk.keep [] rfl rfl ⟨ks rfl (.dt (by rw [hC]; rfl)), ks rfl (.dt (by rw [hW])), ks rfl (.dt (by rw [hG])), trivial⟩) rfl ?_ nobox
      rfl
    · skip
      refine ACode.skip ?_
      refine ks_n ?_
      refine ACode.region ?_
      refine .cons (.mv rfl rfl) ?_
      refine .cons (.mv rfl rfl) ?_
      refine .cons (.li 3 0 0 [.tmp 36] rfl rfl rfl rfl rfl rfl) ?_
      refine .cons (St1.appB (k' := 138) (e := 3) (sz := 0) (by' := 8) rfl rfl rfl rfl rfl (by kernel_rfl) rfl rfl rfl rfl (by first | (simp [dR]; done) | (simp [dR]; omega)) (by first | (simp [dR]; done) | (simp [dR]; omega)) rfl rfl rfl) ?_
      refine .cons (.asg rfl rfl) ?_
      refine .nil ?_
      refine kb_n ?_
      refine ks_n ?_
      refine ACode.region ?_
      refine .cons (.mv rfl rfl) ?_
      refine .cons (.pl rfl rfl rfl) ?_
      refine .cons (.asg rfl rfl) ?_
      refine .nil ?_
      refine kl_k [(110, 138)] ⟨i + 1, rfl, by omega, fun j a' hj h' => (Nat.lt_succ_iff_lt_or_eq.1 hj).elim (fun h => hF j a' h h') (fun h => by subst h; rw [hx1] at h'; cases h'; exact accG_yes h33), rfl⟩ ⟨ks rfl .dt, ks rfl .dt, ks rfl .dt, ks rfl (.c .ow), ks rfl .dt, ks rfl .dt, kb 138 rfl (.dt rfl (by first | exact dR_take (fun a : Acc => rI (cellG a p ar 0)) hx1 | exact dR_take1 (fun a : Acc => rI (cellG a p ar 0)) hx1 | rfl | (simp [dR]; done))), trivial⟩
  · skip
    obtain rfl : i = (rdE s.2).length := by omega
    refine ACode.exit ?_
    refine ks_e ?_
    refine kl_e ?_
    refine kb_hit ?_
    refine ks_n ?_
    refine ACode.seq ?_
    refine ACode.region ?_
    refine .cons (.mv rfl rfl) ?_
    refine .cons (.fP 0 1 true rfl rfl) ?_
    refine .cons (.lN 2 rfl rfl rfl) ?_
    refine .cons (.mv rfl rfl) ?_
    refine .cons (.cP [.tmp 39, .tmp 41, .tmp 42] rfl rfl rfl rfl (l4Cell_fn hv ha hS hn) rfl) ?_
    refine .cons (.asg rfl rfl) ?_
    refine .nil ?_
    refine ks_n ?_
    refine ACode.seq ?_
    refine ACode.seq ?_
    refine ACode.region ?_
    refine .cons (.mv rfl rfl) ?_
    refine .cons (.ls rfl rfl rfl) ?_
    refine .nil ?_
    refine ks_n ?_
    refine .cD rfl (fun h45 => ?_) (fun h45 => ?_)
    · skip
      refine ACode.seq ?_
      have hG : stmG ar s p = false := stmG_w h45
      obtain ⟨hC, hW⟩ := cls_no hG
      refine ACode.region ?_
      refine .cons (St1.lit0D (e := 3) (sz := 1) (b := true) rfl rfl rfl rfl (by kernel_rfl)) ?_
      refine .cons (.asg rfl rfl) ?_
      refine .cons (.asg rfl rfl) ?_
      refine .cons (.asg rfl rfl) ?_
      refine .nil ?_
      refine ks_n ?_
      refine ACode.ret ?_
      refine ks_r ?_
      refine kf_wret [(.t 6, .v (.o (vD (dIs (clsV ar s p))))), (.t 7, .v (.o (nat1 (wrV ar s p)))), (.t 8, .v (.o (bo1 (stmG ar s p))))] (Wk.keep [] rfl rfl ⟨ks rfl (.dt (by rw [hC]; rfl)), ks rfl (.dt (by rw [hW])), ks rfl (.dt (by rw [hG])), trivial⟩) rfl ?_ nobox
      rfl
    · skip
      refine ACode.skip ?_
      refine ks_n ?_
      refine ACode.seq ?_
      have hG := stmG_t h45 hF
      obtain ⟨hC, hW⟩ := cls_yes hG
      refine ACode.region ?_
      refine .cons (.mv rfl rfl) ?_
      refine .cons (.mv rfl rfl) ?_
      refine .cons (.asg rfl rfl) ?_
      refine .cons (.asg rfl rfl) ?_
      refine .cons (.asg rfl rfl) ?_
      refine .nil ?_
      refine ks_n ?_
      refine ACode.ret ?_
      refine kf_wret [(.t 6, .v (.o (vD (dIs (clsV ar s p))))), (.t 7, .v (.o (nat1 (wrV ar s p)))), (.t 8, .v (.o (bo1 (stmG ar s p))))] (Wk.keep [] rfl rfl ⟨ks rfl (.c (.fz rfl (by rw [hC]; first | rfl | (rw [List.take_length, List.map_map]; rfl)) (by rw [hC]; simp) (by omega))), ks rfl (.dt (by rw [hW])), ks rfl (.dt (by rw [hG])), trivial⟩) rfl ?_ nobox
      rfl

set_option maxRecDepth 100000 in
set_option maxHeartbeats 1600000 in
theorem l4Part_fn {ar : List Arr} (hv : arrsV ar = true) {q : Prt} (hs : szPt q ≤ 1073741824) : Fn Tryz.prog 50 [] [vD (dRs ar), ad (rP q)] (.tup [nat1 (cntP ar q), bo1 (prtV ar q)]) [] := by
  have hqe : szPt q = szLs q.1 + szO szS q.2 := rfl
  have hbg := sz_bg (ns := q.1) (by omega)
  have hql := szO_len (f := szS) q.2
  have hnl := npR_len q.1
  refine Fn.code0 Tryz.func50 rfl rfl rfl rfl ?_
  refine ACode.seq ?_
  refine ACode.region ?_
  refine .cons (St1.boxP rfl rfl rfl rfl rfl rfl) ?_
  refine .cons (.asg rfl rfl) ?_
  refine .cons (.asg rfl rfl) ?_
  refine .nil ?_
  refine ks_n ?_
  refine ACode.seq ?_
  refine ACode.region ?_
  refine .cons (.fP 0 0 false rfl rfl) ?_
  refine .cons (.l1 1 rfl rfl) ?_
  refine .cons (.cP [.tmp 15] rfl rfl rfl rfl (specNestPts_B q.1 hbg) rfl) ?_
  refine .cons (.mv rfl rfl) ?_
  refine .cons (.ex rfl rfl rfl) ?_
  refine .cons (.ex rfl rfl rfl) ?_
  refine .cons (.asg rfl rfl) ?_
  refine .cons (.asg rfl rfl) ?_
  refine .nil ?_
  refine ks_n ?_
  refine ACode.seq ?_
  refine ACode.seq ?_
  refine ACode.region ?_
  refine .cons (.mv rfl rfl) ?_
  refine .cons (.nt rfl rfl) ?_
  refine .cons (.mv rfl rfl) ?_
  refine AOps.cases 21 _ rfl (fun g21 => ?_) (fun g21 => ?_)
  · try simp only [List.length_map, decide_eq_true_eq, decide_eq_false_iff_not, Bool.not_eq_true', Bool.not_eq_false', Bool.not_eq_true, Bool.not_eq_false] at g21
    refine .cons (.gF rfl rfl rfl) ?_
    refine .cons (.gF rfl rfl rfl) ?_
    refine .cons (.gF rfl rfl rfl) ?_
    refine .cons (.gF rfl rfl rfl) ?_
    refine .cons (.pT rfl rfl rfl) ?_
    refine .cons (.mv rfl rfl) ?_
    refine .cons (.gF rfl rfl rfl) ?_
    refine .cons (.gF rfl rfl rfl) ?_
    refine .cons (.gF rfl rfl rfl) ?_
    refine .cons (.gF rfl rfl rfl) ?_
    refine .cons (.pT rfl rfl rfl) ?_
    refine .nil ?_
    refine ks_n ?_
    refine ACode.condT rfl (fun _ => ?_) (fun h => by first | (cases h; done) | (simp [*] at h; done) | (exfalso; simp_all; done))
    refine ACode.seq ?_
    have hP : prtV ar q = false := by first | exact prtV_f1 (by assumption) | exact prtV_f2 (by omega)
    have hC := cntP_no hP
    refine ACode.region ?_
    refine .cons (.asg rfl rfl) ?_
    refine .cons (.asg rfl rfl) ?_
    refine .nil ?_
    refine ks_n ?_
    refine ACode.ret ?_
    refine ks_r ?_
    refine kf_wret [(.t 4, .v (.o (nat1 (cntP ar q)))), (.t 5, .v (.o (bo1 (prtV ar q))))] (Wk.keep [] rfl rfl ⟨ks rfl (.dt (by first | (rw [hC]; done) | (rw [hC]; rfl) | (rw [hC]; exact congrArg (fun z => V.o (nat1 z)) (by rw [Int.natCast_mul])))), ks rfl (.dt (by rw [hP])), trivial⟩) rfl ?_ nobox
    rfl
  · try simp only [List.length_map, decide_eq_true_eq, decide_eq_false_iff_not, Bool.not_eq_true', Bool.not_eq_false', Bool.not_eq_true, Bool.not_eq_false] at g21
    refine .cons (.gT rfl rfl rfl (.fP 1 0 false rfl rfl)) ?_
    refine .cons (.gT rfl rfl rfl (.l1 1 rfl rfl)) ?_
    refine .cons (.gT rfl rfl rfl (.ln 64 9 152 rfl rfl rfl)) ?_
    refine .cons (.gT rfl rfl rfl (.ls rfl rfl rfl)) ?_
    refine .cons (.pF rfl rfl rfl) ?_
    refine .cons (.mv rfl rfl) ?_
    refine AOps.cases 27 _ rfl (fun g27 => ?_) (fun g27 => ?_)
    · try simp only [List.length_map, decide_eq_true_eq, decide_eq_false_iff_not, Bool.not_eq_true', Bool.not_eq_false', Bool.not_eq_true, Bool.not_eq_false] at g27
      refine .cons (.gF rfl rfl rfl) ?_
      refine .cons (.gF rfl rfl rfl) ?_
      refine .cons (.gF rfl rfl rfl) ?_
      refine .cons (.gF rfl rfl rfl) ?_
      refine .cons (.pT rfl rfl rfl) ?_
      refine .nil ?_
      refine ks_n ?_
      refine ACode.condT rfl (fun _ => ?_) (fun h => by first | (cases h; done) | (simp [*] at h; done) | (exfalso; simp_all; done))
      refine ACode.seq ?_
      have hP : prtV ar q = false := by first | exact prtV_f1 (by assumption) | exact prtV_f2 (by omega)
      have hC := cntP_no hP
      refine ACode.region ?_
      refine .cons (.asg rfl rfl) ?_
      refine .cons (.asg rfl rfl) ?_
      refine .nil ?_
      refine ks_n ?_
      refine ACode.ret ?_
      refine ks_r ?_
      refine kf_wret [(.t 4, .v (.o (nat1 (cntP ar q)))), (.t 5, .v (.o (bo1 (prtV ar q))))] (Wk.keep [] rfl rfl ⟨ks rfl (.dt (by first | (rw [hC]; done) | (rw [hC]; rfl) | (rw [hC]; exact congrArg (fun z => V.o (nat1 z)) (by rw [Int.natCast_mul])))), ks rfl (.dt (by rw [hP])), trivial⟩) rfl ?_ nobox
      rfl
    · try simp only [List.length_map, decide_eq_true_eq, decide_eq_false_iff_not, Bool.not_eq_true', Bool.not_eq_false', Bool.not_eq_true, Bool.not_eq_false] at g27
      refine .cons (.gT rfl rfl rfl (.fP 1 0 false rfl rfl)) ?_
      refine .cons (.gT rfl rfl rfl (.l1 1 rfl rfl)) ?_
      refine .cons (.gT rfl rfl rfl (.ln 64 9 152 rfl rfl rfl)) ?_
      refine .cons (.gT rfl rfl rfl (.gt rfl rfl rfl)) ?_
      refine .cons (.pF rfl rfl rfl) ?_
      refine .nil ?_
      refine ks_n ?_
      refine ACode.condT rfl (fun h32 => ?_) (fun h32 => ?_)
      · try simp only [List.length_map, decide_eq_true_eq, decide_eq_false_iff_not, Bool.not_eq_true', Bool.not_eq_false', Bool.not_eq_true, Bool.not_eq_false] at h32
        refine ACode.seq ?_
        have hP : prtV ar q = false := by first | exact prtV_f1 (by assumption) | exact prtV_f2 (by omega)
        have hC := cntP_no hP
        refine ACode.region ?_
        refine .cons (.asg rfl rfl) ?_
        refine .cons (.asg rfl rfl) ?_
        refine .nil ?_
        refine ks_n ?_
        refine ACode.ret ?_
        refine ks_r ?_
        refine kf_wret [(.t 4, .v (.o (nat1 (cntP ar q)))), (.t 5, .v (.o (bo1 (prtV ar q))))] (Wk.keep [] rfl rfl ⟨ks rfl (.dt (by first | (rw [hC]; done) | (rw [hC]; rfl) | (rw [hC]; exact congrArg (fun z => V.o (nat1 z)) (by rw [Int.natCast_mul])))), ks rfl (.dt (by rw [hP])), trivial⟩) rfl ?_ nobox
        rfl
      · try simp only [List.length_map, decide_eq_true_eq, decide_eq_false_iff_not, Bool.not_eq_true', Bool.not_eq_false', Bool.not_eq_true, Bool.not_eq_false] at h32
        have hv1 : okP q.1 = true := by first | assumption | simp_all
        have hv2 : 1 ≤ q.2.length ∧ q.2.length ≤ 4 := by omega
        have hmb := Nat.mul_le_mul hnl hv2.2
        refine ACode.skip ?_
        refine ks_n ?_
        refine ACode.seq ?_
        refine ACode.seq ?_
        refine ACode.region ?_
        refine .cons (.asg rfl rfl) ?_
        refine .nil ?_
        refine ks_n ?_
        refine ACode.block ?_
        refine .loopK (fun m σ => (∃ i : Nat, m = q.2.length - i ∧ (i ≤ q.2.length) ∧ (∀ j s, j < i → q.2[j]? = some s → stmtV (q.1.length : Nat) s = true ∧ ∀ p ∈ npR q.1, stmG ar s p = true ∧ isPt p = true) ∧ σ = [(.t 0, .v (.o (vD (dRs ar)))), (.t 3, .v (.o (.c (.ptr (rP q))))), (.t 6, .v (.o (vD (dPs (npR q.1))))), (.t 8, .v (.o (nat1 (i : Nat))))])) [] ⟨0, rfl, by omega, fun j s hj _ => absurd hj (by omega), rfl⟩ ⟨ks rfl .dt, ks rfl .dt, ks rfl .dt, ks rfl .dt, trivial⟩ ?_
        rintro m σ ⟨i, hm0, hi, hF, rfl⟩
        refine ACode.seq ?_
        refine ACode.seq ?_
        refine ACode.region ?_
        refine .cons (.mv rfl rfl) ?_
        refine .cons (.fP 1 0 false rfl rfl) ?_
        refine .cons (.l1 1 rfl rfl) ?_
        refine .cons (.ln 64 9 152 rfl rfl rfl) ?_
        refine .cons (.ls rfl rfl rfl) ?_
        refine .nil ?_
        refine ks_n ?_
        refine .cD rfl (fun h37 => ?_) (fun h37 => ?_)
        · skip
          obtain ⟨s, hs1⟩ : ∃ x_, q.2[i]? = some x_ := ⟨_, List.getElem?_eq_getElem (by omega)⟩
          have hsm := List.mem_of_getElem? hs1
          have hss := szO_mem (f := szS) hsm
          refine ACode.skip ?_
          refine ks_n ?_
          refine ACode.seq ?_
          refine ACode.block ?_
          refine ACode.seq ?_
          refine ACode.seq ?_
          refine ACode.drawK (by kernel_rfl) (by kernel_rfl) ?_
          refine .cons (.fP 1 0 false rfl rfl) ?_
          refine .cons (.l1 1 rfl rfl) ?_
          refine .cons (.mv rfl rfl) ?_
          refine .cons (.xL 64 9 152 rfl rfl rfl rfl rfl) ?_
          refine .cons (.lN 9 rfl rfl rfl) ?_
          refine .cons (.fP 0 0 false rfl rfl) ?_
          refine .cons (.l1 1 rfl rfl) ?_
          refine .cons (.ln 192 2 48 rfl rfl rfl) ?_
          refine .cons (.cP [.tmp 44, .tmp 47] rfl rfl rfl rfl (specStmtV_fn (q.1.length : Nat) s (by omega)) rfl) ?_
          refine .cons (.nt rfl rfl) ?_
          refine .nil ⟨by kernel_rfl, ?_⟩
          refine ks_n ?_
          refine ACode.condT rfl (fun h49 => ?_) (fun h49 => ?_)
          · try simp only [List.length_map, decide_eq_true_eq, decide_eq_false_iff_not, Bool.not_eq_true', Bool.not_eq_false', Bool.not_eq_true, Bool.not_eq_false] at h49
            refine ACode.seq ?_
            have hP := prtV_f3 (ar := ar) hsm (by assumption)
            have hC := cntP_no hP
            refine ACode.region ?_
            refine .cons (.asg rfl rfl) ?_
            refine .cons (.asg rfl rfl) ?_
            refine .nil ?_
            refine ks_n ?_
            refine ACode.ret ?_
            refine ks_r ?_
            refine kb_r ?_
            refine ks_r ?_
            refine kl_r ?_
            refine kb_r ?_
            refine ks_r ?_
            refine kf_wret [(.t 4, .v (.o (nat1 (cntP ar q)))), (.t 5, .v (.o (bo1 (prtV ar q))))] (Wk.keep [] rfl rfl ⟨ks rfl (.dt (by first | (rw [hC]; done) | (rw [hC]; rfl) | (rw [hC]; exact congrArg (fun z => V.o (nat1 z)) (by rw [Int.natCast_mul])))), ks rfl (.dt (by rw [hP])), trivial⟩) rfl ?_ nobox
            rfl
          · try simp only [List.length_map, decide_eq_true_eq, decide_eq_false_iff_not, Bool.not_eq_true', Bool.not_eq_false', Bool.not_eq_true, Bool.not_eq_false] at h49
            have hsv : stmtV (q.1.length : Nat) s = true := by assumption
            refine ACode.skip ?_
            refine ks_n ?_
            refine ACode.seq ?_
            refine ACode.region ?_
            refine .cons (.asg rfl rfl) ?_
            refine .nil ?_
            refine ks_n ?_
            refine ACode.block ?_
            refine .loopK (fun m σ => (∃ k : Nat, m = (npR q.1).length - k ∧ (k ≤ (npR q.1).length) ∧ (∀ j p, j < k → (npR q.1)[j]? = some p → stmG ar s p = true ∧ isPt p = true) ∧ σ = [(.t 0, .v (.o (vD (dRs ar)))), (.t 3, .v (.o (.c (.ptr (rP q))))), (.t 6, .v (.o (vD (dPs (npR q.1))))), (.t 8, .v (.o (nat1 (i : Nat)))), (.t 9, .v (.o (nat1 (k : Nat))))])) [] ⟨0, rfl, by omega, fun j p hj _ => absurd hj (by omega), rfl⟩ ⟨ks rfl .dt, ks rfl .dt, ks rfl .dt, ks rfl .dt, ks rfl .dt, trivial⟩ ?_
            rintro m σ ⟨k, hm0, hk, hG, rfl⟩
            refine ACode.seq ?_
            refine ACode.seq ?_
            refine ACode.region ?_
            refine .cons (.mv rfl rfl) ?_
            refine .cons (.mv rfl rfl) ?_
            refine .cons (.ln 38 1 24 rfl rfl rfl) ?_
            refine .cons (.ls rfl rfl rfl) ?_
            refine .nil ?_
            refine ks_n ?_
            refine .cD rfl (fun h53 => ?_) (fun h53 => ?_)
            · skip
              obtain ⟨p, hp1⟩ : ∃ x_, (npR q.1)[k]? = some x_ := ⟨_, List.getElem?_eq_getElem (by omega)⟩
              have hpm := List.mem_of_getElem? hp1
              have hpt := npR_pt hpm
              refine ACode.skip ?_
              refine ks_n ?_
              refine ACode.seq ?_
              refine ACode.block ?_
              refine ACode.seq ?_
              refine ACode.drawK (by kernel_rfl) (by kernel_rfl) ?_
              refine .cons (.mv rfl rfl) ?_
              refine .cons (.fP 1 0 false rfl rfl) ?_
              refine .cons (.l1 1 rfl rfl) ?_
              refine .cons (.mv rfl rfl) ?_
              refine .cons (.xL 64 9 152 rfl rfl rfl rfl rfl) ?_
              refine .cons (.lN 9 rfl rfl rfl) ?_
              refine .cons (.mv rfl rfl) ?_
              refine .cons (.mv rfl rfl) ?_
              refine .cons (.xL 38 1 24 rfl rfl rfl rfl rfl) ?_
              refine .cons (.l1 1 rfl rfl) ?_
              refine .cons (.cP [.tmp 57, .tmp 62, .tmp 66] rfl rfl rfl rfl (l4Cells_fn hv hsv (by omega) hpt.1 hpt.2) rfl) ?_
              refine .cons (.mv rfl rfl) ?_
              refine .cons (.ex rfl rfl rfl) ?_
              refine .cons (.ex rfl rfl rfl) ?_
              refine .cons (.ex rfl rfl rfl) ?_
              refine .cons (.asg rfl rfl) ?_
              refine .cons (.asg rfl rfl) ?_
              refine .cons (.asg rfl rfl) ?_
              refine .nil ⟨by kernel_rfl, ?_⟩
              refine ks_n ?_
              refine ACode.seq ?_
              refine ACode.region ?_
              refine .cons (.mv rfl rfl) ?_
              refine .cons (.nt rfl rfl) ?_
              refine .cons (.mv rfl rfl) ?_
              refine AOps.cases 73 _ rfl (fun g73 => ?_) (fun g73 => ?_)
              · try simp only [List.length_map, decide_eq_true_eq, decide_eq_false_iff_not, Bool.not_eq_true', Bool.not_eq_false', Bool.not_eq_true, Bool.not_eq_false] at g73
                refine .cons (.gF rfl rfl rfl) ?_
                refine .cons (.gF rfl rfl rfl) ?_
                refine .cons (.gF rfl rfl rfl) ?_
                refine .cons (.gF rfl rfl rfl) ?_
                refine .cons (.gF rfl rfl rfl) ?_
                refine .cons (.gF rfl rfl rfl) ?_
                refine .cons (.pT rfl rfl rfl) ?_
                refine .nil ?_
                refine ks_n ?_
                refine ACode.condT rfl (fun _ => ?_) (fun h => by first | (cases h; done) | (simp [*] at h; done) | (exfalso; simp_all; done))
                refine ACode.seq ?_
                have hP : prtV ar q = false := by first | exact prtV_f5 hpm hsm (by assumption) | exact prtV_f4 hpm (by assumption)
                have hC := cntP_no hP
                refine ACode.region ?_
                refine .cons (.asg rfl rfl) ?_
                refine .cons (.asg rfl rfl) ?_
                refine .nil ?_
                refine ks_n ?_
                refine ACode.ret ?_
                refine kb_r ?_
                refine ks_r ?_
                refine kl_r ?_
                refine kb_r ?_
                refine kb_r ?_
                refine ks_r ?_
                refine kl_r ?_
                refine kb_r ?_
                refine ks_r ?_
                refine kf_wret [(.t 4, .v (.o (nat1 (cntP ar q)))), (.t 5, .v (.o (bo1 (prtV ar q))))] (Wk.keep [] rfl rfl ⟨ks rfl (.dt (by first | (rw [hC]; done) | (rw [hC]; rfl) | (rw [hC]; exact congrArg (fun z => V.o (nat1 z)) (by rw [Int.natCast_mul])))), ks rfl (.dt (by rw [hP])), trivial⟩) rfl ?_ nobox
                rfl
              · try simp only [List.length_map, decide_eq_true_eq, decide_eq_false_iff_not, Bool.not_eq_true', Bool.not_eq_false', Bool.not_eq_true, Bool.not_eq_false] at g73
                refine .cons (.gT rfl rfl rfl (.mv rfl rfl)) ?_
                refine .cons (.gT rfl rfl rfl (.mv rfl rfl)) ?_
                refine .cons (.gT rfl rfl rfl (.xL 38 1 24 rfl rfl rfl rfl rfl)) ?_
                refine .cons (.gT rfl rfl rfl (.l1 1 rfl rfl)) ?_
                refine .cons (.gT rfl rfl rfl (.cP [.tmp 77] rfl rfl rfl rfl (l1Point_fn _) rfl)) ?_
                refine .cons (.gT rfl rfl rfl (.nt rfl rfl)) ?_
                refine .cons (.pF rfl rfl rfl) ?_
                refine .nil ?_
                refine ks_n ?_
                refine ACode.condT rfl (fun h80 => ?_) (fun h80 => ?_)
                · try simp only [List.length_map, decide_eq_true_eq, decide_eq_false_iff_not, Bool.not_eq_true', Bool.not_eq_false', Bool.not_eq_true, Bool.not_eq_false] at h80
                  refine ACode.seq ?_
                  have hP : prtV ar q = false := by first | exact prtV_f5 hpm hsm (by assumption) | exact prtV_f4 hpm (by assumption)
                  have hC := cntP_no hP
                  refine ACode.region ?_
                  refine .cons (.asg rfl rfl) ?_
                  refine .cons (.asg rfl rfl) ?_
                  refine .nil ?_
                  refine ks_n ?_
                  refine ACode.ret ?_
                  refine kb_r ?_
                  refine ks_r ?_
                  refine kl_r ?_
                  refine kb_r ?_
                  refine kb_r ?_
                  refine ks_r ?_
                  refine kl_r ?_
                  refine kb_r ?_
                  refine ks_r ?_
                  refine kf_wret [(.t 4, .v (.o (nat1 (cntP ar q)))), (.t 5, .v (.o (bo1 (prtV ar q))))] (Wk.keep [] rfl rfl ⟨ks rfl (.dt (by first | (rw [hC]; done) | (rw [hC]; rfl) | (rw [hC]; exact congrArg (fun z => V.o (nat1 z)) (by rw [Int.natCast_mul])))), ks rfl (.dt (by rw [hP])), trivial⟩) rfl ?_ nobox
                  rfl
                · try simp only [List.length_map, decide_eq_true_eq, decide_eq_false_iff_not, Bool.not_eq_true', Bool.not_eq_false', Bool.not_eq_true, Bool.not_eq_false] at h80
                  have hSG : stmG ar s p = true := by first | assumption | simp_all
                  have hPT : isPt p = true := by first | assumption | simp_all
                  refine ACode.skip ?_
                  refine kb_n ?_
                  refine ks_n ?_
                  refine ACode.region ?_
                  refine .cons (.mv rfl rfl) ?_
                  refine .cons (.pl rfl rfl rfl) ?_
                  refine .cons (.asg rfl rfl) ?_
                  refine .nil ?_
                  refine kl_k [] ⟨k + 1, rfl, by omega, fun j p' hj h' => (Nat.lt_succ_iff_lt_or_eq.1 hj).elim (fun h => hG j p' h h') (fun h => by subst h; rw [hp1] at h'; cases h'; exact ⟨hSG, hPT⟩), rfl⟩ ⟨ks rfl .dt, ks rfl .dt, ks rfl .dt, ks rfl .dt, ks rfl .dt, trivial⟩
            · skip
              have hAll : ∀ p ∈ npR q.1, stmG ar s p = true ∧ isPt p = true := fun p hp => by obtain ⟨j, hj⟩ := List.mem_iff_getElem?.1 hp; exact hG j p (by have := (List.getElem?_eq_some_iff.1 hj).1; omega) hj
              refine ACode.exit ?_
              refine ks_e ?_
              refine kl_e ?_
              refine kb_hit ?_
              refine kb_n ?_
              refine ks_n ?_
              refine ACode.region ?_
              refine .cons (.mv rfl rfl) ?_
              refine .cons (.pl rfl rfl rfl) ?_
              refine .cons (.asg rfl rfl) ?_
              refine .nil ?_
              refine kl_k [] ⟨i + 1, rfl, by omega, fun j s' hj h' => (Nat.lt_succ_iff_lt_or_eq.1 hj).elim (fun h => hF j s' h h') (fun h => by subst h; rw [hs1] at h'; cases h'; exact ⟨hsv, hAll⟩), rfl⟩ ⟨ks rfl .dt, ks rfl .dt, ks rfl .dt, ks rfl .dt, trivial⟩
        · skip
          have hP : prtV ar q = true := prtV_iff.2 ⟨hv1, hv2, fun s hs => by obtain ⟨j, hj⟩ := List.mem_iff_getElem?.1 hs; exact (hF j s (by have := (List.getElem?_eq_some_iff.1 hj).1; omega) hj).1, fun p hp => ⟨by obtain ⟨s, hs⟩ : ∃ s, q.2[0]? = some s := ⟨_, List.getElem?_eq_getElem (by omega)⟩; exact ((hF 0 s (by omega) hs).2 p hp).2, fun s hs => by obtain ⟨j, hj⟩ := List.mem_iff_getElem?.1 hs; exact ((hF j s (by have := (List.getElem?_eq_some_iff.1 hj).1; omega) hj).2 p hp).1⟩⟩
          have hC := cntP_yes hP
          refine ACode.exit ?_
          refine ks_e ?_
          refine kl_e ?_
          refine kb_hit ?_
          refine ks_n ?_
          refine ACode.seq ?_
          refine ACode.region ?_
          refine .cons (.mv rfl rfl) ?_
          refine .cons (.ln 38 1 24 rfl rfl rfl) ?_
          refine .cons (.fP 1 0 false rfl rfl) ?_
          refine .cons (.l1 1 rfl rfl) ?_
          refine .cons (.ln 64 9 152 rfl rfl rfl) ?_
          refine .cons (.ml rfl rfl rfl (by omega)) ?_
          refine .cons (.asg rfl rfl) ?_
          refine .cons (.asg rfl rfl) ?_
          refine .nil ?_
          refine ks_n ?_
          refine ACode.ret ?_
          refine kf_wret [(.t 4, .v (.o (nat1 (cntP ar q)))), (.t 5, .v (.o (bo1 (prtV ar q))))] (Wk.keep [] rfl rfl ⟨ks rfl (.dt (by first | (rw [hC]; done) | (rw [hC]; rfl) | (rw [hC]; exact congrArg (fun z => V.o (nat1 z)) (by rw [Int.natCast_mul])))), ks rfl (.dt (by rw [hP])), trivial⟩) rfl ?_ nobox
          rfl

set_option maxRecDepth 100000 in
set_option maxHeartbeats 1600000 in
theorem specPV_fn {g : Prg} (hs : szG g ≤ 1073741824) : Fn Tryz.prog 22 [] [ad (rG g)] (.o (bo1 (prgV g))) [] := by
  have h1 := szO_len (f := szR) g.1
  have h2 := szO_len (f := szPt) g.2
  have hsz : szG g = szO szR g.1 + szO szPt g.2 := rfl
  refine Fn.code0 Tryz.func22 rfl rfl rfl rfl ?_
  refine ACode.seq ?_
  refine ACode.region ?_
  refine .cons (St1.boxP rfl rfl rfl rfl rfl rfl) ?_
  refine .cons (.asg rfl rfl) ?_
  refine .nil ?_
  refine ks_n ?_
  refine ACode.seq ?_
  refine ACode.seq ?_
  refine ACode.region ?_
  refine .cons (.fP 0 0 false rfl rfl) ?_
  refine .cons (.l1 1 rfl rfl) ?_
  refine .cons (.cP [.tmp 8] rfl rfl rfl rfl (l4Arrays_fn g.1 (by omega) (fun x hx => by have := szO_mem (f := szR) hx; have e : szR x = x.1.size + x.2.length := rfl; omega)) rfl) ?_
  refine .cons (.nt rfl rfl) ?_
  refine .cons (.mv rfl rfl) ?_
  refine AOps.cases 11 _ rfl (fun g11 => ?_) (fun g11 => ?_)
  · try simp only [List.length_map, decide_eq_true_eq, decide_eq_false_iff_not, Bool.not_eq_true', Bool.not_eq_false', Bool.not_eq_true, Bool.not_eq_false] at g11
    refine .cons (.gF rfl rfl rfl) ?_
    refine .cons (.gF rfl rfl rfl) ?_
    refine .cons (.gF rfl rfl rfl) ?_
    refine .cons (.gF rfl rfl rfl) ?_
    refine .cons (.pT rfl rfl rfl) ?_
    refine .nil ?_
    refine ks_n ?_
    refine ACode.condT rfl (fun _ => ?_) (fun h => by first | (cases h; done) | (simp [*] at h; done) | (exfalso; simp_all; done))
    refine ACode.seq ?_
    obtain ⟨hO, hN⟩ := prgV_f (g := g) (by first | exact prgS_f2 (show ¬ g.2.length ≤ 4 by omega) | exact prgS_f1 (by assumption))
    refine ACode.region ?_
    refine .cons (.asg rfl rfl) ?_
    refine .nil ?_
    refine ks_n ?_
    refine ACode.ret ?_
    refine ks_r ?_
    refine kf_ret rfl ?_ nobox
    exact leafB (by rw [hO]; try (rw [decide_eq_decide]; omega))
  · try simp only [List.length_map, decide_eq_true_eq, decide_eq_false_iff_not, Bool.not_eq_true', Bool.not_eq_false', Bool.not_eq_true, Bool.not_eq_false] at g11
    refine .cons (.gT rfl rfl rfl (.fP 1 0 false rfl rfl)) ?_
    refine .cons (.gT rfl rfl rfl (.l1 1 rfl rfl)) ?_
    refine .cons (.gT rfl rfl rfl (.ln 101 2 48 rfl rfl rfl)) ?_
    refine .cons (.gT rfl rfl rfl (.gt rfl rfl rfl)) ?_
    refine .cons (.pF rfl rfl rfl) ?_
    refine .nil ?_
    refine ks_n ?_
    refine ACode.condT rfl (fun h16 => ?_) (fun h16 => ?_)
    · try simp only [List.length_map, decide_eq_true_eq, decide_eq_false_iff_not, Bool.not_eq_true', Bool.not_eq_false', Bool.not_eq_true, Bool.not_eq_false] at h16
      refine ACode.seq ?_
      obtain ⟨hO, hN⟩ := prgV_f (g := g) (by first | exact prgS_f2 (show ¬ g.2.length ≤ 4 by omega) | exact prgS_f1 (by assumption))
      refine ACode.region ?_
      refine .cons (.asg rfl rfl) ?_
      refine .nil ?_
      refine ks_n ?_
      refine ACode.ret ?_
      refine ks_r ?_
      refine kf_ret rfl ?_ nobox
      exact leafB (by rw [hO]; try (rw [decide_eq_decide]; omega))
    · try simp only [List.length_map, decide_eq_true_eq, decide_eq_false_iff_not, Bool.not_eq_true', Bool.not_eq_false', Bool.not_eq_true, Bool.not_eq_false] at h16
      have hA : arrsV g.1 = true := by first | assumption | simp_all
      have h4 : g.2.length ≤ 4 := by omega
      refine ACode.skip ?_
      refine ks_n ?_
      refine ACode.seq ?_
      refine ACode.region ?_
      refine .cons (.asg rfl rfl) ?_
      refine .nil ?_
      refine ks_n ?_
      refine ACode.seq ?_
      refine ACode.seq ?_
      refine ACode.region ?_
      refine .cons (.asg rfl rfl) ?_
      refine .nil ?_
      refine ks_n ?_
      refine ACode.block ?_
      refine .loopK (fun m σ => (∃ (k : Nat) (t : Int), m = g.2.length - k ∧ (k ≤ g.2.length) ∧ (∀ j q, j < k → g.2[j]? = some q → prtV g.1 q = true) ∧ (t = ((insG 0 (g.2.take k)).length : Nat)) ∧ (0 ≤ t ∧ t ≤ 480 * k) ∧ σ = [(.t 1, .v (.o (.c (.ptr (rG g))))), (.t 2, .v (.o (bo1 false))), (.t 3, .v (.o (nat1 t))), (.t 4, .v (.o (nat1 (k : Nat))))])) [] ⟨0, 0, rfl, by omega, fun j q hj _ => absurd hj (by omega), rfl, by omega, rfl⟩ ⟨ks rfl .dt, ks rfl .dt, ks rfl .dt, ks rfl .dt, trivial⟩ ?_
      rintro m σ ⟨k, t, hm0, hk, hF, hT, hb, rfl⟩
      refine ACode.seq ?_
      refine ACode.seq ?_
      refine ACode.region ?_
      refine .cons (.mv rfl rfl) ?_
      refine .cons (.fP 1 0 false rfl rfl) ?_
      refine .cons (.l1 1 rfl rfl) ?_
      refine .cons (.ln 101 2 48 rfl rfl rfl) ?_
      refine .cons (.ls rfl rfl rfl) ?_
      refine .nil ?_
      refine ks_n ?_
      refine .cD rfl (fun h21 => ?_) (fun h21 => ?_)
      · skip
        obtain ⟨q, hq1⟩ : ∃ x_, g.2[k]? = some x_ := ⟨_, List.getElem?_eq_getElem (by omega)⟩
        have hqm := List.mem_of_getElem? hq1
        have hqs := szO_mem (f := szPt) hqm
        refine ACode.skip ?_
        refine ks_n ?_
        refine ACode.seq ?_
        refine ACode.block ?_
        refine ACode.seq ?_
        refine ACode.drawK (by kernel_rfl) (by kernel_rfl) ?_
        refine .cons (.fP 0 0 false rfl rfl) ?_
        refine .cons (.l1 1 rfl rfl) ?_
        refine .cons (.fP 1 0 false rfl rfl) ?_
        refine .cons (.l1 1 rfl rfl) ?_
        refine .cons (.mv rfl rfl) ?_
        refine .cons (.xL 101 2 48 rfl rfl rfl rfl rfl) ?_
        refine .cons (.lN 2 rfl rfl rfl) ?_
        refine .cons (.cP [.tmp 26, .tmp 31] rfl rfl rfl rfl (l4Part_fn hA (by omega)) rfl) ?_
        refine .cons (.mv rfl rfl) ?_
        refine .cons (.ex rfl rfl rfl) ?_
        refine .cons (.ex rfl rfl rfl) ?_
        refine .cons (.asg rfl rfl) ?_
        refine .cons (.asg rfl rfl) ?_
        refine .nil ⟨by kernel_rfl, ?_⟩
        refine ks_n ?_
        refine ACode.seq ?_
        refine ACode.seq ?_
        refine ACode.region ?_
        refine .cons (.mv rfl rfl) ?_
        refine .cons (.nt rfl rfl) ?_
        refine .nil ?_
        refine ks_n ?_
        refine ACode.condT rfl (fun h36 => ?_) (fun h36 => ?_)
        · try simp only [List.length_map, decide_eq_true_eq, decide_eq_false_iff_not, Bool.not_eq_true', Bool.not_eq_false', Bool.not_eq_true, Bool.not_eq_false] at h36
          refine ACode.seq ?_
          obtain ⟨hO, hN⟩ := prgV_f (prgS_f3 hqm (by assumption))
          refine ACode.region ?_
          refine .cons (.asg rfl rfl) ?_
          refine .nil ?_
          refine ks_n ?_
          refine ACode.ret ?_
          refine ks_r ?_
          refine kb_r ?_
          refine ks_r ?_
          refine kl_r ?_
          refine kb_r ?_
          refine ks_r ?_
          refine kf_ret rfl ?_ nobox
          exact leafB (by rw [hO]; try (rw [decide_eq_decide]; omega))
        · try simp only [List.length_map, decide_eq_true_eq, decide_eq_false_iff_not, Bool.not_eq_true', Bool.not_eq_false', Bool.not_eq_true, Bool.not_eq_false] at h36
          have hPV : prtV g.1 q = true := by assumption
          have hcl := cntP_len hPV k
          refine ACode.skip ?_
          refine ks_n ?_
          refine ACode.region ?_
          refine .cons (.mv rfl rfl) ?_
          refine .cons (.mv rfl rfl) ?_
          refine .cons (.pl rfl rfl rfl) ?_
          refine .cons (.asg rfl rfl) ?_
          refine .nil ?_
          refine kb_n ?_
          refine ks_n ?_
          refine ACode.region ?_
          refine .cons (.mv rfl rfl) ?_
          refine .cons (.pl rfl rfl rfl) ?_
          refine .cons (.asg rfl rfl) ?_
          refine .nil ?_
          refine kl_k [] ⟨k + 1, t + cntP g.1 q, rfl, by omega, fun j q' hj h' => (Nat.lt_succ_iff_lt_or_eq.1 hj).elim (fun h => hF j q' h h') (fun h => by subst h; rw [hq1] at h'; cases h'; exact hPV), by rw [insG_take hq1, List.length_append, hT, hcl.1]; omega, by omega, rfl⟩ ⟨ks rfl .dt, ks rfl .dt, ks rfl .dt, ks rfl .dt, trivial⟩
      · skip
        obtain rfl : k = g.2.length := by omega
        rw [List.take_length] at hT
        obtain ⟨hO, hN⟩ := prgV_t (prgS_eq hA h4 hF)
        refine ACode.exit ?_
        refine ks_e ?_
        refine kl_e ?_
        refine kb_hit ?_
        refine ks_n ?_
        refine ACode.seq ?_
        refine ACode.region ?_
        refine .cons (.mv rfl rfl) ?_
        refine .cons (.le rfl rfl rfl) ?_
        refine .cons (.asg rfl rfl) ?_
        refine .nil ?_
        refine ks_n ?_
        refine ACode.ret ?_
        refine kf_ret rfl ?_ nobox
        exact leafB (by rw [hO]; try (rw [decide_eq_decide]; omega))

set_option maxRecDepth 100000 in
set_option maxHeartbeats 1600000 in
theorem l4Instances_fn {g : Prg} (hg : prgS g = true) : Fn Tryz.prog 51 [] [ad (rG g)] (.o (vD (dNs (insG 0 g.2)))) [] := by
  obtain ⟨hA, h4, hP⟩ := prgS_iff.1 hg
  refine Fn.code0 Tryz.func51 rfl rfl rfl rfl ?_
  refine ACode.seq ?_
  refine ACode.region ?_
  refine .cons (St1.boxP rfl rfl rfl rfl rfl rfl) ?_
  refine .cons (.asg rfl rfl) ?_
  refine .nil ?_
  refine ks_n ?_
  refine ACode.seq ?_
  refine ACode.region ?_
  refine .cons (St1.lit0 (k' := 108) (e := 67) (sz := 3) (b := true) rfl rfl rfl rfl (by kernel_rfl) rfl rfl) ?_
  refine .cons (.asg rfl rfl) ?_
  refine .nil ?_
  refine ks_n ?_
  refine ACode.seq ?_
  refine ACode.seq ?_
  refine ACode.region ?_
  refine .cons (.asg rfl rfl) ?_
  refine .nil ?_
  refine ks_n ?_
  refine ACode.block ?_
  refine .loopK (fun m σ => (∃ (k : Nat) (o : List Ins), m = g.2.length - k ∧ (k ≤ g.2.length) ∧ (insG 0 (g.2.take k) = o) ∧ (o.length ≤ 480 * k) ∧ σ = [(.t 1, .v (.o (.c (.ptr (rG g))))), (.t 3, .v (.o (.c (.own 110 3 (o.length))))), (.t 4, .v (.o (nat1 (k : Nat)))), (.b 110, .b 67 3 (dR (o.map rN))), (.u 110, .u)])) [(110, 108)] ⟨0, [], rfl, by omega, rfl, by simp, rfl⟩ ⟨ks rfl .dt, ks rfl (.c .ow), ks rfl .dt, kb 108 rfl (.dt rfl (by first | rfl | (simp [dR, rN, dI]; done) | (simp [dR, rN, dI]; rfl))), trivial⟩ ?_
  rintro m σ ⟨k, o, hm0, hk, hE, ho, rfl⟩
  refine ACode.seq ?_
  refine ACode.seq ?_
  refine ACode.region ?_
  refine .cons (.mv rfl rfl) ?_
  refine .cons (.fP 1 0 false rfl rfl) ?_
  refine .cons (.l1 1 rfl rfl) ?_
  refine .cons (.ln 101 2 48 rfl rfl rfl) ?_
  refine .cons (.ls rfl rfl rfl) ?_
  refine .nil ?_
  refine ks_n ?_
  refine .cD rfl (fun h13 => ?_) (fun h13 => ?_)
  · skip
    obtain ⟨q, hq1⟩ : ∃ x_, g.2[k]? = some x_ := ⟨_, List.getElem?_eq_getElem (by omega)⟩
    have hqm := List.mem_of_getElem? hq1
    have hqv := prtV_iff.1 (hP q hqm)
    have hnp := np_pts hqv.1
    have hnl := npR_len q.1
    have hq4 := hqv.2.1
    refine ACode.skip ?_
    refine ks_n ?_
    refine ACode.seq ?_
    refine ACode.block ?_
    refine ACode.seq ?_
    refine ACode.region ?_
    refine .cons (St1.lit0 (k' := 116) (e := 38) (sz := 1) (b := true) rfl rfl rfl rfl (by kernel_rfl) rfl rfl) ?_
    refine .cons (.fP 1 0 false rfl rfl) ?_
    refine .cons (.l1 1 rfl rfl) ?_
    refine .cons (.mv rfl rfl) ?_
    refine .cons (.xL 101 2 48 rfl rfl rfl rfl rfl) ?_
    refine .cons (.fP 0 0 false rfl rfl) ?_
    refine .cons (.l1 1 rfl rfl) ?_
    refine .cons (.cO [.tmp 16, .tmp 22, .const (.slice none 0 0)] [(0, 116), (1000, 123)] rfl rfl rfl rfl (Fn.nilArg (pre := [.c (.own 0 1 0), vD (dLs q.1)]) (post := []) (sz := 1) (l2Points_fn hnp.1 q.1 [] [] rfl (by simp) PB.nil (by simp))) rfl (hbIn_one rfl) (hbPt_flat _ _) (hbPt_flat _ _) (hbPt_HB _ _) outS_one) ?_
    refine .cons (.asg rfl rfl) ?_
    refine .nil ?_
    refine ks_n ?_
    refine ACode.seq ?_
    refine ACode.region ?_
    refine .cons (.asg rfl rfl) ?_
    refine .nil ?_
    refine ks_n ?_
    refine ACode.block ?_
    refine .loopK (fun m σ => (∃ (i : Nat) (o2 : List Ins), m = (npR q.1).length - i ∧ (i ≤ (npR q.1).length) ∧ (o ++ insT k q.2.length ((npR q.1).take i) = o2) ∧ (o2.length ≤ 480 * k + 4 * i) ∧ σ = [(.t 1, .v (.o (.c (.ptr (rG g))))), (.t 3, .v (.o (.c (.own 120 3 (o2.length))))), (.t 4, .v (.o (nat1 (k : Nat)))), (.t 5, .v (.o (vD (dPs (npR q.1))))), (.t 6, .v (.o (nat1 (i : Nat)))), (.b 120, .b 67 3 (dR (o2.map rN))), (.u 120, .u)])) [(120, 110)] ⟨0, o, rfl, by omega, by simp [insT], by omega, rfl⟩ ⟨ks rfl .dt, ks rfl (.c .ow), ks rfl .dt, ks rfl (.c (.fz rfl (by first | (rw [hnp.2]; done) | (rw [hnp.2]; rfl)) (by rw [hnp.2, List.length_map]) (by rw [← hnp.2]; omega))), ks rfl .dt, kb 110 rfl (.dt rfl (by first | rfl | (simp [dR, rN, dI]; done) | (simp [dR, rN, dI]; rfl))), trivial⟩ ?_
    rintro m σ ⟨i, o2, hm0, hi, hEo, ho2, rfl⟩
    refine ACode.seq ?_
    refine ACode.seq ?_
    refine ACode.region ?_
    refine .cons (.mv rfl rfl) ?_
    refine .cons (.mv rfl rfl) ?_
    refine .cons (.ln 38 1 24 rfl rfl rfl) ?_
    refine .cons (.ls rfl rfl rfl) ?_
    refine .nil ?_
    refine ks_n ?_
    refine .cD rfl (fun h27 => ?_) (fun h27 => ?_)
    · skip
      obtain ⟨p, hp1⟩ : ∃ x_, (npR q.1)[i]? = some x_ := ⟨_, List.getElem?_eq_getElem (by omega)⟩
      have hpt := npR_pt (List.mem_of_getElem? hp1)
      refine ACode.skip ?_
      refine ks_n ?_
      refine ACode.seq ?_
      refine ACode.block ?_
      refine ACode.seq ?_
      refine ACode.region ?_
      refine .cons (.asg rfl rfl) ?_
      refine .nil ?_
      refine ks_n ?_
      refine ACode.block ?_
      refine .loopK (fun m σ => (∃ (j : Nat) (o3 : List Ins), m = q.2.length - j ∧ (j ≤ q.2.length) ∧ (o2 ++ rowI k j p = o3) ∧ (o3.length ≤ 480 * k + 4 * i + j) ∧ σ = [(.t 1, .v (.o (.c (.ptr (rG g))))), (.t 3, .v (.o (.c (.own 130 3 (o3.length))))), (.t 4, .v (.o (nat1 (k : Nat)))), (.t 5, .v (.o (vD (dPs (npR q.1))))), (.t 6, .v (.o (nat1 (i : Nat)))), (.t 7, .v (.o (nat1 (j : Nat)))), (.b 130, .b 67 3 (dR (o3.map rN))), (.u 130, .u)])) [(130, 120)] ⟨0, o2, rfl, by omega, by simp [rowI_zero], by omega, rfl⟩ ⟨ks rfl .dt, ks rfl (.c .ow), ks rfl .dt, ks rfl .dt, ks rfl .dt, ks rfl .dt, kb 120 rfl (.dt rfl (by first | rfl | (simp [dR, rN, dI]; done) | (simp [dR, rN, dI]; rfl))), trivial⟩ ?_
      rintro m σ ⟨j, o3, hm0, hj, hEp, ho3, rfl⟩
      refine ACode.seq ?_
      refine ACode.seq ?_
      refine ACode.region ?_
      refine .cons (.mv rfl rfl) ?_
      refine .cons (.fP 1 0 false rfl rfl) ?_
      refine .cons (.l1 1 rfl rfl) ?_
      refine .cons (.mv rfl rfl) ?_
      refine .cons (.xL 101 2 48 rfl rfl rfl rfl rfl) ?_
      refine .cons (.fP 1 0 false rfl rfl) ?_
      refine .cons (.l1 1 rfl rfl) ?_
      refine .cons (.ln 64 9 152 rfl rfl rfl) ?_
      refine .cons (.ls rfl rfl rfl) ?_
      refine .nil ?_
      refine ks_n ?_
      refine .cD rfl (fun h38 => ?_) (fun h38 => ?_)
      · skip
        refine ACode.skip ?_
        refine ks_n ?_
        refine ACode.seq ?_
        refine ACode.block ?_
        refine ACode.region ?_
        refine .cons (.mv rfl rfl) ?_
        refine .cons (.mv rfl rfl) ?_
        refine .cons (.mv rfl rfl) ?_
        refine .cons (St1.lit0 (k' := 144) (e := 3) (sz := 1) (b := true) rfl rfl rfl rfl (by kernel_rfl) rfl rfl) ?_
        refine .cons (.mv rfl rfl) ?_
        refine .cons (.mv rfl rfl) ?_
        refine .cons (.xL 38 1 24 rfl rfl rfl rfl rfl) ?_
        refine .cons (.l1 1 rfl rfl) ?_
        refine .cons (St1.appD (rows := []) (e := 3) (sz := 0) (by' := 8) rfl rfl rfl rfl rfl (by kernel_rfl) rfl rfl rfl rfl (by simp) (by simp; omega) rfl) ?_
        refine .cons (.bu [(0, .tmp 42), (1, .tmp 43), (2, .tmp 49)] [(0, 1), (1, 1), (2, 1)] [.int .i64 0, .int .i64 0, .slice none 0 0] rfl rfl rfl rfl rfl) ?_
        refine .cons (.li 67 2 0 [.tmp 50] rfl rfl rfl rfl rfl rfl) ?_
        refine .cons (St1.appB (k' := 152) (e := 67) (sz := 2) (by' := 40) rfl rfl rfl rfl rfl (by kernel_rfl) rfl rfl rfl rfl (by first | (simp [dR]; done) | (simp [dR]; omega)) (by first | (simp [dR]; done) | (simp [dR]; omega)) rfl rfl rfl) ?_
        refine .cons (.asg rfl rfl) ?_
        refine .nil ?_
        refine kb_n ?_
        refine ks_n ?_
        refine ACode.region ?_
        refine .cons (.mv rfl rfl) ?_
        refine .cons (.pl rfl rfl rfl) ?_
        refine .cons (.asg rfl rfl) ?_
        refine .nil ?_
        refine kl_k [(130, 152)] ⟨j + 1, o3 ++ [((k : Int), ((j : Nat) : Int), p)], rfl, by omega, by rw [rowI_snoc, ← List.append_assoc, hEp], by rw [List.length_append, List.length_singleton]; omega, rfl⟩ ⟨ks rfl .dt, ks rfl (.c .ow), ks rfl .dt, ks rfl .dt, ks rfl .dt, ks rfl .dt, kb 152 rfl (.dt rfl (by first | rfl | (simp [dR, rN, dI]; done) | (simp [dR, rN, dI]; rfl))), trivial⟩
      · skip
        obtain rfl : j = q.2.length := by omega
        refine ACode.exit ?_
        refine ks_e ?_
        refine kl_e ?_
        refine kb_hit ?_
        refine kb_n ?_
        refine ks_n ?_
        refine ACode.region ?_
        refine .cons (.mv rfl rfl) ?_
        refine .cons (.pl rfl rfl rfl) ?_
        refine .cons (.asg rfl rfl) ?_
        refine .nil ?_
        refine kl_k [(120, 130)] ⟨i + 1, o3, rfl, by omega, by rw [insT_take hp1, ← List.append_assoc, hEo]; exact hEp, by omega, rfl⟩ ⟨ks rfl .dt, ks rfl (.c .ow), ks rfl .dt, ks rfl .dt, ks rfl .dt, kb 130 rfl (.dt rfl (by first | rfl | (simp [dR, rN, dI]; done) | (simp [dR, rN, dI]; rfl))), trivial⟩
    · skip
      obtain rfl : i = (npR q.1).length := by omega
      rw [List.take_length] at hEo
      refine ACode.exit ?_
      refine ks_e ?_
      refine kl_e ?_
      refine kb_hit ?_
      refine kb_n ?_
      refine ks_n ?_
      refine ACode.region ?_
      refine .cons (.mv rfl rfl) ?_
      refine .cons (.pl rfl rfl rfl) ?_
      refine .cons (.asg rfl rfl) ?_
      refine .nil ?_
      refine kl_k [(110, 120)] ⟨k + 1, o2, rfl, by omega, by rw [insG_take hq1, hE]; exact hEo, by omega, rfl⟩ ⟨ks rfl .dt, ks rfl (.c .ow), ks rfl .dt, kb 120 rfl (.dt rfl (by first | rfl | (simp [dR, rN, dI]; done) | (simp [dR, rN, dI]; rfl))), trivial⟩
  · skip
    obtain rfl : k = g.2.length := by omega
    rw [List.take_length] at hE
    refine ACode.exit ?_
    refine ks_e ?_
    refine kl_e ?_
    refine kb_hit ?_
    refine ks_n ?_
    refine ACode.seq ?_
    refine ACode.region ?_
    refine .cons (.mv rfl rfl) ?_
    refine .cons (.asg rfl rfl) ?_
    refine .nil ?_
    refine ks_n ?_
    refine ACode.ret ?_
    refine kf_wret [(.t 2, .v (.o (vD (dNs (insG 0 g.2)))))] (Wk.keep [] rfl rfl ⟨ks rfl (.c (.fz rfl (by rw [hE]) (by rw [hE, List.length_map]) (by omega))), trivial⟩) rfl ?_ nobox
    rfl

end Go.Proofs.YtplekceinncepaaGreat

/- Statements of instances; condition: a valid program. -/
namespace Go.Proofs.YtplekceinncepaaGreat
set_option linter.unusedVariables false
set_option linter.unusedSimpArgs false
open Go.RowKit

/-- The statement of an instance. -/
def stI (g : Prg) (x : Ins) : Stm := match (g.2[x.1.toNat]?).bind fun q => q.2[x.2.1.toNat]? with | some s => s | none => ((ByteArray.empty, []), .mk 0 0 ([], 0) (ByteArray.empty, []) [])
theorem stI_eq {g : Prg} {x : Ins} {k c : Nat} {q : Prt} {s : Stm} (h1 : x.1 = (k : Int)) (hq : g.2[k]? = some q) (h2 : x.2.1 = (c : Int)) (hs : q.2[c]? = some s) : stI g x = s := by
  rw [stI, h1, h2, Int.toNat_natCast, Int.toNat_natCast, hq, Option.bind_some, hs]
structure InsOk (g : Prg) (x : Ins) (k c : Nat) (q : Prt) : Prop where
  e1 : x.1 = (k : Int)
  hq : g.2[k]? = some q
  e2 : x.2.1 = (c : Int)
  hs : q.2[c]? = some (stI g x)
  pt : x.2.2 ∈ npR q.1
  sv : stmtV (q.1.length : Nat) (stI g x) = true
  ok : stmG g.1 (stI g x) x.2.2 = true
  ip : isPt x.2.2 = true
  hk : k < g.2.length
  hc : c < q.2.length
theorem ins_at {g : Prg} {x : Ins} (hg : prgS g = true) (hx : x ∈ insG 0 g.2) : ∃ k c q, InsOk g x k c q := by
  obtain ⟨k, q, c, h1, h2, h3, h4, h5⟩ := insG_mem hx
  rw [Nat.zero_add] at h2
  obtain ⟨s, hs⟩ : ∃ s, q.2[c]? = some s := ⟨_, List.getElem?_eq_getElem h4⟩
  have e := stI_eq h2 h1 h3 hs
  have hp := prtV_iff.1 ((prgS_iff.1 hg).2.2 q (List.mem_of_getElem? h1))
  have hm := List.mem_of_getElem? hs
  exact ⟨k, c, q, h2, h1, h3, by rw [e]; exact hs, h5, by rw [e]; exact hp.2.2.1 s hm, by rw [e]; exact (hp.2.2.2 _ h5).2 s hm, (hp.2.2.2 _ h5).1, (List.getElem?_eq_some_iff.1 h1).1, h4⟩
theorem stI_sz {g : Prg} {x : Ins} {k c : Nat} {q : Prt} (h : InsOk g x k c q) : szS (stI g x) ≤ szG g := by
  have h1 := szO_mem (f := szS) (List.mem_of_getElem? h.hs)
  have h2 := szO_mem (f := szPt) (List.mem_of_getElem? h.hq)
  have e1 : szPt q = szLs q.1 + szO szS q.2 := rfl
  have e2 : szG g = szO szR g.1 + szO szPt g.2 := rfl
  omega

set_option maxRecDepth 100000 in
set_option maxHeartbeats 1600000 in
theorem stmt_fn {g : Prg} {x : Ins} {k c : Nat} {q : Prt} (h : InsOk g x k c q) : Fn Tryz.prog 29 [] [ad (rG g), ad (rN x)] (.o (ad (rS (stI g x)))) [] := by
  refine Fn.code0 Tryz.func29 rfl rfl rfl rfl ?_
  refine ACode.seq ?_
  refine ACode.region ?_
  refine .cons (St1.boxP rfl rfl rfl rfl rfl rfl) ?_
  refine .cons (St1.boxP rfl rfl rfl rfl rfl rfl) ?_
  refine .cons (.al 104 [.string ByteArray.empty, .slice none 0 0, .int .i64 0, .int .i64 0, .slice none 0 0, .int .i64 0, .string ByteArray.empty, .slice none 0 0, .slice none 0 0] rfl rfl rfl) ?_
  refine .nil ?_
  refine ks_n ?_
  refine ACode.seq ?_
  refine ACode.drawK (by kernel_rfl) (by kernel_rfl) ?_
  refine .cons (.fP 1 0 false rfl rfl) ?_
  refine .cons (.l1 1 rfl rfl) ?_
  refine .cons (.fP 0 0 false rfl rfl) ?_
  refine .cons (.l1 1 rfl rfl) ?_
  refine .cons (.xL 101 2 48 (i := k) rfl rfl rfl rfl h.e1 (map_at h.hq)) ?_
  refine .cons (.fP 1 0 false rfl rfl) ?_
  refine .cons (.l1 1 rfl rfl) ?_
  refine .cons (.fP 1 0 false rfl rfl) ?_
  refine .cons (.l1 1 rfl rfl) ?_
  refine .cons (.xL 64 9 152 (i := c) rfl rfl rfl rfl h.e2 (map_at h.hs)) ?_
  refine .cons (.lN 9 rfl rfl rfl) ?_
  refine .cons (.sT 9 true rfl rfl rfl rfl rfl rfl rfl) ?_
  refine .nil ⟨by kernel_rfl, ?_⟩
  refine ks_n ?_
  refine ACode.ret ?_
  refine kf_ret rfl ?_ nobox
  rfl

end Go.Proofs.YtplekceinncepaaGreat

/- Statements: simplification by the program; condition: small lists. -/
namespace Go.Proofs.YtplekceinncepaaGreat
set_option linter.unusedVariables false
set_option linter.unusedSimpArgs false
open Go.RowKit

end Go.Proofs.YtplekceinncepaaGreat

/- Statements: simplification; condition: small lists. -/
namespace Go.Proofs.YtplekceinncepaaGreat
set_option linter.unusedVariables false
set_option linter.unusedSimpArgs false
open Go.RowKit

theorem sEq_empty : sEq ByteArray.empty ByteArray.empty = true := sEq_iff.2 rfl
end Go.Proofs.YtplekceinncepaaGreat

/- Drawn affine expressions; condition: bytes. -/
namespace Go.Proofs.YtplekceinncepaaGreat
set_option linter.unusedVariables false
set_option linter.unusedSimpArgs false
open Go.RowKit

end Go.Proofs.YtplekceinncepaaGreat

/- Statements: draws; condition: bytes. -/
namespace Go.Proofs.YtplekceinncepaaGreat
set_option linter.unusedVariables false
set_option linter.unusedSimpArgs false
open Go.RowKit

def dSs (l : List ByteArray) : D := .list 1 (l.map fun s => [dS s])
end Go.Proofs.YtplekceinncepaaGreat

/- Reductions: groups; condition: memory holds the program. -/
namespace Go.Proofs.YtplekceinncepaaGreat
set_option linter.unusedVariables false
set_option linter.unusedSimpArgs false
open Go.RowKit

def nameI (g : Prg) (x : Ins) : ByteArray := if redV (stI g x) = true then (stI g x).1.1 else ByteArray.empty
def namesV (g : Prg) : List ByteArray := (insG 0 g.2).map (nameI g)
def groupV (g : Prg) (n : Int) : ByteArray × Bool := if prgV g = true ∧ 0 ≤ n then (match (insG 0 g.2)[n.toNat]? with | some x => if redV (stI g x) = true then ((stI g x).1.1, true) else (ByteArray.empty, false) | none => (ByteArray.empty, false)) else (ByteArray.empty, false)
theorem group_f1 {g : Prg} {n : Int} (h : prgV g = false) : groupV g n = (ByteArray.empty, false) := if_neg (by rw [h]; simp)
theorem group_f2 {g : Prg} {n : Int} (h : ¬ (0 ≤ n ∧ n < (insG 0 g.2).length)) : groupV g n = (ByteArray.empty, false) := by
  rw [groupV]
  split
  · rename_i h2
    rw [List.getElem?_eq_none (by omega)]
  · rfl
theorem group_x {g : Prg} {n : Nat} {x : Ins} (hv : prgV g = true) (hx : (insG 0 g.2)[n]? = some x) : groupV g (n : Int) = if redV (stI g x) = true then ((stI g x).1.1, true) else (ByteArray.empty, false) := by
  rw [groupV, if_pos ⟨hv, by omega⟩, Int.toNat_natCast, hx]
theorem arrV_ne {s : ByteArray} (h : arrV s = true) : sEq s ⟨#[]⟩ = false := by
  rw [Bool.eq_false_iff]
  intro h2
  rw [sEq_iff.1 h2] at h
  cases h
theorem name_ne {g : Prg} {x : Ins} {k c : Nat} {q : Prt} (h : InsOk g x k c q) : sEq (nameI g x) ⟨#[]⟩ = !redV (stI g x) := by
  rw [nameI]
  split
  · rename_i h2
    rw [h2]
    have := (stm_accs h.sv).1
    rw [accV, Bool.and_eq_true] at this
    exact arrV_ne this.1
  · rename_i h2
    rw [Bool.eq_false_iff.2 h2]
    exact sEq_empty
theorem names_at {g : Prg} {n : Nat} {x : Ins} (hx : (insG 0 g.2)[n]? = some x) : (namesV g)[n]? = some (nameI g x) := by rw [namesV, List.getElem?_map, hx]; rfl
theorem names_len {g : Prg} : (namesV g).length = (insG 0 g.2).length := List.length_map _
theorem insG_len {g : Prg} (h : prgS g = true) : (insG 0 g.2).length ≤ 1920 := by
  obtain ⟨_, h4, hP⟩ := prgS_iff.1 h
  have key : ∀ (l : List Prt) (n : Nat), (∀ q ∈ l, prtV g.1 q = true) → (insG n l).length ≤ 480 * l.length := by
    intro l
    induction l with
    | nil => intro n _; simp [insG]
    | cons q l ih =>
      intro n hq
      have h1 := (cntP_len (hq q (by simp)) n).2
      have h2 := ih (n + 1) fun q' h' => hq q' (by simp [h'])
      rw [insG, List.length_append, List.length_cons]; omega
  have := key g.2 0 hP
  omega

set_option maxRecDepth 100000 in
set_option maxHeartbeats 1600000 in
theorem implGroup_fn {g : Prg} (hs : szG g ≤ 1073741824) (n : Int) : Fn Tryz.prog 10 [] [ad (rG g), nat1 n] (.tup [st1 (groupV g n).1, bo1 (groupV g n).2]) [] := by
  refine Fn.code0 Tryz.func10 rfl rfl rfl rfl ?_
  refine ACode.seq ?_
  refine ACode.region ?_
  refine .cons (St1.boxP rfl rfl rfl rfl rfl rfl) ?_
  refine .cons (.asg rfl rfl) ?_
  refine .cons (.asg rfl rfl) ?_
  refine .nil ?_
  refine ks_n ?_
  refine ACode.seq ?_
  refine ACode.region ?_
  refine .cons (.lN 2 rfl rfl rfl) ?_
  refine .cons (.cP [.tmp 9] rfl rfl rfl rfl (instances_fn hs) rfl) ?_
  refine .cons (.mv rfl rfl) ?_
  refine .cons (.ex rfl rfl rfl) ?_
  refine .cons (.ex rfl rfl rfl) ?_
  refine .cons (.asg rfl rfl) ?_
  refine .cons (.asg rfl rfl) ?_
  refine .nil ?_
  refine ks_n ?_
  refine ACode.seq ?_
  refine ACode.seq ?_
  refine ACode.drawK (by kernel_rfl) (by kernel_rfl) ?_
  refine .cons (.mv rfl rfl) ?_
  refine .cons (.nt rfl rfl) ?_
  refine .cons (.mv rfl rfl) ?_
  refine RunK.cases 15 _ rfl (fun g15 => ?_) (fun g15 => ?_)
  · try simp only [List.length_map, decide_eq_true_eq, decide_eq_false_iff_not, Bool.not_eq_true', Bool.not_eq_false', Bool.not_eq_true, Bool.not_eq_false] at g15
    have hR := group_f1 (n := n) g15
    refine .cons (.gF rfl rfl rfl) ?_
    refine .cons (.gF rfl rfl rfl) ?_
    refine .cons (.gF rfl rfl rfl) ?_
    refine .cons (.gF rfl rfl rfl) ?_
    refine .cons (.gF rfl rfl rfl) ?_
    refine .cons (.gF rfl rfl rfl) ?_
    refine .cons (.pT rfl rfl rfl) ?_
    refine .cons (.mv rfl rfl) ?_
    refine .cons (.gF rfl rfl rfl) ?_
    refine .cons (.gF rfl rfl rfl) ?_
    refine .cons (.gF rfl rfl rfl) ?_
    refine .cons (.gF rfl rfl rfl) ?_
    refine .cons (.gF rfl rfl rfl) ?_
    refine .cons (.gF rfl rfl rfl) ?_
    refine .cons (.gF rfl rfl rfl) ?_
    refine .cons (.gF rfl rfl rfl) ?_
    refine .cons (.pT rfl rfl rfl) ?_
    refine .nil ⟨by kernel_rfl, ?_⟩
    refine ks_n ?_
    refine ACode.condT rfl (fun _ => ?_) (fun h => by first | (cases h; done) | (simp [*] at h; done) | (exfalso; simp_all; done))
    refine ACode.seq ?_
    refine ACode.region ?_
    refine .cons (.asg rfl rfl) ?_
    refine .cons (.asg rfl rfl) ?_
    refine .nil ?_
    refine ks_n ?_
    refine ACode.ret ?_
    refine ks_r ?_
    refine kf_wret [(.t 4, .v (.o (st1 (groupV g n).1))), (.t 5, .v (.o (bo1 (groupV g n).2)))] (Wk.keep [] rfl rfl ⟨ks rfl (.dt (by first | (rw [hR]; done) | (rw [hR]; rfl))), ks rfl (.dt (by first | (rw [hR]; done) | (rw [hR]; rfl))), trivial⟩) rfl ?_ nobox
    rfl
  · try simp only [List.length_map, decide_eq_true_eq, decide_eq_false_iff_not, Bool.not_eq_true', Bool.not_eq_false', Bool.not_eq_true, Bool.not_eq_false] at g15
    have hV : prgV g = true := by first | assumption | simp_all
    obtain ⟨hS, hN, hL⟩ := prgV_s hV
    rw [hN] at *
    refine .cons (.gT rfl rfl rfl (.mv rfl rfl)) ?_
    refine .cons (.gT rfl rfl rfl (.mv rfl rfl)) ?_
    refine .cons (.gT rfl rfl rfl (.ln 67 3 40 rfl rfl rfl)) ?_
    refine .cons (.gT rfl rfl rfl (.sb rfl rfl rfl)) ?_
    refine .cons (.gT rfl rfl rfl (.cP [.tmp 16, .const (.int .i64 (0)), .tmp 19] rfl rfl rfl rfl (within_fn _ 0 _) rfl)) ?_
    refine .cons (.gT rfl rfl rfl (.nt rfl rfl)) ?_
    refine .cons (.pF rfl rfl rfl) ?_
    refine .cons (.mv rfl rfl) ?_
    refine RunK.cases 23 _ rfl (fun g23 => ?_) (fun g23 => ?_)
    · try simp only [List.length_map, decide_eq_true_eq, decide_eq_false_iff_not, Bool.not_eq_true', Bool.not_eq_false', Bool.not_eq_true, Bool.not_eq_false] at g23
      have hR := group_f2 (g := g) (n := n) (fun h => by rw [inB, decide_eq_true (by omega)] at g23; cases g23)
      refine .cons (.gF rfl rfl rfl) ?_
      refine .cons (.gF rfl rfl rfl) ?_
      refine .cons (.gF rfl rfl rfl) ?_
      refine .cons (.gF rfl rfl rfl) ?_
      refine .cons (.gF rfl rfl rfl) ?_
      refine .cons (.gF rfl rfl rfl) ?_
      refine .cons (.gF rfl rfl rfl) ?_
      refine .cons (.gF rfl rfl rfl) ?_
      refine .cons (.pT rfl rfl rfl) ?_
      refine .nil ⟨by kernel_rfl, ?_⟩
      refine ks_n ?_
      refine ACode.condT rfl (fun _ => ?_) (fun h => by first | (cases h; done) | (simp [*] at h; done) | (exfalso; simp_all; done))
      refine ACode.seq ?_
      refine ACode.region ?_
      refine .cons (.asg rfl rfl) ?_
      refine .cons (.asg rfl rfl) ?_
      refine .nil ?_
      refine ks_n ?_
      refine ACode.ret ?_
      refine ks_r ?_
      refine kf_wret [(.t 4, .v (.o (st1 (groupV g n).1))), (.t 5, .v (.o (bo1 (groupV g n).2)))] (Wk.keep [] rfl rfl ⟨ks rfl (.dt (by first | (rw [hR]; done) | (rw [hR]; rfl))), ks rfl (.dt (by first | (rw [hR]; done) | (rw [hR]; rfl))), trivial⟩) rfl ?_ nobox
      rfl
    · try simp only [List.length_map, decide_eq_true_eq, decide_eq_false_iff_not, Bool.not_eq_true', Bool.not_eq_false', Bool.not_eq_true, Bool.not_eq_false] at g23
      have hin : 0 ≤ n ∧ n ≤ (insG 0 g.2).length - 1 := of_decide_eq_true (by first | assumption | simp_all)
      obtain ⟨m, hm⟩ : ∃ m : Nat, n = (m : Int) := ⟨n.toNat, by omega⟩
      obtain ⟨x, hx1⟩ : ∃ x_, (insG 0 g.2)[m]? = some x_ := ⟨_, List.getElem?_eq_getElem (by omega)⟩
      have hgx := group_x hV hx1
      obtain ⟨k, c, q, hI⟩ := ins_at hS (List.mem_of_getElem? hx1)
      have hsz := stI_sz hI
      have hv4 := stmtV_up hI.sv
      refine .cons (.gT rfl rfl rfl (.lN 2 rfl rfl rfl)) ?_
      refine .cons (.gT rfl rfl rfl (.mv rfl rfl)) ?_
      refine .cons (.gT rfl rfl rfl (.mv rfl rfl)) ?_
      refine .cons (.gT rfl rfl rfl (.xL 67 3 40 (i := m) rfl rfl rfl rfl hm (map_at hx1))) ?_
      refine .cons (.gT rfl rfl rfl (.lN 3 rfl rfl rfl)) ?_
      refine .cons (.gT rfl rfl rfl (.cP [.tmp 24, .tmp 28] rfl rfl rfl rfl (stmt_fn hI) rfl)) ?_
      refine .cons (.gT rfl rfl rfl (.cP [.tmp 29] rfl rfl rfl rfl (implRed_fn _ (by omega) hv4) rfl)) ?_
      refine .cons (.gT rfl rfl rfl (.nt rfl rfl)) ?_
      refine .cons (.pF rfl rfl rfl) ?_
      refine .nil ⟨by kernel_rfl, ?_⟩
      refine ks_n ?_
      refine ACode.condT rfl (fun h32 => ?_) (fun h32 => ?_)
      · try simp only [List.length_map, decide_eq_true_eq, decide_eq_false_iff_not, Bool.not_eq_true', Bool.not_eq_false', Bool.not_eq_true, Bool.not_eq_false] at h32
        have hR : groupV g n = (ByteArray.empty, false) := by rw [hm, hgx, if_neg (by rw [h32]; simp)]
        refine ACode.seq ?_
        refine ACode.region ?_
        refine .cons (.asg rfl rfl) ?_
        refine .cons (.asg rfl rfl) ?_
        refine .nil ?_
        refine ks_n ?_
        refine ACode.ret ?_
        refine ks_r ?_
        refine kf_wret [(.t 4, .v (.o (st1 (groupV g n).1))), (.t 5, .v (.o (bo1 (groupV g n).2)))] (Wk.keep [] rfl rfl ⟨ks rfl (.dt (by first | (rw [hR]; done) | (rw [hR]; rfl))), ks rfl (.dt (by first | (rw [hR]; done) | (rw [hR]; rfl))), trivial⟩) rfl ?_ nobox
        rfl
      · try simp only [List.length_map, decide_eq_true_eq, decide_eq_false_iff_not, Bool.not_eq_true', Bool.not_eq_false', Bool.not_eq_true, Bool.not_eq_false] at h32
        have hR : groupV g n = ((stI g x).1.1, true) := by rw [hm, hgx, if_pos h32]
        refine ACode.skip ?_
        refine ks_n ?_
        refine ACode.seq ?_
        refine ACode.drawK (by kernel_rfl) (by kernel_rfl) ?_
        refine .cons (.lN 2 rfl rfl rfl) ?_
        refine .cons (.mv rfl rfl) ?_
        refine .cons (.mv rfl rfl) ?_
        refine .cons (.xL 67 3 40 (i := m) rfl rfl rfl rfl hm (map_at hx1)) ?_
        refine .cons (.lN 3 rfl rfl rfl) ?_
        refine .cons (.cP [.tmp 33, .tmp 37] rfl rfl rfl rfl (stmt_fn hI) rfl) ?_
        refine .cons (.fN 0 2 rfl rfl) ?_
        refine .cons (.f1 0 1 rfl rfl rfl) ?_
        refine .cons (.asg rfl rfl) ?_
        refine .cons (.asg rfl rfl) ?_
        refine .nil ⟨by kernel_rfl, ?_⟩
        refine ks_n ?_
        refine ACode.ret ?_
        refine kf_wret [(.t 4, .v (.o (st1 (groupV g n).1))), (.t 5, .v (.o (bo1 (groupV g n).2)))] (Wk.keep [] rfl rfl ⟨ks rfl (.dt (by first | (rw [hR]; done) | (rw [hR]; rfl))), ks rfl (.dt (by first | (rw [hR]; done) | (rw [hR]; rfl))), trivial⟩) rfl ?_ nobox
        rfl

set_option maxRecDepth 100000 in
set_option maxHeartbeats 1600000 in
theorem l12Names_fn {g : Prg} (hs : szG g ≤ 1073741824) (hS : prgS g = true) : Fn Tryz.prog 23 [] [ad (rG g)] (.o (vD (dSs (namesV g)))) [] := by
  have hL := insG_len hS
  refine Fn.code0 Tryz.func23 rfl rfl rfl rfl ?_
  refine ACode.seq ?_
  refine ACode.region ?_
  refine .cons (St1.boxP rfl rfl rfl rfl rfl rfl) ?_
  refine .cons (.asg rfl rfl) ?_
  refine .nil ?_
  refine ks_n ?_
  refine ACode.seq ?_
  refine ACode.region ?_
  refine .cons (St1.lit0 (k' := 108) (e := 9) (sz := 1) (b := true) rfl rfl rfl rfl (by kernel_rfl) rfl rfl) ?_
  refine .cons (.asg rfl rfl) ?_
  refine .nil ?_
  refine ks_n ?_
  refine ACode.seq ?_
  refine ACode.region ?_
  refine .cons (.lN 2 rfl rfl rfl) ?_
  refine .cons (.cP [.tmp 9] rfl rfl rfl rfl (l4Instances_fn hS) rfl) ?_
  refine .cons (.asg rfl rfl) ?_
  refine .nil ?_
  refine ks_n ?_
  refine ACode.seq ?_
  refine ACode.seq ?_
  refine ACode.region ?_
  refine .cons (.asg rfl rfl) ?_
  refine .nil ?_
  refine ks_n ?_
  refine ACode.block ?_
  refine .loopK (fun m σ => (∃ i : Nat, m = (insG 0 g.2).length - i ∧ (i ≤ (insG 0 g.2).length) ∧ (True) ∧ σ = [(.t 1, .v (.o (.c (.ptr (rG g))))), (.t 3, .v (.o (.c (.own 110 1 (i))))), (.t 4, .v (.o (vD (dNs (insG 0 g.2))))), (.t 5, .v (.o (nat1 (i : Nat)))), (.b 110, .b 9 1 (dR (((insG 0 g.2).take i).map fun x => [dS (nameI g x)]))), (.u 110, .u)])) [(110, 108)] ⟨0, rfl, by omega, trivial, rfl⟩ ⟨ks rfl .dt, ks rfl (.c .ow), ks rfl .dt, ks rfl .dt, kb 108 rfl (.dt rfl (by first | exact dR_take (fun x : Ins => [dS (nameI g x)]) hx1 | exact dR_take1 (fun x : Ins => [dS (nameI g x)]) hx1 | rfl | (simp [dR]; done))), trivial⟩ ?_
  rintro m σ ⟨i, hm0, hi, hF, rfl⟩
  refine ACode.seq ?_
  refine ACode.seq ?_
  refine ACode.region ?_
  refine .cons (.mv rfl rfl) ?_
  refine .cons (.mv rfl rfl) ?_
  refine .cons (.ln 67 3 40 rfl rfl rfl) ?_
  refine .cons (.ls rfl rfl rfl) ?_
  refine .nil ?_
  refine ks_n ?_
  refine .cD rfl (fun h14 => ?_) (fun h14 => ?_)
  · skip
    obtain ⟨x, hx1⟩ : ∃ x_, (insG 0 g.2)[i]? = some x_ := ⟨_, List.getElem?_eq_getElem (by omega)⟩
    obtain ⟨k, c, q, hI⟩ := ins_at hS (List.mem_of_getElem? hx1)
    have hsz := stI_sz hI
    have hv4 := stmtV_up hI.sv
    refine ACode.skip ?_
    refine ks_n ?_
    refine ACode.seq ?_
    refine ACode.block ?_
    refine ACode.seq ?_
    refine ACode.drawK (by kernel_rfl) (by kernel_rfl) ?_
    refine .cons (.fP 1 0 false rfl rfl) ?_
    refine .cons (.l1 1 rfl rfl) ?_
    refine .cons (.mv rfl rfl) ?_
    refine .cons (.mv rfl rfl) ?_
    refine .cons (.xL 67 3 40 rfl rfl rfl rfl rfl) ?_
    refine .cons (.fP 0 0 false rfl rfl) ?_
    refine .cons (.l1 1 rfl rfl) ?_
    refine .cons (.xL 101 2 48 (i := k) rfl rfl rfl rfl hI.e1 (map_at hI.hq)) ?_
    refine .cons (.fP 1 0 false rfl rfl) ?_
    refine .cons (.l1 1 rfl rfl) ?_
    refine .cons (.mv rfl rfl) ?_
    refine .cons (.mv rfl rfl) ?_
    refine .cons (.xL 67 3 40 rfl rfl rfl rfl rfl) ?_
    refine .cons (.fP 1 0 false rfl rfl) ?_
    refine .cons (.l1 1 rfl rfl) ?_
    refine .cons (.xL 64 9 152 (i := c) rfl rfl rfl rfl hI.e2 (map_at hI.hs)) ?_
    refine .cons (.lN 9 rfl rfl rfl) ?_
    refine .cons (.al 106 [.string ByteArray.empty, .slice none 0 0, .int .i64 0, .int .i64 0, .slice none 0 0, .int .i64 0, .string ByteArray.empty, .slice none 0 0, .slice none 0 0] rfl rfl rfl) ?_
    refine .cons (.sT 9 true rfl rfl rfl rfl rfl rfl rfl) ?_
    refine .nil ⟨by kernel_rfl, ?_⟩
    refine ks_n ?_
    refine ACode.seq ?_
    refine ACode.region ?_
    refine .cons (.asg rfl rfl) ?_
    refine .nil ?_
    refine ks_n ?_
    refine ACode.seq ?_
    refine ACode.seq ?_
    refine ACode.region ?_
    refine .cons (.bN 9 rfl rfl rfl rfl rfl rfl) ?_
    refine .cons (.cP [.tmp 34] rfl rfl rfl rfl (l12Is_fn _ (by omega) hv4) rfl) ?_
    refine .nil ?_
    refine ks_n ?_
    refine ACode.condT rfl (fun h35 => ?_) (fun h35 => ?_)
    · try simp only [List.length_map, decide_eq_true_eq, decide_eq_false_iff_not, Bool.not_eq_true', Bool.not_eq_false', Bool.not_eq_true, Bool.not_eq_false] at h35
      have hnm : nameI g x = (stI g x).1.1 := if_pos h35
      refine ACode.region ?_
      refine .cons (.fB 0 1 true rfl rfl rfl) ?_
      refine .cons (.fB 0 0 false rfl rfl rfl) ?_
      refine .cons (.b1 1 rfl rfl rfl rfl rfl rfl) ?_
      refine .cons (.asg rfl rfl) ?_
      refine .nil ?_
      refine ks_n ?_
      refine .keep [(.t 1, .v (.o (.c (.ptr (rG g))))), (.t 3, .v (.o (.c (.own 800 1 (i))))), (.t 4, .v (.o (vD (dNs (insG 0 g.2))))), (.t 5, .v (.o (nat1 (i : Nat)))), (.t 7, .v (.o (st1 (nameI g x)))), (.b 800, .b 9 1 (dR (((insG 0 g.2).take i).map fun x => [dS (nameI g x)]))), (.u 800, .u)] [(800, 110)] ⟨ks rfl .dt, ks rfl (.c .ow), ks rfl .dt, ks rfl .dt, ks rfl (.dt (by first | (rw [hnm]; done) | (rw [hnm]; rfl))), kb 110 rfl (.dt rfl (by first | exact dR_take (fun x : Ins => [dS (nameI g x)]) hx1 | exact dR_take1 (fun x : Ins => [dS (nameI g x)]) hx1 | rfl | (simp [dR]; done))), trivial⟩ ?_
      refine ACode.region ?_
      refine .cons (.mv rfl rfl) ?_
      refine .cons (.mv rfl rfl) ?_
      refine .cons (.li 9 0 0 [.tmp 40] rfl rfl rfl rfl rfl rfl) ?_
      refine .cons (St1.appB (k' := 142) (e := 9) (sz := 0) (by' := 16) rfl rfl rfl rfl rfl (by kernel_rfl) rfl rfl rfl rfl (by first | (simp [dR]; done) | (simp [dR]; omega)) (by first | (simp [dR]; done) | (simp [dR]; omega)) rfl rfl rfl) ?_
      refine .cons (.asg rfl rfl) ?_
      refine .nil ?_
      refine kb_n ?_
      refine ks_n ?_
      refine ACode.region ?_
      refine .cons (.mv rfl rfl) ?_
      refine .cons (.pl rfl rfl rfl) ?_
      refine .cons (.asg rfl rfl) ?_
      refine .nil ?_
      refine kl_k [(110, 142)] ⟨i + 1, rfl, by omega, trivial, rfl⟩ ⟨ks rfl .dt, ks rfl (.c .ow), ks rfl .dt, ks rfl .dt, kb 142 rfl (.dt rfl (by first | exact dR_take (fun x : Ins => [dS (nameI g x)]) hx1 | exact dR_take1 (fun x : Ins => [dS (nameI g x)]) hx1 | rfl | (simp [dR]; done))), trivial⟩
    · try simp only [List.length_map, decide_eq_true_eq, decide_eq_false_iff_not, Bool.not_eq_true', Bool.not_eq_false', Bool.not_eq_true, Bool.not_eq_false] at h35
      have hnm : nameI g x = ByteArray.empty := if_neg (by rw [h35]; simp)
      refine ACode.skip ?_
      refine ks_n ?_
      refine .keep [(.t 1, .v (.o (.c (.ptr (rG g))))), (.t 3, .v (.o (.c (.own 800 1 (i))))), (.t 4, .v (.o (vD (dNs (insG 0 g.2))))), (.t 5, .v (.o (nat1 (i : Nat)))), (.t 7, .v (.o (st1 (nameI g x)))), (.b 800, .b 9 1 (dR (((insG 0 g.2).take i).map fun x => [dS (nameI g x)]))), (.u 800, .u)] [(800, 110)] ⟨ks rfl .dt, ks rfl (.c .ow), ks rfl .dt, ks rfl .dt, ks rfl (.dt (by first | (rw [hnm]; done) | (rw [hnm]; rfl))), kb 110 rfl (.dt rfl (by first | exact dR_take (fun x : Ins => [dS (nameI g x)]) hx1 | exact dR_take1 (fun x : Ins => [dS (nameI g x)]) hx1 | rfl | (simp [dR]; done))), trivial⟩ ?_
      refine ACode.region ?_
      refine .cons (.mv rfl rfl) ?_
      refine .cons (.mv rfl rfl) ?_
      refine .cons (.li 9 0 0 [.tmp 40] rfl rfl rfl rfl rfl rfl) ?_
      refine .cons (St1.appB (k' := 142) (e := 9) (sz := 0) (by' := 16) rfl rfl rfl rfl rfl (by kernel_rfl) rfl rfl rfl rfl (by first | (simp [dR]; done) | (simp [dR]; omega)) (by first | (simp [dR]; done) | (simp [dR]; omega)) rfl rfl rfl) ?_
      refine .cons (.asg rfl rfl) ?_
      refine .nil ?_
      refine kb_n ?_
      refine ks_n ?_
      refine ACode.region ?_
      refine .cons (.mv rfl rfl) ?_
      refine .cons (.pl rfl rfl rfl) ?_
      refine .cons (.asg rfl rfl) ?_
      refine .nil ?_
      refine kl_k [(110, 142)] ⟨i + 1, rfl, by omega, trivial, rfl⟩ ⟨ks rfl .dt, ks rfl (.c .ow), ks rfl .dt, ks rfl .dt, kb 142 rfl (.dt rfl (by first | exact dR_take (fun x : Ins => [dS (nameI g x)]) hx1 | exact dR_take1 (fun x : Ins => [dS (nameI g x)]) hx1 | rfl | (simp [dR]; done))), trivial⟩
  · skip
    obtain rfl : i = (insG 0 g.2).length := by omega
    refine ACode.exit ?_
    refine ks_e ?_
    refine kl_e ?_
    refine kb_hit ?_
    refine ks_n ?_
    refine ACode.seq ?_
    refine ACode.region ?_
    refine .cons (.mv rfl rfl) ?_
    refine .cons (.asg rfl rfl) ?_
    refine .nil ?_
    refine ks_n ?_
    refine ACode.ret ?_
    refine kf_wret [(.t 2, .v (.o (vD (dSs (namesV g)))))] (Wk.keep [] rfl rfl ⟨ks rfl (.c (.fz rfl (by rw [List.take_length, namesV, List.map_map]; rfl) (by simp [names_len]) (by omega))), trivial⟩) rfl ?_ nobox
    rfl

set_option maxRecDepth 100000 in
set_option maxHeartbeats 1600000 in
theorem specGroup_fn {g : Prg} (hs : szG g ≤ 1073741824) (n : Int) : Fn Tryz.prog 8 [] [ad (rG g), nat1 n] (.tup [st1 (groupV g n).1, bo1 (groupV g n).2]) [] := by
  refine Fn.code0 Tryz.func8 rfl rfl rfl rfl ?_
  refine ACode.seq ?_
  refine ACode.region ?_
  refine .cons (St1.boxP rfl rfl rfl rfl rfl rfl) ?_
  refine .cons (.asg rfl rfl) ?_
  refine .cons (.asg rfl rfl) ?_
  refine .nil ?_
  refine ks_n ?_
  refine ACode.seq ?_
  refine ACode.seq ?_
  refine ACode.region ?_
  refine .cons (.lN 2 rfl rfl rfl) ?_
  refine .cons (.cP [.tmp 7] rfl rfl rfl rfl (specPV_fn hs) rfl) ?_
  refine .cons (.nt rfl rfl) ?_
  refine .nil ?_
  refine ks_n ?_
  refine ACode.condT rfl (fun h9 => ?_) (fun h9 => ?_)
  · try simp only [List.length_map, decide_eq_true_eq, decide_eq_false_iff_not, Bool.not_eq_true', Bool.not_eq_false', Bool.not_eq_true, Bool.not_eq_false] at h9
    have hR := group_f1 (n := n) h9
    refine ACode.seq ?_
    refine ACode.region ?_
    refine .cons (.asg rfl rfl) ?_
    refine .cons (.asg rfl rfl) ?_
    refine .nil ?_
    refine ks_n ?_
    refine ACode.ret ?_
    refine ks_r ?_
    refine kf_wret [(.t 4, .v (.o (st1 (groupV g n).1))), (.t 5, .v (.o (bo1 (groupV g n).2)))] (Wk.keep [] rfl rfl ⟨ks rfl (.dt (by first | (rw [hR]; done) | (rw [hR]; rfl))), ks rfl (.dt (by first | (rw [hR]; done) | (rw [hR]; rfl))), trivial⟩) rfl ?_ nobox
    rfl
  · try simp only [List.length_map, decide_eq_true_eq, decide_eq_false_iff_not, Bool.not_eq_true', Bool.not_eq_false', Bool.not_eq_true, Bool.not_eq_false] at h9
    have hV : prgV g = true := by first | assumption | simp_all
    obtain ⟨hS, hN, hL⟩ := prgV_s hV
    have hnl := names_len (g := g)
    refine ACode.skip ?_
    refine ks_n ?_
    refine ACode.seq ?_
    refine ACode.region ?_
    refine .cons (.lN 2 rfl rfl rfl) ?_
    refine .cons (.cP [.tmp 10] rfl rfl rfl rfl (l12Names_fn hs (prgV_s hV).1) rfl) ?_
    refine .cons (.asg rfl rfl) ?_
    refine .nil ?_
    refine ks_n ?_
    refine ACode.seq ?_
    refine ACode.seq ?_
    refine ACode.region ?_
    refine .cons (.mv rfl rfl) ?_
    refine .cons (.ls rfl rfl rfl) ?_
    refine .cons (.mv rfl rfl) ?_
    refine .cD 14 rfl (fun g14 => ?_) (fun g14 => ?_)
    · skip
      have hR := group_f2 (g := g) (n := n) (by omega)
      refine .cons (.gF rfl rfl rfl) ?_
      refine .cons (.gF rfl rfl rfl) ?_
      refine .cons (.gF rfl rfl rfl) ?_
      refine .cons (.gF rfl rfl rfl) ?_
      refine .cons (.pT rfl rfl rfl) ?_
      refine .cons (.mv rfl rfl) ?_
      refine .cons (.gF rfl rfl rfl) ?_
      refine .cons (.gF rfl rfl rfl) ?_
      refine .cons (.gF rfl rfl rfl) ?_
      refine .cons (.gF rfl rfl rfl) ?_
      refine .cons (.gF rfl rfl rfl) ?_
      refine .cons (.pT rfl rfl rfl) ?_
      refine .nil ?_
      refine ks_n ?_
      refine ACode.condT rfl (fun _ => ?_) (fun h => by first | (cases h; done) | (simp [*] at h; done) | (exfalso; simp_all; done))
      refine ACode.seq ?_
      refine ACode.region ?_
      refine .cons (.asg rfl rfl) ?_
      refine .cons (.asg rfl rfl) ?_
      refine .nil ?_
      refine ks_n ?_
      refine ACode.ret ?_
      refine ks_r ?_
      refine kf_wret [(.t 4, .v (.o (st1 (groupV g n).1))), (.t 5, .v (.o (bo1 (groupV g n).2)))] (Wk.keep [] rfl rfl ⟨ks rfl (.dt (by first | (rw [hR]; done) | (rw [hR]; rfl))), ks rfl (.dt (by first | (rw [hR]; done) | (rw [hR]; rfl))), trivial⟩) rfl ?_ nobox
      rfl
    · skip
      refine .cons (.gT rfl rfl rfl (.mv rfl rfl)) ?_
      refine .cons (.gT rfl rfl rfl (.mv rfl rfl)) ?_
      refine .cons (.gT rfl rfl rfl (.ln 9 1 16 rfl rfl rfl)) ?_
      refine .cons (.gT rfl rfl rfl (.ge rfl rfl rfl)) ?_
      refine .cons (.pF rfl rfl rfl) ?_
      refine .cons (.mv rfl rfl) ?_
      refine AOps.cases 20 _ rfl (fun g20 => ?_) (fun g20 => ?_)
      · try simp only [List.length_map, decide_eq_true_eq, decide_eq_false_iff_not, Bool.not_eq_true', Bool.not_eq_false', Bool.not_eq_true, Bool.not_eq_false] at g20
        have hR := group_f2 (g := g) (n := n) (by omega)
        refine .cons (.gF rfl rfl rfl) ?_
        refine .cons (.gF rfl rfl rfl) ?_
        refine .cons (.gF rfl rfl rfl) ?_
        refine .cons (.gF rfl rfl rfl) ?_
        refine .cons (.gF rfl rfl rfl) ?_
        refine .cons (.pT rfl rfl rfl) ?_
        refine .nil ?_
        refine ks_n ?_
        refine ACode.condT rfl (fun _ => ?_) (fun h => by first | (cases h; done) | (simp [*] at h; done) | (exfalso; simp_all; done))
        refine ACode.seq ?_
        refine ACode.region ?_
        refine .cons (.asg rfl rfl) ?_
        refine .cons (.asg rfl rfl) ?_
        refine .nil ?_
        refine ks_n ?_
        refine ACode.ret ?_
        refine ks_r ?_
        refine kf_wret [(.t 4, .v (.o (st1 (groupV g n).1))), (.t 5, .v (.o (bo1 (groupV g n).2)))] (Wk.keep [] rfl rfl ⟨ks rfl (.dt (by first | (rw [hR]; done) | (rw [hR]; rfl))), ks rfl (.dt (by first | (rw [hR]; done) | (rw [hR]; rfl))), trivial⟩) rfl ?_ nobox
        rfl
      · try simp only [List.length_map, decide_eq_true_eq, decide_eq_false_iff_not, Bool.not_eq_true', Bool.not_eq_false', Bool.not_eq_true, Bool.not_eq_false] at g20
        obtain ⟨m, hm⟩ : ∃ m : Nat, n = (m : Int) := ⟨n.toNat, by omega⟩
        obtain ⟨x, hx1⟩ : ∃ x_, (insG 0 g.2)[m]? = some x_ := ⟨_, List.getElem?_eq_getElem (by omega)⟩
        have hgx := group_x hV hx1
        obtain ⟨k, c, q, hI⟩ := ins_at hS (List.mem_of_getElem? hx1)
        have hsz := stI_sz hI
        have hv4 := stmtV_up hI.sv
        have hne := name_ne hI
        refine .cons (.gT rfl rfl rfl (.mv rfl rfl)) ?_
        refine .cons (.gT rfl rfl rfl (.mv rfl rfl)) ?_
        refine .cons (.gT rfl rfl rfl (.xL 9 1 16 (i := m) rfl rfl rfl rfl hm (map_at (names_at hx1)))) ?_
        refine .cons (.gT rfl rfl rfl (.l1 1 rfl rfl)) ?_
        refine .cons (.gT rfl rfl rfl (St1.eqS rfl rfl rfl)) ?_
        refine .cons (.pF rfl rfl rfl) ?_
        refine .nil ?_
        refine ks_n ?_
        refine ACode.condT rfl (fun h26 => ?_) (fun h26 => ?_)
        · try simp only [List.length_map, decide_eq_true_eq, decide_eq_false_iff_not, Bool.not_eq_true', Bool.not_eq_false', Bool.not_eq_true, Bool.not_eq_false] at h26
          have hR : groupV g n = (ByteArray.empty, false) := by rw [hm, hgx, if_neg (by simp_all)]
          refine ACode.seq ?_
          refine ACode.region ?_
          refine .cons (.asg rfl rfl) ?_
          refine .cons (.asg rfl rfl) ?_
          refine .nil ?_
          refine ks_n ?_
          refine ACode.ret ?_
          refine ks_r ?_
          refine kf_wret [(.t 4, .v (.o (st1 (groupV g n).1))), (.t 5, .v (.o (bo1 (groupV g n).2)))] (Wk.keep [] rfl rfl ⟨ks rfl (.dt (by first | (rw [hR]; done) | (rw [hR]; rfl))), ks rfl (.dt (by first | (rw [hR]; done) | (rw [hR]; rfl))), trivial⟩) rfl ?_ nobox
          rfl
        · try simp only [List.length_map, decide_eq_true_eq, decide_eq_false_iff_not, Bool.not_eq_true', Bool.not_eq_false', Bool.not_eq_true, Bool.not_eq_false] at h26
          have hrd : redV (stI g x) = true := by simp_all
          have hR : groupV g n = (nameI g x, true) := by rw [hm, hgx, if_pos hrd, nameI, if_pos hrd]
          refine ACode.skip ?_
          refine ks_n ?_
          refine ACode.seq ?_
          refine ACode.region ?_
          refine .cons (.mv rfl rfl) ?_
          refine .cons (.mv rfl rfl) ?_
          refine .cons (.xL 9 1 16 (i := m) rfl rfl rfl rfl hm (map_at (names_at hx1))) ?_
          refine .cons (.l1 1 rfl rfl) ?_
          refine .cons (.asg rfl rfl) ?_
          refine .cons (.asg rfl rfl) ?_
          refine .nil ?_
          refine ks_n ?_
          refine ACode.ret ?_
          refine kf_wret [(.t 4, .v (.o (st1 (groupV g n).1))), (.t 5, .v (.o (bo1 (groupV g n).2)))] (Wk.keep [] rfl rfl ⟨ks rfl (.dt (by first | (rw [hR]; done) | (rw [hR]; rfl))), ks rfl (.dt (by first | (rw [hR]; done) | (rw [hR]; rfl))), trivial⟩) rfl ?_ nobox
          rfl

end Go.Proofs.YtplekceinncepaaGreat

/- Exact law of groups of reductions; condition: nothing is too long for memory. -/
namespace Go.Proofs.YtplekceinncepaaGreat
set_option linter.unusedVariables false
set_option linter.unusedSimpArgs false
open Go.RowKit

set_option maxRecDepth 100000 in
set_option maxHeartbeats 1600000 in
theorem lawExGroup {g : Prg} (ho : okPrg g) (n : Int) : Fn Tryz.prog 3 [] [ad (rG g), nat1 n] (.o (bo1 true)) [] := by
  refine Fn.code0 Tryz.func3 rfl rfl rfl rfl ?_
  refine ACode.seq ?_
  refine ACode.region ?_
  refine .cons (St1.boxP rfl rfl rfl rfl rfl rfl) ?_
  refine .cons (.asg rfl rfl) ?_
  refine .nil ?_
  refine ks_n ?_
  refine ACode.seq ?_
  refine ACode.region ?_
  refine .cons (.asg rfl rfl) ?_
  refine .nil ?_
  refine ks_n ?_
  refine ACode.seq ?_
  refine ACode.region ?_
  refine .cons (.lN 2 rfl rfl rfl) ?_
  refine .cons (.mv rfl rfl) ?_
  refine .cons (.cP [.tmp 11, .tmp 12] rfl rfl rfl rfl (szPrg_fn (l := 1048576) (by omega) ho) rfl) ?_
  refine .cons (.asg rfl rfl) ?_
  refine .nil ?_
  refine ks_n ?_
  refine ACode.seq ?_
  refine ACode.seq ?_
  refine ACode.region ?_
  refine .cons (.mv rfl rfl) ?_
  refine .cons (.ls rfl rfl rfl) ?_
  refine .nil ?_
  refine ks_n ?_
  refine .cD rfl (fun h15 => ?_) (fun h15 => ?_)
  · skip
    refine ACode.seq ?_
    refine ACode.region ?_
    refine .cons (.asg rfl rfl) ?_
    refine .nil ?_
    refine ks_n ?_
    refine ACode.ret ?_
    refine ks_r ?_
    refine kf_ret rfl ?_ nobox
    rfl
  · skip
    have hP := subZ_pos h15
    have hs : szG g ≤ 1048576 := by omega
    refine ACode.skip ?_
    refine ks_n ?_
    refine ACode.seq ?_
    refine ACode.region ?_
    refine .cons (.lN 2 rfl rfl rfl) ?_
    refine .cons (.cP [.tmp 17] rfl rfl rfl rfl (toPrg_fn (by omega)) rfl) ?_
    refine .cons (.mv rfl rfl) ?_
    refine .cons (.cP [.tmp 18, .tmp 19] rfl rfl rfl rfl (specGroup_fn (by omega) n) rfl) ?_
    refine .cons (.mv rfl rfl) ?_
    refine .cons (.ex rfl rfl rfl) ?_
    refine .cons (.ex rfl rfl rfl) ?_
    refine .cons (.asg rfl rfl) ?_
    refine .cons (.asg rfl rfl) ?_
    refine .nil ?_
    refine ks_n ?_
    refine ACode.seq ?_
    refine ACode.region ?_
    refine .cons (.lN 2 rfl rfl rfl) ?_
    refine .cons (.cP [.tmp 23] rfl rfl rfl rfl (toPrg_fn (by omega)) rfl) ?_
    refine .cons (.al 108 [.slice none 0 0, .slice none 0 0] rfl rfl rfl) ?_
    refine .cons (.sT 2 true rfl rfl rfl rfl rfl rfl rfl) ?_
    refine .nil ?_
    refine ks_n ?_
    refine ACode.seq ?_
    refine ACode.region ?_
    refine .cons (.bN 2 rfl rfl rfl rfl rfl rfl) ?_
    refine .cons (.mv rfl rfl) ?_
    refine .cons (.cP [.tmp 26, .tmp 27] rfl rfl rfl rfl (implGroup_fn (by omega) n) rfl) ?_
    refine .cons (.mv rfl rfl) ?_
    refine .cons (.ex rfl rfl rfl) ?_
    refine .cons (.ex rfl rfl rfl) ?_
    refine .cons (.asg rfl rfl) ?_
    refine .cons (.asg rfl rfl) ?_
    refine .nil ?_
    refine ks_n ?_
    refine ACode.seq ?_
    refine ACode.seq ?_
    refine ACode.region ?_
    refine .cons (.mv rfl rfl) ?_
    refine .cons (.mv rfl rfl) ?_
    refine .cons (St1.neS rfl rfl rfl) ?_
    refine .cons (.mv rfl rfl) ?_
    refine AOps.cases 34 _ rfl (fun g34 => ?_) (fun g34 => ?_)
    · try simp only [List.length_map, decide_eq_true_eq, decide_eq_false_iff_not, Bool.not_eq_true', Bool.not_eq_false', Bool.not_eq_true, Bool.not_eq_false] at g34
      exfalso; simp_all [sEq_dec]
    · try simp only [List.length_map, decide_eq_true_eq, decide_eq_false_iff_not, Bool.not_eq_true', Bool.not_eq_false', Bool.not_eq_true, Bool.not_eq_false] at g34
      refine .cons (.gT rfl rfl rfl (.mv rfl rfl)) ?_
      refine .cons (.gT rfl rfl rfl (.mv rfl rfl)) ?_
      refine .cons (.gT rfl rfl rfl (St1.neqB rfl rfl rfl rfl (by kernel_rfl) rfl rfl)) ?_
      refine .cons (.pF rfl rfl rfl) ?_
      refine .nil ?_
      refine ks_n ?_
      refine ACode.condT rfl (fun h38 => ?_) (fun h38 => ?_)
      · try simp only [List.length_map, decide_eq_true_eq, decide_eq_false_iff_not, Bool.not_eq_true', Bool.not_eq_false', Bool.not_eq_true, Bool.not_eq_false] at h38
        exfalso; simp_all
      · try simp only [List.length_map, decide_eq_true_eq, decide_eq_false_iff_not, Bool.not_eq_true', Bool.not_eq_false', Bool.not_eq_true, Bool.not_eq_false] at h38
        refine ACode.skip ?_
        refine ks_n ?_
        refine ACode.seq ?_
        refine ACode.seq ?_
        refine ACode.drawK (by kernel_rfl) (by kernel_rfl) ?_
        refine .cons (.bN 2 rfl rfl rfl rfl rfl rfl) ?_
        refine .cons (.lN 2 rfl rfl rfl) ?_
        refine .cons (.cP [.tmp 40] rfl rfl rfl rfl (toPrg_fn (by omega)) rfl) ?_
        refine .cons (.cP [.tmp 39, .tmp 41] rfl rfl rfl rfl (eqPrg_fn _ _ (by omega)) rfl) ?_
        refine .cons (.nt rfl rfl) ?_
        refine .nil ⟨by kernel_rfl, ?_⟩
        refine ks_n ?_
        refine ACode.condT rfl (fun h43 => ?_) (fun h43 => ?_)
        · try simp only [List.length_map, decide_eq_true_eq, decide_eq_false_iff_not, Bool.not_eq_true', Bool.not_eq_false', Bool.not_eq_true, Bool.not_eq_false] at h43
          exact absurd (h43.symm.trans (sameG_refl g)) (by decide)
        · try simp only [List.length_map, decide_eq_true_eq, decide_eq_false_iff_not, Bool.not_eq_true', Bool.not_eq_false', Bool.not_eq_true, Bool.not_eq_false] at h43
          refine ACode.skip ?_
          refine ks_n ?_
          refine ACode.seq ?_
          refine ACode.region ?_
          refine .cons (.asg rfl rfl) ?_
          refine .nil ?_
          refine ks_n ?_
          refine ACode.ret ?_
          refine kf_ret rfl ?_ nobox
          rfl

end Go.Proofs.YtplekceinncepaaGreat

/- Arguments as a law takes them; conditions: that they read, and the reach. -/
namespace Go.Proofs.YtplekceinncepaaGreat
set_option linter.unusedVariables false
set_option linter.unusedSimpArgs false
open Go.ChangeShapes Go.WideShapes Go.ChangeAt Go.RowKit

section
variable {H : Type} {enc : TypeId × Value → H} {P : Program} {w : World} {spare : Nat → Bool} {held : Bool} {t : TypeId} {α : Type} {f : α → List D} {ok : α → Prop} {v : Value} {dd : DataW H} {ps : List MemPlace}
theorem op_agg (hop : ∀ n, OpF enc P w spare held n t f ok) (h : DataW.Trod enc P w 0 spare held t v dd ps) (hw : ∀ m ∈ dd.weights P t, m ≤ reachBytes) (hv : ∃ cs, v = .agg cs) : ∃ a, ok a ∧ V1r (fun _ => (0, 0)) (Al (lk [])) (fun b => b < w.heap.size) w (ad (f a)) v := by
  obtain ⟨fuel, hf⟩ := h
  obtain ⟨cs, rfl⟩ := hv
  obtain ⟨a, h1, h2, h3⟩ := hop fuel fuel (Nat.le_refl _) _ _ hf hw
  refine ⟨a, h1, cs.toList, by simp, by rw [List.length_map]; exact h2, fun i c u hc hu => ?_⟩
  rw [List.getElem?_map] at hc
  cases hq : (f a)[i]? with
  | none => rw [hq] at hc; cases hc
  | some d => rw [hq] at hc; cases hc; exact h3 i d u hq hu
theorem okWide_agg {r : Reach} {b0 : Nat} {fs : Array Field} (ht : P.underlying t = some (.struct fs)) (h : Value.okWide P w r b0 t v) : ∃ cs, v = .agg cs := by
  unfold Value.okWide at h
  rw [ht] at h
  obtain ⟨cs, e, _⟩ := h
  exact ⟨cs, e⟩
theorem vals1_mk {R : V1 → Value → Prop} {x : V1} {u : Value} (h : R x u) : Vals R [x] [u] := ⟨rfl, fun i y v hy hv => by
  match i, hy, hv with
  | 0, hy, hv => cases hy; cases hv; exact h⟩
theorem vals2_mk {R : V1 → Value → Prop} {x y : V1} {u v : Value} (h : R x u) (h2 : R y v) : Vals R [x, y] [u, v] := .cons h (vals1_mk h2)
end
end Go.Proofs.YtplekceinncepaaGreat
